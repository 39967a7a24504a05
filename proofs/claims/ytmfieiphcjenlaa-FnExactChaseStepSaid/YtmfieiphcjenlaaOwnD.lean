/-
  Own calculus, part D: what each operation does to an abstract state (functions), the weakest precondition 'wpc' over them, and the order of a region. Conditions: none (definitions).
-/
import Derived.Test.YtmfieiphcjenlaaOwnC
namespace Go.Own
open Go
set_option linter.unusedVariables false
set_option linter.unusedSimpArgs false

inductive TyD where
  | slice (e : TypeId)
  | struct (fs : List (Nat × TypeId))
  | int (k : IntKind)
  | bool
  | str
  | other
  deriving Inhabited

structure TyI where
  size : Nat
  bytes : Nat
  agg : Bool
  eq : Bool
  d : TyD
  zero : List Value
  deriving Inhabited

/-- What a callee is handed. -/
inductive Arg where
  | one (d : D)
  | agg (ds : List D)
  | ptr (ds : List D)
  | arr (s : Nat) (l : List (List D)) (deep : Nat)
  | box (ds : List D)
  | mag (cs : List (D ⊕ (Nat × List (List D) × Nat)))
  | fnc (f : FuncId) (caps : List (List D))
  deriving Inhabited

inductive RC where
  | d (x : D)
  | own (s : Nat) (l : List (List D)) (deep : Nat)
  deriving Inhabited

structure RV where
  agg : Bool
  cs : List RC
  deriving Inhabited

structure Contract where
  muts : List Bool
  alias : Bool
  run : List Arg → Option (Prop × List RV × List Arg)

structure Tabs where
  ty : TypeId → Option TyI
  ct : FuncId → Option Contract
  wr : Bool
  im : Nat → Bool
  nm : Bool
  bx : Nat → Bool

inductive Cls | P | R | M
  deriving DecidableEq

def muty (l : List Bool) : Bool := l.any id

def cls (T : Tabs) : Op → Cls
  | .move _ | .pick .. | .unOp .. | .binOp .. | .fieldAddr .. | .field .. | .extract .. | .nilCheck _ | .makeFunc .. => .P
  | .convert .. | .load .. | .indexAddr .. | .index .. | .slice .. | .makeSlice .. | .buildSlice .. | .build .. => .R
  | .call { callee := .value (.func f), .. } => match T.ct f with
    | some c => if muty c.muts then .M else .R
    | none => .M
  | .call { callee := .value _, .. } => .R
  | .call { callee := .builtin .len, .. } | .call { callee := .builtin .max, .. } | .call { callee := .builtin .min, .. } => .R
  | _ => .M

def rho (s : St) : Operand → AV
  | .tmp t => s.sl t
  | .const v => if v.oneCell' then .one (.d (.v v)) else .unk
  | .global _ => .unk
  | .func f => .one (.fn f [])

def AV.isAny : AV → Bool
  | .any => true
  | _ => false

/-- Values. -/
@[reducible] def bV (b : Bool) : AV := .one (.d (.v (.bool b)))
@[reducible] def iV (n : Int) : AV := .one (.d (.v (.int .i64 n)))

def inR (k : IntKind) (n : Int) : Prop := k.min ≤ n ∧ n ≤ k.max

/-- The bitwise operations, as the model has them. -/
def bitI (op : BinOp) (k : IntKind) (x y : Int) : Int :=
  let a := BitVec.ofInt k.bits x
  let b := BitVec.ofInt k.bits y
  match op with
  | .and => k.wrap (a &&& b).toNat
  | .or => k.wrap (a ||| b).toNat
  | .xor => k.wrap (a ^^^ b).toNat
  | _ => k.wrap (a &&& ~~~b).toNat

def ints (k : IntKind) (wr : Bool) (n : Int) : Option (Prop × Value) := if wr then some (True, .int k (k.wrap n)) else some (inR k n, .int k n)

def binV (wr : Bool) (op : BinOp) : Value → Value → Option (Prop × Value)
  | .int k x, .int k' y =>
    match op with
    | .shl => if wr then some (0 ≤ y, .int k (k.wrap (x * 2 ^ min y.toNat k.bits))) else some (0 ≤ y ∧ y < k.bits ∧ inR k (x * 2 ^ y.toNat), .int k (x * 2 ^ y.toNat))
    | .shr => some (0 ≤ y ∧ y < k.bits, .int k (x.fdiv (2 ^ y.toNat)))
    | _ => if k = k' then
        match op with
        | .add => ints k wr (x + y)
        | .sub => ints k wr (x - y)
        | .mul => ints k wr (x * y)
        | .quo => some (y ≠ 0 ∧ inR k (x.tdiv y), .int k (x.tdiv y))
        | .rem => some (y ≠ 0, .int k (x.tmod y))
        | .and => some (True, .int k (bitI .and k x y))
        | .or => some (True, .int k (bitI .or k x y))
        | .xor => some (True, .int k (bitI .xor k x y))
        | .andNot => some (True, .int k (bitI .andNot k x y))
        | .eql => some (True, .bool (x == y))
        | .neq => some (True, .bool (x != y))
        | .lss => some (True, .bool (decide (x < y)))
        | .leq => some (True, .bool (decide (x ≤ y)))
        | .gtr => some (True, .bool (decide (x > y)))
        | .geq => some (True, .bool (decide (x ≥ y)))
        | _ => none
      else none
  | .string x, .string y =>
    match op with
    | .add => some (x.size + y.size ≤ 4611686018427387904, .string (x ++ y))
    | .eql => some (True, .bool (x.toList == y.toList))
    | .neq => some (True, .bool (!(x.toList == y.toList)))
    | _ => none
  | _, _ => none

def sideOf (x : Bool) : AV → Option (Prop × Bool)
  | .one (.d (.v (.bool y))) => some (True, y)
  | .cnd g (.one (.d (.v (.bool y)))) => some (x = true → g = true, y)
  | _ => none

def lift (r : Option (Prop × Value)) : Option (Prop × AV) := match r with
  | some (p, v) => some (p, .one (.d (.v v)))
  | none => none

/-- A list of cells that are plain integers. -/
def cellInts : List Cell → Option (List (IntKind × Int))
  | [] => some []
  | .d (.v (.int k n)) :: r => match cellInts r with
    | some l => some ((k, n) :: l)
    | none => none
  | _ => none

def structEq (op : BinOp) (xs ys : List Cell) : Option (Prop × AV) :=
  match cellInts xs, cellInts ys with
  | some a, some b => match op with
    | .eql => some (a.map (·.1) = b.map (·.1), bV (a.map (·.2) == b.map (·.2)))
    | .neq => some (a.map (·.1) = b.map (·.1), bV (!(a.map (·.2) == b.map (·.2))))
    | _ => none
  | _, _ => none

def fieldOf (T : Tabs) (t : TypeId) (f : Nat) : Option (Nat × TypeId) :=
  match T.ty t with
  | some { d := .struct fs, .. } => fs[f]?
  | _ => none

def partOf (agg : Bool) (off size : Nat) (cs : List Cell) : Option AV :=
  if agg then if off + size ≤ cs.length then some (.agg ((cs.drop off).take size)) else none else match cs[off]? with
    | some c => some (.one c)
    | none => none

/-- Captured variables. -/
def capIds : List AV → Option (List Id)
  | [] => some []
  | .one (.bptr id 0) :: r => match capIds r with
    | some l => some (id :: l)
    | none => none
  | _ => none

def opP (T : Tabs) (ρ : Operand → AV) : Op → Option (Prop × AV)
  | .move x => some (True, ρ x)
  | .makeFunc (.func f) first bs => if first.toList.isEmpty = true then match capIds (bs.toList.map ρ) with
      | some ids => some (True, .one (.fn f ids))
      | none => none
    else none
  | .pick c a b => match ρ c with
    | .one (.d (.v (.bool x))) => match sideOf x (ρ a), sideOf (!x) (ρ b) with
      | some (p, y), some (q, z) => some (p ∧ q, bV (cond x y z))
      | _, _ => none
    | _ => none
  | .unOp op _ x => match op, ρ x with
    | .not, .one (.d (.v (.bool b))) => some (True, bV (!b))
    | .neg, .one (.d (.v (.int k n))) => lift (ints k T.wr (0 - n))
    | _, _ => none
  | .binOp op t x y _ => match ρ x, ρ y with
    | .one (.d (.v (.bool a))), .one (.d (.v (.bool b))) => match T.ty t with
      | some { d := .bool, .. } => match op with
        | .eql => some (True, bV (a == b))
        | .neq => some (True, bV (!(a == b)))
        | _ => none
      | _ => none
    | .one (.d (.v a)), .one (.d (.v b)) => lift (binV T.wr op a b)
    | .agg xs, .agg ys => match T.ty t with
      | some { d := .struct _, size := n, eq := true, .. } => if xs.length = n ∧ ys.length = n then structEq op xs ys else none
      | _ => none
    | _, _ => none
  | .fieldAddr t x f => match fieldOf T t f with
    | some (off, ft) => match T.ty ft with
      | some y => if y.size = 0 then none else match ρ x with
        | .one (.bptr id o) => some (True, .one (.bptr id (o + off)))
        | .one (.iptr ds) => some (off ≤ ds.length, .one (.iptr (ds.drop off)))
        | .one (.optr id i o) => some (True, .one (.optr id i (o + off)))
        | _ => none
      | none => none
    | none => none
  | .field t x f => match fieldOf T t f, ρ x with
    | some (off, ft), .agg cs => match T.ty ft with
      | some y => match partOf y.agg off y.size cs with
        | some av => some (True, av)
        | none => none
      | none => none
    | _, _ => none
  | .extract x i => match ρ x with
    | .tup vs => match vs[i]? with
      | some (true, cs) => some (True, .agg cs)
      | some (false, [c]) => some (True, .one c)
      | _ => none
    | _ => none
  | .nilCheck x => match ρ x with
    | .one (.bptr id o) => some (True, .one (.bptr id o))
    | .one (.iptr ds) => some (True, .one (.iptr ds))
    | _ => none
  | _ => none

/-- What a cell reads as, where it can be read. -/
def toD (ob : Id → Ob) : Cell → Option D
  | .d x => some x
  | .n x => some x
  | .fr id s l _ => match ob id with
    | .none => some (.sl s l)
    | _ => none
  | .osl id => match ob id with
    | .arr s l _ => some (.sl s l)
    | _ => none
  | .isl id i o => match ob id with
    | .arr _ l 2 => some ((l.getD i []).getD o default)
    | _ => none
  | _ => none

def cellsD (ob : Id → Ob) : List Cell → Option (List D)
  | [] => some []
  | c :: r => match toD ob c, cellsD ob r with
    | some x, some l => some (x :: l)
    | _, _ => none

def litD (ob : Id → Ob) : List (List Cell) → Option (List (List D))
  | [] => some []
  | c :: r => match cellsD ob c, litD ob r with
    | some x, some l => some (x :: l)
    | _, _ => none

def immCell : Cell → Option D
  | .d x => some x
  | .n x => some x
  | _ => none

def immCells : List Cell → Option (List D)
  | [] => some []
  | c :: r => match immCell c, immCells r with
    | some x, some l => some (x :: l)
    | _, _ => none

def capsD (ob : Id → Ob) : List Id → Option (List (List D))
  | [] => some []
  | id :: r => match ob id, capsD ob r with
    | .box cs, some l => match cellsD ob cs with
      | some ds => some (ds :: l)
      | none => none
    | _, _ => none

def magOf (ob : Id → Ob) : List Cell → Option (List (D ⊕ (Nat × List (List D) × Nat)))
  | [] => some []
  | .d x :: r => match magOf ob r with
    | some l => some (.inl x :: l)
    | none => none
  | .osl id :: r => match ob id, magOf ob r with
    | .arr s m dp, some l => if dp = 0 then none else some (.inr (s, m, dp) :: l)
    | _, _ => none
  | _ => none

def argOf (ob : Id → Ob) (m : Bool) : AV → Option Arg
  | .one c => if m then match c with
      | .osl id => match ob id with
        | .arr s l dp => some (.arr s l dp)
        | _ => none
      | .isl id i o => match ob id with
        | .arr _ l 2 => match (l.getD i []).getD o default with
          | .sl s r => some (.arr s r 1)
          | _ => none
        | _ => none
      | .bptr id 0 => match ob id with
        | .box cs => match immCells cs with
          | some ds => some (.box ds)
          | none => none
        | _ => none
      | _ => none
    else match c with
      | .bptr id 0 => match ob id with
        | .box cs => match cellsD ob cs with
          | some ds => some (.ptr ds)
          | none => none
        | _ => none
      | .iptr ds => some (.ptr ds)
      | .fni f l => some (.fnc f l)
      | .fn f caps => match capsD ob caps with
        | some l => some (.fnc f l)
        | none => none
      | c => match toD ob c with
        | some d => some (.one d)
        | none => none
  | .agg cs => if m then match magOf ob cs with
      | some l => some (.mag l)
      | none => none
    else match cellsD ob cs with
      | some ds => some (.agg ds)
      | none => none
  | _ => none

def argsOf (ob : Id → Ob) : List Bool → List AV → Option (List Arg)
  | _, [] => some []
  | ms, v :: r => match argOf ob (ms.headD false) v, argsOf ob ms.tail r with
    | some a, some l => some (a :: l)
    | _, _ => none

/-- Is this argument's memory owned by nobody? And is it all new? -/
def cellImm : Cell → Bool
  | .d _ | .n _ | .fn _ [] => true
  | _ => false
def cellNew : Cell → Bool
  | .n _ | .d (.v _) => true
  | _ => false
def avImm : AV → Bool
  | .one c => cellImm c
  | .agg cs => cs.all cellImm
  | _ => false
def avNew : AV → Bool
  | .one c => cellNew c
  | .agg cs => cs.all cellNew
  | _ => false

/-- The cells of a result: 'nw': what is not owned is new; 'im': what is owned is let go. -/
def rcCells (row : Nat) (nw im : Bool) : Nat → List RC → List Cell
  | _, [] => []
  | k, .d x :: r => (if nw then .n x else .d x) :: rcCells row nw im k r
  | k, .own s l dp :: r => (if im then (if nw then .n (.sl s l) else .d (.sl s l)) else .fr (row, k) s l dp) :: rcCells row nw im (k + 1) r

def scalN : Cell → Cell
  | .n (.v x) => .d (.v x)
  | c => c

def nOwn : List RC → Nat
  | [] => 0
  | .d _ :: r => nOwn r
  | .own .. :: r => nOwn r + 1

def resParts (row : Nat) (nw im : Bool) : Nat → List RV → List (Bool × List Cell)
  | _, [] => []
  | k, r :: rs => (r.agg, (rcCells row nw im k r.cs).map scalN) :: resParts row nw im (k + nOwn r.cs) rs

def partAV : Bool × List Cell → AV
  | (true, cs) => .agg cs
  | (false, [c]) => .one c
  | _ => .unk

def resAV (row : Nat) (nw im : Bool) (rs : List RV) : AV :=
  match rs with
  | [r] => partAV (r.agg, (rcCells row nw im 0 r.cs).map scalN)
  | [] => .unk
  | rs => .tup (resParts row nw im 0 rs)

def rvN : List RV → Nat
  | [] => 0
  | r :: rs => nOwn r.cs + rvN rs

def rvOwns (rs : List RV) : Bool := rvN rs != 0

/-- A scalar datum. -/
def Scalar : D → Prop
  | .v _ => True
  | .sl .. => False

def strAt (b : ByteArray) (n : Nat) : Int := ((b.data.toList)[n]?.getD 0).toNat

def maxAV (mx : Bool) : AV → AV → Option AV
  | .one (.d (.v (.int k x))), .one (.d (.v (.int k' y))) => if k = k' then some (.one (.d (.v (.int k (if mx then max x y else min x y))))) else none
  | _, _ => none

def asNat (ρ : Operand → AV) : Option Operand → Option (Option Int)
  | none => some none
  | some x => match ρ x with
    | .one (.d (.v (.int _ n))) => some (some n)
    | _ => none

/-- A call by contract; 'im': owned results are let go. -/
def callF (T : Tabs) (d : Nat) (ob : Id → Ob) (fresh im mu : Bool) (f : FuncId) (vs : List AV) : Option (Prop × AV × List Arg) :=
  match T.ct f with
  | some c => if muty c.muts != mu then none else match argsOf ob c.muts vs with
    | some as => match c.run as with
      | some (p, rs, ms) =>
        if c.alias then some (p ∧ rvN rs ≤ 4 ∧ vs.all avImm = true ∧ (im = false → rvOwns rs = true → fresh = true), resAV d (vs.all avNew) im rs, ms)
        else some (p ∧ rvN rs ≤ 4 ∧ (im = false → rvOwns rs = true → fresh = true), resAV d true im rs, ms)
      | none => none
    | none => none
  | none => none

def litOne : List AV → Option (List (List Cell))
  | [] => some []
  | .one c :: r => match litOne r with
    | some l => some ([c] :: l)
    | none => none
  | _ => none

def litAgg (n : Nat) : List AV → Option (List (List Cell))
  | [] => some []
  | .agg cs :: r => if cs.length = n then match litAgg n r with
    | some l => some (cs :: l)
    | none => none
    else none
  | _ => none

def avCells : AV → Option (List Cell)
  | .one c => some [c]
  | .agg cs => some cs
  | _ => none

def buildCells (T : Tabs) (fs : List (Nat × TypeId)) (cs : List Cell) : List Nat → List AV → Option (Prop × AV)
  | [], [] => some (True, .agg cs)
  | i :: is, x :: r => match fs[i]? with
    | some (off, ft) => match T.ty ft with
      | some y => match avCells x with
        | some new => if new.length = y.size ∧ off + new.length ≤ cs.length then buildCells T fs (cs.take off ++ new ++ cs.drop (off + new.length)) is r else none
        | none => none
      | none => none
    | none => none
  | _, _ => none

/-- Rows of bytes. -/
def bL (ns : List Int) : List (List D) := ns.map fun n => [.v (.int .u8 n)]
def unB (l : List (List D)) : List Int := l.map fun
  | [.v (.int .u8 n)] => n
  | _ => 0
def baOf (ns : List Int) : ByteArray := ns.foldl (fun r n => r.push (UInt8.ofNat n.toNat)) ByteArray.empty

/-- Slots that are said to hold a variable's address. -/
def bxq (T : Tabs) : Operand → Bool
  | .tmp k => T.bx k
  | _ => false
/-- The bytes of a literal. -/
def litBytes : List (List Cell) → Option (List Int)
  | [] => some []
  | [.d (.v (.int .u8 n))] :: r => match litBytes r with
    | some l => some (n :: l)
    | none => none
  | _ => none
def isSc : AV → Bool
  | .one (.d (.v _)) => true
  | _ => false
def isBptr : AV → Bool
  | .one (.bptr ..) => true
  | _ => false

def opR (T : Tabs) (d : Nat) (ρ : Operand → AV) (ob : Id → Ob) (fresh im : Bool) : Op → Option (Prop × AV)
  | .load t x => if (bxq T x && !isBptr (ρ x)) = true then none else match T.ty t with
    | some y => match ρ x with
      | .one (.iptr ds) => if y.agg then some (y.size ≤ ds.length, .agg ((ds.take y.size).map .d)) else some (1 ≤ ds.length, .one (.d (ds.headD default)))
      | .one (.bptr id o) => match ob id with
        | .box cs => match partOf y.agg o y.size cs with
          | some av => some (True, av)
          | none => none
        | _ => none
      | .one (.optr id i o) => match ob id with
        | .arr s l dp =>
          if y.agg then some (i < l.length ∧ o + y.size ≤ s ∧ (∀ x ∈ ((l.getD i []).drop o).take y.size, Scalar x), .agg ((((l.getD i []).drop o).take y.size).map .d)) else match y.d with
          | .slice _ => match dp with
            | 0 => some (i < l.length ∧ o < s, .one (.d ((l.getD i []).getD o default)))
            | 2 => some (i < l.length ∧ o < s, .one (.isl id i o))
            | _ => none
          | _ => some (i < l.length ∧ o < s ∧ Scalar ((l.getD i []).getD o default), .one (.d ((l.getD i []).getD o default)))
        | _ => none
      | .one (.nptr id i o s' j) => match ob id with
        | .arr _ l 2 => match (l.getD i []).getD o default with
          | .sl s r => if y.agg then none else some (s = s' ∧ 0 < s ∧ j < r.length ∧ Scalar ((r.getD j []).getD 0 default), .one (.d ((r.getD j []).getD 0 default)))
          | _ => none
        | _ => none
      | _ => none
    | none => none
  | .indexAddr t x i => match T.ty t with
    | some { d := .slice e, .. } => match T.ty e, ρ i with
      | some y, .one (.d (.v (.int _ n))) => match ρ x with
        | .one (.d (.sl s l)) => some (y.size = s ∧ 0 ≤ n ∧ n < l.length, .one (.iptr (l.getD n.toNat [])))
        | .one (.n (.sl s l)) => some (y.size = s ∧ 0 ≤ n ∧ n < l.length, .one (.iptr (l.getD n.toNat [])))
        | .one (.osl id) => match ob id with
          | .arr s l _ => some (y.size = s ∧ 0 ≤ n ∧ n < l.length, .one (.optr id n.toNat 0))
          | _ => none
        | .one (.isl id i o) => match ob id with
          | .arr _ l 2 => match (l.getD i []).getD o default with
            | .sl s r => some (y.size = s ∧ 0 ≤ n ∧ n < r.length, .one (.nptr id i o s n.toNat))
            | _ => none
          | _ => none
        | _ => none
      | _, _ => none
    | _ => none
  | .index t x i => match T.ty t, ρ x, ρ i with
    | some { d := .str, .. }, .one (.d (.v (.string b))), .one (.d (.v (.int _ n))) => some (0 ≤ n ∧ n < b.size, .one (.d (.v (.int .u8 (strAt b n.toNat)))))
    | _, _, _ => none
  | .slice t x lo hi mx => match T.ty t, asNat ρ lo, asNat ρ hi, mx with
    | some { d := .str, .. }, some l, some h, none => match ρ x with
      | .one (.d (.v (.string b))) => some (0 ≤ l.getD 0 ∧ l.getD 0 ≤ h.getD b.size ∧ h.getD b.size ≤ b.size, .one (.d (.v (.string (b.extract (l.getD 0).toNat (h.getD b.size).toNat)))))
      | _ => none
    | some { d := .slice e, .. }, some l, some h, none => match T.ty e, ρ x with
      | some y, .one (.d (.sl s m)) => some (y.size = s ∧ 0 ≤ l.getD 0 ∧ l.getD 0 ≤ h.getD m.length ∧ h.getD m.length ≤ m.length, .one (.d (.sl s ((m.take (h.getD m.length).toNat).drop (l.getD 0).toNat))))
      | some y, .one (.n (.sl s m)) => some (y.size = s ∧ 0 ≤ l.getD 0 ∧ l.getD 0 ≤ h.getD m.length ∧ h.getD m.length ≤ m.length, .one (.n (.sl s ((m.take (h.getD m.length).toNat).drop (l.getD 0).toNat))))
      | _, _ => none
    | _, _, _, _ => none
  | .convert src dst x => match T.ty src, T.ty dst, ρ x with
    | some { d := .int _, .. }, some { d := .int k, .. }, .one (.d (.v (.int _ n))) => some (True, .one (.d (.v (.int k (k.wrap n)))))
    | some { d := .str, .. }, some { d := .str, .. }, .one (.d (.v (.string b))) => some (True, .one (.d (.v (.string b))))
    | some { d := .slice e, .. }, some { d := .str, .. }, .one c => match T.ty e, toD ob c with
      | some { d := .int .u8, .. }, some (.sl 1 l) => some (l = bL (unB l), .one (.d (.v (.string (baOf (unB l))))))
      | _, _ => none
    | some { d := .slice e, .. }, some { d := .str, .. }, .lit id sz els => match T.ty e, ob id, litBytes els with
      | some { d := .int .u8, .. }, .none, some ns => some (sz = 1, .one (.d (.v (.string (baOf ns)))))
      | _, _, _ => none
    | _, _, _ => none
  | .makeSlice t n c => match T.ty t with
    | some { d := .slice e, .. } => match T.ty e, ρ n, ρ c with
      | some y, .one (.d (.v (.int .i64 n))), .one (.d (.v (.int .i64 c))) =>
        some (0 ≤ n ∧ n ≤ c ∧ c ≤ maxLen ∧ c * y.bytes ≤ 140737488355328 ∧ fresh = true ∧ 0 < y.size, .one (.fr (d, 0) y.size (List.replicate n.toNat (y.zero.map .v)) 1))
      | _, _, _ => none
    | _ => none
  | .buildSlice t n ps => match T.ty t with
    | some { d := .slice e, .. } => match T.ty e with
      | some y => if y.agg = false ∧ y.size = 1 ∧ ps.toList.map (·.1) = List.range n ∧ n * y.size ≤ 16777216 ∧ 0 < y.size then
          match litOne ((ps.toList.map (·.2)).map ρ) with
          | some els => some (fresh = true, .lit (d, 0) 1 els)
          | none => none
        else if ps.toList.map (·.1) = List.range n ∧ n * y.size ≤ 16777216 ∧ 0 < y.size then
          match litAgg y.size ((ps.toList.map (·.2)).map ρ) with
          | some els => some (fresh = true, .lit (d, 0) y.size els)
          | none => none
        else none
      | none => none
    | _ => none
  | .build t ps => match T.ty t with
    | some { d := .struct fs, zero := z, .. } => if fs.all (fun f => (T.ty f.2).isSome) = false then none else buildCells T fs (z.map fun v => Cell.d (.v v)) (ps.toList.map (·.1)) ((ps.toList.map (·.2)).map ρ)
    | _ => none
  | .call { callee := .builtin .len, args := as, argTypes := ts } => match as.toList.map ρ, ts.toList with
    | [.one c], [t] => match T.ty t with
      | some { d := .str, .. } => match c with
        | .d (.v (.string b)) => some (True, iV b.size)
        | _ => none
      | some { d := .slice _, .. } => match c with
        | .d (.v (.slice none 0 0)) => some (True, iV 0)
        | c => match toD ob c with
          | some (.sl _ l) => some (True, iV l.length)
          | _ => none
      | _ => none
    | _, _ => none
  | .call { callee := .builtin .max, args := as, .. } => match as.toList.map ρ with
    | [x, y] => match maxAV true x y with
      | some v => some (True, v)
      | none => none
    | _ => none
  | .call { callee := .builtin .min, args := as, .. } => match as.toList.map ρ with
    | [x, y] => match maxAV false x y with
      | some v => some (True, v)
      | none => none
    | _ => none
  | .call { callee := .value (.func f), args := as, .. } => match callF T d ob fresh im false f (as.toList.map ρ) with
    | some (p, v, []) => some (p, v)
    | _ => none
  | .call { callee := .value x, args := as, .. } => match ρ x with
    | .one (.fni f l) => match callF T d ob fresh im false f (as.toList.map ρ ++ l.map fun ds => .one (.iptr ds)) with
      | some (p, v, []) => some (p, v)
      | _ => none
    | .one (.fn f caps) => match callF T d ob fresh im false f (as.toList.map ρ ++ caps.map fun id => .one (.bptr id 0)) with
      | some (p, v, []) => some (p, v)
      | _ => none
    | _ => none
  | _ => none
/-- A value as it is kept in a variable: what is fresh becomes an object. -/
def matCells (ob : Id → Ob) : List Cell → Option (List Cell × List (Id × Ob))
  | [] => some ([], [])
  | .fr id s l dp :: r => match ob id, matCells ob r with
    | .none, some (cs, us) => some (.osl id :: cs, (id, .arr s l dp) :: us)
    | _, _ => none
  | c :: r => match matCells ob r with
    | some (cs, us) => some (c :: cs, us)
    | none => none

/-- A written-out row as data: all scalars, or all owned by nobody, or one owned slice. -/
def scalCell : Cell → Option D
  | .d (.v x) => some (.v x)
  | _ => none

def scalCells : List Cell → Option (List D)
  | [] => some []
  | c :: r => match scalCell c, scalCells r with
    | some x, some l => some (x :: l)
    | _, _ => none

def allCells (f : List Cell → Option (List D)) : List (List Cell) → Option (List (List D))
  | [] => some []
  | c :: r => match f c, allCells f r with
    | some x, some l => some (x :: l)
    | _, _ => none

/-- One owned slice: its id, what it holds. -/
def ownCell (ob : Id → Ob) : Cell → Option (Id × Nat × List (List D) × Nat)
  | .fr id s l dp => match ob id with
    | .none => some (id, s, l, dp)
    | _ => none
  | .osl id => match ob id with
    | .arr s l dp => some (id, s, l, dp)
    | _ => none
  | _ => none

def matAV (ob : Id → Ob) : AV → Option (AV × List (Id × Ob))
  | .one (.fr id s l dp) => match ob id with
    | .none => some (.one (.osl id), [(id, .arr s l dp)])
    | _ => none
  | .one c => some (.one c, [])
  | .agg cs => match matCells ob cs with
    | some (cs, us) => if (us.map (·.1)).Nodup then some (.agg cs, us) else none
    | none => none
  | .lit id s els => match ob id with
    | .none => match allCells scalCells els with
      | some l => some (.one (.osl id), [(id, .arr s l 1)])
      | none => match allCells immCells els with
        | some l => some (.one (.osl id), [(id, .arr s l 0)])
        | none => none
    | _ => none
  | _ => none

/-- The target of an append: element size, contents, depth, what becomes of its object. -/
def tgtOf (ob : Id → Ob) (sz : Nat) : AV → Option (List (List D) × Nat × List (Id × Ob))
  | .one (.d (.v (.slice none 0 0))) => some ([], 1, [])
  | .one c => match ownCell ob c with
    | some (id, s, l, dp) => if s = sz then some (l, dp, [(id, .dead)]) else none
    | none => none
  | .lit id s els => match ob id, allCells scalCells els with
    | .none, some l => if s = sz then some (l, 1, [(id, .dead)]) else none
    | _, _ => none
  | _ => none

/-- The source of an append: a premise, the new elements, the depth behind it, what becomes of an object. -/
def srcOf (ob : Id → Ob) (sz : Nat) (dp : Nat) : AV → Option (Prop × List (List D) × Nat × List (Id × Ob))
  | .lit id s els => match ob id with
    | .none => if s = sz then match allCells scalCells els with
        | some l => some (True, l, dp, [])
        | none => match els with
          | [[c]] => match ownCell ob c with
            | some (id2, s2, l2, dp2) => if dp = 0 ∨ dp2 = 0 then none else some (True, [[.sl s2 l2]], 1, [(id2, .dead)])
            | none => match allCells immCells els with
              | some l => some (True, l, 0, [])
              | none => none
          | _ => match allCells immCells els with
            | some l => some (True, l, 0, [])
            | none => none
      else none
    | _ => none
  | .one c => match toD ob c with
    | some (.sl s m) => some (s = sz ∧ ∀ e ∈ m, ∀ x ∈ e, Scalar x, m, dp, [])
    | some (.v (.slice none 0 0)) => some (True, [], dp, [])
    | _ => none
  | _ => none

def appF (T : Tabs) (d : Nat) (ob : Id → Ob) (fresh : Bool) (t : TypeId) (x y : AV) : Option (Prop × AV × List (Id × Ob)) :=
  match T.ty t with
  | some { d := .slice e, .. } => match T.ty e with
    | some yi => match tgtOf ob yi.size x with
      | some (l, dp, us) => match srcOf (updO ob us) yi.size dp y with
        | some (p, m, dp', us') => some (p ∧ 0 < yi.size ∧ fresh = true ∧ l.length + m.length ≤ maxLen ∧ (l.length + m.length) * yi.bytes ≤ 140737488355328, .one (.fr (d, 0) yi.size (l ++ m) dp'), us ++ us')
        | none => none
      | none => none
    | none => none
  | _ => none

/-- What a callee sees of an argument that it may change. -/
def mutArg (ob : Id → Ob) : AV → Option Arg
  | .one (.osl id) => match ob id with
    | .arr s l dp => if dp = 0 then none else some (.arr s l dp)
    | _ => none
  | .one (.isl id i o) => match ob id with
    | .arr _ l 2 => match (l.getD i []).getD o default with
      | .sl s r => some (.arr s r 1)
      | _ => none
    | _ => none
  | .agg cs => match magOf ob cs with
    | some l => some (.mag l)
    | none => none
  | _ => none

/-- What becomes of its parts. -/
def setMag (ob : Id → Ob) : List Cell → List (D ⊕ (Nat × List (List D) × Nat)) → Option (Prop × List (Id × Ob))
  | [], [] => some (True, [])
  | .d _ :: cs, .inl _ :: ns => setMag ob cs ns
  | .osl id :: cs, .inr (s', l', _) :: ns => match ob id, setMag ob cs ns with
    | .arr s _ _, some (p, us) => some ((s' = s ∧ 0 < s) ∧ p, (id, .arr s l' 1) :: us)
    | _, _ => none
  | _, _ => none

def setMut (ob : Id → Ob) : AV → Arg → Option (Prop × List (Id × Ob))
  | .one (.osl id), .arr s' l' _ => match ob id with
    | .arr s _ _ => some (s' = s ∧ 0 < s, [(id, .arr s l' 1)])
    | _ => none
  | .one (.isl id i o), .arr s' r' _ => match ob id with
    | .arr s0 l 2 => match (l.getD i []).getD o default with
      | .sl s _ => some (s' = s, [(id, .arr s0 (l.set i ((l.getD i []).set o (.sl s r'))) 2)])
      | _ => none
    | _ => none
  | .agg cs, .mag ns => setMag ob cs ns
  | _, _ => none

/-- A call of a function that changes its first argument. -/
def callM (T : Tabs) (d : Nat) (ob : Id → Ob) (f : FuncId) (vs : List AV) : Option (Prop × AV × List (Id × Ob)) :=
  match T.ct f with
  | some c => if c.muts = [true] ∧ c.alias = false then match vs with
      | v0 :: vr => match mutArg ob v0, argsOf ob [] vr with
        | some a0, some as => match c.run (a0 :: as) with
          | some (p, rs, [a1]) => match setMut ob v0 a1 with
            | some (q, us) => some (p ∧ q ∧ rvN rs = 0 ∧ vr.all avImm = true ∧ (us.map (·.1)).Nodup, resAV d true false rs, us)
            | none => none
          | _ => none
        | _, _ => none
      | [] => none
    else none
  | none => none

def opM (T : Tabs) (d : Nat) (ρ : Operand → AV) (ob : Id → Ob) (fresh : Bool) : Op → Option (Prop × AV × List (Id × Ob))
  | .assign x => if (bxq T x && !isSc (ρ x)) = true then none else match matAV ob (ρ x) with
    | some (v, us) => some (True, v, us)
    | none => match ρ x with
      | .tup _ => none
      | .lit .. => none
      | .one _ => none
      | .agg _ => none
      | v => some (True, v, [])
  | .box t x => match T.ty t, matAV ob (ρ x) with
    | some y, some (v, us) => match avCells v with
      | some cs => if cs.length = y.size then some (fresh = true, .one (.bptr (d, 0) 0), us ++ [((d, 0), .box cs)]) else none
      | none => none
    | _, _ => none
  | .alloc t => match T.ty t with
    | some y => some (fresh = true, .one (.bptr (d, 0) 0), [((d, 0), .box (y.zero.map fun v => .d (.v v)))])
    | none => none
  | .store t a x => match T.ty t, matAV ob (ρ x) with
    | some y, some (v, us) => match avCells v with
      | some cs => if cs.length = y.size then match ρ a with
          | .one (.bptr id o) => match ob id with
            | .box cs0 => if o + cs.length ≤ cs0.length then some (True, .unk, us ++ [(id, .box (cs0.take o ++ cs ++ cs0.drop (o + cs.length)))]) else none
            | _ => none
          | .one (.optr id i o) => match ob id, scalCells cs with
            | .arr s l dp, some ds => some (i < l.length ∧ o + ds.length ≤ s ∧ (∀ x ∈ ((l.getD i []).drop o).take ds.length, Scalar x), .unk, [(id, .arr s (l.set i ((l.getD i []).take o ++ ds ++ (l.getD i []).drop (o + ds.length))) (min dp 1))])
            | .arr s l 1, none => match ρ x with
              | .one (.fr id2 s2 l2 dp2) => match ob id2 with
                | .none => some (i < l.length ∧ o < s ∧ dp2 ≠ 0 ∧ id2 ≠ id, .unk, [(id2, .dead), (id, .arr s (l.set i ((l.getD i []).set o (.sl s2 l2))) 1)])
                | _ => none
              | _ => none
            | _, _ => none
          | .one (.nptr id i o s' j) => match ob id, scalCells cs with
            | .arr sz l 2, some ds => match (l.getD i []).getD o default with
              | .sl s r => some (s = s' ∧ ds.length = s ∧ j < r.length ∧ (∀ x ∈ r.getD j [], Scalar x), .unk, [(id, .arr sz (l.set i ((l.getD i []).set o (.sl s (r.set j ds)))) 2)])
              | _ => none
            | _, _ => none
          | _ => none
        else none
      | none => none
    | _, _ => none
  | .call { callee := .builtin .append, args := as, argTypes := ts } => match as.toList.map ρ, ts.toList with
    | [x, y], [t, t'] => if t = t' then appF T d ob fresh t x y else none
    | _, _ => none
  | .call { callee := .value (.func f), args := as, .. } => callM T d ob f (as.toList.map ρ)
  | _ => none

def opF (T : Tabs) (d : Nat) (ρ : Operand → AV) (ob : Id → Ob) (fresh im : Bool) (o : Op) : Option (Prop × AV × List (Id × Ob)) :=
  match cls T o with
  | .P => match opP T ρ o with
    | some (p, v) => some (p, v, [])
    | none => none
  | .R => match opR T d ρ ob fresh im o with
    | some (p, v) => some (p, v, [])
    | none => none
  | .M => opM T d ρ ob fresh o

/-- The guard of an operation: none; or the Bool that says whether it runs. -/
def gOf (ops : Array Oper) (s : St) (o : Oper) : Option (Option Bool) :=
  match o.guard with
  | none => some none
  | some (j, want) => match (ops[j]?).bind (·.dst) with
    | some t => match s.sl t with
      | .one (.d (.v (.bool b))) => some (some (b == want))
      | .cnd g (.one (.d (.v (.bool b)))) => some (some (g && (b == want)))
      | _ => none
    | none => none

def strip : AV → AV
  | .cnd _ v => v
  | v => v

def condOK (g : Bool) : AV → Prop
  | .cnd g' _ => g = true → g' = true
  | _ => True

def avPure : AV → Bool
  | .one (.d _) | .one (.n _) | .one (.iptr _) | .one (.bptr ..) | .one (.optr ..) | .one (.osl _) | .one (.isl ..) | .agg _ | .tup _ | .unk => true
  | _ => false

def Ob.isNone : Ob → Bool
  | .none => true
  | _ => false

def freshAt (s : St) : Option Nat → Bool
  | some d => (s.sl d).isAny && (s.ob (d, 0)).isNone && (s.ob (d, 1)).isNone && (s.ob (d, 2)).isNone && (s.ob (d, 3)).isNone
  | none => false

/-- A choice under a guard: only the side that is taken need stand. -/
def pickG (s : St) (g : Bool) : Op → Option (Prop × AV)
  | .pick c a b => match strip (rho s c) with
    | .one (.d (.v (.bool x))) => match sideOf x (rho s a), sideOf (!x) (rho s b) with
      | some (p, y), some (q, z) => some (condOK g (rho s c) ∧ p ∧ q, bV (cond x y z))
      | _, _ => none
    | _ => none
  | _ => none

/-- One operation: its premise, the value, the objects. -/
def F1 (T : Tabs) (ops : Array Oper) (o : Oper) (s : St) : Option (Prop × AV × List (Id × Ob)) :=
  match gOf ops s o with
  | none => none
  | some none => opF T (o.dst.getD 0) (rho s) s.ob (freshAt s o.dst) (T.im (o.dst.getD 0)) o.op
  | some (some g) => match cls T o.op with
    | .M => none
    | _ => match pickG s g o.op with
      | some (p, v) => some (g = true → p, .cnd g v, [])
      | none => match opF T (o.dst.getD 0) (fun x => strip (rho s x)) s.ob false true o.op with
        | some (p, v, _) => some (g = true → ((∀ x ∈ o.op.operands.toList, condOK g (rho s x)) ∧ p), .cnd g v, [])
        | none => none

def bindF (r : Option (Prop × AV × List (Id × Ob))) (K : AV → List (Id × Ob) → Prop) : Prop :=
  match r with
  | some (p, v, us) => p ∧ K v us
  | none => False

def TL (T : Tabs) (ops : Array Oper) (Q : St → Prop) : List Oper → St → Prop
  | [], s => Q s
  | o :: r, s => bindF (F1 T ops o s) fun v us => TL T ops Q r (s.put o.dst v us)

end Go.Own
