/- An evaluator of the model's code, part 1: An evaluator of the model's code on abstract values: the definitions. No condition. -/
import GoSem.Dispatch
import Derived.KernelRfl
import Derived.Calls
import Derived.Orders
import Derived.Below
import Derived.Laws.Sem
import Derived.Laws.Strings
set_option linter.unusedVariables false
set_option linter.unusedSectionVars false
set_option linter.unusedSimpArgs false
/-! An evaluator of the model's code on abstract values: the definitions. -/
namespace Go.Proofs.YtbmpjppfdeohnaaDoor.Fv

/-- Types of values that are told as data; 'one' and 'pair' are structs; 'nm' is a named struct (of data of its own kind); 'any': a cell that isn't told. -/
inductive Ty where
  | int (k : IntKind) | bool | str | one (a : Ty) | pair (a b : Ty) | sl (e : Ty) | arr (n : Nat) (e : Ty) | nm (n : Nat) | mp (k v : Ty) | any
  deriving DecidableEq

def Ty.agg : Ty → Bool
  | .one _ | .pair _ _ | .arr _ _ | .nm _ => true
  | _ => false

/-- Is every part told? -/
def Ty.full : Ty → Bool
  | .one a => a.full
  | .pair a b => a.full && b.full
  | .sl e => e.full
  | .arr _ e => e.full
  | .mp k v => k.full && v.full
  | .any => false
  | _ => true

def den (R : Nat → Type) : Ty → Type
  | .int _ => Int
  | .bool => Bool
  | .str => List UInt8
  | .one a => den R a
  | .pair a b => den R a × den R b
  | .sl e => List (den R e)
  | .arr _ e => List (den R e)
  | .nm n => R n
  | .mp k v => List (den R k × den R v)
  | .any => Unit

structure Env where
  R : Nat → Type
  body : Nat → Ty
  un : ∀ n, R n → den R (body n)
  ro : ∀ n, den R (body n) → R n
  dfl : ∀ n, R n
  sz : Nat → Nat
  zc : Nat → List Value

abbrev Env.D (E : Env) (t : Ty) : Type := den E.R t

/-- What a function value has caught: a place that isn't written any more. -/
structure Cap (E : Env) where
  ty : Ty
  v : E.D ty

/-- What a function value has caught that reads places that are written later: such a place, or one that isn't written any more. -/
inductive CP (E : Env) where
  | im (c : Cap E)
  | pt (id : Nat) (ly : Ty)

inductive AV (E : Env) where
  | undef
  | c (v : Value)
  | t (ty : Ty) (v : E.D ty)
  | nilp | nilfn | niliface | nilmap
  | agg (cs : List (AV E))
  | ptr (id : Nat) (ly : Ty) (p : List Nat)
  | eptr (id : Nat) (e : Ty) (i : Nat) (p : List Nat)
  | imm (ty : Ty) (v : E.D ty)
  | sl (id : Nat) (e : Ty) (xs : List (E.D e))
  | exact (e : Ty) (xs : List (E.D e))
  | fs (id : Nat) (e : Ty) (off len : Nat)
  | own (e : Ty) (xs : List (E.D e))
  | ownrow (e : Ty) (xs : List (E.D e))
  | func (f : FuncId) (caps : List (Cap E))
  | funp (f : FuncId) (ps : List (CP E))
  | iface (tid : TypeId) (a : AV E)
  | mp (id : Nat) (kt vt : Ty)
  | snil (e : Ty)
  | snn (e : Ty) (xs : List (E.D e))
  | rsv (id : Nat) (e : Ty) (n : Nat)
  | err (nl : Bool)
  | tup (l : List (AV E))

inductive Blk (E : Env) where
  | none
  | var (ly : Ty) (a : AV E)
  | frz (ly : Ty) (v : E.D ly)
  | grow (e : Ty) (n : Nat)
  | row (e : Ty) (xs : List (E.D e))
  | rowz (e : Ty)
  | mp (kt vt : Ty) (es : List (E.D kt × E.D vt))
  | mpz

/-- What is told of a type of the program. -/
inductive TD where
  | int (k : IntKind) | bool | str | slice (el : Nat) | struct (fs : List (Nat × Nat)) | ptr (el : Nat) | func | map (k v : Nat) | arr (n : Nat) (el : Nat) | iface | tuple | other
structure TE where
  ty : Ty
  d : TD

/-- What a call hands back. -/
inductive RSh where
  | t (ty : Ty)
  | own (e : Ty)
  | ownrow (e : Ty)
  | inp (p : Nat) (e : Ty)
  | inrow (p : Nat) (e : Ty)
  | unit
  | asis
  | ag (l : List Ty) (e : Ty)
  | tup (l : List RSh)

structure Hints where
  keep : FuncId → Nat → List (Nat × Nat)
  keepB : FuncId → Nat → List Nat
  rsh : FuncId → RSh
  cons : FuncId → List Nat
  asagg : FuncId → Nat → List (Nat × Nat)
  asrow : FuncId → List Nat
  mutcap : List FuncId
  pre : FuncId → Nat → Nat := fun _ _ => 0
  preT : FuncId → Nat → List (Nat × Nat) := fun _ _ => []
  lend : FuncId → List (Nat × Nat) := fun _ => []
  phan : FuncId → Nat := fun _ => 0
  nx : FuncId → Nat := fun _ => 0

def size (E : Env) : Ty → Nat
  | .one a => size E a
  | .pair a b => size E a + size E b
  | .arr n e => n * size E e
  | .nm n => E.sz n
  | _ => 1

def dfl (E : Env) : (t : Ty) → E.D t
  | .int _ => (0 : Int)
  | .bool => false
  | .str => ([] : List UInt8)
  | .one a => dfl E a
  | .pair a b => (dfl E a, dfl E b)
  | .sl _ => ([] : List _)
  | .arr n e => (List.replicate n (dfl E e) : List _)
  | .nm n => E.dfl n
  | .mp _ _ => ([] : List _)
  | .any => ()

/-- The cells of a zero value. -/
def zcells (E : Env) : Ty → List Value
  | .int k => [.int k 0]
  | .bool => [.bool false]
  | .str => [.string ByteArray.empty]
  | .one a => zcells E a
  | .pair a b => zcells E a ++ zcells E b
  | .sl _ => [.slice none 0 0]
  | .arr n e => (List.replicate n (zcells E e)).flatten
  | .nm n => E.zc n
  | .mp _ _ => [.map none]
  | .any => []

variable {E : Env}

def cst (a b : Ty) (v : E.D a) : Option (E.D b) := if h : a = b then some (h ▸ v) else none

mutual
/-- A value as one of a type. -/
def toT : AV E → (b : Ty) → Option (E.D b)
  | .t a v, b => cst a b v
  | .sl _ e xs, b => cst (.sl e) b xs
  | .exact e xs, b => cst (.sl e) b xs
  | .snn e xs, b => cst (.sl e) b xs
  | .snil e, b => cst (.sl e) b []
  | .agg cs, .nm n => (toTs cs (E.body n)).map (E.ro n)
  | .agg cs, b => toTs cs b
  | _, _ => none
def toTs : List (AV E) → (b : Ty) → Option (E.D b)
  | [], _ => none
  | c :: cs, b => match b with
    | .one a => match cs with
      | [] => toT c a
      | _ :: _ => none
    | .pair a b => (toT c a).bind fun x => (toTs cs b).map fun y => (x, y)
    | _ => none
end

/-- A field of a struct. -/
def fldS : (ty : Ty) → E.D ty → Nat → AV E
  | .one a, v, 0 => .t a v
  | .pair a _, v, 0 => .t a v.1
  | .pair _ b, v, i + 1 => fldS b v.2 i
  | _, _, _ => .undef
/-- A part of a struct or an array. -/
def fldT (ty : Ty) (v : E.D ty) (i : Nat) : AV E :=
  match ty, v with
  | .arr _ e, v => .t e (List.getD (α := E.D e) v i (dfl E e))
  | ty, v => fldS ty v i
def fld : AV E → Nat → AV E
  | .t (.nm n) v, i => fldT (E.body n) (E.un n v) i
  | .t ty v, i => fldT ty v i
  | .agg cs, i => cs.getD i .undef
  | _, _ => .undef
def getP : AV E → List Nat → AV E
  | a, [] => a
  | a, i :: p => getP (fld a i) p

/-- The type of a field. -/
def fldTyS : Ty → Nat → Ty
  | .one a, 0 => a
  | .pair a _, 0 => a
  | .pair _ b, i + 1 => fldTyS b i
  | _, _ => .any
def fldTy (t : Ty) (i : Nat) : Ty :=
  match t with
  | .arr _ e => e
  | t => fldTyS t i
def subTy (E : Env) : Ty → List Nat → Ty
  | t, [] => t
  | .nm n, i :: p => subTy E (fldTy (E.body n) i) p
  | t, i :: p => subTy E (fldTy t i) p
def fldOffS (E : Env) : Ty → Nat → Nat
  | .pair a b, i + 1 => size E a + fldOffS E b i
  | _, _ => 0
def fldOff (E : Env) (t : Ty) (i : Nat) : Nat :=
  match t with
  | .arr _ e => i * size E e
  | t => fldOffS E t i
def offTy (E : Env) : Ty → List Nat → Nat
  | _, [] => 0
  | .nm n, i :: p => fldOff E (E.body n) i + offTy E (fldTy (E.body n) i) p
  | t, i :: p => fldOff E t i + offTy E (fldTy t i) p

/-- Are the places of a path there? -/
def inR (E : Env) : Ty → List Nat → Bool
  | _, [] => true
  | .nm n, i :: p => inR E (fldTy (E.body n) i) p
  | .arr n e, i :: p => decide (i < n) && inR E e p
  | t, i :: p => inR E (fldTy t i) p

/-- A typed value with a part put into it. -/
def setS : (ty : Ty) → E.D ty → Nat → ((t : Ty) → E.D t → Option (E.D t)) → Option (E.D ty)
  | .one a, v, 0, g => g a v
  | .pair a b, v, 0, g => (g a v.1).map fun x => (x, v.2)
  | .pair a b, v, i + 1, g => (setS b v.2 i g).map fun y => (v.1, y)
  | _, _, _, _ => none
def setT (ty : Ty) (v : E.D ty) (i : Nat) (g : (t : Ty) → E.D t → Option (E.D t)) : Option (E.D ty) :=
  match ty, v with
  | .arr n e, v => (g e (List.getD (α := E.D e) v i (dfl E e))).map fun x => List.set (α := E.D e) v i x
  | ty, v => setS ty v i g
def setPT (x : AV E) : (p : List Nat) → (t : Ty) → E.D t → Option (E.D t)
  | [], t, _ => toT x t
  | i :: p, .nm n, v => (setT (E.body n) (E.un n v) i (setPT x p)).map (E.ro n)
  | i :: p, t, v => setT t v i (setPT x p)
/-- The parts of a struct. -/
def opens : (ty : Ty) → E.D ty → List (AV E)
  | .one a, v => [.t a v]
  | .pair a b, v => match opens b v.2 with
    | [] => []
    | c :: l => .t a v.1 :: c :: l
  | _, _ => []
def openT : AV E → List (AV E)
  | .t (.nm n) v => opens (E.body n) (E.un n v)
  | .t ty v => opens ty v
  | .agg cs => cs
  | _ => []
/-- Can it be a part of data? -/
def isD : AV E → Bool
  | .t _ _ | .sl _ _ _ | .exact _ _ | .snil _ | .snn _ _ => true
  | .agg cs => isDs cs
  | _ => false
where
  isDs : List (AV E) → Bool
  | [] => true
  | c :: cs => isD c && isDs cs
def setP (x : AV E) : List Nat → AV E → Option (AV E)
  | [], _ => some x
  | i :: p, .t ty v => bif isD x then (setPT x (i :: p) ty v).map (.t ty) else ((openT (.t ty v))[i]?).bind fun c0 => (setP x p c0).map fun c => .agg ((openT (.t ty v)).set i c)
  | i :: p, .agg cs => (cs[i]?).bind fun c0 => (setP x p c0).map fun c => .agg (cs.set i c)
  | _, _ => none

mutual
/-- Does a value fit a place of this layout? -/
def fit : Ty → AV E → Bool
  | ly, .t ty _ => decide (ty = ly) || (decide (ly = .any) && !ty.agg)
  | .nm n, .agg cs => fits (E.body n) cs
  | ly, .agg cs => fits ly cs
  | ly, .undef => false
  | ly, .c _ => false
  | ly, .tup _ => false
  | ly, .own _ _ => false
  | ly, .ownrow _ _ => false
  | ly, .snil _ => false
  | ly, .snn _ _ => false
  | ly, .rsv _ _ _ => false
  | ly, .err _ => false
  | ly, .mp _ k v => decide (ly = .mp k v) || decide (ly = .any)
  | ly, _ => match ly with
    | .sl _ | .any => true
    | _ => false
def fits : Ty → List (AV E) → Bool
  | .one a, [c] => fit a c
  | .pair a b, c :: cs => fit a c && fits b cs
  | _, _ => false
end

structure St (E : Env) where
  t : List (AV E)
  b : List (Blk E)

variable (tt : Nat → Option TE) (gl : Nat → AV E) (H : Hints)

def tyOf (t : Nat) : Ty := match tt t with
  | some x => x.ty
  | none => .any
def tdOf (t : Nat) : TD := match tt t with
  | some x => x.d
  | none => .other

/-- The zero value of a type. -/
def zeroX (z : Nat → AV E) (x : TE) : AV E :=
  bif x.ty.full then .t x.ty (dfl E x.ty) else match x.d with
    | .struct fs => .agg (fs.map fun f => z f.1)
    | .ptr _ => .nilp
    | .func => .nilfn
    | .iface => .niliface
    | .map _ _ => .nilmap
    | _ => .undef
def zeroA : Nat → Nat → AV E
  | 0, _ => .undef
  | n + 1, t => match tt t with
    | none => .undef
    | some x => zeroX (zeroA n) x

/-- A constant as a value of type t. -/
def cv (t : Nat) : Value → AV E
  | .int k n => .t (.int k) n
  | .bool b => .t .bool b
  | .string s => .t .str s.data.toList
  | .slice none 0 0 => match tyOf tt t with
    | .sl e => .exact e []
    | _ => .undef
  | .pointer none => .nilp
  | .nilFunc => .nilfn
  | .nilIface => .niliface
  | .map none => match tyOf tt t with
    | .mp k v => .t (.mp k v) []
    | _ => .nilmap
  | _ => .undef
def ca (t : Nat) : AV E → AV E
  | .c v => cv tt t v
  | a => a

/-- nil as an empty slice. -/
def unN : AV E → AV E
  | .snil e => .exact e []
  | a => a

/-- nil, told apart. -/
def caN (t : Nat) : AV E → AV E
  | .c (.slice none 0 0) => match tyOf tt t with
    | .sl e => .snil e
    | _ => .undef
  | a => ca tt t a

/-- A global that holds an error is marked so: its place is told of no one. -/
def glE : AV E → AV E
  | .err _ => .undef
  | a => a
def evo (s : List (AV E)) : Operand → AV E
  | .tmp i => s.getD i .undef
  | .const v => .c v
  | .func f => .func f []
  | .global g => glE (gl g)

abbrev Upd (E : Env) := List (Nat × Blk E)
/-- What an operation comes to: a condition, and a value. -/
abbrev RP (E : Env) := Option (Bool × AV E)
abbrev RW (E : Env) := Option (Bool × AV E × Upd E)

def r1 (a : AV E) : RP E := some (true, a)
def rc (c : Bool) (a : AV E) : RP E := some (c, a)
def ru (a : AV E) (u : Upd E) : RW E := some (true, a, u)

def wrp (k : IntKind) (n : Int) : AV E := .t (.int k) (k.wrap n)
def bl (b : Bool) : AV E := .t .bool b

def bytesLess : List UInt8 → List UInt8 → Bool
  | _, [] => false
  | [], _ :: _ => true
  | a :: x, b :: y => a < b || (a == b && bytesLess x y)

def bits0 (op : BinOp) (k : IntKind) (x y : Int) : Int :=
  let a := BitVec.ofInt k.bits x
  let b := BitVec.ofInt k.bits y
  match op with
  | .and => k.wrap (a &&& b).toNat
  | .or => k.wrap (a ||| b).toNat
  | .xor => k.wrap (a ^^^ b).toNat
  | _ => k.wrap (a &&& ~~~b).toNat
/-- (Stuck where a number is not known: the kernel must not look into the bits of an unknown number.) -/
def bits (op : BinOp) (k : IntKind) (x y : Int) : Int := match x, y with
  | .ofNat _, .ofNat _ => bits0 op k x y
  | .ofNat _, .negSucc _ => bits0 op k x y
  | .negSucc _, .ofNat _ => bits0 op k x y
  | .negSucc _, .negSucc _ => bits0 op k x y
theorem bits_eq (op : BinOp) (k : IntKind) (x y : Int) : bits op k x y = bits0 op k x y := by
  cases x <;> cases y <;> rfl
def shl (k : IntKind) (x y : Int) : Int := k.wrap (x * 2 ^ (min y.toNat k.bits))
def shr (k : IntKind) (x y : Int) : Int := x.fdiv (2 ^ (min y.toNat k.bits))

def binI (op : BinOp) (k : IntKind) (x y : Int) : RP E :=
  match op with
  | .add => r1 (wrp k (x + y))
  | .sub => r1 (wrp k (x - y))
  | .mul => r1 (wrp k (x * y))
  | .quo => rc (!decide (y = 0)) (wrp k (x.tdiv y))
  | .rem => rc (!decide (y = 0)) (.t (.int k) (x.tmod y))
  | .and => r1 (.t (.int k) (bits .and k x y))
  | .or => r1 (.t (.int k) (bits .or k x y))
  | .xor => r1 (.t (.int k) (bits .xor k x y))
  | .andNot => r1 (.t (.int k) (bits .andNot k x y))
  | .eql => r1 (bl (decide (x = y)))
  | .neq => r1 (bl (!decide (x = y)))
  | .lss => r1 (bl (decide (x < y)))
  | .leq => r1 (bl (decide (x ≤ y)))
  | .gtr => r1 (bl (decide (x > y)))
  | .geq => r1 (bl (decide (x ≥ y)))
  | _ => none
def binS (op : BinOp) (x y : List UInt8) : RP E :=
  match op with
  | .eql => r1 (bl (x == y))
  | .neq => r1 (bl (!(x == y)))
  | .add => rc (decide (x.length + y.length ≤ 4294967296)) (.t .str (x ++ y))
  | .lss => r1 (bl (bytesLess x y))
  | .leq => r1 (bl (bytesLess x y || (x == y)))
  | .gtr => r1 (bl (!(bytesLess x y || (x == y))))
  | .geq => r1 (bl (!bytesLess x y))
  | _ => none
def isNil : AV E → Option Bool
  | .nilp | .nilfn | .niliface | .nilmap => some true
  | .ptr _ _ _ | .eptr _ _ _ _ | .imm _ _ | .func _ _ | .iface _ _ | .mp _ _ _ => some false
  | _ => none
def binII (op : BinOp) (k k' : IntKind) (x y : Int) : RP E :=
  match op with
  | .shl => rc (decide (0 ≤ y)) (.t (.int k) (shl k x y))
  | .shr => rc (decide (0 ≤ y)) (.t (.int k) (shr k x y))
  | op => bif decide (k = k') then binI op k x y else none
def binB (op : BinOp) (x y : Bool) : RP E :=
  match op with
  | .eql => r1 (bl (x == y))
  | .neq => r1 (bl (!(x == y)))
  | _ => none
def bin (td : TD) (op : BinOp) (a b : AV E) : RP E :=
  match a, b with
  | .t (.int k) x, .t (.int k') y => binII op k k' x y
  | .t .str x, .t .str y => binS op x y
  | .t .bool x, .t .bool y => match td with
    | .bool => binB op x y
    | _ => none
  | _, _ => none
/-! ### Maps -/
def okK : Ty → Bool
  | .str | .int _ | .bool => true
  | _ => false
def eqK (E : Env) : (k : Ty) → E.D k → E.D k → Bool
  | .str, a, b => @BEq.beq (List UInt8) _ a b
  | .int _, a, b => @BEq.beq Int _ a b
  | .bool, a, b => @BEq.beq Bool _ a b
  | _, _, _ => false
def mget (E : Env) (k v : Ty) (es : List (E.D k × E.D v)) (x : E.D k) : Option (E.D v) := (es.find? fun p => eqK E k x p.1).map (·.2)
def mgetD (E : Env) (k v : Ty) (es : List (E.D k × E.D v)) (x : E.D k) : E.D v := match mget E k v es x with
  | some y => y
  | none => dfl E v
def mset (E : Env) (k v : Ty) (x : E.D k) (y : E.D v) : List (E.D k × E.D v) → List (E.D k × E.D v)
  | [] => [(x, y)]
  | p :: r => bif eqK E k x p.1 then (x, y) :: r else p :: mset E k v x y r
def mlook (E : Env) (k v : Ty) (es : List (E.D k × E.D v)) (x : E.D k) (c : Bool) : AV E :=
  bif c then .tup [.t v (mgetD E k v es x), .t .bool (mget E k v es x).isSome] else .t v (mgetD E k v es x)

/-- Structs of numbers, texts and truths. -/
def okF (tt : Nat → Option TE) (a : Ty) (t : Nat) : Bool := match a, tdOf tt t with
  | .int k, .int k' => decide (k = k')
  | .bool, .bool => true
  | .str, .str => true
  | _, _ => false
def eqC (tt : Nat → Option TE) : Ty → Nat → List (Nat × Nat) → Bool
  | .one a, o, f :: r => match r with
    | [] => okF tt a f.1 && decide (f.2 = o)
    | _ => false
  | .pair a b, o, f :: r => okF tt a f.1 && decide (f.2 = o) && eqC tt b (o + 1) r
  | _, _, _ => false
def eqS (E : Env) : (t : Ty) → E.D t → E.D t → Bool
  | .one a, x, y => eqK E a x y
  | .pair a b, x, y => eqK E a x.1 y.1 && eqS E b x.2 y.2
  | _, _, _ => false
def binN (tt : Nat → Option TE) (td : TD) (op : BinOp) (n : Nat) (x y : E.R n) : RP E := match td with
  | .struct fs => bif eqC tt (E.body n) 0 fs then (match op with
    | .eql => r1 (bl (eqS E (E.body n) (E.un n x) (E.un n y)))
    | .neq => r1 (bl (!eqS E (E.body n) (E.un n x) (E.un n y)))
    | _ => none) else none
  | _ => none
/-- Arrays of numbers, texts or truths. -/
def eqL (E : Env) : (e : Ty) → List (E.D e) → List (E.D e) → Bool
  | .str, a, b => @BEq.beq (List (List UInt8)) _ a b
  | .int _, a, b => @BEq.beq (List Int) _ a b
  | .bool, a, b => @BEq.beq (List Bool) _ a b
  | _, _, _ => false
def binA (tt : Nat → Option TE) (td : TD) (op : BinOp) (e : Ty) (x y : List (E.D e)) : RP E := match td with
  | .arr _ el => bif okF tt e el then (match op with
    | .eql => r1 (bl (eqL E e x y))
    | .neq => r1 (bl (!eqL E e x y))
    | _ => none) else none
  | _ => none
def binX (tt : Nat → Option TE) (t : Nat) (op : BinOp) (a b : AV E) : RP E := match a, b with
  | .t (.arr n e) x, .t (.arr m e') y => match cst (E := E) (.arr m e') (.arr n e) y with
    | some y => bif decide (tyOf tt t = .arr n e) then binA tt (tdOf tt t) op e x y else none
    | none => none
  | .t (.nm n) x, .t (.nm m) y => match cst (E := E) (.nm m) (.nm n) y with
    | some y => bif decide (tyOf tt t = .nm n) then binN tt (tdOf tt t) op n x y else none
    | none => none
  | a, b => bin (tdOf tt t) op a b

/-- Is it nil? -/
def nilEq (td : TD) (v : Value) (a : AV E) : Option (Bool × Bool) :=
  match td, v, a with
  | .ptr _, .pointer none, .nilp => some (true, true)
  | .ptr _, .pointer none, .ptr _ _ _ => some (true, false)
  | .ptr _, .pointer none, .eptr _ _ _ _ => some (true, false)
  | .ptr _, .pointer none, .imm _ _ => some (true, false)
  | .func, .nilFunc, .nilfn => some (true, true)
  | .func, .nilFunc, .func _ _ => some (true, false)
  | .iface, .nilIface, .niliface => some (true, true)
  | .iface, .nilIface, .iface _ _ => some (true, false)
  | .slice _, .slice none 0 0, .snil _ => some (true, true)
  | .slice _, .slice none 0 0, .snn _ _ => some (true, false)
  | .slice _, .slice none 0 0, .fs _ _ _ n => some (decide (0 < n), false)
  | .iface, .nilIface, .err c => some (true, c)
  | _, _, _ => none
def nilBin (td : TD) (op : BinOp) (v : Value) (a : AV E) : RP E :=
  match op, nilEq td v a with
  | .eql, some (k, c) => rc k (bl c)
  | .neq, some (k, c) => rc k (bl (!c))
  | _, _ => none

/-- The elements of a slice that is read by value. -/
def lst : AV E → Option (Σ e, List (E.D e))
  | .t (.sl e) xs => some ⟨e, xs⟩
  | .sl _ e xs => some ⟨e, xs⟩
  | .exact e xs => some ⟨e, xs⟩
  | .snn e xs => some ⟨e, xs⟩
  | .snil e => some ⟨e, []⟩
  | _ => none

def num : AV E → Option Int
  | .t (.int _) n => some n
  | .c (.int _ n) => some n
  | _ => none

def blk (b : List (Blk E)) (i : Nat) : Blk E := b.getD i .none
/-- A home that no one has. -/
def free (b : List (Blk E)) (i : Nat) : Bool := match b[i]? with
  | some .none => true
  | _ => false

def upds (b : List (Blk E)) : Upd E → List (Blk E)
  | [] => b
  | (i, x) :: r => upds (b.set i x) r

/-! ### Operations that lead to no block -/
def slc (t : Nat) (a : AV E) (lo hi mx : Option Int) : RP E :=
  match a with
  | .t .str s => match tdOf tt t, mx with
    | .str, none => match lo, hi with
      | none, none => r1 (.t .str s)
      | some l, none => rc (decide (0 ≤ l) && decide (l ≤ List.length (α := UInt8) s)) (.t .str (List.drop (α := UInt8) l.toNat s))
      | none, some h => rc (decide (0 ≤ h) && decide (h ≤ List.length (α := UInt8) s)) (.t .str (List.take (α := UInt8) h.toNat s))
      | some l, some h => rc (decide (0 ≤ l) && decide (l ≤ h) && decide (h ≤ List.length (α := UInt8) s)) (.t .str (List.drop (α := UInt8) l.toNat (List.take (α := UInt8) h.toNat s)))
    | _, _ => none
  | .snil e => match tdOf tt t, mx, lo, hi with
    | .slice _, none, none, some h => bif decide (tyOf tt t = .sl e) then rc (decide (h = 0)) (.snil e) else none
    | .slice _, some m, none, some h => bif decide (tyOf tt t = .sl e) then rc (decide (h = 0) && decide (h = m)) (.snil e) else none
    | _, _, _, _ => none
  | .rsv id e n => match tdOf tt t, mx, lo, hi with
    | .slice _, none, none, some h => bif decide (tyOf tt t = .sl e) then rc (decide (h = 0)) (.sl id e []) else none
    | _, _, _, _ => none
  | .fs id e off len => match tdOf tt t, mx with
    | .slice _, none => bif decide (tyOf tt t = .sl e) then match lo, hi with
      | none, none => r1 (.fs id e off len)
      | some l, none => rc (decide (0 ≤ l) && decide (l ≤ len)) (.fs id e (off + l.toNat) (len - l.toNat))
      | _, _ => none
      else none
    | _, _ => none
  | a => match tdOf tt t, lst a with
    | .slice _, some ⟨e, xs⟩ => bif decide (tyOf tt t = .sl e) then match mx with
      | none => match lo, hi with
        | none, none => r1 (.t (.sl e) xs)
        | some l, none => rc (decide (0 ≤ l) && decide (l ≤ xs.length)) (.t (.sl e) (xs.drop l.toNat))
        | none, some h => rc (decide (0 ≤ h) && decide (h ≤ xs.length)) (.t (.sl e) (xs.take h.toNat))
        | some l, some h => rc (decide (0 ≤ l) && decide (l ≤ h) && decide (h ≤ xs.length)) (.t (.sl e) ((xs.take h.toNat).drop l.toNat))
      | some m => match lo, hi with
        | none, some h => rc (decide (0 ≤ h) && decide (h ≤ xs.length) && decide (h = m)) (.exact e (xs.take h.toNat))
        | some l, some h => rc (decide (0 ≤ l) && decide (l ≤ h) && decide (h ≤ xs.length) && decide (h = m)) (.exact e ((xs.take h.toNat).drop l.toNat))
        | _, _ => none
      else none
    | _, _ => none

/-- The numbers that []byte shares with a string. -/
def ints (s : List UInt8) : List Int := s.map fun (c : UInt8) => (c.toNat : Int)
def byts (s : List Int) : List UInt8 := s.map fun (n : Int) => UInt8.ofNat n.toNat

def runeS (n : Int) : RP E := rc (decide (0 ≤ n) && decide (n < 128)) (.t .str [UInt8.ofNat n.toNat])
def conv (src dst : Nat) (x : AV E) : RP E :=
  match tdOf tt src, tdOf tt dst, x with
  | .str, .str, .t .str s => r1 (.t .str s)
  | .int _, .int k, .t (.int _) n => r1 (wrp k n)
  | .int _, .str, .t (.int _) n => runeS n
  | .slice el, .str, a => match tdOf tt el, lst a with
    | .int .u8, some ⟨.int .u8, xs⟩ => r1 (.t .str (byts xs))
    | _, _ => none
  | _, _, _ => none

/-- The parts of a struct, in order: what is given, else zero. -/
def parts (ps : List (Nat × AV E)) : List (Nat × Nat) → Nat → List (AV E)
  | [], _ => []
  | f :: fs, i => (match ps.lookup i with
    | some x => ca tt f.1 x
    | none => zeroA tt 20 f.1) :: parts ps fs (i + 1)

def elems (el : Nat) (ps : List (Nat × AV E)) (ty : Ty) : Nat → Nat → Option (List (E.D ty))
  | 0, _ => some []
  | n + 1, i => match (match ps.lookup i with
      | some x => toT (ca tt el x) ty
      | none => some (dfl E ty)), elems el ps ty n (i + 1) with
    | some x, some l => some (x :: l)
    | _, _ => none

def nodup : List Nat → Bool
  | [] => true
  | a :: l => !l.contains a && nodup l

/-- A struct out of its parts. -/
def build (t : Nat) (ps : List (Nat × AV E)) : RP E :=
  match tt t with
  | none => none
  | some x => match x.d with
    | .struct fs =>
      let cs := parts tt ps fs 0
      bif nodup (ps.map (·.1)) && ps.all (fun p => decide (p.1 < fs.length)) then
        bif x.ty.full then match toT (.agg cs) x.ty with
          | some v => r1 (.t x.ty v)
          | none => none
        else bif fit x.ty (.agg cs) then r1 (.agg cs) else none
      else none
    | .arr m el => match x.ty with
      | .arr m' e => bif decide (m' = m) && decide (tyOf tt el = e) && e.full && nodup (ps.map (·.1)) && ps.all (fun p => decide (p.1 < m)) then match elems tt el ps e m 0 with
        | some xs => r1 (.t (.arr m e) xs)
        | none => none else none
      | _ => none
    | _ => none

def idxA (t : Nat) (x i : AV E) : RP E :=
  match num i with
  | none => none
  | some n => match tdOf tt t with
    | .slice _ => match x with
      | .fs id e off len => bif decide (tyOf tt t = .sl e) then rc (decide (0 ≤ n) && decide (n < len)) (.eptr id e (off + n.toNat) []) else none
      | x => match lst x with
        | some ⟨e, xs⟩ => bif decide (tyOf tt t = .sl e) then rc (decide (0 ≤ n) && decide (n < xs.length)) (.imm e (xs.getD n.toNat (dfl E e))) else none
        | none => none
    | .arr m _ => match x with
      | .ptr id ly p => bif decide (subTy E ly p = tyOf tt t) then rc (decide (0 ≤ n) && decide (n < m)) (.ptr id ly (p ++ [n.toNat])) else none
      | .eptr id e j p => bif decide (subTy E e p = tyOf tt t) then rc (decide (0 ≤ n) && decide (n < m)) (.eptr id e j (p ++ [n.toNat])) else none
      | .imm (.arr m' e) v => bif decide (Ty.arr m' e = tyOf tt t) then rc (decide (0 ≤ n) && decide (n < m)) (.imm e (List.getD (α := E.D e) v n.toNat (dfl E e))) else none
      | _ => none
    | _ => none

def idxV (t : Nat) (x i : AV E) : RP E :=
  match num i with
  | none => none
  | some n => match x with
    | .t .str s => match tdOf tt t with
      | .str => rc (decide (0 ≤ n) && decide (n < List.length (α := UInt8) s)) (.t (.int .u8) ((List.getD (α := UInt8) s n.toNat 0).toNat : Int))
      | _ => none
    | .t (.arr m e) v => bif decide (Ty.arr m e = tyOf tt t) then match tdOf tt t with
      | .arr _ _ => rc (decide (0 ≤ n) && decide (n < m)) (.t e (List.getD (α := E.D e) v n.toNat (dfl E e)))
      | _ => none else none
    | _ => none

def mxI (x y : Int) : Int := bif decide (y > x) then y else x
def mnI (x y : Int) : Int := bif decide (y < x) then y else x

/-- Operands that may lack, at their places. -/
def optN (l : List (AV E)) : List (Option Operand) → Option (List (Option Int))
  | [] => some []
  | none :: r => (optN l r).map fun x => none :: x
  | some _ :: r => match l with
    | a :: l => match num a with
      | some n => (optN l r).map fun x => some n :: x
      | none => none
    | [] => none

def pickA (c : Bool) : AV E → AV E → AV E
  | .t .bool x, .t .bool y => .t .bool (bif c then x else y)
  | a, b => bif c then a else b

def unA (op : UnOp) (x : AV E) : RP E :=
  match op, x with
  | .not, .t .bool b => r1 (bl (!b))
  | .neg, .t (.int k) n => r1 (wrp k (0 - (show Int from n)))
  | .xor, .t (.int k) n => r1 (.t (.int k) (bits .xor k (if k.signed then -1 else k.max) n))
  | _, _ => none

def fldAddr (t : Nat) (x : AV E) (i : Nat) : RP E :=
  match tdOf tt t with
  | .struct fs => bif decide (i < fs.length) then match x with
    | .ptr id ly p => bif decide (subTy E ly p = tyOf tt t) then r1 (.ptr id ly (p ++ [i])) else none
    | .eptr id e j p => bif decide (subTy E e p = tyOf tt t) then r1 (.eptr id e j (p ++ [i])) else none
    | .imm ty v => bif decide (ty = tyOf tt t) then match fld (.t ty v) i with
      | .t ty' v' => r1 (.imm ty' v')
      | _ => none else none
    | _ => none
    else none
  | _ => none

def defd : AV E → RP E
  | .undef => none
  | a => r1 a
def fldVal (t : Nat) (x : AV E) (i : Nat) : RP E :=
  match tdOf tt t with
  | .struct fs => bif decide (i < fs.length) then match x with
    | .t ty v => bif decide (ty = tyOf tt t) then defd (fld (.t ty v) i) else none
    | .agg cs => bif fit (tyOf tt t) (.agg cs) then defd (fld (.agg cs) i) else none
    | _ => none
    else none
  | _ => none

def lenA (td : TD) (a : AV E) : RP E :=
  match td, a with
  | .str, .t .str l => r1 (.t (.int .i64) (List.length (α := UInt8) l : Int))
  | .slice _, .fs _ _ _ n => r1 (.t (.int .i64) (n : Int))
  | .map _ _, .nilmap => r1 (.t (.int .i64) (0 : Int))
  | .slice _, a => match lst a with
    | some ⟨_, xs⟩ => r1 (.t (.int .i64) (xs.length : Int))
    | none => none
  | _, _ => none
def mxA (a b : AV E) : RP E :=
  match a, b with
  | .t (.int k) x, .t (.int k') y => bif decide (k = k') then r1 (.t (.int k) (mxI x y)) else none
  | _, _ => none
def mnA (a b : AV E) : RP E :=
  match a, b with
  | .t (.int k) x, .t (.int k') y => bif decide (k = k') then r1 (.t (.int k) (mnI x y)) else none
  | _, _ => none

/-- Operations whose answer hangs on their operands alone. -/
def pureA (op : Op) (ty : Nat) (l : List (AV E)) : RP E :=
  match op, l with
  | .move _, [.c v] => match cv (E := E) tt ty v with
    | .exact _ _ => none
    | .undef => none
    | a => r1 a
  | .assign _, [.c v] => match cv (E := E) tt ty v with
    | .exact _ _ => none
    | .undef => none
    | a => r1 a
  | .move _, [a] => r1 a
  | .assign _, [a] => r1 a
  | .pick _ _ _, [c, a, b] => match ca tt 0 c with
    | .t .bool c => r1 (pickA c (ca tt ty a) (ca tt ty b))
    | _ => none
  | .build t ps, l => build tt t ((ps.toList.map (·.1)).zip l)
  | .fieldAddr t _ i, [x] => fldAddr tt t x i
  | .field t _ i, [x] => fldVal tt t x i
  | .binOp op t _ yo t', [x, y] => match yo with
    | .const (.pointer none) => nilBin (tdOf tt t) op (.pointer none) x
    | .const .nilFunc => nilBin (tdOf tt t) op .nilFunc x
    | .const .nilIface => nilBin (tdOf tt t) op .nilIface x
    | .const (.slice none 0 0) => nilBin (tdOf tt t) op (.slice none 0 0) x
    | _ => binX tt t op (ca tt t x) (ca tt t' y)
  | .unOp op t x, [a] => unA op (ca tt t a)
  | .indexAddr t _ _, [x, i] => idxA tt t x i
  | .index t _ _, [x, i] => idxV tt t (ca tt t x) i
  | .slice t _ lo hi mx, x :: l => match optN l [lo, hi, mx] with
    | some [lo, hi, mx] => slc tt t (ca tt t x) lo hi mx
    | _ => none
  | .convert src dst _, [x] => conv tt src dst (ca tt src x)
  | .makeFunc (.func g) _ _, [] => r1 (.func g [])
  | .extract _ i, [.tup l] => match l[i]? with
    | some a => r1 a
    | none => none
  | .nilCheck _, [x] => match isNil x with
    | some false => r1 x
    | _ => none
  | .load t _, [.imm ty v] => bif decide (ty = tyOf tt t) then r1 (.t ty v) else none
  | .call c, l => match c.callee, c.argTypes.toList, l with
    | .builtin .len, [t], [a] => lenA (tdOf tt t) a
    | .builtin .cap, [t], [.exact _ xs] => match tdOf tt t with
      | .slice _ => r1 (.t (.int .i64) (xs.length : Int))
      | _ => none
    | .builtin .cap, [t], [.snil _] => match tdOf tt t with
      | .slice _ => r1 (.t (.int .i64) (0 : Int))
      | _ => none
    | .builtin .max, _, [a, b] => mxA (ca tt ty a) (ca tt ty b)
    | .builtin .min, _, [a, b] => mnA (ca tt ty a) (ca tt ty b)
    | _, _, _ => none
  | _, _ => none

/-! ### Loads -/
def ptrId : AV E → Option Nat
  | .ptr id _ _ => some id
  | .eptr id _ _ _ => some id
  | _ => none
def rcd (c : Bool) (a : AV E) : RP E := match a with
  | .undef => none
  | a => rc c a
def look (b : Blk E) (a : AV E) (t : Nat) : RP E :=
  match a with
  | .ptr _ ly p => bif (tt t).isSome && decide (subTy E ly p = tyOf tt t) then match b with
      | .var ly' a => bif decide (ly' = ly) then rcd (inR E ly p) (getP a p) else none
      | .frz ly' v => bif decide (ly' = ly) then rcd (inR E ly p) (getP (.t ly' v) p) else none
      | _ => none
    else none
  | .eptr _ e i p => bif (tt t).isSome && decide (subTy E e p = tyOf tt t) then match b with
      | .row e' xs => bif decide (e' = e) then rcd (inR E e p && decide (i < xs.length)) (getP (.t e' (xs.getD i (dfl E e'))) p) else none
      | _ => none
    else none
  | _ => none

/-! ### Operations that make or turn blocks -/
def put (b : List (Blk E)) (a : AV E) (t : Nat) (x : AV E) : RW E :=
  match a with
  | .ptr id ly p => bif (tt t).isSome && decide (subTy E ly p = tyOf tt t) && fit (tyOf tt t) x then match blk b id with
      | .var ly' a => bif decide (ly' = ly) then match setP x p a with
        | some a' => some (inR E ly p, .undef, [(id, .var ly' a')])
        | none => none else none
      | _ => none
    else none
  | .eptr id e i p => bif (tt t).isSome && decide (subTy E e p = tyOf tt t) && fit (tyOf tt t) x then match blk b id with
      | .row e' xs => bif decide (e' = e) then match setPT x p e' (xs.getD i (dfl E e')) with
        | some v => some (inR E e p && decide (i < xs.length), .undef, [(id, .row e' (xs.set i v))])
        | none => none else none
      | _ => none
    else none
  | _ => none

/-- nil slices among the parts that are to be appended to. -/
def regrow (hs : List (Nat × Nat)) : List (AV E) → Nat → List (AV E) × Upd E
  | [], _ => ([], [])
  | c :: cs, i =>
    let r := regrow hs cs (i + 1)
    match hs.lookup i with
    | some id => match c with
      | .exact e xs => (.sl id e xs :: r.1, (id, .grow e xs.length) :: r.2)
      | c => (c :: r.1, r.2)
    | none => (c :: r.1, r.2)

/-- nil in the place of what isn't given. -/
def partsN (ps : List (Nat × AV E)) : List (Nat × Nat) → Nat → List (AV E)
  | [], _ => []
  | f :: fs, i => (match ps.lookup i with
    | some x => ca tt f.1 x
    | none => match tyOf tt f.1 with
      | .sl e => bif e.full then .exact e [] else zeroA tt 20 f.1
      | _ => zeroA tt 20 f.1) :: partsN ps fs (i + 1)

def cap1 (b : List (Blk E)) : AV E → Option (Cap E × Upd E)
  | .ptr id ly [] => match blk b id with
    | .var ly' a => bif decide (ly' = ly) then match toT a ly' with
      | some v => some (⟨ly', v⟩, [(id, .frz ly' v)])
      | none => none else none
    | .frz ly' v => bif decide (ly' = ly) then some (⟨ly', v⟩, []) else none
    | _ => none
  | .imm ty v => some (⟨ty, v⟩, [])
  | _ => none
def caps (b : List (Blk E)) : List (AV E) → Option (List (Cap E) × Upd E)
  | [] => some ([], [])
  | a :: l => match cap1 b a, caps b l with
    | some (x, u), some (y, v) => some (x :: y, u ++ v)
    | _, _ => none

def cpOf (b : List (Blk E)) : AV E → Option (CP E)
  | .ptr id ly [] => match blk b id with
    | .var ly' _ => bif decide (ly' = ly) then some (.pt id ly') else none
    | .frz ly' v => bif decide (ly' = ly) then some (.im ⟨ly', v⟩) else none
    | _ => none
  | .imm ty v => some (.im ⟨ty, v⟩)
  | _ => none
def cpsOf (b : List (Blk E)) : List (AV E) → Option (List (CP E))
  | [] => some []
  | a :: l => match cpOf b a, cpsOf b l with
    | some x, some y => some (x :: y)
    | _, _ => none
/-- The places that a function value has caught, as they are now. -/
def lendC (b : List (Blk E)) : List (CP E) → Option (List (Cap E) × List Nat)
  | [] => some ([], [])
  | .im c :: l => match lendC b l with
    | some (x, i) => some (c :: x, i)
    | none => none
  | .pt id ly :: l => match blk b id, lendC b l with
    | .var ly' (.t ty v), some (x, i) => bif decide (ly' = ly) && decide (ty = ly) then some (⟨ty, v⟩ :: x, id :: i) else none
    | _, _ => none
def cpIds : List (CP E) → List Nat
  | [] => []
  | .im _ :: l => cpIds l
  | .pt id _ :: l => id :: cpIds l

def lstS : AV E → Option (Σ e, List (E.D e))
  | .t .str x => some ⟨.int .u8, ints x⟩
  | b => lst b

def over {α : Type} (xs ys : List α) (off : Nat) : List α := xs.take off ++ ys ++ xs.drop (off + ys.length)

/-- A source: data, or what a row holds. -/
def lstB (b : List (Blk E)) : AV E → Option (Σ e, List (E.D e))
  | .fs id e off len => match blk b id with
    | .row e' xs => bif decide (e' = e) then some ⟨e', (xs.drop off).take len⟩ else none
    | _ => none
  | a => lstS a

/-- A row that is written on in its own place. -/
def appR (b : List (Blk E)) (t id : Nat) (e : Ty) (off len off2 len2 : Nat) : RW E :=
  match blk b id with
  | .row e' xs => bif decide (e' = e) && decide (tyOf tt t = .sl e') then some (decide (off + len + len2 ≤ xs.length) && decide (off2 + len2 ≤ xs.length), .fs id e' off (len + len2), [(id, .row e' (over xs ((xs.drop off2).take len2) (off + len)))]) else none
  | _ => none

def appd (b : List (Blk E)) (d : Nat) (t : Nat) (x y : AV E) : RW E :=
  match lstB b y with
  | none => none
  | some ⟨e', ys⟩ => match x with
    | .sl id e xs => match cst (.sl e') (.sl e) ys, blk b id with
      | some (ys : List (E.D e)), .grow e'' n => bif decide (e'' = e) && decide (tyOf tt t = .sl e) then some (decide (n = xs.length) && decide (xs.length + ys.length ≤ 4294967296), .sl id e (xs ++ ys), [(id, .grow e (xs ++ ys).length)]) else none
      | _, _ => none
    | .exact e xs => match cst (.sl e') (.sl e) ys with
      | some (ys : List (E.D e)) => bif free b d && decide (tyOf tt t = .sl e) then some (decide (xs.length + ys.length ≤ 4294967296), .sl d e (xs ++ ys), [(d, .grow e (xs ++ ys).length)]) else none
      | none => none
    | .fs id e off len => match blk b id with
      | .row e'' xs => match cst (.sl e') (.sl e'') ys with
        | some (ys : List (E.D e'')) => bif decide (e = e'') && decide (tyOf tt t = .sl e'') && decide (off = 0) && free b (d + 16) then some (decide (len = xs.length) && decide (xs.length + ys.length ≤ 4294967296), .fs (d + 16) e'' 0 (xs ++ ys).length, [(id, .rowz e''), (d + 16, .row e'' (xs ++ ys))]) else none
        | none => none
      | _ => none
    | _ => none


/-- Room for so many, and nothing in it. -/
def appMk (b : List (Blk E)) (d : Nat) (t : Nat) (x y : AV E) : RW E :=
  match x, num y with
  | .snil e, some n => bif free b d && decide (tyOf tt t = .sl e) then some (decide (0 < n) && decide (n ≤ 4294967296), .rsv d e n.toNat, [(d, .grow e 0)]) else none
  | _, _ => none

/-- Is it a view of this row? -/
def sameR (x y : AV E) : Option (Nat × Ty × Nat × Nat × Nat × Nat) := match x, y with
  | .fs id e off len, .fs id2 _ off2 len2 => bif Nat.beq id id2 then some (id, e, off, len, off2, len2) else none
  | _, _ => none
def appS (b : List (Blk E)) (d : Nat) (t : Nat) (x y : AV E) : RW E := match sameR x y with
  | some (id, e, off, len, off2, len2) => appR tt b t id e off len off2 len2
  | none => appd tt b d t x y

def clrR (b : List (Blk E)) (t : Nat) (x : AV E) : RW E :=
  match x with
  | .fs id e off len => match blk b id with
    | .row e' xs => bif decide (e' = e) && decide (tyOf tt t = .sl e') then some (decide (off + len ≤ xs.length), .undef, [(id, .row e' (over xs (List.replicate len (dfl E e')) off))]) else none
    | _ => none
  | _ => none

/-- A view of a row, as far as the row goes. -/
def slcR (b : List (Blk E)) (t id : Nat) (e : Ty) (off : Nat) (lo h : Int) (mx : Option Int) : RW E :=
  match tdOf tt t, blk b id with
  | .slice _, .row e' xs => bif decide (e' = e) && decide (tyOf tt t = .sl e') then match mx with
    | none => some (decide (0 ≤ lo) && decide (lo ≤ h) && decide (off + h ≤ xs.length), .fs id e' (off + lo.toNat) (h.toNat - lo.toNat), [])
    | some m => some (decide (0 ≤ lo) && decide (lo ≤ h) && decide (h ≤ m) && decide (off + m ≤ xs.length), .undef, [])
    else none
  | _, _ => none

def cpy (b : List (Blk E)) (t : Nat) (x y : AV E) : RW E :=
  match x with
  | .fs id e off len => match lstB b y, blk b id with
    | some ⟨e', ys⟩, .row e'' xs => match cst (.sl e') (.sl e'') ys with
      | some (ys : List (E.D e'')) => bif decide (e'' = e) && decide (tyOf tt t = .sl e) then some (decide (off + len ≤ xs.length), .t (.int .i64) ((min ys.length len : Nat) : Int), [(id, .row e'' (over xs (ys.take len) off))]) else none
      | none => none
    | _, _ => none
  | _ => none

def mkSl (f : FuncId) (b : List (Blk E)) (d : Nat) (t : Nat) (l c : AV E) : RW E :=
  let g := bif (H.asrow f).contains d then d + 16 else d
  match tyOf tt t, num l, num c, free b g with
  | .sl e, some l, some c, true =>
    let ok := decide (0 ≤ l) && decide (l ≤ c) && decide (c ≤ 4294967296)
    bif (H.asrow f).contains d then some (ok, .fs g e 0 l.toNat, [(g, .row e (List.replicate l.toNat (dfl E e)))])
    else some (ok && decide (l = 0), .sl g e [], [(g, .grow e 0)])
  | _, _, _, _ => none

def movN (r : Bool) (b : List (Blk E)) (d : Nat) (a : AV E) : RW E :=
  match a with
  | .exact e [] => bif free b (d + 16) then (bif r then ru (.fs (d + 16) e 0 0) [(d + 16, .row e [])] else ru (.sl (d + 16) e []) [(d + 16, .grow e 0)]) else ru (.exact e []) []
  | _ => none

/-- A map that is looked at: its own block, or data. -/
def mapOf (b : List (Blk E)) : AV E → Option (Σ k v, List (E.D k × E.D v))
  | .mp id k v => match blk b id with
    | .mp k' v' es => bif decide (k' = k) && decide (v' = v) then some ⟨k', v', es⟩ else none
    | _ => none
  | .t (.mp k v) es => some ⟨k, v, es⟩
  | _ => none
def keyOK (kt : Nat) (k : Ty) : Bool := match k, tdOf tt kt with
  | .str, .str => true
  | .int i, .int j => decide (i = j)
  | .bool, .bool => true
  | _, _ => false
def lookM (b : List (Blk E)) (t : Nat) (c : Bool) (x key : AV E) : RW E :=
  match tdOf tt t, mapOf b x with
  | .map kt vt, some ⟨k, v, es⟩ => bif keyOK tt kt k && v.full && decide (tyOf tt vt = v) then match toT (ca tt kt key) k with
    | some y => ru (mlook E k v es y c) []
    | none => none else none
  | _, _ => none
/-- A new key among keys, in the keys' order. -/
def insS {V : Type} (y : List UInt8) (z : V) : List (List UInt8 × V) → List (List UInt8 × V)
  | [] => [(y, z)]
  | p :: r => bif bytesLess y p.1 then (y, z) :: p :: r else p :: insS y z r
/-- An entry that is set: where the key is a text that the program spells, it must be new, and takes its place by the keys' order (so the order of setting tells nothing). -/
def putE (key : AV E) : (k v : Ty) → E.D k → E.D v → List (E.D k × E.D v) → Bool × List (E.D k × E.D v)
  | .str, v, y, z, es => match key with
    | .c (.string _) => (!(List.any (α := List UInt8 × E.D v) es fun p => p.1 == (y : List UInt8)), insS (V := E.D v) y z es)
    | _ => (true, mset E .str v y z es)
  | k, v, y, z, es => (true, mset E k v y z es)
def putM (b : List (Blk E)) (t : Nat) (x key val : AV E) : RW E :=
  match tdOf tt t, x with
  | .map kt vt, .mp id k v => match blk b id with
    | .mp k' v' es => bif keyOK tt kt k' && decide (k' = k) && decide (v' = v) && decide (tyOf tt vt = v') then match toT (ca tt kt key) k', toT (ca tt vt val) v' with
      | some y, some z => some ((putE key k' v' y z es).1, .undef, [(id, .mp k' v' (putE key k' v' y z es).2)])
      | _, _ => none else none
    | _ => none
  | _, _ => none
def newM (b : List (Blk E)) (d t : Nat) : RW E :=
  match tdOf tt t, tyOf tt t with
  | .map _ _, .mp k v => bif free b d then ru (.mp d k v) [(d, .mp k v [])] else none
  | _, _ => none
def frzM (b : List (Blk E)) (id : Nat) (k v : Ty) : RW E := match blk b id with
  | .mp k' v' es => bif decide (k' = k) && decide (v' = v) then ru (.t (.mp k' v') es) [(id, .mpz)] else none
  | _ => none

/-- A view of an array that isn't written any more. -/
def slcA (b : List (Blk E)) (t id : Nat) (ly : Ty) (lo hi : Option Int) : RW E :=
  match ly with
  | .arr n e => match tdOf tt t, blk b id with
    | .arr _ _, .var ly' (.t ty v) => bif decide (ly' = .arr n e) && decide (tyOf tt t = .arr n e) then match cst ty (.arr n e) v with
        | some (v : List (E.D e)) => some (decide (0 ≤ lo.getD 0) && decide (lo.getD 0 ≤ hi.getD n) && decide (hi.getD n ≤ (n : Int)), .t (.sl e) ((v.take (hi.getD n).toNat).drop (lo.getD 0).toNat), [(id, .frz (.arr n e) v)])
        | none => none
      else none
    | _, _ => none
  | _ => none
/-- A new variable: zero; or a slice that is to grow. -/
def allocA (b : List (Blk E)) (d t : Nat) : List (Nat × Nat) → RW E
  | [] => bif free b d && fit (tyOf tt t) (zeroA (E := E) tt 20 t) then ru (.ptr d (tyOf tt t) []) [(d, .var (tyOf tt t) (zeroA tt 20 t))] else none
  | (c, h) :: _ => match tyOf tt t with
    | .sl e => bif free b d && free b h && !decide (h = d) && e.full then (bif Nat.beq c 1 then ru (.ptr d (.sl e) []) [(h, .row e []), (d, .var (.sl e) (.fs h e 0 0))] else ru (.ptr d (.sl e) []) [(h, .grow e 0), (d, .var (.sl e) (.sl h e []))]) else none
    | _ => none
def wA (f : FuncId) (b : List (Blk E)) (op : Op) (ty : Nat) (d : Nat) (l : List (AV E)) : RW E :=
  match op, l with
  | .move _, [.c v] => movN ((H.asrow f).contains d) b d (cv tt ty v)
  | .assign _, [.c v] => movN ((H.asrow f).contains d) b d (cv tt ty v)
  | .move _, [.fs id e off n] => match blk b id with
    | .row e' xs => bif decide (e' = e) && decide (off = 0) then some (decide (n = xs.length), .t (.sl e') xs, [(id, .rowz e')]) else none
    | _ => none
  | .move _, [.mp id k v] => frzM b id k v
  | .assign _, [.mp id k v] => frzM b id k v
  | .makeMap t none, [] => newM tt b d t
  | .makeMap t (some _), [h] => match num h with
    | some _ => newM tt b d t
    | none => none
  | .lookup t _ _ c, [x, key] => lookM tt b t c x key
  | .mapUpdate t _ _ _, [x, key, val] => putM tt b t x key val
  | .insert t _ _ _, [x, key, val] => putM tt b t x key val
  | .alloc t, [] => allocA tt b d t (H.asagg f d)
  | .box t _, [x] => bif free b d && fit (tyOf tt t) (ca tt t x) then ru (.ptr d (tyOf tt t) []) [(d, .var (tyOf tt t) (ca tt t x))] else none
  | .build t ps, l => match tt t with
    | some ⟨ty, .struct fs⟩ =>
      let r := regrow (H.asagg f d) (partsN tt ((ps.toList.map (·.1)).zip l) fs 0) 0
      bif fit ty (.agg r.1) && (r.2.all fun x => free b x.1) && nodup (r.2.map (·.1)) && nodup (ps.toList.map (·.1)) && (ps.toList.map (·.1)).all (fun p => decide (p < fs.length)) then ru (.agg r.1) r.2 else none
    | _ => none
  | .buildSlice t n ps, l => match tdOf tt t, tyOf tt t with
    | .slice el, .sl e => match (bif nodup (ps.toList.map (·.1)) && (ps.toList.map (·.1)).all (fun p => decide (p < n)) && decide (n ≤ 1000) then elems tt el ((ps.toList.map (·.1)).zip l) e n 0 else none) with
      | some xs => bif (H.asrow f).contains d then (bif free b (d + 16) then ru (.fs (d + 16) e 0 n) [(d + 16, .row e xs)] else none) else ru (.exact e xs) []
      | none => none
    | _, _ => none
  | .store t _ _, [a, x] => put tt b a t (ca tt t x)
  | .slice t _ lo hi mx, .ptr id ly [] :: l => match optN l [lo, hi, mx] with
    | some [lo, hi, none] => slcA tt b t id ly lo hi
    | _ => none
  | .slice t _ lo hi mx, .fs id e off _ :: l => match optN l [lo, hi, mx] with
    | some [lo, some h, mx] => slcR tt b t id e off (lo.getD 0) h mx
    | _ => none
  | .slice t _ lo hi mx, x :: l => match optN l [lo, hi, mx] with
    | some [lo, hi, mx] => match slc tt t (ca tt t x) lo hi mx with
      | some (c, .exact e xs) => bif free b (d + 16) then some (c && decide (xs.length = 0), .fs (d + 16) e 0 0, [(d + 16, .row e [])]) else none
      | _ => none
    | _ => none
  | .convert src dst _, [x] => match tdOf tt src, ca tt src x, tdOf tt dst, tyOf tt dst with
    | .str, .t .str s, .slice el, .sl (.int .u8) => match tdOf tt el with
      | .int .u8 => bif (H.asrow f).contains d then (bif free b (d + 16) then ru (.fs (d + 16) (.int .u8) 0 (List.length (α := Int) (ints s))) [(d + 16, .row (.int .u8) (ints s))] else none) else ru (.t (.sl (.int .u8)) (ints s)) []
      | _ => none
    | .slice _, .fs id e off n, .slice el, .sl e' => match tdOf tt el, blk b id with
      | .int .u8, .row e'' xs => bif decide (src = dst) && decide (off = 0) && decide (e' = e'') && decide (e = e'') then some (decide (n = xs.length) && decide (0 < n), .t (.sl e'') xs, [(id, .rowz e'')]) else none
      | _, _ => none
    | _, _, _, _ => none
  | .makeFunc (.func g) fi _, l => bif H.mutcap.contains g then (match fi.size, cpsOf b l with
    | 0, some ps => ru (.funp g ps) []
    | _, _ => none) else match fi.size, caps b l with
    | 0, some (l, u) => ru (.func g l) u
    | _, _ => none
  | .makeSlice t _ _, [x, y] => match tdOf tt t with
    | .slice _ => mkSl tt H f b d t x y
    | _ => none
  | .call c, l => match c.callee, l with
    | .builtin .append, [x, y] => match c.argTypes.toList with
      | [t, u] => match tdOf tt t, tdOf tt u with
        | .slice _, .slice _ => appS tt b d t (unN (ca tt t x)) (ca tt u y)
        | .slice _, .str => appd tt b d t (unN (ca tt t x)) (ca tt u y)
        | .slice _, .int _ => appMk tt b d t x (ca tt u y)
        | _, _ => none
      | _ => none
    | .builtin .len, [x] => match c.argTypes.toList with
      | [t] => match tdOf tt t, mapOf b x with
        | .map _ _, some ⟨_, _, es⟩ => ru (.t (.int .i64) (es.length : Int)) []
        | _, _ => none
      | _ => none
    | .builtin .clear, [x] => match c.argTypes.toList with
      | [t] => match tdOf tt t with
        | .slice _ => clrR tt b t x
        | _ => none
      | _ => none
    | .builtin .copy, [x, y] => match c.argTypes.toList with
      | [t, u] => match tdOf tt t with
        | .slice _ => cpy tt b t x (ca tt u y)
        | _ => none
      | _ => none
    | _, _ => none
  | _, _ => none

/-! ### Rows and maps that are data from here on -/
mutual
def settleA (m : Nat) : List (Blk E) → AV E → Option (Bool × AV E × Upd E)
  | b, .fs id e off n => match blk b id with
    | .row e' xs => bif decide (e' = e) then (match m with
      | 1 => bif decide (off = 0) then some (decide (n = xs.length), .t (.sl e') xs, [(id, .rowz e')]) else none
      | _ => some (decide (off + n ≤ xs.length), .t (.sl e') ((xs.drop off).take n), [(id, .rowz e')])) else none
    | _ => none
  | b, .mp id k v => match blk b id with
    | .mp k' v' es => bif decide (k' = k) && decide (v' = v) then some (true, .t (.mp k' v') es, [(id, .mpz)]) else none
    | _ => none
  | b, .agg cs => match settleL m b cs with
    | some (c, l, u) => some (c, .agg l, u)
    | none => none
  | b, .ptr id ly p => match m with
    | 3 => match blk b id with
      | .var ly' a => bif decide (ly' = ly) then match toT a ly' with
        | some v => some (true, .ptr id ly p, [(id, .frz ly' v)])
        | none => none else none
      | _ => some (true, .ptr id ly p, [])
    | _ => some (true, .ptr id ly p, [])
  | _, a => some (true, a, [])
def settleL (m : Nat) : List (Blk E) → List (AV E) → Option (Bool × List (AV E) × Upd E)
  | _, [] => some (true, [], [])
  | b, a :: l => match settleA m b a with
    | some (c, a', u) => match settleL m (upds b u) l with
      | some (c', l', u') => some (c && c', a' :: l', u ++ u')
      | none => none
    | none => none
end
def settleT : List (Nat × Nat) → St E → Option (Bool × St E)
  | [], s => some (true, s)
  | (i, m) :: r, s => match settleA m s.b (s.t.getD i .undef) with
    | some (c, a, u) => match settleT r { t := s.t.set i a, b := upds s.b u } with
      | some (c', s') => some (c && c', s')
      | none => none
    | none => none
def opTmps (m : Nat) (o : Oper) : List (Nat × Nat) := o.op.operands.toList.filterMap fun
  | .tmp t => some (t, m)
  | _ => none
/-- By which number an operation is known among the hints. -/
def preKey (o : Oper) : Nat := match o.dst with
  | some d => d
  | none => match o.op with
    | .store _ (.tmp i) _ => 1000 + i
    | _ => 100000
def preK {α : Type} (l : List (Nat × Nat)) (s : St E) (k : St E → Option α) : Option α := match l with
  | [] => k s
  | l => match settleT l s with
    | some (c, s') => bif c then k s' else none
    | none => none
def preO (H : Hints) (f : FuncId) (o : Oper) : List (Nat × Nat) := match H.pre f (preKey o) with
  | 0 => []
  | m => opTmps m o

/-! ### Calls -/
def closed1 : AV E → Bool
  | .t _ _ | .nilp | .nilfn | .niliface | .nilmap | .imm _ _ => true
  | _ => false

/-- An argument: what is handed over, the block that goes with it, and whose it is. -/
def pass1 (b : List (Blk E)) (consumes : Bool) (pi : Nat) (ty : Ty) : AV E → Option (AV E × Blk E × Option Nat)
  | .t a v => some (.t a v, .none, none)
  | .exact e xs => some (.t (.sl e) xs, .none, none)
  | .snn e xs => some (.t (.sl e) xs, .none, none)
  | .snil e => some (.snil e, .none, none)
  | .sl id e xs => bif consumes then match blk b id with
      | .grow e' n => bif decide (e' = e) && decide (n = xs.length) then some (.sl pi e xs, .grow e n, some id) else none
      | _ => none
    else some (.t (.sl e) xs, .none, none)
  | .agg cs => match toT (.agg cs) ty with
    | some v => some (.t ty v, .none, none)
    | none => none
  | .ptr id ly [] => match blk b id with
    | .var ly' (.t ty v) => bif decide (ly' = ly) then some (.ptr pi ly [], .var ly (.t ty v), some id) else none
    | .frz ly' v => bif decide (ly' = ly) then some (.imm ly' v, .none, none) else none
    | _ => none
  | .imm ty v => some (.imm ty v, .none, none)
  | .fs id e off len => match blk b id with
    | .row e' xs => bif decide (e' = e) then some (.fs pi e off len, .row e' xs, some id) else none
    | _ => none
  | .func g cs => some (.func g cs, .none, none)
  | .iface t a => bif closed1 a then some (.iface t a, .none, none) else none
  | .nilp => some (.nilp, .none, none)
  | .nilfn => some (.nilfn, .none, none)
  | .niliface => some (.niliface, .none, none)
  | .nilmap => some (.nilmap, .none, none)
  | _ => none
def passL (b : List (Blk E)) (cons : List Nat) : Nat → List (Nat × AV E) → Option (List (AV E) × List (Blk E) × List (Nat × Nat))
  | _, [] => some ([], [], [])
  | pi, (t, x) :: l => match pass1 b (cons.contains pi) pi (tyOf tt t) (caN tt t x), passL b cons (pi + 1) l with
    | some (a, bb, o), some (as, bs, os) => some (a :: as, bb :: bs, (match o with
      | some id => (pi, id) :: os
      | none => os))
    | _, _ => none

abbrev Out (E : Env) := Option (AV E × List (Blk E))
abbrev CallF (E : Env) := FuncId → List (AV E) → List (Blk E) → Out E

def castT (ty : Ty) : AV E → Option (E.D ty)
  | .t a v => cst a ty v
  | _ => none
def castE : AV E → Option Bool
  | .err c => some c
  | _ => none
def castO (e : Ty) : AV E → Option (List (E.D e))
  | .own a v => cst (.sl a) (.sl e) v
  | _ => none
def castR (e : Ty) : AV E → Option (List (E.D e))
  | .ownrow a v => cst (.sl a) (.sl e) v
  | _ => none
def castS (p : Nat) (e : Ty) : AV E → Blk E → Option (List (E.D e))
  | .sl p' a v, .grow a' n => bif decide (p' = p) && decide (a' = a) && decide (n = v.length) then cst (.sl a) (.sl e) v else none
  | _, _ => none
def castV (ly ty : Ty) : Blk E → Option (E.D ty)
  | .var ly' (.t a v) => bif decide (ly' = ly) then cst a ty v else none
  | _ => none
def castRow (e : Ty) : Blk E → Option (List (E.D e))
  | .row a v => cst (.sl a) (.sl e) v
  | _ => none
def castW (p : Nat) (e : Ty) : AV E → Blk E → Option (Nat × Nat)
  | .fs p' e' 0 len, .row e'' xs => bif Nat.beq p' p && decide (e' = e) && decide (e'' = e) then some (len, xs.length) else none
  | _, _ => none
def castG (e : Ty) : Blk E → Option Nat
  | .grow a n => bif decide (a = e) then some n else none
  | _ => none
/-- A struct whose last field is a row of its own. -/
def AD (E : Env) : List Ty → Ty → Type
  | [], e => List (E.D e)
  | a :: l, e => E.D a × AD E l e
def wag : (l : List Ty) → (e : Ty) → AD E l e → List (AV E)
  | [], e, x => [.ownrow e x]
  | a :: l, e, x => .t a x.1 :: wag l e x.2
def castAg : (l : List Ty) → (e : Ty) → List (AV E) → Option (AD E l e)
  | [], e, cs => match cs with
    | [c] => castR e c
    | _ => none
  | a :: l, e, cs => match cs with
    | c :: r => (castT a c).bind fun x => (castAg l e r).map fun y => (x, y)
    | [] => none
def castA (l : List Ty) (e : Ty) : AV E → Option (AD E l e)
  | .agg cs => castAg l e cs
  | _ => none
def rag (id : Nat) : (l : List Ty) → (e : Ty) → AD E l e → List (AV E)
  | [], e, x => [.fs id e 0 (List.length (α := E.D e) x)]
  | a :: l, e, x => .t a x.1 :: rag id l e x.2
def rowAg : (l : List Ty) → (e : Ty) → AD E l e → List (E.D e)
  | [], _, x => x
  | _ :: l, e, x => rowAg l e x.2
def asTup : AV E → List (AV E)
  | .tup l => l
  | _ => []


/-- Is it a row that was taken? -/
def castZ (e : Ty) (id : Nat) : Blk E → Bool
  | .rowz e' => decide (e' = e)
  | _ => false
section
variable {α : Type}
/-- The blocks that were handed over, as they came back. -/
def backK (outs : List (Blk E)) (b : List (Blk E)) : List (Nat × Nat) → (Upd E → Option α) → Option α
  | [], k => k []
  | (p, id) :: l, k => match blk b id with
    | .var ly (.t ty _) => (castV ly ty (blk outs p)).bind fun v => backK outs b l fun u => k ((id, .var ly (.t ty v)) :: u)
    | .row e _ => bif castZ e id (blk outs p) then backK outs b l fun u => k ((id, .rowz e) :: u) else (castRow e (blk outs p)).bind fun xs => backK outs b l fun u => k ((id, .row e xs) :: u)
    | .grow e _ => (castG e (blk outs p)).bind fun n => backK outs b l fun u => k ((id, .grow e n) :: u)
    | _ => none

def recvK (outs : List (Blk E)) (b : List (Blk E)) (back : List (Nat × Nat)) (id : Nat) (sh : RSh) (a : AV E) (k : AV E → Upd E → Option α) : Option α :=
  match sh with
  | .t ty => (castT ty a).bind fun v => k (.t ty v) []
  | .own e => (castO e a).bind fun xs => bif free b id then k (.sl id e xs) [(id, .grow e xs.length)] else k (.t (.sl e) xs) []
  | .ownrow e => (castR e a).bind fun xs => bif free b id then k (.fs id e 0 xs.length) [(id, .row e xs)] else none
  | .inp p e => (castS p e a (blk outs p)).bind fun xs => match back.lookup p with
    | some id => k (.sl id e xs) []
    | none => none
  | .inrow p e => (castW p e a (blk outs p)).bind fun r => bif decide (r.1 ≤ r.2) then match back.lookup p with
      | some id => k (.fs id e 0 r.1) []
      | none => none
      else none
  | .unit => k .undef []
  | .asis => (castE a).bind fun c => k (.err c) []
  | .ag l e => (castA l e a).bind fun x => bif free b id then k (.agg (rag id l e x)) [(id, .row e (rowAg l e x))] else none
  | _ => none
def recvsK (outs : List (Blk E)) (b : List (Blk E)) (back : List (Nat × Nat)) (step : Nat) : Nat → List RSh → List (AV E) → (List (AV E) → Upd E → Option α) → Option α
  | _, [], _, k => k [] []
  | id, sh :: shs, as, k => recvK outs b back id sh (as.headD .undef) fun a u => recvsK outs b back step (id + step) shs as.tail fun l v => k (a :: l) (u ++ v)
def recvAll (outs : List (Blk E)) (b : List (Blk E)) (back : List (Nat × Nat)) (step d : Nat) (sh : RSh) (a : AV E) (k : AV E → Upd E → Option α) : Option α :=
  match sh with
  | .tup shs => bif decide (0 < shs.length) && decide (shs.length = (asTup a).length) then recvsK outs b back step (d + step) shs (asTup a) fun l u => k (.tup l) u else none
  | sh => recvK outs b back d sh a k

/-- How an operation stands to the blocks: not at all; it reads one; it turns some. -/
inductive Cl where
  | p | l (id : Nat) | w (ids : List Nat) | n (ids : List Nat) | k (id : Nat) (key : List UInt8)

def plainAs (cons : List Nat) : Nat → List (Nat × AV E) → Bool
  | _, [] => true
  | pi, (_, x) :: l => (match x with
    | .ptr _ _ _ | .fs _ _ _ _ => false
    | .sl _ _ _ => !cons.contains pi
    | _ => true) && plainAs cons (pi + 1) l
mutual
def simpleSh : RSh → Bool
  | .t _ | .unit | .asis => true
  | .tup l => simpleShs l
  | _ => false
def simpleShs : List RSh → Bool
  | [] => true
  | s :: l => simpleSh s && simpleShs l
end
/-- A row that is new. -/
def ownSh : RSh → Bool
  | .ownrow _ => true
  | _ => false
def callCl (p n : Bool) (u : Upd E) : Cl := bif p then .p else bif n then .n (u.map (·.1)) else .w (u.map (·.1))
/-- A slice out of its parts hangs on no block. -/
def wCl (op : Op) (u : Upd E) : Cl := match op, u with
  | .buildSlice _ _ _, [] => .p
  | .convert _ _ _, [(i, .row _ _)] => .n [i]
  | .insert _ _ (.const (.string s)) _, [(i, .mp .str _ _)] => .k i s.data.toList
  | _, u => .w (u.map (·.1))

def callK0 (call : CallF E) (b : List (Blk E)) (step : Nat) (f : FuncId) (cs : List (Cap E)) (sh : RSh) (args : List (Nat × AV E)) (d : Nat) (k : Cl → AV E → Upd E → Option α) : Option α :=
  match passL tt b (H.cons f) 0 args with
  | some (as, ins, back) => bif nodup (back.map (·.2)) then (call f (as ++ cs.map fun c => .imm c.ty c.v) (ins ++ cs.map fun _ => .none)).bind fun o =>
      recvAll o.2 b back step d sh o.1 fun a u => backK o.2 b back fun v => bif nodup ((u ++ v).map (·.1)) then k (callCl (plainAs (H.cons f) 0 args && simpleSh sh) (plainAs (H.cons f) 0 args && ownSh sh) (u ++ v)) a (u ++ v) else none else none
  | none => none

/-- What a callee that only reads is handed: data. -/
def lend0 (b : List (Blk E)) (m : Option Nat) : AV E → Option (Bool × AV E × List Nat)
  | .fs id e off n => match m with
    | none => none
    | some m => match blk b id with
      | .row e' xs => bif decide (e' = e) then (match m with
        | 1 => bif decide (off = 0) then some (decide (n = xs.length), .t (.sl e') xs, [id]) else none
        | _ => some (decide (off + n ≤ xs.length), .t (.sl e') ((xs.drop off).take n), [id])) else none
      | _ => none
  | .sl _ e xs => some (true, .t (.sl e) xs, [])
  | .t a v => some (true, .t a v, [])
  | .c v => some (true, .c v, [])
  | .imm ty v => some (true, .imm ty v, [])
  | .func g cs => some (true, .func g cs, [])
  | .funp g ps => match m, lendC b ps with
    | some _, some (cs, i) => some (true, .func g cs, i)
    | _, _ => none
  | .nilfn => some (true, .nilfn, [])
  | .snil e => some (true, .snil e, [])
  | _ => none
def lendFs (b : List (Blk E)) : List (AV E) → Option (Bool × List (AV E) × List Nat)
  | [] => some (true, [], [])
  | a :: l => match lend0 b (some 1) a, lendFs b l with
    | some (c, x, i), some (c', l', is) => some (c && c', x :: l', i ++ is)
    | _, _ => none
def lend1 (b : List (Blk E)) (m : Option Nat) : AV E → Option (Bool × AV E × List Nat)
  | .agg cs => match m with
    | none => none
    | some _ => match lendFs b cs with
      | some (c, l, is) => some (c, .agg l, is)
      | none => none
  | a => lend0 b m a
def lendL (b : List (Blk E)) (lp : List (Nat × Nat)) : Nat → List (Nat × AV E) → Option (Bool × List (Nat × AV E) × List Nat)
  | _, [] => some (true, [], [])
  | p, (t, x) :: l => match lend1 b (lp.lookup p) x, lendL b lp (p + 1) l with
    | some (c, y, i), some (c', l', is) => some (c && c', (t, y) :: l', i ++ is)
    | _, _ => none
def scal1 : AV E → Bool
  | .t .bool _ | .t (.int _) _ | .t .str _ | .undef => true
  | _ => false
def scal : AV E → Bool
  | .tup l => l.all scal1
  | a => scal1 a
def lCl : List Nat → Cl
  | [] => .p
  | [id] => .l id
  | _ => .w []
def callKL (call : CallF E) (b : List (Blk E)) (step : Nat) (f : FuncId) (cs : List (Cap E)) (sh : RSh) (args : List (Nat × AV E)) (d : Nat) (k : Cl → AV E → Upd E → Option α) : Option α :=
  match H.lend f with
  | [] => callK0 tt H call b step f cs sh args d k
  | lp => match lendL b lp 0 args with
    | some (c, args', is) => bif c then callK0 tt H call [] step f cs sh args' d fun _ a u => bif scal a && u.isEmpty then k (lCl is) a [] else none else none
    | none => none

mutual
/-- The blocks that a value leads to. -/
def ids : AV E → List Nat
  | .ptr id _ _ => [id]
  | .eptr id _ _ _ => [id]
  | .sl id _ _ => [id]
  | .rsv id _ _ => [id]
  | .fs id _ _ _ => [id]
  | .mp id _ _ => [id]
  | .funp _ ps => cpIds ps
  | .agg cs => idsL cs
  | .tup l => idsL l
  | .iface _ a => ids a
  | _ => []
def idsL : List (AV E) → List Nat
  | [] => []
  | a :: l => ids a ++ idsL l
end
def idsB : Blk E → List Nat
  | .var _ a => ids a
  | _ => []

/-! ### Open variables that are handed over: each home that goes along has a place behind the parameters -/
def renC (r : Nat → Nat) : CP E → CP E
  | .im c => .im c
  | .pt id ly => .pt (r id) ly
mutual
def renA (r : Nat → Nat) : AV E → AV E
  | .ptr id ly p => .ptr (r id) ly p
  | .eptr id e i p => .eptr (r id) e i p
  | .sl id e xs => .sl (r id) e xs
  | .fs id e off len => .fs (r id) e off len
  | .rsv id e n => .rsv (r id) e n
  | .mp id k v => .mp (r id) k v
  | .funp f ps => .funp f (ps.map (renC r))
  | .agg cs => .agg (renL r cs)
  | .tup l => .tup (renL r l)
  | .iface t a => .iface t (renA r a)
  | a => a
def renL (r : Nat → Nat) : List (AV E) → List (AV E)
  | [] => []
  | a :: l => renA r a :: renL r l
end
def renB (r : Nat → Nat) : Blk E → Blk E
  | .var ly a => .var ly (renA r a)
  | x => x
def posOf : List Nat → Nat → Nat
  | [], _ => 0
  | i :: l, id => bif Nat.beq i id then 0 else posOf l id + 1
def posR (base : Nat) (l : List Nat) (id : Nat) : Nat := base + posOf l id
def backR (base : Nat) (l : List Nat) (p : Nat) : Nat := l.getD (p - base) 0
def addN (l : List Nat) : List Nat → List Nat
  | [] => l
  | i :: r => bif l.contains i then addN l r else addN (l ++ [i]) r
def idsBs (b : List (Blk E)) : List Nat → List Nat
  | [] => []
  | i :: l => (match blk b i with
    | .var _ a => ids a
    | _ => []) ++ idsBs b l
def reach (b : List (Blk E)) : Nat → List Nat → List Nat
  | 0, l => l
  | n + 1, l => reach b n (addN l (idsBs b l))
/-- The homes that an argument takes along. -/
def idsP (b : List (Blk E)) : AV E → List Nat
  | .ptr id _ _ => match blk b id with
    | .frz _ _ => []
    | _ => [id]
  | .fs id _ _ _ => [id]
  | .mp id _ _ => [id]
  | .funp _ ps => cpIds ps
  | _ => []
def idsPs (b : List (Blk E)) : List (Nat × AV E) → List Nat
  | [] => []
  | x :: l => idsP b x.2 ++ idsPs b l
def passP (r : Nat → Nat) (b : List (Blk E)) (ty : Ty) : AV E → Option (AV E)
  | .ptr id ly p => match blk b id with
    | .frz ly' v => match p with
      | [] => bif decide (ly' = ly) then some (.imm ly' v) else none
      | _ => none
    | _ => some (.ptr (r id) ly p)
  | .fs id e off len => some (.fs (r id) e off len)
  | .mp id k v => some (.mp (r id) k v)
  | .funp g ps => some (.funp g (ps.map (renC r)))
  | a => match pass1 b false 0 ty a with
    | some (x, _, none) => some x
    | _ => none
def passPs (r : Nat → Nat) (b : List (Blk E)) : List (Nat × AV E) → Option (List (AV E))
  | [] => some []
  | (t, x) :: l => match passP r b (tyOf tt t) (caN tt t x), passPs r b l with
    | some y, some ys => some (y :: ys)
    | _, _ => none
def capA : CP E → AV E
  | .im c => .imm c.ty c.v
  | .pt id ly => .ptr id ly []
def backL : Nat → List Nat → List (Nat × Nat)
  | _, [] => []
  | p, id :: l => (p, id) :: backL (p + 1) l
/-- A home that comes back leads to such homes alone. -/
def okBk (base n id : Nat) : Blk E → Bool
  | .var _ a => (ids a).all fun p => Nat.ble base p && Nat.blt p (base + n)
  | _ => true
def backP (outs : List (Blk E)) (base : Nat) (L : List Nat) : Nat → List Nat → Option (Upd E)
  | _, [] => some []
  | p, id :: l => bif okBk base L.length id (blk outs p) then (backP outs base L (p + 1) l).map fun u => (id, renB (backR base L) (blk outs p)) :: u else none
/-- Homes that no one has, from the step's fourfold on. -/
def freeTop (b : List (Blk E)) : Nat → Nat → Nat → List Nat
  | 0, _, _ => []
  | _, 0, _ => []
  | n + 1, m + 1, i => bif free b i then i :: freeTop b n m (i + 1) else freeTop b (n + 1) m (i + 1)
def homesP (b : List (Blk E)) (step nx : Nat) (args : List (Nat × AV E)) (cs : List (CP E)) : List Nat := reach b 3 (addN [] (idsPs b args ++ cpIds cs)) ++ freeTop b nx 32 (4 * step)
def okPs (b : List (Blk E)) (base : Nat) (args : List (Nat × AV E)) (cs : List (CP E)) (L : List Nat) : Bool :=
  nodup L && Nat.ble 1 base && Nat.ble (args.length + cs.length) base && (L.all fun i => Nat.blt i b.length) && ((idsPs b args ++ cpIds cs ++ idsBs b L).all fun i => L.contains i)
def insP (b : List (Blk E)) (base : Nat) (L : List Nat) : List (Blk E) := List.replicate base .none ++ L.map fun id => renB (posR base L) (blk b id)
def argsP (base : Nat) (L : List Nat) (as : List (AV E)) (cs : List (CP E)) : List (AV E) := as ++ cs.map fun c => renA (posR base L) (capA c)
def callPK (nx : Nat) (call : CallF E) (b : List (Blk E)) (base step : Nat) (f : FuncId) (cs : List (CP E)) (sh : RSh) (args : List (Nat × AV E)) (d : Nat) (k : Cl → AV E → Upd E → Option α) : Option α :=
  match passPs tt (posR base (homesP b step nx args cs)) b args with
  | some as => bif okPs b base args cs (homesP b step nx args cs) then (call f (argsP base (homesP b step nx args cs) as cs) (insP b base (homesP b step nx args cs))).bind fun o =>
      recvAll o.2 b (backL base (homesP b step nx args cs)) step d sh o.1 fun a u => (backP o.2 base (homesP b step nx args cs) base (homesP b step nx args cs)).bind fun v => bif nodup ((u ++ v).map (·.1)) then k (.w ((u ++ v).map (·.1))) a (u ++ v) else none else none
  | none => none
def callK (call : CallF E) (b : List (Blk E)) (step : Nat) (f : FuncId) (cs : List (Cap E)) (sh : RSh) (args : List (Nat × AV E)) (d : Nat) (k : Cl → AV E → Upd E → Option α) : Option α :=
  match H.phan f with
  | 0 => callKL tt H call b step f cs sh args d k
  | base + 1 => callPK tt (H.nx f) call b (base + 1) step f (cs.map .im) sh args d k

def stepK0 (call : CallF E) (f : FuncId) (s : St E) (o : Oper) (k : Cl → AV E → Upd E → Option α) : Option α :=
  let d := o.dst.getD 100000
  let l := o.op.operands.toList.map (evo gl s.t)
  match o.op, l with
  | .call c, l => match c.callee, l with
    | .builtin bi, l => match pureA tt o.op o.type l with
      | some (c, a) => bif c then k .p a [] else none
      | none => match wA tt H f s.b o.op o.type d l with
        | some (c, a, u) => bif c then k (.w (u.map (·.1))) a u else none
        | none => none
    | .value (.func g), _ :: l => bif decide (c.argTypes.size = l.length) then callK tt H call s.b s.t.length g [] (H.rsh g) (c.argTypes.toList.zip l) d k else none
    | .value _, .func g cs :: l => bif decide (c.argTypes.size = l.length) then callK tt { H with cons := fun _ => [], lend := fun _ => [] } call s.b s.t.length g cs (.t (tyOf tt o.type)) (c.argTypes.toList.zip l) d k else none
    | _, _ => none
  | op, l => match (match H.asagg f d with | [] => pureA tt op o.type l | _ => none) with
    | some (c, a) => bif c then k .p a [] else none
    | none => match op, l with
      | .load t _, [a] => match ptrId a with
        | some id => match look tt (blk s.b id) a t with
          | some (c, x) => bif c then k (.l id) x [] else none
          | none => none
        | none => none
      | op, l => match wA tt H f s.b op o.type d l with
        | some (c, a, u) => bif c then k (wCl op u) a u else none
        | none => none
/-- The call of a function value that reads places which are written later. -/
def funpOf (op : Op) (l : List (AV E)) : Option (FuncId × List (CP E) × List (Nat × AV E)) := match op, l with
  | .call c, .funp g ps :: l => match c.callee with
    | .value _ => bif decide (c.argTypes.size = l.length) then some (g, ps, c.argTypes.toList.zip l) else none
    | _ => none
  | _, _ => none
def stepK (call : CallF E) (f : FuncId) (s : St E) (o : Oper) (k : Cl → AV E → Upd E → Option α) : Option α :=
  match funpOf o.op (o.op.operands.toList.map (evo gl s.t)) with
  | some (g, ps, args) => callPK tt (H.nx g) call s.b (H.phan g) s.t.length g ps (H.rsh g) args (o.dst.getD 100000) k
  | none => stepK0 tt gl H call f s o k
end

def setD (l : List (AV E)) (d : Option Nat) (a : AV E) : List (AV E) := match d with
  | some d => l.set d a
  | none => l
def St.did (s : St E) (d : Option Nat) (a : AV E) (u : Upd E) : St E := { t := setD s.t d a, b := upds s.b u }

/-! ### Regions -/
def opUses (all : List Oper) (o : Oper) : List Nat :=
  (match o.guard with
  | some (j, _) => match (all[j]?).bind (·.dst) with
    | some d => [d]
    | none => []
  | none => []) ++ o.op.operands.toList.filterMap fun
    | .tmp t => some t
    | _ => none

def dstOf (all : List Oper) (j : Nat) : Option Nat := (all[j]?).bind (·.dst)

/-- What lies in a place whose operation was left out. -/
def noB : Value → Bool
  | .tuple _ => true
  | _ => false
section
variable {α : Type}
def opsK (call : CallF E) (f : FuncId) (all : List Oper) : List Oper → List Cl → St E → (List Cl → St E → Option α) → Option α
  | [], acc, s, k => k acc.reverse s
  | o :: r, acc, s, k =>
    let go := fun (s : St E) => stepK tt gl H call f s o fun c a u => opsK call f all r (c :: acc) (s.did o.dst a u) k
    let skip := fun (s : St E) => opsK call f all r (.p :: acc) (s.did o.dst (.c (.tuple #[])) []) k
    match o.guard with
    | none => go s
    | some (j, want) => match dstOf all j with
      | none => none
      | some d => match s.t.getD d .undef with
        | .t .bool b => bif b then (let s' := { s with t := s.t.set d (bl true) }; bif want then go s' else skip s')
                        else (let s' := { s with t := s.t.set d (bl false) }; bif want then skip s' else go s')
        | .c v => bif noB v then skip s else none
        | _ => none
end

/-- In text order: rows may become data ahead of each. -/
def opsP {α : Type} (call : CallF E) (f : FuncId) (all : List Oper) : List Oper → St E → (St E → Option α) → Option α
  | [], s, k => k s
  | o :: r, s, k => preK (preO H f o) s fun s => opsK tt gl H call f all [o] [] s fun _ s => opsP call f all r s k

/-- The ones that are known to come before each, as bits. -/
def masks : List Oper → List Nat → List Nat
  | [], acc => acc
  | o :: r, acc => masks r (acc ++ [o.after.toList.foldl (fun m e => bif Region.binds .any e then m ||| 2 ^ e.on ||| acc.getD e.on 0 else m) 0])

def clash : Cl → Cl → Bool
  | .n a, .n b => a.any fun i => b.contains i
  | .n a, .l i => a.contains i
  | .l i, .n a => a.contains i
  | .n _, .w _ => true
  | .w _, .n _ => true
  | .w _, .w _ => true
  | .k i a, .k j c => i == j && a == c
  | .k i _, .l j => i == j
  | .l j, .k i _ => i == j
  | .k _ _, .w _ => true
  | .w _, .k _ _ => true
  | .k _ _, .n _ => true
  | .n _, .k _ _ => true
  | .w l, .l i => l.contains i
  | .l i, .w l => l.contains i
  | _, _ => false
def apart (all : List Oper) (x y : Oper) : Bool :=
  (match x.dst with | some d => y.dst != some d && !(opUses all y).contains d | none => true) &&
  (match y.dst with | some d => !(opUses all x).contains d | none => true)

/-- May the operations be run in whatever order their edges leave open? -/
def freeGo (all : List Oper) (ms : List Nat) : List (Oper × Cl) → List (Oper × Cl) → Nat → Bool
  | _, [], _ => true
  | acc, y :: r, j => (y.1.after.toList.all fun e => !Region.binds .any e || decide (e.on < j)) && (freeRow all (ms.getD j 0) y acc.reverse 0) && freeGo all ms (y :: acc) r (j + 1)
where
  freeRow (all : List Oper) (m : Nat) (y : Oper × Cl) : List (Oper × Cl) → Nat → Bool
  | [], _ => true
  | x :: r, i => (m.testBit i || (!clash x.2 y.2 && apart all x.1 y.1)) && freeRow all m y r (i + 1)
def freeOrder (all : List Oper) (cls : List Cl) : Bool := freeGo all (masks all []) [] (all.zip cls) 0

/-! ### Loops: what is kept at the head -/
def AV.isAgg : AV E → Bool
  | .t ty _ => ty.agg
  | .agg _ => true
  | _ => false

/-- A slot at a loop's head. -/
structure Kp (E : Env) where
  v : AV E
  u : Upd E
  src : List Nat
  men : List Nat
/-- 0: as it is; 1: a slice that is appended to, at home in its slot; 2: by value. -/
def keepH (b : List (Blk E)) (sl : Nat) (a : AV E) : Kp E :=
  match a with
  | .sl id e xs => match blk b id with
      | .grow e' n => bif decide (e' = e) then ⟨.sl (sl + 16) e xs, [(sl + 16, .grow e n)], [id], []⟩ else ⟨.undef, [], [], []⟩
      | _ => ⟨.undef, [], [], []⟩
  | .exact e xs => ⟨.sl (sl + 16) e xs, [(sl + 16, .grow e xs.length)], [], []⟩
  | .fs id e off len => match blk b id with
      | .row e' xs => bif decide (e' = e) && decide (off = 0) then ⟨.fs (sl + 16) e' 0 len, [(sl + 16, .row e' xs)], [id], []⟩ else ⟨.undef, [], [], []⟩
      | _ => ⟨.undef, [], [], []⟩
  | a => ⟨a, [], [], ids a⟩
def keep1 (b : List (Blk E)) (m : Nat) (sl : Nat) (a : AV E) : Kp E :=
  match m with
  | 1 => keepH b sl (unN a)
  | 2 => match lst a with
    | some ⟨e, xs⟩ => ⟨.t (.sl e) xs, [], [], []⟩
    | none => ⟨a, [], [], ids a⟩
  | _ => ⟨a, [], [], ids a⟩

def keepT (b : List (Blk E)) (k : List (Nat × Nat)) : List (AV E) → Nat → List (AV E) × Upd E × List Nat × List Nat
  | [], _ => ([], [], [], [])
  | a :: l, i =>
    let r := keepT b k l (i + 1)
    match k.lookup i with
    | some m => let x := keep1 b m i a; (x.v :: r.1, x.u ++ r.2.1, x.src ++ r.2.2.1, x.men ++ r.2.2.2)
    | none => (.undef :: r.1, r.2)
def keepBs (np : Nat) (k : List Nat) : List (Blk E) → Nat → List (Blk E)
  | [], _ => []
  | b :: l, i => (bif decide (i < np) || k.contains i then b else .none) :: keepBs np k l (i + 1)

/-! ### A row that changes its home -/
/-- Which row a variable holds: at its part c, or (c = 100) it alone. -/
def holdR (c : Nat) : AV E → Option Nat
  | .fs h _ _ _ => bif Nat.beq c 100 then some h else none
  | .agg cs => match cs.getD c .undef with
    | .fs h _ _ _ => some h
    | _ => none
  | _ => none
def mvN (h x i : Nat) : Nat := bif Nat.beq i h then x else i
def mvT (h x : Nat) (a : AV E) : AV E := bif (ids a).contains x then .undef else renA (mvN h x) a
def mv1 (np : Nat) (v c x : Nat) (s : St E) : Option (St E) := match blk s.b v with
  | .var _ a => match holdR c a with
    | some h => bif Nat.beq h x then some s else match blk s.b h with
      | .row e xs => bif Nat.ble np x && Nat.blt x s.b.length && (s.b.all fun y => !(idsB y).contains x) then
          some { t := s.t.map (mvT h x), b := ((s.b.map (renB (mvN h x))).set h (.rowz e)).set x (.row e xs) } else none
      | _ => none
    | none => none
  | _ => none
/-- (Among the homes that are kept, a number from 1000000 on tells of a row that moves: variable, part, home.) -/
def mvs (np : Nat) : List Nat → St E → Option (St E)
  | [], s => some s
  | q :: l, s => bif Nat.ble 1000000 q then match mv1 np ((q - 1000000) / 1000000) ((q - 1000000) / 1000 % 1000) (q % 1000) s with
      | some s => mvs np l s
      | none => none
    else mvs np l s

/-- A home that nothing leads to any more. -/
def drop1 (d : Nat) (s : St E) : Option (St E) :=
  bif (s.b.all fun y => !(idsB y).contains d) then some { t := s.t.map fun a => bif (ids a).contains d then .undef else a, b := s.b.set d .none } else none
def drops : List Nat → St E → Option (St E)
  | [], s => some s
  | q :: l, s => bif Nat.ble 1000000 q then drops l s else match drop1 q s with
    | some s => drops l s
    | none => none

/-- At a loop's head: what isn't kept is let go. -/
def prune0 (np : Nat) (k : List (Nat × Nat)) (kb : List Nat) (s : St E) : Option (St E) :=
  let r := keepT s.b k s.t 0
  let bs := keepBs np kb s.b 0
  let kept := fun i => decide (i < np) || kb.contains i
  bif (r.2.2.2.all kept) && (bs.all fun x => (idsB x).all kept) && (r.2.1.all fun p => !kept p.1 && decide (p.1 < bs.length)) && (r.2.2.1.all fun i => !kept i) && nodup r.2.2.1
  then some { t := r.1, b := upds bs r.2.1 } else none
def prune (np : Nat) (k : List (Nat × Nat)) (kb : List Nat) (s : St E) : Option (St E) := match mvs np kb s with
  | some s => prune0 np k kb s
  | none => none

inductive Ex where
  | normal | exit (id : Nat) | ret

def loopN (np : Nat) (body : (Ex → St E → Out E) → St E → Out E) (k : List (Nat × Nat)) (kb : List Nat) (K : Ex → St E → Out E) : Nat → St E → Out E
  | 0, _ => none
  | n + 1, s => match prune np k kb s with
    | some s => body (fun e s => match e with
      | .normal => loopN np body k kb K n s
      | e => K e s) s
    | none => none

section
variable (np : Nat) (call : CallF E) (fuel : Nat) (f : FuncId)

def kSeq (g : (Ex → St E → Out E) → St E → Out E) (K : Ex → St E → Out E) : Ex → St E → Out E
  | .normal, s => g K s
  | e, s => K e s
def kBlock (id : Nat) (K : Ex → St E → Out E) : Ex → St E → Out E
  | .exit id', s => bif id' == id then K .normal s else K (.exit id') s
  | e, s => K e s

def exec : Code → Nat → (Ex → St E → Out E) → St E → Out E
  | .skip, _, k, s => k .normal s
  | .ret, _, k, s => k .ret s
  | .exit id, _, k, s => k (.exit id) s
  | .seq a b, bid, k, s => exec a bid (kSeq (exec b bid) k) s
  | .cond c a b, bid, k, s => match evo gl s.t c with
    | .t .bool v => bif v then exec a bid k s else exec b bid k s
    | .c (.bool v) => bif v then exec a bid k s else exec b bid k s
    | _ => none
  | .block id c, _, k, s => exec c id (kBlock id k) s
  | .loop c, bid, k, s => loopN np (exec c bid) (H.keep f bid) (H.keepB f bid) k fuel s
  | .region i o false, _, k, s => preK (H.preT f i) s fun s => opsP tt gl H call f o.toList o.toList s fun s => k .normal s
  | .region i o true, _, k, s => preK (H.preT f i) s fun s => opsK tt gl H call f o.toList o.toList [] s fun cls s => bif freeOrder o.toList cls then k .normal s else none
  | _, _, _, _ => none

/-! ### What a function hands back -/
def retRow (np : Nat) (b : List (Blk E)) (e : Ty) : AV E → Option (AV E)
  | .fs id e' 0 n => bif decide (np ≤ id) then match blk b id with
      | .row e'' xs => bif decide (n = xs.length) && decide (e' = e) && decide (e'' = e) then some (.ownrow e'' xs) else none
      | _ => none
    else none
  | .exact e' [] => bif decide (e' = e) then some (.ownrow e' []) else none
  | .snil e' => bif decide (e' = e) then some (.ownrow e' []) else none
  | _ => none
def retAg (np : Nat) (b : List (Blk E)) : List Ty → Ty → List (AV E) → Option (List (AV E))
  | [], e, cs => match cs with
    | [c] => (retRow np b e c).map fun x => [x]
    | _ => none
  | a :: l, e, cs => match cs with
    | c :: r => match toT c a, retAg np b l e r with
      | some x, some y => some (.t a x :: y)
      | _, _ => none
    | [] => none
def ret1 (np : Nat) (b : List (Blk E)) (sh : RSh) (a : AV E) : Option (AV E) :=
  match sh with
  | .t ty => (toT a ty).map (.t ty)
  | .own e => match a with
    | .sl id e' xs => bif decide (np ≤ id) then match blk b id with
        | .grow e'' n => bif decide (n = xs.length) && decide (e' = e) && decide (e'' = e) then some (.own e' xs) else none
        | _ => none
      else none
    | .exact e' xs => bif decide (e' = e) then some (.own e' xs) else none
    | .snil e' => bif decide (e' = e) then some (.own e' []) else none
    | _ => none
  | .ownrow e => retRow np b e a
  | .ag l e => match a with
    | .agg cs => (retAg np b l e cs).map .agg
    | _ => none
  | .inp p e => match a with
    | .sl id e' xs => bif decide (id = p) && decide (p < np) && decide (e' = e) then match blk b id with
        | .grow e'' n => bif decide (n = xs.length) && decide (e'' = e') then some (.sl id e' xs) else none
        | _ => none
      else none
    | _ => none
  | .inrow p e => match a with
    | .fs id e' off len => bif decide (id = p) && decide (p < np) && decide (e' = e) then match blk b id with
        | .row e'' xs => bif decide (e'' = e') && decide (off = 0) then some (.fs id e' 0 len) else none
        | _ => none
      else none
    | _ => none
  | _ => none
def resA (b : List (Blk E)) (t : List (AV E)) : ResultVar → Option (AV E)
  | .tmp i => some (t.getD i .undef)
  | .cell a ty => match ptrId (t.getD a .undef) with
    | some id => match look tt (blk b id) (t.getD a .undef) ty with
      | some (c, x) => bif c then some x else none
      | none => none
    | none => none
def rets (np : Nat) (s : St E) : List ResultVar → List RSh → Option (List (AV E))
  | [], [] => some []
  | r :: rs, sh :: shs => match (resA tt s.b s.t r).bind (ret1 np s.b sh), rets np s rs shs with
    | some a, some l => some (a :: l)
    | _, _ => none
  | _, _ => none
def goneAg : List (AV E) → List Nat
  | [] => []
  | c :: r => match r with
    | [] => (match c with
      | .fs id _ _ _ => [id]
      | _ => [])
    | _ :: _ => goneAg r
/-- The homes that are handed over. -/
def goneOf (sh : RSh) (a : Option (AV E)) : List Nat := match sh, a with
  | .own _, some (.sl id _ _) => [id]
  | .ownrow _, some (.fs id _ _ _) => [id]
  | .ag _ _, some (.agg cs) => goneAg cs
  | _, _ => []
def gone (s : St E) : List ResultVar → List RSh → List Nat
  | r :: rs, sh :: shs => goneOf sh (resA tt s.b s.t r) ++ gone s rs shs
  | _, _ => []
def retsA (np : Nat) (s : St E) (rs : List ResultVar) (sh : RSh) : Option (AV E) :=
  match sh, rs with
  | .unit, [] => some (.tup [])
  | .tup shs, rs => bif nodup (gone tt s rs shs) && decide (2 ≤ rs.length) then (rets tt np s rs shs).map .tup else none
  | sh, [r] => (resA tt s.b s.t r).bind (ret1 np s.b sh)
  | _, _ => none

/-- Can it be handed back? -/
def back1 (np : Nat) : Blk E → Bool
  | .var _ a => (ids a).all fun i => Nat.blt i np
  | _ => true
def fin (np : Nat) (rs : List ResultVar) (sh : RSh) : Ex → St E → Out E
  | .exit _, _ => none
  | _, s => match retsA tt np s rs sh with
    | some a => bif (s.b.take np).all (back1 np) then some (a, s.b.take np) else none
    | none => none

def start (fn : Func) (args : List (AV E)) (ins : List (Blk E)) : St E :=
  { t := args ++ List.replicate (fn.ntmps - args.length) .undef, b := ins ++ List.replicate (4 * fn.ntmps + 32 - ins.length) .none }

/-- At the end, behind the moves. -/
def finM (np n : Nat) (mv : List Nat) (rs : List ResultVar) (sh : RSh) : Ex → St E → Out E
  | .exit _, _ => none
  | e, s => match (mvs np mv s).bind (drops mv) with
    | some s => fin tt n rs sh e s
    | none => none
def noB1 : Blk E → Bool
  | .none => true
  | _ => false
def body (fn : Func) (args : List (AV E)) (ins : List (Blk E)) : Out E :=
  match fn.body with
  | none => none
  | some c => bif decide (ins.length ≤ 16) && ((ins.drop (ins.length - H.nx f)).all noB1) && ((H.keepB f 100000).all fun q => Nat.ble 1000000 q || noB1 (blk ins q)) then exec tt gl H (ins.length - H.nx f) call fuel f c 0 (finM tt (ins.length - H.nx f) ins.length (H.keepB f 100000) fn.results.toList (H.rsh f)) (start fn args ins) else none
end

/-- The evaluator: f at n rounds of depth and of each loop. -/
def run (fs : FuncId → Option Func) : Nat → CallF E
  | 0, _, _, _ => none
  | n + 1, f, args, ins => match fs f with
    | some fn => body tt gl H (run fs n) n f fn args ins
    | none => none

end Go.Proofs.YtbmpjppfdeohnaaDoor.Fv

/-! How the evaluator's values stand to the model's memory. -/
namespace Go.Proofs.YtbmpjppfdeohnaaDoor.Fv

/-- Cells that are known for good. -/
abbrev Mem := Nat → Nat → Option Value
def Mem.le (M M' : Mem) : Prop := ∀ b o v, M b o = some v → M' b o = some v
theorem Mem.le.refl (M : Mem) : M.le M := fun _ _ _ h => h
theorem Mem.le.trans {M M' M'' : Mem} (h : M.le M') (h' : M'.le M'') : M.le M'' := fun b o v x => h' b o v (h b o v x)
/-- No cell's value is a tuple: a tuple tells of a map. -/
def noT : Value → Prop
  | .tuple _ => False
  | _ => True
def encP (p : Value × Value) : Value := .tuple #[p.1, p.2]
def encL (l : List (Value × Value)) : Value := .tuple (l.map encP).toArray
theorem encL_inj {l l' : List (Value × Value)} (h : encL l = encL l') : l = l' := by
  have h1 : (l.map encP).toArray = (l'.map encP).toArray := by injection h
  have h2 : l.map encP = l'.map encP := by simpa using congrArg Array.toList h1
  clear h h1
  induction l generalizing l' with
  | nil => cases l' with
    | nil => rfl
    | cons _ _ => simp at h2
  | cons a l ih => cases l' with
    | nil => simp at h2
    | cons b l' =>
      simp only [List.map_cons, List.cons.injEq] at h2
      obtain ⟨h3, h4⟩ := h2
      have h5 : (#[a.1, a.2] : Array Value) = #[b.1, b.2] := by injection h3
      have h6 : ([a.1, a.2] : List Value) = [b.1, b.2] := by simpa using congrArg Array.toList h5
      injection h6 with h7 h8
      injection h8 with h8
      rw [ih h4, Prod.ext h7 h8]
def entL (es : Array MapEntry) : List (Value × Value) := es.toList.map fun e => (e.key, e.val)
/-- The mark behind a row's last cell. -/
def endm : Value := .tuple #[.bool true]
theorem encL_ne (l : List (Value × Value)) : encL l ≠ endm := by
  intro h
  have h1 : (l.map encP).toArray = #[.bool true] := by injection h
  have h2 : l.map encP = [.bool true] := by simpa using congrArg Array.toList h1
  cases l with
  | nil => cases h2
  | cons p r => injection h2 with h3 _; cases h3
/-- What memory holds at a place: a cell, or (told at the first place) a map, or a row's end. -/
def Hold1 (w : World) (b o : Nat) (v : Value) : Prop := (noT v ∧ w.cell? ⟨b, o, none⟩ = some v) ∨ (o = 0 ∧ ∃ es clock, w.heap[b]? = some (.map es clock) ∧ v = encL (entL es)) ∨ (∃ cs T fz, w.heap[b]? = some (.cells cs T fz) ∧ o = cs.size ∧ v = endm)
def Holds (M : Mem) (w : World) : Prop := ∀ b o v, M b o = some v → Hold1 w b o v
def CellsAt (M : Mem) (b o : Nat) (cs : List Value) : Prop := ∀ j (h : j < cs.length), M b (o + j) = some cs[j] ∧ noT cs[j]
theorem CellsAt.mono {M M' : Mem} {b o : Nat} {cs : List Value} (hm : M.le M') (h : CellsAt M b o cs) : CellsAt M' b o cs := fun j hj => ⟨hm _ _ _ (h j hj).1, (h j hj).2⟩
theorem Hold1.cell {w : World} {b o : Nat} {v : Value} (h : Hold1 w b o v) (hn : noT v) : w.cell? ⟨b, o, none⟩ = some v := by
  rcases h with h | ⟨_, es, c, _, rfl⟩ | ⟨_, _, _, _, _, rfl⟩
  · exact h.2
  · exact hn.elim
  · exact hn.elim
theorem Hold1.lt {w : World} {b o : Nat} {v : Value} (h : Hold1 w b o v) : b < w.heap.size := by
  rcases h with h | ⟨_, es, c, h, _⟩ | ⟨_, _, _, h, _⟩
  · exact block_lt_of_cell h.2
  · exact (Array.getElem?_eq_some_iff.1 h).1
  · exact (Array.getElem?_eq_some_iff.1 h).1
/-- All that a world's memory tells. -/
noncomputable def memOf (w : World) : Mem := fun b o => match w.heap[b]? with
  | some (.map es _) => if o = 0 then some (encL (entL es)) else none
  | some (.cells cs _ _) => if o = cs.size then some endm else match w.cell? ⟨b, o, none⟩ with
    | some (.tuple _) => none
    | x => x
  | _ => match w.cell? ⟨b, o, none⟩ with
    | some (.tuple _) => none
    | x => x

structure EnvOK (E : Env) : Prop where
  un_ro : ∀ n x, E.un n (E.ro n x) = x
  un_dfl : ∀ n, E.un n (E.dfl n) = dfl E (E.body n)
  sz : ∀ n, E.sz n = size E (E.body n)
  zc : ∀ n, E.zc n = zcells E (E.body n)
  agg : ∀ n, (∃ a, E.body n = .one a) ∨ ∃ a b, E.body n = .pair a b

variable {E : Env}

/-- A typed value and its cells. -/
inductive RC (M : Mem) : (t : Ty) → E.D t → List Value → Prop
  | int (k : IntKind) (n : Int) : RC M (.int k) n [.int k n]
  | bool (b : Bool) : RC M .bool b [.bool b]
  | str (s : ByteArray) : RC M .str (s.data.toList : List UInt8) [.string s]
  | one {a : Ty} {x : E.D a} {cs : List Value} (h : RC M a x cs) : RC M (.one a) x cs
  | pair {a b : Ty} {x : E.D a} {y : E.D b} {c1 c2 : List Value} (h1 : RC M a x c1) (h2 : RC M b y c2) : RC M (.pair a b) (x, y) (c1 ++ c2)
  | sl {e : Ty} (xs : List (E.D e)) (base : Option Addr) (cap : Nat) (css : Nat → List Value) (hcap : xs.length ≤ cap)
      (h : ∀ i (hi : i < xs.length), RC M e xs[i] (css i))
      (hat : ∀ i, i < xs.length → ∃ a, base = some a ∧ a.spot = none ∧ CellsAt M a.block (a.off + i * size E e) (css i)) (hnil : base = none → cap = 0) : RC M (.sl e) xs [.slice base xs.length cap]
  | arr {e : Ty} (n : Nat) (xs : List (E.D e)) (css : List (List Value)) (hn : xs.length = n) (hl : css.length = n)
      (h : ∀ i (hi : i < xs.length), RC M e xs[i] (css.getD i [])) : RC M (.arr n e) xs css.flatten
  | nm {n : Nat} {x : E.R n} {cs : List Value} (h : RC M (E.body n) (E.un n x) cs) : RC M (.nm n) x cs
  | mpn (k v : Ty) : RC M (.mp k v) [] [.map none]
  | mp {k v : Ty} (es0 es : List (E.D k × E.D v)) (hp : es.Perm es0) (hn : (es.map (·.1)).Nodup) (g : Nat) (l : List (Value × Value)) (ck cv : Nat → List Value) (hl : l.length = es.length) (hg : M g 0 = some (encL l))
      (hk : ∀ i (hi : i < es.length), RC M k es[i].1 (ck i)) (hv : ∀ i (hi : i < es.length), RC M v es[i].2 (cv i))
      (he : ∀ i (hi : i < l.length), l[i] = ((if k.agg then .agg (ck i).toArray else (ck i).headD undef), (if v.agg then .agg (cv i).toArray else (cv i).headD undef))) : RC M (.mp k v) es0 [.map (some g)]

theorem RC.mono {M M' : Mem} (hm : M.le M') {t : Ty} {x : E.D t} {cs : List Value} (h : RC M t x cs) : RC M' t x cs := by
  induction h with
  | int k n => exact .int k n
  | bool b => exact .bool b
  | str s => exact .str s
  | one _ ih => exact .one ih
  | pair _ _ i1 i2 => exact .pair i1 i2
  | sl xs base cap css hcap _ hat hnil ih => exact .sl xs base cap css hcap ih (fun i hi => let ⟨a, h1, h2, h3⟩ := hat i hi; ⟨a, h1, h2, h3.mono hm⟩) hnil
  | arr n xs css hn hl _ ih => exact .arr n xs css hn hl ih
  | nm _ ih => exact .nm ih
  | mpn k v => exact .mpn k v
  | mp es0 es hp hn g l ck cv hl hg _ _ he i1 i2 => exact .mp es0 es hp hn g l ck cv hl (hm _ _ _ hg) i1 i2 he

theorem flatten_len {css : List (List Value)} {k : Nat} (h : ∀ i, i < css.length → (css.getD i []).length = k) : css.flatten.length = css.length * k := by
  induction css with
  | nil => simp
  | cons c l ih =>
    have h0 := h 0 (by simp)
    have := ih fun i hi => by have := h (i + 1) (by simpa using hi); simpa using this
    simp only [List.getD_cons_zero] at h0
    simp [this, h0, Nat.succ_mul, Nat.add_comm]

theorem RC.len (hE : EnvOK E) {M : Mem} {t : Ty} {x : E.D t} {cs : List Value} (h : RC M t x cs) : cs.length = size E t := by
  induction h with
  | int k n => rfl
  | bool b => rfl
  | str s => rfl
  | one _ ih => exact ih
  | pair _ _ i1 i2 => simp [size, i1, i2]
  | sl xs base cap css hcap _ hat _ ih => rfl
  | arr n xs css hn hl _ ih =>
    rw [flatten_len (k := size E _) (fun i hi => ih i (by omega)), hl]
    rfl
  | nm _ ih => rw [ih]; exact (hE.sz _).symm
  | mpn k v => rfl
  | mp es0 es hp hn g l ck cv hl hg _ _ he i1 i2 => rfl

theorem RC.arr_zero (M : Mem) (n : Nat) {e : Ty} (h : RC M e (dfl E e) (zcells E e)) : RC M (.arr n e) (List.replicate n (dfl E e) : List (E.D e)) (List.replicate n (zcells E e)).flatten := by
  refine .arr n _ (List.replicate n (zcells E e)) (by simp) (by simp) ?_
  intro i hi
  have hi' : i < n := by simpa using hi
  simp only [List.getElem_replicate]
  rw [List.getD_eq_getElem?_getD, List.getElem?_replicate, if_pos hi']
  exact h

/-- The zero value's cells. -/
theorem RC.zero (M : Mem) (hz : ∀ n, RC M (.nm n) (E.dfl n) (E.zc n)) : ∀ t : Ty, t.full = true → RC M t (dfl E t) (zcells E t)
  | .int k, _ => .int k 0
  | .bool, _ => .bool false
  | .str, _ => .str ByteArray.empty
  | .one a, h => .one (RC.zero M hz a h)
  | .pair a b, h => by
    simp only [Ty.full, Bool.and_eq_true] at h
    exact .pair (RC.zero M hz a h.1) (RC.zero M hz b h.2)
  | .sl e, _ => .sl [] none 0 (fun _ => []) (Nat.le_refl _) (fun i hi => by simp at hi) (fun i hi => by simp at hi) (fun _ => rfl)
  | .arr n e, h => RC.arr_zero M n (RC.zero M hz e h)
  | .nm n, _ => hz n
  | .mp k v, _ => .mpn k v
  | .any, h => by simp [Ty.full] at h

theorem RC.noT {M : Mem} {t : Ty} {x : E.D t} {cs : List Value} (h : RC M t x cs) : ∀ c ∈ cs, noT c := by
  induction h with
  | int k n => intro c hc; simp at hc; subst hc; trivial
  | bool b => intro c hc; simp at hc; subst hc; trivial
  | str s => intro c hc; simp at hc; subst hc; trivial
  | one _ ih => exact ih
  | pair _ _ i1 i2 =>
    intro c hc
    rcases List.mem_append.1 hc with hc | hc
    · exact i1 c hc
    · exact i2 c hc
  | sl xs base cap css hcap _ hat _ ih => intro c hc; simp at hc; subst hc; trivial
  | arr n xs css hn hl _ ih =>
    intro c hc
    obtain ⟨l, hl1, hl2⟩ := List.mem_flatten.1 hc
    obtain ⟨i, hi, rfl⟩ := List.getElem_of_mem hl1
    exact ih i (by omega) c (by simpa [List.getD_eq_getElem?_getD, hi] using hl2)
  | nm _ ih => exact ih
  | mpn k v => intro c hc; simp at hc; subst hc; trivial
  | mp => intro c hc; simp at hc; subst hc; trivial
theorem CellsAt.of {M : Mem} {b o : Nat} {cs : List Value} (h : ∀ j (h : j < cs.length), M b (o + j) = some cs[j]) (hn : ∀ c ∈ cs, noT c) : CellsAt M b o cs := fun j hj => ⟨h j hj, hn _ (List.getElem_mem _)⟩

/-! ### Values -/
/-- Where a block lies: its number; of a slice that grows: base and capacity at each length. -/
structure Conc where
  g : Nat
  ver : Nat → Option Addr × Nat
abbrev Mu := Nat → Conc

/-- A caught place. -/
def CPV (M : Mem) (μ : Mu) : CP E → Value → Prop
  | .im c, v => ∃ b o cells, v = .pointer (some ⟨b, o, none⟩) ∧ RC M c.ty c.v cells ∧ CellsAt M b o cells
  | .pt id _, v => v = .pointer (some ⟨(μ id).g, 0, none⟩)
inductive RV (M : Mem) (μ : Mu) : AV E → List Value → Prop
  | t {ty : Ty} {x : E.D ty} {cs : List Value} (h : RC M ty x cs) : RV M μ (.t ty x) cs
  | nilp : RV M μ .nilp [.pointer none]
  | nilfn : RV M μ .nilfn [.nilFunc]
  | niliface : RV M μ .niliface [.nilIface]
  | nilmap : RV M μ .nilmap [.map none]
  | ptr (id : Nat) (ly : Ty) (p : List Nat) : RV M μ (.ptr id ly p) [.pointer (some ⟨(μ id).g, offTy E ly p, none⟩)]
  | eptr (id : Nat) (e : Ty) (i : Nat) (p : List Nat) : RV M μ (.eptr id e i p) [.pointer (some ⟨(μ id).g, i * size E e + offTy E e p, none⟩)]
  | imm {ty : Ty} {v : E.D ty} {cs : List Value} (b o : Nat) (h : RC M ty v cs) (hc : CellsAt M b o cs) : RV M μ (.imm ty v) [.pointer (some ⟨b, o, none⟩)]
  | sl (id : Nat) (e : Ty) (xs : List (E.D e)) (h : RC M (.sl e) xs [.slice ((μ id).ver xs.length).1 xs.length ((μ id).ver xs.length).2]) :
      RV M μ (.sl id e xs) [.slice ((μ id).ver xs.length).1 xs.length ((μ id).ver xs.length).2]
  | exact (e : Ty) (xs : List (E.D e)) (base : Option Addr) (h : RC M (.sl e) xs [.slice base xs.length xs.length]) : RV M μ (.exact e xs) [.slice base xs.length xs.length]
  | fs (id : Nat) (e : Ty) (off len cap : Nat) (base : Option Addr) (h : (base = some ⟨(μ id).g, off * size E e, none⟩ ∧ off + cap = ((μ id).ver 0).2) ∨ (cap = 0 ∧ ((μ id).ver 0).2 ≤ off)) (hc : len ≤ cap) : RV M μ (.fs id e off len) [.slice base len cap]
  | snil (e : Ty) : RV M μ (.snil e) [.slice none 0 0]
  | errn : RV M μ (.err true) [.nilIface]
  | errs (t : TypeId) (x : Value) : RV M μ (.err false) [.iface t x]
  | snn (e : Ty) (xs : List (E.D e)) (a : Addr) (cap : Nat) (h : RC M (.sl e) xs [.slice (some a) xs.length cap]) : RV M μ (.snn e xs) [.slice (some a) xs.length cap]
  | rsv (id : Nat) (e : Ty) (n : Nat) (hc : n ≤ ((μ id).ver 0).2) (hb : ((μ id).ver 0).1 ≠ none) : RV M μ (.rsv id e n) [.slice ((μ id).ver 0).1 n ((μ id).ver 0).2]
  | func (f : FuncId) (cs : List (Cap E)) (vs : List Value) (hl : vs.length = cs.length)
      (h : ∀ i (hi : i < cs.length), ∃ b o cells, vs.getD i undef = .pointer (some ⟨b, o, none⟩) ∧ RC M cs[i].ty cs[i].v cells ∧ CellsAt M b o cells) : RV M μ (.func f cs) [.func (.func f) #[] vs.toArray]
  | funp (f : FuncId) (ps : List (CP E)) (vs : List Value) (hl : vs.length = ps.length) (h : ∀ i (hi : i < ps.length), CPV M μ ps[i] (vs.getD i undef)) : RV M μ (.funp f ps) [.func (.func f) #[] vs.toArray]
  | agg (cs : List (AV E)) (css : List (List Value)) (hl : css.length = cs.length) (h : ∀ i (hi : i < cs.length), RV M μ cs[i] (css.getD i [])) : RV M μ (.agg cs) css.flatten
  | mp (id : Nat) (k v : Ty) : RV M μ (.mp id k v) [.map (some (μ id).g)]
  | iface (tid : TypeId) (a : AV E) (cs : List Value) (v : Value) (h : RV M μ a cs) (hv : v = if a.isAgg then .agg cs.toArray else cs.headD undef) : RV M μ (.iface tid a) [.iface tid v]

/-- What a slot holds. -/
def mkV (agg : Bool) (cs : List Value) : Value := if agg then .agg cs.toArray else cs.headD undef
inductive RS (M : Mem) (μ : Mu) : AV E → Value → Prop
  | undef (v : Value) : RS M μ .undef v
  | c (v : Value) : RS M μ (.c v) v
  | v {a : AV E} {cs : List Value} (h : RV M μ a cs) : RS M μ a (mkV a.isAgg cs)
  | tup (l : List (AV E)) (vs : List Value) (hl : vs.length = l.length) (h : ∀ i (hi : i < l.length), l[i] = .undef ∨ ∃ cs, RV M μ l[i] cs ∧ vs.getD i undef = mkV l[i].isAgg cs) : RS M μ (.tup l) (.tuple vs.toArray)

/-! ### Blocks -/
/-- The block that no one else may turn. -/
def Exc (c : Conc) : Blk E → Option Nat
  | .var _ _ => some c.g
  | .row _ _ => if (c.ver 0).2 = 0 then none else some c.g
  | .grow _ n => if (c.ver n).2 = n then none else some c.g
  | .mp _ _ _ => some c.g
  | _ => none

/-- The mark of a block that came of a string: no cell of a row is held. -/
def FrOK (e : Ty) (n : Nat) (fr : Nat × Nat) : Prop := fr = (0, 0) ∨ (e = .int .u8 ∧ n ≤ fr.1)
theorem FrOK.zero {e : Ty} {n : Nat} {fr : Nat × Nat} (h : FrOK e n fr) (he : e ≠ .int .u8) : fr = (0, 0) := h.resolve_right fun h => he h.1
def BW (M : Mem) (μ : Mu) (w : World) (c : Conc) : Blk E → Prop
  | .none => True
  | .var ly a => ∃ cs T, w.heap[c.g]? = some (.cells cs T (0, 0)) ∧ RV M μ a cs.toList ∧ fit ly a = true ∧ ∀ o, M c.g o = none
  | .frz ly v => ∃ cs, CellsAt M c.g 0 cs ∧ RC M ly v cs
  | .grow e n => n ≤ (c.ver n).2 ∧ ((c.ver n).2 = n ∨ ∃ cs T, (c.ver n).1 = some ⟨c.g, 0, none⟩ ∧ w.heap[c.g]? = some (.cells cs T (0, 0)) ∧ cs.size = (c.ver n).2 * size E e ∧ ∀ o, n * size E e ≤ o → M c.g o = none)
  | .row e xs => ((c.ver 0).2 = 0 ∧ xs = []) ∨ ((c.ver 0).2 ≠ 0 ∧ ∃ cs T fr css, w.heap[c.g]? = some (.cells cs T fr) ∧ RC M (.arr xs.length e) xs css ∧ (∃ rest, cs.toList = css ++ rest) ∧ (∀ o, M c.g o = none) ∧ cs.size = (c.ver 0).2 * size E e ∧ FrOK e cs.size fr)
  | .rowz _ => True
  | .mp k v es0 => ∃ es : List (E.D k × E.D v), es.Perm es0 ∧ (es.map (·.1)).Nodup ∧ ∃ (l : Array MapEntry) (clock : Nat) (ck cv : Nat → List Value), w.heap[c.g]? = some (.map l clock) ∧ (entL l).length = es.length ∧ (∀ i (hi : i < es.length), RC M k es[i].1 (ck i)) ∧ (∀ i (hi : i < es.length), RC M v es[i].2 (cv i)) ∧
      (∀ i (hi : i < (entL l).length), (entL l)[i] = (mkV k.agg (ck i), mkV v.agg (cv i))) ∧ ∀ o, M c.g o = none
  | .mpz => True

/-- Does a value lead to live blocks alone? -/
def OKs (b : List (Blk E)) : AV E → Prop
  | .ptr id ly _ => (∃ a, blk b id = .var ly a) ∨ ∃ v, blk b id = .frz ly v
  | .eptr id e _ _ => (∃ xs, blk b id = .row e xs) ∨ blk b id = .rowz e
  | .fs id e off len => (∃ xs, blk b id = .row e xs ∧ off + len ≤ xs.length) ∨ blk b id = .rowz e
  | .sl id e xs => ∃ n, blk b id = .grow e n ∧ xs.length ≤ n
  | .rsv id e _ => ∃ n, blk b id = .grow e n
  | .mp id k v => (∃ es, blk b id = .mp k v es) ∨ blk b id = .mpz
  | .funp _ ps => ∀ id ly, CP.pt id ly ∈ ps → (∃ a, blk b id = .var ly a) ∨ ∃ v, blk b id = .frz ly v
  | _ => True
inductive OKA (b : List (Blk E)) : AV E → Prop
  | plain {a : AV E} (h : OKs b a) (hn : ∀ cs, a ≠ .agg cs) (ht : ∀ l, a ≠ .tup l) (hi : ∀ t x, a ≠ .iface t x) : OKA b a
  | agg (cs : List (AV E)) (h : ∀ c ∈ cs, OKA b c) : OKA b (.agg cs)
  | tup (l : List (AV E)) (h : ∀ c ∈ l, OKA b c) : OKA b (.tup l)
  | iface (t : TypeId) (x : AV E) (h : OKA b x) : OKA b (.iface t x)

structure WR (M : Mem) (μ : Mu) (b : List (Blk E)) (w : World) : Prop where
  holds : Holds M w
  bw : ∀ i, BW M μ w (μ i) (blk b i)
  exc : ∀ i j g, Exc (μ i) (blk b i) = some g → Exc (μ j) (blk b j) = some g → i = j
  oks : ∀ i ly a, blk b i = .var ly a → OKA b a

/-- A block that lives on. -/
def Lives (c c' : Conc) : Blk E → Blk E → Prop
  | .none, _ => True
  | .var ly _, .var ly' _ => ly' = ly ∧ c'.g = c.g
  | .var ly _, .frz ly' _ => ly' = ly ∧ c'.g = c.g
  | .frz ly v, .frz ly' v' => ly' = ly ∧ HEq v v' ∧ c'.g = c.g
  | .grow e n, .grow e' n' => e' = e ∧ n ≤ n' ∧ ∀ k, k ≤ n → c'.ver k = c.ver k
  | .row e xs, .row e' xs' => e' = e ∧ xs'.length = xs.length ∧ c'.g = c.g ∧ c'.ver 0 = c.ver 0
  | .row e _, .rowz e' => e' = e ∧ c'.g = c.g ∧ c'.ver 0 = c.ver 0
  | .rowz e, .rowz e' => e' = e ∧ c'.g = c.g ∧ c'.ver 0 = c.ver 0
  | .mp k v _, .mp k' v' _ => k' = k ∧ v' = v ∧ c'.g = c.g
  | .mp _ _ _, .mpz => c'.g = c.g
  | .mpz, .mpz => c'.g = c.g
  | _, _ => False

/-- Is it told how far the tape was read? -/
class Quiet where
  q : Prop
variable [Quiet]
/-- The tape is the same, and (where that is told) was read no less far. -/
structure SameT (w' w : World) : Prop where
  eq : w'.tape = w.tape
  le : Quiet.q → w.drawn ≤ w'.drawn
theorem SameT.trans {a b c : World} (h : SameT a b) (h' : SameT b c) : SameT a c := ⟨h.eq.trans h'.eq, fun q => Nat.le_trans (h'.le q) (h.le q)⟩
/-- From one state of memory to a later one, in which the first L homes live on. -/
structure Tr (L : Nat) (M : Mem) (μ : Mu) (b : List (Blk E)) (w : World) (M' : Mem) (μ' : Mu) (b' : List (Blk E)) (w' : World) : Prop where
  le : M.le M'
  lives : ∀ i, i < L → Lives (μ i) (μ' i) (blk b i) (blk b' i)
  wr : WR M' μ' b' w'
  len : b'.length = b.length
  size : w.heap.size ≤ w'.heap.size
  frame : ∀ g, g < w.heap.size → (∀ i, Exc (μ i) (blk b i) ≠ some g) → w'.heap[g]? = w.heap[g]?
  fresh : ∀ g o, M g o = none → M' g o ≠ none → w.heap.size ≤ g ∨ ∃ i, Exc (μ i) (blk b i) = some g
  exf : ∀ i g, Exc (μ' i) (blk b' i) = some g → w.heap.size ≤ g ∨ ∃ j, Exc (μ j) (blk b j) = some g
  os : w'.os = w.os
  tape : SameT w' w
  output : w'.output = w.output

end Go.Proofs.YtbmpjppfdeohnaaDoor.Fv

/-! What the evaluator's table says of the program's types. -/
namespace Go.Proofs.YtbmpjppfdeohnaaDoor.Fv
variable [Quiet]
variable {E : Env}

mutual
/-- The cells of a zero value of the evaluator. -/
def zA : AV E → List Value
  | .t ty _ => zcells E ty
  | .nilp => [.pointer none]
  | .nilfn => [.nilFunc]
  | .niliface => [.nilIface]
  | .nilmap => [.map none]
  | .agg cs => zAs cs
  | _ => []
def zAs : List (AV E) → List Value
  | [] => []
  | a :: l => zA a ++ zAs l
end

def bodyOf (E : Env) : Ty → Ty
  | .nm n => E.body n
  | t => t
/-- How many fields. -/
def arity : Ty → Nat
  | .one _ => 1
  | .pair _ b => arity b + 1
  | _ => 0
def fldsOK (E : Env) (tt : Nat → Option TE) (t : Ty) : List (Nat × Nat) → Nat → Bool
  | [], _ => true
  | f :: fs, i => decide (fldTy t i = tyOf tt f.1) && decide (fldOff E t i = f.2) && decide (0 < size E (tyOf tt f.1)) && (tt f.1).isSome && fldsOK E tt t fs (i + 1)
def aggD : TypeDesc → Bool
  | .struct _ | .array _ _ => true
  | _ => false

structure TFact (P : Program) (E : Env) (tt : Nat → Option TE) (t : Nat) (x : TE) : Prop where
  und : ∃ u, P.underlying t = some u ∧ aggD u = x.ty.agg ∧
    match x.d with
    | .int k => u = .int k ∧ x.ty = .int k
    | .bool => u = .bool ∧ x.ty = .bool
    | .str => u = .string ∧ x.ty = .str
    | .slice el => u = .slice el ∧ (x.ty = .any ∨ (x.ty = .sl (tyOf tt el) ∧ (tyOf tt el).full = true ∧ (tt el).isSome = true ∧ P.bytesOf el ≤ 32768 ∧ 0 < size E (tyOf tt el) ∧ size E (tyOf tt el) ≤ 16384))
    | .struct fs => (∃ fields, u = .struct fields ∧ fields.toList.map (fun f => (f.type, f.offset)) = fs) ∧ arity (bodyOf E x.ty) = fs.length ∧ fldsOK E tt (bodyOf E x.ty) fs 0 = true
    | .arr n el => u = .array n el ∧ x.ty = .arr n (tyOf tt el) ∧ (tt el).isSome = true
    | .map k v => u = .map k v ∧ (tt k).isSome = true ∧ (tt v).isSome = true ∧ (x.ty = .any ∨ x.ty = .mp (tyOf tt k) (tyOf tt v))
    | .ptr el => u = .pointer el
    | .func => ∃ a b c, u = .func a b c
    | .iface => ∃ ms, u = .interface ms
    | _ => True
  info : ∃ z by_, (P.info? t).map (fun i => (i.zero, i.size, i.bytes)) = some (some z, size E x.ty, by_) ∧ z.cells.toList = zA (E := E) (zeroA tt 20 t) ∧ (x.ty.agg = true → z = .agg z.cells)
  zlen : (zA (E := E) (zeroA tt 20 t)).length = size E x.ty
  zst : ∀ i z, P.info? t = some i → i.zero = some z → match x.d with
    | .struct fs => z.cells.toList = (fs.map fun f => zA (E := E) (zeroA tt 20 f.1)).flatten
    | _ => True
  nag : ∀ i z, P.info? t = some i → i.zero = some z → x.ty.agg = false → ∀ cs, z ≠ .agg cs
  eqs : match x.d with
    | .struct fs => eqC tt (bodyOf E x.ty) 0 fs = true → (∀ fields, P.underlying t = some (.struct fields) → fields.toList.all (fun f => f.name != "_") = true) ∧ P.stoodInHeld t = false ∧ P.eqGuardType P.depth t = false
    | .arr n el => okF tt (tyOf tt el) el = true → P.eqGuardType P.depth t = false
    | _ => True

def TOK (P : Program) (E : Env) (tt : Nat → Option TE) : Prop := ∀ t x, tt t = some x → TFact P E tt t x

section
variable {P : Program} {tt : Nat → Option TE} {t : Nat} {x : TE}

theorem run_underlying' {t : Nat} {u : TypeDesc} (h : P.underlying t = some u) (w : World) : (underlying t).run P w = .ok u w := by
  simp [underlying, h]
theorem run_info {t : Nat} {i : TypeInfo} (h : P.info? t = some i) (w : World) : (typeInfo t).run P w = .ok i w := by
  simp [typeInfo, h]
theorem run_sizeOf {t : Nat} {i : TypeInfo} (h : P.info? t = some i) (w : World) : (sizeOf t).run P w = .ok i.size w := by
  simp [sizeOf, run_info h]
theorem run_isAgg {t : Nat} {u : TypeDesc} (h : P.underlying t = some u) (w : World) : (isAgg t).run P w = .ok (aggD u) w := by
  simp only [isAgg, Sem.run_bind, run_underlying' h, Result.andThen_ok]
  cases u <;> rfl
theorem run_zero {t : Nat} {i : TypeInfo} {z : Value} (h : P.info? t = some i) (hz : i.zero = some z) (w : World) : (zeroValue t).run P w = .ok z w := by
  simp [zeroValue, run_info h, hz]

theorem tyOf_some {t : Nat} {x : TE} (h : tt t = some x) : tyOf tt t = x.ty := by simp [tyOf, h]
theorem tdOf_some {t : Nat} {x : TE} (h : tt t = some x) : tdOf tt t = x.d := by simp [tdOf, h]

theorem TFact.size (hT : TFact P E tt t x) : ∃ i, P.info? t = some i ∧ i.size = Fv.size E x.ty := by
  obtain ⟨z, b, h, _⟩ := hT.info
  rw [Option.map_eq_some_iff] at h
  obtain ⟨i, hi, he⟩ := h
  exact ⟨i, hi, by injection he with _ h2; injection h2⟩
theorem TFact.zero (hT : TFact P E tt t x) : ∃ i z, P.info? t = some i ∧ i.zero = some z ∧ i.size = Fv.size E x.ty ∧ z.cells.toList = zA (E := E) (zeroA tt 20 t) ∧ (x.ty.agg = true → z = .agg z.cells) := by
  obtain ⟨z, b, h, h1, h2⟩ := hT.info
  rw [Option.map_eq_some_iff] at h
  obtain ⟨i, hi, he⟩ := h
  injection he with h3 h4
  injection h4 with h4 h5
  exact ⟨i, z, hi, h3, h4, h1, h2⟩

/-! ### Cells -/
theorem addr_add (b o j : Nat) : (⟨b, o, none⟩ : Addr).add j = ⟨b, o + j, none⟩ := by
  unfold Addr.add
  split <;> simp_all

theorem run_loadCellsFrom (w : World) (b o : Nat) : ∀ (cs : List Value) (i : Nat) (acc : Array Value),
    (∀ j (h : j < cs.length), w.cell? ⟨b, o + (i + j), none⟩ = some cs[j]) →
    (loadCellsFrom ⟨b, o, none⟩ i cs.length acc).run P w = .ok (acc ++ cs.toArray) w := by
  intro cs
  induction cs with
  | nil => intro i acc _; simp [loadCellsFrom]
  | cons c l ih =>
    intro i acc h
    have h0 := h 0 (by simp)
    simp only [Nat.add_zero, List.getElem_cons_zero] at h0
    simp only [List.length_cons, loadCellsFrom, Sem.run_bind, addr_add, run_load, h0, Result.andThen_ok]
    rw [ih (i + 1) (acc.push c) (fun j hj => by
      have := h (j + 1) (by simpa using hj)
      rw [show o + (i + 1 + j) = o + (i + (j + 1)) by omega]
      simpa using this)]
    simp

/-- Cells in memory. -/
def InMem (w : World) (b o : Nat) (cs : List Value) : Prop := ∀ j (h : j < cs.length), w.cell? ⟨b, o + j, none⟩ = some cs[j]
theorem CellsAt.inMem {M : Mem} {w : World} {b o : Nat} {cs : List Value} (hw : Holds M w) (h : CellsAt M b o cs) : InMem w b o cs := fun j hj => (hw _ _ _ (h j hj).1).cell (h j hj).2

theorem run_loadCells {w : World} {b o : Nat} {cs : List Value} (h : InMem w b o cs) : (loadCells ⟨b, o, none⟩ cs.length).run P w = .ok cs.toArray w := by
  unfold loadCells
  rw [run_loadCellsFrom w b o cs 0 #[] (fun j hj => by simpa using h j hj)]
  simp

theorem run_loadVar (hT : TFact P E tt t x) {w : World} {b o : Nat} {cs : List Value} (h : InMem w b o cs) (hl : cs.length = Fv.size E x.ty) (h1 : x.ty.agg = false → cs.length = 1) :
    (loadVar t ⟨b, o, none⟩).run P w = .ok (mkV x.ty.agg cs) w := by
  obtain ⟨u, hu, ha, _⟩ := hT.und
  obtain ⟨i, hi, hs⟩ := hT.size
  unfold loadVar
  simp only [Sem.run_bind, run_isAgg hu, Result.andThen_ok, ha]
  cases hx : x.ty.agg with
  | true =>
    simp only [if_true, Sem.run_bind, run_sizeOf hi, Result.andThen_ok, hs, ← hl, run_loadCells h, Sem.run_pure, mkV]
  | false =>
    simp only [Bool.false_eq_true, if_false, run_load, mkV]
    match cs, h1 hx, h with
    | [c], _, h =>
      have := h 0 (by simp)
      simp only [Nat.add_zero, List.getElem_cons_zero] at this
      simp [this]
end
end Go.Proofs.YtbmpjppfdeohnaaDoor.Fv

/-! Operations whose answer hangs on their operands alone: what the evaluator says of them, the model does. -/
namespace Go.Proofs.YtbmpjppfdeohnaaDoor.Fv
variable [Quiet]
variable {E : Env} {P : Program} {tt : Nat → Option TE} {M : Mem} {μ : Mu}

theorem RS.of_t {ty : Ty} {x : E.D ty} {cs : List Value} (h : RC M ty x cs) : RS M μ (.t ty x) (mkV ty.agg cs) := RS.v (a := .t ty x) (.t h)
theorem RS.int (k : IntKind) (n : Int) : RS (E := E) M μ (.t (.int k) n) (.int k n) := RS.of_t (ty := .int k) (.int k n)
theorem RS.bool (b : Bool) : RS (E := E) M μ (.t .bool b) (.bool b) := RS.of_t (ty := .bool) (.bool b)
theorem RS.str (s : ByteArray) : RS (E := E) M μ (.t .str (s.data.toList : List UInt8)) (.string s) := RS.of_t (ty := .str) (.str s)
theorem RS.str' {s : ByteArray} {l : List UInt8} (h : s.data.toList = l) : RS (E := E) M μ (.t .str l) (.string s) := by subst h; exact .str s
theorem RS.slice {e : Ty} {xs : List (E.D e)} {base : Option Addr} {n cap : Nat} (h : RC M (.sl e) xs [.slice base n cap]) : RS M μ (.t (.sl e) xs) (.slice base n cap) := RS.of_t (ty := .sl e) h
theorem RS.exact {e : Ty} {xs : List (E.D e)} {base : Option Addr} {n : Nat} (h : RC M (.sl e) xs [.slice base n n]) : RS M μ (.exact e xs) (.slice base n n) := by
  cases h with
  | sl xs base cap css hcap h hat hnil => exact RS.v (a := .exact e xs) (.exact e xs base (.sl xs base _ css hcap h hat hnil))

theorem RS.unN {a : AV E} {v : Value} (h : RS M μ a v) : RS M μ (unN a) v := by
  cases a with
  | snil e =>
    cases h with
    | v h =>
      cases h with
      | snil => exact RS.exact (n := 0) (.sl [] none 0 (fun _ => []) (Nat.le_refl _) (fun i hi => by simp at hi) (fun i hi => by simp at hi) (fun _ => rfl))
  | _ => exact h

theorem RS.int_inv {k : IntKind} {n : Int} {v : Value} (h : RS (E := E) M μ (.t (.int k) n) v) : v = .int k n := by
  cases h with
  | v h => cases h with
    | t h => cases h; rfl
theorem RS.bool_inv {b : Bool} {v : Value} (h : RS (E := E) M μ (.t .bool b) v) : v = .bool b := by
  cases h with
  | v h => cases h with
    | t h => cases h; rfl
theorem RS.str_inv {s : List UInt8} {v : Value} (h : RS (E := E) M μ (.t .str s) v) : ∃ b : ByteArray, v = .string b ∧ b.data.toList = s := by
  cases h with
  | v h => cases h with
    | t h => cases h with
      | str b => exact ⟨b, rfl, rfl⟩
theorem RC.slice_inv {e : Ty} {xs : List (E.D e)} {cs : List Value} (h : RC M (.sl e) xs cs) : ∃ base cap, cs = [.slice base xs.length cap] ∧ xs.length ≤ cap := by
  cases h with
  | sl xs base cap css hcap h hat _ => exact ⟨base, cap, rfl, hcap⟩
theorem RS.sl_inv {e : Ty} {xs : List (E.D e)} {v : Value} (h : RS M μ (.t (.sl e) xs) v) : ∃ base cap, v = .slice base xs.length cap ∧ RC M (.sl e) xs [.slice base xs.length cap] := by
  cases h with
  | v h => cases h with
    | t h =>
      obtain ⟨base, cap, rfl, hc⟩ := h.slice_inv
      exact ⟨base, cap, rfl, h⟩
theorem RS.lst_inv {a : AV E} {v : Value} {e : Ty} {xs : List (E.D e)} (h : RS M μ a v) (hl : lst a = some ⟨e, xs⟩) : ∃ base cap, v = .slice base xs.length cap ∧ RC M (.sl e) xs [.slice base xs.length cap] := by
  unfold lst at hl
  split at hl
  · cases hl; exact h.sl_inv
  · cases hl
    cases h with
    | v h => cases h with
      | sl id e xs h => exact ⟨_, _, rfl, h⟩
  · cases hl
    cases h with
    | v h => cases h with
      | exact e xs base h => exact ⟨_, _, rfl, h⟩
  · cases hl
    cases h with
    | v h => cases h with
      | snn e xs a cap h => exact ⟨_, _, rfl, h⟩
  · cases hl
    cases h with
    | v h => cases h with
      | snil e => exact ⟨none, 0, rfl, .sl [] none 0 (fun _ => []) (Nat.le_refl _) (fun i hi => by simp at hi) (fun i hi => by simp at hi) (fun _ => rfl)⟩
  · cases hl
theorem RS.num_inv {a : AV E} {v : Value} {n : Int} (h : RS M μ a v) (hn : num a = some n) : ∃ k, v = .int k n := by
  unfold num at hn
  split at hn
  · cases hn; exact ⟨_, h.int_inv⟩
  · cases hn
    cases h with
    | c => exact ⟨_, rfl⟩
    | v h => cases h
  · cases hn

theorem cv_sound (t : Nat) (v : Value) : RS M μ (cv (E := E) tt t v) v := by
  unfold cv
  split
  · exact .int _ _
  · exact .bool _
  · exact .str _
  · split
    · exact .exact (.sl [] none 0 (fun _ => []) (Nat.le_refl _) (fun i hi => by simp at hi) (fun i hi => by simp at hi) (fun _ => rfl))
    · exact .undef _
  · exact RS.v (a := .nilp) .nilp
  · exact RS.v (a := .nilfn) .nilfn
  · exact RS.v (a := .niliface) .niliface
  · split
    · exact RS.v (RV.t (.mpn _ _))
    · exact RS.v (a := .nilmap) .nilmap
  · exact .undef _
theorem ca_sound {t : Nat} {a : AV E} {v : Value} (h : RS M μ a v) : RS M μ (ca tt t a) v := by
  unfold ca
  split
  · cases h with
    | c => exact cv_sound _ _
    | v h => cases h
  · exact h

theorem caN_sound {t : Nat} {a : AV E} {v : Value} (h : RS M μ a v) : RS M μ (caN tt t a) v := by
  unfold caN
  split
  · cases h with
    | c =>
      split
      · exact RS.v (RV.snil _)
      · exact .undef _
    | v h => cases h
  · exact ca_sound h

/-- What leads to no block. -/
theorem OKA.of (b : List (Blk E)) {a : AV E} (h : OKs b a) (hn : ∀ cs, a ≠ .agg cs) (ht : ∀ l, a ≠ .tup l) (hi : ∀ t x, a ≠ .iface t x) : OKA b a := .plain h hn ht hi
theorem OKA.t (b : List (Blk E)) (ty : Ty) (v : E.D ty) : OKA b (.t ty v) := .plain trivial (by simp) (by simp) (by simp)
theorem OKA.undef (b : List (Blk E)) : OKA b .undef := .plain trivial (by simp) (by simp) (by simp)
theorem OKA.imm (b : List (Blk E)) (ty : Ty) (v : E.D ty) : OKA b (.imm ty v) := .plain trivial (by simp) (by simp) (by simp)
theorem OKA.exact (b : List (Blk E)) (e : Ty) (v : List (E.D e)) : OKA b (.exact e v) := .plain trivial (by simp) (by simp) (by simp)
theorem OKA.cv (b : List (Blk E)) (t : Nat) (v : Value) : OKA b (cv (E := E) tt t v) := by
  unfold Fv.cv
  split
  · exact .t _ _ _
  · exact .t _ _ _
  · exact .t _ _ _
  · split
    · exact .exact _ _ _
    · exact .undef _
  · exact .plain trivial (by simp) (by simp) (by simp)
  · exact .plain trivial (by simp) (by simp) (by simp)
  · exact .plain trivial (by simp) (by simp) (by simp)
  · split <;> exact .plain trivial (by simp) (by simp) (by simp)
  · exact .plain trivial (by simp) (by simp) (by simp)
theorem OKA.ca (b : List (Blk E)) {t : Nat} {a : AV E} (h : OKA b a) : OKA b (Fv.ca tt t a) := by
  unfold Fv.ca
  split
  · exact .cv _ _ _
  · exact h

theorem OKA.unN {b : List (Blk E)} {a : AV E} (h : OKA b a) : OKA b (Fv.unN a) := by
  cases a with
  | snil e => exact (show OKA b (.exact e []) from .plain trivial (by simp) (by simp) (by simp))
  | _ => exact h
theorem OKA.caN (b : List (Blk E)) {t : Nat} {a : AV E} (h : OKA b a) : OKA b (Fv.caN tt t a) := by
  unfold Fv.caN
  split
  · split <;> exact .plain trivial (by simp) (by simp) (by simp)
  · exact .ca b h

/-- What a pure operation's lemma says. -/
def PureOK (P : Program) (M : Mem) (μ : Mu) (a : AV E) (s : Sem Value) : Prop := ∀ w, Holds M w → ∃ v, s.run P w = .ok v w ∧ RS M μ a v
theorem PureOK.pure {a : AV E} {v : Value} (h : RS M μ a v) : PureOK P M μ a (Pure.pure v) := fun w _ => ⟨v, rfl, h⟩

theorem bytesLess_eq (x y : List UInt8) : bytesLess x y = Op.bytesLess x y := by
  induction x generalizing y with
  | nil => cases y <;> rfl
  | cons a x ih => cases y with
    | nil => rfl
    | cons b y => simp [bytesLess, Op.bytesLess, ih]
theorem byteArray_toList (b : ByteArray) : b.toList = b.data.toList := ByteArray.toList_eq b

theorem run_ok_int {op : BinOp} {k : IntKind} {x y : Int} {xt : Nat} {v : Value} {s : Sem Value} (hs : binOp op xt (.int k x) (.int k y) = s) (w : World) (h : s.run P w = .ok v w) :
    (binOp op xt (.int k x) (.int k y)).run P w = .ok v w := by rw [hs]; exact h

theorem binI_sound {op : BinOp} {k : IntKind} {x y : Int} {a : AV E} (h : binI (E := E) op k x y = some (true, a)) (xt : Nat) :
    PureOK P M μ a (binOp op xt (.int k x) (.int k y)) := by
  have B : ∀ {b c : Bool}, b = c → RS (E := E) M μ (bl b) (.bool c) := fun h => h ▸ RS.bool _
  intro w _
  cases op <;> simp only [binI, r1, rc, reduceCtorEq, Option.some.injEq, Prod.mk.injEq, true_and, Bool.not_eq_true', decide_eq_false_iff_not] at h
  · subst h; exact ⟨_, by simp [binOp, Op.intArith], RS.int _ _⟩
  · subst h; exact ⟨_, by simp [binOp, Op.intArith], RS.int _ _⟩
  · subst h; exact ⟨_, by simp [binOp, Op.intArith], RS.int _ _⟩
  · obtain ⟨h0, rfl⟩ := h
    exact ⟨.int k (k.wrap (x.tdiv y)), by simp [binOp, Op.intDiv, h0], RS.int _ _⟩
  · obtain ⟨h0, rfl⟩ := h
    exact ⟨.int k (x.tmod y), by simp [binOp, Op.intDiv, h0], RS.int _ _⟩
  · subst h; exact ⟨.int k (bits .and k x y), by simp [binOp, Op.intBits, bits_eq, bits0], RS.int _ _⟩
  · subst h; exact ⟨.int k (bits .or k x y), by simp [binOp, Op.intBits, bits_eq, bits0], RS.int _ _⟩
  · subst h; exact ⟨.int k (bits .xor k x y), by simp [binOp, Op.intBits, bits_eq, bits0], RS.int _ _⟩
  · subst h; exact ⟨.int k (bits .andNot k x y), by simp [binOp, Op.intBits, bits_eq, bits0], RS.int _ _⟩
  · subst h; exact ⟨.bool (x == y), by simp [binOp, Op.intCmp], B (by rw [Bool.eq_iff_iff]; simp)⟩
  · subst h; exact ⟨.bool (x != y), by simp [binOp, Op.intCmp], B (by rw [Bool.eq_iff_iff]; simp)⟩
  · subst h; exact ⟨.bool (decide (x < y)), by simp [binOp, Op.intCmp], B rfl⟩
  · subst h; exact ⟨.bool (decide (x ≤ y)), by simp [binOp, Op.intCmp], B rfl⟩
  · subst h; exact ⟨.bool (decide (x > y)), by simp [binOp, Op.intCmp], B rfl⟩
  · subst h; exact ⟨.bool (decide (x ≥ y)), by simp [binOp, Op.intCmp], B rfl⟩

theorem binII_sound {op : BinOp} {k k' : IntKind} {x y : Int} {a : AV E} (h : binII (E := E) op k k' x y = some (true, a)) (xt : Nat) :
    PureOK P M μ a (binOp op xt (.int k x) (.int k' y)) := by
  unfold binII at h
  split at h
  · simp only [rc, Option.some.injEq, Prod.mk.injEq, decide_eq_true_eq] at h
    obtain ⟨h0, rfl⟩ := h
    intro w _
    exact ⟨.int k (shl k x y), by simp [binOp, Op.shift, shl, show ¬ y < 0 by omega], RS.int _ _⟩
  · simp only [rc, Option.some.injEq, Prod.mk.injEq, decide_eq_true_eq] at h
    obtain ⟨h0, rfl⟩ := h
    intro w _
    exact ⟨.int k (shr k x y), by simp [binOp, Op.shift, shr, show ¬ y < 0 by omega], RS.int _ _⟩
  · by_cases hk : k = k'
    · subst hk
      simp only [decide_true, cond_true] at h
      exact binI_sound h xt
    · simp [hk] at h

theorem binS_sound {op : BinOp} {x y : ByteArray} {a : AV E} (h : binS (E := E) op x.data.toList y.data.toList = some (true, a)) (xt : Nat) :
    PureOK P M μ a (binOp op xt (.string x) (.string y)) := by
  have B : ∀ {b c : Bool}, b = c → RS (E := E) M μ (bl b) (.bool c) := fun h => h ▸ RS.bool _
  have hx := byteArray_toList x
  have hy := byteArray_toList y
  intro w _
  cases op <;> simp only [binS, r1, rc, reduceCtorEq, Option.some.injEq, Prod.mk.injEq, true_and, decide_eq_true_eq] at h
  · obtain ⟨h0, rfl⟩ := h
    refine ⟨.string (x ++ y), ?_, RS.str' (by simp)⟩
    have h0' : x.size + y.size ≤ 4294967296 := by simpa using h0
    have : ¬ (((x.size + y.size : Nat) : Int) > IntKind.i64.max) := by
      have : IntKind.i64.max = 9223372036854775807 := by decide
      rw [this]
      omega
    simp only [binOp, Op.stringOp, if_neg this, Sem.run_pure]
  · subst h; exact ⟨.bool (x.toList == y.toList), by simp [binOp, Op.stringOp], B (by rw [hx, hy])⟩
  · subst h; exact ⟨.bool (!(x.toList == y.toList)), by simp [binOp, Op.stringOp], B (by rw [hx, hy])⟩
  · subst h; exact ⟨.bool (Op.bytesLess x.toList y.toList), by simp [binOp, Op.stringOp], B (by rw [hx, hy, bytesLess_eq])⟩
  · subst h; exact ⟨.bool (Op.bytesLess x.toList y.toList || x.toList == y.toList), by simp [binOp, Op.stringOp], B (by rw [hx, hy, bytesLess_eq])⟩
  · subst h; exact ⟨.bool (!(Op.bytesLess x.toList y.toList || x.toList == y.toList)), by simp [binOp, Op.stringOp], B (by rw [hx, hy, bytesLess_eq])⟩
  · subst h; exact ⟨.bool (!(Op.bytesLess x.toList y.toList)), by simp [binOp, Op.stringOp], B (by rw [hx, hy, bytesLess_eq])⟩


theorem TOK.bool {t : Nat} (hT : TOK P E tt) (h : tdOf tt t = .bool) : P.underlying t = some .bool := by
  unfold tdOf at h
  split at h
  · rename_i x hx
    obtain ⟨u, hu, _, hd⟩ := (hT t x hx).und
    rw [h] at hd
    obtain ⟨rfl, _⟩ := hd
    exact hu
  · cases h
theorem equal_bool {t : Nat} (h : P.underlying t = some .bool) (a b : Bool) (w : World) : (Op.equal t (.bool a) (.bool b)).run P w = .ok (a == b) w := by
  have key : ∀ d, (Op.equalIn (d + 1) t (.bool a) (.bool b)).run P w = .ok (a == b) w := by
    intro d
    simp only [Op.equalIn, Sem.run_bind, run_underlying' h, Result.andThen_ok, Sem.run_pure]
  exact key 9999

theorem binB_sound (hT : TOK P E tt) {op : BinOp} {x y : Bool} {t : Nat} {a : AV E} (h : binB (E := E) op x y = some (true, a)) (ht : tdOf tt t = .bool) :
    PureOK P M μ a (binOp op t (.bool x) (.bool y)) := by
  have hu := hT.bool ht
  intro w _
  unfold binB at h
  split at h
  · cases h; exact ⟨.bool (x == y), by simp [binOp, equal_bool hu], RS.bool _⟩
  · cases h; exact ⟨.bool (!(x == y)), by simp [binOp, equal_bool hu], RS.bool _⟩
  · cases h

theorem bin_sound (hT : TOK P E tt) {op : BinOp} {a b c : AV E} {va vb : Value} {t : Nat} (h : bin (tdOf tt t) op a b = some (true, c)) (ha : RS M μ a va) (hb : RS M μ b vb) (x y : Operand) :
    PureOK P M μ c (do eqGuard op t x y va vb; binOp op t va vb) := by
  unfold bin at h
  split at h
  · rw [ha.int_inv, hb.int_inv]
    intro w hw
    obtain ⟨v, h1, h2⟩ := binII_sound (P := P) (M := M) (μ := μ) h t w hw
    exact ⟨v, by cases op <;> simpa [eqGuard] using h1, h2⟩
  · obtain ⟨sa, rfl, rfl⟩ := ha.str_inv
    obtain ⟨sb, rfl, rfl⟩ := hb.str_inv
    intro w hw
    obtain ⟨v, h1, h2⟩ := binS_sound (P := P) (M := M) (μ := μ) h t w hw
    exact ⟨v, by cases op <;> simpa [eqGuard] using h1, h2⟩
  · split at h
    · rename_i htd
      rw [ha.bool_inv, hb.bool_inv]
      intro w hw
      obtain ⟨v, h1, h2⟩ := binB_sound (P := P) (M := M) (μ := μ) hT h htd w hw
      exact ⟨v, by cases op <;> simpa [eqGuard] using h1, h2⟩
    · cases h
  · cases h

theorem TOK.get {t : Nat} (hT : TOK P E tt) (h : tdOf tt t ≠ .other) : ∃ x, tt t = some x ∧ tdOf tt t = x.d ∧ tyOf tt t = x.ty ∧ TFact P E tt t x := by
  unfold tdOf at h
  split at h
  · rename_i x hx
    exact ⟨x, hx, tdOf_some hx, tyOf_some hx, hT t x hx⟩
  · exact absurd rfl h

theorem equal_ptr {t e : Nat} (h : P.underlying t = some (.pointer e)) (p : Option Addr) (w : World) : (Op.equal t (.pointer p) (.pointer none)).run P w = .ok p.isNone w := by
  have key : ∀ d, (Op.equalIn (d + 1) t (.pointer p) (.pointer none)).run P w = .ok p.isNone w := by
    intro d
    cases p <;> simp only [Op.equalIn, Sem.run_bind, run_underlying' h, Result.andThen_ok, Sem.run_pure] <;> rfl
  exact key 9999
theorem equal_nilfn {t : Nat} {a b c} (h : P.underlying t = some (.func a b c)) (w : World) : (Op.equal t .nilFunc .nilFunc).run P w = .ok true w := by
  have key : ∀ d, (Op.equalIn (d + 1) t .nilFunc .nilFunc).run P w = .ok true w := by
    intro d
    simp only [Op.equalIn, Sem.run_bind, run_underlying' h, Result.andThen_ok, Sem.run_pure]
  exact key 9999
theorem equal_func {t : Nat} {a b c} (h : P.underlying t = some (.func a b c)) (f g i) (w : World) : (Op.equal t (.func f g i) .nilFunc).run P w = .ok false w := by
  have key : ∀ d, (Op.equalIn (d + 1) t (.func f g i) .nilFunc).run P w = .ok false w := by
    intro d
    simp only [Op.equalIn, Sem.run_bind, run_underlying' h, Result.andThen_ok, Sem.run_pure]
  exact key 9999
theorem equal_niliface {t : Nat} {ms} (h : P.underlying t = some (.interface ms)) (w : World) : (Op.equal t .nilIface .nilIface).run P w = .ok true w := by
  have key : ∀ d, (Op.equalIn (d + 1) t .nilIface .nilIface).run P w = .ok true w := by
    intro d
    simp only [Op.equalIn, Sem.run_bind, run_underlying' h, Result.andThen_ok, Sem.run_pure]
  exact key 9999
theorem equal_iface {t : Nat} {ms} (h : P.underlying t = some (.interface ms)) (u v) (w : World) : (Op.equal t (.iface u v) .nilIface).run P w = .ok false w := by
  have key : ∀ d, (Op.equalIn (d + 1) t (.iface u v) .nilIface).run P w = .ok false w := by
    intro d
    simp only [Op.equalIn, Sem.run_bind, run_underlying' h, Result.andThen_ok, Sem.run_pure]
  exact key 9999

theorem equal_slice {t e : Nat} (h : P.underlying t = some (.slice e)) (a : Option Addr) (l c : Nat) (w : World) : (Op.equal t (.slice a l c) (.slice none 0 0)).run P w = .ok a.isNone w := by
  have key : ∀ d, (Op.equalIn (d + 1) t (.slice a l c) (.slice none 0 0)).run P w = .ok a.isNone w := by
    intro d
    cases a <;> simp only [Op.equalIn, Sem.run_bind, run_underlying' h, Result.andThen_ok, Sem.run_pure] <;> rfl
  exact key 9999
/-- The values that are held against nil. -/
def NilV (n v : Value) : Prop := (∃ p, n = .pointer none ∧ v = .pointer p) ∨ (n = .nilFunc ∧ (v = .nilFunc ∨ ∃ f g i, v = .func f g i)) ∨ (n = .nilIface ∧ (v = .nilIface ∨ ∃ u x, v = .iface u x)) ∨ (n = .slice none 0 0 ∧ ∃ a l c, v = .slice a l c)
theorem nilEq_sound (hT : TOK P E tt) {a : AV E} {n va : Value} {t : Nat} {r : Bool} (hr : nilEq (tdOf tt t) n a = some (true, r)) (ha : RS M μ a va) (w : World) :
    (Op.equal t va n).run P w = .ok r w ∧ NilV n va := by
  have hne : tdOf tt t ≠ .other := by intro h0; rw [h0] at hr; simp [nilEq] at hr
  obtain ⟨X, hx, hd, hty, hF⟩ := hT.get hne
  obtain ⟨u, hu, _, hD⟩ := hF.und
  rw [hd] at hr
  unfold nilEq at hr
  split at hr
  case h_13 => cases hr
  case h_11 =>
    rename_i n heq
    rw [heq] at hD
    have h1 := (Prod.mk.inj (Option.some.inj hr)).1
    have h2 := (Prod.mk.inj (Option.some.inj hr)).2
    subst h2
    have h1 := of_decide_eq_true h1
    obtain ⟨rfl, _⟩ := hD
    cases ha with
    | v ha => cases ha with
      | fs _ _ _ _ cap base hb hc =>
        rcases hb with ⟨rfl, _⟩ | ⟨hb, _⟩
        · exact ⟨equal_slice hu _ _ _ w, .inr (.inr (.inr ⟨rfl, _, _, _, rfl⟩))⟩
        · omega
  all_goals
    rename_i heq
    rw [heq] at hD
    cases hr
    cases ha with
    | v ha => ?_
  · cases ha; subst hD; exact ⟨equal_ptr hu _ w, .inl ⟨_, rfl, rfl⟩⟩
  · cases ha; subst hD; exact ⟨equal_ptr hu _ w, .inl ⟨_, rfl, rfl⟩⟩
  · cases ha; subst hD; exact ⟨equal_ptr hu _ w, .inl ⟨_, rfl, rfl⟩⟩
  · cases ha; subst hD; exact ⟨equal_ptr hu _ w, .inl ⟨_, rfl, rfl⟩⟩
  · cases ha; obtain ⟨_, _, _, rfl⟩ := hD; exact ⟨equal_nilfn hu w, .inr (.inl ⟨rfl, .inl rfl⟩)⟩
  · cases ha; obtain ⟨_, _, _, rfl⟩ := hD; exact ⟨equal_func hu _ _ _ w, .inr (.inl ⟨rfl, .inr ⟨_, _, _, rfl⟩⟩)⟩
  · cases ha; obtain ⟨_, rfl⟩ := hD; exact ⟨equal_niliface hu w, .inr (.inr (.inl ⟨rfl, .inl rfl⟩))⟩
  · cases ha; obtain ⟨_, rfl⟩ := hD; exact ⟨equal_iface hu _ _ w, .inr (.inr (.inl ⟨rfl, .inr ⟨_, _, rfl⟩⟩))⟩
  · cases ha; obtain ⟨rfl, _⟩ := hD; exact ⟨equal_slice hu _ _ _ w, .inr (.inr (.inr ⟨rfl, _, _, _, rfl⟩))⟩
  · cases ha; obtain ⟨rfl, _⟩ := hD; exact ⟨equal_slice hu _ _ _ w, .inr (.inr (.inr ⟨rfl, _, _, _, rfl⟩))⟩
  · obtain ⟨_, rfl⟩ := hD
    cases ha with
    | errn => exact ⟨equal_niliface hu w, .inr (.inr (.inl ⟨rfl, .inl rfl⟩))⟩
    | errs => exact ⟨equal_iface hu _ _ w, .inr (.inr (.inl ⟨rfl, .inr ⟨_, _, rfl⟩⟩))⟩

theorem nilBin_sound (hT : TOK P E tt) {op : BinOp} {a c : AV E} {n va : Value} {t : Nat} (h : nilBin (tdOf tt t) op n a = some (true, c)) (ha : RS M μ a va) (x : Operand) :
    PureOK P M μ c (do eqGuard op t x (.const n) va n; binOp op t va n) := by
  intro w _
  unfold nilBin at h
  split at h
  · rename_i k c' hc
    injection h with h; injection h with hk h
    subst hk h
    obtain ⟨h1, h2⟩ := nilEq_sound hT hc ha w
    refine ⟨.bool c', ?_, RS.bool _⟩
    rcases h2 with ⟨p, rfl, rfl⟩ | ⟨rfl, rfl | ⟨f, g, i, rfl⟩⟩ | ⟨rfl, rfl | ⟨u, x, rfl⟩⟩ | ⟨rfl, a, l, c, rfl⟩ <;> simp [eqGuard, binOp, h1]
  · rename_i k c' hc
    injection h with h; injection h with hk h
    subst hk h
    obtain ⟨h1, h2⟩ := nilEq_sound hT hc ha w
    refine ⟨.bool (!c'), ?_, RS.bool _⟩
    rcases h2 with ⟨p, rfl, rfl⟩ | ⟨rfl, rfl | ⟨f, g, i, rfl⟩⟩ | ⟨rfl, rfl | ⟨u, x, rfl⟩⟩ | ⟨rfl, a, l, c, rfl⟩ <;> simp [eqGuard, binOp, h1]
  · cases h

end Go.Proofs.YtbmpjppfdeohnaaDoor.Fv

/-! Parts of values. -/
namespace Go.Proofs.YtbmpjppfdeohnaaDoor.Fv
variable [Quiet]
variable {E : Env} {P : Program} {tt : Nat → Option TE} {M : Mem} {μ : Mu}

/-- A list with a piece of it. -/
def Piece (cs : List Value) (off : Nat) (c : List Value) : Prop := ∃ pre post, cs = pre ++ c ++ post ∧ pre.length = off
theorem Piece.refl (cs : List Value) : Piece cs 0 cs := ⟨[], [], by simp, rfl⟩
theorem Piece.trans {cs c d : List Value} {o p : Nat} (h : Piece cs o c) (h' : Piece c p d) : Piece cs (o + p) d := by
  obtain ⟨a, b, rfl, rfl⟩ := h
  obtain ⟨x, y, rfl, rfl⟩ := h'
  exact ⟨a ++ x, y ++ b, by simp, by simp⟩
theorem Piece.get {cs c : List Value} {o : Nat} (h : Piece cs o c) : ∀ j (hj : j < c.length), ∃ hk : o + j < cs.length, cs[o + j] = c[j] := by
  obtain ⟨a, b, rfl, rfl⟩ := h
  intro j hj
  refine ⟨by simp; omega, ?_⟩
  simp [List.getElem_append_right, List.getElem_append_left, hj]

theorem flatten_piece : ∀ (css : List (List Value)) (i k : Nat), i < css.length → (∀ j, j < i → (css.getD j []).length = k) → Piece css.flatten (i * k) (css.getD i [])
  | [], i, k, h, _ => by simp at h
  | c :: l, 0, k, _, _ => ⟨[], l.flatten, by simp, by simp⟩
  | c :: l, i + 1, k, h, hk => by
    have h0 := hk 0 (by omega)
    simp only [List.getD_cons_zero] at h0
    have := flatten_piece l i k (by simpa using h) (fun j hj => by have := hk (j + 1) (by omega); simpa using this)
    obtain ⟨a, b, h1, h2⟩ := this
    refine ⟨c ++ a, b, ?_, ?_⟩
    · simp only [List.flatten_cons, List.getD_cons_succ, h1]; simp
    · simp [h0, h2, Nat.succ_mul, Nat.add_comm]

theorem RC.fldS (hE : EnvOK E) : ∀ (ty : Ty) (x : E.D ty) (cs : List Value) (i : Nat) (ty' : Ty) (v : E.D ty'), RC M ty x cs →
    Fv.fldS ty x i = .t ty' v → ty' = fldTyS ty i ∧ ∃ c, Piece cs (fldOffS E ty i) c ∧ RC M ty' v c := by
  intro ty
  induction ty with
  | one a iha =>
    intro x cs i ty' v h he
    cases i with
    | zero =>
      simp only [Fv.fldS] at he
      cases he
      cases h with
      | one h => exact ⟨rfl, cs, Piece.refl _, h⟩
    | succ i => simp [Fv.fldS] at he
  | pair a b iha ihb =>
    intro x cs i ty' v h he
    cases h with
    | pair h1 h2 =>
      rename_i c1 c2 x1 y1
      cases i with
      | zero =>
        simp only [Fv.fldS] at he
        cases he
        exact ⟨rfl, c1, ⟨[], c2, rfl, rfl⟩, h1⟩
      | succ i =>
        simp only [Fv.fldS] at he
        obtain ⟨h3, c, h4, h5⟩ := ihb _ _ _ _ _ h2 he
        refine ⟨h3, c, ?_, h5⟩
        have hl := h1.len hE
        obtain ⟨p, q, hp, hq⟩ := h4
        exact ⟨c1 ++ p, q, by rw [hp]; simp only [List.append_assoc], by simp [fldOffS, hl, hq]⟩
  | _ => intro x cs i ty' v h he; simp [Fv.fldS] at he
theorem List.getD_of_lt {α : Type} (l : List α) (i : Nat) (d : α) (h : i < l.length) : l.getD i d = l[i] := by
  rw [List.getD_eq_getElem?_getD, List.getElem?_eq_getElem h]; rfl
theorem RC.fldArr (hE : EnvOK E) {n : Nat} {e : Ty} {x : List (E.D e)} {cs : List Value} {i : Nat} (h : RC M (.arr n e) x cs) (hi : i < n) :
    ∃ c, Piece cs (i * size E e) c ∧ RC M e (x.getD i (dfl E e)) c := by
  cases h with
  | arr n xs css hn hl hx =>
    have hx' := hx i (by omega)
    refine ⟨css.getD i [], flatten_piece css i (size E e) (by omega) (fun j hj => (hx j (by omega)).len hE), ?_⟩
    rw [List.getD_of_lt _ _ _ (by omega)]
    exact hx'
theorem RC.fldT (hE : EnvOK E) {ty : Ty} {x : E.D ty} {cs : List Value} {i : Nat} {ty' : Ty} {v : E.D ty'} (h : RC M ty x cs) (hi : ∀ n e, ty = .arr n e → i < n)
    (he : Fv.fldT ty x i = .t ty' v) : ty' = fldTy ty i ∧ ∃ c, Piece cs (fldOff E ty i) c ∧ RC M ty' v c := by
  cases ty with
  | arr n e =>
    simp only [Fv.fldT] at he
    cases he
    exact ⟨rfl, h.fldArr hE (hi _ _ rfl)⟩
  | _ => exact RC.fldS hE _ _ _ _ _ _ h he

/-- A value that fits a place has as many cells. -/
theorem fit_len (hE : EnvOK E) {a : AV E} {cs : List Value} (h : RV M μ a cs) : ∀ {ly : Ty}, fit ly a = true → cs.length = size E ly := by
  induction h with
  | t h =>
    intro ly hf
    simp only [fit, Bool.or_eq_true, Bool.and_eq_true, decide_eq_true_eq, Bool.not_eq_true'] at hf
    rcases hf with rfl | ⟨rfl, ha⟩
    · exact h.len hE
    · have := h.len hE
      rw [this]
      cases h <;> simp_all [Ty.agg, size]
  | agg cs css hl h ih =>
    intro ly hf
    have key : ∀ (ly : Ty) (cs : List (AV E)) (css : List (List Value)), css.length = cs.length →
        (∀ i (hi : i < cs.length), ∀ {ly : Ty}, fit ly cs[i] = true → (css.getD i []).length = size E ly) → fits ly cs = true → css.flatten.length = size E ly := by
      intro ly
      induction ly with
      | one a _ =>
        intro cs css hl ih hf
        match cs, css, hl with
        | [c], [d], _ =>
          simp only [fits] at hf
          have := ih 0 (by simp) (by simpa using hf)
          simpa [size] using this
        | [], _, _ => simp [fits] at hf
        | _ :: _ :: _, _, _ => simp [fits] at hf
      | pair a b _ ihb =>
        intro cs css hl ih hf
        match cs, css, hl with
        | c :: cs, d :: css, hl =>
          simp only [fits, Bool.and_eq_true] at hf
          have h0 := ih 0 (by simp) (by simpa using hf.1)
          have h1 := ihb cs css (by simpa using hl) (fun i hi {ly} h' => by have := @ih (i + 1) (by simpa using hi) ly (by simpa using h'); simpa using this) hf.2
          simp at h0
          simp [size, h0, h1]
        | [], _, _ => simp [fits] at hf
      | _ => intro cs css hl ih hf; cases cs <;> simp [fits] at hf
    cases ly with
    | nm n =>
      simp only [fit] at hf
      rw [key _ _ _ hl (fun i hi => @ih i hi) hf]
      exact (hE.sz n).symm
    | _ => exact key _ _ _ hl (fun i hi => @ih i hi) hf
  | _ =>
    intro ly hf
    cases ly <;> simp_all [fit, size]


/-- What a part is, where there is one. -/
def Part (M : Mem) (μ : Mu) (cs : List Value) (ly : Ty) (off : Nat) (b : AV E) : Prop := b = .undef ∨ ∃ c, Piece cs off c ∧ RV M μ b c ∧ fit ly b = true

theorem fit_t {ly ty : Ty} {v : E.D ty} (h : fit ly (.t ty v) = true) (hl : ly.agg = true) : ty = ly := by
  simp only [fit, Bool.or_eq_true, Bool.and_eq_true, decide_eq_true_eq] at h
  rcases h with h | ⟨rfl, _⟩
  · exact h
  · simp [Ty.agg] at hl
theorem fit_self (ty : Ty) (v : E.D ty) : fit ty (.t ty v) = true := by simp [fit]
theorem fldS_cases : ∀ (ty : Ty) (v : E.D ty) (i : Nat), Fv.fldS ty v i = .undef ∨ ∃ ty' v', Fv.fldS ty v i = .t ty' v' := by
  intro ty
  induction ty with
  | one a _ => intro v i; cases i with
    | zero => exact .inr ⟨_, _, rfl⟩
    | succ i => exact .inl rfl
  | pair a b _ ihb => intro v i; cases i with
    | zero => exact .inr ⟨_, _, rfl⟩
    | succ i => exact ihb v.2 i
  | _ => intro v i; exact .inl rfl
theorem fldT_cases (ty : Ty) (v : E.D ty) (i : Nat) : Fv.fldT ty v i = .undef ∨ ∃ ty' v', Fv.fldT ty v i = .t ty' v' := by
  cases ty with
  | arr n e => exact .inr ⟨_, _, rfl⟩
  | _ => exact fldS_cases _ _ _

theorem fits_part (hE : EnvOK E) : ∀ (ly : Ty) (cs : List (AV E)) (css : List (List Value)) (i : Nat), css.length = cs.length →
    (∀ i (hi : i < cs.length), RV M μ cs[i] (css.getD i [])) → fits ly cs = true → Part M μ css.flatten (fldTyS ly i) (fldOffS E ly i) (cs.getD i .undef) := by
  intro ly
  induction ly with
  | one a _ =>
    intro cs css i hl h hf
    match cs, css, hl with
    | [c], [d], _ =>
      cases i with
      | zero =>
        simp only [fits] at hf
        exact .inr ⟨d, by simpa [fldOffS] using Piece.refl d, h 0 (by simp), hf⟩
      | succ i => exact .inl (by simp)
    | [], _, _ => simp [fits] at hf
    | _ :: _ :: _, _, _ => simp [fits] at hf
  | pair a b _ ihb =>
    intro cs css i hl h hf
    match cs, css, hl with
    | c :: cs, d :: css, hl =>
      simp only [fits, Bool.and_eq_true] at hf
      cases i with
      | zero => exact .inr ⟨d, ⟨[], css.flatten, by simp, rfl⟩, h 0 (by simp), hf.1⟩
      | succ i =>
        have h0 := fit_len hE (h 0 (by simp)) hf.1
        simp only [List.getD_cons_zero, List.getElem_cons_zero] at h0
        rcases ihb cs css i (by simpa using hl) (fun i hi => by have := h (i + 1) (by simpa using hi); simpa using this) hf.2 with h1 | ⟨e, h2, h3, h4⟩
        · exact .inl (by simpa using h1)
        · refine .inr ⟨e, ?_, by simpa using h3, by simpa [fldTyS] using h4⟩
          obtain ⟨p, q, hp, hq⟩ := h2
          exact ⟨d ++ p, q, by simp [hp], by simp [fldOffS, h0, hq]⟩
    | [], _, _ => simp [fits] at hf
  | _ => intro cs css i hl h hf; cases cs <;> simp [fits] at hf

theorem fld_sound (hE : EnvOK E) {ly : Ty} {a : AV E} {cs : List Value} {i : Nat} (hl : ly.agg = true) (hf : fit ly a = true) (h : RV M μ a cs) (hi : ∀ n e, ly = .arr n e → i < n) :
    Part M μ cs (fldTy (bodyOf E ly) i) (fldOff E (bodyOf E ly) i) (fld a i) := by
  cases h with
  | t h =>
    rename_i ty v
    obtain rfl := fit_t hf hl
    cases ty with
    | nm n =>
      simp only [fld, bodyOf]
      cases h with
      | nm h =>
        rcases fldT_cases (E.body n) (E.un n v) i with h0 | ⟨ty', v', h0⟩
        · exact .inl h0
        · obtain ⟨h1, c, h2, h3⟩ := h.fldT hE (fun m e he => by rcases hE.agg n with ⟨a, h⟩ | ⟨a, b, h⟩ <;> rw [h] at he <;> cases he) h0
          rw [h0]
          exact .inr ⟨c, h2, .t h3, by subst h1; exact fit_self _ _⟩
    | any => simp [Ty.agg] at hl
    | _ =>
      simp only [fld, bodyOf]
      rcases fldT_cases _ v i with h0 | ⟨ty', v', h0⟩
      · exact .inl h0
      · obtain ⟨h1, c, h2, h3⟩ := h.fldT hE hi h0
        rw [h0]
        exact .inr ⟨c, h2, .t h3, by subst h1; exact fit_self _ _⟩
  | agg l css hl' h =>
    cases ly with
    | nm n =>
      simp only [fit] at hf
      have := fits_part hE _ _ _ i hl' h hf
      simp only [fld, bodyOf]
      rcases hE.agg n with ⟨a, h⟩ | ⟨a, b, h⟩ <;> rw [h] at this ⊢ <;> exact this
    | arr n e => cases l <;> simp [fit, fits] at hf
    | one a => simp only [fit] at hf; exact fits_part hE _ _ _ i hl' h hf
    | pair a b => simp only [fit] at hf; exact fits_part hE _ _ _ i hl' h hf
    | _ => simp [Ty.agg] at hl
  | _ => cases ly <;> simp_all [fit, Ty.agg]


theorem fit_agg {ly : Ty} {a : AV E} (h : fit ly a = true) (ha : ly.agg = true) : a.isAgg = true := by
  cases a with
  | t ty v => obtain rfl := fit_t h ha; exact ha
  | agg cs => rfl
  | _ => cases ly <;> simp_all [fit, Ty.agg]
theorem fit_agg' {ly : Ty} {a : AV E} (h : fit ly a = true) : a.isAgg = ly.agg := by
  cases ha : ly.agg with
  | true => exact fit_agg h ha
  | false =>
    cases a with
    | t ty v =>
      simp only [fit, Bool.or_eq_true, Bool.and_eq_true, decide_eq_true_eq, Bool.not_eq_true'] at h
      rcases h with rfl | ⟨_, h⟩
      · exact ha
      · exact h
    | agg cs => cases ly <;> simp_all [fit, fits, Ty.agg] <;> (cases cs <;> simp [fits] at h)
    | _ => rfl

theorem getP_undef : ∀ p, getP (E := E) .undef p = .undef
  | [] => rfl
  | i :: p => getP_undef p

/-- The type behind a step. -/
theorem subTy_cons (E : Env) (ly : Ty) (i : Nat) (p : List Nat) : subTy E ly (i :: p) = subTy E (fldTy (bodyOf E ly) i) p := by cases ly <;> rfl
theorem offTy_cons (E : Env) (ly : Ty) (i : Nat) (p : List Nat) : offTy E ly (i :: p) = fldOff E (bodyOf E ly) i + offTy E (fldTy (bodyOf E ly) i) p := by cases ly <;> rfl
theorem inR_cons {ly : Ty} {i : Nat} {p : List Nat} (h : inR E ly (i :: p) = true) : inR E (fldTy (bodyOf E ly) i) p = true ∧ ∀ n e, ly = .arr n e → i < n := by
  cases ly <;> simp_all [inR, bodyOf, fldTy]
theorem fld_nonagg {ly : Ty} {a : AV E} {i : Nat} (hf : fit ly a = true) (hl : ly.agg = false) : fld a i = .undef := by
  cases a with
  | t ty v =>
    have := fit_agg' hf
    rw [hl] at this
    cases ty <;> simp_all [AV.isAgg, Ty.agg, fld, fldT, fldS]
  | agg cs => have := fit_agg' hf; simp_all [AV.isAgg]
  | _ => rfl

theorem getP_sound (hE : EnvOK E) : ∀ (p : List Nat) (ly : Ty) (a : AV E) (cs : List Value), fit ly a = true → RV M μ a cs → inR E ly p = true →
    Part M μ cs (subTy E ly p) (offTy E ly p) (getP a p) := by
  intro p
  induction p with
  | nil => intro ly a cs hf h _; exact .inr ⟨cs, Piece.refl _, h, by cases ly <;> exact hf⟩
  | cons i p ih =>
    intro ly a cs hf h hr
    obtain ⟨hr1, hr2⟩ := inR_cons hr
    rw [subTy_cons, offTy_cons]
    simp only [getP]
    cases hl : ly.agg with
    | false => rw [fld_nonagg hf hl, getP_undef]; exact .inl rfl
    | true =>
      rcases fld_sound hE hl hf h hr2 (i := i) with h0 | ⟨c, h1, h2, h3⟩
      · rw [h0, getP_undef]; exact .inl rfl
      · rcases ih _ _ _ h3 h2 hr1 with h4 | ⟨d, h5, h6, h7⟩
        · exact .inl h4
        · exact .inr ⟨d, h1.trans h5, h6, h7⟩

end Go.Proofs.YtbmpjppfdeohnaaDoor.Fv

/-! Values as typed ones; parts put into values. -/
namespace Go.Proofs.YtbmpjppfdeohnaaDoor.Fv
variable [Quiet]
variable {E : Env} {P : Program} {tt : Nat → Option TE} {M : Mem} {μ : Mu}

theorem cst_eq {a b : Ty} {v : E.D a} {w : E.D b} (h : cst a b v = some w) : ∃ e : a = b, w = e ▸ v := by
  unfold cst at h
  split at h
  · rename_i e; cases h; exact ⟨e, rfl⟩
  · cases h
theorem cst_self (a : Ty) (v : E.D a) : cst a a v = some v := by simp [cst]

theorem toT_sound (hE : EnvOK E) {a : AV E} {cs : List Value} (h : RV M μ a cs) : ∀ {b : Ty} {v : E.D b}, toT a b = some v → RC M b v cs := by
  induction h with
  | t h =>
    intro b v hv
    obtain ⟨rfl, rfl⟩ := cst_eq (show cst _ b _ = some v from hv)
    exact h
  | sl id e xs h =>
    intro b v hv
    obtain ⟨rfl, rfl⟩ := cst_eq (show cst (.sl _) b _ = some v from hv)
    exact h
  | exact e xs base h =>
    intro b v hv
    obtain ⟨rfl, rfl⟩ := cst_eq (show cst (.sl _) b _ = some v from hv)
    exact h
  | agg cs css hl h ih =>
    have key : ∀ (b : Ty) (cs : List (AV E)) (css : List (List Value)) (v : E.D b), css.length = cs.length →
        (∀ i (hi : i < cs.length), ∀ {b : Ty} {v : E.D b}, toT cs[i] b = some v → RC M b v (css.getD i [])) → toTs cs b = some v → RC M b v css.flatten := by
      intro b
      induction b with
      | one a _ =>
        intro cs css v hl ih hv
        match cs, css, hl with
        | [c], [d], _ =>
          have hv : toT c a = some v := hv
          have := ih 0 (by simp) hv
          simpa using RC.one this
        | [], _, _ => cases hv
        | _ :: _ :: _, _, _ => cases hv
      | pair a b _ ihb =>
        intro cs css v hl ih hv
        match cs, css, hl with
        | c :: cs, d :: css, hl =>
          have hv : ((toT c a).bind fun x => (toTs cs b).map fun y => (x, y)) = some v := hv
          obtain ⟨x, hx, hv⟩ := Option.bind_eq_some_iff.1 hv
          obtain ⟨y, hy, rfl⟩ := Option.map_eq_some_iff.1 hv
          have h0 := ih 0 (by simp) hx
          have h1 := ihb cs css y (by simpa using hl) (fun i hi {b v} h' => by have := @ih (i + 1) (by simpa using hi) b v (by simpa using h'); simpa using this) hy
          simp only [List.getD_cons_zero] at h0
          exact RC.pair h0 h1
        | [], _, _ => cases hv
      | _ => intro cs css v hl ih hv; cases cs <;> cases hv
    intro b v hv
    cases b with
    | nm n =>
      have hv : (toTs cs (E.body n)).map (E.ro n) = some v := hv
      obtain ⟨x, hx, rfl⟩ := Option.map_eq_some_iff.1 hv
      exact .nm (by rw [hE.un_ro]; exact key _ _ _ _ hl (fun i hi => @ih i hi) hx)
    | _ => exact key _ _ _ _ hl (fun i hi => @ih i hi) hv
  | snil e =>
    intro b v hv
    obtain ⟨rfl, rfl⟩ := cst_eq (show cst (.sl e) b ([] : List (E.D e)) = some v from hv)
    exact .sl [] none 0 (fun _ => []) (Nat.le_refl _) (fun i hi => by simp at hi) (fun i hi => by simp at hi) (fun _ => rfl)
  | snn e xs a cap h =>
    intro b v hv
    obtain ⟨rfl, rfl⟩ := cst_eq (show cst (.sl e) b xs = some v from hv)
    exact h
  | _ => intro b v hv; cases hv

/-- A piece replaced. -/
def Repl (cs : List Value) (off : Nat) (c cs' : List Value) : Prop := ∃ pre old post, cs = pre ++ old ++ post ∧ cs' = pre ++ c ++ post ∧ pre.length = off ∧ old.length = c.length
theorem Repl.whole (cs c : List Value) (h : cs.length = c.length) : Repl cs 0 c c := ⟨[], cs, [], by simp, by simp, rfl, h⟩
theorem Repl.inside {cs d d' c : List Value} {o p : Nat} {pre post : List Value} (hcs : cs = pre ++ d ++ post) (hpre : pre.length = o) (h : Repl d p c d') : Repl cs (o + p) c (pre ++ d' ++ post) := by
  obtain ⟨a, old, b, rfl, rfl, rfl, ho⟩ := h
  exact ⟨pre ++ a, old, b ++ post, by simp [hcs], by simp, by simp [hpre], ho⟩
theorem Repl.len {cs c cs' : List Value} {o : Nat} (h : Repl cs o c cs') : cs'.length = cs.length := by
  obtain ⟨a, old, b, rfl, rfl, _, ho⟩ := h
  simp [ho]

/-- A function on typed parts that replaces cells at a place. -/
def SetOK (M : Mem) (off : Ty → Nat) (c : List Value) (ok : Ty → Prop) (g : (t : Ty) → E.D t → Option (E.D t)) : Prop :=
  ∀ t v v' cs, ok t → g t v = some v' → RC M t v cs → ∃ cs', RC M t v' cs' ∧ Repl cs (off t) c cs'

theorem setS_sound (hE : EnvOK E) {off : Ty → Nat} {c : List Value} {ok : Ty → Prop} {g : (t : Ty) → E.D t → Option (E.D t)} (hg : SetOK M off c ok g) :
    ∀ (ty : Ty) (v v' : E.D ty) (i : Nat) (cs : List Value), ok (fldTyS ty i) → setS ty v i g = some v' → RC M ty v cs → ∃ cs', RC M ty v' cs' ∧ Repl cs (fldOffS E ty i + off (fldTyS ty i)) c cs' := by
  intro ty
  induction ty with
  | one a _ =>
    intro v v' i cs hok h hc
    cases i with
    | zero =>
      have h : g a v = some v' := h
      cases hc with
      | one hc =>
        obtain ⟨cs', h1, h2⟩ := hg _ _ _ _ hok h hc
        exact ⟨cs', .one h1, by simpa [fldOffS, fldTyS] using h2⟩
    | succ i => cases h
  | pair a b _ ihb =>
    intro v v' i cs hok h hc
    cases hc with
    | pair hc1 hc2 =>
      rename_i c1 c2 x1 y1
      cases i with
      | zero =>
        have h : (g a x1).map (fun x => (x, y1)) = some v' := h
        obtain ⟨x, hx, rfl⟩ := Option.map_eq_some_iff.1 h
        obtain ⟨cs', h1, h2⟩ := hg _ _ _ _ hok hx hc1
        refine ⟨cs' ++ c2, .pair h1 hc2, ?_⟩
        have := Repl.inside (cs := c1 ++ c2) (pre := []) (post := c2) (o := 0) (by simp) rfl h2
        simpa [fldOffS, fldTyS] using this
      | succ i =>
        have h : (setS b y1 i g).map (fun y => (x1, y)) = some v' := h
        obtain ⟨y, hy, rfl⟩ := Option.map_eq_some_iff.1 h
        obtain ⟨cs', h1, h2⟩ := ihb _ _ _ _ hok hy hc2
        refine ⟨c1 ++ cs', .pair hc1 h1, ?_⟩
        have := Repl.inside (cs := c1 ++ c2) (pre := c1) (post := []) (o := size E a) (by simp) (hc1.len hE) h2
        simpa [fldOffS, fldTyS, Nat.add_assoc] using this
  | _ => intro v v' i cs hok h hc; cases i <;> cases h

theorem flatten_set : ∀ (css : List (List Value)) (i k : Nat) (d : List Value), i < css.length → (∀ j, j < css.length → (css.getD j []).length = k) → ∃ pre post, css.flatten = pre ++ css.getD i [] ++ post ∧ (css.set i d).flatten = pre ++ d ++ post ∧ pre.length = i * k
  | [], i, k, d, h, _ => by simp at h
  | c :: l, 0, k, d, _, _ => ⟨[], l.flatten, by simp, by simp, by simp⟩
  | c :: l, i + 1, k, d, h, hk => by
    have h0 := hk 0 (by simp)
    simp only [List.getD_cons_zero] at h0
    obtain ⟨a, b, h1, h2, h3⟩ := flatten_set l i k d (by simpa using h) (fun j hj => by have := hk (j + 1) (by simpa using hj); simpa using this)
    refine ⟨c ++ a, b, ?_, ?_, ?_⟩
    · simp only [List.flatten_cons, List.getD_cons_succ, h1]; simp
    · simp only [List.set_cons_succ, List.flatten_cons, h2]; simp
    · simp [h0, h3, Nat.succ_mul, Nat.add_comm]

theorem RC.arr_set (hE : EnvOK E) {n : Nat} {e : Ty} {x : List (E.D e)} {cs : List Value} {i : Nat} {y : E.D e} {d : List Value} (h : RC M (.arr n e) x cs) (hi : i < n) (hy : RC M e y d) :
    ∃ pre old post, cs = pre ++ old ++ post ∧ RC M (.arr n e) (x.set i y) (pre ++ d ++ post) ∧ pre.length = i * size E e ∧ RC M e (x.getD i (dfl E e)) old := by
  cases h with
  | arr n xs css hn hl hx =>
    have hx' := hx i (by omega)
    obtain ⟨pre, post, h1, h2, h3⟩ := flatten_set css i (size E e) d (by omega) (fun j hj => (hx j (by omega)).len hE)
    refine ⟨pre, _, post, h1, ?_, h3, by rw [List.getD_of_lt _ _ _ (by omega)]; exact hx'⟩
    rw [← h2]
    refine .arr n _ _ (by simp [hn]) (by simp [hl]) ?_
    intro j hj
    have hj' : j < List.length x := by simpa using hj
    have := hx j hj'
    by_cases hij : i = j
    · subst hij
      simp only [List.getElem_set_self]
      rw [List.getD_of_lt _ _ _ (by simp; omega)]
      simp [hy]
    · rw [List.getElem_set_ne hij]
      rw [List.getD_eq_getElem?_getD, List.getElem?_set_ne hij, ← List.getD_eq_getElem?_getD]
      exact this

theorem setT_sound (hE : EnvOK E) {off : Ty → Nat} {c : List Value} {ok : Ty → Prop} {g : (t : Ty) → E.D t → Option (E.D t)} (hg : SetOK M off c ok g)
    {ty : Ty} {v v' : E.D ty} {i : Nat} {cs : List Value} (hok : ok (fldTy ty i)) (hi : ∀ n e, ty = .arr n e → i < n) (h : setT ty v i g = some v') (hc : RC M ty v cs) :
    ∃ cs', RC M ty v' cs' ∧ Repl cs (fldOff E ty i + off (fldTy ty i)) c cs' := by
  cases ty with
  | arr n e =>
    have h : (g e (List.getD (α := E.D e) v i (dfl E e))).map (fun x => List.set (α := E.D e) v i x) = some v' := h
    obtain ⟨x, hx, rfl⟩ := Option.map_eq_some_iff.1 h
    have hi := hi n e rfl
    obtain ⟨c0, hp, hc0⟩ := hc.fldArr hE hi
    obtain ⟨d, h1, h2⟩ := hg _ _ _ _ hok hx hc0
    obtain ⟨pre, old, post, h3, h4, h5, h6⟩ := hc.arr_set hE hi h1
    refine ⟨_, h4, ?_⟩
    obtain ⟨p1, q1, hp1, hp2⟩ := hp
    have e1 : pre = p1 ∧ old = c0 := by
      have hlen : pre.length = p1.length := by omega
      have h7 := h3.symm.trans hp1
      rw [List.append_assoc, List.append_assoc] at h7
      obtain ⟨e1, e2⟩ := List.append_inj h7 hlen
      refine ⟨e1, ?_⟩
      exact (List.append_inj e2 (by rw [h6.len hE, hc0.len hE])).1
    obtain ⟨rfl, rfl⟩ := e1
    exact Repl.inside h3 h5 h2
  | _ => exact setS_sound hE hg _ v v' i cs hok h hc

theorem setPT_sound (hE : EnvOK E) {x : AV E} {c : List Value} (hx : RV M μ x c) : ∀ (p : List Nat) (ly : Ty) (v v' : E.D ly) (cs : List Value),
    fit (subTy E ly p) x = true → inR E ly p = true → setPT x p ly v = some v' → RC M ly v cs → ∃ cs', RC M ly v' cs' ∧ Repl cs (offTy E ly p) c cs' := by
  intro p
  induction p with
  | nil =>
    intro ly v v' cs hf _ h hc
    have h1 : toT x ly = some v' := by cases ly <;> exact h
    have h2 := toT_sound hE hx h1
    exact ⟨c, h2, Repl.whole _ _ (by rw [hc.len hE, h2.len hE])⟩
  | cons i p ih =>
    intro ly v v' cs hf hr h hc
    obtain ⟨hr1, hr2⟩ := inR_cons hr
    rw [subTy_cons] at hf
    rw [offTy_cons]
    have hg : SetOK M (fun t => offTy E t p) c (fun t => fit (subTy E t p) x = true ∧ inR E t p = true) (setPT x p) := by
      intro t v v' cs hok h hc
      exact ih t v v' cs hok.1 hok.2 h hc
    cases ly with
    | nm n =>
      have h : (setT (E.body n) (E.un n v) i (setPT x p)).map (E.ro n) = some v' := h
      obtain ⟨y, hy, rfl⟩ := Option.map_eq_some_iff.1 h
      cases hc with
      | nm hc =>
        obtain ⟨cs', h1, h2⟩ := setT_sound hE hg ⟨hf, hr1⟩ (fun m e he => by have he : E.body n = .arr m e := he; rcases hE.agg n with ⟨a, h⟩ | ⟨a, b, h⟩ <;> rw [h] at he <;> cases he) hy hc
        exact ⟨cs', .nm (by rw [hE.un_ro]; exact h1), h2⟩
    | _ =>
      obtain ⟨cs', h1, h2⟩ := setT_sound hE hg ⟨hf, hr1⟩ hr2 h hc
      exact ⟨cs', h1, h2⟩


theorem fits_set (hE : EnvOK E) {x : AV E} {c : List Value} {f : AV E → Option (AV E)} {off : Ty → Nat} {ok : Ty → Prop}
    (hf : ∀ (ly : Ty) (a a' : AV E) (cs : List Value), ok ly → fit ly a = true → f a = some a' → RV M μ a cs → ∃ cs', RV M μ a' cs' ∧ fit ly a' = true ∧ Repl cs (off ly) c cs') :
    ∀ (ly : Ty) (l : List (AV E)) (css : List (List Value)) (i : Nat) (b : AV E), css.length = l.length → (∀ i (hi : i < l.length), RV M μ l[i] (css.getD i [])) → fits ly l = true →
      ok (fldTyS ly i) → f (l.getD i .undef) = some b → i < l.length → ∃ css' : List (List Value), css'.length = l.length ∧ (∀ j (hj : j < (l.set i b).length), RV M μ (l.set i b)[j] (css'.getD j [])) ∧ fits ly (l.set i b) = true ∧
        Repl css.flatten (fldOffS E ly i + off (fldTyS ly i)) c css'.flatten := by
  intro ly
  induction ly with
  | one a _ =>
    intro l css i b hl h hfit hok hb hi
    match l, css, hl with
    | [y], [d], _ =>
      match i, hi with
      | 0, _ =>
        have hfit : fit a y = true := hfit
        obtain ⟨cs', h1, h2, h3⟩ := hf _ _ _ _ hok hfit hb (h 0 (by simp))
        refine ⟨[cs'], rfl, ?_, h2, by simpa [fldOffS, fldTyS] using h3⟩
        intro j hj
        match j, hj with
        | 0, _ => exact h1
      | i + 1, hi => simp at hi
    | [], _, _ => simp at hi
    | _ :: _ :: _, _, _ => simp [fits] at hfit
  | pair a b' _ ihb =>
    intro l css i b hl h hfit hok hb hi
    match l, css, hl with
    | y :: l, d :: css, hl =>
      simp only [fits, Bool.and_eq_true] at hfit
      have hd := fit_len hE (h 0 (by simp)) hfit.1
      match i, hi with
      | 0, _ =>
        obtain ⟨cs', h1, h2, h3⟩ := hf _ _ _ _ hok hfit.1 hb (h 0 (by simp))
        refine ⟨cs' :: css, by simpa using hl, ?_, (by show fits (.pair a b') (b :: l) = true; simp only [fits, Bool.and_eq_true]; exact ⟨h2, hfit.2⟩), ?_⟩
        · intro j hj
          match j, hj with
          | 0, _ => exact h1
          | j + 1, hj => exact h (j + 1) (by simpa using hj)
        · have := Repl.inside (cs := (d :: css).flatten) (pre := []) (post := css.flatten) (o := 0) (by simp) rfl h3
          simpa [fldOffS, fldTyS] using this
      | i + 1, hi =>
        obtain ⟨css', h1, h2, h3, h4⟩ := ihb l css i b (by simpa using hl) (fun j hj => h (j + 1) (by simpa using hj)) hfit.2 hok (by simpa using hb) (by simpa using hi)
        refine ⟨d :: css', by simpa using h1, ?_, by simp [fits, h3, hfit.1], ?_⟩
        · intro j hj
          match j, hj with
          | 0, _ => exact h 0 (by simp)
          | j + 1, hj => exact h2 j (by simpa using hj)
        · have := Repl.inside (cs := (d :: css).flatten) (pre := d) (post := []) (o := size E a) (by simp) hd h4
          simpa [fldOffS, fldTyS, Nat.add_assoc] using this
    | [], _, _ => simp at hi
  | _ => intro l css i b hl h hfit; cases l <;> simp [fits] at hfit

theorem opens_sound (hE : EnvOK E) : ∀ (ty : Ty) (v : E.D ty) (cs : List Value), RC M ty v cs → opens ty v ≠ [] →
    (∃ css : List (List Value), css.length = (opens ty v).length ∧ css.flatten = cs ∧ ∀ i (hi : i < (opens ty v).length), RV M μ (opens ty v)[i] (css.getD i [])) ∧ fits ty (opens ty v) = true := by
  intro ty
  induction ty with
  | one a _ =>
    intro v cs h _
    cases h with
    | one h =>
      refine ⟨⟨[cs], rfl, by simp, fun i hi => ?_⟩, ?_⟩
      · have : i = 0 := by simpa [opens] using hi
        subst this
        exact .t h
      · show fit a (.t a v) = true
        exact fit_self _ _
  | pair a b _ ihb =>
    intro v cs h hn
    cases h with
    | pair h1 h2 =>
      rename_i c1 c2 x y
      have e : opens (.pair a b) (x, y) = match opens b y with | [] => [] | c :: l => .t a x :: c :: l := rfl
      rw [e] at hn ⊢
      cases ho : opens b y with
      | nil => rw [ho] at hn; exact absurd rfl hn
      | cons c l =>
        obtain ⟨⟨css, k1, k2, k3⟩, k4⟩ := ihb y c2 h2 (by rw [ho]; simp)
        rw [ho] at k1 k3 k4
        refine ⟨⟨c1 :: css, by simpa using k1, by simp [k2], fun i hi => ?_⟩, ?_⟩
        · match i, hi with
          | 0, _ => exact .t h1
          | i + 1, hi => exact k3 i (by simpa using hi)
        · show (fit a (.t a x) && fits b (c :: l)) = true
          rw [k4, fit_self]
          rfl
  | _ => intro v cs h hn; exact absurd rfl hn
theorem openT_sound (hE : EnvOK E) {ty ly : Ty} {v : E.D ty} {cs : List Value} (h : RC M ty v cs) (hn : openT (.t ty v) ≠ []) (hf : fit ly (.t ty v) = true) :
    RV M μ (.agg (openT (.t ty v))) cs ∧ fit ly (.agg (openT (.t ty v))) = true := by
  have hty : ty = ly := by
    simp only [fit, Bool.or_eq_true, Bool.and_eq_true, decide_eq_true_eq, Bool.not_eq_true'] at hf
    rcases hf with rfl | ⟨rfl, hna⟩
    · rfl
    · exfalso
      cases ty <;> first | exact absurd rfl hn | simp [Ty.agg] at hna
  subst hty
  cases ty with
  | nm n =>
    cases h with
    | nm h =>
      obtain ⟨⟨css, k1, k2, k3⟩, k4⟩ := opens_sound (μ := μ) hE _ _ _ h hn
      exact ⟨by rw [← k2]; exact .agg _ css k1 k3, k4⟩
  | one a =>
    obtain ⟨⟨css, k1, k2, k3⟩, k4⟩ := opens_sound (μ := μ) hE _ _ _ h hn
    exact ⟨by rw [← k2]; exact .agg _ css k1 k3, k4⟩
  | pair a b =>
    obtain ⟨⟨css, k1, k2, k3⟩, k4⟩ := opens_sound (μ := μ) hE _ _ _ h hn
    exact ⟨by rw [← k2]; exact .agg _ css k1 k3, k4⟩
  | _ => exact absurd rfl hn

theorem setP_sound (hE : EnvOK E) {x : AV E} {c : List Value} (hx : RV M μ x c) : ∀ (p : List Nat) (ly : Ty) (a a' : AV E) (cs : List Value),
    fit (subTy E ly p) x = true → inR E ly p = true → fit ly a = true → setP x p a = some a' → RV M μ a cs → ∃ cs', RV M μ a' cs' ∧ fit ly a' = true ∧ Repl cs (offTy E ly p) c cs' := by
  intro p
  induction p with
  | nil =>
    intro ly a a' cs hf _ hfit h hc
    have h : some x = some a' := by cases a <;> exact h
    cases h
    have hf : fit ly x = true := by cases ly <;> exact hf
    exact ⟨c, hx, hf, Repl.whole _ _ (by rw [fit_len hE hc hfit, fit_len hE hx hf])⟩
  | cons i p ih =>
    intro ly a a' cs hf hr hfit h hc
    have aggc : ∀ l : List (AV E), fit ly (.agg l) = true → ((l[i]?).bind fun c0 => (setP x p c0).map (fun c => .agg (l.set i c))) = some a' → RV M μ (.agg l) cs → ∃ cs', RV M μ a' cs' ∧ fit ly a' = true ∧ Repl cs (offTy E ly (i :: p)) c cs' := by
      intro l hfit h hc
      obtain ⟨c0, hc0, h⟩ := Option.bind_eq_some_iff.1 h
      obtain ⟨b, hb, rfl⟩ := Option.map_eq_some_iff.1 h
      have hi : i < l.length := (List.getElem?_eq_some_iff.1 hc0).1
      have hb : setP x p (l.getD i .undef) = some b := by rw [List.getD_eq_getElem?_getD, hc0]; exact hb
      obtain ⟨hr1, hr2⟩ := inR_cons hr
      rw [subTy_cons] at hf
      rw [offTy_cons]
      cases hc with
      | agg _ css hl h =>
        have key := fun ly' (hfits : fits ly' l = true) (hok : fit (subTy E (fldTyS ly' i) p) x = true ∧ inR E (fldTyS ly' i) p = true) => fits_set hE (M := M) (μ := μ) (x := x) (c := c) (f := setP x p) (off := fun t => offTy E t p) (ok := fun t => fit (subTy E t p) x = true ∧ inR E t p = true)
          (fun ly a a' cs hok hfit h hc => ih ly a a' cs hok.1 hok.2 hfit h hc) ly' l css i b hl h hfits hok hb hi
        cases ly with
        | nm n =>
          have hfit : fits (E.body n) l = true := hfit
          have e1 : fldTy (E.body n) i = fldTyS (E.body n) i := by rcases hE.agg n with ⟨a, h⟩ | ⟨a, b, h⟩ <;> rw [h] <;> rfl
          have e2 : fldOff E (E.body n) i = fldOffS E (E.body n) i := by rcases hE.agg n with ⟨a, h⟩ | ⟨a, b, h⟩ <;> rw [h] <;> rfl
          simp only [bodyOf, e1, e2] at hf hr1 ⊢
          obtain ⟨css', h1, h2, h3, h4⟩ := key _ hfit ⟨hf, hr1⟩
          exact ⟨_, .agg _ css' (by simpa using h1) h2, h3, h4⟩
        | one a' =>
          obtain ⟨css', h1, h2, h3, h4⟩ := key _ hfit ⟨hf, hr1⟩
          exact ⟨_, .agg _ css' (by simpa using h1) h2, h3, h4⟩
        | pair a' b' =>
          obtain ⟨css', h1, h2, h3, h4⟩ := key _ hfit ⟨hf, hr1⟩
          exact ⟨_, .agg _ css' (by simpa using h1) h2, h3, h4⟩
        | _ => cases l <;> simp [fit, fits] at hfit
    cases a with
    | t ty v =>
      have h : (bif isD x then (setPT x (i :: p) ty v).map (.t ty) else ((openT (.t ty v))[i]?).bind fun c0 => (setP x p c0).map fun c => .agg ((openT (.t ty v)).set i c)) = some a' := h
      cases hD : isD x with
      | false =>
        rw [hD] at h
        cases hc with
        | t hc =>
          have hn : openT (.t ty v) ≠ [] := by
            intro hn
            rw [hn] at h
            cases h
          obtain ⟨k1, k2⟩ := openT_sound (μ := μ) hE hc hn hfit
          exact aggc _ k2 h k1
      | true =>
      rw [hD] at h
      obtain ⟨v', hv, rfl⟩ := Option.map_eq_some_iff.1 h
      cases hc with
      | t hc =>
        have hty : ty = ly := by
          simp only [fit, Bool.or_eq_true, Bool.and_eq_true, decide_eq_true_eq, Bool.not_eq_true'] at hfit
          rcases hfit with rfl | ⟨rfl, hna⟩
          · rfl
          · exfalso
            cases ty <;> simp [Ty.agg] at hna <;> (have hv : (setS _ v i (setPT x p)) = some v' := hv; cases i <;> cases hv)
        subst hty
        obtain ⟨cs', h1, h2⟩ := setPT_sound hE hx (i :: p) ty v v' cs hf hr hv hc
        exact ⟨cs', .t h1, fit_self _ _, h2⟩
    | agg l => exact aggc l hfit h hc
    | _ => cases h

end Go.Proofs.YtbmpjppfdeohnaaDoor.Fv

/-! Operations whose answer hangs on their operands alone, all of them. -/
namespace Go.Proofs.YtbmpjppfdeohnaaDoor.Fv
variable [Quiet]
variable {E : Env} {P : Program} {tt : Nat → Option TE} {M : Mem} {μ : Mu}

inductive RSL (M : Mem) (μ : Mu) : List (AV E) → List Value → Prop
  | nil : RSL M μ [] []
  | cons {a : AV E} {v : Value} {l : List (AV E)} {vs : List Value} (h : RS M μ a v) (t : RSL M μ l vs) : RSL M μ (a :: l) (v :: vs)

/-- A pure lemma: the run, and that the value leads to live blocks. -/
def PureOK' (P : Program) (M : Mem) (μ : Mu) (a : AV E) (s : Sem Value) : Prop := PureOK P M μ a s

theorem RS.agg_inv {a : AV E} {v : Value} (h : RS M μ a v) (hn : a ≠ .undef) (hc : ∀ v, a ≠ .c v) (ht : ∀ l, a ≠ .tup l) : ∃ cs, RV M μ a cs ∧ v = mkV a.isAgg cs := by
  cases h with
  | undef => exact absurd rfl hn
  | c => exact absurd rfl (hc _)
  | v h => exact ⟨_, h, rfl⟩
  | tup => exact absurd rfl (ht _)
theorem Part.rs {cs : List Value} {ly : Ty} {off : Nat} {b : AV E} (h : Part M μ cs ly off b) : b = .undef ∨ ∃ c, Piece cs off c ∧ RV M μ b c ∧ fit ly b = true := h

theorem fldsOK_get {t : Ty} : ∀ (fs : List (Nat × Nat)) (i j : Nat) (f : Nat × Nat), fldsOK E tt t fs i = true → fs[j]? = some f → fldTy t (i + j) = tyOf tt f.1 ∧ fldOff E t (i + j) = f.2 ∧ 0 < size E (tyOf tt f.1) ∧ (tt f.1).isSome = true
  | [], i, j, f, _, h => by simp at h
  | g :: fs, i, 0, f, h, hf => by
    simp only [fldsOK, Bool.and_eq_true, decide_eq_true_eq] at h
    simp only [List.getElem?_cons_zero, Option.some.injEq] at hf
    subst hf
    exact ⟨h.1.1.1.1, h.1.1.1.2, h.1.1.2, h.1.2⟩
  | g :: fs, i, j + 1, f, h, hf => by
    simp only [fldsOK, Bool.and_eq_true] at h
    have := fldsOK_get fs (i + 1) j f h.2 (by simpa using hf)
    rw [show i + 1 + j = i + (j + 1) by omega] at this
    exact this

theorem arity_len : ∀ (t : Ty) (i : Nat) (v : E.D t), Fv.fldS t v i ≠ .undef → i < arity t := by
  intro t
  induction t with
  | one a _ => intro i v h; cases i with
    | zero => simp [arity]
    | succ i => exact absurd rfl h
  | pair a b _ ihb => intro i v h; cases i with
    | zero => simp [arity]
    | succ i => have := ihb i v.2 h; simp [arity]; omega
  | _ => intro i v h; cases i <;> exact absurd rfl h
theorem fits_len : ∀ (t : Ty) (cs : List (AV E)), fits t cs = true → cs.length = arity t := by
  intro t
  induction t with
  | one a _ => intro cs h; match cs with
    | [c] => rfl
    | [] => simp [fits] at h
    | _ :: _ :: _ => simp [fits] at h
  | pair a b _ ihb => intro cs h; match cs with
    | c :: cs => simp only [fits, Bool.and_eq_true] at h; simp [arity, ihb cs h.2]
    | [] => simp [fits] at h
  | _ => intro cs h; cases cs <;> simp [fits] at h

/-- A struct type's facts. -/
theorem TOK.struct {t : Nat} {fs : List (Nat × Nat)} (hT : TOK P E tt) (h : tdOf tt t = .struct fs) :
    ∃ x fields, tt t = some x ∧ P.underlying t = some (.struct fields) ∧ fields.toList.map (fun f => (f.type, f.offset)) = fs ∧ arity (bodyOf E x.ty) = fs.length ∧ fldsOK E tt (bodyOf E x.ty) fs 0 = true ∧ tyOf tt t = x.ty ∧ x.ty.agg = true ∧ TFact P E tt t x := by
  obtain ⟨x, hx, hd, hty, hF⟩ := hT.get (by rw [h]; simp)
  obtain ⟨u, hu, ha, hD⟩ := hF.und
  rw [h] at hd
  rw [← hd] at hD
  obtain ⟨⟨fields, rfl, hfs⟩, h1, h2⟩ := hD
  exact ⟨x, fields, hx, hu, hfs, h1, h2, hty, ha.symm, hF⟩

theorem field_get {fields : Array Field} {fs : List (Nat × Nat)} (h : fields.toList.map (fun f => (f.type, f.offset)) = fs) {i : Nat} (hi : i < fs.length) :
    ∃ f, fields[i]? = some f ∧ fs[i]? = some (f.type, f.offset) := by
  subst h
  simp only [List.length_map, Array.length_toList] at hi
  exact ⟨fields[i], by simp [hi], by simp [hi]⟩

theorem TOK.agg {t : Nat} {x : TE} (hT : TOK P E tt) (hx : tt t = some x) : ∃ u, P.underlying t = some u ∧ aggD u = x.ty.agg := by
  obtain ⟨u, hu, ha, _⟩ := (hT t x hx).und
  exact ⟨u, hu, ha⟩

/-- 'part' on cells that are known. -/
theorem run_part (hE : EnvOK E) (hT : TOK P E tt) {t : Nat} {x : TE} (hx : tt t = some x) {cs c : List Value} {off : Nat} {b : AV E} (hp : Piece cs off c) (hb : RV M μ b c) (hf : fit x.ty b = true) (w : World) :
    (part t cs.toArray off).run P w = .ok (mkV b.isAgg c) w := by
  obtain ⟨u, hu, ha⟩ := hT.agg hx
  obtain ⟨i, hi, hs⟩ := (hT t x hx).size
  have hl := fit_len hE hb hf
  have hag := fit_agg' hf
  unfold part
  simp only [Sem.run_bind, run_isAgg hu, Result.andThen_ok, ha]
  obtain ⟨pre, post, rfl, rfl⟩ := hp
  cases h : x.ty.agg with
  | true =>
    simp only [if_true, Sem.run_bind, run_sizeOf hi, Result.andThen_ok, Sem.run_pure, hag, h, mkV, hs, ← hl]
    congr 2
    apply Array.ext'
    simp [List.extract_eq_take_drop]
  | false =>
    simp only [Bool.false_eq_true, if_false, hag, h, mkV]
    have h1 : c.length = 1 := by rw [hl]; cases hx' : x.ty <;> simp_all [Ty.agg, size]
    match c, h1 with
    | [d], _ => simp

theorem run_fieldAt (hT : TOK P E tt) {t i : Nat} {X : TE} {fields : Array Field} {fs : List (Nat × Nat)} (hu : P.underlying t = some (.struct fields)) (hfs : fields.toList.map (fun f => (f.type, f.offset)) = fs)
    (hok : fldsOK E tt (bodyOf E X.ty) fs 0 = true) (hi : i < fs.length) (b o : Nat) (w : World) :
    (Instr.fieldAt t (.pointer (some ⟨b, o, none⟩)) i).run P w = .ok (.pointer (some ⟨b, o + fldOff E (bodyOf E X.ty) i, none⟩)) w := by
  obtain ⟨f, hf1, hf2⟩ := field_get hfs hi
  obtain ⟨h1, h2, h3, h4⟩ := fldsOK_get fs 0 i _ hok hf2
  simp only [Nat.zero_add] at h1 h2 h3
  rw [Option.isSome_iff_exists] at h4
  obtain ⟨Y, hY⟩ := h4
  obtain ⟨j, hj, hs⟩ := (hT _ _ hY).size
  rw [tyOf_some hY, ← hs] at h3
  have h0 : ¬ j.size = 0 := by omega
  simp only [Instr.fieldAt, Sem.run_bind, run_underlying' hu, Result.andThen_ok, hf1, Instr.sureAddr, Sem.run_pure, fieldPlace, run_sizeOf hj, h0, if_false, Sem.run_ite, addr_add, h2]

theorem offTy_append (E : Env) : ∀ (p : List Nat) (ly : Ty) (i : Nat), offTy E ly (p ++ [i]) = offTy E ly p + fldOff E (bodyOf E (subTy E ly p)) i
  | [], ly, i => by
    rw [List.nil_append, offTy_cons]
    have h1 : ∀ t, offTy E t [] = 0 := fun t => by cases t <;> rfl
    have h2 : subTy E ly [] = ly := by cases ly <;> rfl
    rw [h1, h1, h2, Nat.add_comm]
  | j :: p, ly, i => by
    rw [List.cons_append, offTy_cons, offTy_cons, subTy_cons, offTy_append E p, Nat.add_assoc]

theorem CellsAt.piece {b o off : Nat} {cs c : List Value} (h : CellsAt M b o cs) (hp : Piece cs off c) : CellsAt M b (o + off) c := by
  intro j hj
  obtain ⟨hk, he⟩ := hp.get j hj
  rw [← he, Nat.add_assoc]
  exact h _ hk

/-- A struct type isn't an array. -/
theorem struct_noarr {t : Nat} {fs : List (Nat × Nat)} (hT : TOK P E tt) (h : tdOf tt t = .struct fs) : (∀ n e, tyOf tt t ≠ .arr n e) ∨ fs = [] := by
  obtain ⟨X, fields, hX, hu, hfs, hlen, hok, hty, hag, hF⟩ := hT.struct h
  rw [hty]
  by_cases hx : ∃ n e, X.ty = .arr n e
  · obtain ⟨n, e, hx⟩ := hx
    rw [hx] at hlen
    simp only [bodyOf, arity] at hlen
    exact .inr (List.length_eq_zero_iff.1 hlen.symm)
  · exact .inl fun n e he => hx ⟨n, e, he⟩

theorem bif_true {c : Bool} {a : RP E} {r : Bool × AV E} (h : (bif c then a else none) = some r) : c = true ∧ a = some r := by
  cases c
  · cases h
  · exact ⟨rfl, h⟩

theorem fieldAddr_sound (hE : EnvOK E) (hT : TOK P E tt) {t i : Nat} {x a : AV E} {v : Value} (h : fldAddr tt t x i = some (true, a)) (hv : RS M μ x v) :
    PureOK P M μ a (Instr.fieldAt t v i) := by
  unfold fldAddr at h
  split at h
  · rename_i fs htd
    obtain ⟨X, fields, hX, hu, hfs, hlen, hok, hty, hag, hF⟩ := hT.struct htd
    have hx0 := bif_true h; clear h; obtain ⟨hi, h⟩ := hx0
    have hi : i < fs.length := by simpa using hi
    intro w hw
    split at h
    · rename_i id ly p
      have hx0 := bif_true h; clear h; obtain ⟨hd, h⟩ := hx0
      have hd : subTy E ly p = tyOf tt t := by simpa using hd
      cases h
      cases hv with
      | v hv =>
        cases hv
        refine ⟨_, run_fieldAt hT hu hfs hok hi _ _ w, ?_⟩
        have e : offTy E ly (p ++ [i]) = offTy E ly p + fldOff E (bodyOf E X.ty) i := by rw [offTy_append, hd, hty]
        have := RS.v (RV.ptr (E := E) (M := M) (μ := μ) id ly (p ++ [i]))
        rw [e] at this
        exact this
    · rename_i id e j p
      have hx0 := bif_true h; clear h; obtain ⟨hd, h⟩ := hx0
      have hd : subTy E e p = tyOf tt t := by simpa using hd
      cases h
      cases hv with
      | v hv =>
        cases hv
        refine ⟨_, run_fieldAt hT hu hfs hok hi _ _ w, ?_⟩
        have e' : j * size E e + offTy E e (p ++ [i]) = j * size E e + offTy E e p + fldOff E (bodyOf E X.ty) i := by rw [offTy_append, hd, hty, Nat.add_assoc]
        have := RS.v (RV.eptr (E := E) (M := M) (μ := μ) id e j (p ++ [i]))
        rw [e'] at this
        exact this
    · rename_i ty y
      have hx0 := bif_true h; clear h; obtain ⟨hd, h⟩ := hx0
      have hd : ty = tyOf tt t := by simpa using hd
      split at h
      · rename_i ty' v' hfl
        cases h
        cases hv with
        | v hv =>
          cases hv with
          | imm b o hr hc =>
            rename_i cells
            have hna : ∀ n e, ty = .arr n e → i < n := by
              intro n e he
              rcases struct_noarr hT htd with h0 | h0
              · exact absurd (hd.symm.trans he) (h0 n e)
              · rw [h0] at hi; simp at hi
            have hta : ty.agg = true := by rw [hd, hty]; exact hag
            rcases fld_sound hE (i := i) hta (fit_self ty y) (.t hr) hna (μ := μ) with h0 | ⟨c, h1, h2, h3⟩
            · rw [hfl] at h0; cases h0
            · rw [hfl] at h2
              refine ⟨_, run_fieldAt hT hu hfs hok hi _ _ w, ?_⟩
              cases h2 with
              | t h2 =>
                have := hc.piece h1
                rw [hd, hty] at this
                exact RS.v (RV.imm _ _ h2 this)
      · cases h
    · cases h
  · cases h

theorem defd_some {a b : AV E} {c : Bool} (h : defd a = some (c, b)) : b = a ∧ a ≠ .undef := by
  unfold defd at h
  split at h
  · cases h
  · rename_i hn; cases h; exact ⟨rfl, hn⟩

theorem fieldVal_sound (hE : EnvOK E) (hT : TOK P E tt) {t i : Nat} {x a : AV E} {v : Value} (h : fldVal tt t x i = some (true, a)) (hv : RS M μ x v) :
    PureOK P M μ a (Instr.field t v i) := by
  unfold fldVal at h
  split at h
  · rename_i fs htd
    obtain ⟨X, fields, hX, hu, hfs, hlen, hok, hty, hag, hF⟩ := hT.struct htd
    have hx0 := bif_true h; clear h; obtain ⟨hi, h⟩ := hx0
    have hi : i < fs.length := by simpa using hi
    intro w hw
    obtain ⟨f, hf1, hf2⟩ := field_get hfs hi
    obtain ⟨h1, h2, h3, h4⟩ := fldsOK_get fs 0 i _ hok hf2
    simp only [Nat.zero_add] at h1 h2 h3
    rw [Option.isSome_iff_exists] at h4
    obtain ⟨Y, hY⟩ := h4
    have core : ∀ (z : AV E) (cs : List Value), RV M μ z cs → fit X.ty z = true → a = fld z i → fld z i ≠ .undef → v = mkV z.isAgg cs → ∃ v', (Instr.field t v i).run P w = .ok v' w ∧ RS M μ a v' := by
      intro z cs hz hfz ha hnu hv'
      subst ha hv'
      have hza := fit_agg hfz hag
      have hna : ∀ n e, X.ty = .arr n e → i < n := by
        intro n e he
        rcases struct_noarr hT htd with h0 | h0
        · exact absurd (hty.trans he) (h0 n e)
        · rw [h0] at hi; simp at hi
      have hrun : (Instr.field t (mkV z.isAgg cs) i).run P w = (part f.type cs.toArray f.offset).run P w := by
        simp [Instr.field, run_underlying' hu, hf1, mkV, hza, asAgg]
      rw [hrun]
      rcases fld_sound hE (i := i) hag hfz hz hna with h0 | ⟨c, h5, h6, h7⟩
      · exact absurd h0 hnu
      · rw [h2] at h5
        rw [h1, tyOf_some hY] at h7
        exact ⟨_, run_part hE hT hY h5 h6 h7 w, RS.v h6⟩
    split at h
    · rename_i ty y
      have hx0 := bif_true h; clear h; obtain ⟨hd, h⟩ := hx0
      have hd : ty = tyOf tt t := by simpa using hd
      obtain ⟨h6, h7⟩ := defd_some h
      cases hv with
      | v hv => exact core _ _ hv (by rw [hty] at hd; subst hd; exact fit_self _ _) h6 h7 rfl
    · rename_i cs
      have hx0 := bif_true h; clear h; obtain ⟨hd, h⟩ := hx0
      rw [hty] at hd
      obtain ⟨h6, h7⟩ := defd_some h
      cases hv with
      | v hv => exact core _ _ hv hd h6 h7 rfl
    · cases h
  · cases h

theorem TOK.slice {t el : Nat} (hT : TOK P E tt) (h : tdOf tt t = .slice el) {e : Ty} (he : tyOf tt t = .sl e) :
    ∃ y, tt el = some y ∧ P.underlying t = some (.slice el) ∧ y.ty = e ∧ e.full = true ∧ P.bytesOf el ≤ 32768 ∧ 0 < Fv.size E e ∧ Fv.size E e ≤ 16384 := by
  obtain ⟨x, hx, hd, hty, hF⟩ := hT.get (by rw [h]; simp)
  obtain ⟨u, hu, ha, hD⟩ := hF.und
  rw [h] at hd
  rw [← hd] at hD
  rw [hty] at he
  obtain ⟨rfl, h1 | ⟨h1, h2, h3, h4⟩⟩ := hD
  · rw [h1] at he; cases he
  · rw [h1] at he
    injection he with he
    rw [Option.isSome_iff_exists] at h3
    obtain ⟨y, hy⟩ := h3
    exact ⟨y, hy, hu, by rw [← tyOf_some hy]; exact he, by rw [← he]; exact h2, by rw [← he]; exact h4⟩
theorem TOK.size {t : Nat} {x : TE} (hT : TOK P E tt) (h : tt t = some x) : ∃ i, P.info? t = some i ∧ i.size = Fv.size E x.ty := (hT t x h).size

theorem RC.at {e : Ty} {xs : List (E.D e)} {base : Option Addr} {n cap : Nat} (h : RC M (.sl e) xs [.slice base n cap]) {i : Nat} (hi : i < xs.length) :
    ∃ b o c, base = some ⟨b, o, none⟩ ∧ RC M e (xs.getD i (dfl E e)) c ∧ CellsAt M b (o + i * Fv.size E e) c := by
  cases h with
  | sl xs base cap css hcap h hat hnil =>
    obtain ⟨⟨b, o, s⟩, h1, h2, h3⟩ := hat i hi
    simp only at h2
    subst h2
    refine ⟨b, o, css i, h1, ?_, h3⟩
    rw [List.getD_of_lt _ _ _ hi]
    exact h i hi

theorem unA_sound {op : UnOp} {x a : AV E} {v : Value} (h : unA op x = some (true, a)) (hv : RS M μ x v) : PureOK P M μ a (Op.unary op v) := by
  unfold unA at h
  intro w _
  split at h
  · rw [hv.bool_inv]; cases h; exact ⟨_, rfl, RS.bool _⟩
  · rw [hv.int_inv]; cases h; exact ⟨_, rfl, RS.int _ _⟩
  · rw [hv.int_inv]; cases h; exact ⟨_, congrArg (fun z : Int => Result.ok (Value.int _ z) w) (bits_eq .xor _ _ _).symm, RS.int _ _⟩
  · cases h

theorem run_indexAt_slice {t el : Nat} {i : TypeInfo} (hu : P.underlying t = some (.slice el)) (hi : P.info? el = some i) (b o n cap : Nat) (k : IntKind) (j : Int) (h0 : 0 ≤ j) (h1 : j < n) (w : World) :
    (Instr.indexAt t (.slice (some ⟨b, o, none⟩) n cap) (.int k j)).run P w = .ok (.pointer (some ⟨b, o + j.toNat * i.size, none⟩)) w := by
  have h2 : (0 ≤ j ∧ j < (n : Int)) := ⟨h0, h1⟩
  simp only [Instr.indexAt, asIntOf, Sem.run_bind, Sem.run_pure, Result.andThen_ok, run_underlying' hu, h2, and_self, if_true, Sem.run_ite, run_sizeOf hi, addr_add]

theorem TOK.arr {t n el : Nat} (hT : TOK P E tt) (h : tdOf tt t = .arr n el) :
    ∃ y, tt el = some y ∧ P.underlying t = some (.array n el) ∧ tyOf tt t = .arr n y.ty := by
  obtain ⟨x, hx, hd, hty, hF⟩ := hT.get (by rw [h]; simp)
  obtain ⟨u, hu, ha, hD⟩ := hF.und
  rw [h] at hd
  rw [← hd] at hD
  obtain ⟨rfl, h1, h3⟩ := hD
  rw [Option.isSome_iff_exists] at h3
  obtain ⟨y, hy⟩ := h3
  exact ⟨y, hy, hu, by rw [hty, h1, tyOf_some hy]⟩

theorem run_indexAt_arr {t el m : Nat} {i : TypeInfo} (hu : P.underlying t = some (.array m el)) (hi : P.info? el = some i) (b o : Nat) (k : IntKind) (j : Int) (h0 : 0 ≤ j) (h1 : j < m) (w : World) :
    (Instr.indexAt t (.pointer (some ⟨b, o, none⟩)) (.int k j)).run P w = .ok (.pointer (some ⟨b, o + j.toNat * i.size, none⟩)) w := by
  have h2 : (0 ≤ j ∧ j < (m : Int)) := ⟨h0, h1⟩
  simp only [Instr.indexAt, asIntOf, Sem.run_bind, Sem.run_pure, Result.andThen_ok, run_underlying' hu, h2, and_self, if_true, Sem.run_ite, run_sizeOf hi, addr_add, Instr.sureAddr]

theorem idxA_sound (hE : EnvOK E) (hT : TOK P E tt) {t : Nat} {x i a : AV E} {v vi : Value} (h : idxA tt t x i = some (true, a)) (hv : RS M μ x v) (hvi : RS M μ i vi) :
    PureOK P M μ a (Instr.indexAt t v vi) := by
  unfold idxA at h
  split at h
  · cases h
  rename_i n hn
  obtain ⟨k, rfl⟩ := hvi.num_inv hn
  intro w hw
  split at h
  · rename_i el htd
    split at h
    · rename_i id e off len
      have hx0 := bif_true h; clear h; obtain ⟨hd, h⟩ := hx0
      have hd : tyOf tt t = .sl e := by simpa using hd
      obtain ⟨y, hy, hu, rfl, hfull, _⟩ := hT.slice htd hd
      obtain ⟨j, hj, hs⟩ := hT.size hy
      simp only [rc, Option.some.injEq, Prod.mk.injEq, Bool.and_eq_true, decide_eq_true_eq] at h
      obtain ⟨⟨h0, h1⟩, rfl⟩ := h
      cases hv with
      | v hv =>
        cases hv with
        | fs _ _ _ _ cap base hb hc =>
          rcases hb with ⟨rfl, _⟩ | ⟨rfl, _⟩
          · refine ⟨_, run_indexAt_slice hu hj _ _ _ _ k n h0 h1 w, ?_⟩
            have := RS.v (RV.eptr (E := E) (M := M) (μ := μ) id y.ty (off + n.toNat) [])
            have e0 : offTy E y.ty [] = 0 := by cases y.ty <;> rfl
            rw [e0, Nat.add_zero, Nat.add_mul] at this
            rw [hs]
            exact this
          · omega
    · split at h
      · rename_i e xs hl
        have hx0 := bif_true h; clear h; obtain ⟨hd, h⟩ := hx0
        have hd : tyOf tt t = .sl e := by simpa using hd
        obtain ⟨y, hy, hu, rfl, hfull, _⟩ := hT.slice htd hd
        obtain ⟨j, hj, hs⟩ := hT.size hy
        simp only [rc, Option.some.injEq, Prod.mk.injEq, Bool.and_eq_true, decide_eq_true_eq] at h
        obtain ⟨⟨h0, h1⟩, rfl⟩ := h
        obtain ⟨base, cap, rfl, hr⟩ := hv.lst_inv hl
        obtain ⟨b, o, c, rfl, h5, h6⟩ := hr.at (i := n.toNat) (by omega)
        refine ⟨_, run_indexAt_slice hu hj _ _ _ _ k n h0 h1 w, ?_⟩
        rw [hs]
        exact RS.v (RV.imm _ _ h5 h6)
      · cases h
  · rename_i m el htd
    obtain ⟨y, hy, hu, hty⟩ := hT.arr htd
    obtain ⟨j, hj, hs⟩ := hT.size hy
    split at h
    · rename_i id ly p
      have hx0 := bif_true h; clear h; obtain ⟨hd, h⟩ := hx0
      have hd : subTy E ly p = tyOf tt t := by simpa using hd
      simp only [rc, Option.some.injEq, Prod.mk.injEq, Bool.and_eq_true, decide_eq_true_eq] at h
      obtain ⟨⟨h0, h1⟩, rfl⟩ := h
      cases hv with
      | v hv =>
        cases hv
        refine ⟨_, run_indexAt_arr hu hj _ _ k n h0 h1 w, ?_⟩
        have e : offTy E ly (p ++ [n.toNat]) = offTy E ly p + n.toNat * Fv.size E y.ty := by rw [offTy_append, hd, hty]; rfl
        have := RS.v (RV.ptr (E := E) (M := M) (μ := μ) id ly (p ++ [n.toNat]))
        rw [e] at this
        rw [hs]
        exact this
    · rename_i id e j' p
      have hx0 := bif_true h; clear h; obtain ⟨hd, h⟩ := hx0
      have hd : subTy E e p = tyOf tt t := by simpa using hd
      simp only [rc, Option.some.injEq, Prod.mk.injEq, Bool.and_eq_true, decide_eq_true_eq] at h
      obtain ⟨⟨h0, h1⟩, rfl⟩ := h
      cases hv with
      | v hv =>
        cases hv
        refine ⟨_, run_indexAt_arr hu hj _ _ k n h0 h1 w, ?_⟩
        have e1 : offTy E e (p ++ [n.toNat]) = offTy E e p + n.toNat * Fv.size E y.ty := by rw [offTy_append, hd, hty]; rfl
        have := RS.v (RV.eptr (E := E) (M := M) (μ := μ) id e j' (p ++ [n.toNat]))
        rw [e1, ← Nat.add_assoc] at this
        rw [hs]
        exact this
    · rename_i m' e z
      have hx0 := bif_true h; clear h; obtain ⟨hd, h⟩ := hx0
      have hd : Ty.arr m' e = tyOf tt t := by simpa using hd
      rw [hty] at hd
      injection hd with hd1 hd2
      subst hd1 hd2
      simp only [rc, Option.some.injEq, Prod.mk.injEq, Bool.and_eq_true, decide_eq_true_eq] at h
      obtain ⟨⟨h0, h1⟩, rfl⟩ := h
      cases hv with
      | v hv =>
        cases hv with
        | imm b o hr hc =>
          obtain ⟨c, hp, hr'⟩ := hr.fldArr hE (i := n.toNat) (by omega)
          refine ⟨_, run_indexAt_arr hu hj _ _ k n h0 h1 w, ?_⟩
          rw [hs]
          exact RS.v (RV.imm _ _ hr' (hc.piece hp))
    · cases h
  · cases h

theorem TOK.str {t : Nat} (hT : TOK P E tt) (h : tdOf tt t = .str) : P.underlying t = some .string := by
  obtain ⟨x, hx, hd, hty, hF⟩ := hT.get (by rw [h]; simp)
  obtain ⟨u, hu, _, hD⟩ := hF.und
  rw [h] at hd
  rw [← hd] at hD
  obtain ⟨rfl, _⟩ := hD
  exact hu

theorem idxV_sound (hE : EnvOK E) (hT : TOK P E tt) {t : Nat} {x i a : AV E} {v vi : Value} (h : idxV tt t x i = some (true, a)) (hv : RS M μ x v) (hvi : RS M μ i vi) :
    PureOK P M μ a (Instr.index t v vi) := by
  unfold idxV at h
  split at h
  · cases h
  rename_i n hn
  obtain ⟨k, rfl⟩ := hvi.num_inv hn
  intro w hw
  split at h
  · rename_i s
    obtain ⟨bs, rfl, rfl⟩ := hv.str_inv
    split at h
    · rename_i htd
      have hu := hT.str htd
      simp only [rc, Option.some.injEq, Prod.mk.injEq, Bool.and_eq_true, decide_eq_true_eq] at h
      obtain ⟨⟨h0, h1⟩, rfl⟩ := h
      have hlt : n.toNat < bs.size := by simp at h1; omega
      have h2 : (if 0 ≤ n then bs[n.toNat]? else none) = some bs[n.toNat] := by rw [if_pos h0, getElem?_pos bs n.toNat hlt]
      have e1 : List.getD bs.data.toList n.toNat 0 = bs[n.toNat] := by
        rw [List.getD_of_lt _ _ _ (by simpa using hlt)]; rfl
      rw [e1]
      refine ⟨.int .u8 bs[n.toNat].toNat, ?_, RS.int _ _⟩
      simp only [Instr.index, asIntOf, Sem.run_bind, Sem.run_pure, Result.andThen_ok, run_underlying' hu, h2]
    · cases h
  · rename_i m e z
    have hx0 := bif_true h; clear h; obtain ⟨hd, h⟩ := hx0
    have hd : Ty.arr m e = tyOf tt t := by simpa using hd
    split at h
    · rename_i m' el htd
      obtain ⟨y, hy, hu, hty⟩ := hT.arr htd
      obtain ⟨j, hj, hs⟩ := hT.size hy
      rw [hty] at hd
      injection hd with hd1 hd2
      subst hd1 hd2
      simp only [rc, Option.some.injEq, Prod.mk.injEq, Bool.and_eq_true, decide_eq_true_eq] at h
      obtain ⟨⟨h0, h1⟩, rfl⟩ := h
      cases hv with
      | v hv =>
        cases hv with
        | t hr =>
          rename_i cs
          obtain ⟨c, hp, hr'⟩ := hr.fldArr hE (i := n.toNat) (by omega)
          have h2 : (0 ≤ n ∧ n < (m : Int)) := ⟨h0, h1⟩
          refine ⟨mkV y.ty.agg c, ?_, RS.of_t hr'⟩
          have hp' := run_part hE hT hy hp (.t (μ := μ) hr') (fit_self _ _) w
          rw [← hs] at hp'
          simp only [Instr.index, mkV, AV.isAgg, Ty.agg, if_true, asIntOf, Sem.run_bind, Sem.run_pure, Result.andThen_ok, run_underlying' hu, h2, and_self, Sem.run_ite, run_sizeOf hj]
          exact hp'
    · cases h
  · cases h

theorem RC.sub {e : Ty} {xs : List (E.D e)} {base : Option Addr} {n cap : Nat} (h : RC M (.sl e) xs [.slice base n cap]) (l r cap' : Nat) (hl : l ≤ r) (hr : r ≤ xs.length) (hc : r - l ≤ cap') (base' : Option Addr)
    (hb : r = l ∨ base' = base.map (·.add (l * Fv.size E e))) (hn : base' = none → cap' = 0) : RC M (.sl e) ((xs.take r).drop l) [.slice base' (r - l) cap'] := by
  have hlen : ((xs.take r).drop l).length = r - l := by simp; omega
  cases h with
  | sl xs base cap css hcap h hat hnil =>
    rw [← hlen]
    refine .sl _ base' cap' (fun i => css (l + i)) (by omega) ?_ ?_ hn
    · intro i hi
      have := h (l + i) (by omega)
      simpa [List.getElem_drop, List.getElem_take] using this
    · intro i hi
      rcases hb with rfl | rfl
      · omega
      · obtain ⟨⟨b, o, s⟩, h1, h2, h3⟩ := hat (l + i) (by omega)
        simp only at h2
        subst h2 h1
        refine ⟨⟨b, o + l * Fv.size E e, none⟩, by simp [addr_add], rfl, ?_⟩
        simp only
        simp only at h3
        rw [show o + l * Fv.size E e + i * Fv.size E e = o + (l + i) * Fv.size E e by rw [Nat.add_mul]; omega]
        exact h3
end Go.Proofs.YtbmpjppfdeohnaaDoor.Fv
