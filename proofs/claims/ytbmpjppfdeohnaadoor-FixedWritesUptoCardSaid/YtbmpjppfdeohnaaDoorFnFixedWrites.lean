/- The functions that the law FixedWrites reaches, as the evaluator reckons them. No condition. -/
import Derived.Test.YtbmpjppfdeohnaaDoorFvG
import Derived.Ground.MpProg
import Derived.Ground.NamesProg
import Derived.Shelf.Strconv.Itoa4
import Derived.Shelf.Strings.Prefix
import Derived.Shelf.Strings.Repeat
import Derived.WalkKit
import Derived.Test.YtbmpjppfdeohnaaDoorChecked
set_option linter.unusedVariables false
set_option maxRecDepth 100000
namespace Go.Proofs.YtbmpjppfdeohnaaDoor.PFixedWrites
open Go Go.Proofs Go.Proofs.YtbmpjppfdeohnaaDoor.Fv
instance loud : Quiet := ⟨False⟩

structure FixedField where
  Name : List UInt8
  Kind : Int
  At : Int
  Wide : Int
  Pad : Int
  Signed : Bool
  Scale : Int

mutual
structure ApiValue where
  Kind : Int
  N : Int
  S : List UInt8
  Fields : List ApiField
structure ApiField where
  Name : List UInt8
  Val : ApiValue
end

def R : Nat → Type
  | 0 => FixedField
  | 1 => ApiValue
  | 2 => ApiField
  | _ => Bool
def body : Nat → Ty
  | 0 => (.pair .str (.pair (.int .i64) (.pair (.int .i64) (.pair (.int .i64) (.pair (.int .u8) (.pair .bool (.one (.int .i64))))))))
  | 1 => (.pair (.int .i64) (.pair (.int .i64) (.pair .str (.one (.sl (.nm 2))))))
  | 2 => (.pair .str (.one (.nm 1)))
  | _ => .one .bool
def un : (n : Nat) → R n → den R (body n)
  | 0, (x : FixedField) => (x.Name, x.Kind, x.At, x.Wide, x.Pad, x.Signed, x.Scale)
  | 1, (x : ApiValue) => (x.Kind, x.N, x.S, x.Fields)
  | 2, (x : ApiField) => (x.Name, x.Val)
  | _ + 3, x => x
def ro : (n : Nat) → den R (body n) → R n
  | 0, x => FixedField.mk x.1 x.2.1 x.2.2.1 x.2.2.2.1 x.2.2.2.2.1 x.2.2.2.2.2.1 x.2.2.2.2.2.2
  | 1, x => ApiValue.mk x.1 x.2.1 x.2.2.1 x.2.2.2
  | 2, x => ApiField.mk x.1 x.2
  | _ + 3, x => x
def dfl0 : (n : Nat) → R n
  | 0 => (FixedField.mk [] 0 0 0 0 false 0)
  | 1 => (ApiValue.mk 0 0 [] [])
  | 2 => (ApiField.mk [] (ApiValue.mk 0 0 [] []))
  | _ + 3 => false
def sz0 : Nat → Nat
  | 0 => 7
  | 1 => 4
  | 2 => 5
  | _ => 1
def zc0 : Nat → List Value
  | 0 => [.string ByteArray.empty, .int .i64 0, .int .i64 0, .int .i64 0, .int .u8 0, .bool false, .int .i64 0]
  | 1 => [.int .i64 0, .int .i64 0, .string ByteArray.empty, .slice none 0 0]
  | 2 => [.string ByteArray.empty, .int .i64 0, .int .i64 0, .string ByteArray.empty, .slice none 0 0]
  | _ => [.bool false]
def E : Env := { R := R, body := body, un := un, ro := ro, dfl := dfl0, sz := sz0, zc := zc0 }
theorem hun : ∀ n x, un n (ro n x) = x
  | 0, _ => rfl
  | 1, _ => rfl
  | 2, _ => rfl
  | _ + 3, _ => rfl
theorem hdf : ∀ n, un n (dfl0 n) = dfl E (body n)
  | 0 => rfl
  | 1 => rfl
  | 2 => rfl
  | _ + 3 => rfl
theorem hsz : ∀ n, sz0 n = size E (body n)
  | 0 => rfl
  | 1 => rfl
  | 2 => rfl
  | _ + 3 => rfl
theorem hzc : ∀ n, zc0 n = zcells E (body n)
  | 0 => rfl
  | 1 => rfl
  | 2 => rfl
  | _ + 3 => rfl
theorem hag : ∀ n, (∃ a, body n = .one a) ∨ ∃ a b, body n = .pair a b
  | 0 => .inr ⟨_, _, rfl⟩
  | 1 => .inr ⟨_, _, rfl⟩
  | 2 => .inr ⟨_, _, rfl⟩
  | _ + 3 => .inl ⟨_, rfl⟩
theorem envOK : EnvOK E := ⟨hun, hdf, hsz, hzc, hag⟩
theorem hz0 (M : Mem) : RC (E := E) M (.nm 0) (dfl0 0) (zc0 0) := RC.nm (E := E) (RC.pair (RC.str ByteArray.empty) (RC.pair (RC.int .i64 0) (RC.pair (RC.int .i64 0) (RC.pair (RC.int .i64 0) (RC.pair (RC.int .u8 0) (RC.pair (RC.bool false) (RC.one (RC.int .i64 0))))))))
theorem hz1 (M : Mem) : RC (E := E) M (.nm 1) (dfl0 1) (zc0 1) := RC.nm (E := E) (RC.pair (RC.int .i64 0) (RC.pair (RC.int .i64 0) (RC.pair (RC.str ByteArray.empty) (RC.one (RC.sl (e := (.nm 2)) [] none 0 (fun _ => []) (Nat.le_refl _) (fun i hi => by simp at hi) (fun i hi => by simp at hi) (fun _ => rfl))))))
theorem hz2 (M : Mem) : RC (E := E) M (.nm 2) (dfl0 2) (zc0 2) := RC.nm (E := E) (RC.pair (RC.str ByteArray.empty) (RC.one (hz1 M)))
theorem hz : ∀ (M : Mem) n, RC (E := E) M (.nm n) (E.dfl n) (E.zc n)
  | M, 0 => hz0 M
  | M, 1 => hz1 M
  | M, 2 => hz2 M
  | M, _ + 3 => RC.nm (E := E) (RC.one (RC.bool false))
def tl : List (Nat × TE) := [(3, ⟨(.int .i64), .int .i64⟩),
  (4, ⟨.bool, .bool⟩),
  (5, ⟨(.int .u8), .int .u8⟩),
  (9, ⟨.str, .str⟩),
  (21, ⟨(.int .i32), .int .i32⟩),
  (22, ⟨(.sl .str), .slice 9⟩),
  (25, ⟨(.int .i64), .int .i64⟩),
  (44, ⟨(.sl (.nm 2)), .slice 73⟩),
  (46, ⟨(.nm 1), .struct [(3, 0), (3, 1), (9, 2), (44, 3)]⟩),
  (55, ⟨(.sl (.nm 0)), .slice 87⟩),
  (56, ⟨(.sl (.int .u8)), .slice 5⟩),
  (73, ⟨(.nm 2), .struct [(9, 0), (46, 1)]⟩),
  (87, ⟨(.nm 0), .struct [(9, 0), (3, 1), (3, 2), (3, 3), (5, 4), (4, 5), (3, 6)]⟩),
  (98, ⟨(.sl (.int .i64)), .slice 3⟩),
  (131, ⟨(.mp (.int .i64) (.int .i64)), .map 3 3⟩),
  (132, ⟨(.mp .str (.int .i64)), .map 9 3⟩),
  (154, ⟨(.int .u64), .int .u64⟩),
  (174, ⟨(.int .u64), .int .u64⟩)]
def tt : Nat → Option TE := look2 tl
theorem tf3 : TFact Tryd.prog E tt 3 ⟨(.int .i64), .int .i64⟩ := TFact.of (z := .int .i64 0) (bs := 8) Tryd.underlying3 ⟨rfl, rfl, rfl⟩ (by kernel_rfl) (by kernel_rfl) (fun h => nomatch h) (by kernel_rfl) (trivial) (fun _ cs h => nomatch h) (trivial)
theorem tf4 : TFact Tryd.prog E tt 4 ⟨.bool, .bool⟩ := TFact.of (z := .bool false) (bs := 1) Tryd.underlying4 ⟨rfl, rfl, rfl⟩ (by kernel_rfl) (by kernel_rfl) (fun h => nomatch h) (by kernel_rfl) (trivial) (fun _ cs h => nomatch h) (trivial)
theorem tf5 : TFact Tryd.prog E tt 5 ⟨(.int .u8), .int .u8⟩ := TFact.of (z := .int .u8 0) (bs := 1) Tryd.underlying5 ⟨rfl, rfl, rfl⟩ (by kernel_rfl) (by kernel_rfl) (fun h => nomatch h) (by kernel_rfl) (trivial) (fun _ cs h => nomatch h) (trivial)
theorem tf9 : TFact Tryd.prog E tt 9 ⟨.str, .str⟩ := TFact.of (z := .string ByteArray.empty) (bs := 16) Tryd.underlying9 ⟨rfl, rfl, rfl⟩ (by kernel_rfl) (by kernel_rfl) (fun h => nomatch h) (by kernel_rfl) (trivial) (fun _ cs h => nomatch h) (trivial)
theorem tf21 : TFact Tryd.prog E tt 21 ⟨(.int .i32), .int .i32⟩ := TFact.of (z := .int .i32 0) (bs := 4) Tryd.underlying21 ⟨rfl, rfl, rfl⟩ (by kernel_rfl) (by kernel_rfl) (fun h => nomatch h) (by kernel_rfl) (trivial) (fun _ cs h => nomatch h) (trivial)
theorem tf22 : TFact Tryd.prog E tt 22 ⟨(.sl .str), .slice 9⟩ := TFact.of (z := .slice none 0 0) (bs := 24) Tryd.underlying22 ⟨rfl, rfl, .inr ⟨by kernel_rfl, by kernel_rfl, by kernel_rfl, of_decide_eq_true (by kernel_rfl), of_decide_eq_true (by kernel_rfl), of_decide_eq_true (by kernel_rfl)⟩⟩ (by kernel_rfl) (by kernel_rfl) (fun h => nomatch h) (by kernel_rfl) (trivial) (fun _ cs h => nomatch h) (trivial)
theorem tf25 : TFact Tryd.prog E tt 25 ⟨(.int .i64), .int .i64⟩ := TFact.of (z := .int .i64 0) (bs := 8) Tryd.underlying25 ⟨rfl, rfl, rfl⟩ (by kernel_rfl) (by kernel_rfl) (fun h => nomatch h) (by kernel_rfl) (trivial) (fun _ cs h => nomatch h) (trivial)
theorem tf44 : TFact Tryd.prog E tt 44 ⟨(.sl (.nm 2)), .slice 73⟩ := TFact.of (z := .slice none 0 0) (bs := 24) Tryd.underlying44 ⟨rfl, rfl, .inr ⟨by kernel_rfl, by kernel_rfl, by kernel_rfl, of_decide_eq_true (by kernel_rfl), of_decide_eq_true (by kernel_rfl), of_decide_eq_true (by kernel_rfl)⟩⟩ (by kernel_rfl) (by kernel_rfl) (fun h => nomatch h) (by kernel_rfl) (trivial) (fun _ cs h => nomatch h) (trivial)
theorem tf46 : TFact Tryd.prog E tt 46 ⟨(.nm 1), .struct [(3, 0), (3, 1), (9, 2), (44, 3)]⟩ := TFact.of (z := .agg #[.int .i64 0, .int .i64 0, .string ByteArray.empty, .slice none 0 0]) (bs := 56) Tryd.underlying46 ⟨by kernel_rfl, ⟨_, rfl, rfl⟩, by kernel_rfl, by kernel_rfl⟩ (by kernel_rfl) (by kernel_rfl) (fun _ => rfl) (by kernel_rfl) (show (Value.cells (.agg #[.int .i64 0, .int .i64 0, .string ByteArray.empty, .slice none 0 0])).toList = (List.map (fun f => zA (E := E) (zeroA tt 20 f.1)) [(3, 0), (3, 1), (9, 2), (44, 3)]).flatten from by kernel_rfl) (fun h => nomatch h) (fun h => absurd (h.symm.trans (show eqC tt (bodyOf E (.nm 1)) 0 [(3, 0), (3, 1), (9, 2), (44, 3)] = false from by kernel_rfl)) (by decide))
theorem tf55 : TFact Tryd.prog E tt 55 ⟨(.sl (.nm 0)), .slice 87⟩ := TFact.of (z := .slice none 0 0) (bs := 24) Tryd.underlying55 ⟨rfl, rfl, .inr ⟨by kernel_rfl, by kernel_rfl, by kernel_rfl, of_decide_eq_true (by kernel_rfl), of_decide_eq_true (by kernel_rfl), of_decide_eq_true (by kernel_rfl)⟩⟩ (by kernel_rfl) (by kernel_rfl) (fun h => nomatch h) (by kernel_rfl) (trivial) (fun _ cs h => nomatch h) (trivial)
theorem tf56 : TFact Tryd.prog E tt 56 ⟨(.sl (.int .u8)), .slice 5⟩ := TFact.of (z := .slice none 0 0) (bs := 24) Tryd.underlying56 ⟨rfl, rfl, .inr ⟨by kernel_rfl, by kernel_rfl, by kernel_rfl, of_decide_eq_true (by kernel_rfl), of_decide_eq_true (by kernel_rfl), of_decide_eq_true (by kernel_rfl)⟩⟩ (by kernel_rfl) (by kernel_rfl) (fun h => nomatch h) (by kernel_rfl) (trivial) (fun _ cs h => nomatch h) (trivial)
theorem tf73 : TFact Tryd.prog E tt 73 ⟨(.nm 2), .struct [(9, 0), (46, 1)]⟩ := TFact.of (z := .agg #[.string ByteArray.empty, .int .i64 0, .int .i64 0, .string ByteArray.empty, .slice none 0 0]) (bs := 72) Tryd.underlying73 ⟨by kernel_rfl, ⟨_, rfl, rfl⟩, by kernel_rfl, by kernel_rfl⟩ (by kernel_rfl) (by kernel_rfl) (fun _ => rfl) (by kernel_rfl) (show (Value.cells (.agg #[.string ByteArray.empty, .int .i64 0, .int .i64 0, .string ByteArray.empty, .slice none 0 0])).toList = (List.map (fun f => zA (E := E) (zeroA tt 20 f.1)) [(9, 0), (46, 1)]).flatten from by kernel_rfl) (fun h => nomatch h) (fun h => absurd (h.symm.trans (show eqC tt (bodyOf E (.nm 2)) 0 [(9, 0), (46, 1)] = false from by kernel_rfl)) (by decide))
theorem tf87 : TFact Tryd.prog E tt 87 ⟨(.nm 0), .struct [(9, 0), (3, 1), (3, 2), (3, 3), (5, 4), (4, 5), (3, 6)]⟩ := TFact.of (z := .agg #[.string ByteArray.empty, .int .i64 0, .int .i64 0, .int .i64 0, .int .u8 0, .bool false, .int .i64 0]) (bs := 56) Tryd.underlying87 ⟨by kernel_rfl, ⟨_, rfl, rfl⟩, by kernel_rfl, by kernel_rfl⟩ (by kernel_rfl) (by kernel_rfl) (fun _ => rfl) (by kernel_rfl) (show (Value.cells (.agg #[.string ByteArray.empty, .int .i64 0, .int .i64 0, .int .i64 0, .int .u8 0, .bool false, .int .i64 0])).toList = (List.map (fun f => zA (E := E) (zeroA tt 20 f.1)) [(9, 0), (3, 1), (3, 2), (3, 3), (5, 4), (4, 5), (3, 6)]).flatten from by kernel_rfl) (fun h => nomatch h) (fun _ => ⟨names_of Tryd.underlying87 (by kernel_rfl), by kernel_rfl, by kernel_rfl⟩)
theorem tf98 : TFact Tryd.prog E tt 98 ⟨(.sl (.int .i64)), .slice 3⟩ := TFact.of (z := .slice none 0 0) (bs := 24) Tryd.underlying98 ⟨rfl, rfl, .inr ⟨by kernel_rfl, by kernel_rfl, by kernel_rfl, of_decide_eq_true (by kernel_rfl), of_decide_eq_true (by kernel_rfl), of_decide_eq_true (by kernel_rfl)⟩⟩ (by kernel_rfl) (by kernel_rfl) (fun h => nomatch h) (by kernel_rfl) (trivial) (fun _ cs h => nomatch h) (trivial)
theorem tf131 : TFact Tryd.prog E tt 131 ⟨(.mp (.int .i64) (.int .i64)), .map 3 3⟩ := TFact.of (z := .map none) (bs := 8) Tryd.underlying131 ⟨rfl, rfl, by kernel_rfl, by kernel_rfl, .inr rfl⟩ (by kernel_rfl) (by kernel_rfl) (fun h => nomatch h) (by kernel_rfl) (trivial) (fun _ cs h => nomatch h) (trivial)
theorem tf132 : TFact Tryd.prog E tt 132 ⟨(.mp .str (.int .i64)), .map 9 3⟩ := TFact.of (z := .map none) (bs := 8) Tryd.underlying132 ⟨rfl, rfl, by kernel_rfl, by kernel_rfl, .inr rfl⟩ (by kernel_rfl) (by kernel_rfl) (fun h => nomatch h) (by kernel_rfl) (trivial) (fun _ cs h => nomatch h) (trivial)
theorem tf154 : TFact Tryd.prog E tt 154 ⟨(.int .u64), .int .u64⟩ := TFact.of (z := .int .u64 0) (bs := 8) Tryd.underlying154 ⟨rfl, rfl, rfl⟩ (by kernel_rfl) (by kernel_rfl) (fun h => nomatch h) (by kernel_rfl) (trivial) (fun _ cs h => nomatch h) (trivial)
theorem tf174 : TFact Tryd.prog E tt 174 ⟨(.int .u64), .int .u64⟩ := TFact.of (z := .int .u64 0) (bs := 8) Tryd.underlying174 ⟨rfl, rfl, rfl⟩ (by kernel_rfl) (by kernel_rfl) (fun h => nomatch h) (by kernel_rfl) (trivial) (fun _ cs h => nomatch h) (trivial)
theorem tok : TOK Tryd.prog E tt := TOK.of (mem_cons2 tf3 (mem_cons2 tf4 (mem_cons2 tf5 (mem_cons2 tf9 (mem_cons2 tf21 (mem_cons2 tf22 (mem_cons2 tf25 (mem_cons2 tf44 (mem_cons2 tf46 (mem_cons2 tf55 (mem_cons2 tf56 (mem_cons2 tf73 (mem_cons2 tf87 (mem_cons2 tf98 (mem_cons2 tf131 (mem_cons2 tf132 (mem_cons2 tf154 (mem_cons2 tf174 mem_nil2))))))))))))))))))
def tlr : List (Nat × TE) := [(3, ⟨(.int .i64), .int .i64⟩),
  (4, ⟨.bool, .bool⟩),
  (5, ⟨(.int .u8), .int .u8⟩),
  (9, ⟨.str, .str⟩),
  (44, ⟨(.sl (.nm 2)), .slice 73⟩),
  (46, ⟨(.nm 1), .struct [(3, 0), (3, 1), (9, 2), (44, 3)]⟩),
  (55, ⟨(.sl (.nm 0)), .slice 87⟩),
  (73, ⟨(.nm 2), .struct [(9, 0), (46, 1)]⟩),
  (87, ⟨(.nm 0), .struct [(9, 0), (3, 1), (3, 2), (3, 3), (5, 4), (4, 5), (3, 6)]⟩)]
def ttr : Nat → Option TE := look2 tlr
theorem tfr3 : TFact Tryd.prog E ttr 3 ⟨(.int .i64), .int .i64⟩ := TFact.of (z := .int .i64 0) (bs := 8) Tryd.underlying3 ⟨rfl, rfl, rfl⟩ (by kernel_rfl) (by kernel_rfl) (fun h => nomatch h) (by kernel_rfl) (trivial) (fun _ cs h => nomatch h) (trivial)
theorem tfr4 : TFact Tryd.prog E ttr 4 ⟨.bool, .bool⟩ := TFact.of (z := .bool false) (bs := 1) Tryd.underlying4 ⟨rfl, rfl, rfl⟩ (by kernel_rfl) (by kernel_rfl) (fun h => nomatch h) (by kernel_rfl) (trivial) (fun _ cs h => nomatch h) (trivial)
theorem tfr5 : TFact Tryd.prog E ttr 5 ⟨(.int .u8), .int .u8⟩ := TFact.of (z := .int .u8 0) (bs := 1) Tryd.underlying5 ⟨rfl, rfl, rfl⟩ (by kernel_rfl) (by kernel_rfl) (fun h => nomatch h) (by kernel_rfl) (trivial) (fun _ cs h => nomatch h) (trivial)
theorem tfr9 : TFact Tryd.prog E ttr 9 ⟨.str, .str⟩ := TFact.of (z := .string ByteArray.empty) (bs := 16) Tryd.underlying9 ⟨rfl, rfl, rfl⟩ (by kernel_rfl) (by kernel_rfl) (fun h => nomatch h) (by kernel_rfl) (trivial) (fun _ cs h => nomatch h) (trivial)
theorem tfr44 : TFact Tryd.prog E ttr 44 ⟨(.sl (.nm 2)), .slice 73⟩ := TFact.of (z := .slice none 0 0) (bs := 24) Tryd.underlying44 ⟨rfl, rfl, .inr ⟨by kernel_rfl, by kernel_rfl, by kernel_rfl, of_decide_eq_true (by kernel_rfl), of_decide_eq_true (by kernel_rfl), of_decide_eq_true (by kernel_rfl)⟩⟩ (by kernel_rfl) (by kernel_rfl) (fun h => nomatch h) (by kernel_rfl) (trivial) (fun _ cs h => nomatch h) (trivial)
theorem tfr46 : TFact Tryd.prog E ttr 46 ⟨(.nm 1), .struct [(3, 0), (3, 1), (9, 2), (44, 3)]⟩ := TFact.of (z := .agg #[.int .i64 0, .int .i64 0, .string ByteArray.empty, .slice none 0 0]) (bs := 56) Tryd.underlying46 ⟨by kernel_rfl, ⟨_, rfl, rfl⟩, by kernel_rfl, by kernel_rfl⟩ (by kernel_rfl) (by kernel_rfl) (fun _ => rfl) (by kernel_rfl) (show (Value.cells (.agg #[.int .i64 0, .int .i64 0, .string ByteArray.empty, .slice none 0 0])).toList = (List.map (fun f => zA (E := E) (zeroA ttr 20 f.1)) [(3, 0), (3, 1), (9, 2), (44, 3)]).flatten from by kernel_rfl) (fun h => nomatch h) (fun h => absurd (h.symm.trans (show eqC ttr (bodyOf E (.nm 1)) 0 [(3, 0), (3, 1), (9, 2), (44, 3)] = false from by kernel_rfl)) (by decide))
theorem tfr55 : TFact Tryd.prog E ttr 55 ⟨(.sl (.nm 0)), .slice 87⟩ := TFact.of (z := .slice none 0 0) (bs := 24) Tryd.underlying55 ⟨rfl, rfl, .inr ⟨by kernel_rfl, by kernel_rfl, by kernel_rfl, of_decide_eq_true (by kernel_rfl), of_decide_eq_true (by kernel_rfl), of_decide_eq_true (by kernel_rfl)⟩⟩ (by kernel_rfl) (by kernel_rfl) (fun h => nomatch h) (by kernel_rfl) (trivial) (fun _ cs h => nomatch h) (trivial)
theorem tfr73 : TFact Tryd.prog E ttr 73 ⟨(.nm 2), .struct [(9, 0), (46, 1)]⟩ := TFact.of (z := .agg #[.string ByteArray.empty, .int .i64 0, .int .i64 0, .string ByteArray.empty, .slice none 0 0]) (bs := 72) Tryd.underlying73 ⟨by kernel_rfl, ⟨_, rfl, rfl⟩, by kernel_rfl, by kernel_rfl⟩ (by kernel_rfl) (by kernel_rfl) (fun _ => rfl) (by kernel_rfl) (show (Value.cells (.agg #[.string ByteArray.empty, .int .i64 0, .int .i64 0, .string ByteArray.empty, .slice none 0 0])).toList = (List.map (fun f => zA (E := E) (zeroA ttr 20 f.1)) [(9, 0), (46, 1)]).flatten from by kernel_rfl) (fun h => nomatch h) (fun h => absurd (h.symm.trans (show eqC ttr (bodyOf E (.nm 2)) 0 [(9, 0), (46, 1)] = false from by kernel_rfl)) (by decide))
theorem tfr87 : TFact Tryd.prog E ttr 87 ⟨(.nm 0), .struct [(9, 0), (3, 1), (3, 2), (3, 3), (5, 4), (4, 5), (3, 6)]⟩ := TFact.of (z := .agg #[.string ByteArray.empty, .int .i64 0, .int .i64 0, .int .i64 0, .int .u8 0, .bool false, .int .i64 0]) (bs := 56) Tryd.underlying87 ⟨by kernel_rfl, ⟨_, rfl, rfl⟩, by kernel_rfl, by kernel_rfl⟩ (by kernel_rfl) (by kernel_rfl) (fun _ => rfl) (by kernel_rfl) (show (Value.cells (.agg #[.string ByteArray.empty, .int .i64 0, .int .i64 0, .int .i64 0, .int .u8 0, .bool false, .int .i64 0])).toList = (List.map (fun f => zA (E := E) (zeroA ttr 20 f.1)) [(9, 0), (3, 1), (3, 2), (3, 3), (5, 4), (4, 5), (3, 6)]).flatten from by kernel_rfl) (fun h => nomatch h) (fun _ => ⟨names_of Tryd.underlying87 (by kernel_rfl), by kernel_rfl, by kernel_rfl⟩)
theorem tokr : TOK Tryd.prog E ttr := TOK.of (mem_cons2 tfr3 (mem_cons2 tfr4 (mem_cons2 tfr5 (mem_cons2 tfr9 (mem_cons2 tfr44 (mem_cons2 tfr46 (mem_cons2 tfr55 (mem_cons2 tfr73 (mem_cons2 tfr87 mem_nil2)))))))))
theorem rdok : RdOK Tryd.prog E ttr := RdOK.of (by kernel_rfl)
theorem law_sub : ∀ t ∈ ([55, 46] : List Nat), ttr t = tt t := by
  intro t ht
  simp only [List.mem_cons, List.not_mem_nil, or_false] at ht
  rcases ht with rfl | rfl
  · kernel_rfl
  · kernel_rfl
theorem hmix : Tryd.prog.follows .mixedOrders = true := by kernel_rfl
def hKeep (f b : Nat) : List (Nat × Nat) := bif Nat.beq f 30 then (bif Nat.beq b 0 then [(3, 0), (7, 1), (31, 0), (32, 0), (33, 0)] else []) else bif Nat.beq f 31 then (bif Nat.beq b 0 then [(0, 0), (3, 0), (4, 0), (21, 0), (22, 0), (23, 0)] else bif Nat.beq b 3 then [(0, 0), (3, 0), (4, 0), (5, 0), (6, 0), (8, 0), (9, 0), (12, 0), (21, 0), (22, 0), (23, 0)] else bif Nat.beq b 5 then [(0, 0), (3, 0), (4, 0), (5, 0), (6, 0), (15, 0), (21, 0), (22, 0), (23, 0)] else []) else bif Nat.beq f 33 then (bif Nat.beq b 0 then [(3, 0), (6, 1), (26, 0), (27, 0), (28, 0)] else []) else bif Nat.beq f 34 then (bif Nat.beq b 0 then [(0, 0), (1, 0), (12, 0), (13, 0)] else []) else bif Nat.beq f 49 then (bif Nat.beq b 0 then [(0, 0), (11, 0), (12, 0), (13, 0)] else bif Nat.beq b 2 then [(0, 0), (4, 0), (11, 0), (12, 0), (13, 0), (25, 0), (26, 0), (27, 0)] else []) else bif Nat.beq f 52 then (bif Nat.beq b 0 then [(3, 0), (6, 0), (7, 0), (8, 0)] else []) else bif Nat.beq f 53 then (bif Nat.beq b 0 then [(3, 0), (6, 0), (7, 0), (8, 0)] else []) else bif Nat.beq f 64 then (bif Nat.beq b 0 then [(23, 0), (24, 0), (25, 0)] else []) else bif Nat.beq f 89 then (bif Nat.beq b 0 then [(7, 1), (8, 0)] else []) else bif Nat.beq f 91 then (bif Nat.beq b 0 then [(7, 0), (8, 0), (9, 1), (10, 0)] else []) else bif Nat.beq f 93 then (bif Nat.beq b 1 then [(2, 0), (3, 0)] else bif Nat.beq b 3 then [(7, 0), (8, 0), (9, 0)] else []) else bif Nat.beq f 130 then (bif Nat.beq b 0 then [(3, 0), (4, 0), (5, 0)] else []) else bif Nat.beq f 135 then (bif Nat.beq b 0 then [(2, 0), (5, 0), (6, 0)] else []) else []
def hKeepB (f b : Nat) : List Nat := bif Nat.beq f 30 then (bif Nat.beq b 0 then [3] else []) else bif Nat.beq f 31 then (bif Nat.beq b 0 then [19, 20] else bif Nat.beq b 3 then [6, 19, 20] else bif Nat.beq b 5 then [6, 19, 20] else []) else bif Nat.beq f 33 then (bif Nat.beq b 0 then [3] else []) else bif Nat.beq f 49 then (bif Nat.beq b 2 then [4] else []) else bif Nat.beq f 93 then (bif Nat.beq b 1 then [2, 3] else []) else bif Nat.beq f 135 then (bif Nat.beq b 0 then [2] else []) else []
def hRsh (f : Nat) : RSh := bif Nat.beq f 6 then (.t .bool) else bif Nat.beq f 30 then (.tup [(.t (.sl (.int .u8))), (.t (.int .i64))]) else bif Nat.beq f 31 then (.t (.int .i64)) else bif Nat.beq f 32 then (.t .bool) else bif Nat.beq f 33 then (.tup [(.t (.sl (.int .u8))), (.t (.int .i64))]) else bif Nat.beq f 34 then (.t .bool) else bif Nat.beq f 49 then (.t (.int .i64)) else bif Nat.beq f 50 then (.t .str) else bif Nat.beq f 52 then (.t (.int .i64)) else bif Nat.beq f 53 then (.t (.int .i64)) else bif Nat.beq f 54 then (.t (.int .i64)) else bif Nat.beq f 55 then (.t (.int .i64)) else bif Nat.beq f 64 then (.t .bool) else bif Nat.beq f 68 then (.t .str) else bif Nat.beq f 89 then (.ownrow (.int .u8)) else bif Nat.beq f 90 then (.t (.int .i64)) else bif Nat.beq f 91 then (.ownrow (.int .u8)) else bif Nat.beq f 92 then (.t .str) else bif Nat.beq f 93 then (.tup [(.t .str), (.t (.int .i64))]) else bif Nat.beq f 95 then (.t .str) else bif Nat.beq f 108 then (.t (.int .i64)) else bif Nat.beq f 109 then (.t .str) else bif Nat.beq f 110 then (.t (.int .i64)) else bif Nat.beq f 129 then (.tup [(.t (.int .u64)), (.t (.int .u64))]) else bif Nat.beq f 130 then (.t (.int .i64)) else bif Nat.beq f 134 then (.t .bool) else bif Nat.beq f 135 then (.t .str) else bif Nat.beq f 136 then (.tup [(.t (.int .u64)), .unit]) else bif Nat.beq f 160 then (.tup [(.t (.int .u64)), (.t (.int .u64))]) else .asis
def hCons (f : Nat) : List Nat := []
def hRow (f : Nat) : List Nat := bif Nat.beq f 33 then [25] else bif Nat.beq f 89 then [4, 30] else bif Nat.beq f 91 then [4, 9, 16, 56] else []
def hSet (f d : Nat) : List (Nat × Nat) := []
def hPre (f d : Nat) : Nat := bif Nat.beq f 30 then (bif Nat.beq d 4 then 2 else 0) else bif Nat.beq f 33 then (bif Nat.beq d 4 then 2 else 0) else 0
def hPreT (f d : Nat) : List (Nat × Nat) := []
def H : Hints := { keep := hKeep, keepB := hKeepB, rsh := hRsh, cons := hCons, asagg := hSet, asrow := hRow, mutcap := [], pre := hPre, preT := hPreT }
def gl : Nat → AV E := fun g => bif Nat.beq g 3 then .imm (.arr 20 (.int .u64)) Go.Lib.pow10Tab else .undef

theorem gl_ok {W : World} (h_pow10 : Go.Lib.TabIs Tryd.prog W "internal/strconv.uint64pow10" .u64 Go.Lib.pow10Tab) : GlOK (memOf W) gl := by
  intro g
  cases e_pow10 : Nat.beq g 3 with
  | true =>
    have e := Nat.eq_of_beq_eq_true e_pow10
    subst e
    obtain ⟨cells, h1, h2, h3⟩ := tabIs_gl (E := E) (show Tryd.prog.globalNamed "internal/strconv.uint64pow10" = some 3 by kernel_rfl) h_pow10
    exact .inr ⟨_, _, cells, rfl, h1, h2, h3⟩
  | false =>
  exact .inl (by simp [gl, e_pow10])
def C0 (_ : Nat) : Call2 E := fun _ _ _ => none

/- clapperbridge/value.Name -/
noncomputable def value_Name (n : Nat) (x0 : List UInt8) : Option Bool := F2 (E := E) tt gl H (C0 n) n 64 Tryd.f64 [.t .str] (x0, ())
noncomputable def value_Name_l0 (n : Nat) (m0 : Nat) (v23 : List Int) (v24 : Int) (v25 : Int) : Option Bool := lp (E := E) (ps := [.t .str]) tt gl H (C0 n) n 64 Tryd.f64 [1, 1, 0, 1, 0] [] m0 ⟨mkT 49 0 [(23, .t (.sl (.int .u8)) v23), (24, .t (.int .i64) v24), (25, .t (.int .i64) v25)], mkB 196 0 []⟩
theorem value_Name_l0_eq (n : Nat) (m0 : Nat) (v23 : List Int) (v24 : Int) (v25 : Int) : value_Name_l0 n (m0 + 1) v23 v24 v25 = (bif (decide (v25 < v24)) then (bif (decide (0 ≤ v25) && decide (v25 < List.length v23)) then (bif (decide ((List.getD v23 (Int.toNat v25) (0 : Int)) ≥ 97)) then (bif (decide ((List.getD v23 (Int.toNat v25) (0 : Int)) ≤ 122)) then (value_Name_l0 n m0 v23 v24 (IntKind.wrap .i64 (v25 + 1))) else (bif (decide ((List.getD v23 (Int.toNat v25) (0 : Int)) ≥ 48)) then (bif (decide ((List.getD v23 (Int.toNat v25) (0 : Int)) ≤ 57)) then (value_Name_l0 n m0 v23 v24 (IntKind.wrap .i64 (v25 + 1))) else (bif (!(decide ((List.getD v23 (Int.toNat v25) (0 : Int)) = 45))) then (some false) else (value_Name_l0 n m0 v23 v24 (IntKind.wrap .i64 (v25 + 1))))) else (bif (!(decide ((List.getD v23 (Int.toNat v25) (0 : Int)) = 45))) then (some false) else (value_Name_l0 n m0 v23 v24 (IntKind.wrap .i64 (v25 + 1)))))) else (bif (decide ((List.getD v23 (Int.toNat v25) (0 : Int)) ≥ 48)) then (bif (decide ((List.getD v23 (Int.toNat v25) (0 : Int)) ≤ 57)) then (value_Name_l0 n m0 v23 v24 (IntKind.wrap .i64 (v25 + 1))) else (bif (!(decide ((List.getD v23 (Int.toNat v25) (0 : Int)) = 45))) then (some false) else (value_Name_l0 n m0 v23 v24 (IntKind.wrap .i64 (v25 + 1))))) else (bif (!(decide ((List.getD v23 (Int.toNat v25) (0 : Int)) = 45))) then (some false) else (value_Name_l0 n m0 v23 v24 (IntKind.wrap .i64 (v25 + 1)))))) else none) else (some true)) := by kernel_rfl
theorem value_Name_l0_zero (n : Nat) (v23 : List Int) (v24 : Int) (v25 : Int) : value_Name_l0 n 0 v23 v24 v25 = none := by kernel_rfl
theorem value_Name_l0_fold (n : Nat) (v23 : List Int) (hl : List.length v23 < 9223372036854775807) (m i : Nat) (hi : i ≤ List.length v23) (hm : List.length v23 - i < m) : value_Name_l0 n m v23 (List.length v23 : Int) (i : Int) = foldK (S := Unit) (fun i (a : Int) s K => (bif (decide (a ≥ 97)) then (bif (decide (a ≤ 122)) then (K ()) else (bif (decide (a ≥ 48)) then (bif (decide (a ≤ 57)) then (K ()) else (bif (!(decide (a = 45))) then (some false) else (K ()))) else (bif (!(decide (a = 45))) then (some false) else (K ())))) else (bif (decide (a ≥ 48)) then (bif (decide (a ≤ 57)) then (K ()) else (bif (!(decide (a = 45))) then (some false) else (K ()))) else (bif (!(decide (a = 45))) then (some false) else (K ()))))) (fun s => (some true)) (List.drop i v23) i () := range_loop v23 (0 : Int) hl (fun m (k : Int) (s : Unit) => value_Name_l0 n m v23 (List.length v23 : Int) k) _ _ (fun m i s => (value_Name_l0_eq n m v23 (List.length v23 : Int) (i : Int)).trans (by kernel_rfl)) m i hi hm ()
theorem value_Name_eq (n : Nat) (x0 : List UInt8) : value_Name n x0 = (bif (x0 == []) then (some false) else (bif (decide ((List.length x0 : Int) > 16)) then (some false) else (bif (decide (0 ≤ (0 : Int)) && decide ((0 : Int) < List.length x0)) then (bif (decide (((UInt8.toNat (List.getD x0 (Int.toNat (0 : Int)) 0) : Nat) : Int) < 97)) then (some false) else (bif (decide (0 ≤ (0 : Int)) && decide ((0 : Int) < List.length x0)) then (bif (decide (((UInt8.toNat (List.getD x0 (Int.toNat (0 : Int)) 0) : Nat) : Int) > 122)) then (some false) else (value_Name_l0 n n (ints x0) (List.length (ints x0) : Int) 0)) else none)) else none))) := by kernel_rfl
noncomputable def C1 (n : Nat) : Call2 E := more tt gl H (C0 n) n 64 Tryd.f64 [.t .str] (C0 n)

/- clapperbridge/fixed.Digits -/
noncomputable def fixed_Digits (n : Nat) (x0 : FixedField) : Option Int := F2 (E := E) tt gl H (C1 n) n 54 Tryd.f54 [.t (.nm 0)] (x0, ())
theorem fixed_Digits_eq (n : Nat) (x0 : FixedField) : fixed_Digits n x0 = (bif (decide (x0.Kind = 1)) then (bif x0.Signed then (some (IntKind.wrap .i64 (x0.Wide - 1))) else (some x0.Wide)) else (bif (decide (x0.Kind = 2)) then (some (IntKind.wrap .i64 ((IntKind.wrap .i64 ((2 : Int) * x0.Wide)) - 1))) else (some 0))) := by kernel_rfl
noncomputable def C2 (n : Nat) : Call2 E := more tt gl H (C1 n) n 54 Tryd.f54 [.t (.nm 0)] (C1 n)

/- clapperbridge/fixed.one -/
noncomputable def fixed_one (n : Nat) (x0 : FixedField) : Option Int := F2 (E := E) tt gl H (C2 n) n 108 Tryd.f108 [.t (.nm 0)] (x0, ())
theorem fixed_one_eq (n : Nat) (x0 : FixedField) : fixed_one n x0 = (Option.bind (value_Name n x0.Name) fun r1 => (bif (!r1) then (some 15) else (bif (decide (x0.Kind < 0)) then (some 8) else (bif (decide (x0.Kind ≥ 3)) then (some 8) else (bif (decide (x0.At < 0)) then (some 11) else (bif (decide (x0.Wide < 1)) then (some 11) else (bif (decide (x0.At > 400)) then (some 11) else (bif (decide (x0.Wide > (IntKind.wrap .i64 ((400 : Int) - x0.At)))) then (some 11) else (bif (decide (x0.Kind = 0)) then (bif x0.Signed then (some 3) else (bif (!decide (x0.Scale = 0)) then (some 3) else (bif (!decide (x0.Kind = 0)) then (bif (!decide (x0.Pad = 0)) then (some 3) else (bif (!decide (x0.Kind = 0)) then (Option.bind (fixed_Digits n x0) fun r2 => (bif (decide (r2 < 1)) then (some 11) else (Option.bind (fixed_Digits n x0) fun r3 => (bif (decide (r3 > 15)) then (some 11) else (bif (decide (x0.Scale < 0)) then (some 11) else (Option.bind (fixed_Digits n x0) fun r4 => (bif (decide (x0.Scale > r4)) then (some 11) else (some 0)))))))) else (some 0))) else (bif (!decide (x0.Kind = 0)) then (Option.bind (fixed_Digits n x0) fun r5 => (bif (decide (r5 < 1)) then (some 11) else (Option.bind (fixed_Digits n x0) fun r6 => (bif (decide (r6 > 15)) then (some 11) else (bif (decide (x0.Scale < 0)) then (some 11) else (Option.bind (fixed_Digits n x0) fun r7 => (bif (decide (x0.Scale > r7)) then (some 11) else (some 0)))))))) else (some 0))))) else (bif (!decide (x0.Kind = 0)) then (bif (!decide (x0.Pad = 0)) then (some 3) else (bif (!decide (x0.Kind = 0)) then (Option.bind (fixed_Digits n x0) fun r8 => (bif (decide (r8 < 1)) then (some 11) else (Option.bind (fixed_Digits n x0) fun r9 => (bif (decide (r9 > 15)) then (some 11) else (bif (decide (x0.Scale < 0)) then (some 11) else (Option.bind (fixed_Digits n x0) fun r10 => (bif (decide (x0.Scale > r10)) then (some 11) else (some 0)))))))) else (some 0))) else (bif (!decide (x0.Kind = 0)) then (Option.bind (fixed_Digits n x0) fun r11 => (bif (decide (r11 < 1)) then (some 11) else (Option.bind (fixed_Digits n x0) fun r12 => (bif (decide (r12 > 15)) then (some 11) else (bif (decide (x0.Scale < 0)) then (some 11) else (Option.bind (fixed_Digits n x0) fun r13 => (bif (decide (x0.Scale > r13)) then (some 11) else (some 0)))))))) else (some 0)))))))))))) := by kernel_rfl
noncomputable def C3 (n : Nat) : Call2 E := more tt gl H (C2 n) n 108 Tryd.f108 [.t (.nm 0)] (C2 n)

/- clapperbridge/fixed.Check -/
noncomputable def fixed_Check (n : Nat) (x0 : List FixedField) : Option Int := F2 (E := E) tt gl H (C3 n) n 49 Tryd.f49 [.t (.sl (.nm 0))] (x0, ())
noncomputable def fixed_Check_l0 (n : Nat) (m0 : Nat) (v0 : List FixedField) (v11 : List FixedField) (v12 : Int) (v13 : Int) : Option Int := lp (E := E) (ps := [.t (.sl (.nm 0))]) tt gl H (C3 n) n 49 Tryd.f49 [1, 1, 0, 1, 0] [] m0 ⟨mkT 56 0 [(0, .t (.sl (.nm 0)) v0), (11, .t (.sl (.nm 0)) v11), (12, .t (.int .i64) v12), (13, .t (.int .i64) v13)], mkB 224 0 []⟩
noncomputable def fixed_Check_l2 (n : Nat) (m0 : Nat) (m1 : Nat) (v0 : List FixedField) (v11 : List FixedField) (v12 : Int) (v13 : Int) (v25 : List FixedField) (v26 : Int) (v27 : Int) (w4 : FixedField) : Option Int := lp (E := E) (ps := [.t (.sl (.nm 0))]) tt gl H (C3 n) n 49 Tryd.f49 [1, 1, 0, 1, 0, 0, 1, 1, 0, 0, 1, 1, 1, 0] [m0] m1 ⟨mkT 56 0 [(0, .t (.sl (.nm 0)) v0), (4, .ptr 4 (.nm 0) []), (11, .t (.sl (.nm 0)) v11), (12, .t (.int .i64) v12), (13, .t (.int .i64) v13), (25, .t (.sl (.nm 0)) v25), (26, .t (.int .i64) v26), (27, .t (.int .i64) v27)], mkB 224 0 [(4, .var (.nm 0) (.t (.nm 0) w4))]⟩
theorem fixed_Check_l2_eq (n : Nat) (m0 : Nat) (m1 : Nat) (v0 : List FixedField) (v11 : List FixedField) (v12 : Int) (v13 : Int) (v25 : List FixedField) (v26 : Int) (v27 : Int) (w4 : FixedField) : fixed_Check_l2 n m0 (m1 + 1) v0 v11 v12 v13 v25 v26 v27 w4 = (bif (decide (v27 < v26)) then (bif (decide (0 ≤ v27) && decide (v27 < List.length v25)) then (bif (((List.getD v25 (Int.toNat v27) (FixedField.mk [] 0 0 0 0 false 0)).Name) == w4.Name) then (some 5) else (bif (decide (w4.At < (IntKind.wrap .i64 (((List.getD v25 (Int.toNat v27) (FixedField.mk [] 0 0 0 0 false 0)).At) + ((List.getD v25 (Int.toNat v27) (FixedField.mk [] 0 0 0 0 false 0)).Wide))))) then (bif (decide (((List.getD v25 (Int.toNat v27) (FixedField.mk [] 0 0 0 0 false 0)).At) < (IntKind.wrap .i64 (w4.At + w4.Wide)))) then (some 17) else (fixed_Check_l2 n m0 m1 v0 v11 v12 v13 v25 v26 (IntKind.wrap .i64 (v27 + 1)) w4)) else (fixed_Check_l2 n m0 m1 v0 v11 v12 v13 v25 v26 (IntKind.wrap .i64 (v27 + 1)) w4))) else none) else (fixed_Check_l0 n m0 v0 v11 v12 (IntKind.wrap .i64 (v13 + 1)))) := by kernel_rfl
theorem fixed_Check_l2_zero (n : Nat) (m0 : Nat) (v0 : List FixedField) (v11 : List FixedField) (v12 : Int) (v13 : Int) (v25 : List FixedField) (v26 : Int) (v27 : Int) (w4 : FixedField) : fixed_Check_l2 n m0 0 v0 v11 v12 v13 v25 v26 v27 w4 = none := by kernel_rfl
theorem fixed_Check_l2_fold (n : Nat) (m0 : Nat) (v0 : List FixedField) (v11 : List FixedField) (v12 : Int) (v13 : Int) (v25 : List FixedField) (w4 : FixedField) (hl : List.length v25 < 9223372036854775807) (m i : Nat) (hi : i ≤ List.length v25) (hm : List.length v25 - i < m) : fixed_Check_l2 n m0 m v0 v11 v12 v13 v25 (List.length v25 : Int) (i : Int) w4 = foldK (S := Unit) (fun i (a : FixedField) s K => (bif ((a.Name) == w4.Name) then (some 5) else (bif (decide (w4.At < (IntKind.wrap .i64 ((a.At) + (a.Wide))))) then (bif (decide ((a.At) < (IntKind.wrap .i64 (w4.At + w4.Wide)))) then (some 17) else (K ())) else (K ())))) (fun s => (fixed_Check_l0 n m0 v0 v11 v12 (IntKind.wrap .i64 (v13 + 1)))) (List.drop i v25) i () := range_loop v25 (FixedField.mk [] 0 0 0 0 false 0) hl (fun m (k : Int) (s : Unit) => fixed_Check_l2 n m0 m v0 v11 v12 v13 v25 (List.length v25 : Int) k w4) _ _ (fun m i s => (fixed_Check_l2_eq n m0 m v0 v11 v12 v13 v25 (List.length v25 : Int) (i : Int) w4).trans (by kernel_rfl)) m i hi hm ()
theorem fixed_Check_l0_eq (n : Nat) (m0 : Nat) (v0 : List FixedField) (v11 : List FixedField) (v12 : Int) (v13 : Int) : fixed_Check_l0 n (m0 + 1) v0 v11 v12 v13 = (bif (decide (v13 < v12)) then (bif (decide (0 ≤ v13) && decide (v13 < List.length v11)) then (Option.bind (fixed_one n (List.getD v11 (Int.toNat v13) (FixedField.mk [] 0 0 0 0 false 0))) fun r1 => (bif (!decide (r1 = 0)) then (some r1) else (bif (decide (0 ≤ v13) && decide (v13 ≤ (List.length v0))) then (fixed_Check_l2 n m0 n v0 v11 v12 v13 (List.take (Int.toNat v13) v0) (List.length (List.take (Int.toNat v13) v0) : Int) 0 (List.getD v11 (Int.toNat v13) (FixedField.mk [] 0 0 0 0 false 0))) else none))) else none) else (some 0)) := by kernel_rfl
theorem fixed_Check_l0_zero (n : Nat) (v0 : List FixedField) (v11 : List FixedField) (v12 : Int) (v13 : Int) : fixed_Check_l0 n 0 v0 v11 v12 v13 = none := by kernel_rfl
theorem fixed_Check_eq (n : Nat) (x0 : List FixedField) : fixed_Check n x0 = (bif (decide ((List.length x0 : Int) > 24)) then (some 2) else (fixed_Check_l0 n n x0 x0 (List.length x0 : Int) 0)) := by kernel_rfl
noncomputable def C4 (n : Nat) : Call2 E := more tt gl H (C3 n) n 49 Tryd.f49 [.t (.sl (.nm 0))] (C3 n)

/- clapperbridge/fixed.Wide -/
noncomputable def fixed_Wide (n : Nat) (x0 : List FixedField) : Option Int := F2 (E := E) tt gl H (C4 n) n 52 Tryd.f52 [.t (.sl (.nm 0))] (x0, ())
noncomputable def fixed_Wide_l0 (n : Nat) (m0 : Nat) (v3 : Int) (v6 : List FixedField) (v7 : Int) (v8 : Int) : Option Int := lp (E := E) (ps := [.t (.sl (.nm 0))]) tt gl H (C4 n) n 52 Tryd.f52 [1, 1, 0, 1, 0] [] m0 ⟨mkT 21 0 [(3, .t (.int .i64) v3), (6, .t (.sl (.nm 0)) v6), (7, .t (.int .i64) v7), (8, .t (.int .i64) v8)], mkB 84 0 []⟩
theorem fixed_Wide_l0_eq (n : Nat) (m0 : Nat) (v3 : Int) (v6 : List FixedField) (v7 : Int) (v8 : Int) : fixed_Wide_l0 n (m0 + 1) v3 v6 v7 v8 = (bif (decide (v8 < v7)) then (bif (decide (0 ≤ v8) && decide (v8 < List.length v6)) then (fixed_Wide_l0 n m0 (mxI v3 (IntKind.wrap .i64 (((List.getD v6 (Int.toNat v8) (FixedField.mk [] 0 0 0 0 false 0)).At) + ((List.getD v6 (Int.toNat v8) (FixedField.mk [] 0 0 0 0 false 0)).Wide)))) v6 v7 (IntKind.wrap .i64 (v8 + 1))) else none) else (some v3)) := by kernel_rfl
theorem fixed_Wide_l0_zero (n : Nat) (v3 : Int) (v6 : List FixedField) (v7 : Int) (v8 : Int) : fixed_Wide_l0 n 0 v3 v6 v7 v8 = none := by kernel_rfl
theorem fixed_Wide_l0_fold (n : Nat) (v6 : List FixedField) (v3 : Int) (hl : List.length v6 < 9223372036854775807) (m i : Nat) (hi : i ≤ List.length v6) (hm : List.length v6 - i < m) : fixed_Wide_l0 n m v3 v6 (List.length v6 : Int) (i : Int) = foldK (S := Int) (fun i (a : FixedField) s K => (K (mxI s (IntKind.wrap .i64 ((a.At) + (a.Wide)))))) (fun s => (some s)) (List.drop i v6) i (v3) := range_loop v6 (FixedField.mk [] 0 0 0 0 false 0) hl (fun m (k : Int) (s : Int) => fixed_Wide_l0 n m s v6 (List.length v6 : Int) k) _ _ (fun m i s => (fixed_Wide_l0_eq n m s v6 (List.length v6 : Int) (i : Int)).trans (by kernel_rfl)) m i hi hm (v3)
theorem fixed_Wide_eq (n : Nat) (x0 : List FixedField) : fixed_Wide n x0 = (fixed_Wide_l0 n n 0 x0 (List.length x0 : Int) 0) := by kernel_rfl
noncomputable def C5 (n : Nat) : Call2 E := more tt gl H (C4 n) n 52 Tryd.f52 [.t (.sl (.nm 0))] (C4 n)

/- math/bits.Mul64 -/
noncomputable def bits_Mul64 (n : Nat) (x0 : Int) (x1 : Int) : Option (Int × Int) := F2 (E := E) tt gl H (C5 n) n 160 Tryd.f160 [.t (.int .u64), .t (.int .u64)] (x0, x1, ())
theorem bits_Mul64_eq (n : Nat) (x0 : Int) (x1 : Int) : bits_Mul64 n x0 x1 = (bif (decide (0 ≤ 32)) then (bif (decide (0 ≤ 32)) then (bif (decide (0 ≤ 32)) then (bif (decide (0 ≤ 32)) then (bif (decide (0 ≤ 32)) then (some ((IntKind.wrap .u64 ((IntKind.wrap .u64 ((IntKind.wrap .u64 ((shr .u64 x0 32) * (shr .u64 x1 32))) + (shr .u64 (IntKind.wrap .u64 ((IntKind.wrap .u64 ((shr .u64 x0 32) * (Fv.bits .and .u64 x1 4294967295))) + (shr .u64 (IntKind.wrap .u64 ((Fv.bits .and .u64 x0 4294967295) * (Fv.bits .and .u64 x1 4294967295))) 32))) 32))) + (shr .u64 (IntKind.wrap .u64 ((Fv.bits .and .u64 (IntKind.wrap .u64 ((IntKind.wrap .u64 ((shr .u64 x0 32) * (Fv.bits .and .u64 x1 4294967295))) + (shr .u64 (IntKind.wrap .u64 ((Fv.bits .and .u64 x0 4294967295) * (Fv.bits .and .u64 x1 4294967295))) 32))) 4294967295) + (IntKind.wrap .u64 ((Fv.bits .and .u64 x0 4294967295) * (shr .u64 x1 32))))) 32))), (IntKind.wrap .u64 (x0 * x1)))) else none) else none) else none) else none) else none) := by kernel_rfl
noncomputable def C6 (n : Nat) : Call2 E := more tt gl H (C5 n) n 160 Tryd.f160 [.t (.int .u64), .t (.int .u64)] (C5 n)

/- math/bits.Mul -/
noncomputable def bits_Mul (n : Nat) (x0 : Int) (x1 : Int) : Option (Int × Int) := F2 (E := E) tt gl H (C6 n) n 129 Tryd.f129 [.t (.int .u64), .t (.int .u64)] (x0, x1, ())
theorem bits_Mul_eq (n : Nat) (x0 : Int) (x1 : Int) : bits_Mul n x0 x1 = (Option.bind (bits_Mul64 n x0 x1) fun r1 => (some (r1.1, r1.2))) := by kernel_rfl
noncomputable def C7 (n : Nat) : Call2 E := more tt gl H (C6 n) n 129 Tryd.f129 [.t (.int .u64), .t (.int .u64)] (C6 n)

/- slices.Repeat[[]byte,byte] -/
noncomputable def slices_Repeat_byte (n : Nat) (x0 : List Int) (x1 : Int) : Option (List Int) := F2 (E := E) tt gl H (C7 n) n 89 Tryd.f89 [.t (.sl (.int .u8)), .t (.int .i64)] (x0, x1, ())
noncomputable def slices_Repeat_byte_l0 (n : Nat) (m0 : Nat) (v7l : Nat) (v8 : Int) (w23 : List Int) : Option (List Int) := lp (E := E) (ps := [.t (.sl (.int .u8)), .t (.int .i64)]) tt gl H (C7 n) n 89 Tryd.f89 [1, 1, 1, 1, 1, 1, 0, 0] [] m0 ⟨mkT 48 0 [(7, .fs 23 (.int .u8) 0 v7l), (8, .t (.int .i64) v8)], mkB 192 0 [(23, .row (.int .u8) w23)]⟩
theorem slices_Repeat_byte_l0_eq (n : Nat) (m0 : Nat) (v7l : Nat) (v8 : Int) (w23 : List Int) : slices_Repeat_byte_l0 n (m0 + 1) v7l v8 w23 = (bif (decide (v8 < (v7l : Int))) then (bif (decide (0 ≤ v8) && decide (v8 ≤ (v7l : Int))) then (bif (decide (0 ≤ (0 : Int)) && decide ((0 : Int) ≤ v8) && decide ((0 : Int) + v8 ≤ List.length w23)) then (bif (decide ((0 + (Int.toNat v8)) + (v7l - (Int.toNat v8)) ≤ List.length w23)) then (slices_Repeat_byte_l0 n m0 v7l (IntKind.wrap .i64 (v8 + ((min (List.length (List.take ((Int.toNat v8) - (Int.toNat (0 : Int))) (List.drop (0 + (Int.toNat (0 : Int))) w23))) (v7l - (Int.toNat v8)) : Nat) : Int))) (over w23 (List.take (v7l - (Int.toNat v8)) (List.take ((Int.toNat v8) - (Int.toNat (0 : Int))) (List.drop (0 + (Int.toNat (0 : Int))) w23))) (0 + (Int.toNat v8)))) else none) else none) else none) else (bif (decide (v7l = List.length w23)) then (some w23) else none)) := by kernel_rfl
theorem slices_Repeat_byte_l0_zero (n : Nat) (v7l : Nat) (v8 : Int) (w23 : List Int) : slices_Repeat_byte_l0 n 0 v7l v8 w23 = none := by kernel_rfl
theorem slices_Repeat_byte_eq (n : Nat) (x0 : List Int) (x1 : Int) : slices_Repeat_byte n x0 x1 = (bif (decide (x1 < 0)) then none else (Option.bind (bits_Mul n (IntKind.wrap .u64 (List.length x0 : Int)) (IntKind.wrap .u64 x1)) fun r1 => (bif (decide (r1.1 > 0)) then none else (bif (decide (r1.2 > 9223372036854775807)) then none else (bif (decide (0 ≤ (IntKind.wrap .i64 r1.2)) && decide ((IntKind.wrap .i64 r1.2) ≤ (IntKind.wrap .i64 r1.2)) && decide ((IntKind.wrap .i64 r1.2) ≤ 4294967296)) then (bif (decide (0 + (Int.toNat (IntKind.wrap .i64 r1.2)) ≤ List.length (List.replicate (Int.toNat (IntKind.wrap .i64 r1.2)) (0 : Int)))) then (slices_Repeat_byte_l0 n n (Int.toNat (IntKind.wrap .i64 r1.2)) ((min (List.length x0) (Int.toNat (IntKind.wrap .i64 r1.2)) : Nat) : Int) (over (List.replicate (Int.toNat (IntKind.wrap .i64 r1.2)) (0 : Int)) (List.take (Int.toNat (IntKind.wrap .i64 r1.2)) x0) 0)) else none) else none))))) := by kernel_rfl
noncomputable def C8 (n : Nat) : Call2 E := more tt gl H (C7 n) n 89 Tryd.f89 [.t (.sl (.int .u8)), .t (.int .i64)] (C7 n)

/- clapperbridge/fixed.power -/
noncomputable def fixed_power (n : Nat) (x0 : Int) : Option Int := F2 (E := E) tt gl H (C8 n) n 130 Tryd.f130 [.t (.int .i64)] (x0, ())
noncomputable def fixed_power_l0 (n : Nat) (m0 : Nat) (v3 : Int) (v4 : Int) (v5 : Int) : Option Int := lp (E := E) (ps := [.t (.int .i64)]) tt gl H (C8 n) n 130 Tryd.f130 [1, 1, 0, 1, 0] [] m0 ⟨mkT 11 0 [(3, .t (.int .i64) v3), (4, .t (.int .i64) v4), (5, .t (.int .i64) v5)], mkB 44 0 []⟩
theorem fixed_power_l0_eq (n : Nat) (m0 : Nat) (v3 : Int) (v4 : Int) (v5 : Int) : fixed_power_l0 n (m0 + 1) v3 v4 v5 = (bif (decide (v5 < v4)) then (fixed_power_l0 n m0 (IntKind.wrap .i64 (v3 * 10)) v4 (IntKind.wrap .i64 (v5 + 1))) else (some v3)) := by kernel_rfl
theorem fixed_power_l0_zero (n : Nat) (v3 : Int) (v4 : Int) (v5 : Int) : fixed_power_l0 n 0 v3 v4 v5 = none := by kernel_rfl
theorem fixed_power_l0_fold (n : Nat) (N : Nat) (v3 : Int) (hl : N < 9223372036854775807) (m i : Nat) (hi : i ≤ N) (hm : N - i < m) : fixed_power_l0 n m v3 (N : Int) (i : Int) = foldN (S := Int) (fun i s K => (K (IntKind.wrap .i64 (s * 10)))) (fun s => (some s)) (N - i) i (v3) := count_loop N hl (fun m (k : Int) (s : Int) => fixed_power_l0 n m s (N : Int) k) _ _ (fun m i s => (fixed_power_l0_eq n m s (N : Int) (i : Int)).trans (by kernel_rfl)) m i hi hm (v3)
theorem fixed_power_eq (n : Nat) (x0 : Int) : fixed_power n x0 = (fixed_power_l0 n n 1 x0 0) := by kernel_rfl
noncomputable def C9 (n : Nat) : Call2 E := more tt gl H (C8 n) n 130 Tryd.f130 [.t (.int .i64)] (C8 n)

/- clapperbridge/fixed.fits -/
noncomputable def fixed_fits (n : Nat) (x0 : FixedField) (x1 : ApiValue) : Option Int := F2 (E := E) tt gl H (C9 n) n 90 Tryd.f90 [.t (.nm 0), .t (.nm 1)] (x0, x1, ())
theorem fixed_fits_eq (n : Nat) (x0 : FixedField) (x1 : ApiValue) : fixed_fits n x0 x1 = (bif (decide (x0.Kind = 0)) then (bif (!decide (x1.Kind = 5)) then (some 8) else (bif (decide ((List.length x1.S : Int) > x0.Wide)) then (some 2) else (bif (!(x1.S == [])) then (bif (decide (0 ≤ (IntKind.wrap .i64 ((List.length x1.S : Int) - 1))) && decide ((IntKind.wrap .i64 ((List.length x1.S : Int) - 1)) < List.length x1.S)) then (bif (decide (((UInt8.toNat (List.getD x1.S (Int.toNat (IntKind.wrap .i64 ((List.length x1.S : Int) - 1))) 0) : Nat) : Int) = x0.Pad)) then (some 18) else (some 0)) else none) else (some 0)))) else (Option.bind (fixed_Digits n x0) fun r1 => (Option.bind (fixed_power n r1) fun r2 => (bif (!decide (x1.Kind = 2)) then (some 8) else (bif (decide (x1.N ≥ r2)) then (some 11) else (bif (decide (x1.N ≤ (IntKind.wrap .i64 (0 - r2)))) then (some 11) else (bif (decide (x1.N < 0)) then (bif (!x0.Signed) then (some 11) else (some 0)) else (some 0)))))))) := by kernel_rfl
noncomputable def C10 (n : Nat) : Call2 E := more tt gl H (C9 n) n 90 Tryd.f90 [.t (.nm 0), .t (.nm 1)] (C9 n)
def lay68_ren : Go.Shelf.Ren := ⟨fun | 171 => 68 | 243 => 116 | 246 => 153 | 283 => 182 | 284 => 183 | 285 => 184 | 286 => 185 | 129 => 181 | 317 => 203 | 318 => 204 | 319 => 205 | 320 => 206 | 337 => 209 | 338 => 210 | n => n, fun | 3 => 3 | 9 => 9 | 2 => 2 | 4 => 4 | 171 => 218 | 0 => 0 | 53 => 154 | 37 => 56 | 5 => 5 | 173 => 220 | 212 => 239 | 51 => 200 | 20 => 20 | 213 => 240 | 46 => 174 | 232 => 247 | 233 => 248 | n => n, fun | 17 => 3 | 18 => 4 | 19 => 5 | n => n⟩
theorem lay68 : Go.Proofs.LaysM.n171 Tryd.prog lay68_ren := {
  mixed := by kernel_rfl
  f129 := Tryd.func181.trans (congrArg some (by kernel_rfl))
  f171 := Tryd.func68.trans (congrArg some (by kernel_rfl))
  f243 := Tryd.func116.trans (congrArg some (by kernel_rfl))
  f246 := Tryd.func153.trans (congrArg some (by kernel_rfl))
  f283 := Tryd.func182.trans (congrArg some (by kernel_rfl))
  f284 := Tryd.func183.trans (congrArg some (by kernel_rfl))
  f285 := Tryd.func184.trans (congrArg some (by kernel_rfl))
  f286 := Tryd.func185.trans (congrArg some (by kernel_rfl))
  f317 := Tryd.func203.trans (congrArg some (by kernel_rfl))
  f318 := Tryd.func204.trans (congrArg some (by kernel_rfl))
  f319 := Tryd.func205.trans (congrArg some (by kernel_rfl))
  f320 := Tryd.func206.trans (congrArg some (by kernel_rfl))
  f337 := Tryd.func209.trans (congrArg some (by kernel_rfl))
  f338 := Tryd.func210.trans (congrArg some (by kernel_rfl))
  t0 := Tryd.underlying0
  a0 := Tryd.isAgg0
  z0 := Tryd.sizeOf0
  v0 := Tryd.zeroValue0
  t2 := Tryd.underlying2
  a2 := Tryd.isAgg2
  z2 := Tryd.sizeOf2
  v2 := Tryd.zeroValue2
  t3 := Tryd.underlying3
  a3 := Tryd.isAgg3
  z3 := Tryd.sizeOf3
  v3 := Tryd.zeroValue3
  t4 := Tryd.underlying4
  a4 := Tryd.isAgg4
  z4 := Tryd.sizeOf4
  v4 := Tryd.zeroValue4
  t5 := Tryd.underlying5
  a5 := Tryd.isAgg5
  z5 := Tryd.sizeOf5
  v5 := Tryd.zeroValue5
  t9 := Tryd.underlying9
  a9 := Tryd.isAgg9
  z9 := Tryd.sizeOf9
  v9 := Tryd.zeroValue9
  t20 := Tryd.underlying20
  a20 := Tryd.isAgg20
  z20 := Tryd.sizeOf20
  v20 := Tryd.zeroValue20
  t37 := Tryd.underlying56
  a37 := Tryd.isAgg56
  z37 := Tryd.sizeOf56
  v37 := Tryd.zeroValue56
  t46 := Tryd.underlying174
  a46 := Tryd.isAgg174
  z46 := Tryd.sizeOf174
  v46 := Tryd.zeroValue174
  t51 := Tryd.underlying200
  a51 := Tryd.isAgg200
  z51 := Tryd.sizeOf200
  v51 := Tryd.zeroValue200
  t53 := Tryd.underlying154
  a53 := Tryd.isAgg154
  z53 := Tryd.sizeOf154
  v53 := Tryd.zeroValue154
  t171 := Tryd.underlying218
  a171 := Tryd.isAgg218
  z171 := Tryd.sizeOf218
  v171 := Tryd.zeroValue218
  t173 := Tryd.underlying220
  a173 := Tryd.isAgg220
  z173 := Tryd.sizeOf220
  v173 := Tryd.zeroValue220
  t212 := Tryd.underlying239
  a212 := Tryd.isAgg239
  z212 := Tryd.sizeOf239
  v212 := Tryd.zeroValue239
  t213 := Tryd.underlying240
  a213 := Tryd.isAgg240
  z213 := Tryd.sizeOf240
  t232 := Tryd.underlying247
  a232 := Tryd.isAgg247
  z232 := Tryd.sizeOf247
  v232 := Tryd.zeroValue247
  t233 := Tryd.underlying248
  a233 := Tryd.isAgg248
  z233 := Tryd.sizeOf248
  v233 := Tryd.zeroValue248
  g17 := by kernel_rfl
  g18 := by kernel_rfl
  g19 := by kernel_rfl
  i0 := by kernel_rfl
  i2 := by kernel_rfl
  i3 := by kernel_rfl
  i4 := by kernel_rfl
  i5 := by kernel_rfl
  i9 := by kernel_rfl
  i20 := by kernel_rfl
  i37 := by kernel_rfl
  i46 := by kernel_rfl
  i51 := by kernel_rfl
  i53 := by kernel_rfl
  i171 := by kernel_rfl
  i173 := by kernel_rfl
  i212 := by kernel_rfl
  i232 := by kernel_rfl
  i233 := by kernel_rfl
  m17 := by kernel_rfl
  m18 := by kernel_rfl
  m19 := by kernel_rfl }
theorem fnok68 : FnOK Tryd.prog 68 := ⟨Tryd.f68, _, Tryd.func68, by decide, rfl⟩
noncomputable def C11 (n : Nat) : Call2 E := moreP 68 [(.int .i64)] .str (fun x => itoaO x.1) (C10 n)
def lay92_ren : Go.Shelf.Ren := ⟨fun | 105 => 92 | 212 => 129 | 99 => 131 | 165 => 132 | 166 => 133 | 170 => 123 | 169 => 124 | 263 => 159 | 264 => 160 | 206 => 161 | 240 => 162 | 241 => 163 | 276 => 191 | 277 => 192 | n => n, fun | 9 => 9 | 3 => 3 | 4 => 4 | 20 => 20 | 0 => 0 | 46 => 174 | 109 => 175 | 5 => 5 | 72 => 169 | 76 => 137 | 51 => 200 | 146 => 201 | 53 => 154 | 148 => 203 | 70 => 167 | 37 => 56 | 75 => 136 | 127 => 197 | 164 => 226 | 80 => 172 | n => n, fun | n => n⟩
theorem lay92 : Go.Proofs.Lays.n105 Tryd.prog lay92_ren := {
  mixed := by kernel_rfl
  f99 := Tryd.func131.trans (congrArg some (by kernel_rfl))
  f105 := Tryd.func92.trans (congrArg some (by kernel_rfl))
  f165 := Tryd.func132.trans (congrArg some (by kernel_rfl))
  f166 := Tryd.func133.trans (congrArg some (by kernel_rfl))
  f169 := Tryd.func124.trans (congrArg some (by kernel_rfl))
  f170 := Tryd.func123.trans (congrArg some (by kernel_rfl))
  f206 := Tryd.func161.trans (congrArg some (by kernel_rfl))
  f212 := Tryd.func129.trans (congrArg some (by kernel_rfl))
  f240 := Tryd.func162.trans (congrArg some (by kernel_rfl))
  f241 := Tryd.func163.trans (congrArg some (by kernel_rfl))
  f263 := Tryd.func159.trans (congrArg some (by kernel_rfl))
  f264 := Tryd.func160.trans (congrArg some (by kernel_rfl))
  f276 := Tryd.func191.trans (congrArg some (by kernel_rfl))
  f277 := Tryd.func192.trans (congrArg some (by kernel_rfl))
  t0 := Tryd.underlying0
  a0 := Tryd.isAgg0
  z0 := Tryd.sizeOf0
  v0 := Tryd.zeroValue0
  t3 := Tryd.underlying3
  a3 := Tryd.isAgg3
  z3 := Tryd.sizeOf3
  v3 := Tryd.zeroValue3
  t4 := Tryd.underlying4
  a4 := Tryd.isAgg4
  z4 := Tryd.sizeOf4
  v4 := Tryd.zeroValue4
  t5 := Tryd.underlying5
  a5 := Tryd.isAgg5
  z5 := Tryd.sizeOf5
  v5 := Tryd.zeroValue5
  t9 := Tryd.underlying9
  a9 := Tryd.isAgg9
  z9 := Tryd.sizeOf9
  v9 := Tryd.zeroValue9
  t20 := Tryd.underlying20
  a20 := Tryd.isAgg20
  z20 := Tryd.sizeOf20
  v20 := Tryd.zeroValue20
  t37 := Tryd.underlying56
  a37 := Tryd.isAgg56
  z37 := Tryd.sizeOf56
  v37 := Tryd.zeroValue56
  t46 := Tryd.underlying174
  a46 := Tryd.isAgg174
  z46 := Tryd.sizeOf174
  v46 := Tryd.zeroValue174
  t51 := Tryd.underlying200
  a51 := Tryd.isAgg200
  z51 := Tryd.sizeOf200
  v51 := Tryd.zeroValue200
  t53 := Tryd.underlying154
  a53 := Tryd.isAgg154
  z53 := Tryd.sizeOf154
  v53 := Tryd.zeroValue154
  t70 := Tryd.underlying167
  a70 := Tryd.isAgg167
  z70 := Tryd.sizeOf167
  v70 := Tryd.zeroValue167
  t72 := Tryd.underlying169
  a72 := Tryd.isAgg169
  z72 := Tryd.sizeOf169
  v72 := Tryd.zeroValue169
  t75 := Tryd.underlying136
  a75 := Tryd.isAgg136
  z75 := Tryd.sizeOf136
  v75 := Tryd.zeroValue136
  t76 := Tryd.underlying137
  a76 := Tryd.isAgg137
  z76 := Tryd.sizeOf137
  v76 := Tryd.zeroValue137
  t109 := Tryd.underlying175
  a109 := Tryd.isAgg175
  z109 := Tryd.sizeOf175
  v109 := Tryd.zeroValue175
  t127 := Tryd.underlying197
  a127 := Tryd.isAgg197
  z127 := Tryd.sizeOf197
  v127 := Tryd.zeroValue197
  t146 := Tryd.underlying201
  a146 := Tryd.isAgg201
  z146 := Tryd.sizeOf201
  v146 := Tryd.zeroValue201
  t148 := Tryd.underlying203
  a148 := Tryd.isAgg203
  z148 := Tryd.sizeOf203
  v148 := Tryd.zeroValue203
  t164 := Tryd.underlying226
  a164 := Tryd.isAgg226
  z164 := Tryd.sizeOf226
  v164 := Tryd.zeroValue226 }
theorem ext92 : Go.Proofs.Builder.Extra Tryd.prog lay92_ren where
  sizeBuilder := by kernel_rfl
  liesBuilder := by kernel_rfl
  t5 := Tryd.underlying5
  a5 := Tryd.isAgg5
  z5 := Tryd.sizeOf5
  v5 := Tryd.zeroValue5
  infoByte := by kernel_rfl
  cellsByte := by kernel_rfl
  sizeByte := by kernel_rfl
  neB5 := by decide
theorem fnok92 : FnOK Tryd.prog 92 := ⟨Tryd.f92, _, Tryd.func92, by decide, rfl⟩
noncomputable def C12 (n : Nat) : Call2 E := moreP 92 [.str, (.int .i64)] .str (fun x => repO x.1 x.2.1) (C11 n)

/- clapperbridge/fixed.bytes -/
noncomputable def fixed_bytes (n : Nat) (x0 : FixedField) (x1 : ApiValue) : Option (List Int) := F2 (E := E) tt gl H (C12 n) n 91 Tryd.f91 [.t (.nm 0), .t (.nm 1)] (x0, x1, ())
noncomputable def fixed_bytes_l0 (n : Nat) (m0 : Nat) (v7 : List UInt8) (v8 : Int) (v10 : Int) (w25 : List Int) : Option (List Int) := lp (E := E) (ps := [.t (.nm 0), .t (.nm 1)]) tt gl H (C12 n) n 91 Tryd.f91 [1, 1, 1, 1, 1, 1, 1, 1, 1, 1, 0, 1, 0] [] m0 ⟨mkT 93 0 [(7, .t .str v7), (8, .t (.int .u8) v8), (9, .fs 25 (.int .u8) 0 (List.length w25)), (10, .t (.int .i64) v10)], mkB 372 0 [(25, .row (.int .u8) w25)]⟩
theorem fixed_bytes_l0_eq (n : Nat) (m0 : Nat) (v7 : List UInt8) (v8 : Int) (v10 : Int) (w25 : List Int) : fixed_bytes_l0 n (m0 + 1) v7 v8 v10 w25 = (bif (decide ((IntKind.wrap .i64 (v10 + 1)) < (List.length v7 : Int))) then (bif (decide (0 ≤ v10) && decide (v10 < List.length v7)) then (bif (decide (0 ≤ 4)) then (bif (decide (0 ≤ (IntKind.wrap .i64 (v10 + 1))) && decide ((IntKind.wrap .i64 (v10 + 1)) < List.length v7)) then (bif (decide ((List.length w25) = List.length w25) && decide (List.length w25 + List.length ([(Fv.bits .or .u8 (shl .u8 (IntKind.wrap .u8 (((UInt8.toNat (List.getD v7 (Int.toNat v10) 0) : Nat) : Int) - 48)) 4) (IntKind.wrap .u8 (((UInt8.toNat (List.getD v7 (Int.toNat (IntKind.wrap .i64 (v10 + 1))) 0) : Nat) : Int) - 48)))] : List Int) ≤ 4294967296)) then (fixed_bytes_l0 n m0 v7 v8 (IntKind.wrap .i64 (v10 + 2)) (w25 ++ [(Fv.bits .or .u8 (shl .u8 (IntKind.wrap .u8 (((UInt8.toNat (List.getD v7 (Int.toNat v10) 0) : Nat) : Int) - 48)) 4) (IntKind.wrap .u8 (((UInt8.toNat (List.getD v7 (Int.toNat (IntKind.wrap .i64 (v10 + 1))) 0) : Nat) : Int) - 48)))])) else none) else none) else none) else none) else (bif (decide (0 ≤ (IntKind.wrap .i64 ((List.length v7 : Int) - 1))) && decide ((IntKind.wrap .i64 ((List.length v7 : Int) - 1)) < List.length v7)) then (bif (decide (0 ≤ 4)) then (bif (decide ((List.length w25) = List.length w25) && decide (List.length w25 + List.length ([(Fv.bits .or .u8 (shl .u8 (IntKind.wrap .u8 (((UInt8.toNat (List.getD v7 (Int.toNat (IntKind.wrap .i64 ((List.length v7 : Int) - 1))) 0) : Nat) : Int) - 48)) 4) v8)] : List Int) ≤ 4294967296)) then (bif (decide ((List.length (w25 ++ [(Fv.bits .or .u8 (shl .u8 (IntKind.wrap .u8 (((UInt8.toNat (List.getD v7 (Int.toNat (IntKind.wrap .i64 ((List.length v7 : Int) - 1))) 0) : Nat) : Int) - 48)) 4) v8)])) = List.length (w25 ++ [(Fv.bits .or .u8 (shl .u8 (IntKind.wrap .u8 (((UInt8.toNat (List.getD v7 (Int.toNat (IntKind.wrap .i64 ((List.length v7 : Int) - 1))) 0) : Nat) : Int) - 48)) 4) v8)]))) then (some (w25 ++ [(Fv.bits .or .u8 (shl .u8 (IntKind.wrap .u8 (((UInt8.toNat (List.getD v7 (Int.toNat (IntKind.wrap .i64 ((List.length v7 : Int) - 1))) 0) : Nat) : Int) - 48)) 4) v8)])) else none) else none) else none) else none)) := by kernel_rfl
theorem fixed_bytes_l0_zero (n : Nat) (v7 : List UInt8) (v8 : Int) (v10 : Int) (w25 : List Int) : fixed_bytes_l0 n 0 v7 v8 v10 w25 = none := by kernel_rfl
theorem fixed_bytes_eq (n : Nat) (x0 : FixedField) (x1 : ApiValue) : fixed_bytes n x0 x1 = (bif (decide (x0.Kind = 0)) then (Option.bind (slices_Repeat_byte n [x0.Pad] (IntKind.wrap .i64 (x0.Wide - (List.length x1.S : Int)))) fun r1 => (bif (decide ((List.length (ints x1.S)) = List.length (ints x1.S)) && decide (List.length (ints x1.S) + List.length (List.take (List.length r1) r1) ≤ 4294967296)) then (bif (decide ((List.length ((ints x1.S) ++ (List.take (List.length r1) r1))) = List.length ((ints x1.S) ++ (List.take (List.length r1) r1)))) then (some ((ints x1.S) ++ (List.take (List.length r1) r1))) else none) else none)) else (bif (decide (x1.N < 0)) then (Option.bind (itoaO (mxI x1.N (IntKind.wrap .i64 (0 - x1.N)))) fun r2 => (Option.bind (fixed_Digits n x0) fun r3 => (Option.bind (repO ([48] : List UInt8) (IntKind.wrap .i64 (r3 - (List.length r2 : Int)))) fun r4 => (bif (decide (List.length r4 + List.length r2 ≤ 4294967296)) then (bif (decide (x0.Kind = 1)) then (bif x0.Signed then (bif (decide (List.length ([45] : List UInt8) + List.length (r4 ++ r2) ≤ 4294967296)) then (bif (decide ((List.length (ints (([45] : List UInt8) ++ (r4 ++ r2)))) = List.length (ints (([45] : List UInt8) ++ (r4 ++ r2))))) then (some (ints (([45] : List UInt8) ++ (r4 ++ r2)))) else none) else none) else (bif (decide ((List.length (ints (r4 ++ r2))) = List.length (ints (r4 ++ r2)))) then (some (ints (r4 ++ r2))) else none)) else (bif (decide (x1.N < 0)) then (fixed_bytes_l0 n n (r4 ++ r2) 13 0 []) else (fixed_bytes_l0 n n (r4 ++ r2) 12 0 []))) else none)))) else (Option.bind (itoaO (mxI x1.N (IntKind.wrap .i64 (0 - x1.N)))) fun r5 => (Option.bind (fixed_Digits n x0) fun r6 => (Option.bind (repO ([48] : List UInt8) (IntKind.wrap .i64 (r6 - (List.length r5 : Int)))) fun r7 => (bif (decide (List.length r7 + List.length r5 ≤ 4294967296)) then (bif (decide (x0.Kind = 1)) then (bif x0.Signed then (bif (decide (List.length ([43] : List UInt8) + List.length (r7 ++ r5) ≤ 4294967296)) then (bif (decide ((List.length (ints (([43] : List UInt8) ++ (r7 ++ r5)))) = List.length (ints (([43] : List UInt8) ++ (r7 ++ r5))))) then (some (ints (([43] : List UInt8) ++ (r7 ++ r5)))) else none) else none) else (bif (decide ((List.length (ints (r7 ++ r5))) = List.length (ints (r7 ++ r5)))) then (some (ints (r7 ++ r5))) else none)) else (bif (decide (x1.N < 0)) then (fixed_bytes_l0 n n (r7 ++ r5) 13 0 []) else (fixed_bytes_l0 n n (r7 ++ r5) 12 0 []))) else none)))))) := by kernel_rfl
noncomputable def C13 (n : Nat) : Call2 E := more tt gl H (C12 n) n 91 Tryd.f91 [.t (.nm 0), .t (.nm 1)] (C12 n)

/- clapperbridge/fixed.Write -/
noncomputable def fixed_Write (n : Nat) (x0 : List FixedField) (x1 : ApiValue) : Option (List Int × Int) := F2 (E := E) tt gl H (C13 n) n 30 Tryd.f30 [.t (.sl (.nm 0)), .t (.nm 1)] (x0, x1, ())
noncomputable def fixed_Write_l0 (n : Nat) (m0 : Nat) (v7l : Nat) (v31 : List FixedField) (v32 : Int) (v33 : Int) (w3 : ApiValue) (w23 : List Int) : Option (List Int × Int) := lp (E := E) (ps := [.t (.sl (.nm 0)), .t (.nm 1)]) tt gl H (C13 n) n 30 Tryd.f30 [1, 1, 1, 1, 0, 1, 0] [] m0 ⟨mkT 73 0 [(3, .ptr 3 (.nm 1) []), (7, .fs 23 (.int .u8) 0 v7l), (31, .t (.sl (.nm 0)) v31), (32, .t (.int .i64) v32), (33, .t (.int .i64) v33)], mkB 292 0 [(3, .var (.nm 1) (.t (.nm 1) w3)), (23, .row (.int .u8) w23)]⟩
theorem fixed_Write_l0_eq (n : Nat) (m0 : Nat) (v7l : Nat) (v31 : List FixedField) (v32 : Int) (v33 : Int) (w3 : ApiValue) (w23 : List Int) : fixed_Write_l0 n (m0 + 1) v7l v31 v32 v33 w3 w23 = (bif (decide (v33 < v32)) then (bif (decide (0 ≤ v33) && decide (v33 < List.length v31)) then (bif (decide (0 ≤ v33) && decide (v33 < List.length w3.Fields)) then (bif (!(((List.getD w3.Fields (Int.toNat v33) (ApiField.mk [] (ApiValue.mk 0 0 [] []))).Name) == ((List.getD v31 (Int.toNat v33) (FixedField.mk [] 0 0 0 0 false 0)).Name))) then (some ([], 15)) else (bif (decide (0 ≤ v33) && decide (v33 < List.length w3.Fields)) then (Option.bind (fixed_fits n (List.getD v31 (Int.toNat v33) (FixedField.mk [] 0 0 0 0 false 0)) ((List.getD w3.Fields (Int.toNat v33) (ApiField.mk [] (ApiValue.mk 0 0 [] []))).Val)) fun r4 => (bif (!decide (r4 = 0)) then (some ([], r4)) else (bif (decide (0 ≤ ((List.getD v31 (Int.toNat v33) (FixedField.mk [] 0 0 0 0 false 0)).At)) && decide (((List.getD v31 (Int.toNat v33) (FixedField.mk [] 0 0 0 0 false 0)).At) ≤ (v7l : Int))) then (bif (decide (0 ≤ v33) && decide (v33 < List.length w3.Fields)) then (Option.bind (fixed_bytes n (List.getD v31 (Int.toNat v33) (FixedField.mk [] 0 0 0 0 false 0)) ((List.getD w3.Fields (Int.toNat v33) (ApiField.mk [] (ApiValue.mk 0 0 [] []))).Val)) fun r5 => (bif (decide ((0 + (Int.toNat ((List.getD v31 (Int.toNat v33) (FixedField.mk [] 0 0 0 0 false 0)).At))) + (v7l - (Int.toNat ((List.getD v31 (Int.toNat v33) (FixedField.mk [] 0 0 0 0 false 0)).At))) ≤ List.length w23)) then (fixed_Write_l0 n m0 v7l v31 v32 (IntKind.wrap .i64 (v33 + 1)) w3 (over w23 (List.take (v7l - (Int.toNat ((List.getD v31 (Int.toNat v33) (FixedField.mk [] 0 0 0 0 false 0)).At))) (List.take (List.length r5) r5)) (0 + (Int.toNat ((List.getD v31 (Int.toNat v33) (FixedField.mk [] 0 0 0 0 false 0)).At))))) else none)) else none) else none))) else none)) else none) else none) else (bif ((decide (0 + v7l ≤ List.length w23)) && true) then (some ((List.take v7l w23), 0)) else none)) := by kernel_rfl
theorem fixed_Write_l0_zero (n : Nat) (v7l : Nat) (v31 : List FixedField) (v32 : Int) (v33 : Int) (w3 : ApiValue) (w23 : List Int) : fixed_Write_l0 n 0 v7l v31 v32 v33 w3 w23 = none := by kernel_rfl
theorem fixed_Write_l0_fold (n : Nat) (v7l : Nat) (v31 : List FixedField) (w3 : ApiValue) (w23 : List Int) (hl : List.length v31 < 9223372036854775807) (m i : Nat) (hi : i ≤ List.length v31) (hm : List.length v31 - i < m) : fixed_Write_l0 n m v7l v31 (List.length v31 : Int) (i : Int) w3 w23 = foldK (S := (List Int)) (fun i (a : FixedField) s K => (bif (decide (0 ≤ (i : Int)) && decide ((i : Int) < List.length w3.Fields)) then (bif (!(((List.getD w3.Fields (Int.toNat (i : Int)) (ApiField.mk [] (ApiValue.mk 0 0 [] []))).Name) == (a.Name))) then (some ([], 15)) else (bif (decide (0 ≤ (i : Int)) && decide ((i : Int) < List.length w3.Fields)) then (Option.bind (fixed_fits n a ((List.getD w3.Fields (Int.toNat (i : Int)) (ApiField.mk [] (ApiValue.mk 0 0 [] []))).Val)) fun r4 => (bif (!decide (r4 = 0)) then (some ([], r4)) else (bif (decide (0 ≤ (a.At)) && decide ((a.At) ≤ (v7l : Int))) then (bif (decide (0 ≤ (i : Int)) && decide ((i : Int) < List.length w3.Fields)) then (Option.bind (fixed_bytes n a ((List.getD w3.Fields (Int.toNat (i : Int)) (ApiField.mk [] (ApiValue.mk 0 0 [] []))).Val)) fun r5 => (bif (decide ((0 + (Int.toNat (a.At))) + (v7l - (Int.toNat (a.At))) ≤ List.length s)) then (K (over s (List.take (v7l - (Int.toNat (a.At))) (List.take (List.length r5) r5)) (0 + (Int.toNat (a.At))))) else none)) else none) else none))) else none)) else none)) (fun s => (bif ((decide (0 + v7l ≤ List.length s)) && true) then (some ((List.take v7l s), 0)) else none)) (List.drop i v31) i (w23) := range_loop v31 (FixedField.mk [] 0 0 0 0 false 0) hl (fun m (k : Int) (s : (List Int)) => fixed_Write_l0 n m v7l v31 (List.length v31 : Int) k w3 s) _ _ (fun m i s => (fixed_Write_l0_eq n m v7l v31 (List.length v31 : Int) (i : Int) w3 s).trans (by kernel_rfl)) m i hi hm (w23)
theorem fixed_Write_eq (n : Nat) (x0 : List FixedField) (x1 : ApiValue) : fixed_Write n x0 x1 = (Option.bind (fixed_Check n x0) fun r1 => (bif (!decide (r1 = 0)) then (some ([], r1)) else (bif (!decide (x1.Kind = 6)) then (some ([], 8)) else (bif (!decide ((List.length x1.Fields : Int) = (List.length x0 : Int))) then (some ([], 8)) else (Option.bind (fixed_Wide n x0) fun r2 => (Option.bind (slices_Repeat_byte n [32] r2) fun r3 => (fixed_Write_l0 n n (List.length r3) x0 (List.length x0 : Int) 0 x1 r3))))))) := by kernel_rfl
noncomputable def C14 (n : Nat) : Call2 E := more tt gl H (C13 n) n 30 Tryd.f30 [.t (.sl (.nm 0)), .t (.nm 1)] (C13 n)

/- clapperbridge/clapref2.Places -/
noncomputable def ref2_Places (n : Nat) (x0 : FixedField) : Option Int := F2 (E := E) tt gl H (C14 n) n 55 Tryd.f55 [.t (.nm 0)] (x0, ())
theorem ref2_Places_eq (n : Nat) (x0 : FixedField) : ref2_Places n x0 = (bif (decide (x0.Kind < 0)) then (some 0) else (bif (decide (x0.Kind > 2)) then (some 0) else (bif x0.Signed then (bif (decide (x0.Kind = 1)) then (bif (decide (0 ≤ x0.Kind) && decide (x0.Kind < List.length ([0, x0.Wide, (IntKind.wrap .i64 ((IntKind.wrap .i64 ((2 : Int) * x0.Wide)) - 1))] : List Int))) then (some (IntKind.wrap .i64 ((List.getD ([0, x0.Wide, (IntKind.wrap .i64 ((IntKind.wrap .i64 ((2 : Int) * x0.Wide)) - 1))] : List Int) (Int.toNat x0.Kind) (0 : Int)) - 1))) else none) else (bif (decide (0 ≤ x0.Kind) && decide (x0.Kind < List.length ([0, x0.Wide, (IntKind.wrap .i64 ((IntKind.wrap .i64 ((2 : Int) * x0.Wide)) - 1))] : List Int))) then (some (List.getD ([0, x0.Wide, (IntKind.wrap .i64 ((IntKind.wrap .i64 ((2 : Int) * x0.Wide)) - 1))] : List Int) (Int.toNat x0.Kind) (0 : Int))) else none)) else (bif (decide (0 ≤ x0.Kind) && decide (x0.Kind < List.length ([0, x0.Wide, (IntKind.wrap .i64 ((IntKind.wrap .i64 ((2 : Int) * x0.Wide)) - 1))] : List Int))) then (some (List.getD ([0, x0.Wide, (IntKind.wrap .i64 ((IntKind.wrap .i64 ((2 : Int) * x0.Wide)) - 1))] : List Int) (Int.toNat x0.Kind) (0 : Int))) else none)))) := by kernel_rfl
noncomputable def C15 (n : Nat) : Call2 E := more tt gl H (C14 n) n 55 Tryd.f55 [.t (.nm 0)] (C14 n)

/- clapperbridge/clapref2.FieldsErr -/
noncomputable def ref2_FieldsErr (n : Nat) (x0 : List FixedField) : Option Int := F2 (E := E) tt gl H (C15 n) n 31 Tryd.f31 [.t (.sl (.nm 0))] (x0, ())
noncomputable def ref2_FieldsErr_l0 (n : Nat) (m0 : Nat) (v0 : List FixedField) (v21 : List FixedField) (v22 : Int) (v23 : Int) (w19 : List (Int × Int)) (w20 : List ((List UInt8) × Int)) : Option Int := lp (E := E) (ps := [.t (.sl (.nm 0))]) tt gl H (C15 n) n 31 Tryd.f31 [1, 1, 1, 1, 0, 1, 0] [] m0 ⟨mkT 181 0 [(0, .t (.sl (.nm 0)) v0), (3, .mp 19 (.int .i64) (.int .i64)), (4, .mp 20 .str (.int .i64)), (21, .t (.sl (.nm 0)) v21), (22, .t (.int .i64) v22), (23, .t (.int .i64) v23)], mkB 724 0 [(19, .mp (.int .i64) (.int .i64) w19), (20, .mp .str (.int .i64) w20)]⟩
noncomputable def ref2_FieldsErr_l3 (n : Nat) (m0 : Nat) (m1 : Nat) (v0 : List FixedField) (v5 : Int) (v8 : Int) (v9 : Int) (v12 : Int) (v21 : List FixedField) (v22 : Int) (v23 : Int) (w6 : FixedField) (w19 : List (Int × Int)) (w20 : List ((List UInt8) × Int)) : Option Int := lp (E := E) (ps := [.t (.sl (.nm 0))]) tt gl H (C15 n) n 31 Tryd.f31 [1, 1, 1, 1, 0, 1, 0, 0, 1, 1, 0, 0, 1, 1, 1, 1, 1, 0, 1, 0] [m0] m1 ⟨mkT 181 0 [(0, .t (.sl (.nm 0)) v0), (3, .mp 19 (.int .i64) (.int .i64)), (4, .mp 20 .str (.int .i64)), (5, .t (.int .i64) v5), (6, .ptr 6 (.nm 0) []), (8, .t (.int .i64) v8), (9, .t (.int .i64) v9), (12, .t (.int .i64) v12), (21, .t (.sl (.nm 0)) v21), (22, .t (.int .i64) v22), (23, .t (.int .i64) v23)], mkB 724 0 [(6, .var (.nm 0) (.t (.nm 0) w6)), (19, .mp (.int .i64) (.int .i64) w19), (20, .mp .str (.int .i64) w20)]⟩
noncomputable def ref2_FieldsErr_l5 (n : Nat) (m0 : Nat) (m1 : Nat) (v0 : List FixedField) (v5 : Int) (v15 : Int) (v21 : List FixedField) (v22 : Int) (v23 : Int) (w6 : FixedField) (w19 : List (Int × Int)) (w20 : List ((List UInt8) × Int)) : Option Int := lp (E := E) (ps := [.t (.sl (.nm 0))]) tt gl H (C15 n) n 31 Tryd.f31 [1, 1, 1, 1, 0, 1, 0, 0, 1, 1, 0, 0, 1, 1, 1, 1, 1, 1, 1, 1, 1, 1, 0] [m0] m1 ⟨mkT 181 0 [(0, .t (.sl (.nm 0)) v0), (3, .mp 19 (.int .i64) (.int .i64)), (4, .mp 20 .str (.int .i64)), (5, .t (.int .i64) v5), (6, .ptr 6 (.nm 0) []), (15, .t (.int .i64) v15), (21, .t (.sl (.nm 0)) v21), (22, .t (.int .i64) v22), (23, .t (.int .i64) v23)], mkB 724 0 [(6, .var (.nm 0) (.t (.nm 0) w6)), (19, .mp (.int .i64) (.int .i64) w19), (20, .mp .str (.int .i64) w20)]⟩
theorem ref2_FieldsErr_l5_eq (n : Nat) (m0 : Nat) (m1 : Nat) (v0 : List FixedField) (v5 : Int) (v15 : Int) (v21 : List FixedField) (v22 : Int) (v23 : Int) (w6 : FixedField) (w19 : List (Int × Int)) (w20 : List ((List UInt8) × Int)) : ref2_FieldsErr_l5 n m0 (m1 + 1) v0 v5 v15 v21 v22 v23 w6 w19 w20 = (bif (decide (v15 < (IntKind.wrap .i64 (w6.At + w6.Wide)))) then (ref2_FieldsErr_l5 n m0 m1 v0 v5 (IntKind.wrap .i64 (v15 + 1)) v21 v22 v23 w6 (mset E (.int .i64) (.int .i64) v15 v5 w19) w20) else (ref2_FieldsErr_l0 n m0 v0 v21 v22 (IntKind.wrap .i64 (v23 + 1)) w19 w20)) := by kernel_rfl
theorem ref2_FieldsErr_l5_zero (n : Nat) (m0 : Nat) (v0 : List FixedField) (v5 : Int) (v15 : Int) (v21 : List FixedField) (v22 : Int) (v23 : Int) (w6 : FixedField) (w19 : List (Int × Int)) (w20 : List ((List UInt8) × Int)) : ref2_FieldsErr_l5 n m0 0 v0 v5 v15 v21 v22 v23 w6 w19 w20 = none := by kernel_rfl
theorem ref2_FieldsErr_l3_eq (n : Nat) (m0 : Nat) (m1 : Nat) (v0 : List FixedField) (v5 : Int) (v8 : Int) (v9 : Int) (v12 : Int) (v21 : List FixedField) (v22 : Int) (v23 : Int) (w6 : FixedField) (w19 : List (Int × Int)) (w20 : List ((List UInt8) × Int)) : ref2_FieldsErr_l3 n m0 (m1 + 1) v0 v5 v8 v9 v12 v21 v22 v23 w6 w19 w20 = (bif (decide (v12 < (IntKind.wrap .i64 (w6.At + w6.Wide)))) then (bif (Option.isSome (mget E (.int .i64) (.int .i64) w19 v12)) then (ref2_FieldsErr_l3 n m0 m1 v0 v5 v8 (mnI v9 (mgetD E (.int .i64) (.int .i64) w19 v12)) (IntKind.wrap .i64 (v12 + 1)) v21 v22 v23 w6 w19 w20) else (ref2_FieldsErr_l3 n m0 m1 v0 v5 v8 v9 (IntKind.wrap .i64 (v12 + 1)) v21 v22 v23 w6 w19 w20)) else (bif (decide (v8 < (List.length v0 : Int))) then (bif (decide (v8 ≤ v9)) then (some 5) else (bif (decide (v9 < (List.length v0 : Int))) then (some 17) else (ref2_FieldsErr_l5 n m0 n v0 v5 w6.At v21 v22 v23 w6 w19 (mset E .str (.int .i64) w6.Name v5 w20)))) else (bif (decide (v9 < (List.length v0 : Int))) then (some 17) else (ref2_FieldsErr_l5 n m0 n v0 v5 w6.At v21 v22 v23 w6 w19 (mset E .str (.int .i64) w6.Name v5 w20))))) := by kernel_rfl
theorem ref2_FieldsErr_l3_zero (n : Nat) (m0 : Nat) (v0 : List FixedField) (v5 : Int) (v8 : Int) (v9 : Int) (v12 : Int) (v21 : List FixedField) (v22 : Int) (v23 : Int) (w6 : FixedField) (w19 : List (Int × Int)) (w20 : List ((List UInt8) × Int)) : ref2_FieldsErr_l3 n m0 0 v0 v5 v8 v9 v12 v21 v22 v23 w6 w19 w20 = none := by kernel_rfl
theorem ref2_FieldsErr_l0_eq (n : Nat) (m0 : Nat) (v0 : List FixedField) (v21 : List FixedField) (v22 : Int) (v23 : Int) (w19 : List (Int × Int)) (w20 : List ((List UInt8) × Int)) : ref2_FieldsErr_l0 n (m0 + 1) v0 v21 v22 v23 w19 w20 = (bif (decide (v23 < v22)) then (bif (decide (0 ≤ v23) && decide (v23 < List.length v21)) then (Option.bind (value_Name n ((List.getD v21 (Int.toNat v23) (FixedField.mk [] 0 0 0 0 false 0)).Name)) fun r1 => (bif (!r1) then (some 15) else (bif (decide (((List.getD v21 (Int.toNat v23) (FixedField.mk [] 0 0 0 0 false 0)).Kind) < 0)) then (some 8) else (bif (decide (((List.getD v21 (Int.toNat v23) (FixedField.mk [] 0 0 0 0 false 0)).Kind) > 2)) then (some 8) else (bif (decide (((List.getD v21 (Int.toNat v23) (FixedField.mk [] 0 0 0 0 false 0)).At) < 0)) then (some 11) else (bif (decide (((List.getD v21 (Int.toNat v23) (FixedField.mk [] 0 0 0 0 false 0)).At) > 400)) then (some 11) else (bif (decide (((List.getD v21 (Int.toNat v23) (FixedField.mk [] 0 0 0 0 false 0)).Wide) < 1)) then (some 11) else (bif (decide (((List.getD v21 (Int.toNat v23) (FixedField.mk [] 0 0 0 0 false 0)).Wide) > 400)) then (some 11) else (bif (decide ((IntKind.wrap .i64 (((List.getD v21 (Int.toNat v23) (FixedField.mk [] 0 0 0 0 false 0)).At) + ((List.getD v21 (Int.toNat v23) (FixedField.mk [] 0 0 0 0 false 0)).Wide))) > 400)) then (some 11) else (bif (decide (((List.getD v21 (Int.toNat v23) (FixedField.mk [] 0 0 0 0 false 0)).Kind) = 0)) then (bif (List.getD v21 (Int.toNat v23) (FixedField.mk [] 0 0 0 0 false 0)).Signed then (some 3) else (bif (!decide (((List.getD v21 (Int.toNat v23) (FixedField.mk [] 0 0 0 0 false 0)).Scale) = 0)) then (bif (!decide (((List.getD v21 (Int.toNat v23) (FixedField.mk [] 0 0 0 0 false 0)).Scale) = 0)) then (some 3) else (bif (!(decide (((List.getD v21 (Int.toNat v23) (FixedField.mk [] 0 0 0 0 false 0)).Kind) = 0))) then (Option.bind (ref2_Places n (List.getD v21 (Int.toNat v23) (FixedField.mk [] 0 0 0 0 false 0))) fun r2 => (bif (decide (r2 < 1)) then (some 11) else (Option.bind (ref2_Places n (List.getD v21 (Int.toNat v23) (FixedField.mk [] 0 0 0 0 false 0))) fun r3 => (bif (decide (r3 > 15)) then (some 11) else (bif (decide (((List.getD v21 (Int.toNat v23) (FixedField.mk [] 0 0 0 0 false 0)).Scale) < 0)) then (some 11) else (Option.bind (ref2_Places n (List.getD v21 (Int.toNat v23) (FixedField.mk [] 0 0 0 0 false 0))) fun r4 => (bif (decide (((List.getD v21 (Int.toNat v23) (FixedField.mk [] 0 0 0 0 false 0)).Scale) > r4)) then (some 11) else (bif (Option.isSome (mget E .str (.int .i64) w20 ((List.getD v21 (Int.toNat v23) (FixedField.mk [] 0 0 0 0 false 0)).Name))) then (ref2_FieldsErr_l3 n m0 n v0 v23 (mgetD E .str (.int .i64) w20 ((List.getD v21 (Int.toNat v23) (FixedField.mk [] 0 0 0 0 false 0)).Name)) (List.length v0 : Int) ((List.getD v21 (Int.toNat v23) (FixedField.mk [] 0 0 0 0 false 0)).At) v21 v22 v23 (List.getD v21 (Int.toNat v23) (FixedField.mk [] 0 0 0 0 false 0)) w19 w20) else (ref2_FieldsErr_l3 n m0 n v0 v23 (List.length v0 : Int) (List.length v0 : Int) ((List.getD v21 (Int.toNat v23) (FixedField.mk [] 0 0 0 0 false 0)).At) v21 v22 v23 (List.getD v21 (Int.toNat v23) (FixedField.mk [] 0 0 0 0 false 0)) w19 w20))))))))) else (bif (Option.isSome (mget E .str (.int .i64) w20 ((List.getD v21 (Int.toNat v23) (FixedField.mk [] 0 0 0 0 false 0)).Name))) then (ref2_FieldsErr_l3 n m0 n v0 v23 (mgetD E .str (.int .i64) w20 ((List.getD v21 (Int.toNat v23) (FixedField.mk [] 0 0 0 0 false 0)).Name)) (List.length v0 : Int) ((List.getD v21 (Int.toNat v23) (FixedField.mk [] 0 0 0 0 false 0)).At) v21 v22 v23 (List.getD v21 (Int.toNat v23) (FixedField.mk [] 0 0 0 0 false 0)) w19 w20) else (ref2_FieldsErr_l3 n m0 n v0 v23 (List.length v0 : Int) (List.length v0 : Int) ((List.getD v21 (Int.toNat v23) (FixedField.mk [] 0 0 0 0 false 0)).At) v21 v22 v23 (List.getD v21 (Int.toNat v23) (FixedField.mk [] 0 0 0 0 false 0)) w19 w20)))) else (bif (!(decide (((List.getD v21 (Int.toNat v23) (FixedField.mk [] 0 0 0 0 false 0)).Kind) = 0))) then (bif (!decide (((List.getD v21 (Int.toNat v23) (FixedField.mk [] 0 0 0 0 false 0)).Pad) = 0)) then (some 3) else (bif (!(decide (((List.getD v21 (Int.toNat v23) (FixedField.mk [] 0 0 0 0 false 0)).Kind) = 0))) then (Option.bind (ref2_Places n (List.getD v21 (Int.toNat v23) (FixedField.mk [] 0 0 0 0 false 0))) fun r5 => (bif (decide (r5 < 1)) then (some 11) else (Option.bind (ref2_Places n (List.getD v21 (Int.toNat v23) (FixedField.mk [] 0 0 0 0 false 0))) fun r6 => (bif (decide (r6 > 15)) then (some 11) else (bif (decide (((List.getD v21 (Int.toNat v23) (FixedField.mk [] 0 0 0 0 false 0)).Scale) < 0)) then (some 11) else (Option.bind (ref2_Places n (List.getD v21 (Int.toNat v23) (FixedField.mk [] 0 0 0 0 false 0))) fun r7 => (bif (decide (((List.getD v21 (Int.toNat v23) (FixedField.mk [] 0 0 0 0 false 0)).Scale) > r7)) then (some 11) else (bif (Option.isSome (mget E .str (.int .i64) w20 ((List.getD v21 (Int.toNat v23) (FixedField.mk [] 0 0 0 0 false 0)).Name))) then (ref2_FieldsErr_l3 n m0 n v0 v23 (mgetD E .str (.int .i64) w20 ((List.getD v21 (Int.toNat v23) (FixedField.mk [] 0 0 0 0 false 0)).Name)) (List.length v0 : Int) ((List.getD v21 (Int.toNat v23) (FixedField.mk [] 0 0 0 0 false 0)).At) v21 v22 v23 (List.getD v21 (Int.toNat v23) (FixedField.mk [] 0 0 0 0 false 0)) w19 w20) else (ref2_FieldsErr_l3 n m0 n v0 v23 (List.length v0 : Int) (List.length v0 : Int) ((List.getD v21 (Int.toNat v23) (FixedField.mk [] 0 0 0 0 false 0)).At) v21 v22 v23 (List.getD v21 (Int.toNat v23) (FixedField.mk [] 0 0 0 0 false 0)) w19 w20))))))))) else (bif (Option.isSome (mget E .str (.int .i64) w20 ((List.getD v21 (Int.toNat v23) (FixedField.mk [] 0 0 0 0 false 0)).Name))) then (ref2_FieldsErr_l3 n m0 n v0 v23 (mgetD E .str (.int .i64) w20 ((List.getD v21 (Int.toNat v23) (FixedField.mk [] 0 0 0 0 false 0)).Name)) (List.length v0 : Int) ((List.getD v21 (Int.toNat v23) (FixedField.mk [] 0 0 0 0 false 0)).At) v21 v22 v23 (List.getD v21 (Int.toNat v23) (FixedField.mk [] 0 0 0 0 false 0)) w19 w20) else (ref2_FieldsErr_l3 n m0 n v0 v23 (List.length v0 : Int) (List.length v0 : Int) ((List.getD v21 (Int.toNat v23) (FixedField.mk [] 0 0 0 0 false 0)).At) v21 v22 v23 (List.getD v21 (Int.toNat v23) (FixedField.mk [] 0 0 0 0 false 0)) w19 w20)))) else (bif (!(decide (((List.getD v21 (Int.toNat v23) (FixedField.mk [] 0 0 0 0 false 0)).Kind) = 0))) then (Option.bind (ref2_Places n (List.getD v21 (Int.toNat v23) (FixedField.mk [] 0 0 0 0 false 0))) fun r8 => (bif (decide (r8 < 1)) then (some 11) else (Option.bind (ref2_Places n (List.getD v21 (Int.toNat v23) (FixedField.mk [] 0 0 0 0 false 0))) fun r9 => (bif (decide (r9 > 15)) then (some 11) else (bif (decide (((List.getD v21 (Int.toNat v23) (FixedField.mk [] 0 0 0 0 false 0)).Scale) < 0)) then (some 11) else (Option.bind (ref2_Places n (List.getD v21 (Int.toNat v23) (FixedField.mk [] 0 0 0 0 false 0))) fun r10 => (bif (decide (((List.getD v21 (Int.toNat v23) (FixedField.mk [] 0 0 0 0 false 0)).Scale) > r10)) then (some 11) else (bif (Option.isSome (mget E .str (.int .i64) w20 ((List.getD v21 (Int.toNat v23) (FixedField.mk [] 0 0 0 0 false 0)).Name))) then (ref2_FieldsErr_l3 n m0 n v0 v23 (mgetD E .str (.int .i64) w20 ((List.getD v21 (Int.toNat v23) (FixedField.mk [] 0 0 0 0 false 0)).Name)) (List.length v0 : Int) ((List.getD v21 (Int.toNat v23) (FixedField.mk [] 0 0 0 0 false 0)).At) v21 v22 v23 (List.getD v21 (Int.toNat v23) (FixedField.mk [] 0 0 0 0 false 0)) w19 w20) else (ref2_FieldsErr_l3 n m0 n v0 v23 (List.length v0 : Int) (List.length v0 : Int) ((List.getD v21 (Int.toNat v23) (FixedField.mk [] 0 0 0 0 false 0)).At) v21 v22 v23 (List.getD v21 (Int.toNat v23) (FixedField.mk [] 0 0 0 0 false 0)) w19 w20))))))))) else (bif (Option.isSome (mget E .str (.int .i64) w20 ((List.getD v21 (Int.toNat v23) (FixedField.mk [] 0 0 0 0 false 0)).Name))) then (ref2_FieldsErr_l3 n m0 n v0 v23 (mgetD E .str (.int .i64) w20 ((List.getD v21 (Int.toNat v23) (FixedField.mk [] 0 0 0 0 false 0)).Name)) (List.length v0 : Int) ((List.getD v21 (Int.toNat v23) (FixedField.mk [] 0 0 0 0 false 0)).At) v21 v22 v23 (List.getD v21 (Int.toNat v23) (FixedField.mk [] 0 0 0 0 false 0)) w19 w20) else (ref2_FieldsErr_l3 n m0 n v0 v23 (List.length v0 : Int) (List.length v0 : Int) ((List.getD v21 (Int.toNat v23) (FixedField.mk [] 0 0 0 0 false 0)).At) v21 v22 v23 (List.getD v21 (Int.toNat v23) (FixedField.mk [] 0 0 0 0 false 0)) w19 w20)))))) else (bif (!(decide (((List.getD v21 (Int.toNat v23) (FixedField.mk [] 0 0 0 0 false 0)).Kind) = 0))) then (bif (!decide (((List.getD v21 (Int.toNat v23) (FixedField.mk [] 0 0 0 0 false 0)).Pad) = 0)) then (some 3) else (bif (!(decide (((List.getD v21 (Int.toNat v23) (FixedField.mk [] 0 0 0 0 false 0)).Kind) = 0))) then (Option.bind (ref2_Places n (List.getD v21 (Int.toNat v23) (FixedField.mk [] 0 0 0 0 false 0))) fun r11 => (bif (decide (r11 < 1)) then (some 11) else (Option.bind (ref2_Places n (List.getD v21 (Int.toNat v23) (FixedField.mk [] 0 0 0 0 false 0))) fun r12 => (bif (decide (r12 > 15)) then (some 11) else (bif (decide (((List.getD v21 (Int.toNat v23) (FixedField.mk [] 0 0 0 0 false 0)).Scale) < 0)) then (some 11) else (Option.bind (ref2_Places n (List.getD v21 (Int.toNat v23) (FixedField.mk [] 0 0 0 0 false 0))) fun r13 => (bif (decide (((List.getD v21 (Int.toNat v23) (FixedField.mk [] 0 0 0 0 false 0)).Scale) > r13)) then (some 11) else (bif (Option.isSome (mget E .str (.int .i64) w20 ((List.getD v21 (Int.toNat v23) (FixedField.mk [] 0 0 0 0 false 0)).Name))) then (ref2_FieldsErr_l3 n m0 n v0 v23 (mgetD E .str (.int .i64) w20 ((List.getD v21 (Int.toNat v23) (FixedField.mk [] 0 0 0 0 false 0)).Name)) (List.length v0 : Int) ((List.getD v21 (Int.toNat v23) (FixedField.mk [] 0 0 0 0 false 0)).At) v21 v22 v23 (List.getD v21 (Int.toNat v23) (FixedField.mk [] 0 0 0 0 false 0)) w19 w20) else (ref2_FieldsErr_l3 n m0 n v0 v23 (List.length v0 : Int) (List.length v0 : Int) ((List.getD v21 (Int.toNat v23) (FixedField.mk [] 0 0 0 0 false 0)).At) v21 v22 v23 (List.getD v21 (Int.toNat v23) (FixedField.mk [] 0 0 0 0 false 0)) w19 w20))))))))) else (bif (Option.isSome (mget E .str (.int .i64) w20 ((List.getD v21 (Int.toNat v23) (FixedField.mk [] 0 0 0 0 false 0)).Name))) then (ref2_FieldsErr_l3 n m0 n v0 v23 (mgetD E .str (.int .i64) w20 ((List.getD v21 (Int.toNat v23) (FixedField.mk [] 0 0 0 0 false 0)).Name)) (List.length v0 : Int) ((List.getD v21 (Int.toNat v23) (FixedField.mk [] 0 0 0 0 false 0)).At) v21 v22 v23 (List.getD v21 (Int.toNat v23) (FixedField.mk [] 0 0 0 0 false 0)) w19 w20) else (ref2_FieldsErr_l3 n m0 n v0 v23 (List.length v0 : Int) (List.length v0 : Int) ((List.getD v21 (Int.toNat v23) (FixedField.mk [] 0 0 0 0 false 0)).At) v21 v22 v23 (List.getD v21 (Int.toNat v23) (FixedField.mk [] 0 0 0 0 false 0)) w19 w20)))) else (bif (!(decide (((List.getD v21 (Int.toNat v23) (FixedField.mk [] 0 0 0 0 false 0)).Kind) = 0))) then (Option.bind (ref2_Places n (List.getD v21 (Int.toNat v23) (FixedField.mk [] 0 0 0 0 false 0))) fun r14 => (bif (decide (r14 < 1)) then (some 11) else (Option.bind (ref2_Places n (List.getD v21 (Int.toNat v23) (FixedField.mk [] 0 0 0 0 false 0))) fun r15 => (bif (decide (r15 > 15)) then (some 11) else (bif (decide (((List.getD v21 (Int.toNat v23) (FixedField.mk [] 0 0 0 0 false 0)).Scale) < 0)) then (some 11) else (Option.bind (ref2_Places n (List.getD v21 (Int.toNat v23) (FixedField.mk [] 0 0 0 0 false 0))) fun r16 => (bif (decide (((List.getD v21 (Int.toNat v23) (FixedField.mk [] 0 0 0 0 false 0)).Scale) > r16)) then (some 11) else (bif (Option.isSome (mget E .str (.int .i64) w20 ((List.getD v21 (Int.toNat v23) (FixedField.mk [] 0 0 0 0 false 0)).Name))) then (ref2_FieldsErr_l3 n m0 n v0 v23 (mgetD E .str (.int .i64) w20 ((List.getD v21 (Int.toNat v23) (FixedField.mk [] 0 0 0 0 false 0)).Name)) (List.length v0 : Int) ((List.getD v21 (Int.toNat v23) (FixedField.mk [] 0 0 0 0 false 0)).At) v21 v22 v23 (List.getD v21 (Int.toNat v23) (FixedField.mk [] 0 0 0 0 false 0)) w19 w20) else (ref2_FieldsErr_l3 n m0 n v0 v23 (List.length v0 : Int) (List.length v0 : Int) ((List.getD v21 (Int.toNat v23) (FixedField.mk [] 0 0 0 0 false 0)).At) v21 v22 v23 (List.getD v21 (Int.toNat v23) (FixedField.mk [] 0 0 0 0 false 0)) w19 w20))))))))) else (bif (Option.isSome (mget E .str (.int .i64) w20 ((List.getD v21 (Int.toNat v23) (FixedField.mk [] 0 0 0 0 false 0)).Name))) then (ref2_FieldsErr_l3 n m0 n v0 v23 (mgetD E .str (.int .i64) w20 ((List.getD v21 (Int.toNat v23) (FixedField.mk [] 0 0 0 0 false 0)).Name)) (List.length v0 : Int) ((List.getD v21 (Int.toNat v23) (FixedField.mk [] 0 0 0 0 false 0)).At) v21 v22 v23 (List.getD v21 (Int.toNat v23) (FixedField.mk [] 0 0 0 0 false 0)) w19 w20) else (ref2_FieldsErr_l3 n m0 n v0 v23 (List.length v0 : Int) (List.length v0 : Int) ((List.getD v21 (Int.toNat v23) (FixedField.mk [] 0 0 0 0 false 0)).At) v21 v22 v23 (List.getD v21 (Int.toNat v23) (FixedField.mk [] 0 0 0 0 false 0)) w19 w20)))))))))))))) else none) else (some 0)) := by kernel_rfl
theorem ref2_FieldsErr_l0_zero (n : Nat) (v0 : List FixedField) (v21 : List FixedField) (v22 : Int) (v23 : Int) (w19 : List (Int × Int)) (w20 : List ((List UInt8) × Int)) : ref2_FieldsErr_l0 n 0 v0 v21 v22 v23 w19 w20 = none := by kernel_rfl
theorem ref2_FieldsErr_eq (n : Nat) (x0 : List FixedField) : ref2_FieldsErr n x0 = (bif (decide ((List.length x0 : Int) > 24)) then (some 2) else (ref2_FieldsErr_l0 n n x0 x0 (List.length x0 : Int) 0 [] [])) := by kernel_rfl
noncomputable def C16 (n : Nat) : Call2 E := more tt gl H (C15 n) n 31 Tryd.f31 [.t (.sl (.nm 0))] (C15 n)
/-! strconv.FormatUint at base 10. -/
section
open Go.Shelf Go.RowKit Go.Sort Go.Lib
def und151_ren : Go.Shelf.Ren := ⟨fun | 284 => 183 | 129 => 181 | 317 => 203 | 318 => 204 | n => n, fun | 53 => 154 | 3 => 3 | 212 => 239 | 0 => 0 | 4 => 4 | 46 => 174 | 5 => 5 | 9 => 9 | n => n, fun | 17 => 3 | n => n⟩
theorem und151 : Go.Proofs.LaysM.n284 Tryd.prog und151_ren := {
  mixed := by kernel_rfl
  f129 := Tryd.func181.trans (congrArg some (by kernel_rfl))
  f284 := Tryd.func183.trans (congrArg some (by kernel_rfl))
  f317 := Tryd.func203.trans (congrArg some (by kernel_rfl))
  f318 := Tryd.func204.trans (congrArg some (by kernel_rfl))
  t0 := Tryd.underlying0
  a0 := Tryd.isAgg0
  z0 := Tryd.sizeOf0
  v0 := Tryd.zeroValue0
  t3 := Tryd.underlying3
  a3 := Tryd.isAgg3
  z3 := Tryd.sizeOf3
  v3 := Tryd.zeroValue3
  t4 := Tryd.underlying4
  a4 := Tryd.isAgg4
  z4 := Tryd.sizeOf4
  v4 := Tryd.zeroValue4
  t5 := Tryd.underlying5
  a5 := Tryd.isAgg5
  z5 := Tryd.sizeOf5
  v5 := Tryd.zeroValue5
  t9 := Tryd.underlying9
  a9 := Tryd.isAgg9
  z9 := Tryd.sizeOf9
  v9 := Tryd.zeroValue9
  t46 := Tryd.underlying174
  a46 := Tryd.isAgg174
  z46 := Tryd.sizeOf174
  v46 := Tryd.zeroValue174
  t53 := Tryd.underlying154
  a53 := Tryd.isAgg154
  z53 := Tryd.sizeOf154
  v53 := Tryd.zeroValue154
  t212 := Tryd.underlying239
  a212 := Tryd.isAgg239
  z212 := Tryd.sizeOf239
  v212 := Tryd.zeroValue239
  g17 := by kernel_rfl
  i0 := by kernel_rfl
  i3 := by kernel_rfl
  i4 := by kernel_rfl
  i5 := by kernel_rfl
  i9 := by kernel_rfl
  i46 := by kernel_rfl
  i53 := by kernel_rfl
  i212 := by kernel_rfl
  m17 := by kernel_rfl }
def usm151_ren : Go.Shelf.Ren := ⟨fun | 283 => 182 | n => n, fun | 3 => 3 | 9 => 9 | 4 => 4 | n => n, fun | n => n⟩
theorem usm151 : Go.Proofs.Lays.n283 Tryd.prog usm151_ren := {
  mixed := by kernel_rfl
  f283 := Tryd.func182.trans (congrArg some (by kernel_rfl))
  t3 := Tryd.underlying3
  a3 := Tryd.isAgg3
  z3 := Tryd.sizeOf3
  v3 := Tryd.zeroValue3
  t4 := Tryd.underlying4
  a4 := Tryd.isAgg4
  z4 := Tryd.sizeOf4
  v4 := Tryd.zeroValue4
  t9 := Tryd.underlying9
  a9 := Tryd.isAgg9
  z9 := Tryd.sizeOf9
  v9 := Tryd.zeroValue9 }
def ufb151_ren : Go.Shelf.Ren := ⟨fun | 285 => 184 | n => n, fun | 37 => 56 | 53 => 154 | 3 => 3 | 4 => 4 | 51 => 200 | 9 => 9 | 5 => 5 | 0 => 0 | n => n, fun | n => n⟩
theorem ufb151 : Go.Proofs.Lays.n285 Tryd.prog ufb151_ren := {
  mixed := by kernel_rfl
  f285 := Tryd.func184.trans (congrArg some (by kernel_rfl))
  t0 := Tryd.underlying0
  a0 := Tryd.isAgg0
  z0 := Tryd.sizeOf0
  v0 := Tryd.zeroValue0
  t3 := Tryd.underlying3
  a3 := Tryd.isAgg3
  z3 := Tryd.sizeOf3
  v3 := Tryd.zeroValue3
  t4 := Tryd.underlying4
  a4 := Tryd.isAgg4
  z4 := Tryd.sizeOf4
  v4 := Tryd.zeroValue4
  t5 := Tryd.underlying5
  a5 := Tryd.isAgg5
  z5 := Tryd.sizeOf5
  v5 := Tryd.zeroValue5
  t9 := Tryd.underlying9
  a9 := Tryd.isAgg9
  z9 := Tryd.sizeOf9
  v9 := Tryd.zeroValue9
  t37 := Tryd.underlying56
  a37 := Tryd.isAgg56
  z37 := Tryd.sizeOf56
  v37 := Tryd.zeroValue56
  t51 := Tryd.underlying200
  a51 := Tryd.isAgg200
  z51 := Tryd.sizeOf200
  v51 := Tryd.zeroValue200
  t53 := Tryd.underlying154
  a53 := Tryd.isAgg154
  z53 := Tryd.sizeOf154
  v53 := Tryd.zeroValue154 }
theorem umix151 : Tryd.prog.follows .mixedOrders = true := by kernel_rfl
theorem uHold151 (w : World) (T : TypeId) (nd : Nat) (hs : nd ≤ 24) : Holds (fun (b : UInt8) => Value.int .u8 (b.toNat : Int)) (w.alloc (.cells Lib.zeros24 T)) w.heap.size 0 (Array.replicate nd (0 : UInt8)) := fun j hj => by
  have hj' : j < nd := by simpa using hj
  refine ⟨?_, World.frozen?_alloc_new _ _ _ _⟩
  rw [World.cell?_alloc_new, Nat.zero_add, Lib.zeros24_at _ (by omega), getElem!_pos _ j hj]
  simp
theorem uFin151 (w : World) (o : Obj) (dk : Array UInt8) (k : Nat) : ∃ os, (putRow (fun (b : UInt8) => Value.int .u8 (b.toNat : Int)) (w.alloc o) w.heap.size 0 dk).drewN k = grow (w.drewN k) os := by
  rw [alloc_eq_grow]
  obtain ⟨os', _, e⟩ := putRow_grow_new (fun (b : UInt8) => Value.int .u8 (b.toNat : Int)) w #[o] w.heap.size 0 dk (Nat.le_refl _)
  exact ⟨os', by rw [e]; rfl⟩
set_option maxHeartbeats 6400000 in
set_option maxRecDepth 100000 in
theorem fmtuI151 (u : Nat) (hu64 : u < 18446744073709551616) (w : World) (htab : Lib.TabIs Tryd.prog w "internal/strconv.uint64pow10" .u64 Lib.pow10Tab) :
    Calls Tryd.prog 151 #[.int .u64 u, .int .i64 10] w fun e w' => e = .returned (.string ⟨(Lib.decDigits u).toArray⟩) ∧ ∃ k os, w' = grow (w.drewN k) os := by
  have mixed := umix151
  by_cases hs : u < 100
  · have hwr : IntKind.i64.wrap (u : Int) = (u : Int) := by rw [IntKind.wrap_i64]; omega
    go_enter Tryd.func151, Tryd.ntmps151
    go_wp2_with (go_at_call 182; refine (Any.internal_strconv_small usm151 u hs _).mono ?_; rintro e w' ⟨rfl, rfl⟩)
    go_ret
    exact ⟨rfl, 0, #[], by simp [World.drewN_zero]⟩
  · have hu1 : 1 ≤ u := by omega
    have hnd20 : Lib.nDigits u ≤ 20 := by have := Lib.numDigits_eq u hu1 hu64; split at this <;> omega
    have hal : Tryd.prog.arrayLen 218 = 24 := by kernel_rfl
    have hsl1 : ∀ W, (Instr.sliceAt 218 (.pointer (some ⟨w.heap.size, 0, none⟩)) none (some (.int .i64 (Lib.nDigits u : Int))) none).run Tryd.prog W = .ok (.slice (some ⟨w.heap.size, 0, none⟩) (Lib.nDigits u) 24) W := fun W => by
      rw [run_sliceAt_array_h W 218 ⟨w.heap.size, 0, none⟩ (by simp [Program.arrayLen, Program.elem, Tryd.underlying218]) .i64 (Lib.nDigits u : Int) (by omega) (by rw [hal]; omega)]
      go_simp
    have hH0 := uHold151 w 218 (Lib.nDigits u) (by omega)
    have hfmt := Any.internal_strconv_formatBase10 ufb151 w.heap.size 0 24 u (Array.replicate (Lib.nDigits u) 0) (w.alloc (.cells Lib.zeros24 218)) hH0 (by rw [Array.size_replicate]; exact Lib.lt_pow_nDigits u) hu64 (by rw [Array.size_replicate]; omega)
    rw [Array.size_replicate] at hfmt
    have HH0 := Lib.hid hH0
    clear hH0 hal
    go_enter Tryd.func151, Tryd.ntmps151
    go_wp2_with (go_at_call 183; refine (Any.internal_strconv_numDigits und151 u hu1 hu64 _ (Lib.tabIs_alloc htab _)).mono ?_; rintro e w' ⟨rfl, rfl⟩)
    go_at_call 184
    refine hfmt.mono ?_
    rintro e w' ⟨rfl, k, v', dk, rfl, hF⟩
    have hcv : (convert 56 9 (.slice (some ⟨w.heap.size, 0, none⟩) (Lib.nDigits u) 24)).run Tryd.prog ((putRow (fun (b : UInt8) => Value.int .u8 (b.toNat : Int)) (w.alloc (.cells Lib.zeros24 218)) w.heap.size 0 dk).drewN k) = .ok (.string ⟨(Lib.decDigits u).toArray⟩) ((putRow (fun (b : UInt8) => Value.int .u8 (b.toNat : Int)) (w.alloc (.cells Lib.zeros24 218)) w.heap.size 0 dk).drewN k) := by
      have h := run_convert_bytes_back (P := Tryd.prog) ((putRow (fun (b : UInt8) => Value.int .u8 (b.toNat : Int)) (w.alloc (.cells Lib.zeros24 218)) w.heap.size 0 dk).drewN k) 56 9 5 ⟨w.heap.size, 0, none⟩ 24 (Lib.decDigits u) Tryd.underlying56 Tryd.underlying5 Tryd.underlying9 (fun j hj => by
        rw [Lib.row_is_numeral hF j hj, Lib.add_plain, World.cell?_drewN]
        exact cell?_putRow (fun (b : UInt8) => Value.int .u8 (b.toNat : Int)) _ w.heap.size 0 _ dk HH0.out (by rw [hF.size, Array.size_replicate]) j (by rw [hF.size]; rw [Lib.decDigits_length] at hj; exact hj))
      rw [Lib.decDigits_length] at h
      exact h
    go_wp2
    go_ret
    obtain ⟨os, eo⟩ := uFin151 w (.cells Lib.zeros24 218) dk k
    exact ⟨rfl, k, os, eo⟩
set_option maxRecDepth 100000 in
theorem fmtu109 (u : Nat) (hu64 : u < 18446744073709551616) (w : World) (htab : Lib.TabIs Tryd.prog w "internal/strconv.uint64pow10" .u64 Lib.pow10Tab) :
    Calls Tryd.prog 109 #[.int .u64 u, .int .i64 10] w fun e w' => e = .returned (.string ⟨(Lib.decDigits u).toArray⟩) ∧ ∃ k os, w' = grow (w.drewN k) os := by
  go_enter Tryd.func109, Tryd.ntmps109
  go_wp2_with (go_at_call 151; refine (fmtuI151 u hu64 _ htab).mono ?_; rintro e w' ⟨rfl, k, os, rfl⟩)
  go_ret
  exact ⟨rfl, k, os, rfl⟩
end

theorem fnok109 : FnOK Tryd.prog 109 := ⟨Tryd.f109, _, Tryd.func109, by decide, rfl⟩
noncomputable def C17 (n : Nat) : Call2 E := moreP 109 [(.int .u64), (.int .i64)] .str (fun x => fmtuO x.1 x.2.1) (C16 n)

/- clapperbridge/fixed.Shown -/
noncomputable def fixed_Shown (n : Nat) (x0 : Int) (x1 : Int) : Option (List UInt8) := F2 (E := E) tt gl H (C17 n) n 50 Tryd.f50 [.t (.int .i64), .t (.int .i64)] (x0, x1, ())
theorem fixed_Shown_eq (n : Nat) (x0 : Int) (x1 : Int) : fixed_Shown n x0 x1 = (Option.bind (fmtuO (IntKind.wrap .u64 (mxI x0 (IntKind.wrap .i64 (0 - x0)))) 10) fun r1 => (bif (decide ((List.length r1 : Int) ≤ (mxI (0 : Int) (mnI (15 : Int) x1)))) then (Option.bind (repO ([48] : List UInt8) (IntKind.wrap .i64 ((IntKind.wrap .i64 ((mxI (0 : Int) (mnI (15 : Int) x1)) + 1)) - (List.length r1 : Int)))) fun r2 => (bif (decide (List.length r2 + List.length r1 ≤ 4294967296)) then (bif (decide ((mxI (0 : Int) (mnI (15 : Int) x1)) > 0)) then (bif (decide (0 ≤ (IntKind.wrap .i64 ((List.length (r2 ++ r1) : Int) - (mxI (0 : Int) (mnI (15 : Int) x1))))) && decide ((IntKind.wrap .i64 ((List.length (r2 ++ r1) : Int) - (mxI (0 : Int) (mnI (15 : Int) x1)))) ≤ (List.length (r2 ++ r1)))) then (bif (decide (List.length (List.take (Int.toNat (IntKind.wrap .i64 ((List.length (r2 ++ r1) : Int) - (mxI (0 : Int) (mnI (15 : Int) x1))))) (r2 ++ r1)) + List.length [46] ≤ 4294967296)) then (bif (decide (0 ≤ (IntKind.wrap .i64 ((List.length (r2 ++ r1) : Int) - (mxI (0 : Int) (mnI (15 : Int) x1))))) && decide ((IntKind.wrap .i64 ((List.length (r2 ++ r1) : Int) - (mxI (0 : Int) (mnI (15 : Int) x1)))) ≤ (List.length (r2 ++ r1)))) then (bif (decide (List.length ((List.take (Int.toNat (IntKind.wrap .i64 ((List.length (r2 ++ r1) : Int) - (mxI (0 : Int) (mnI (15 : Int) x1))))) (r2 ++ r1)) ++ [46]) + List.length (List.drop (Int.toNat (IntKind.wrap .i64 ((List.length (r2 ++ r1) : Int) - (mxI (0 : Int) (mnI (15 : Int) x1))))) (r2 ++ r1)) ≤ 4294967296)) then (bif (decide (x0 < 0)) then (bif (decide (List.length ([45] : List UInt8) + List.length (((List.take (Int.toNat (IntKind.wrap .i64 ((List.length (r2 ++ r1) : Int) - (mxI (0 : Int) (mnI (15 : Int) x1))))) (r2 ++ r1)) ++ [46]) ++ (List.drop (Int.toNat (IntKind.wrap .i64 ((List.length (r2 ++ r1) : Int) - (mxI (0 : Int) (mnI (15 : Int) x1))))) (r2 ++ r1))) ≤ 4294967296)) then (some (([45] : List UInt8) ++ (((List.take (Int.toNat (IntKind.wrap .i64 ((List.length (r2 ++ r1) : Int) - (mxI (0 : Int) (mnI (15 : Int) x1))))) (r2 ++ r1)) ++ [46]) ++ (List.drop (Int.toNat (IntKind.wrap .i64 ((List.length (r2 ++ r1) : Int) - (mxI (0 : Int) (mnI (15 : Int) x1))))) (r2 ++ r1))))) else none) else (some (((List.take (Int.toNat (IntKind.wrap .i64 ((List.length (r2 ++ r1) : Int) - (mxI (0 : Int) (mnI (15 : Int) x1))))) (r2 ++ r1)) ++ [46]) ++ (List.drop (Int.toNat (IntKind.wrap .i64 ((List.length (r2 ++ r1) : Int) - (mxI (0 : Int) (mnI (15 : Int) x1))))) (r2 ++ r1))))) else none) else none) else none) else none) else (bif (decide (x0 < 0)) then (bif (decide (List.length ([45] : List UInt8) + List.length (r2 ++ r1) ≤ 4294967296)) then (some (([45] : List UInt8) ++ (r2 ++ r1))) else none) else (some (r2 ++ r1)))) else none)) else (bif (decide ((mxI (0 : Int) (mnI (15 : Int) x1)) > 0)) then (bif (decide (0 ≤ (IntKind.wrap .i64 ((List.length r1 : Int) - (mxI (0 : Int) (mnI (15 : Int) x1))))) && decide ((IntKind.wrap .i64 ((List.length r1 : Int) - (mxI (0 : Int) (mnI (15 : Int) x1)))) ≤ (List.length r1))) then (bif (decide (List.length (List.take (Int.toNat (IntKind.wrap .i64 ((List.length r1 : Int) - (mxI (0 : Int) (mnI (15 : Int) x1))))) r1) + List.length [46] ≤ 4294967296)) then (bif (decide (0 ≤ (IntKind.wrap .i64 ((List.length r1 : Int) - (mxI (0 : Int) (mnI (15 : Int) x1))))) && decide ((IntKind.wrap .i64 ((List.length r1 : Int) - (mxI (0 : Int) (mnI (15 : Int) x1)))) ≤ (List.length r1))) then (bif (decide (List.length ((List.take (Int.toNat (IntKind.wrap .i64 ((List.length r1 : Int) - (mxI (0 : Int) (mnI (15 : Int) x1))))) r1) ++ [46]) + List.length (List.drop (Int.toNat (IntKind.wrap .i64 ((List.length r1 : Int) - (mxI (0 : Int) (mnI (15 : Int) x1))))) r1) ≤ 4294967296)) then (bif (decide (x0 < 0)) then (bif (decide (List.length ([45] : List UInt8) + List.length (((List.take (Int.toNat (IntKind.wrap .i64 ((List.length r1 : Int) - (mxI (0 : Int) (mnI (15 : Int) x1))))) r1) ++ [46]) ++ (List.drop (Int.toNat (IntKind.wrap .i64 ((List.length r1 : Int) - (mxI (0 : Int) (mnI (15 : Int) x1))))) r1)) ≤ 4294967296)) then (some (([45] : List UInt8) ++ (((List.take (Int.toNat (IntKind.wrap .i64 ((List.length r1 : Int) - (mxI (0 : Int) (mnI (15 : Int) x1))))) r1) ++ [46]) ++ (List.drop (Int.toNat (IntKind.wrap .i64 ((List.length r1 : Int) - (mxI (0 : Int) (mnI (15 : Int) x1))))) r1)))) else none) else (some (((List.take (Int.toNat (IntKind.wrap .i64 ((List.length r1 : Int) - (mxI (0 : Int) (mnI (15 : Int) x1))))) r1) ++ [46]) ++ (List.drop (Int.toNat (IntKind.wrap .i64 ((List.length r1 : Int) - (mxI (0 : Int) (mnI (15 : Int) x1))))) r1)))) else none) else none) else none) else none) else (bif (decide (x0 < 0)) then (bif (decide (List.length ([45] : List UInt8) + List.length r1 ≤ 4294967296)) then (some (([45] : List UInt8) ++ r1)) else none) else (some r1))))) := by kernel_rfl
noncomputable def C18 (n : Nat) : Call2 E := more tt gl H (C17 n) n 50 Tryd.f50 [.t (.int .i64), .t (.int .i64)] (C17 n)

/- clapperbridge/claplaw2.widths -/
noncomputable def law2_widths (n : Nat) : Option Bool := F2 (E := E) tt gl H (C18 n) n 32 Tryd.f32 [] (())
theorem law2_widths_eq (n : Nat) : law2_widths n = (Option.bind (fixed_Shown n (-5) 2) fun r1 => (bif (r1 == [45, 48, 46, 48, 53]) then (Option.bind (fixed_Shown n 7 0) fun r2 => (some (r2 == [55]))) else (some false))) := by kernel_rfl
noncomputable def C19 (n : Nat) : Call2 E := more tt gl H (C18 n) n 32 Tryd.f32 [] (C18 n)

/- clapperbridge/clapref2.Breadth -/
noncomputable def ref2_Breadth (n : Nat) (x0 : List FixedField) : Option Int := F2 (E := E) tt gl H (C19 n) n 53 Tryd.f53 [.t (.sl (.nm 0))] (x0, ())
noncomputable def ref2_Breadth_l0 (n : Nat) (m0 : Nat) (v3 : Int) (v6 : List FixedField) (v7 : Int) (v8 : Int) : Option Int := lp (E := E) (ps := [.t (.sl (.nm 0))]) tt gl H (C19 n) n 53 Tryd.f53 [1, 1, 0, 1, 0] [] m0 ⟨mkT 26 0 [(3, .t (.int .i64) v3), (6, .t (.sl (.nm 0)) v6), (7, .t (.int .i64) v7), (8, .t (.int .i64) v8)], mkB 104 0 []⟩
theorem ref2_Breadth_l0_eq (n : Nat) (m0 : Nat) (v3 : Int) (v6 : List FixedField) (v7 : Int) (v8 : Int) : ref2_Breadth_l0 n (m0 + 1) v3 v6 v7 v8 = (bif (decide (v8 < v7)) then (bif (decide (0 ≤ v8) && decide (v8 < List.length v6)) then (bif (decide ((IntKind.wrap .i64 (((List.getD v6 (Int.toNat v8) (FixedField.mk [] 0 0 0 0 false 0)).At) + ((List.getD v6 (Int.toNat v8) (FixedField.mk [] 0 0 0 0 false 0)).Wide))) > v3)) then (ref2_Breadth_l0 n m0 (IntKind.wrap .i64 (((List.getD v6 (Int.toNat v8) (FixedField.mk [] 0 0 0 0 false 0)).At) + ((List.getD v6 (Int.toNat v8) (FixedField.mk [] 0 0 0 0 false 0)).Wide))) v6 v7 (IntKind.wrap .i64 (v8 + 1))) else (ref2_Breadth_l0 n m0 v3 v6 v7 (IntKind.wrap .i64 (v8 + 1)))) else none) else (some v3)) := by kernel_rfl
theorem ref2_Breadth_l0_zero (n : Nat) (v3 : Int) (v6 : List FixedField) (v7 : Int) (v8 : Int) : ref2_Breadth_l0 n 0 v3 v6 v7 v8 = none := by kernel_rfl
theorem ref2_Breadth_l0_fold (n : Nat) (v6 : List FixedField) (v3 : Int) (hl : List.length v6 < 9223372036854775807) (m i : Nat) (hi : i ≤ List.length v6) (hm : List.length v6 - i < m) : ref2_Breadth_l0 n m v3 v6 (List.length v6 : Int) (i : Int) = foldK (S := Int) (fun i (a : FixedField) s K => (bif (decide ((IntKind.wrap .i64 ((a.At) + (a.Wide))) > s)) then (K (IntKind.wrap .i64 ((a.At) + (a.Wide)))) else (K s))) (fun s => (some s)) (List.drop i v6) i (v3) := range_loop v6 (FixedField.mk [] 0 0 0 0 false 0) hl (fun m (k : Int) (s : Int) => ref2_Breadth_l0 n m s v6 (List.length v6 : Int) k) _ _ (fun m i s => (ref2_Breadth_l0_eq n m s v6 (List.length v6 : Int) (i : Int)).trans (by kernel_rfl)) m i hi hm (v3)
theorem ref2_Breadth_eq (n : Nat) (x0 : List FixedField) : ref2_Breadth n x0 = (ref2_Breadth_l0 n n 0 x0 (List.length x0 : Int) 0) := by kernel_rfl
noncomputable def C20 (n : Nat) : Call2 E := more tt gl H (C19 n) n 53 Tryd.f53 [.t (.sl (.nm 0))] (C19 n)
def lay134_ren : Go.Shelf.Ren := ⟨fun | 100 => 134 | 207 => 164 | n => n, fun | 9 => 9 | 4 => 4 | 3 => 3 | n => n, fun | n => n⟩
theorem lay134 : Go.Proofs.Lays.n100 Tryd.prog lay134_ren := {
  mixed := by kernel_rfl
  f100 := Tryd.func134.trans (congrArg some (by kernel_rfl))
  f207 := Tryd.func164.trans (congrArg some (by kernel_rfl))
  t3 := Tryd.underlying3
  a3 := Tryd.isAgg3
  z3 := Tryd.sizeOf3
  v3 := Tryd.zeroValue3
  t4 := Tryd.underlying4
  a4 := Tryd.isAgg4
  z4 := Tryd.sizeOf4
  v4 := Tryd.zeroValue4
  t9 := Tryd.underlying9
  a9 := Tryd.isAgg9
  z9 := Tryd.sizeOf9
  v9 := Tryd.zeroValue9 }
theorem fnok134 : FnOK Tryd.prog 134 := ⟨Tryd.f134, _, Tryd.func134, by decide, rfl⟩
noncomputable def C21 (n : Nat) : Call2 E := moreP 134 [.str, .str] .bool (fun x => hasSufO x.1 x.2.1) (C20 n)
def lay95_ren : Go.Shelf.Ren := ⟨fun | 101 => 95 | 208 => 139 | 206 => 161 | n => n, fun | 9 => 9 | 4 => 4 | 3 => 3 | n => n, fun | n => n⟩
theorem lay95 : Go.Proofs.Lays.n101 Tryd.prog lay95_ren := {
  mixed := by kernel_rfl
  f101 := Tryd.func95.trans (congrArg some (by kernel_rfl))
  f206 := Tryd.func161.trans (congrArg some (by kernel_rfl))
  f208 := Tryd.func139.trans (congrArg some (by kernel_rfl))
  t3 := Tryd.underlying3
  a3 := Tryd.isAgg3
  z3 := Tryd.sizeOf3
  v3 := Tryd.zeroValue3
  t4 := Tryd.underlying4
  a4 := Tryd.isAgg4
  z4 := Tryd.sizeOf4
  v4 := Tryd.zeroValue4
  t9 := Tryd.underlying9
  a9 := Tryd.isAgg9
  z9 := Tryd.sizeOf9
  v9 := Tryd.zeroValue9 }
theorem fnok95 : FnOK Tryd.prog 95 := ⟨Tryd.f95, _, Tryd.func95, by decide, rfl⟩
noncomputable def C22 (n : Nat) : Call2 E := moreP 95 [.str, .str] .str (fun x => some (Go.Lib.trimPrefix x.1 x.2.1)) (C21 n)

/- clapperbridge/clapref2.shown -/
noncomputable def ref2_shown (n : Nat) (x0 : FixedField) (x1 : Int) : Option (List UInt8) := F2 (E := E) tt gl H (C22 n) n 135 Tryd.f135 [.t (.nm 0), .t (.int .i64)] (x0, x1, ())
noncomputable def ref2_shown_l0 (n : Nat) (m0 : Nat) (v5 : List UInt8) (v6 : Int) (w2 : FixedField) : Option (List UInt8) := lp (E := E) (ps := [.t (.nm 0), .t (.int .i64)]) tt gl H (C22 n) n 135 Tryd.f135 [1, 1, 0, 1, 0] [] m0 ⟨mkT 26 0 [(2, .ptr 2 (.nm 0) []), (5, .t .str v5), (6, .t (.int .i64) v6)], mkB 104 0 [(2, .var (.nm 0) (.t (.nm 0) w2))]⟩
theorem ref2_shown_l0_eq (n : Nat) (m0 : Nat) (v5 : List UInt8) (v6 : Int) (w2 : FixedField) : ref2_shown_l0 n (m0 + 1) v5 v6 w2 = (Option.bind (ref2_Places n w2) fun r1 => (bif (decide ((List.length v5 : Int) < r1)) then (bif (decide (0 ≤ (IntKind.wrap .i32 (IntKind.wrap .i64 ((48 : Int) + (Int.tmod v6 10))))) && decide ((IntKind.wrap .i32 (IntKind.wrap .i64 ((48 : Int) + (Int.tmod v6 10)))) < 128)) then (bif (decide (List.length ([UInt8.ofNat (Int.toNat (IntKind.wrap .i32 (IntKind.wrap .i64 ((48 : Int) + (Int.tmod v6 10)))))] : List UInt8) + List.length v5 ≤ 4294967296)) then (ref2_shown_l0 n m0 (([UInt8.ofNat (Int.toNat (IntKind.wrap .i32 (IntKind.wrap .i64 ((48 : Int) + (Int.tmod v6 10)))))] : List UInt8) ++ v5) (IntKind.wrap .i64 (Int.tdiv v6 10)) w2) else none) else none) else (some v5))) := by kernel_rfl
theorem ref2_shown_l0_zero (n : Nat) (v5 : List UInt8) (v6 : Int) (w2 : FixedField) : ref2_shown_l0 n 0 v5 v6 w2 = none := by kernel_rfl
theorem ref2_shown_eq (n : Nat) (x0 : FixedField) (x1 : Int) : ref2_shown n x0 x1 = (ref2_shown_l0 n n [] (mxI x1 (IntKind.wrap .i64 (0 - x1))) x0) := by kernel_rfl
noncomputable def C23 (n : Nat) : Call2 E := more tt gl H (C22 n) n 135 Tryd.f135 [.t (.nm 0), .t (.int .i64)] (C22 n)

/- clapperbridge/clapref2.bit -/
noncomputable def ref2_bit (n : Nat) (x0 : Bool) : Option Int := F2 (E := E) tt gl H (C23 n) n 110 Tryd.f110 [.t .bool] (x0, ())
theorem ref2_bit_eq (n : Nat) (x0 : Bool) : ref2_bit n x0 = (bif x0 then (some 1) else (some 0)) := by kernel_rfl
noncomputable def C24 (n : Nat) : Call2 E := more tt gl H (C23 n) n 110 Tryd.f110 [.t .bool] (C23 n)
def lay136_ren : Go.Shelf.Ren := ⟨fun | 14 => 136 | 16 => 165 | 17 => 138 | 19 => 193 | 20 => 194 | 21 => 166 | 22 => 167 | 23 => 168 | 24 => 169 | 25 => 195 | 27 => 68 | 26 => 196 | 28 => 116 | 29 => 153 | 30 => 182 | 31 => 183 | 32 => 184 | 33 => 185 | 35 => 181 | 34 => 203 | 36 => 204 | 37 => 205 | 38 => 206 | 39 => 209 | 40 => 210 | n => n, fun | 9 => 9 | 3 => 3 | 22 => 154 | 24 => 136 | 25 => 181 | 4 => 4 | 34 => 205 | 5 => 5 | 36 => 174 | 37 => 56 | 0 => 0 | 39 => 206 | 21 => 21 | 44 => 231 | 47 => 197 | 50 => 244 | 48 => 242 | 2 => 2 | 52 => 218 | 55 => 220 | 59 => 239 | 60 => 200 | 20 => 20 | 61 => 240 | 65 => 247 | 66 => 248 | 67 => 172 | n => n, fun | 0 => 0 | 1 => 1 | 2 => 3 | 3 => 4 | 4 => 5 | n => n⟩
theorem lay136 : Go.Proofs.LaysPu.n14 Tryd.prog lay136_ren := {
  mixed := by kernel_rfl
  f14 := Tryd.func136.trans (congrArg some (by kernel_rfl))
  f16 := Tryd.func165.trans (congrArg some (by kernel_rfl))
  f17 := Tryd.func138.trans (congrArg some (by kernel_rfl))
  f19 := Tryd.func193.trans (congrArg some (by kernel_rfl))
  f20 := Tryd.func194.trans (congrArg some (by kernel_rfl))
  f21 := Tryd.func166.trans (congrArg some (by kernel_rfl))
  f22 := Tryd.func167.trans (congrArg some (by kernel_rfl))
  f23 := Tryd.func168.trans (congrArg some (by kernel_rfl))
  f24 := Tryd.func169.trans (congrArg some (by kernel_rfl))
  f25 := Tryd.func195.trans (congrArg some (by kernel_rfl))
  f26 := Tryd.func196.trans (congrArg some (by kernel_rfl))
  f27 := Tryd.func68.trans (congrArg some (by kernel_rfl))
  f28 := Tryd.func116.trans (congrArg some (by kernel_rfl))
  f29 := Tryd.func153.trans (congrArg some (by kernel_rfl))
  f30 := Tryd.func182.trans (congrArg some (by kernel_rfl))
  f31 := Tryd.func183.trans (congrArg some (by kernel_rfl))
  f32 := Tryd.func184.trans (congrArg some (by kernel_rfl))
  f33 := Tryd.func185.trans (congrArg some (by kernel_rfl))
  f34 := Tryd.func203.trans (congrArg some (by kernel_rfl))
  f35 := Tryd.func181.trans (congrArg some (by kernel_rfl))
  f36 := Tryd.func204.trans (congrArg some (by kernel_rfl))
  f37 := Tryd.func205.trans (congrArg some (by kernel_rfl))
  f38 := Tryd.func206.trans (congrArg some (by kernel_rfl))
  f39 := Tryd.func209.trans (congrArg some (by kernel_rfl))
  f40 := Tryd.func210.trans (congrArg some (by kernel_rfl))
  t0 := Tryd.underlying0
  a0 := Tryd.isAgg0
  z0 := Tryd.sizeOf0
  v0 := Tryd.zeroValue0
  i0 := by kernel_rfl
  t2 := Tryd.underlying2
  a2 := Tryd.isAgg2
  z2 := Tryd.sizeOf2
  v2 := Tryd.zeroValue2
  i2 := by kernel_rfl
  t3 := Tryd.underlying3
  a3 := Tryd.isAgg3
  z3 := Tryd.sizeOf3
  v3 := Tryd.zeroValue3
  i3 := by kernel_rfl
  t4 := Tryd.underlying4
  a4 := Tryd.isAgg4
  z4 := Tryd.sizeOf4
  v4 := Tryd.zeroValue4
  i4 := by kernel_rfl
  t5 := Tryd.underlying5
  a5 := Tryd.isAgg5
  z5 := Tryd.sizeOf5
  v5 := Tryd.zeroValue5
  i5 := by kernel_rfl
  t9 := Tryd.underlying9
  a9 := Tryd.isAgg9
  z9 := Tryd.sizeOf9
  v9 := Tryd.zeroValue9
  i9 := by kernel_rfl
  t20 := Tryd.underlying20
  a20 := Tryd.isAgg20
  z20 := Tryd.sizeOf20
  v20 := Tryd.zeroValue20
  i20 := by kernel_rfl
  t21 := Tryd.underlying21
  a21 := Tryd.isAgg21
  z21 := Tryd.sizeOf21
  v21 := Tryd.zeroValue21
  i21 := by kernel_rfl
  t22 := Tryd.underlying154
  a22 := Tryd.isAgg154
  z22 := Tryd.sizeOf154
  v22 := Tryd.zeroValue154
  i22 := by kernel_rfl
  t24 := Tryd.underlying136
  a24 := Tryd.isAgg136
  z24 := Tryd.sizeOf136
  v24 := Tryd.zeroValue136
  i24 := by kernel_rfl
  t25 := Tryd.underlying181
  a25 := Tryd.isAgg181
  z25 := Tryd.sizeOf181
  v25 := Tryd.zeroValue181
  i25 := by kernel_rfl
  t34 := Tryd.underlying205
  a34 := Tryd.isAgg205
  z34 := Tryd.sizeOf205
  v34 := Tryd.zeroValue205
  i34 := by kernel_rfl
  c34 := by kernel_rfl
  t36 := Tryd.underlying174
  a36 := Tryd.isAgg174
  z36 := Tryd.sizeOf174
  v36 := Tryd.zeroValue174
  i36 := by kernel_rfl
  t37 := Tryd.underlying56
  a37 := Tryd.isAgg56
  z37 := Tryd.sizeOf56
  v37 := Tryd.zeroValue56
  i37 := by kernel_rfl
  t39 := Tryd.underlying206
  a39 := Tryd.isAgg206
  z39 := Tryd.sizeOf206
  v39 := Tryd.zeroValue206
  i39 := by kernel_rfl
  t44 := Tryd.underlying231
  a44 := Tryd.isAgg231
  z44 := Tryd.sizeOf231
  v44 := Tryd.zeroValue231
  i44 := by kernel_rfl
  t47 := Tryd.underlying197
  a47 := Tryd.isAgg197
  z47 := Tryd.sizeOf197
  v47 := Tryd.zeroValue197
  i47 := by kernel_rfl
  t48 := Tryd.underlying242
  a48 := Tryd.isAgg242
  z48 := Tryd.sizeOf242
  v48 := Tryd.zeroValue242
  i48 := by kernel_rfl
  t50 := Tryd.underlying244
  a50 := Tryd.isAgg244
  z50 := Tryd.sizeOf244
  v50 := Tryd.zeroValue244
  i50 := by kernel_rfl
  t52 := Tryd.underlying218
  a52 := Tryd.isAgg218
  z52 := Tryd.sizeOf218
  v52 := Tryd.zeroValue218
  i52 := by kernel_rfl
  t55 := Tryd.underlying220
  a55 := Tryd.isAgg220
  z55 := Tryd.sizeOf220
  v55 := Tryd.zeroValue220
  i55 := by kernel_rfl
  t59 := Tryd.underlying239
  a59 := Tryd.isAgg239
  z59 := Tryd.sizeOf239
  v59 := Tryd.zeroValue239
  i59 := by kernel_rfl
  t60 := Tryd.underlying200
  a60 := Tryd.isAgg200
  z60 := Tryd.sizeOf200
  v60 := Tryd.zeroValue200
  i60 := by kernel_rfl
  t61 := Tryd.underlying240
  a61 := Tryd.isAgg240
  z61 := Tryd.sizeOf240
  t65 := Tryd.underlying247
  a65 := Tryd.isAgg247
  z65 := Tryd.sizeOf247
  v65 := Tryd.zeroValue247
  i65 := by kernel_rfl
  t66 := Tryd.underlying248
  a66 := Tryd.isAgg248
  z66 := Tryd.sizeOf248
  v66 := Tryd.zeroValue248
  i66 := by kernel_rfl
  t67 := Tryd.underlying172
  a67 := Tryd.isAgg172
  z67 := Tryd.sizeOf172
  v67 := Tryd.zeroValue172
  i67 := by kernel_rfl
  g0 := by kernel_rfl
  m0 := by kernel_rfl
  g1 := by kernel_rfl
  m1 := by kernel_rfl
  g2 := by kernel_rfl
  m2 := by kernel_rfl
  g3 := by kernel_rfl
  m3 := by kernel_rfl
  g4 := by kernel_rfl
  m4 := by kernel_rfl }
theorem fnok136 : FnOK Tryd.prog 136 := ⟨Tryd.f136, _, Tryd.func136, by decide, rfl⟩
noncomputable def C25 (n : Nat) : Call2 E := moreT 136 [.str, (.int .i64), (.int .i64)] (.int .u64) (fun x => pu16O x.1 x.2.1 x.2.2.1) (C24 n)

/- clapperbridge/clapref2.Put -/
noncomputable def ref2_Put (n : Nat) (x0 : FixedField) (x1 : ApiValue) : Option (List UInt8 × Int) := F2 (E := E) tt gl H (C25 n) n 93 Tryd.f93 [.t (.nm 0), .t (.nm 1)] (x0, x1, ())
noncomputable def ref2_Put_l1 (n : Nat) (m0 : Nat) (w2 : FixedField) (w3 : ApiValue) : Option (List UInt8 × Int) := lp (E := E) (ps := [.t (.nm 0), .t (.nm 1)]) tt gl H (C25 n) n 93 Tryd.f93 [1, 0, 1, 0, 1, 0, 0] [] m0 ⟨mkT 121 0 [(2, .ptr 2 (.nm 0) []), (3, .ptr 3 (.nm 1) [])], mkB 484 0 [(2, .var (.nm 0) (.t (.nm 0) w2)), (3, .var (.nm 1) (.t (.nm 1) w3))]⟩
noncomputable def ref2_Put_l3 (n : Nat) (m0 : Nat) (v7 : List UInt8) (v8 : List UInt8) (v9 : Int) : Option (List UInt8 × Int) := lp (E := E) (ps := [.t (.nm 0), .t (.nm 1)]) tt gl H (C25 n) n 93 Tryd.f93 [1, 1, 1, 1, 1, 1, 1, 1, 0, 1, 0] [] m0 ⟨mkT 121 0 [(7, .t .str v7), (8, .t .str v8), (9, .t (.int .i64) v9)], mkB 484 0 []⟩
theorem ref2_Put_l3_eq (n : Nat) (m0 : Nat) (v7 : List UInt8) (v8 : List UInt8) (v9 : Int) : ref2_Put_l3 n (m0 + 1) v7 v8 v9 = (bif (decide (v9 < (List.length v7 : Int))) then (bif (decide (0 ≤ v9) && decide (v9 ≤ (IntKind.wrap .i64 (v9 + 2))) && decide ((IntKind.wrap .i64 (v9 + 2)) ≤ (List.length v7))) then (Option.bind (pu16O (List.drop (Int.toNat v9) (List.take (Int.toNat (IntKind.wrap .i64 (v9 + 2))) v7)) 16 8) fun r7 => (bif (decide (List.length v8 + List.length (byts [(IntKind.wrap .u8 r7)]) ≤ 4294967296)) then (ref2_Put_l3 n m0 v7 (v8 ++ (byts [(IntKind.wrap .u8 r7)])) (IntKind.wrap .i64 (v9 + 2))) else none)) else none) else (some (v8, 0))) := by kernel_rfl
theorem ref2_Put_l3_zero (n : Nat) (v7 : List UInt8) (v8 : List UInt8) (v9 : Int) : ref2_Put_l3 n 0 v7 v8 v9 = none := by kernel_rfl
theorem ref2_Put_l1_eq (n : Nat) (m0 : Nat) (w2 : FixedField) (w3 : ApiValue) : ref2_Put_l1 n (m0 + 1) w2 w3 = (bif (decide ((List.length w3.S : Int) < w2.Wide)) then (bif (decide (List.length w3.S + List.length (byts [w2.Pad]) ≤ 4294967296)) then (ref2_Put_l1 n m0 w2 (ApiValue.mk w3.Kind w3.N (w3.S ++ (byts [w2.Pad])) w3.Fields)) else none) else (some (w3.S, 0))) := by kernel_rfl
theorem ref2_Put_l1_zero (n : Nat) (w2 : FixedField) (w3 : ApiValue) : ref2_Put_l1 n 0 w2 w3 = none := by kernel_rfl
theorem ref2_Put_eq (n : Nat) (x0 : FixedField) (x1 : ApiValue) : ref2_Put n x0 x1 = (bif (decide (x0.Kind = 0)) then (bif (!decide (x1.Kind = 5)) then (some ([], 8)) else (bif (decide ((List.length x1.S : Int) > x0.Wide)) then (some ([], 2)) else (Option.bind (hasSufO x1.S (byts [x0.Pad])) fun r1 => (bif r1 then (some ([], 18)) else (ref2_Put_l1 n n x0 x1))))) else (bif (!decide (x1.Kind = 2)) then (some ([], 8)) else (bif (decide (x1.N < 0)) then (bif (!x0.Signed) then (some ([], 11)) else (Option.bind (itoaO x1.N) fun r2 => (Option.bind (ref2_Places n x0) fun r3 => (bif (decide ((List.length (Go.Lib.trimPrefix r2 ([45] : List UInt8)) : Int) > r3)) then (some ([], 11)) else (Option.bind (ref2_shown n x0 x1.N) fun r4 => (bif (decide (x0.Kind = 1)) then (bif x0.Signed then (Option.bind (ref2_bit n (decide (x1.N < 0))) fun r5 => (bif (decide (0 ≤ r5) && decide (r5 < List.length ([[43], [45]] : List (List UInt8)))) then (bif (decide (List.length (List.getD ([[43], [45]] : List (List UInt8)) (Int.toNat r5) []) + List.length r4 ≤ 4294967296)) then (some (((List.getD ([[43], [45]] : List (List UInt8)) (Int.toNat r5) []) ++ r4), 0)) else none) else none)) else (some (r4, 0))) else (Option.bind (ref2_bit n (decide (x1.N < 0))) fun r6 => (bif (decide (0 ≤ r6) && decide (r6 < List.length ([[99], [100]] : List (List UInt8)))) then (bif (decide (List.length r4 + List.length (List.getD ([[99], [100]] : List (List UInt8)) (Int.toNat r6) []) ≤ 4294967296)) then (ref2_Put_l3 n n (r4 ++ (List.getD ([[99], [100]] : List (List UInt8)) (Int.toNat r6) [])) [] 0) else none) else none)))))))) else (Option.bind (itoaO x1.N) fun r8 => (Option.bind (ref2_Places n x0) fun r9 => (bif (decide ((List.length (Go.Lib.trimPrefix r8 ([45] : List UInt8)) : Int) > r9)) then (some ([], 11)) else (Option.bind (ref2_shown n x0 x1.N) fun r10 => (bif (decide (x0.Kind = 1)) then (bif x0.Signed then (Option.bind (ref2_bit n (decide (x1.N < 0))) fun r11 => (bif (decide (0 ≤ r11) && decide (r11 < List.length ([[43], [45]] : List (List UInt8)))) then (bif (decide (List.length (List.getD ([[43], [45]] : List (List UInt8)) (Int.toNat r11) []) + List.length r10 ≤ 4294967296)) then (some (((List.getD ([[43], [45]] : List (List UInt8)) (Int.toNat r11) []) ++ r10), 0)) else none) else none)) else (some (r10, 0))) else (Option.bind (ref2_bit n (decide (x1.N < 0))) fun r12 => (bif (decide (0 ≤ r12) && decide (r12 < List.length ([[99], [100]] : List (List UInt8)))) then (bif (decide (List.length r10 + List.length (List.getD ([[99], [100]] : List (List UInt8)) (Int.toNat r12) []) ≤ 4294967296)) then (ref2_Put_l3 n n (r10 ++ (List.getD ([[99], [100]] : List (List UInt8)) (Int.toNat r12) [])) [] 0) else none) else none)))))))))) := by kernel_rfl
noncomputable def C26 (n : Nat) : Call2 E := more tt gl H (C25 n) n 93 Tryd.f93 [.t (.nm 0), .t (.nm 1)] (C25 n)

/- clapperbridge/clapref2.Recorded -/
noncomputable def ref2_Recorded (n : Nat) (x0 : List FixedField) (x1 : ApiValue) : Option (List Int × Int) := F2 (E := E) tt gl H (C26 n) n 33 Tryd.f33 [.t (.sl (.nm 0)), .t (.nm 1)] (x0, x1, ())
noncomputable def ref2_Recorded_l0 (n : Nat) (m0 : Nat) (v6l : Nat) (v26 : List FixedField) (v27 : Int) (v28 : Int) (w3 : ApiValue) (w22 : List Int) : Option (List Int × Int) := lp (E := E) (ps := [.t (.sl (.nm 0)), .t (.nm 1)]) tt gl H (C26 n) n 33 Tryd.f33 [1, 1, 1, 0, 1, 0] [] m0 ⟨mkT 64 0 [(3, .ptr 3 (.nm 1) []), (6, .fs 22 (.int .u8) 0 v6l), (26, .t (.sl (.nm 0)) v26), (27, .t (.int .i64) v27), (28, .t (.int .i64) v28)], mkB 256 0 [(3, .var (.nm 1) (.t (.nm 1) w3)), (22, .row (.int .u8) w22)]⟩
theorem ref2_Recorded_l0_eq (n : Nat) (m0 : Nat) (v6l : Nat) (v26 : List FixedField) (v27 : Int) (v28 : Int) (w3 : ApiValue) (w22 : List Int) : ref2_Recorded_l0 n (m0 + 1) v6l v26 v27 v28 w3 w22 = (bif (decide (v28 < v27)) then (bif (decide (0 ≤ v28) && decide (v28 < List.length v26)) then (bif (decide (0 ≤ v28) && decide (v28 < List.length w3.Fields)) then (bif (!(((List.getD v26 (Int.toNat v28) (FixedField.mk [] 0 0 0 0 false 0)).Name) == ((List.getD w3.Fields (Int.toNat v28) (ApiField.mk [] (ApiValue.mk 0 0 [] []))).Name))) then (some ([], 15)) else (bif (decide (0 ≤ v28) && decide (v28 < List.length w3.Fields)) then (Option.bind (ref2_Put n (List.getD v26 (Int.toNat v28) (FixedField.mk [] 0 0 0 0 false 0)) ((List.getD w3.Fields (Int.toNat v28) (ApiField.mk [] (ApiValue.mk 0 0 [] []))).Val)) fun r3 => (bif (!decide (r3.2 = 0)) then (some ([], r3.2)) else (bif (decide (0 ≤ ((List.getD v26 (Int.toNat v28) (FixedField.mk [] 0 0 0 0 false 0)).At)) && decide (((List.getD v26 (Int.toNat v28) (FixedField.mk [] 0 0 0 0 false 0)).At) ≤ (v6l : Int))) then (bif (decide ((0 + (Int.toNat ((List.getD v26 (Int.toNat v28) (FixedField.mk [] 0 0 0 0 false 0)).At))) + (v6l - (Int.toNat ((List.getD v26 (Int.toNat v28) (FixedField.mk [] 0 0 0 0 false 0)).At))) ≤ List.length w22)) then (ref2_Recorded_l0 n m0 v6l v26 v27 (IntKind.wrap .i64 (v28 + 1)) w3 (over w22 (List.take (v6l - (Int.toNat ((List.getD v26 (Int.toNat v28) (FixedField.mk [] 0 0 0 0 false 0)).At))) (ints r3.1)) (0 + (Int.toNat ((List.getD v26 (Int.toNat v28) (FixedField.mk [] 0 0 0 0 false 0)).At))))) else none) else none))) else none)) else none) else none) else (bif ((decide (0 + v6l ≤ List.length w22)) && true) then (some ((List.take v6l w22), 0)) else none)) := by kernel_rfl
theorem ref2_Recorded_l0_zero (n : Nat) (v6l : Nat) (v26 : List FixedField) (v27 : Int) (v28 : Int) (w3 : ApiValue) (w22 : List Int) : ref2_Recorded_l0 n 0 v6l v26 v27 v28 w3 w22 = none := by kernel_rfl
theorem ref2_Recorded_l0_fold (n : Nat) (v6l : Nat) (v26 : List FixedField) (w3 : ApiValue) (w22 : List Int) (hl : List.length v26 < 9223372036854775807) (m i : Nat) (hi : i ≤ List.length v26) (hm : List.length v26 - i < m) : ref2_Recorded_l0 n m v6l v26 (List.length v26 : Int) (i : Int) w3 w22 = foldK (S := (List Int)) (fun i (a : FixedField) s K => (bif (decide (0 ≤ (i : Int)) && decide ((i : Int) < List.length w3.Fields)) then (bif (!((a.Name) == ((List.getD w3.Fields (Int.toNat (i : Int)) (ApiField.mk [] (ApiValue.mk 0 0 [] []))).Name))) then (some ([], 15)) else (bif (decide (0 ≤ (i : Int)) && decide ((i : Int) < List.length w3.Fields)) then (Option.bind (ref2_Put n a ((List.getD w3.Fields (Int.toNat (i : Int)) (ApiField.mk [] (ApiValue.mk 0 0 [] []))).Val)) fun r3 => (bif (!decide (r3.2 = 0)) then (some ([], r3.2)) else (bif (decide (0 ≤ (a.At)) && decide ((a.At) ≤ (v6l : Int))) then (bif (decide ((0 + (Int.toNat (a.At))) + (v6l - (Int.toNat (a.At))) ≤ List.length s)) then (K (over s (List.take (v6l - (Int.toNat (a.At))) (ints r3.1)) (0 + (Int.toNat (a.At))))) else none) else none))) else none)) else none)) (fun s => (bif ((decide (0 + v6l ≤ List.length s)) && true) then (some ((List.take v6l s), 0)) else none)) (List.drop i v26) i (w22) := range_loop v26 (FixedField.mk [] 0 0 0 0 false 0) hl (fun m (k : Int) (s : (List Int)) => ref2_Recorded_l0 n m v6l v26 (List.length v26 : Int) k w3 s) _ _ (fun m i s => (ref2_Recorded_l0_eq n m v6l v26 (List.length v26 : Int) (i : Int) w3 s).trans (by kernel_rfl)) m i hi hm (w22)
theorem ref2_Recorded_eq (n : Nat) (x0 : List FixedField) (x1 : ApiValue) : ref2_Recorded n x0 x1 = (bif (!decide (x1.Kind = 6)) then (some ([], 8)) else (bif (!decide ((List.length x0 : Int) = (List.length x1.Fields : Int))) then (some ([], 8)) else (Option.bind (ref2_Breadth n x0) fun r1 => (Option.bind (repO ([32] : List UInt8) r1) fun r2 => (ref2_Recorded_l0 n n (List.length (ints r2)) x0 (List.length x0 : Int) 0 x1 (ints r2)))))) := by kernel_rfl
noncomputable def C27 (n : Nat) : Call2 E := more tt gl H (C26 n) n 33 Tryd.f33 [.t (.sl (.nm 0)), .t (.nm 1)] (C26 n)

/- slices.Equal[[]byte,byte] -/
noncomputable def slices_Equal_byte (n : Nat) (x0 : List Int) (x1 : List Int) : Option Bool := F2 (E := E) tt gl H (C27 n) n 34 Tryd.f34 [.t (.sl (.int .u8)), .t (.sl (.int .u8))] (x0, x1, ())
noncomputable def slices_Equal_byte_l0 (n : Nat) (m0 : Nat) (v0 : List Int) (v1 : List Int) (v12 : Int) (v13 : Int) : Option Bool := lp (E := E) (ps := [.t (.sl (.int .u8)), .t (.sl (.int .u8))]) tt gl H (C27 n) n 34 Tryd.f34 [1, 1, 0, 1, 0] [] m0 ⟨mkT 26 0 [(0, .t (.sl (.int .u8)) v0), (1, .t (.sl (.int .u8)) v1), (12, .t (.int .i64) v12), (13, .t (.int .i64) v13)], mkB 104 0 []⟩
theorem slices_Equal_byte_l0_eq (n : Nat) (m0 : Nat) (v0 : List Int) (v1 : List Int) (v12 : Int) (v13 : Int) : slices_Equal_byte_l0 n (m0 + 1) v0 v1 v12 v13 = (bif (decide (v13 < v12)) then (bif (decide (0 ≤ v13) && decide (v13 < List.length v0)) then (bif (decide (0 ≤ v13) && decide (v13 < List.length v1)) then (bif (!decide ((List.getD v0 (Int.toNat v13) (0 : Int)) = (List.getD v1 (Int.toNat v13) (0 : Int)))) then (some false) else (slices_Equal_byte_l0 n m0 v0 v1 v12 (IntKind.wrap .i64 (v13 + 1)))) else none) else none) else (some true)) := by kernel_rfl
theorem slices_Equal_byte_l0_zero (n : Nat) (v0 : List Int) (v1 : List Int) (v12 : Int) (v13 : Int) : slices_Equal_byte_l0 n 0 v0 v1 v12 v13 = none := by kernel_rfl
theorem slices_Equal_byte_l0_fold (n : Nat) (v0 : List Int) (v1 : List Int) (hl : List.length v0 < 9223372036854775807) (m i : Nat) (hi : i ≤ List.length v0) (hm : List.length v0 - i < m) : slices_Equal_byte_l0 n m v0 v1 (List.length v0 : Int) (i : Int) = foldK (S := Unit) (fun i (a : Int) s K => (bif (decide (0 ≤ (i : Int)) && decide ((i : Int) < List.length v1)) then (bif (!decide (a = (List.getD v1 (Int.toNat (i : Int)) (0 : Int)))) then (some false) else (K ())) else none)) (fun s => (some true)) (List.drop i v0) i () := range_loop v0 (0 : Int) hl (fun m (k : Int) (s : Unit) => slices_Equal_byte_l0 n m v0 v1 (List.length v0 : Int) k) _ _ (fun m i s => (slices_Equal_byte_l0_eq n m v0 v1 (List.length v0 : Int) (i : Int)).trans (by kernel_rfl)) m i hi hm ()
theorem slices_Equal_byte_eq (n : Nat) (x0 : List Int) (x1 : List Int) : slices_Equal_byte n x0 x1 = (bif (!decide ((List.length x0 : Int) = (List.length x1 : Int))) then (some false) else (slices_Equal_byte_l0 n n x0 x1 (List.length x0 : Int) 0)) := by kernel_rfl
noncomputable def C28 (n : Nat) : Call2 E := more tt gl H (C27 n) n 34 Tryd.f34 [.t (.sl (.int .u8)), .t (.sl (.int .u8))] (C27 n)

/- clapperbridge/claplaw2.FixedWrites -/
noncomputable def law2_FixedWrites (n : Nat) (x0 : List FixedField) (x1 : ApiValue) : Option Bool := F2 (E := E) tt gl H (C28 n) n 6 Tryd.f6 [.t (.sl (.nm 0)), .t (.nm 1)] (x0, x1, ())
theorem law2_FixedWrites_eq (n : Nat) (x0 : List FixedField) (x1 : ApiValue) : law2_FixedWrites n x0 x1 = (Option.bind (fixed_Write n x0 x1) fun r1 => (Option.bind (ref2_FieldsErr n x0) fun r2 => (bif (!decide (r2 = 0)) then (Option.bind (law2_widths n) fun r3 => (bif r3 then (bif (decide (r1.2 = r2)) then (some (decide ((List.length r1.1 : Int) = 0))) else (some false)) else (some false))) else (Option.bind (ref2_Recorded n x0 x1) fun r4 => (Option.bind (law2_widths n) fun r5 => (bif r5 then (bif (decide (r1.2 = r4.2)) then (Option.bind (slices_Equal_byte n r1.1 r4.1) fun r6 => (some r6)) else (some false)) else (some false))))))) := by kernel_rfl
noncomputable def C29 (n : Nat) : Call2 E := more tt gl H (C28 n) n 6 Tryd.f6 [.t (.sl (.nm 0)), .t (.nm 1)] (C28 n)

theorem ok0 [Quiet] (n : Nat) : CallOK Tryd.prog gl (callR (C0 n)) := none_ok
theorem ok1 [Quiet] (n : Nat) : CallOK Tryd.prog gl (callR (C1 n)) := more_ok envOK hz tok hmix (ok0 n) (ok0 n) Tryd.func64 (by decide)
theorem ok2 [Quiet] (n : Nat) : CallOK Tryd.prog gl (callR (C2 n)) := more_ok envOK hz tok hmix (ok1 n) (ok1 n) Tryd.func54 (by decide)
theorem ok3 [Quiet] (n : Nat) : CallOK Tryd.prog gl (callR (C3 n)) := more_ok envOK hz tok hmix (ok2 n) (ok2 n) Tryd.func108 (by decide)
theorem ok4 [Quiet] (n : Nat) : CallOK Tryd.prog gl (callR (C4 n)) := more_ok envOK hz tok hmix (ok3 n) (ok3 n) Tryd.func49 (by decide)
theorem ok5 [Quiet] (n : Nat) : CallOK Tryd.prog gl (callR (C5 n)) := more_ok envOK hz tok hmix (ok4 n) (ok4 n) Tryd.func52 (by decide)
theorem ok6 [Quiet] (n : Nat) : CallOK Tryd.prog gl (callR (C6 n)) := more_ok envOK hz tok hmix (ok5 n) (ok5 n) Tryd.func160 (by decide)
theorem ok7 [Quiet] (n : Nat) : CallOK Tryd.prog gl (callR (C7 n)) := more_ok envOK hz tok hmix (ok6 n) (ok6 n) Tryd.func129 (by decide)
theorem ok8 [Quiet] (n : Nat) : CallOK Tryd.prog gl (callR (C8 n)) := more_ok envOK hz tok hmix (ok7 n) (ok7 n) Tryd.func89 (by decide)
theorem ok9 [Quiet] (n : Nat) : CallOK Tryd.prog gl (callR (C9 n)) := more_ok envOK hz tok hmix (ok8 n) (ok8 n) Tryd.func130 (by decide)
theorem ok10 [Quiet] (n : Nat) : CallOK Tryd.prog gl (callR (C10 n)) := more_ok envOK hz tok hmix (ok9 n) (ok9 n) Tryd.func90 (by decide)
theorem pc68 [Quiet] : PlainC (E := E) Tryd.prog gl 68 [(.int .i64)] .str (fun x => itoaO x.1) := itoaP (name := "internal/strconv.uint64pow10") (gp := 3) (fun n h0 h1 w ht => Go.Proofs.Any.strconv_Itoa lay68 n h0 h1 w ht) (by kernel_rfl) rfl
theorem ok11 [Quiet] (n : Nat) : CallOK Tryd.prog gl (callR (C11 n)) := moreP_ok (ok10 n) rfl fnok68 pc68
theorem pc92 : PlainC (E := E) Tryd.prog gl 92 [.str, (.int .i64)] .str (fun x => repO x.1 x.2.1) := plain_sis (F := repO) fun a n w r h => by
  obtain ⟨h1, h2, h3, rfl⟩ := repO_some h
  obtain ⟨c, rfl⟩ : ∃ c : Nat, n = c := ⟨n.toNat, (Int.toNat_of_nonneg h1).symm⟩
  have hs : a.size ≤ 32768 := by rw [Array.length_toList] at h3; exact h3
  exact (Go.Proofs.Any.strings_Repeat lay92 ext92 a c w (by omega) (Nat.le_trans (Nat.mul_le_mul hs (show c ≤ 4294967296 by omega)) (by decide))).mono fun e w' ⟨he, hw⟩ => ⟨he, Ext.below (fun h => h) hw⟩
theorem ok12 (n : Nat) : CallOK Tryd.prog gl (callR (C12 n)) := moreP_ok (ok11 n) rfl fnok92 pc92
theorem ok13 (n : Nat) : CallOK Tryd.prog gl (callR (C13 n)) := more_ok envOK hz tok hmix (ok12 n) (ok12 n) Tryd.func91 (by decide)
theorem ok14 (n : Nat) : CallOK Tryd.prog gl (callR (C14 n)) := more_ok envOK hz tok hmix (ok13 n) (ok13 n) Tryd.func30 (by decide)
theorem ok15 (n : Nat) : CallOK Tryd.prog gl (callR (C15 n)) := more_ok envOK hz tok hmix (ok14 n) (ok14 n) Tryd.func55 (by decide)
theorem ok16 (n : Nat) : CallOK Tryd.prog gl (callR (C16 n)) := more_ok envOK hz tok hmix (ok15 n) (ok15 n) Tryd.func31 (by decide)
theorem pc109 : PlainC (E := E) Tryd.prog gl 109 [(.int .u64), (.int .i64)] .str (fun x => fmtuO x.1 x.2.1) := fmtuP (name := "internal/strconv.uint64pow10") (gp := 3) (fun u hu w ht => fmtu109 u hu w ht) (by kernel_rfl) rfl
theorem ok17 (n : Nat) : CallOK Tryd.prog gl (callR (C17 n)) := moreP_ok (ok16 n) rfl fnok109 pc109
theorem ok18 (n : Nat) : CallOK Tryd.prog gl (callR (C18 n)) := more_ok envOK hz tok hmix (ok17 n) (ok17 n) Tryd.func50 (by decide)
theorem ok19 (n : Nat) : CallOK Tryd.prog gl (callR (C19 n)) := more_ok envOK hz tok hmix (ok18 n) (ok18 n) Tryd.func32 (by decide)
theorem ok20 (n : Nat) : CallOK Tryd.prog gl (callR (C20 n)) := more_ok envOK hz tok hmix (ok19 n) (ok19 n) Tryd.func53 (by decide)
theorem pc134 : PlainC (E := E) Tryd.prog gl 134 [.str, .str] .bool (fun x => hasSufO x.1 x.2.1) := plain_ssb (F := hasSufO) fun a b w r h => by
  obtain ⟨h1, rfl⟩ := hasSufO_some h
  exact Go.Proofs.Any.strings_HasSuffix lay134 a b w (by rw [Array.length_toList] at h1; exact Nat.le_trans h1 (by decide))
theorem ok21 (n : Nat) : CallOK Tryd.prog gl (callR (C21 n)) := moreP_ok (ok20 n) rfl fnok134 pc134
theorem pc95 : PlainC (E := E) Tryd.prog gl 95 [.str, .str] .str (fun x => some (Go.Lib.trimPrefix x.1 x.2.1)) := plain_sss (F := fun a b => some (Go.Lib.trimPrefix a b)) fun a b w r h => by
  have h := Option.some.inj h
  subst h
  exact Go.Proofs.Any.strings_TrimPrefix lay95 a b w
theorem ok22 (n : Nat) : CallOK Tryd.prog gl (callR (C22 n)) := moreP_ok (ok21 n) rfl fnok95 pc95
theorem ok23 (n : Nat) : CallOK Tryd.prog gl (callR (C23 n)) := more_ok envOK hz tok hmix (ok22 n) (ok22 n) Tryd.func135 (by decide)
theorem ok24 (n : Nat) : CallOK Tryd.prog gl (callR (C24 n)) := more_ok envOK hz tok hmix (ok23 n) (ok23 n) Tryd.func110 (by decide)
theorem pc136 : PlainT (E := E) Tryd.prog gl 136 [.str, (.int .i64), (.int .i64)] (.int .u64) (fun x => pu16O x.1 x.2.1 x.2.2.1) := pu16P fun s u h1 h2 h3 w => (pu16_ok lay136 s h1 h2 u h3 w).mono fun e w1 h => ⟨h.1, _, h.2⟩
theorem ok25 (n : Nat) : CallOK Tryd.prog gl (callR (C25 n)) := moreT_ok (ok24 n) rfl fnok136 pc136
theorem ok26 (n : Nat) : CallOK Tryd.prog gl (callR (C26 n)) := more_ok envOK hz tok hmix (ok25 n) (ok25 n) Tryd.func93 (by decide)
theorem ok27 (n : Nat) : CallOK Tryd.prog gl (callR (C27 n)) := more_ok envOK hz tok hmix (ok26 n) (ok26 n) Tryd.func33 (by decide)
theorem ok28 (n : Nat) : CallOK Tryd.prog gl (callR (C28 n)) := more_ok envOK hz tok hmix (ok27 n) (ok27 n) Tryd.func34 (by decide)
theorem ok29 (n : Nat) : CallOK Tryd.prog gl (callR (C29 n)) := more_ok envOK hz tok hmix (ok28 n) (ok28 n) Tryd.func6 (by decide)
theorem law_call (n : Nat) (x0 : List FixedField) (x1 : ApiValue) : callR (C29 n) 6 [.t (.sl (.nm 0)) x0, .t (.nm 1) x1] [.none, .none] = (law2_FixedWrites n x0 x1).map fun r => (.t .bool r, [.none, .none]) := by kernel_rfl
theorem law_full : ∀ t ∈ ([55, 46] : List Nat), ∃ x, tt t = some x ∧ x.ty.full = true := by
  intro t ht
  simp only [List.mem_cons, List.not_mem_nil, or_false] at ht
  rcases ht with rfl | rfl
  · exact ⟨⟨(.sl (.nm 0)), .slice 87⟩, by kernel_rfl, rfl⟩
  · exact ⟨⟨(.nm 1), .struct [(3, 0), (3, 1), (9, 2), (44, 3)]⟩, by kernel_rfl, rfl⟩
theorem law_ins {aa : List (AV E)} (h : Ins E tt [55, 46] aa) {N : Nat} (hb : ∀ g, (aa.map (bulkA E g)).sum ≤ N) : ∃ (x0 : List FixedField) (x1 : ApiValue), aa = [.t (.sl (.nm 0)) x0, .t (.nm 1) x1] ∧ (∀ g, Fv.Good E g (.sl (.nm 0)) x0) ∧ (∀ g, Fv.Good E g (.nm 1) x1) ∧ ∀ g, Bulk E g (.sl (.nm 0)) x0 + Bulk E g (.nm 1) x1 ≤ N := by
  cases h with
  | cons z0 e0 v0 g0 h => 
  have q0 := Option.some.inj (e0.symm.trans (show tt 55 = some ⟨(.sl (.nm 0)), .slice 87⟩ by kernel_rfl))
  subst q0
  cases h with
  | cons z1 e1 v1 g1 h => 
  have q1 := Option.some.inj (e1.symm.trans (show tt 46 = some ⟨(.nm 1), .struct [(3, 0), (3, 1), (9, 2), (44, 3)]⟩ by kernel_rfl))
  subst q1
  cases h
  exact ⟨v0, v1, rfl, g0, g1, fun g => Nat.le_trans (Nat.le_of_eq (by simp [bulkA])) (hb g)⟩
theorem law_pure (ok : ∀ (x0 : List FixedField) (x1 : ApiValue) (h0 : ∀ g, Fv.Good E g (.sl (.nm 0)) x0) (h1 : ∀ g, Fv.Good E g (.nm 1) x1) (hb : ∀ g, Bulk E g (.sl (.nm 0)) x0 + Bulk E g (.nm 1) x1 ≤ 1048576), ∃ n, law2_FixedWrites n x0 x1 = some true) (aa : List (AV E)) (h : Ins E tt [55, 46] aa) (hb : ∀ g, (aa.map (bulkA E g)).sum ≤ 1048576) : ∃ n outs, callR (C29 n) 6 aa (List.replicate ([55, 46] : List Nat).length .none) = some (.t .bool true, outs) := by
  obtain ⟨x0, x1, rfl, h0, h1, hk⟩ := law_ins h hb
  obtain ⟨n, hn⟩ := ok x0 x1 h0 h1 hk
  exact ⟨n, _, (law_call n x0 x1).trans (by rw [hn]; rfl)⟩
end Go.Proofs.YtbmpjppfdeohnaaDoor.PFixedWrites
