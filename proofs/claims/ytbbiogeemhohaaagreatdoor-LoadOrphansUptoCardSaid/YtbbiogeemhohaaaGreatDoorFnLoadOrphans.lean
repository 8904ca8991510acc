/- The functions that the law LoadOrphans reaches, as the evaluator reckons them. No condition. -/
import Derived.Test.YtbbiogeemhohaaaGreatDoorFvI
import Derived.Ground.NamesProg
import Derived.Shelf.Strconv.AtoiAll
import Derived.Shelf.Strconv.Itoa4
import Derived.Test.YtbbiogeemhohaaaGreatDoorChecked
set_option linter.unusedVariables false
set_option maxRecDepth 100000
namespace Go.Proofs.YtbbiogeemhohaaaGreatDoor.PLoadOrphans
open Go Go.Proofs Go.Proofs.YtbbiogeemhohaaaGreatDoor.Fv
instance loud : Quiet := ⟨False⟩

structure Col where
  Name : List UInt8
  Kind : Int

mutual
structure ApiValue where
  Kind : Int
  N : Int
  S : List UInt8
  Fields : List ApiField
structure ApiField where
  Name : List UInt8
  Val : ApiValue
end

structure Rel where
  Name : List UInt8
  Cols : List Col
  Key : List (List UInt8)
  Rows : List (List ApiValue)

structure Foreign where
  From : List UInt8
  Cols : List (List UInt8)
  To : List UInt8

structure Orphan where
  Key : Int
  Row : Int

def R : Nat → Type
  | 0 => Col
  | 1 => ApiValue
  | 2 => ApiField
  | 3 => Rel
  | 4 => Foreign
  | 5 => Orphan
  | _ => Bool
def body : Nat → Ty
  | 0 => (.pair .str (.one (.int .i64)))
  | 1 => (.pair (.int .i64) (.pair (.int .i64) (.pair .str (.one (.sl (.nm 2))))))
  | 2 => (.pair .str (.one (.nm 1)))
  | 3 => (.pair .str (.pair (.sl (.nm 0)) (.pair (.sl .str) (.one (.sl (.sl (.nm 1)))))))
  | 4 => (.pair .str (.pair (.sl .str) (.one .str)))
  | 5 => (.pair (.int .i64) (.one (.int .i64)))
  | _ => .one .bool
def un : (n : Nat) → R n → den R (body n)
  | 0, (x : Col) => (x.Name, x.Kind)
  | 1, (x : ApiValue) => (x.Kind, x.N, x.S, x.Fields)
  | 2, (x : ApiField) => (x.Name, x.Val)
  | 3, (x : Rel) => (x.Name, x.Cols, x.Key, x.Rows)
  | 4, (x : Foreign) => (x.From, x.Cols, x.To)
  | 5, (x : Orphan) => (x.Key, x.Row)
  | _ + 6, x => x
def ro : (n : Nat) → den R (body n) → R n
  | 0, x => Col.mk x.1 x.2
  | 1, x => ApiValue.mk x.1 x.2.1 x.2.2.1 x.2.2.2
  | 2, x => ApiField.mk x.1 x.2
  | 3, x => Rel.mk x.1 x.2.1 x.2.2.1 x.2.2.2
  | 4, x => Foreign.mk x.1 x.2.1 x.2.2
  | 5, x => Orphan.mk x.1 x.2
  | _ + 6, x => x
def dfl0 : (n : Nat) → R n
  | 0 => (Col.mk [] 0)
  | 1 => (ApiValue.mk 0 0 [] [])
  | 2 => (ApiField.mk [] (ApiValue.mk 0 0 [] []))
  | 3 => (Rel.mk [] [] [] [])
  | 4 => (Foreign.mk [] [] [])
  | 5 => (Orphan.mk 0 0)
  | _ + 6 => false
def sz0 : Nat → Nat
  | 0 => 2
  | 1 => 4
  | 2 => 5
  | 3 => 4
  | 4 => 3
  | 5 => 2
  | _ => 1
def zc0 : Nat → List Value
  | 0 => [.string ByteArray.empty, .int .i64 0]
  | 1 => [.int .i64 0, .int .i64 0, .string ByteArray.empty, .slice none 0 0]
  | 2 => [.string ByteArray.empty, .int .i64 0, .int .i64 0, .string ByteArray.empty, .slice none 0 0]
  | 3 => [.string ByteArray.empty, .slice none 0 0, .slice none 0 0, .slice none 0 0]
  | 4 => [.string ByteArray.empty, .slice none 0 0, .string ByteArray.empty]
  | 5 => [.int .i64 0, .int .i64 0]
  | _ => [.bool false]
def E : Env := { R := R, body := body, un := un, ro := ro, dfl := dfl0, sz := sz0, zc := zc0 }
theorem hun : ∀ n x, un n (ro n x) = x
  | 0, _ => rfl
  | 1, _ => rfl
  | 2, _ => rfl
  | 3, _ => rfl
  | 4, _ => rfl
  | 5, _ => rfl
  | _ + 6, _ => rfl
theorem hdf : ∀ n, un n (dfl0 n) = dfl E (body n)
  | 0 => rfl
  | 1 => rfl
  | 2 => rfl
  | 3 => rfl
  | 4 => rfl
  | 5 => rfl
  | _ + 6 => rfl
theorem hsz : ∀ n, sz0 n = size E (body n)
  | 0 => rfl
  | 1 => rfl
  | 2 => rfl
  | 3 => rfl
  | 4 => rfl
  | 5 => rfl
  | _ + 6 => rfl
theorem hzc : ∀ n, zc0 n = zcells E (body n)
  | 0 => rfl
  | 1 => rfl
  | 2 => rfl
  | 3 => rfl
  | 4 => rfl
  | 5 => rfl
  | _ + 6 => rfl
theorem hag : ∀ n, (∃ a, body n = .one a) ∨ ∃ a b, body n = .pair a b
  | 0 => .inr ⟨_, _, rfl⟩
  | 1 => .inr ⟨_, _, rfl⟩
  | 2 => .inr ⟨_, _, rfl⟩
  | 3 => .inr ⟨_, _, rfl⟩
  | 4 => .inr ⟨_, _, rfl⟩
  | 5 => .inr ⟨_, _, rfl⟩
  | _ + 6 => .inl ⟨_, rfl⟩
theorem envOK : EnvOK E := ⟨hun, hdf, hsz, hzc, hag⟩
theorem hz0 (M : Mem) : RC (E := E) M (.nm 0) (dfl0 0) (zc0 0) := RC.nm (E := E) (RC.pair (RC.str ByteArray.empty) (RC.one (RC.int .i64 0)))
theorem hz1 (M : Mem) : RC (E := E) M (.nm 1) (dfl0 1) (zc0 1) := RC.nm (E := E) (RC.pair (RC.int .i64 0) (RC.pair (RC.int .i64 0) (RC.pair (RC.str ByteArray.empty) (RC.one (RC.sl (e := (.nm 2)) [] none 0 (fun _ => []) (Nat.le_refl _) (fun i hi => by simp at hi) (fun i hi => by simp at hi) (fun _ => rfl))))))
theorem hz2 (M : Mem) : RC (E := E) M (.nm 2) (dfl0 2) (zc0 2) := RC.nm (E := E) (RC.pair (RC.str ByteArray.empty) (RC.one (hz1 M)))
theorem hz3 (M : Mem) : RC (E := E) M (.nm 3) (dfl0 3) (zc0 3) := RC.nm (E := E) (RC.pair (RC.str ByteArray.empty) (RC.pair (RC.sl (e := (.nm 0)) [] none 0 (fun _ => []) (Nat.le_refl _) (fun i hi => by simp at hi) (fun i hi => by simp at hi) (fun _ => rfl)) (RC.pair (RC.sl (e := .str) [] none 0 (fun _ => []) (Nat.le_refl _) (fun i hi => by simp at hi) (fun i hi => by simp at hi) (fun _ => rfl)) (RC.one (RC.sl (e := (.sl (.nm 1))) [] none 0 (fun _ => []) (Nat.le_refl _) (fun i hi => by simp at hi) (fun i hi => by simp at hi) (fun _ => rfl))))))
theorem hz4 (M : Mem) : RC (E := E) M (.nm 4) (dfl0 4) (zc0 4) := RC.nm (E := E) (RC.pair (RC.str ByteArray.empty) (RC.pair (RC.sl (e := .str) [] none 0 (fun _ => []) (Nat.le_refl _) (fun i hi => by simp at hi) (fun i hi => by simp at hi) (fun _ => rfl)) (RC.one (RC.str ByteArray.empty))))
theorem hz5 (M : Mem) : RC (E := E) M (.nm 5) (dfl0 5) (zc0 5) := RC.nm (E := E) (RC.pair (RC.int .i64 0) (RC.one (RC.int .i64 0)))
theorem hz : ∀ (M : Mem) n, RC (E := E) M (.nm n) (E.dfl n) (E.zc n)
  | M, 0 => hz0 M
  | M, 1 => hz1 M
  | M, 2 => hz2 M
  | M, 3 => hz3 M
  | M, 4 => hz4 M
  | M, 5 => hz5 M
  | M, _ + 6 => RC.nm (E := E) (RC.one (RC.bool false))
def tl : List (Nat × TE) := [(3, ⟨(.int .i64), .int .i64⟩),
  (4, ⟨.bool, .bool⟩),
  (5, ⟨(.int .u8), .int .u8⟩),
  (9, ⟨.str, .str⟩),
  (23, ⟨(.sl (.nm 3)), .slice 41⟩),
  (24, ⟨(.sl (.nm 4)), .slice 55⟩),
  (25, ⟨(.int .i64), .int .i64⟩),
  (27, ⟨(.sl (.nm 5)), .slice 33⟩),
  (33, ⟨(.nm 5), .struct [(3, 0), (3, 1)]⟩),
  (36, ⟨(.sl (.nm 0)), .slice 60⟩),
  (37, ⟨(.sl .str), .slice 9⟩),
  (39, ⟨(.sl (.sl (.nm 1))), .slice 64⟩),
  (41, ⟨(.nm 3), .struct [(9, 0), (36, 1), (37, 2), (39, 3)]⟩),
  (55, ⟨(.nm 4), .struct [(9, 0), (37, 1), (9, 2)]⟩),
  (57, ⟨.any, .func⟩),
  (60, ⟨(.nm 0), .struct [(9, 0), (3, 1)]⟩),
  (61, ⟨(.sl (.arr 2 (.int .i64))), .slice 89⟩),
  (64, ⟨(.sl (.nm 1)), .slice 70⟩),
  (67, ⟨.any, .func⟩),
  (68, ⟨(.sl (.nm 2)), .slice 102⟩),
  (70, ⟨(.nm 1), .struct [(3, 0), (3, 1), (9, 2), (68, 3)]⟩),
  (73, ⟨.any, .func⟩),
  (89, ⟨(.arr 2 (.int .i64)), .arr 2 3⟩),
  (93, ⟨.any, .func⟩),
  (96, ⟨.any, .iface⟩),
  (102, ⟨(.nm 2), .struct [(9, 0), (70, 1)]⟩),
  (110, ⟨.any, .func⟩),
  (111, ⟨(.mp .str .bool), .map 9 4⟩),
  (119, ⟨.any, .func⟩),
  (129, ⟨.any, .func⟩),
  (137, ⟨(.sl (.int .u8)), .slice 5⟩),
  (155, ⟨(.sl (.int .i64)), .slice 3⟩),
  (189, ⟨.any, .func⟩)]
def tt : Nat → Option TE := look2 tl
theorem tf3 : TFact Tryz.prog E tt 3 ⟨(.int .i64), .int .i64⟩ := TFact.of (z := .int .i64 0) (bs := 8) Tryz.underlying3 ⟨rfl, rfl, rfl⟩ (by kernel_rfl) (by kernel_rfl) (fun h => nomatch h) (by kernel_rfl) (trivial) (fun _ cs h => nomatch h) (trivial)
theorem tf4 : TFact Tryz.prog E tt 4 ⟨.bool, .bool⟩ := TFact.of (z := .bool false) (bs := 1) Tryz.underlying4 ⟨rfl, rfl, rfl⟩ (by kernel_rfl) (by kernel_rfl) (fun h => nomatch h) (by kernel_rfl) (trivial) (fun _ cs h => nomatch h) (trivial)
theorem tf5 : TFact Tryz.prog E tt 5 ⟨(.int .u8), .int .u8⟩ := TFact.of (z := .int .u8 0) (bs := 1) Tryz.underlying5 ⟨rfl, rfl, rfl⟩ (by kernel_rfl) (by kernel_rfl) (fun h => nomatch h) (by kernel_rfl) (trivial) (fun _ cs h => nomatch h) (trivial)
theorem tf9 : TFact Tryz.prog E tt 9 ⟨.str, .str⟩ := TFact.of (z := .string ByteArray.empty) (bs := 16) Tryz.underlying9 ⟨rfl, rfl, rfl⟩ (by kernel_rfl) (by kernel_rfl) (fun h => nomatch h) (by kernel_rfl) (trivial) (fun _ cs h => nomatch h) (trivial)
theorem tf23 : TFact Tryz.prog E tt 23 ⟨(.sl (.nm 3)), .slice 41⟩ := TFact.of (z := .slice none 0 0) (bs := 24) Tryz.underlying23 ⟨rfl, rfl, .inr ⟨by kernel_rfl, by kernel_rfl, by kernel_rfl, of_decide_eq_true (by kernel_rfl), of_decide_eq_true (by kernel_rfl), of_decide_eq_true (by kernel_rfl)⟩⟩ (by kernel_rfl) (by kernel_rfl) (fun h => nomatch h) (by kernel_rfl) (trivial) (fun _ cs h => nomatch h) (trivial)
theorem tf24 : TFact Tryz.prog E tt 24 ⟨(.sl (.nm 4)), .slice 55⟩ := TFact.of (z := .slice none 0 0) (bs := 24) Tryz.underlying24 ⟨rfl, rfl, .inr ⟨by kernel_rfl, by kernel_rfl, by kernel_rfl, of_decide_eq_true (by kernel_rfl), of_decide_eq_true (by kernel_rfl), of_decide_eq_true (by kernel_rfl)⟩⟩ (by kernel_rfl) (by kernel_rfl) (fun h => nomatch h) (by kernel_rfl) (trivial) (fun _ cs h => nomatch h) (trivial)
theorem tf25 : TFact Tryz.prog E tt 25 ⟨(.int .i64), .int .i64⟩ := TFact.of (z := .int .i64 0) (bs := 8) Tryz.underlying25 ⟨rfl, rfl, rfl⟩ (by kernel_rfl) (by kernel_rfl) (fun h => nomatch h) (by kernel_rfl) (trivial) (fun _ cs h => nomatch h) (trivial)
theorem tf27 : TFact Tryz.prog E tt 27 ⟨(.sl (.nm 5)), .slice 33⟩ := TFact.of (z := .slice none 0 0) (bs := 24) Tryz.underlying27 ⟨rfl, rfl, .inr ⟨by kernel_rfl, by kernel_rfl, by kernel_rfl, of_decide_eq_true (by kernel_rfl), of_decide_eq_true (by kernel_rfl), of_decide_eq_true (by kernel_rfl)⟩⟩ (by kernel_rfl) (by kernel_rfl) (fun h => nomatch h) (by kernel_rfl) (trivial) (fun _ cs h => nomatch h) (trivial)
theorem tf33 : TFact Tryz.prog E tt 33 ⟨(.nm 5), .struct [(3, 0), (3, 1)]⟩ := TFact.of (z := .agg #[.int .i64 0, .int .i64 0]) (bs := 16) Tryz.underlying33 ⟨by kernel_rfl, ⟨_, rfl, rfl⟩, by kernel_rfl, by kernel_rfl⟩ (by kernel_rfl) (by kernel_rfl) (fun _ => rfl) (by kernel_rfl) (show (Value.cells (.agg #[.int .i64 0, .int .i64 0])).toList = (List.map (fun f => zA (E := E) (zeroA tt 20 f.1)) [(3, 0), (3, 1)]).flatten from by kernel_rfl) (fun h => nomatch h) (fun _ => ⟨names_of Tryz.underlying33 (by kernel_rfl), by kernel_rfl, by kernel_rfl⟩)
theorem tf36 : TFact Tryz.prog E tt 36 ⟨(.sl (.nm 0)), .slice 60⟩ := TFact.of (z := .slice none 0 0) (bs := 24) Tryz.underlying36 ⟨rfl, rfl, .inr ⟨by kernel_rfl, by kernel_rfl, by kernel_rfl, of_decide_eq_true (by kernel_rfl), of_decide_eq_true (by kernel_rfl), of_decide_eq_true (by kernel_rfl)⟩⟩ (by kernel_rfl) (by kernel_rfl) (fun h => nomatch h) (by kernel_rfl) (trivial) (fun _ cs h => nomatch h) (trivial)
theorem tf37 : TFact Tryz.prog E tt 37 ⟨(.sl .str), .slice 9⟩ := TFact.of (z := .slice none 0 0) (bs := 24) Tryz.underlying37 ⟨rfl, rfl, .inr ⟨by kernel_rfl, by kernel_rfl, by kernel_rfl, of_decide_eq_true (by kernel_rfl), of_decide_eq_true (by kernel_rfl), of_decide_eq_true (by kernel_rfl)⟩⟩ (by kernel_rfl) (by kernel_rfl) (fun h => nomatch h) (by kernel_rfl) (trivial) (fun _ cs h => nomatch h) (trivial)
theorem tf39 : TFact Tryz.prog E tt 39 ⟨(.sl (.sl (.nm 1))), .slice 64⟩ := TFact.of (z := .slice none 0 0) (bs := 24) Tryz.underlying39 ⟨rfl, rfl, .inr ⟨by kernel_rfl, by kernel_rfl, by kernel_rfl, of_decide_eq_true (by kernel_rfl), of_decide_eq_true (by kernel_rfl), of_decide_eq_true (by kernel_rfl)⟩⟩ (by kernel_rfl) (by kernel_rfl) (fun h => nomatch h) (by kernel_rfl) (trivial) (fun _ cs h => nomatch h) (trivial)
theorem tf41 : TFact Tryz.prog E tt 41 ⟨(.nm 3), .struct [(9, 0), (36, 1), (37, 2), (39, 3)]⟩ := TFact.of (z := .agg #[.string ByteArray.empty, .slice none 0 0, .slice none 0 0, .slice none 0 0]) (bs := 88) Tryz.underlying41 ⟨by kernel_rfl, ⟨_, rfl, rfl⟩, by kernel_rfl, by kernel_rfl⟩ (by kernel_rfl) (by kernel_rfl) (fun _ => rfl) (by kernel_rfl) (show (Value.cells (.agg #[.string ByteArray.empty, .slice none 0 0, .slice none 0 0, .slice none 0 0])).toList = (List.map (fun f => zA (E := E) (zeroA tt 20 f.1)) [(9, 0), (36, 1), (37, 2), (39, 3)]).flatten from by kernel_rfl) (fun h => nomatch h) (fun h => absurd (h.symm.trans (show eqC tt (bodyOf E (.nm 3)) 0 [(9, 0), (36, 1), (37, 2), (39, 3)] = false from by kernel_rfl)) (by decide))
theorem tf55 : TFact Tryz.prog E tt 55 ⟨(.nm 4), .struct [(9, 0), (37, 1), (9, 2)]⟩ := TFact.of (z := .agg #[.string ByteArray.empty, .slice none 0 0, .string ByteArray.empty]) (bs := 56) Tryz.underlying55 ⟨by kernel_rfl, ⟨_, rfl, rfl⟩, by kernel_rfl, by kernel_rfl⟩ (by kernel_rfl) (by kernel_rfl) (fun _ => rfl) (by kernel_rfl) (show (Value.cells (.agg #[.string ByteArray.empty, .slice none 0 0, .string ByteArray.empty])).toList = (List.map (fun f => zA (E := E) (zeroA tt 20 f.1)) [(9, 0), (37, 1), (9, 2)]).flatten from by kernel_rfl) (fun h => nomatch h) (fun h => absurd (h.symm.trans (show eqC tt (bodyOf E (.nm 4)) 0 [(9, 0), (37, 1), (9, 2)] = false from by kernel_rfl)) (by decide))
theorem tf57 : TFact Tryz.prog E tt 57 ⟨.any, .func⟩ := TFact.of (z := .nilFunc) (bs := 8) Tryz.underlying57 ⟨rfl, _, _, _, rfl⟩ (by kernel_rfl) (by kernel_rfl) (fun h => nomatch h) (by kernel_rfl) (trivial) (fun _ cs h => nomatch h) (trivial)
theorem tf60 : TFact Tryz.prog E tt 60 ⟨(.nm 0), .struct [(9, 0), (3, 1)]⟩ := TFact.of (z := .agg #[.string ByteArray.empty, .int .i64 0]) (bs := 24) Tryz.underlying60 ⟨by kernel_rfl, ⟨_, rfl, rfl⟩, by kernel_rfl, by kernel_rfl⟩ (by kernel_rfl) (by kernel_rfl) (fun _ => rfl) (by kernel_rfl) (show (Value.cells (.agg #[.string ByteArray.empty, .int .i64 0])).toList = (List.map (fun f => zA (E := E) (zeroA tt 20 f.1)) [(9, 0), (3, 1)]).flatten from by kernel_rfl) (fun h => nomatch h) (fun _ => ⟨names_of Tryz.underlying60 (by kernel_rfl), by kernel_rfl, by kernel_rfl⟩)
theorem tf61 : TFact Tryz.prog E tt 61 ⟨(.sl (.arr 2 (.int .i64))), .slice 89⟩ := TFact.of (z := .slice none 0 0) (bs := 24) Tryz.underlying61 ⟨rfl, rfl, .inr ⟨by kernel_rfl, by kernel_rfl, by kernel_rfl, of_decide_eq_true (by kernel_rfl), of_decide_eq_true (by kernel_rfl), of_decide_eq_true (by kernel_rfl)⟩⟩ (by kernel_rfl) (by kernel_rfl) (fun h => nomatch h) (by kernel_rfl) (trivial) (fun _ cs h => nomatch h) (trivial)
theorem tf64 : TFact Tryz.prog E tt 64 ⟨(.sl (.nm 1)), .slice 70⟩ := TFact.of (z := .slice none 0 0) (bs := 24) Tryz.underlying64 ⟨rfl, rfl, .inr ⟨by kernel_rfl, by kernel_rfl, by kernel_rfl, of_decide_eq_true (by kernel_rfl), of_decide_eq_true (by kernel_rfl), of_decide_eq_true (by kernel_rfl)⟩⟩ (by kernel_rfl) (by kernel_rfl) (fun h => nomatch h) (by kernel_rfl) (trivial) (fun _ cs h => nomatch h) (trivial)
theorem tf67 : TFact Tryz.prog E tt 67 ⟨.any, .func⟩ := TFact.of (z := .nilFunc) (bs := 8) Tryz.underlying67 ⟨rfl, _, _, _, rfl⟩ (by kernel_rfl) (by kernel_rfl) (fun h => nomatch h) (by kernel_rfl) (trivial) (fun _ cs h => nomatch h) (trivial)
theorem tf68 : TFact Tryz.prog E tt 68 ⟨(.sl (.nm 2)), .slice 102⟩ := TFact.of (z := .slice none 0 0) (bs := 24) Tryz.underlying68 ⟨rfl, rfl, .inr ⟨by kernel_rfl, by kernel_rfl, by kernel_rfl, of_decide_eq_true (by kernel_rfl), of_decide_eq_true (by kernel_rfl), of_decide_eq_true (by kernel_rfl)⟩⟩ (by kernel_rfl) (by kernel_rfl) (fun h => nomatch h) (by kernel_rfl) (trivial) (fun _ cs h => nomatch h) (trivial)
theorem tf70 : TFact Tryz.prog E tt 70 ⟨(.nm 1), .struct [(3, 0), (3, 1), (9, 2), (68, 3)]⟩ := TFact.of (z := .agg #[.int .i64 0, .int .i64 0, .string ByteArray.empty, .slice none 0 0]) (bs := 56) Tryz.underlying70 ⟨by kernel_rfl, ⟨_, rfl, rfl⟩, by kernel_rfl, by kernel_rfl⟩ (by kernel_rfl) (by kernel_rfl) (fun _ => rfl) (by kernel_rfl) (show (Value.cells (.agg #[.int .i64 0, .int .i64 0, .string ByteArray.empty, .slice none 0 0])).toList = (List.map (fun f => zA (E := E) (zeroA tt 20 f.1)) [(3, 0), (3, 1), (9, 2), (68, 3)]).flatten from by kernel_rfl) (fun h => nomatch h) (fun h => absurd (h.symm.trans (show eqC tt (bodyOf E (.nm 1)) 0 [(3, 0), (3, 1), (9, 2), (68, 3)] = false from by kernel_rfl)) (by decide))
theorem tf73 : TFact Tryz.prog E tt 73 ⟨.any, .func⟩ := TFact.of (z := .nilFunc) (bs := 8) Tryz.underlying73 ⟨rfl, _, _, _, rfl⟩ (by kernel_rfl) (by kernel_rfl) (fun h => nomatch h) (by kernel_rfl) (trivial) (fun _ cs h => nomatch h) (trivial)
theorem tf89 : TFact Tryz.prog E tt 89 ⟨(.arr 2 (.int .i64)), .arr 2 3⟩ := TFact.of (z := .agg #[.int .i64 0, .int .i64 0]) (bs := 16) Tryz.underlying89 ⟨rfl, rfl, by kernel_rfl, by kernel_rfl⟩ (by kernel_rfl) (by kernel_rfl) (fun _ => rfl) (by kernel_rfl) (trivial) (fun h => nomatch h) (fun _ => by kernel_rfl)
theorem tf93 : TFact Tryz.prog E tt 93 ⟨.any, .func⟩ := TFact.of (z := .nilFunc) (bs := 8) Tryz.underlying93 ⟨rfl, _, _, _, rfl⟩ (by kernel_rfl) (by kernel_rfl) (fun h => nomatch h) (by kernel_rfl) (trivial) (fun _ cs h => nomatch h) (trivial)
theorem tf96 : TFact Tryz.prog E tt 96 ⟨.any, .iface⟩ := TFact.of (z := .nilIface) (bs := 16) Tryz.underlying96 ⟨rfl, _, rfl⟩ (by kernel_rfl) (by kernel_rfl) (fun h => nomatch h) (by kernel_rfl) (trivial) (fun _ cs h => nomatch h) (trivial)
theorem tf102 : TFact Tryz.prog E tt 102 ⟨(.nm 2), .struct [(9, 0), (70, 1)]⟩ := TFact.of (z := .agg #[.string ByteArray.empty, .int .i64 0, .int .i64 0, .string ByteArray.empty, .slice none 0 0]) (bs := 72) Tryz.underlying102 ⟨by kernel_rfl, ⟨_, rfl, rfl⟩, by kernel_rfl, by kernel_rfl⟩ (by kernel_rfl) (by kernel_rfl) (fun _ => rfl) (by kernel_rfl) (show (Value.cells (.agg #[.string ByteArray.empty, .int .i64 0, .int .i64 0, .string ByteArray.empty, .slice none 0 0])).toList = (List.map (fun f => zA (E := E) (zeroA tt 20 f.1)) [(9, 0), (70, 1)]).flatten from by kernel_rfl) (fun h => nomatch h) (fun h => absurd (h.symm.trans (show eqC tt (bodyOf E (.nm 2)) 0 [(9, 0), (70, 1)] = false from by kernel_rfl)) (by decide))
theorem tf110 : TFact Tryz.prog E tt 110 ⟨.any, .func⟩ := TFact.of (z := .nilFunc) (bs := 8) Tryz.underlying110 ⟨rfl, _, _, _, rfl⟩ (by kernel_rfl) (by kernel_rfl) (fun h => nomatch h) (by kernel_rfl) (trivial) (fun _ cs h => nomatch h) (trivial)
theorem tf111 : TFact Tryz.prog E tt 111 ⟨(.mp .str .bool), .map 9 4⟩ := TFact.of (z := .map none) (bs := 8) Tryz.underlying111 ⟨rfl, rfl, by kernel_rfl, by kernel_rfl, .inr rfl⟩ (by kernel_rfl) (by kernel_rfl) (fun h => nomatch h) (by kernel_rfl) (trivial) (fun _ cs h => nomatch h) (trivial)
theorem tf119 : TFact Tryz.prog E tt 119 ⟨.any, .func⟩ := TFact.of (z := .nilFunc) (bs := 8) Tryz.underlying119 ⟨rfl, _, _, _, rfl⟩ (by kernel_rfl) (by kernel_rfl) (fun h => nomatch h) (by kernel_rfl) (trivial) (fun _ cs h => nomatch h) (trivial)
theorem tf129 : TFact Tryz.prog E tt 129 ⟨.any, .func⟩ := TFact.of (z := .nilFunc) (bs := 8) Tryz.underlying129 ⟨rfl, _, _, _, rfl⟩ (by kernel_rfl) (by kernel_rfl) (fun h => nomatch h) (by kernel_rfl) (trivial) (fun _ cs h => nomatch h) (trivial)
theorem tf137 : TFact Tryz.prog E tt 137 ⟨(.sl (.int .u8)), .slice 5⟩ := TFact.of (z := .slice none 0 0) (bs := 24) Tryz.underlying137 ⟨rfl, rfl, .inr ⟨by kernel_rfl, by kernel_rfl, by kernel_rfl, of_decide_eq_true (by kernel_rfl), of_decide_eq_true (by kernel_rfl), of_decide_eq_true (by kernel_rfl)⟩⟩ (by kernel_rfl) (by kernel_rfl) (fun h => nomatch h) (by kernel_rfl) (trivial) (fun _ cs h => nomatch h) (trivial)
theorem tf155 : TFact Tryz.prog E tt 155 ⟨(.sl (.int .i64)), .slice 3⟩ := TFact.of (z := .slice none 0 0) (bs := 24) Tryz.underlying155 ⟨rfl, rfl, .inr ⟨by kernel_rfl, by kernel_rfl, by kernel_rfl, of_decide_eq_true (by kernel_rfl), of_decide_eq_true (by kernel_rfl), of_decide_eq_true (by kernel_rfl)⟩⟩ (by kernel_rfl) (by kernel_rfl) (fun h => nomatch h) (by kernel_rfl) (trivial) (fun _ cs h => nomatch h) (trivial)
theorem tf189 : TFact Tryz.prog E tt 189 ⟨.any, .func⟩ := TFact.of (z := .nilFunc) (bs := 8) Tryz.underlying189 ⟨rfl, _, _, _, rfl⟩ (by kernel_rfl) (by kernel_rfl) (fun h => nomatch h) (by kernel_rfl) (trivial) (fun _ cs h => nomatch h) (trivial)
theorem tok : TOK Tryz.prog E tt := TOK.of (mem_cons2 tf3 (mem_cons2 tf4 (mem_cons2 tf5 (mem_cons2 tf9 (mem_cons2 tf23 (mem_cons2 tf24 (mem_cons2 tf25 (mem_cons2 tf27 (mem_cons2 tf33 (mem_cons2 tf36 (mem_cons2 tf37 (mem_cons2 tf39 (mem_cons2 tf41 (mem_cons2 tf55 (mem_cons2 tf57 (mem_cons2 tf60 (mem_cons2 tf61 (mem_cons2 tf64 (mem_cons2 tf67 (mem_cons2 tf68 (mem_cons2 tf70 (mem_cons2 tf73 (mem_cons2 tf89 (mem_cons2 tf93 (mem_cons2 tf96 (mem_cons2 tf102 (mem_cons2 tf110 (mem_cons2 tf111 (mem_cons2 tf119 (mem_cons2 tf129 (mem_cons2 tf137 (mem_cons2 tf155 (mem_cons2 tf189 mem_nil2)))))))))))))))))))))))))))))))))
def tlr : List (Nat × TE) := [(3, ⟨(.int .i64), .int .i64⟩),
  (9, ⟨.str, .str⟩),
  (23, ⟨(.sl (.nm 3)), .slice 41⟩),
  (24, ⟨(.sl (.nm 4)), .slice 55⟩),
  (36, ⟨(.sl (.nm 0)), .slice 60⟩),
  (37, ⟨(.sl .str), .slice 9⟩),
  (39, ⟨(.sl (.sl (.nm 1))), .slice 64⟩),
  (41, ⟨(.nm 3), .struct [(9, 0), (36, 1), (37, 2), (39, 3)]⟩),
  (55, ⟨(.nm 4), .struct [(9, 0), (37, 1), (9, 2)]⟩),
  (60, ⟨(.nm 0), .struct [(9, 0), (3, 1)]⟩),
  (64, ⟨(.sl (.nm 1)), .slice 70⟩),
  (68, ⟨(.sl (.nm 2)), .slice 102⟩),
  (70, ⟨(.nm 1), .struct [(3, 0), (3, 1), (9, 2), (68, 3)]⟩),
  (102, ⟨(.nm 2), .struct [(9, 0), (70, 1)]⟩)]
def ttr : Nat → Option TE := look2 tlr
theorem tfr3 : TFact Tryz.prog E ttr 3 ⟨(.int .i64), .int .i64⟩ := TFact.of (z := .int .i64 0) (bs := 8) Tryz.underlying3 ⟨rfl, rfl, rfl⟩ (by kernel_rfl) (by kernel_rfl) (fun h => nomatch h) (by kernel_rfl) (trivial) (fun _ cs h => nomatch h) (trivial)
theorem tfr9 : TFact Tryz.prog E ttr 9 ⟨.str, .str⟩ := TFact.of (z := .string ByteArray.empty) (bs := 16) Tryz.underlying9 ⟨rfl, rfl, rfl⟩ (by kernel_rfl) (by kernel_rfl) (fun h => nomatch h) (by kernel_rfl) (trivial) (fun _ cs h => nomatch h) (trivial)
theorem tfr23 : TFact Tryz.prog E ttr 23 ⟨(.sl (.nm 3)), .slice 41⟩ := TFact.of (z := .slice none 0 0) (bs := 24) Tryz.underlying23 ⟨rfl, rfl, .inr ⟨by kernel_rfl, by kernel_rfl, by kernel_rfl, of_decide_eq_true (by kernel_rfl), of_decide_eq_true (by kernel_rfl), of_decide_eq_true (by kernel_rfl)⟩⟩ (by kernel_rfl) (by kernel_rfl) (fun h => nomatch h) (by kernel_rfl) (trivial) (fun _ cs h => nomatch h) (trivial)
theorem tfr24 : TFact Tryz.prog E ttr 24 ⟨(.sl (.nm 4)), .slice 55⟩ := TFact.of (z := .slice none 0 0) (bs := 24) Tryz.underlying24 ⟨rfl, rfl, .inr ⟨by kernel_rfl, by kernel_rfl, by kernel_rfl, of_decide_eq_true (by kernel_rfl), of_decide_eq_true (by kernel_rfl), of_decide_eq_true (by kernel_rfl)⟩⟩ (by kernel_rfl) (by kernel_rfl) (fun h => nomatch h) (by kernel_rfl) (trivial) (fun _ cs h => nomatch h) (trivial)
theorem tfr36 : TFact Tryz.prog E ttr 36 ⟨(.sl (.nm 0)), .slice 60⟩ := TFact.of (z := .slice none 0 0) (bs := 24) Tryz.underlying36 ⟨rfl, rfl, .inr ⟨by kernel_rfl, by kernel_rfl, by kernel_rfl, of_decide_eq_true (by kernel_rfl), of_decide_eq_true (by kernel_rfl), of_decide_eq_true (by kernel_rfl)⟩⟩ (by kernel_rfl) (by kernel_rfl) (fun h => nomatch h) (by kernel_rfl) (trivial) (fun _ cs h => nomatch h) (trivial)
theorem tfr37 : TFact Tryz.prog E ttr 37 ⟨(.sl .str), .slice 9⟩ := TFact.of (z := .slice none 0 0) (bs := 24) Tryz.underlying37 ⟨rfl, rfl, .inr ⟨by kernel_rfl, by kernel_rfl, by kernel_rfl, of_decide_eq_true (by kernel_rfl), of_decide_eq_true (by kernel_rfl), of_decide_eq_true (by kernel_rfl)⟩⟩ (by kernel_rfl) (by kernel_rfl) (fun h => nomatch h) (by kernel_rfl) (trivial) (fun _ cs h => nomatch h) (trivial)
theorem tfr39 : TFact Tryz.prog E ttr 39 ⟨(.sl (.sl (.nm 1))), .slice 64⟩ := TFact.of (z := .slice none 0 0) (bs := 24) Tryz.underlying39 ⟨rfl, rfl, .inr ⟨by kernel_rfl, by kernel_rfl, by kernel_rfl, of_decide_eq_true (by kernel_rfl), of_decide_eq_true (by kernel_rfl), of_decide_eq_true (by kernel_rfl)⟩⟩ (by kernel_rfl) (by kernel_rfl) (fun h => nomatch h) (by kernel_rfl) (trivial) (fun _ cs h => nomatch h) (trivial)
theorem tfr41 : TFact Tryz.prog E ttr 41 ⟨(.nm 3), .struct [(9, 0), (36, 1), (37, 2), (39, 3)]⟩ := TFact.of (z := .agg #[.string ByteArray.empty, .slice none 0 0, .slice none 0 0, .slice none 0 0]) (bs := 88) Tryz.underlying41 ⟨by kernel_rfl, ⟨_, rfl, rfl⟩, by kernel_rfl, by kernel_rfl⟩ (by kernel_rfl) (by kernel_rfl) (fun _ => rfl) (by kernel_rfl) (show (Value.cells (.agg #[.string ByteArray.empty, .slice none 0 0, .slice none 0 0, .slice none 0 0])).toList = (List.map (fun f => zA (E := E) (zeroA ttr 20 f.1)) [(9, 0), (36, 1), (37, 2), (39, 3)]).flatten from by kernel_rfl) (fun h => nomatch h) (fun h => absurd (h.symm.trans (show eqC ttr (bodyOf E (.nm 3)) 0 [(9, 0), (36, 1), (37, 2), (39, 3)] = false from by kernel_rfl)) (by decide))
theorem tfr55 : TFact Tryz.prog E ttr 55 ⟨(.nm 4), .struct [(9, 0), (37, 1), (9, 2)]⟩ := TFact.of (z := .agg #[.string ByteArray.empty, .slice none 0 0, .string ByteArray.empty]) (bs := 56) Tryz.underlying55 ⟨by kernel_rfl, ⟨_, rfl, rfl⟩, by kernel_rfl, by kernel_rfl⟩ (by kernel_rfl) (by kernel_rfl) (fun _ => rfl) (by kernel_rfl) (show (Value.cells (.agg #[.string ByteArray.empty, .slice none 0 0, .string ByteArray.empty])).toList = (List.map (fun f => zA (E := E) (zeroA ttr 20 f.1)) [(9, 0), (37, 1), (9, 2)]).flatten from by kernel_rfl) (fun h => nomatch h) (fun h => absurd (h.symm.trans (show eqC ttr (bodyOf E (.nm 4)) 0 [(9, 0), (37, 1), (9, 2)] = false from by kernel_rfl)) (by decide))
theorem tfr60 : TFact Tryz.prog E ttr 60 ⟨(.nm 0), .struct [(9, 0), (3, 1)]⟩ := TFact.of (z := .agg #[.string ByteArray.empty, .int .i64 0]) (bs := 24) Tryz.underlying60 ⟨by kernel_rfl, ⟨_, rfl, rfl⟩, by kernel_rfl, by kernel_rfl⟩ (by kernel_rfl) (by kernel_rfl) (fun _ => rfl) (by kernel_rfl) (show (Value.cells (.agg #[.string ByteArray.empty, .int .i64 0])).toList = (List.map (fun f => zA (E := E) (zeroA ttr 20 f.1)) [(9, 0), (3, 1)]).flatten from by kernel_rfl) (fun h => nomatch h) (fun _ => ⟨names_of Tryz.underlying60 (by kernel_rfl), by kernel_rfl, by kernel_rfl⟩)
theorem tfr64 : TFact Tryz.prog E ttr 64 ⟨(.sl (.nm 1)), .slice 70⟩ := TFact.of (z := .slice none 0 0) (bs := 24) Tryz.underlying64 ⟨rfl, rfl, .inr ⟨by kernel_rfl, by kernel_rfl, by kernel_rfl, of_decide_eq_true (by kernel_rfl), of_decide_eq_true (by kernel_rfl), of_decide_eq_true (by kernel_rfl)⟩⟩ (by kernel_rfl) (by kernel_rfl) (fun h => nomatch h) (by kernel_rfl) (trivial) (fun _ cs h => nomatch h) (trivial)
theorem tfr68 : TFact Tryz.prog E ttr 68 ⟨(.sl (.nm 2)), .slice 102⟩ := TFact.of (z := .slice none 0 0) (bs := 24) Tryz.underlying68 ⟨rfl, rfl, .inr ⟨by kernel_rfl, by kernel_rfl, by kernel_rfl, of_decide_eq_true (by kernel_rfl), of_decide_eq_true (by kernel_rfl), of_decide_eq_true (by kernel_rfl)⟩⟩ (by kernel_rfl) (by kernel_rfl) (fun h => nomatch h) (by kernel_rfl) (trivial) (fun _ cs h => nomatch h) (trivial)
theorem tfr70 : TFact Tryz.prog E ttr 70 ⟨(.nm 1), .struct [(3, 0), (3, 1), (9, 2), (68, 3)]⟩ := TFact.of (z := .agg #[.int .i64 0, .int .i64 0, .string ByteArray.empty, .slice none 0 0]) (bs := 56) Tryz.underlying70 ⟨by kernel_rfl, ⟨_, rfl, rfl⟩, by kernel_rfl, by kernel_rfl⟩ (by kernel_rfl) (by kernel_rfl) (fun _ => rfl) (by kernel_rfl) (show (Value.cells (.agg #[.int .i64 0, .int .i64 0, .string ByteArray.empty, .slice none 0 0])).toList = (List.map (fun f => zA (E := E) (zeroA ttr 20 f.1)) [(3, 0), (3, 1), (9, 2), (68, 3)]).flatten from by kernel_rfl) (fun h => nomatch h) (fun h => absurd (h.symm.trans (show eqC ttr (bodyOf E (.nm 1)) 0 [(3, 0), (3, 1), (9, 2), (68, 3)] = false from by kernel_rfl)) (by decide))
theorem tfr102 : TFact Tryz.prog E ttr 102 ⟨(.nm 2), .struct [(9, 0), (70, 1)]⟩ := TFact.of (z := .agg #[.string ByteArray.empty, .int .i64 0, .int .i64 0, .string ByteArray.empty, .slice none 0 0]) (bs := 72) Tryz.underlying102 ⟨by kernel_rfl, ⟨_, rfl, rfl⟩, by kernel_rfl, by kernel_rfl⟩ (by kernel_rfl) (by kernel_rfl) (fun _ => rfl) (by kernel_rfl) (show (Value.cells (.agg #[.string ByteArray.empty, .int .i64 0, .int .i64 0, .string ByteArray.empty, .slice none 0 0])).toList = (List.map (fun f => zA (E := E) (zeroA ttr 20 f.1)) [(9, 0), (70, 1)]).flatten from by kernel_rfl) (fun h => nomatch h) (fun h => absurd (h.symm.trans (show eqC ttr (bodyOf E (.nm 2)) 0 [(9, 0), (70, 1)] = false from by kernel_rfl)) (by decide))
theorem tokr : TOK Tryz.prog E ttr := TOK.of (mem_cons2 tfr3 (mem_cons2 tfr9 (mem_cons2 tfr23 (mem_cons2 tfr24 (mem_cons2 tfr36 (mem_cons2 tfr37 (mem_cons2 tfr39 (mem_cons2 tfr41 (mem_cons2 tfr55 (mem_cons2 tfr60 (mem_cons2 tfr64 (mem_cons2 tfr68 (mem_cons2 tfr70 (mem_cons2 tfr102 mem_nil2))))))))))))))
theorem rdok : RdOK Tryz.prog E ttr := RdOK.of (by kernel_rfl)
theorem law_sub : ∀ t ∈ ([23, 24] : List Nat), ttr t = tt t := by
  intro t ht
  simp only [List.mem_cons, List.not_mem_nil, or_false] at ht
  rcases ht with rfl | rfl
  · kernel_rfl
  · kernel_rfl
theorem hmix : Tryz.prog.follows .mixedOrders = true := by kernel_rfl
def hKeep (f b : Nat) : List (Nat × Nat) := bif Nat.beq f 5 then (bif Nat.beq b 0 then [(0, 0), (22, 0), (23, 0), (24, 0)] else bif Nat.beq b 2 then [(0, 0), (8, 0), (9, 0), (22, 0), (23, 0), (24, 0), (54, 0), (55, 0), (56, 0)] else []) else bif Nat.beq f 6 then (bif Nat.beq b 0 then [(0, 0), (7, 1), (22, 0), (23, 0), (24, 0)] else bif Nat.beq b 2 then [(0, 0), (7, 1), (8, 0), (11, 0), (12, 0), (22, 0), (23, 0), (24, 0), (38, 0), (39, 0), (40, 0)] else []) else bif Nat.beq f 8 then (bif Nat.beq b 0 then [(0, 0), (20, 0), (21, 0), (22, 0)] else []) else bif Nat.beq f 9 then (bif Nat.beq b 0 then [(0, 0), (1, 0), (12, 0), (13, 0)] else []) else bif Nat.beq f 10 then (bif Nat.beq b 0 then [(0, 0), (5, 1), (15, 0), (16, 0), (17, 0)] else bif Nat.beq b 2 then [(0, 0), (5, 1), (6, 0), (7, 0), (8, 0), (9, 0), (15, 0), (16, 0), (17, 0), (35, 0), (36, 0), (37, 0)] else bif Nat.beq b 4 then [(0, 0), (5, 1), (6, 0), (7, 0), (8, 0), (9, 0), (10, 0), (11, 0), (12, 0), (15, 0), (16, 0), (17, 0), (35, 0), (36, 0), (37, 0), (43, 0), (44, 0), (45, 0)] else []) else bif Nat.beq f 12 then (bif Nat.beq b 0 then [(1, 0), (21, 0), (22, 0), (23, 0)] else bif Nat.beq b 2 then [(1, 0), (7, 1), (53, 0), (54, 0), (55, 0)] else bif Nat.beq b 4 then [(7, 1), (69, 0), (70, 0)] else []) else bif Nat.beq f 16 then (bif Nat.beq b 0 then [(3, 0), (10, 0), (11, 0), (12, 0)] else []) else bif Nat.beq f 17 then (bif Nat.beq b 0 then [(0, 0), (1, 0), (7, 0), (8, 0)] else []) else bif Nat.beq f 20 then (bif Nat.beq b 0 then [(1, 0), (8, 0), (9, 0), (10, 0)] else []) else bif Nat.beq f 21 then (bif Nat.beq b 0 then [(4, 0), (5, 0), (8, 0), (10, 0), (12, 1), (57, 0), (58, 0), (59, 0)] else []) else bif Nat.beq f 26 then (bif Nat.beq b 0 then [(0, 0), (9, 0), (10, 0), (11, 0)] else []) else bif Nat.beq f 31 then (bif Nat.beq b 0 then [(1, 0), (2, 0), (5, 1), (9, 0), (10, 0), (11, 0)] else []) else bif Nat.beq f 34 then (bif Nat.beq b 0 then [(1, 0), (21, 0), (22, 0), (23, 0)] else bif Nat.beq b 2 then [(1, 0), (53, 0), (54, 0), (55, 0)] else bif Nat.beq b 4 then [(1, 0), (8, 0), (53, 0), (54, 0), (55, 0), (63, 0), (64, 0), (65, 0)] else []) else bif Nat.beq f 37 then (bif Nat.beq b 0 then [(1, 0), (3, 0), (4, 0), (24, 0), (25, 0), (26, 0)] else bif Nat.beq b 3 then [(3, 0), (4, 0), (54, 0), (55, 0), (56, 0)] else []) else bif Nat.beq f 38 then (bif Nat.beq b 0 then [(1, 0), (2, 0), (14, 0), (15, 0)] else []) else bif Nat.beq f 44 then (bif Nat.beq b 0 then [(1, 0), (4, 0), (8, 0), (9, 0), (10, 0)] else []) else bif Nat.beq f 46 then (bif Nat.beq b 0 then [(0, 0), (1, 0), (7, 0), (8, 0)] else []) else bif Nat.beq f 50 then (bif Nat.beq b 0 then [(0, 0), (1, 0), (7, 0), (8, 0)] else []) else bif Nat.beq f 54 then (bif Nat.beq b 0 then [(2, 0), (3, 0), (7, 0), (8, 0), (9, 0)] else []) else bif Nat.beq f 56 then (bif Nat.beq b 1 then [(1, 0), (25, 0), (26, 0), (27, 0)] else bif Nat.beq b 4 then [(1, 0), (51, 0), (52, 0), (53, 0)] else []) else bif Nat.beq f 57 then (bif Nat.beq b 0 then [(2, 0), (14, 0), (15, 0), (16, 0)] else []) else bif Nat.beq f 58 then (bif Nat.beq b 0 then [(0, 0), (1, 0), (11, 0), (12, 0)] else []) else bif Nat.beq f 64 then (bif Nat.beq b 0 then [(3, 1), (8, 0), (9, 0), (10, 0)] else bif Nat.beq b 2 then [(3, 1), (5, 0), (6, 1), (8, 0), (9, 0), (10, 0), (18, 0), (19, 0)] else []) else bif Nat.beq f 65 then (bif Nat.beq b 0 then [(23, 0), (24, 0), (25, 0)] else []) else bif Nat.beq f 72 then (bif Nat.beq b 0 then [(0, 0), (1, 0), (7, 0), (8, 0)] else []) else bif Nat.beq f 74 then (bif Nat.beq b 0 then [(0, 0), (1, 0), (7, 0), (8, 0)] else []) else bif Nat.beq f 78 then (bif Nat.beq b 0 then [(3, 0), (7, 0), (8, 0), (9, 0)] else []) else bif Nat.beq f 79 then (bif Nat.beq b 0 then [(3, 0), (7, 0), (8, 0), (9, 0)] else []) else bif Nat.beq f 80 then (bif Nat.beq b 1 then [(46, 0), (47, 0), (48, 0)] else []) else bif Nat.beq f 82 then (bif Nat.beq b 0 then [(3, 0), (6, 0), (7, 0), (8, 0)] else []) else bif Nat.beq f 85 then (bif Nat.beq b 0 then [(0, 0), (1, 0), (2, 0), (11, 0), (12, 0), (13, 0)] else []) else bif Nat.beq f 95 then (bif Nat.beq b 0 then [(1, 0), (2, 0), (10, 0), (11, 0)] else []) else bif Nat.beq f 118 then (bif Nat.beq b 0 then [(0, 0), (1, 0), (7, 0), (8, 0)] else []) else bif Nat.beq f 135 then (bif Nat.beq b 0 then [(0, 0), (5, 0), (6, 0), (7, 0)] else []) else bif Nat.beq f 136 then (bif Nat.beq b 0 then [(1, 0), (6, 0), (7, 0), (8, 0)] else []) else bif Nat.beq f 150 then (bif Nat.beq b 0 then [(0, 0), (1, 0), (7, 0), (8, 0)] else []) else []
def hKeepB (f b : Nat) : List Nat := bif Nat.beq f 6 then (bif Nat.beq b 2 then [11, 12] else []) else bif Nat.beq f 10 then (bif Nat.beq b 2 then [7, 8, 9] else bif Nat.beq b 4 then [7, 8, 9, 12, 291] else []) else bif Nat.beq f 12 then (bif Nat.beq b 0 then [1] else bif Nat.beq b 2 then [1] else []) else bif Nat.beq f 21 then (bif Nat.beq b 0 then [4, 5, 8, 10] else []) else bif Nat.beq f 31 then (bif Nat.beq b 0 then [2] else []) else bif Nat.beq f 34 then (bif Nat.beq b 0 then [1] else bif Nat.beq b 2 then [1] else bif Nat.beq b 4 then [1] else []) else bif Nat.beq f 37 then (bif Nat.beq b 0 then [1, 21, 22] else bif Nat.beq b 3 then [21, 22] else []) else bif Nat.beq f 38 then (bif Nat.beq b 0 then [2] else []) else bif Nat.beq f 44 then (bif Nat.beq b 0 then [4] else []) else bif Nat.beq f 54 then (bif Nat.beq b 0 then [2, 3, 87] else []) else bif Nat.beq f 56 then (bif Nat.beq b 1 then [1] else bif Nat.beq b 4 then [1] else []) else bif Nat.beq f 57 then (bif Nat.beq b 0 then [2] else []) else bif Nat.beq f 95 then (bif Nat.beq b 0 then [1, 2, 6] else []) else bif Nat.beq f 136 then (bif Nat.beq b 0 then [1] else []) else []
def hRsh (f : Nat) : RSh := bif Nat.beq f 3 then (.t .bool) else bif Nat.beq f 5 then (.t (.int .i64)) else bif Nat.beq f 6 then (.tup [(.t (.sl (.nm 5))), (.t (.int .i64))]) else bif Nat.beq f 7 then (.t .bool) else bif Nat.beq f 8 then (.t (.int .i64)) else bif Nat.beq f 9 then (.t .bool) else bif Nat.beq f 10 then (.t (.sl (.nm 5))) else bif Nat.beq f 12 then (.t (.int .i64)) else bif Nat.beq f 16 then (.t (.int .i64)) else bif Nat.beq f 17 then (.t (.int .i64)) else bif Nat.beq f 18 then (.t .bool) else bif Nat.beq f 19 then (.t .bool) else bif Nat.beq f 20 then (.t (.int .i64)) else bif Nat.beq f 21 then (.tup [(.t (.nm 3)), (.t (.nm 3)), (.t (.sl (.arr 2 (.int .i64)))), (.t (.int .i64))]) else bif Nat.beq f 22 then (.t .bool) else bif Nat.beq f 23 then (.t .bool) else bif Nat.beq f 24 then (.t .bool) else bif Nat.beq f 25 then (.tup [(.t (.nm 1)), (.t (.int .i64))]) else bif Nat.beq f 26 then (.t (.int .i64)) else bif Nat.beq f 27 then (.t .bool) else bif Nat.beq f 28 then (.t .bool) else bif Nat.beq f 29 then (.t .bool) else bif Nat.beq f 30 then (.t (.int .i64)) else bif Nat.beq f 31 then (.t (.sl (.nm 1))) else bif Nat.beq f 32 then (.own (.nm 0)) else bif Nat.beq f 33 then (.own .str) else bif Nat.beq f 34 then (.t (.int .i64)) else bif Nat.beq f 37 then (.t (.int .i64)) else bif Nat.beq f 38 then (.t (.int .i64)) else bif Nat.beq f 39 then .unit else bif Nat.beq f 44 then (.tup [(.t (.nm 3)), (.t .bool)]) else bif Nat.beq f 45 then (.tup [(.t (.int .i64)), (.t .bool)]) else bif Nat.beq f 46 then (.t (.int .i64)) else bif Nat.beq f 47 then (.t .bool) else bif Nat.beq f 48 then (.t .bool) else bif Nat.beq f 49 then (.t .bool) else bif Nat.beq f 50 then (.t (.int .i64)) else bif Nat.beq f 51 then (.tup [(.t (.int .i64)), .asis]) else bif Nat.beq f 52 then (.t .str) else bif Nat.beq f 53 then (.t (.int .i64)) else bif Nat.beq f 54 then (.t (.nm 1)) else bif Nat.beq f 55 then (.t (.int .i64)) else bif Nat.beq f 56 then (.t (.int .i64)) else bif Nat.beq f 57 then (.t (.int .i64)) else bif Nat.beq f 58 then (.t (.int .i64)) else bif Nat.beq f 59 then (.t .bool) else bif Nat.beq f 62 then (.ag [.str, (.sl (.nm 0)), (.sl .str)] (.sl (.nm 1))) else bif Nat.beq f 64 then (.ownrow (.sl (.nm 1))) else bif Nat.beq f 65 then (.t .bool) else bif Nat.beq f 72 then (.t (.int .i64)) else bif Nat.beq f 73 then (.t .bool) else bif Nat.beq f 74 then (.t (.int .i64)) else bif Nat.beq f 78 then (.t (.int .i64)) else bif Nat.beq f 79 then (.t (.int .i64)) else bif Nat.beq f 80 then (.t (.int .i64)) else bif Nat.beq f 81 then (.t (.int .i64)) else bif Nat.beq f 82 then (.t (.int .i64)) else bif Nat.beq f 83 then (.t (.int .i64)) else bif Nat.beq f 84 then (.t (.int .i64)) else bif Nat.beq f 85 then (.t (.int .i64)) else bif Nat.beq f 86 then (.t (.int .i64)) else bif Nat.beq f 87 then (.t .bool) else bif Nat.beq f 88 then (.t .bool) else bif Nat.beq f 89 then (.t .bool) else bif Nat.beq f 90 then (.t .bool) else bif Nat.beq f 91 then (.t .bool) else bif Nat.beq f 92 then (.t .bool) else bif Nat.beq f 95 then (.t (.nm 1)) else bif Nat.beq f 113 then (.t .bool) else bif Nat.beq f 114 then (.t .bool) else bif Nat.beq f 115 then (.t (.int .i64)) else bif Nat.beq f 116 then (.t .bool) else bif Nat.beq f 118 then (.t (.int .i64)) else bif Nat.beq f 120 then (.ownrow (.nm 2)) else bif Nat.beq f 134 then (.t .bool) else bif Nat.beq f 135 then (.t (.int .i64)) else bif Nat.beq f 136 then (.t (.int .i64)) else bif Nat.beq f 146 then (.t .bool) else bif Nat.beq f 147 then (.t .bool) else bif Nat.beq f 150 then (.t (.int .i64)) else .asis
def hCons (f : Nat) : List Nat := []
def hRow (f : Nat) : List Nat := bif Nat.beq f 12 then [7] else bif Nat.beq f 64 then [2, 3, 16] else bif Nat.beq f 120 then [2, 5] else []
def hSet (f d : Nat) : List (Nat × Nat) := bif Nat.beq f 10 then (bif Nat.beq d 12 then [(0, 291)] else []) else bif Nat.beq f 54 then (bif Nat.beq d 6 then [(3, 87)] else []) else []
def hPre (f d : Nat) : Nat := bif Nat.beq f 44 then (bif Nat.beq d 1004 then 1 else 0) else bif Nat.beq f 64 then (bif Nat.beq d 33 then 2 else 0) else bif Nat.beq f 95 then (bif Nat.beq d 1002 then 2 else 0) else 0
def hPreT (f d : Nat) : List (Nat × Nat) := bif Nat.beq f 6 then (bif Nat.beq d 9 then [(12, 3)] else []) else bif Nat.beq f 10 then (bif Nat.beq d 7 then [(9, 3)] else []) else []
def H : Hints := { keep := hKeep, keepB := hKeepB, rsh := hRsh, cons := hCons, asagg := hSet, asrow := hRow, mutcap := [], pre := hPre, preT := hPreT }
def gl : Nat → AV E := fun g => bif Nat.beq g 0 then .err false else bif Nat.beq g 1 then .err false else bif Nat.beq g 3 then .imm (.arr 20 (.int .u64)) Go.Lib.pow10Tab else .undef

theorem gl_ok {W : World} (h_errsyn : ∃ u v, W.var? Tryz.prog "strconv.ErrSyntax" = some #[.iface u v]) (h_errrng : ∃ u v, W.var? Tryz.prog "strconv.ErrRange" = some #[.iface u v]) (h_pow10 : Go.Lib.TabIs Tryz.prog W "internal/strconv.uint64pow10" .u64 Go.Lib.pow10Tab) : GlOK (memOf W) gl := by
  intro g
  cases e_errsyn : Nat.beq g 0 with
  | true =>
    have e := Nat.eq_of_beq_eq_true e_errsyn
    subst e
    exact .inr (.inr ⟨rfl, errAt_gl (show Tryz.prog.globalNamed "strconv.ErrSyntax" = some 0 by kernel_rfl) h_errsyn⟩)
  | false =>
  cases e_errrng : Nat.beq g 1 with
  | true =>
    have e := Nat.eq_of_beq_eq_true e_errrng
    subst e
    exact .inr (.inr ⟨rfl, errAt_gl (show Tryz.prog.globalNamed "strconv.ErrRange" = some 1 by kernel_rfl) h_errrng⟩)
  | false =>
  cases e_pow10 : Nat.beq g 3 with
  | true =>
    have e := Nat.eq_of_beq_eq_true e_pow10
    subst e
    obtain ⟨cells, h1, h2, h3⟩ := tabIs_gl (E := E) (show Tryz.prog.globalNamed "internal/strconv.uint64pow10" = some 3 by kernel_rfl) h_pow10
    exact .inr (.inl ⟨_, _, cells, rfl, h1, h2, h3⟩)
  | false =>
  exact .inl (by simp [gl, e_errsyn, e_errrng, e_pow10])
def C0 (_ : Nat) : Call2 E := fun _ _ _ => none

/- clapperbridge/clapref2.Order$1 -/
noncomputable def ref2_Order_1 (n : Nat) (x0 : List ApiValue) : Option ApiValue := F2 (E := E) tt gl H (C0 n) n 54 Tryz.f54 [.t (.sl (.nm 1))] (x0, ())
noncomputable def ref2_Order_1_l0 (n : Nat) (m0 : Nat) (v7 : List ApiValue) (v8 : Int) (v9 : Int) (w2 : ApiValue) (w3_0 : Int) (w3_1 : Int) (w3_2 : List UInt8) (w3_3 : List ApiField) : Option ApiValue := lp (E := E) (ps := [.t (.sl (.nm 1))]) tt gl H (C0 n) n 54 Tryz.f54 [1, 1, 0, 1, 0] [] m0 ⟨mkT 22 0 [(2, .ptr 2 (.nm 1) []), (3, .ptr 3 (.nm 1) []), (7, .t (.sl (.nm 1)) v7), (8, .t (.int .i64) v8), (9, .t (.int .i64) v9)], mkB 88 0 [(2, .var (.nm 1) (.t (.nm 1) w2)), (3, .var (.nm 1) (.agg [.t (.int .i64) w3_0, .t (.int .i64) w3_1, .t .str w3_2, .sl 87 (.nm 2) w3_3])), (87, .grow (.nm 2) (List.length w3_3))]⟩
theorem ref2_Order_1_l0_eq (n : Nat) (m0 : Nat) (v7 : List ApiValue) (v8 : Int) (v9 : Int) (w2 : ApiValue) (w3_0 : Int) (w3_1 : Int) (w3_2 : List UInt8) (w3_3 : List ApiField) : ref2_Order_1_l0 n (m0 + 1) v7 v8 v9 w2 w3_0 w3_1 w3_2 w3_3 = (bif (decide (v9 < v8)) then (bif (decide (0 ≤ v9) && decide (v9 < List.length v7)) then (bif (decide ((List.length w3_3) = List.length w3_3) && decide (List.length w3_3 + List.length ([(ApiField.mk [] (List.getD v7 (Int.toNat v9) (ApiValue.mk 0 0 [] [])))] : List ApiField) ≤ 4294967296)) then (ref2_Order_1_l0 n m0 v7 v8 (IntKind.wrap .i64 (v9 + 1)) w2 w3_0 w3_1 w3_2 (w3_3 ++ [(ApiField.mk [] (List.getD v7 (Int.toNat v9) (ApiValue.mk 0 0 [] [])))])) else none) else none) else (some (ApiValue.mk w3_0 w3_1 w3_2 w3_3))) := by kernel_rfl
theorem ref2_Order_1_l0_zero (n : Nat) (v7 : List ApiValue) (v8 : Int) (v9 : Int) (w2 : ApiValue) (w3_0 : Int) (w3_1 : Int) (w3_2 : List UInt8) (w3_3 : List ApiField) : ref2_Order_1_l0 n 0 v7 v8 v9 w2 w3_0 w3_1 w3_2 w3_3 = none := by kernel_rfl
theorem ref2_Order_1_l0_fold (n : Nat) (v7 : List ApiValue) (w2 : ApiValue) (w3_0 : Int) (w3_1 : Int) (w3_2 : List UInt8) (w3_3 : List ApiField) (hl : List.length v7 < 9223372036854775807) (m i : Nat) (hi : i ≤ List.length v7) (hm : List.length v7 - i < m) : ref2_Order_1_l0 n m v7 (List.length v7 : Int) (i : Int) w2 w3_0 w3_1 w3_2 w3_3 = foldK (S := (List ApiField)) (fun i (a : ApiValue) s K => (bif (decide ((List.length s) = List.length s) && decide (List.length s + List.length ([(ApiField.mk [] a)] : List ApiField) ≤ 4294967296)) then (K (s ++ [(ApiField.mk [] a)])) else none)) (fun s => (some (ApiValue.mk w3_0 w3_1 w3_2 s))) (List.drop i v7) i (w3_3) := range_loop v7 (ApiValue.mk 0 0 [] []) hl (fun m (k : Int) (s : (List ApiField)) => ref2_Order_1_l0 n m v7 (List.length v7 : Int) k w2 w3_0 w3_1 w3_2 s) _ _ (fun m i s => (ref2_Order_1_l0_eq n m v7 (List.length v7 : Int) (i : Int) w2 w3_0 w3_1 w3_2 s).trans (by kernel_rfl)) m i hi hm (w3_3)
theorem ref2_Order_1_eq (n : Nat) (x0 : List ApiValue) : ref2_Order_1 n x0 = (ref2_Order_1_l0 n n x0 (List.length x0 : Int) 0 (ApiValue.mk 0 0 [] []) 8 0 [] []) := by kernel_rfl
noncomputable def C1 (n : Nat) : Call2 E := more tt gl H (C0 n) n 54 Tryz.f54 [.t (.sl (.nm 1))] (C0 n)

/- clapperbridge/value.order -/
noncomputable def value_order (n : Nat) (x0 : Int) : Option Int := F2 (E := E) tt gl H (C1 n) n 81 Tryz.f81 [.t (.int .i64)] (x0, ())
theorem value_order_eq (n : Nat) (x0 : Int) : value_order n x0 = (bif (decide (x0 < 0)) then (some (IntKind.wrap .i64 ((-1 : Int) - (Fv.bits .and .i64 x0 9223372036854775807)))) else (some x0)) := by kernel_rfl
noncomputable def C2 (n : Nat) : Call2 E := more tt gl H (C1 n) n 81 Tryz.f81 [.t (.int .i64)] (C1 n)

/- cmp.isNaN[int] -/
noncomputable def cmp_isNaN_int (n : Nat) (x0 : Int) : Option Bool := F2 (E := E) tt gl H (C2 n) n 116 Tryz.f116 [.t (.int .i64)] (x0, ())
theorem cmp_isNaN_int_eq (n : Nat) (x0 : Int) : cmp_isNaN_int n x0 = (some (!decide (x0 = x0))) := by kernel_rfl
noncomputable def C3 (n : Nat) : Call2 E := more tt gl H (C2 n) n 116 Tryz.f116 [.t (.int .i64)] (C2 n)

/- cmp.Compare[int] -/
noncomputable def cmp_Compare_int (n : Nat) (x0 : Int) (x1 : Int) : Option Int := F2 (E := E) tt gl H (C3 n) n 83 Tryz.f83 [.t (.int .i64), .t (.int .i64)] (x0, x1, ())
theorem cmp_Compare_int_eq (n : Nat) (x0 : Int) (x1 : Int) : cmp_Compare_int n x0 x1 = (Option.bind (cmp_isNaN_int n x0) fun r1 => (Option.bind (cmp_isNaN_int n x1) fun r2 => (bif r1 then (bif r2 then (some 0) else (some (-1))) else (bif r2 then (some 1) else (bif (decide (x0 < x1)) then (some (-1)) else (bif (decide (x0 > x1)) then (some 1) else (some 0))))))) := by kernel_rfl
noncomputable def C4 (n : Nat) : Call2 E := more tt gl H (C3 n) n 83 Tryz.f83 [.t (.int .i64), .t (.int .i64)] (C3 n)
def fun84_ren : Go.Shelf.Ren := ⟨fun | 106 => 84 | 213 => 117 | 265 => 137 | n => n, fun | 9 => 9 | 3 => 3 | n => n, fun | n => n⟩
theorem fun84 : Go.Proofs.Lays.n106 Tryz.prog fun84_ren := {
  mixed := by kernel_rfl
  f106 := Tryz.func84.trans (congrArg some (by kernel_rfl))
  f213 := Tryz.func117.trans (congrArg some (by kernel_rfl))
  f265 := Tryz.func137.trans (congrArg some (by kernel_rfl))
  t3 := Tryz.underlying3
  a3 := Tryz.isAgg3
  z3 := Tryz.sizeOf3
  v3 := Tryz.zeroValue3
  t9 := Tryz.underlying9
  a9 := Tryz.isAgg9
  z9 := Tryz.sizeOf9
  v9 := Tryz.zeroValue9 }
theorem fnok84 : FnOK Tryz.prog 84 := ⟨Tryz.f84, _, Tryz.func84, by decide, rfl⟩
theorem func84 : SSI Tryz.prog 84 Go.Lib.compareBytes := fun a b w => Go.Proofs.Any.strings_Compare fun84 a b w
noncomputable def C5 (n : Nat) : Call2 E := moreF 84 Go.Lib.compareBytes (C4 n)

/- cmp.Or[int] -/
noncomputable def cmp_Or_int (n : Nat) (x0 : List Int) : Option Int := F2 (E := E) tt gl H (C5 n) n 82 Tryz.f82 [.t (.sl (.int .i64))] (x0, ())
noncomputable def cmp_Or_int_l0 (n : Nat) (m0 : Nat) (v3 : Int) (v6 : List Int) (v7 : Int) (v8 : Int) : Option Int := lp (E := E) (ps := [.t (.sl (.int .i64))]) tt gl H (C5 n) n 82 Tryz.f82 [1, 1, 0, 1, 0] [] m0 ⟨mkT 18 0 [(3, .t (.int .i64) v3), (6, .t (.sl (.int .i64)) v6), (7, .t (.int .i64) v7), (8, .t (.int .i64) v8)], mkB 72 0 []⟩
theorem cmp_Or_int_l0_eq (n : Nat) (m0 : Nat) (v3 : Int) (v6 : List Int) (v7 : Int) (v8 : Int) : cmp_Or_int_l0 n (m0 + 1) v3 v6 v7 v8 = (bif (decide (v8 < v7)) then (bif (decide (0 ≤ v8) && decide (v8 < List.length v6)) then (bif (!decide ((List.getD v6 (Int.toNat v8) (0 : Int)) = v3)) then (some (List.getD v6 (Int.toNat v8) (0 : Int))) else (cmp_Or_int_l0 n m0 v3 v6 v7 (IntKind.wrap .i64 (v8 + 1)))) else none) else (some v3)) := by kernel_rfl
theorem cmp_Or_int_l0_zero (n : Nat) (v3 : Int) (v6 : List Int) (v7 : Int) (v8 : Int) : cmp_Or_int_l0 n 0 v3 v6 v7 v8 = none := by kernel_rfl
theorem cmp_Or_int_l0_fold (n : Nat) (v3 : Int) (v6 : List Int) (hl : List.length v6 < 9223372036854775807) (m i : Nat) (hi : i ≤ List.length v6) (hm : List.length v6 - i < m) : cmp_Or_int_l0 n m v3 v6 (List.length v6 : Int) (i : Int) = foldK (S := Unit) (fun i (a : Int) s K => (bif (!decide (a = v3)) then (some a) else (K ()))) (fun s => (some v3)) (List.drop i v6) i () := range_loop v6 (0 : Int) hl (fun m (k : Int) (s : Unit) => cmp_Or_int_l0 n m v3 v6 (List.length v6 : Int) k) _ _ (fun m i s => (cmp_Or_int_l0_eq n m v3 v6 (List.length v6 : Int) (i : Int)).trans (by kernel_rfl)) m i hi hm ()
theorem cmp_Or_int_eq (n : Nat) (x0 : List Int) : cmp_Or_int n x0 = (cmp_Or_int_l0 n n 0 x0 (List.length x0 : Int) 0) := by kernel_rfl
noncomputable def C6 (n : Nat) : Call2 E := more tt gl H (C5 n) n 82 Tryz.f82 [.t (.sl (.int .i64))] (C5 n)
noncomputable def Cr6 : Nat → Nat → Call2 E
  | 0, n => C6 n
  | d + 1, n => (more tt gl H (Cr6 d n) n 86 Tryz.f86 [.t (.nm 2), .t (.nm 2)] (more tt gl H (Cr6 d n) n 85 Tryz.f85 [.t (.sl (.nm 2)), .t (.sl (.nm 2)), .fn 86 []] (more tt gl H (Cr6 d n) n 55 Tryz.f55 [.t (.nm 1), .t (.nm 1)] (C6 n))))
noncomputable def C7 (n : Nat) : Call2 E := Cr6 (n + 1) n

/- clapperbridge/value.Cmp -/
noncomputable def value_Cmp (d : Nat) (n : Nat) (x0 : ApiValue) (x1 : ApiValue) : Option Int := F2 (E := E) tt gl H (Cr6 d n) n 55 Tryz.f55 [.t (.nm 1), .t (.nm 1)] (x0, x1, ())

/- slices.CompareFunc[[]clapperbridge/api.Field,[]clapperbridge/api.Field,clapperbridge/api.Field,clapperbridge/api.Field] -/
noncomputable def slices_CompareFunc_Field_by_value_Cmp_1 (d : Nat) (n : Nat) (x0 : List ApiField) (x1 : List ApiField) (x2 : (Unit)) : Option Int := F2 (E := E) tt gl H (Cr6 d n) n 85 Tryz.f85 [.t (.sl (.nm 2)), .t (.sl (.nm 2)), .fn 86 []] (x0, x1, x2, ())
noncomputable def slices_CompareFunc_Field_by_value_Cmp_1_l0 (d : Nat) (n : Nat) (m0 : Nat) (v0 : List ApiField) (v1 : List ApiField) (v11 : List ApiField) (v12 : Int) (v13 : Int) : Option Int := lp (E := E) (ps := [.t (.sl (.nm 2)), .t (.sl (.nm 2)), .fn 86 []]) tt gl H (Cr6 d n) n 85 Tryz.f85 [1, 0, 1, 0] [] m0 ⟨mkT 39 0 [(0, .t (.sl (.nm 2)) v0), (1, .t (.sl (.nm 2)) v1), (2, .func 86 []), (11, .t (.sl (.nm 2)) v11), (12, .t (.int .i64) v12), (13, .t (.int .i64) v13)], mkB 156 0 []⟩

/- clapperbridge/value.Cmp$1 -/
noncomputable def value_Cmp_1 (d : Nat) (n : Nat) (x0 : ApiField) (x1 : ApiField) : Option Int := F2 (E := E) tt gl H (Cr6 d n) n 86 Tryz.f86 [.t (.nm 2), .t (.nm 2)] (x0, x1, ())
theorem value_Cmp_eq (d : Nat) (n : Nat) (x0 : ApiValue) (x1 : ApiValue) : value_Cmp (d + 1) n x0 x1 = (bif (decide (x0.Kind = 3)) then (Option.bind (value_order n x0.N) fun r1 => (Option.bind (value_order n x1.N) fun r2 => (Option.bind (cmp_Compare_int n x0.Kind x1.Kind) fun r3 => (Option.bind (cmp_Compare_int n r1 r2) fun r4 => (Option.bind (cmp_Or_int n [r3, r4, (Go.Lib.compareBytes x0.S x1.S)]) fun r5 => (bif (!decide (r5 = 0)) then (some r5) else (Option.bind (slices_CompareFunc_Field_by_value_Cmp_1 d n x0.Fields x1.Fields (())) fun r6 => (some r6)))))))) else (Option.bind (cmp_Compare_int n x0.Kind x1.Kind) fun r7 => (Option.bind (cmp_Compare_int n x0.N x1.N) fun r8 => (Option.bind (cmp_Or_int n [r7, r8, (Go.Lib.compareBytes x0.S x1.S)]) fun r9 => (bif (!decide (r9 = 0)) then (some r9) else (Option.bind (slices_CompareFunc_Field_by_value_Cmp_1 d n x0.Fields x1.Fields (())) fun r10 => (some r10))))))) := by kernel_rfl
theorem slices_CompareFunc_Field_by_value_Cmp_1_l0_eq (d : Nat) (n : Nat) (m0 : Nat) (v0 : List ApiField) (v1 : List ApiField) (v11 : List ApiField) (v12 : Int) (v13 : Int) : slices_CompareFunc_Field_by_value_Cmp_1_l0 (d + 1) n (m0 + 1) v0 v1 v11 v12 v13 = (bif (decide (v13 < v12)) then (bif (decide (0 ≤ v13) && decide (v13 < List.length v11)) then (bif (decide (v13 ≥ (List.length v1 : Int))) then (some 1) else (bif (decide (0 ≤ v13) && decide (v13 < List.length v1)) then (Option.bind (value_Cmp_1 d n (List.getD v11 (Int.toNat v13) (ApiField.mk [] (ApiValue.mk 0 0 [] []))) (List.getD v1 (Int.toNat v13) (ApiField.mk [] (ApiValue.mk 0 0 [] [])))) fun r1 => (bif (!decide (r1 = 0)) then (some r1) else (slices_CompareFunc_Field_by_value_Cmp_1_l0 (d + 1) n m0 v0 v1 v11 v12 (IntKind.wrap .i64 (v13 + 1))))) else none)) else none) else (bif (decide ((List.length v0 : Int) < (List.length v1 : Int))) then (some (-1)) else (some 0))) := by kernel_rfl
theorem slices_CompareFunc_Field_by_value_Cmp_1_l0_zero (d : Nat) (n : Nat) (v0 : List ApiField) (v1 : List ApiField) (v11 : List ApiField) (v12 : Int) (v13 : Int) : slices_CompareFunc_Field_by_value_Cmp_1_l0 d n 0 v0 v1 v11 v12 v13 = none := by kernel_rfl
theorem slices_CompareFunc_Field_by_value_Cmp_1_l0_fold (d : Nat) (n : Nat) (v0 : List ApiField) (v1 : List ApiField) (v11 : List ApiField) (hl : List.length v11 < 9223372036854775807) (m i : Nat) (hi : i ≤ List.length v11) (hm : List.length v11 - i < m) : slices_CompareFunc_Field_by_value_Cmp_1_l0 (d + 1) n m v0 v1 v11 (List.length v11 : Int) (i : Int) = foldK (S := Unit) (fun i (a : ApiField) s K => (bif (decide ((i : Int) ≥ (List.length v1 : Int))) then (some 1) else (bif (decide (0 ≤ (i : Int)) && decide ((i : Int) < List.length v1)) then (Option.bind (value_Cmp_1 d n a (List.getD v1 (Int.toNat (i : Int)) (ApiField.mk [] (ApiValue.mk 0 0 [] [])))) fun r1 => (bif (!decide (r1 = 0)) then (some r1) else (K ()))) else none))) (fun s => (bif (decide ((List.length v0 : Int) < (List.length v1 : Int))) then (some (-1)) else (some 0))) (List.drop i v11) i () := range_loop v11 (ApiField.mk [] (ApiValue.mk 0 0 [] [])) hl (fun m (k : Int) (s : Unit) => slices_CompareFunc_Field_by_value_Cmp_1_l0 (d + 1) n m v0 v1 v11 (List.length v11 : Int) k) _ _ (fun m i s => (slices_CompareFunc_Field_by_value_Cmp_1_l0_eq d n m v0 v1 v11 (List.length v11 : Int) (i : Int)).trans (by kernel_rfl)) m i hi hm ()
theorem slices_CompareFunc_Field_by_value_Cmp_1_eq (d : Nat) (n : Nat) (x0 : List ApiField) (x1 : List ApiField) (x2 : (Unit)) : slices_CompareFunc_Field_by_value_Cmp_1 (d + 1) n x0 x1 x2 = (slices_CompareFunc_Field_by_value_Cmp_1_l0 (d + 1) n n x0 x1 x0 (List.length x0 : Int) 0) := by kernel_rfl
theorem value_Cmp_1_eq (d : Nat) (n : Nat) (x0 : ApiField) (x1 : ApiField) : value_Cmp_1 (d + 1) n x0 x1 = (Option.bind (value_Cmp d n x0.Val x1.Val) fun r1 => (Option.bind (cmp_Or_int n [(Go.Lib.compareBytes x0.Name x1.Name), r1]) fun r2 => (some r2))) := by kernel_rfl

/- clapperbridge/clapref2.Order -/
noncomputable def ref2_Order (n : Nat) (x0 : List ApiValue) (x1 : List ApiValue) : Option Int := F2 (E := E) tt gl H (C7 n) n 30 Tryz.f30 [.t (.sl (.nm 1)), .t (.sl (.nm 1))] (x0, x1, ())
theorem ref2_Order_eq (n : Nat) (x0 : List ApiValue) (x1 : List ApiValue) : ref2_Order n x0 x1 = (Option.bind (ref2_Order_1 n x0) fun r1 => (Option.bind (ref2_Order_1 n x1) fun r2 => (Option.bind (value_Cmp n n r1 r2) fun r3 => (some r3)))) := by kernel_rfl
noncomputable def C8 (n : Nat) : Call2 E := more tt gl H (C7 n) n 30 Tryz.f30 [.t (.sl (.nm 1)), .t (.sl (.nm 1))] (C7 n)

/- clapperbridge/value.Name -/
noncomputable def value_Name (n : Nat) (x0 : List UInt8) : Option Bool := F2 (E := E) tt gl H (C8 n) n 65 Tryz.f65 [.t .str] (x0, ())
noncomputable def value_Name_l0 (n : Nat) (m0 : Nat) (v23 : List Int) (v24 : Int) (v25 : Int) : Option Bool := lp (E := E) (ps := [.t .str]) tt gl H (C8 n) n 65 Tryz.f65 [1, 1, 0, 1, 0] [] m0 ⟨mkT 49 0 [(23, .t (.sl (.int .u8)) v23), (24, .t (.int .i64) v24), (25, .t (.int .i64) v25)], mkB 196 0 []⟩
theorem value_Name_l0_eq (n : Nat) (m0 : Nat) (v23 : List Int) (v24 : Int) (v25 : Int) : value_Name_l0 n (m0 + 1) v23 v24 v25 = (bif (decide (v25 < v24)) then (bif (decide (0 ≤ v25) && decide (v25 < List.length v23)) then (bif (decide ((List.getD v23 (Int.toNat v25) (0 : Int)) ≥ 97)) then (bif (decide ((List.getD v23 (Int.toNat v25) (0 : Int)) ≤ 122)) then (value_Name_l0 n m0 v23 v24 (IntKind.wrap .i64 (v25 + 1))) else (bif (decide ((List.getD v23 (Int.toNat v25) (0 : Int)) ≥ 48)) then (bif (decide ((List.getD v23 (Int.toNat v25) (0 : Int)) ≤ 57)) then (value_Name_l0 n m0 v23 v24 (IntKind.wrap .i64 (v25 + 1))) else (bif (!(decide ((List.getD v23 (Int.toNat v25) (0 : Int)) = 45))) then (some false) else (value_Name_l0 n m0 v23 v24 (IntKind.wrap .i64 (v25 + 1))))) else (bif (!(decide ((List.getD v23 (Int.toNat v25) (0 : Int)) = 45))) then (some false) else (value_Name_l0 n m0 v23 v24 (IntKind.wrap .i64 (v25 + 1)))))) else (bif (decide ((List.getD v23 (Int.toNat v25) (0 : Int)) ≥ 48)) then (bif (decide ((List.getD v23 (Int.toNat v25) (0 : Int)) ≤ 57)) then (value_Name_l0 n m0 v23 v24 (IntKind.wrap .i64 (v25 + 1))) else (bif (!(decide ((List.getD v23 (Int.toNat v25) (0 : Int)) = 45))) then (some false) else (value_Name_l0 n m0 v23 v24 (IntKind.wrap .i64 (v25 + 1))))) else (bif (!(decide ((List.getD v23 (Int.toNat v25) (0 : Int)) = 45))) then (some false) else (value_Name_l0 n m0 v23 v24 (IntKind.wrap .i64 (v25 + 1)))))) else none) else (some true)) := by kernel_rfl
theorem value_Name_l0_zero (n : Nat) (v23 : List Int) (v24 : Int) (v25 : Int) : value_Name_l0 n 0 v23 v24 v25 = none := by kernel_rfl
theorem value_Name_l0_fold (n : Nat) (v23 : List Int) (hl : List.length v23 < 9223372036854775807) (m i : Nat) (hi : i ≤ List.length v23) (hm : List.length v23 - i < m) : value_Name_l0 n m v23 (List.length v23 : Int) (i : Int) = foldK (S := Unit) (fun i (a : Int) s K => (bif (decide (a ≥ 97)) then (bif (decide (a ≤ 122)) then (K ()) else (bif (decide (a ≥ 48)) then (bif (decide (a ≤ 57)) then (K ()) else (bif (!(decide (a = 45))) then (some false) else (K ()))) else (bif (!(decide (a = 45))) then (some false) else (K ())))) else (bif (decide (a ≥ 48)) then (bif (decide (a ≤ 57)) then (K ()) else (bif (!(decide (a = 45))) then (some false) else (K ()))) else (bif (!(decide (a = 45))) then (some false) else (K ()))))) (fun s => (some true)) (List.drop i v23) i () := range_loop v23 (0 : Int) hl (fun m (k : Int) (s : Unit) => value_Name_l0 n m v23 (List.length v23 : Int) k) _ _ (fun m i s => (value_Name_l0_eq n m v23 (List.length v23 : Int) (i : Int)).trans (by kernel_rfl)) m i hi hm ()
theorem value_Name_eq (n : Nat) (x0 : List UInt8) : value_Name n x0 = (bif (x0 == []) then (some false) else (bif (decide ((List.length x0 : Int) > 16)) then (some false) else (bif (decide (0 ≤ (0 : Int)) && decide ((0 : Int) < List.length x0)) then (bif (decide (((UInt8.toNat (List.getD x0 (Int.toNat (0 : Int)) 0) : Nat) : Int) < 97)) then (some false) else (bif (decide (0 ≤ (0 : Int)) && decide ((0 : Int) < List.length x0)) then (bif (decide (((UInt8.toNat (List.getD x0 (Int.toNat (0 : Int)) 0) : Nat) : Int) > 122)) then (some false) else (value_Name_l0 n n (ints x0) (List.length (ints x0) : Int) 0)) else none)) else none))) := by kernel_rfl
noncomputable def C9 (n : Nat) : Call2 E := more tt gl H (C8 n) n 65 Tryz.f65 [.t .str] (C8 n)

/- clapperbridge/clapref2.HeadErr -/
noncomputable def ref2_HeadErr (n : Nat) (x0 : Rel) : Option Int := F2 (E := E) tt gl H (C9 n) n 37 Tryz.f37 [.t (.nm 3)] (x0, ())
noncomputable def ref2_HeadErr_l0 (n : Nat) (m0 : Nat) (v24 : List Col) (v25 : Int) (v26 : Int) (w1 : Rel) (w21 : List ((List UInt8) × Bool)) (w22 : List ((List UInt8) × Bool)) : Option Int := lp (E := E) (ps := [.t (.nm 3)]) tt gl H (C9 n) n 37 Tryz.f37 [1, 1, 1, 1, 1, 0, 1, 0] [] m0 ⟨mkT 72 0 [(1, .ptr 1 (.nm 3) []), (3, .mp 21 .str .bool), (4, .mp 22 .str .bool), (24, .t (.sl (.nm 0)) v24), (25, .t (.int .i64) v25), (26, .t (.int .i64) v26)], mkB 288 0 [(1, .var (.nm 3) (.t (.nm 3) w1)), (21, .mp .str .bool w21), (22, .mp .str .bool w22)]⟩
noncomputable def ref2_HeadErr_l3 (n : Nat) (m0 : Nat) (v54 : List (List UInt8)) (v55 : Int) (v56 : Int) (w21 : List ((List UInt8) × Bool)) (w22 : List ((List UInt8) × Bool)) : Option Int := lp (E := E) (ps := [.t (.nm 3)]) tt gl H (C9 n) n 37 Tryz.f37 [1, 1, 1, 1, 1, 1, 0, 1, 0] [] m0 ⟨mkT 72 0 [(3, .mp 21 .str .bool), (4, .mp 22 .str .bool), (54, .t (.sl .str) v54), (55, .t (.int .i64) v55), (56, .t (.int .i64) v56)], mkB 288 0 [(21, .mp .str .bool w21), (22, .mp .str .bool w22)]⟩
theorem ref2_HeadErr_l3_eq (n : Nat) (m0 : Nat) (v54 : List (List UInt8)) (v55 : Int) (v56 : Int) (w21 : List ((List UInt8) × Bool)) (w22 : List ((List UInt8) × Bool)) : ref2_HeadErr_l3 n (m0 + 1) v54 v55 v56 w21 w22 = (bif (decide (v56 < v55)) then (bif (decide (0 ≤ v56) && decide (v56 < List.length v54)) then (bif (!(mgetD E .str .bool w21 (List.getD v54 (Int.toNat v56) []))) then (some 15) else (bif (mgetD E .str .bool w22 (List.getD v54 (Int.toNat v56) [])) then (some 5) else (ref2_HeadErr_l3 n m0 v54 v55 (IntKind.wrap .i64 (v56 + 1)) w21 (mset E .str .bool (List.getD v54 (Int.toNat v56) []) true w22)))) else none) else (some 0)) := by kernel_rfl
theorem ref2_HeadErr_l3_zero (n : Nat) (v54 : List (List UInt8)) (v55 : Int) (v56 : Int) (w21 : List ((List UInt8) × Bool)) (w22 : List ((List UInt8) × Bool)) : ref2_HeadErr_l3 n 0 v54 v55 v56 w21 w22 = none := by kernel_rfl
theorem ref2_HeadErr_l3_fold (n : Nat) (v54 : List (List UInt8)) (w21 : List ((List UInt8) × Bool)) (w22 : List ((List UInt8) × Bool)) (hl : List.length v54 < 9223372036854775807) (m i : Nat) (hi : i ≤ List.length v54) (hm : List.length v54 - i < m) : ref2_HeadErr_l3 n m v54 (List.length v54 : Int) (i : Int) w21 w22 = foldK (S := (List ((List UInt8) × Bool))) (fun i (a : (List UInt8)) s K => (bif (!(mgetD E .str .bool w21 a)) then (some 15) else (bif (mgetD E .str .bool s a) then (some 5) else (K (mset E .str .bool a true s))))) (fun s => (some 0)) (List.drop i v54) i (w22) := range_loop v54 [] hl (fun m (k : Int) (s : (List ((List UInt8) × Bool))) => ref2_HeadErr_l3 n m v54 (List.length v54 : Int) k w21 s) _ _ (fun m i s => (ref2_HeadErr_l3_eq n m v54 (List.length v54 : Int) (i : Int) w21 s).trans (by kernel_rfl)) m i hi hm (w22)
theorem ref2_HeadErr_l0_eq (n : Nat) (m0 : Nat) (v24 : List Col) (v25 : Int) (v26 : Int) (w1 : Rel) (w21 : List ((List UInt8) × Bool)) (w22 : List ((List UInt8) × Bool)) : ref2_HeadErr_l0 n (m0 + 1) v24 v25 v26 w1 w21 w22 = (bif (decide (v26 < v25)) then (bif (decide (0 ≤ v26) && decide (v26 < List.length v24)) then (Option.bind (value_Name n ((List.getD v24 (Int.toNat v26) (Col.mk [] 0)).Name)) fun r2 => (bif (!r2) then (some 15) else (bif (mgetD E .str .bool w21 ((List.getD v24 (Int.toNat v26) (Col.mk [] 0)).Name)) then (some 5) else (bif (decide (((List.getD v24 (Int.toNat v26) (Col.mk [] 0)).Kind) < 1)) then (some 8) else (bif (decide (((List.getD v24 (Int.toNat v26) (Col.mk [] 0)).Kind) > 5)) then (some 8) else (ref2_HeadErr_l0 n m0 v24 v25 (IntKind.wrap .i64 (v26 + 1)) w1 (mset E .str .bool ((List.getD v24 (Int.toNat v26) (Col.mk [] 0)).Name) true w21) w22)))))) else none) else (ref2_HeadErr_l3 n n w1.Key (List.length w1.Key : Int) 0 w21 w22)) := by kernel_rfl
theorem ref2_HeadErr_l0_zero (n : Nat) (v24 : List Col) (v25 : Int) (v26 : Int) (w1 : Rel) (w21 : List ((List UInt8) × Bool)) (w22 : List ((List UInt8) × Bool)) : ref2_HeadErr_l0 n 0 v24 v25 v26 w1 w21 w22 = none := by kernel_rfl
theorem ref2_HeadErr_l0_fold (n : Nat) (v24 : List Col) (w1 : Rel) (w22 : List ((List UInt8) × Bool)) (w21 : List ((List UInt8) × Bool)) (hl : List.length v24 < 9223372036854775807) (m i : Nat) (hi : i ≤ List.length v24) (hm : List.length v24 - i < m) : ref2_HeadErr_l0 n m v24 (List.length v24 : Int) (i : Int) w1 w21 w22 = foldK (S := (List ((List UInt8) × Bool))) (fun i (a : Col) s K => (Option.bind (value_Name n (a.Name)) fun r2 => (bif (!r2) then (some 15) else (bif (mgetD E .str .bool s (a.Name)) then (some 5) else (bif (decide ((a.Kind) < 1)) then (some 8) else (bif (decide ((a.Kind) > 5)) then (some 8) else (K (mset E .str .bool (a.Name) true s)))))))) (fun s => (ref2_HeadErr_l3 n n w1.Key (List.length w1.Key : Int) 0 s w22)) (List.drop i v24) i (w21) := range_loop v24 (Col.mk [] 0) hl (fun m (k : Int) (s : (List ((List UInt8) × Bool))) => ref2_HeadErr_l0 n m v24 (List.length v24 : Int) k w1 s w22) _ _ (fun m i s => (ref2_HeadErr_l0_eq n m v24 (List.length v24 : Int) (i : Int) w1 s w22).trans (by kernel_rfl)) m i hi hm (w21)
theorem ref2_HeadErr_eq (n : Nat) (x0 : Rel) : ref2_HeadErr n x0 = (Option.bind (value_Name n x0.Name) fun r1 => (bif (!r1) then (some 15) else (bif (decide ((List.length x0.Cols : Int) = 0)) then (some 3) else (bif (decide ((List.length x0.Cols : Int) > 12)) then (some 2) else (ref2_HeadErr_l0 n n x0.Cols (List.length x0.Cols : Int) 0 x0 [] []))))) := by kernel_rfl
noncomputable def C10 (n : Nat) : Call2 E := more tt gl H (C9 n) n 37 Tryz.f37 [.t (.nm 3)] (C9 n)
noncomputable def Cr10 : Nat → Nat → Call2 E
  | 0, n => C10 n
  | d + 1, n => (more tt gl H (Cr10 d n) n 78 Tryz.f78 [.t (.nm 1)] (C10 n))
noncomputable def C11 (n : Nat) : Call2 E := Cr10 (n + 1) n

/- clapperbridge/value.Size -/
noncomputable def value_Size (d : Nat) (n : Nat) (x0 : ApiValue) : Option Int := F2 (E := E) tt gl H (Cr10 d n) n 78 Tryz.f78 [.t (.nm 1)] (x0, ())
noncomputable def value_Size_l0 (d : Nat) (n : Nat) (m0 : Nat) (v3 : Int) (v7 : List ApiField) (v8 : Int) (v9 : Int) : Option Int := lp (E := E) (ps := [.t (.nm 1)]) tt gl H (Cr10 d n) n 78 Tryz.f78 [1, 1, 0, 1, 0] [] m0 ⟨mkT 20 0 [(3, .t (.int .i64) v3), (7, .t (.sl (.nm 2)) v7), (8, .t (.int .i64) v8), (9, .t (.int .i64) v9)], mkB 80 0 []⟩
theorem value_Size_l0_eq (d : Nat) (n : Nat) (m0 : Nat) (v3 : Int) (v7 : List ApiField) (v8 : Int) (v9 : Int) : value_Size_l0 (d + 1) n (m0 + 1) v3 v7 v8 v9 = (bif (decide (v9 < v8)) then (bif (decide (0 ≤ v9) && decide (v9 < List.length v7)) then (Option.bind (value_Size d n ((List.getD v7 (Int.toNat v9) (ApiField.mk [] (ApiValue.mk 0 0 [] []))).Val)) fun r1 => (value_Size_l0 (d + 1) n m0 (IntKind.wrap .i64 (v3 + r1)) v7 v8 (IntKind.wrap .i64 (v9 + 1)))) else none) else (some v3)) := by kernel_rfl
theorem value_Size_l0_zero (d : Nat) (n : Nat) (v3 : Int) (v7 : List ApiField) (v8 : Int) (v9 : Int) : value_Size_l0 d n 0 v3 v7 v8 v9 = none := by kernel_rfl
theorem value_Size_l0_fold (d : Nat) (n : Nat) (v7 : List ApiField) (v3 : Int) (hl : List.length v7 < 9223372036854775807) (m i : Nat) (hi : i ≤ List.length v7) (hm : List.length v7 - i < m) : value_Size_l0 (d + 1) n m v3 v7 (List.length v7 : Int) (i : Int) = foldK (S := Int) (fun i (a : ApiField) s K => (Option.bind (value_Size d n (a.Val)) fun r1 => (K (IntKind.wrap .i64 (s + r1))))) (fun s => (some s)) (List.drop i v7) i (v3) := range_loop v7 (ApiField.mk [] (ApiValue.mk 0 0 [] [])) hl (fun m (k : Int) (s : Int) => value_Size_l0 (d + 1) n m s v7 (List.length v7 : Int) k) _ _ (fun m i s => (value_Size_l0_eq d n m s v7 (List.length v7 : Int) (i : Int)).trans (by kernel_rfl)) m i hi hm (v3)
theorem value_Size_eq (d : Nat) (n : Nat) (x0 : ApiValue) : value_Size (d + 1) n x0 = (value_Size_l0 (d + 1) n n 1 x0.Fields (List.length x0.Fields : Int) 0) := by kernel_rfl
noncomputable def Cr11 : Nat → Nat → Call2 E
  | 0, n => C11 n
  | d + 1, n => (more tt gl H (Cr11 d n) n 79 Tryz.f79 [.t (.nm 1)] (C11 n))
noncomputable def C12 (n : Nat) : Call2 E := Cr11 (n + 1) n

/- clapperbridge/value.Deep -/
noncomputable def value_Deep (d : Nat) (n : Nat) (x0 : ApiValue) : Option Int := F2 (E := E) tt gl H (Cr11 d n) n 79 Tryz.f79 [.t (.nm 1)] (x0, ())
noncomputable def value_Deep_l0 (d : Nat) (n : Nat) (m0 : Nat) (v3 : Int) (v7 : List ApiField) (v8 : Int) (v9 : Int) : Option Int := lp (E := E) (ps := [.t (.nm 1)]) tt gl H (Cr11 d n) n 79 Tryz.f79 [1, 1, 0, 1, 0] [] m0 ⟨mkT 21 0 [(3, .t (.int .i64) v3), (7, .t (.sl (.nm 2)) v7), (8, .t (.int .i64) v8), (9, .t (.int .i64) v9)], mkB 84 0 []⟩
theorem value_Deep_l0_eq (d : Nat) (n : Nat) (m0 : Nat) (v3 : Int) (v7 : List ApiField) (v8 : Int) (v9 : Int) : value_Deep_l0 (d + 1) n (m0 + 1) v3 v7 v8 v9 = (bif (decide (v9 < v8)) then (bif (decide (0 ≤ v9) && decide (v9 < List.length v7)) then (Option.bind (value_Deep d n ((List.getD v7 (Int.toNat v9) (ApiField.mk [] (ApiValue.mk 0 0 [] []))).Val)) fun r1 => (value_Deep_l0 (d + 1) n m0 (mxI v3 r1) v7 v8 (IntKind.wrap .i64 (v9 + 1)))) else none) else (some (IntKind.wrap .i64 (v3 + 1)))) := by kernel_rfl
theorem value_Deep_l0_zero (d : Nat) (n : Nat) (v3 : Int) (v7 : List ApiField) (v8 : Int) (v9 : Int) : value_Deep_l0 d n 0 v3 v7 v8 v9 = none := by kernel_rfl
theorem value_Deep_l0_fold (d : Nat) (n : Nat) (v7 : List ApiField) (v3 : Int) (hl : List.length v7 < 9223372036854775807) (m i : Nat) (hi : i ≤ List.length v7) (hm : List.length v7 - i < m) : value_Deep_l0 (d + 1) n m v3 v7 (List.length v7 : Int) (i : Int) = foldK (S := Int) (fun i (a : ApiField) s K => (Option.bind (value_Deep d n (a.Val)) fun r1 => (K (mxI s r1)))) (fun s => (some (IntKind.wrap .i64 (s + 1)))) (List.drop i v7) i (v3) := range_loop v7 (ApiField.mk [] (ApiValue.mk 0 0 [] [])) hl (fun m (k : Int) (s : Int) => value_Deep_l0 (d + 1) n m s v7 (List.length v7 : Int) k) _ _ (fun m i s => (value_Deep_l0_eq d n m s v7 (List.length v7 : Int) (i : Int)).trans (by kernel_rfl)) m i hi hm (v3)
theorem value_Deep_eq (d : Nat) (n : Nat) (x0 : ApiValue) : value_Deep (d + 1) n x0 = (value_Deep_l0 (d + 1) n n 0 x0.Fields (List.length x0.Fields : Int) 0) := by kernel_rfl

/- clapperbridge/value.Scalar -/
noncomputable def value_Scalar (n : Nat) (x0 : Int) : Option Bool := F2 (E := E) tt gl H (C12 n) n 134 Tryz.f134 [.t (.int .i64)] (x0, ())
theorem value_Scalar_eq (n : Nat) (x0 : Int) : value_Scalar n x0 = (bif (decide (x0 ≥ 0)) then (bif (decide (x0 ≤ 5)) then (some true) else (some (decide (x0 = 11)))) else (some (decide (x0 = 11)))) := by kernel_rfl
noncomputable def C13 (n : Nat) : Call2 E := more tt gl H (C12 n) n 134 Tryz.f134 [.t (.int .i64)] (C12 n)

/- clapperbridge/value.unused -/
noncomputable def value_unused (n : Nat) (x0 : ApiValue) : Option Bool := F2 (E := E) tt gl H (C13 n) n 113 Tryz.f113 [.t (.nm 1)] (x0, ())
theorem value_unused_eq (n : Nat) (x0 : ApiValue) : value_unused n x0 = (bif (decide (x0.Kind ≥ 1)) then (bif (decide (x0.Kind ≤ 4)) then (bif (!decide (x0.Kind = 5)) then (bif (!(x0.S == [])) then (some true) else (Option.bind (value_Scalar n x0.Kind) fun r1 => (bif r1 then (some (decide ((List.length x0.Fields : Int) > 0))) else (some false)))) else (Option.bind (value_Scalar n x0.Kind) fun r2 => (bif r2 then (some (decide ((List.length x0.Fields : Int) > 0))) else (some false)))) else (bif (!(decide (x0.Kind = 11))) then (bif (!decide (x0.N = 0)) then (some true) else (bif (!decide (x0.Kind = 5)) then (bif (!(x0.S == [])) then (some true) else (Option.bind (value_Scalar n x0.Kind) fun r3 => (bif r3 then (some (decide ((List.length x0.Fields : Int) > 0))) else (some false)))) else (Option.bind (value_Scalar n x0.Kind) fun r4 => (bif r4 then (some (decide ((List.length x0.Fields : Int) > 0))) else (some false))))) else (bif (!decide (x0.Kind = 5)) then (bif (!(x0.S == [])) then (some true) else (Option.bind (value_Scalar n x0.Kind) fun r5 => (bif r5 then (some (decide ((List.length x0.Fields : Int) > 0))) else (some false)))) else (Option.bind (value_Scalar n x0.Kind) fun r6 => (bif r6 then (some (decide ((List.length x0.Fields : Int) > 0))) else (some false)))))) else (bif (!(decide (x0.Kind = 11))) then (bif (!decide (x0.N = 0)) then (some true) else (bif (!decide (x0.Kind = 5)) then (bif (!(x0.S == [])) then (some true) else (Option.bind (value_Scalar n x0.Kind) fun r7 => (bif r7 then (some (decide ((List.length x0.Fields : Int) > 0))) else (some false)))) else (Option.bind (value_Scalar n x0.Kind) fun r8 => (bif r8 then (some (decide ((List.length x0.Fields : Int) > 0))) else (some false))))) else (bif (!decide (x0.Kind = 5)) then (bif (!(x0.S == [])) then (some true) else (Option.bind (value_Scalar n x0.Kind) fun r9 => (bif r9 then (some (decide ((List.length x0.Fields : Int) > 0))) else (some false)))) else (Option.bind (value_Scalar n x0.Kind) fun r10 => (bif r10 then (some (decide ((List.length x0.Fields : Int) > 0))) else (some false)))))) := by kernel_rfl
noncomputable def C14 (n : Nat) : Call2 E := more tt gl H (C13 n) n 113 Tryz.f113 [.t (.nm 1)] (C13 n)

/- clapperbridge/value.number -/
noncomputable def value_number (n : Nat) (x0 : ApiValue) : Option Bool := F2 (E := E) tt gl H (C14 n) n 114 Tryz.f114 [.t (.nm 1)] (x0, ())
theorem value_number_eq (n : Nat) (x0 : ApiValue) : value_number n x0 = (bif (decide (x0.Kind = 1)) then (bif (decide (x0.N = 0)) then (some true) else (some (decide (x0.N = 1)))) else (bif (decide (x0.Kind = 2)) then (bif (decide (x0.N ≥ (-9007199254740992))) then (some (decide (x0.N ≤ 9007199254740992))) else (some false)) else (bif (decide (x0.Kind = 4)) then (bif (decide (x0.N ≥ 0)) then (some (decide (x0.N ≤ 4194304))) else (some false)) else (bif (decide (x0.Kind = 11)) then (bif (decide (x0.N ≥ 0)) then (some (decide (x0.N ≤ 9007199254740992))) else (some false)) else (some true))))) := by kernel_rfl
noncomputable def C15 (n : Nat) : Call2 E := more tt gl H (C14 n) n 114 Tryz.f114 [.t (.nm 1)] (C14 n)

/- clapperbridge/value.names$1 -/
noncomputable def value_names_1 (n : Nat) (x0 : ApiField) (x1 : ApiField) : Option Bool := F2 (E := E) tt gl H (C15 n) n 147 Tryz.f147 [.t (.nm 2), .imm (.nm 2)] (x0, x1, ())
theorem value_names_1_eq (n : Nat) (x0 : ApiField) (x1 : ApiField) : value_names_1 n x0 x1 = (some (x0.Name == x1.Name)) := by kernel_rfl
noncomputable def C16 (n : Nat) : Call2 E := more tt gl H (C15 n) n 147 Tryz.f147 [.t (.nm 2), .imm (.nm 2)] (C15 n)

/- slices.IndexFunc[[]clapperbridge/api.Field,clapperbridge/api.Field] -/
noncomputable def slices_IndexFunc_Field_by_value_names_1 (n : Nat) (x0 : List ApiField) (x1 : (ApiField × Unit)) : Option Int := F2 (E := E) tt gl H (C16 n) n 150 Tryz.f150 [.t (.sl (.nm 2)), .fn 147 [(.nm 2)]] (x0, x1, ())
noncomputable def slices_IndexFunc_Field_by_value_names_1_l0 (n : Nat) (m0 : Nat) (v0 : List ApiField) (v1c0 : ApiField) (v7 : Int) (v8 : Int) : Option Int := lp (E := E) (ps := [.t (.sl (.nm 2)), .fn 147 [(.nm 2)]]) tt gl H (C16 n) n 150 Tryz.f150 [1, 0, 1, 0] [] m0 ⟨mkT 19 0 [(0, .t (.sl (.nm 2)) v0), (1, .func 147 [⟨(.nm 2), v1c0⟩]), (7, .t (.int .i64) v7), (8, .t (.int .i64) v8)], mkB 76 0 []⟩
theorem slices_IndexFunc_Field_by_value_names_1_l0_eq (n : Nat) (m0 : Nat) (v0 : List ApiField) (v1c0 : ApiField) (v7 : Int) (v8 : Int) : slices_IndexFunc_Field_by_value_names_1_l0 n (m0 + 1) v0 v1c0 v7 v8 = (bif (decide (v8 < v7)) then (bif (decide (0 ≤ v8) && decide (v8 < List.length v0)) then (Option.bind (value_names_1 n (List.getD v0 (Int.toNat v8) (ApiField.mk [] (ApiValue.mk 0 0 [] []))) v1c0) fun r1 => (bif r1 then (some v8) else (slices_IndexFunc_Field_by_value_names_1_l0 n m0 v0 v1c0 v7 (IntKind.wrap .i64 (v8 + 1))))) else none) else (some (-1))) := by kernel_rfl
theorem slices_IndexFunc_Field_by_value_names_1_l0_zero (n : Nat) (v0 : List ApiField) (v1c0 : ApiField) (v7 : Int) (v8 : Int) : slices_IndexFunc_Field_by_value_names_1_l0 n 0 v0 v1c0 v7 v8 = none := by kernel_rfl
theorem slices_IndexFunc_Field_by_value_names_1_l0_fold (n : Nat) (v0 : List ApiField) (v1c0 : ApiField) (hl : List.length v0 < 9223372036854775807) (m i : Nat) (hi : i ≤ List.length v0) (hm : List.length v0 - i < m) : slices_IndexFunc_Field_by_value_names_1_l0 n m v0 v1c0 (List.length v0 : Int) (i : Int) = foldK (S := Unit) (fun i (a : ApiField) s K => (Option.bind (value_names_1 n a v1c0) fun r1 => (bif r1 then (some (i : Int)) else (K ())))) (fun s => (some (-1))) (List.drop i v0) i () := range_loop v0 (ApiField.mk [] (ApiValue.mk 0 0 [] [])) hl (fun m (k : Int) (s : Unit) => slices_IndexFunc_Field_by_value_names_1_l0 n m v0 v1c0 (List.length v0 : Int) k) _ _ (fun m i s => (slices_IndexFunc_Field_by_value_names_1_l0_eq n m v0 v1c0 (List.length v0 : Int) (i : Int)).trans (by kernel_rfl)) m i hi hm ()
theorem slices_IndexFunc_Field_by_value_names_1_eq (n : Nat) (x0 : List ApiField) (x1 : (ApiField × Unit)) : slices_IndexFunc_Field_by_value_names_1 n x0 x1 = (slices_IndexFunc_Field_by_value_names_1_l0 n n x0 x1.1 (List.length x0 : Int) 0) := by kernel_rfl
noncomputable def C17 (n : Nat) : Call2 E := more tt gl H (C16 n) n 150 Tryz.f150 [.t (.sl (.nm 2)), .fn 147 [(.nm 2)]] (C16 n)

/- slices.ContainsFunc[[]clapperbridge/api.Field,clapperbridge/api.Field] -/
noncomputable def slices_ContainsFunc_Field_by_value_names_1 (n : Nat) (x0 : List ApiField) (x1 : (ApiField × Unit)) : Option Bool := F2 (E := E) tt gl H (C17 n) n 146 Tryz.f146 [.t (.sl (.nm 2)), .fn 147 [(.nm 2)]] (x0, x1, ())
theorem slices_ContainsFunc_Field_by_value_names_1_eq (n : Nat) (x0 : List ApiField) (x1 : (ApiField × Unit)) : slices_ContainsFunc_Field_by_value_names_1 n x0 x1 = (Option.bind (slices_IndexFunc_Field_by_value_names_1 n x0 (x1.1, ())) fun r1 => (some (decide (r1 ≥ 0)))) := by kernel_rfl
noncomputable def C18 (n : Nat) : Call2 E := more tt gl H (C17 n) n 146 Tryz.f146 [.t (.sl (.nm 2)), .fn 147 [(.nm 2)]] (C17 n)

/- clapperbridge/value.names -/
noncomputable def value_names (n : Nat) (x0 : List ApiField) : Option Int := F2 (E := E) tt gl H (C18 n) n 135 Tryz.f135 [.t (.sl (.nm 2))] (x0, ())
noncomputable def value_names_l0 (n : Nat) (m0 : Nat) (v0 : List ApiField) (v5 : List ApiField) (v6 : Int) (v7 : Int) : Option Int := lp (E := E) (ps := [.t (.sl (.nm 2))]) tt gl H (C18 n) n 135 Tryz.f135 [1, 0, 1, 0] [] m0 ⟨mkT 22 0 [(0, .t (.sl (.nm 2)) v0), (5, .t (.sl (.nm 2)) v5), (6, .t (.int .i64) v6), (7, .t (.int .i64) v7)], mkB 88 0 []⟩
theorem value_names_l0_eq (n : Nat) (m0 : Nat) (v0 : List ApiField) (v5 : List ApiField) (v6 : Int) (v7 : Int) : value_names_l0 n (m0 + 1) v0 v5 v6 v7 = (bif (decide (v7 < v6)) then (bif (decide (0 ≤ v7) && decide (v7 < List.length v5)) then (Option.bind (value_Name n ((List.getD v5 (Int.toNat v7) (ApiField.mk [] (ApiValue.mk 0 0 [] []))).Name)) fun r1 => (bif (!r1) then (some 15) else (bif (decide (0 ≤ v7) && decide (v7 ≤ (List.length v0))) then (Option.bind (slices_ContainsFunc_Field_by_value_names_1 n (List.take (Int.toNat v7) v0) ((List.getD v5 (Int.toNat v7) (ApiField.mk [] (ApiValue.mk 0 0 [] []))), ())) fun r2 => (bif r2 then (some 5) else (value_names_l0 n m0 v0 v5 v6 (IntKind.wrap .i64 (v7 + 1))))) else none))) else none) else (some 0)) := by kernel_rfl
theorem value_names_l0_zero (n : Nat) (v0 : List ApiField) (v5 : List ApiField) (v6 : Int) (v7 : Int) : value_names_l0 n 0 v0 v5 v6 v7 = none := by kernel_rfl
theorem value_names_l0_fold (n : Nat) (v0 : List ApiField) (v5 : List ApiField) (hl : List.length v5 < 9223372036854775807) (m i : Nat) (hi : i ≤ List.length v5) (hm : List.length v5 - i < m) : value_names_l0 n m v0 v5 (List.length v5 : Int) (i : Int) = foldK (S := Unit) (fun i (a : ApiField) s K => (Option.bind (value_Name n (a.Name)) fun r1 => (bif (!r1) then (some 15) else (bif (decide (0 ≤ (i : Int)) && decide ((i : Int) ≤ (List.length v0))) then (Option.bind (slices_ContainsFunc_Field_by_value_names_1 n (List.take (Int.toNat (i : Int)) v0) (a, ())) fun r2 => (bif r2 then (some 5) else (K ()))) else none)))) (fun s => (some 0)) (List.drop i v5) i () := range_loop v5 (ApiField.mk [] (ApiValue.mk 0 0 [] [])) hl (fun m (k : Int) (s : Unit) => value_names_l0 n m v0 v5 (List.length v5 : Int) k) _ _ (fun m i s => (value_names_l0_eq n m v0 v5 (List.length v5 : Int) (i : Int)).trans (by kernel_rfl)) m i hi hm ()
theorem value_names_eq (n : Nat) (x0 : List ApiField) : value_names n x0 = (value_names_l0 n n x0 x0 (List.length x0 : Int) 0) := by kernel_rfl
noncomputable def C19 (n : Nat) : Call2 E := more tt gl H (C18 n) n 135 Tryz.f135 [.t (.sl (.nm 2))] (C18 n)

/- clapperbridge/value.keys -/
noncomputable def value_keys (n : Nat) (x0 : ApiValue) : Option Int := F2 (E := E) tt gl H (C19 n) n 136 Tryz.f136 [.t (.nm 1)] (x0, ())
noncomputable def value_keys_l0 (n : Nat) (m0 : Nat) (v6 : List ApiField) (v7 : Int) (v8 : Int) (w1 : ApiValue) : Option Int := lp (E := E) (ps := [.t (.nm 1)]) tt gl H (C19 n) n 136 Tryz.f136 [1, 0, 1, 0] [] m0 ⟨mkT 47 0 [(1, .ptr 1 (.nm 1) []), (6, .t (.sl (.nm 2)) v6), (7, .t (.int .i64) v7), (8, .t (.int .i64) v8)], mkB 188 0 [(1, .var (.nm 1) (.t (.nm 1) w1))]⟩
theorem value_keys_l0_eq (n : Nat) (m0 : Nat) (v6 : List ApiField) (v7 : Int) (v8 : Int) (w1 : ApiValue) : value_keys_l0 n (m0 + 1) v6 v7 v8 w1 = (bif (decide (v8 < v7)) then (bif (decide (0 ≤ v8) && decide (v8 < List.length v6)) then (bif (decide (w1.Kind = 8)) then (bif (!(((List.getD v6 (Int.toNat v8) (ApiField.mk [] (ApiValue.mk 0 0 [] []))).Name) == [])) then (some 3) else (bif (decide (w1.Kind = 8)) then (value_keys_l0 n m0 v6 v7 (IntKind.wrap .i64 (v8 + 1)) w1) else (bif (decide ((List.length ((List.getD v6 (Int.toNat v8) (ApiField.mk [] (ApiValue.mk 0 0 [] []))).Name) : Int) > 4000)) then (some 2) else (bif (decide (v8 > 0)) then (bif (decide (0 ≤ (IntKind.wrap .i64 (v8 - 1))) && decide ((IntKind.wrap .i64 (v8 - 1)) < List.length w1.Fields)) then (bif (bytesLess ((List.getD v6 (Int.toNat v8) (ApiField.mk [] (ApiValue.mk 0 0 [] []))).Name) ((List.getD w1.Fields (Int.toNat (IntKind.wrap .i64 (v8 - 1))) (ApiField.mk [] (ApiValue.mk 0 0 [] []))).Name) || (((List.getD v6 (Int.toNat v8) (ApiField.mk [] (ApiValue.mk 0 0 [] []))).Name) == ((List.getD w1.Fields (Int.toNat (IntKind.wrap .i64 (v8 - 1))) (ApiField.mk [] (ApiValue.mk 0 0 [] []))).Name))) then (some 9) else (value_keys_l0 n m0 v6 v7 (IntKind.wrap .i64 (v8 + 1)) w1)) else none) else (value_keys_l0 n m0 v6 v7 (IntKind.wrap .i64 (v8 + 1)) w1))))) else (bif (decide (w1.Kind = 8)) then (value_keys_l0 n m0 v6 v7 (IntKind.wrap .i64 (v8 + 1)) w1) else (bif (decide ((List.length ((List.getD v6 (Int.toNat v8) (ApiField.mk [] (ApiValue.mk 0 0 [] []))).Name) : Int) > 4000)) then (some 2) else (bif (decide (v8 > 0)) then (bif (decide (0 ≤ (IntKind.wrap .i64 (v8 - 1))) && decide ((IntKind.wrap .i64 (v8 - 1)) < List.length w1.Fields)) then (bif (bytesLess ((List.getD v6 (Int.toNat v8) (ApiField.mk [] (ApiValue.mk 0 0 [] []))).Name) ((List.getD w1.Fields (Int.toNat (IntKind.wrap .i64 (v8 - 1))) (ApiField.mk [] (ApiValue.mk 0 0 [] []))).Name) || (((List.getD v6 (Int.toNat v8) (ApiField.mk [] (ApiValue.mk 0 0 [] []))).Name) == ((List.getD w1.Fields (Int.toNat (IntKind.wrap .i64 (v8 - 1))) (ApiField.mk [] (ApiValue.mk 0 0 [] []))).Name))) then (some 9) else (value_keys_l0 n m0 v6 v7 (IntKind.wrap .i64 (v8 + 1)) w1)) else none) else (value_keys_l0 n m0 v6 v7 (IntKind.wrap .i64 (v8 + 1)) w1))))) else none) else (some 0)) := by kernel_rfl
theorem value_keys_l0_zero (n : Nat) (v6 : List ApiField) (v7 : Int) (v8 : Int) (w1 : ApiValue) : value_keys_l0 n 0 v6 v7 v8 w1 = none := by kernel_rfl
theorem value_keys_l0_fold (n : Nat) (v6 : List ApiField) (w1 : ApiValue) (hl : List.length v6 < 9223372036854775807) (m i : Nat) (hi : i ≤ List.length v6) (hm : List.length v6 - i < m) : value_keys_l0 n m v6 (List.length v6 : Int) (i : Int) w1 = foldK (S := Unit) (fun i (a : ApiField) s K => (bif (decide (w1.Kind = 8)) then (bif (!((a.Name) == [])) then (some 3) else (bif (decide (w1.Kind = 8)) then (K ()) else (bif (decide ((List.length (a.Name) : Int) > 4000)) then (some 2) else (bif (decide ((i : Int) > 0)) then (bif (decide (0 ≤ (IntKind.wrap .i64 ((i : Int) - 1))) && decide ((IntKind.wrap .i64 ((i : Int) - 1)) < List.length w1.Fields)) then (bif (bytesLess (a.Name) ((List.getD w1.Fields (Int.toNat (IntKind.wrap .i64 ((i : Int) - 1))) (ApiField.mk [] (ApiValue.mk 0 0 [] []))).Name) || ((a.Name) == ((List.getD w1.Fields (Int.toNat (IntKind.wrap .i64 ((i : Int) - 1))) (ApiField.mk [] (ApiValue.mk 0 0 [] []))).Name))) then (some 9) else (K ())) else none) else (K ()))))) else (bif (decide (w1.Kind = 8)) then (K ()) else (bif (decide ((List.length (a.Name) : Int) > 4000)) then (some 2) else (bif (decide ((i : Int) > 0)) then (bif (decide (0 ≤ (IntKind.wrap .i64 ((i : Int) - 1))) && decide ((IntKind.wrap .i64 ((i : Int) - 1)) < List.length w1.Fields)) then (bif (bytesLess (a.Name) ((List.getD w1.Fields (Int.toNat (IntKind.wrap .i64 ((i : Int) - 1))) (ApiField.mk [] (ApiValue.mk 0 0 [] []))).Name) || ((a.Name) == ((List.getD w1.Fields (Int.toNat (IntKind.wrap .i64 ((i : Int) - 1))) (ApiField.mk [] (ApiValue.mk 0 0 [] []))).Name))) then (some 9) else (K ())) else none) else (K ())))))) (fun s => (some 0)) (List.drop i v6) i () := range_loop v6 (ApiField.mk [] (ApiValue.mk 0 0 [] [])) hl (fun m (k : Int) (s : Unit) => value_keys_l0 n m v6 (List.length v6 : Int) k w1) _ _ (fun m i s => (value_keys_l0_eq n m v6 (List.length v6 : Int) (i : Int) w1).trans (by kernel_rfl)) m i hi hm ()
theorem value_keys_eq (n : Nat) (x0 : ApiValue) : value_keys n x0 = (value_keys_l0 n n x0.Fields (List.length x0.Fields : Int) 0 x0) := by kernel_rfl
noncomputable def C20 (n : Nat) : Call2 E := more tt gl H (C19 n) n 136 Tryz.f136 [.t (.nm 1)] (C19 n)

/- clapperbridge/value.fields -/
noncomputable def value_fields (n : Nat) (x0 : ApiValue) : Option Int := F2 (E := E) tt gl H (C20 n) n 115 Tryz.f115 [.t (.nm 1)] (x0, ())
theorem value_fields_eq (n : Nat) (x0 : ApiValue) : value_fields n x0 = (bif (decide (x0.Kind = 5)) then (bif (decide ((List.length x0.S : Int) > 4000)) then (some 2) else (some 0)) else (bif (decide (x0.Kind = 6)) then (bif (decide ((List.length x0.Fields : Int) > 24)) then (some 2) else (Option.bind (value_names n x0.Fields) fun r1 => (some r1))) else (bif (decide (x0.Kind = 7)) then (bif (!decide ((List.length x0.Fields : Int) = 1)) then (some 3) else (Option.bind (value_names n x0.Fields) fun r2 => (some r2))) else (bif (decide (x0.Kind = 8)) then (bif (decide (x0.Kind = 8)) then (bif (decide ((List.length x0.Fields : Int) > 200)) then (some 2) else (Option.bind (value_keys n x0) fun r3 => (some r3))) else (some 0)) else (bif (decide (x0.Kind = 9)) then (bif (decide ((List.length x0.Fields : Int) > 200)) then (some 2) else (Option.bind (value_keys n x0) fun r4 => (some r4))) else (some 0)))))) := by kernel_rfl
noncomputable def C21 (n : Nat) : Call2 E := more tt gl H (C20 n) n 115 Tryz.f115 [.t (.nm 1)] (C20 n)
noncomputable def Cr21 : Nat → Nat → Call2 E
  | 0, n => C21 n
  | d + 1, n => (more tt gl H (Cr21 d n) n 80 Tryz.f80 [.t (.nm 1), .t .bool] (C21 n))
noncomputable def C22 (n : Nat) : Call2 E := Cr21 (n + 1) n

/- clapperbridge/value.node -/
noncomputable def value_node (d : Nat) (n : Nat) (x0 : ApiValue) (x1 : Bool) : Option Int := F2 (E := E) tt gl H (Cr21 d n) n 80 Tryz.f80 [.t (.nm 1), .t .bool] (x0, x1, ())
noncomputable def value_node_l1 (d : Nat) (n : Nat) (m0 : Nat) (v46 : List ApiField) (v47 : Int) (v48 : Int) : Option Int := lp (E := E) (ps := [.t (.nm 1), .t .bool]) tt gl H (Cr21 d n) n 80 Tryz.f80 [1, 1, 1, 0, 1, 0] [] m0 ⟨mkT 59 0 [(46, .t (.sl (.nm 2)) v46), (47, .t (.int .i64) v47), (48, .t (.int .i64) v48)], mkB 236 0 []⟩
theorem value_node_l1_eq (d : Nat) (n : Nat) (m0 : Nat) (v46 : List ApiField) (v47 : Int) (v48 : Int) : value_node_l1 (d + 1) n (m0 + 1) v46 v47 v48 = (bif (decide (v48 < v47)) then (bif (decide (0 ≤ v48) && decide (v48 < List.length v46)) then (Option.bind (value_node d n ((List.getD v46 (Int.toNat v48) (ApiField.mk [] (ApiValue.mk 0 0 [] []))).Val) false) fun r4 => (bif (!decide (r4 = 0)) then (some r4) else (value_node_l1 (d + 1) n m0 v46 v47 (IntKind.wrap .i64 (v48 + 1))))) else none) else (some 0)) := by kernel_rfl
theorem value_node_l1_zero (d : Nat) (n : Nat) (v46 : List ApiField) (v47 : Int) (v48 : Int) : value_node_l1 d n 0 v46 v47 v48 = none := by kernel_rfl
theorem value_node_l1_fold (d : Nat) (n : Nat) (v46 : List ApiField) (hl : List.length v46 < 9223372036854775807) (m i : Nat) (hi : i ≤ List.length v46) (hm : List.length v46 - i < m) : value_node_l1 (d + 1) n m v46 (List.length v46 : Int) (i : Int) = foldK (S := Unit) (fun i (a : ApiField) s K => (Option.bind (value_node d n (a.Val) false) fun r4 => (bif (!decide (r4 = 0)) then (some r4) else (K ())))) (fun s => (some 0)) (List.drop i v46) i () := range_loop v46 (ApiField.mk [] (ApiValue.mk 0 0 [] [])) hl (fun m (k : Int) (s : Unit) => value_node_l1 (d + 1) n m v46 (List.length v46 : Int) k) _ _ (fun m i s => (value_node_l1_eq d n m v46 (List.length v46 : Int) (i : Int)).trans (by kernel_rfl)) m i hi hm ()
theorem value_node_eq (d : Nat) (n : Nat) (x0 : ApiValue) (x1 : Bool) : value_node (d + 1) n x0 x1 = (bif (decide (x0.Kind < 0)) then (some 3) else (bif (decide (x0.Kind ≥ 12)) then (some 3) else (bif (decide (x0.Kind = 10)) then (some 3) else (bif (decide (x0.Kind = 11)) then (bif (!x1) then (some 3) else (Option.bind (value_unused n x0) fun r1 => (bif r1 then (some 3) else (Option.bind (value_number n x0) fun r2 => (bif (!r2) then (some 11) else (Option.bind (value_fields n x0) fun r3 => (bif (!decide (r3 = 0)) then (some r3) else (value_node_l1 (d + 1) n n x0.Fields (List.length x0.Fields : Int) 0)))))))) else (Option.bind (value_unused n x0) fun r5 => (bif r5 then (some 3) else (Option.bind (value_number n x0) fun r6 => (bif (!r6) then (some 11) else (Option.bind (value_fields n x0) fun r7 => (bif (!decide (r7 = 0)) then (some r7) else (value_node_l1 (d + 1) n n x0.Fields (List.length x0.Fields : Int) 0))))))))))) := by kernel_rfl

/- clapperbridge/value.Check -/
noncomputable def value_Check (n : Nat) (x0 : ApiValue) : Option Int := F2 (E := E) tt gl H (C22 n) n 53 Tryz.f53 [.t (.nm 1)] (x0, ())
theorem value_Check_eq (n : Nat) (x0 : ApiValue) : value_Check n x0 = (Option.bind (value_Size n n x0) fun r1 => (bif (decide (r1 > 2000)) then (some 2) else (Option.bind (value_Deep n n x0) fun r2 => (bif (decide (r2 > 40)) then (some 2) else (Option.bind (value_node n n x0 true) fun r3 => (some r3)))))) := by kernel_rfl
noncomputable def C23 (n : Nat) : Call2 E := more tt gl H (C22 n) n 53 Tryz.f53 [.t (.nm 1)] (C22 n)

/- clapperbridge/clapref2.RowErr -/
noncomputable def ref2_RowErr (n : Nat) (x0 : Rel) (x1 : List ApiValue) : Option Int := F2 (E := E) tt gl H (C23 n) n 38 Tryz.f38 [.t (.nm 3), .t (.sl (.nm 1))] (x0, x1, ())
noncomputable def ref2_RowErr_l0 (n : Nat) (m0 : Nat) (v1 : List ApiValue) (v14 : Int) (v15 : Int) (w2 : Rel) : Option Int := lp (E := E) (ps := [.t (.nm 3), .t (.sl (.nm 1))]) tt gl H (C23 n) n 38 Tryz.f38 [1, 1, 0, 1, 0] [] m0 ⟨mkT 51 0 [(1, .t (.sl (.nm 1)) v1), (2, .ptr 2 (.nm 3) []), (14, .t (.int .i64) v14), (15, .t (.int .i64) v15)], mkB 204 0 [(2, .var (.nm 3) (.t (.nm 3) w2))]⟩
theorem ref2_RowErr_l0_eq (n : Nat) (m0 : Nat) (v1 : List ApiValue) (v14 : Int) (v15 : Int) (w2 : Rel) : ref2_RowErr_l0 n (m0 + 1) v1 v14 v15 w2 = (bif (decide (v15 < v14)) then (bif (decide (0 ≤ v15) && decide (v15 < List.length v1)) then (Option.bind (value_Check n (List.getD v1 (Int.toNat v15) (ApiValue.mk 0 0 [] []))) fun r1 => (bif (decide (r1 = 0)) then (bif (decide (0 ≤ v15) && decide (v15 < List.length v1)) then (bif (!decide (((List.getD v1 (Int.toNat v15) (ApiValue.mk 0 0 [] [])).Kind) = 11)) then (bif (decide (0 ≤ v15) && decide (v15 < List.length v1)) then (bif (decide (0 ≤ v15) && decide (v15 < List.length w2.Cols)) then (bif (!decide (((List.getD v1 (Int.toNat v15) (ApiValue.mk 0 0 [] [])).Kind) = ((List.getD w2.Cols (Int.toNat v15) (Col.mk [] 0)).Kind))) then (bif (!decide ((8 : Int) = 0)) then (some 8) else (ref2_RowErr_l0 n m0 v1 v14 (IntKind.wrap .i64 (v15 + 1)) w2)) else (bif (!decide (r1 = 0)) then (some r1) else (ref2_RowErr_l0 n m0 v1 v14 (IntKind.wrap .i64 (v15 + 1)) w2))) else none) else none) else (bif (!decide (r1 = 0)) then (some r1) else (ref2_RowErr_l0 n m0 v1 v14 (IntKind.wrap .i64 (v15 + 1)) w2))) else none) else (bif (!decide (r1 = 0)) then (some r1) else (ref2_RowErr_l0 n m0 v1 v14 (IntKind.wrap .i64 (v15 + 1)) w2)))) else none) else (some 0)) := by kernel_rfl
theorem ref2_RowErr_l0_zero (n : Nat) (v1 : List ApiValue) (v14 : Int) (v15 : Int) (w2 : Rel) : ref2_RowErr_l0 n 0 v1 v14 v15 w2 = none := by kernel_rfl
theorem ref2_RowErr_l0_fold (n : Nat) (v1 : List ApiValue) (w2 : Rel) (hl : List.length v1 < 9223372036854775807) (m i : Nat) (hi : i ≤ List.length v1) (hm : List.length v1 - i < m) : ref2_RowErr_l0 n m v1 (List.length v1 : Int) (i : Int) w2 = foldK (S := Unit) (fun i (a : ApiValue) s K => (Option.bind (value_Check n a) fun r1 => (bif (decide (r1 = 0)) then (bif (decide (0 ≤ (i : Int)) && decide ((i : Int) < List.length v1)) then (bif (!decide ((a.Kind) = 11)) then (bif (decide (0 ≤ (i : Int)) && decide ((i : Int) < List.length v1)) then (bif (decide (0 ≤ (i : Int)) && decide ((i : Int) < List.length w2.Cols)) then (bif (!decide ((a.Kind) = ((List.getD w2.Cols (Int.toNat (i : Int)) (Col.mk [] 0)).Kind))) then (bif (!decide ((8 : Int) = 0)) then (some 8) else (K ())) else (bif (!decide (r1 = 0)) then (some r1) else (K ()))) else none) else none) else (bif (!decide (r1 = 0)) then (some r1) else (K ()))) else none) else (bif (!decide (r1 = 0)) then (some r1) else (K ()))))) (fun s => (some 0)) (List.drop i v1) i () := range_loop v1 (ApiValue.mk 0 0 [] []) hl (fun m (k : Int) (s : Unit) => ref2_RowErr_l0 n m v1 (List.length v1 : Int) k w2) _ _ (fun m i s => (ref2_RowErr_l0_eq n m v1 (List.length v1 : Int) (i : Int) w2).trans (by kernel_rfl)) m i hi hm ()
theorem ref2_RowErr_eq (n : Nat) (x0 : Rel) (x1 : List ApiValue) : ref2_RowErr n x0 x1 = (bif (!decide ((List.length x0.Cols : Int) = (List.length x1 : Int))) then (some 3) else (ref2_RowErr_l0 n n x1 (List.length x1 : Int) 0 x0)) := by kernel_rfl
noncomputable def C24 (n : Nat) : Call2 E := more tt gl H (C23 n) n 38 Tryz.f38 [.t (.nm 3), .t (.sl (.nm 1))] (C23 n)

/- clapperbridge/clapref2.column -/
noncomputable def ref2_column (n : Nat) (x0 : Rel) (x1 : List UInt8) : Option Int := F2 (E := E) tt gl H (C24 n) n 20 Tryz.f20 [.t (.nm 3), .t .str] (x0, x1, ())
noncomputable def ref2_column_l0 (n : Nat) (m0 : Nat) (v1 : List UInt8) (v8 : List Col) (v9 : Int) (v10 : Int) : Option Int := lp (E := E) (ps := [.t (.nm 3), .t .str]) tt gl H (C24 n) n 20 Tryz.f20 [1, 0, 1, 0] [] m0 ⟨mkT 21 0 [(1, .t .str v1), (8, .t (.sl (.nm 0)) v8), (9, .t (.int .i64) v9), (10, .t (.int .i64) v10)], mkB 84 0 []⟩
theorem ref2_column_l0_eq (n : Nat) (m0 : Nat) (v1 : List UInt8) (v8 : List Col) (v9 : Int) (v10 : Int) : ref2_column_l0 n (m0 + 1) v1 v8 v9 v10 = (bif (decide (v10 < v9)) then (bif (decide (0 ≤ v10) && decide (v10 < List.length v8)) then (bif (((List.getD v8 (Int.toNat v10) (Col.mk [] 0)).Name) == v1) then (some v10) else (ref2_column_l0 n m0 v1 v8 v9 (IntKind.wrap .i64 (v10 + 1)))) else none) else (some (-1))) := by kernel_rfl
theorem ref2_column_l0_zero (n : Nat) (v1 : List UInt8) (v8 : List Col) (v9 : Int) (v10 : Int) : ref2_column_l0 n 0 v1 v8 v9 v10 = none := by kernel_rfl
theorem ref2_column_l0_fold (n : Nat) (v1 : List UInt8) (v8 : List Col) (hl : List.length v8 < 9223372036854775807) (m i : Nat) (hi : i ≤ List.length v8) (hm : List.length v8 - i < m) : ref2_column_l0 n m v1 v8 (List.length v8 : Int) (i : Int) = foldK (S := Unit) (fun i (a : Col) s K => (bif ((a.Name) == v1) then (some (i : Int)) else (K ()))) (fun s => (some (-1))) (List.drop i v8) i () := range_loop v8 (Col.mk [] 0) hl (fun m (k : Int) (s : Unit) => ref2_column_l0 n m v1 v8 (List.length v8 : Int) k) _ _ (fun m i s => (ref2_column_l0_eq n m v1 v8 (List.length v8 : Int) (i : Int)).trans (by kernel_rfl)) m i hi hm ()
theorem ref2_column_eq (n : Nat) (x0 : Rel) (x1 : List UInt8) : ref2_column n x0 x1 = (ref2_column_l0 n n x1 x0.Cols (List.length x0.Cols : Int) 0) := by kernel_rfl
noncomputable def C25 (n : Nat) : Call2 E := more tt gl H (C24 n) n 20 Tryz.f20 [.t (.nm 3), .t .str] (C24 n)

/- clapperbridge/clapref2.keyOf -/
noncomputable def ref2_keyOf (n : Nat) (x0 : Rel) (x1 : List ApiValue) : Option (List ApiValue) := F2 (E := E) tt gl H (C25 n) n 31 Tryz.f31 [.t (.nm 3), .t (.sl (.nm 1))] (x0, x1, ())
noncomputable def ref2_keyOf_l0 (n : Nat) (m0 : Nat) (v1 : List ApiValue) (v5 : List ApiValue) (v9 : List (List UInt8)) (v10 : Int) (v11 : Int) (w2 : Rel) : Option (List ApiValue) := lp (E := E) (ps := [.t (.nm 3), .t (.sl (.nm 1))]) tt gl H (C25 n) n 31 Tryz.f31 [1, 1, 0, 1, 0] [] m0 ⟨mkT 26 0 [(1, .t (.sl (.nm 1)) v1), (2, .ptr 2 (.nm 3) []), (5, .sl 21 (.nm 1) v5), (9, .t (.sl .str) v9), (10, .t (.int .i64) v10), (11, .t (.int .i64) v11)], mkB 104 0 [(2, .var (.nm 3) (.t (.nm 3) w2)), (21, .grow (.nm 1) (List.length v5))]⟩
theorem ref2_keyOf_l0_eq (n : Nat) (m0 : Nat) (v1 : List ApiValue) (v5 : List ApiValue) (v9 : List (List UInt8)) (v10 : Int) (v11 : Int) (w2 : Rel) : ref2_keyOf_l0 n (m0 + 1) v1 v5 v9 v10 v11 w2 = (bif (decide (v11 < v10)) then (bif (decide (0 ≤ v11) && decide (v11 < List.length v9)) then (Option.bind (ref2_column n w2 (List.getD v9 (Int.toNat v11) [])) fun r1 => (bif (decide (0 ≤ r1) && decide (r1 < List.length v1)) then (bif (decide ((List.length v5) = List.length v5) && decide (List.length v5 + List.length ([(List.getD v1 (Int.toNat r1) (ApiValue.mk 0 0 [] []))] : List ApiValue) ≤ 4294967296)) then (ref2_keyOf_l0 n m0 v1 (v5 ++ [(List.getD v1 (Int.toNat r1) (ApiValue.mk 0 0 [] []))]) v9 v10 (IntKind.wrap .i64 (v11 + 1)) w2) else none) else none)) else none) else (some v5)) := by kernel_rfl
theorem ref2_keyOf_l0_zero (n : Nat) (v1 : List ApiValue) (v5 : List ApiValue) (v9 : List (List UInt8)) (v10 : Int) (v11 : Int) (w2 : Rel) : ref2_keyOf_l0 n 0 v1 v5 v9 v10 v11 w2 = none := by kernel_rfl
theorem ref2_keyOf_l0_fold (n : Nat) (v1 : List ApiValue) (v9 : List (List UInt8)) (w2 : Rel) (v5 : List ApiValue) (hl : List.length v9 < 9223372036854775807) (m i : Nat) (hi : i ≤ List.length v9) (hm : List.length v9 - i < m) : ref2_keyOf_l0 n m v1 v5 v9 (List.length v9 : Int) (i : Int) w2 = foldK (S := (List ApiValue)) (fun i (a : (List UInt8)) s K => (Option.bind (ref2_column n w2 a) fun r1 => (bif (decide (0 ≤ r1) && decide (r1 < List.length v1)) then (bif (decide ((List.length s) = List.length s) && decide (List.length s + List.length ([(List.getD v1 (Int.toNat r1) (ApiValue.mk 0 0 [] []))] : List ApiValue) ≤ 4294967296)) then (K (s ++ [(List.getD v1 (Int.toNat r1) (ApiValue.mk 0 0 [] []))])) else none) else none))) (fun s => (some s)) (List.drop i v9) i (v5) := range_loop v9 [] hl (fun m (k : Int) (s : (List ApiValue)) => ref2_keyOf_l0 n m v1 s v9 (List.length v9 : Int) k w2) _ _ (fun m i s => (ref2_keyOf_l0_eq n m v1 s v9 (List.length v9 : Int) (i : Int) w2).trans (by kernel_rfl)) m i hi hm (v5)
theorem ref2_keyOf_eq (n : Nat) (x0 : Rel) (x1 : List ApiValue) : ref2_keyOf n x0 x1 = (ref2_keyOf_l0 n n x1 [] x0.Key (List.length x0.Key : Int) 0 x0) := by kernel_rfl
noncomputable def C26 (n : Nat) : Call2 E := more tt gl H (C25 n) n 31 Tryz.f31 [.t (.nm 3), .t (.sl (.nm 1))] (C25 n)
def srt39_ren : Go.Shelf.Ren := ⟨fun | 6 => 39 | 15 => 67 | 14 => 66 | 28 => 104 | 29 => 105 | 20 => 96 | 21 => 97 | 22 => 98 | 23 => 99 | 24 => 100 | 25 => 101 | 26 => 102 | 27 => 103 | 46 => 121 | 47 => 122 | 48 => 123 | 49 => 124 | 50 => 125 | 57 => 139 | n => n, fun | 22 => 39 | 24 => 64 | 25 => 73 | 3 => 3 | 39 => 114 | 0 => 0 | 53 => 146 | 55 => 148 | 4 => 4 | 46 => 140 | 45 => 139 | 50 => 87 | 5 => 5 | 9 => 9 | 66 => 158 | 70 => 162 | 76 => 177 | 77 => 178 | n => n, fun | n => n⟩
theorem srt39 : Go.Proofs.SlLaysF.n6 Tryz.prog srt39_ren := {
  mixed := by kernel_rfl
  f6 := ⟨"slices.SortFunc[[][]clapperbridge/api.Value,[]clapperbridge/api.Value]", by decide, Tryz.func39.trans (congrArg some (by kernel_rfl))⟩
  f14 := ⟨"slices.pdqsortCmpFunc[[]clapperbridge/api.Value]", by decide, Tryz.func66.trans (congrArg some (by kernel_rfl))⟩
  f15 := Tryz.func67.trans (congrArg some (by kernel_rfl))
  f20 := ⟨"slices.insertionSortCmpFunc[[]clapperbridge/api.Value]", by decide, Tryz.func96.trans (congrArg some (by kernel_rfl))⟩
  f21 := ⟨"slices.heapSortCmpFunc[[]clapperbridge/api.Value]", by decide, Tryz.func97.trans (congrArg some (by kernel_rfl))⟩
  f22 := ⟨"slices.breakPatternsCmpFunc[[]clapperbridge/api.Value]", by decide, Tryz.func98.trans (congrArg some (by kernel_rfl))⟩
  f23 := ⟨"slices.choosePivotCmpFunc[[]clapperbridge/api.Value]", by decide, Tryz.func99.trans (congrArg some (by kernel_rfl))⟩
  f24 := ⟨"slices.reverseRangeCmpFunc[[]clapperbridge/api.Value]", by decide, Tryz.func100.trans (congrArg some (by kernel_rfl))⟩
  f25 := ⟨"slices.partialInsertionSortCmpFunc[[]clapperbridge/api.Value]", by decide, Tryz.func101.trans (congrArg some (by kernel_rfl))⟩
  f26 := ⟨"slices.partitionEqualCmpFunc[[]clapperbridge/api.Value]", by decide, Tryz.func102.trans (congrArg some (by kernel_rfl))⟩
  f27 := ⟨"slices.partitionCmpFunc[[]clapperbridge/api.Value]", by decide, Tryz.func103.trans (congrArg some (by kernel_rfl))⟩
  f28 := Tryz.func104.trans (congrArg some (by kernel_rfl))
  f29 := Tryz.func105.trans (congrArg some (by kernel_rfl))
  f46 := ⟨"slices.siftDownCmpFunc[[]clapperbridge/api.Value]", by decide, Tryz.func121.trans (congrArg some (by kernel_rfl))⟩
  f47 := Tryz.func122.trans (congrArg some (by kernel_rfl))
  f48 := Tryz.func123.trans (congrArg some (by kernel_rfl))
  f49 := ⟨"slices.medianAdjacentCmpFunc[[]clapperbridge/api.Value]", by decide, Tryz.func124.trans (congrArg some (by kernel_rfl))⟩
  f50 := ⟨"slices.medianCmpFunc[[]clapperbridge/api.Value]", by decide, Tryz.func125.trans (congrArg some (by kernel_rfl))⟩
  f57 := ⟨"slices.order2CmpFunc[[]clapperbridge/api.Value]", by decide, Tryz.func139.trans (congrArg some (by kernel_rfl))⟩
  t0 := Tryz.underlying0
  a0 := Tryz.isAgg0
  z0 := Tryz.sizeOf0
  v0 := Tryz.zeroValue0
  t3 := Tryz.underlying3
  a3 := Tryz.isAgg3
  z3 := Tryz.sizeOf3
  v3 := Tryz.zeroValue3
  t4 := Tryz.underlying4
  a4 := Tryz.isAgg4
  z4 := Tryz.sizeOf4
  v4 := Tryz.zeroValue4
  t5 := Tryz.underlying5
  a5 := Tryz.isAgg5
  z5 := Tryz.sizeOf5
  v5 := Tryz.zeroValue5
  t9 := Tryz.underlying9
  a9 := Tryz.isAgg9
  z9 := Tryz.sizeOf9
  v9 := Tryz.zeroValue9
  t22 := Tryz.underlying39
  a22 := Tryz.isAgg39
  z22 := Tryz.sizeOf39
  v22 := Tryz.zeroValue39
  a24 := Tryz.isAgg64
  z24 := Tryz.sizeOf64
  t25 := Tryz.underlying73
  a25 := Tryz.isAgg73
  z25 := Tryz.sizeOf73
  v25 := Tryz.zeroValue73
  t39 := Tryz.underlying114
  a39 := Tryz.isAgg114
  z39 := Tryz.sizeOf114
  v39 := Tryz.zeroValue114
  t45 := Tryz.underlying139
  a45 := Tryz.isAgg139
  z45 := Tryz.sizeOf139
  v45 := Tryz.zeroValue139
  t46 := Tryz.underlying140
  a46 := Tryz.isAgg140
  z46 := Tryz.sizeOf140
  v46 := Tryz.zeroValue140
  t50 := Tryz.underlying87
  a50 := Tryz.isAgg87
  z50 := Tryz.sizeOf87
  v50 := Tryz.zeroValue87
  t53 := Tryz.underlying146
  a53 := Tryz.isAgg146
  z53 := Tryz.sizeOf146
  v53 := Tryz.zeroValue146
  t55 := Tryz.underlying148
  a55 := Tryz.isAgg148
  z55 := Tryz.sizeOf148
  v55 := Tryz.zeroValue148
  t66 := Tryz.underlying158
  a66 := Tryz.isAgg158
  z66 := Tryz.sizeOf158
  v66 := Tryz.zeroValue158
  t70 := Tryz.underlying162
  a70 := Tryz.isAgg162
  z70 := Tryz.sizeOf162
  v70 := Tryz.zeroValue162
  t76 := Tryz.underlying177
  a76 := Tryz.isAgg177
  z76 := Tryz.sizeOf177
  v76 := Tryz.zeroValue177
  t77 := Tryz.underlying178
  a77 := Tryz.isAgg178
  z77 := Tryz.sizeOf178
  v77 := Tryz.zeroValue178 }
theorem fnok39 : FnOK Tryz.prog 39 := ⟨Tryz.f39, _, Tryz.func39, by decide, rfl⟩
theorem sortc39 [Quiet] : SortC Tryz.prog 39 false 1 := sortC1 srt39
noncomputable def C27 (n : Nat) : Call2 E := moreS 39 (.sl (.nm 1)) (C8 n) (C26 n)

/- clapperbridge/clapref2.RelErr -/
noncomputable def ref2_RelErr (n : Nat) (x0 : Rel) : Option Int := F2 (E := E) tt gl H (C27 n) n 12 Tryz.f12 [.t (.nm 3)] (x0, ())
noncomputable def ref2_RelErr_l0 (n : Nat) (m0 : Nat) (v21 : List (List ApiValue)) (v22 : Int) (v23 : Int) (w1 : Rel) : Option Int := lp (E := E) (ps := [.t (.nm 3)]) tt gl H (C27 n) n 12 Tryz.f12 [1, 1, 1, 0, 1, 0] [] m0 ⟨mkT 89 0 [(1, .ptr 1 (.nm 3) []), (21, .t (.sl (.sl (.nm 1))) v21), (22, .t (.int .i64) v22), (23, .t (.int .i64) v23)], mkB 356 0 [(1, .var (.nm 3) (.t (.nm 3) w1))]⟩
noncomputable def ref2_RelErr_l2 (n : Nat) (m0 : Nat) (v53 : List (List ApiValue)) (v54 : Int) (v55 : Int) (w1 : Rel) (w23 : List (List ApiValue)) : Option Int := lp (E := E) (ps := [.t (.nm 3)]) tt gl H (C27 n) n 12 Tryz.f12 [1, 1, 1, 1, 1, 1, 0, 1, 0] [] m0 ⟨mkT 89 0 [(1, .ptr 1 (.nm 3) []), (7, .fs 23 (.sl (.nm 1)) 0 (List.length w23)), (53, .t (.sl (.sl (.nm 1))) v53), (54, .t (.int .i64) v54), (55, .t (.int .i64) v55)], mkB 356 0 [(1, .var (.nm 3) (.t (.nm 3) w1)), (23, .row (.sl (.nm 1)) w23)]⟩
noncomputable def ref2_RelErr_l4 (n : Nat) (m0 : Nat) (v7l : Nat) (v69 : Int) (v70 : Int) (w23 : List (List ApiValue)) : Option Int := lp (E := E) (ps := [.t (.nm 3)]) tt gl H (C27 n) n 12 Tryz.f12 [1, 1, 1, 1, 1, 1, 1, 1, 0, 1, 0] [] m0 ⟨mkT 89 0 [(7, .fs 23 (.sl (.nm 1)) 0 v7l), (69, .t (.int .i64) v69), (70, .t (.int .i64) v70)], mkB 356 0 [(23, .row (.sl (.nm 1)) w23)]⟩
theorem ref2_RelErr_l4_eq (n : Nat) (m0 : Nat) (v7l : Nat) (v69 : Int) (v70 : Int) (w23 : List (List ApiValue)) : ref2_RelErr_l4 n (m0 + 1) v7l v69 v70 w23 = (bif (decide (v70 < v69)) then (bif (decide (v70 > 0)) then (bif (decide (0 ≤ (IntKind.wrap .i64 (v70 - 1))) && decide ((IntKind.wrap .i64 (v70 - 1)) < (v7l : Int))) then (bif (decide ((0 + (Int.toNat (IntKind.wrap .i64 (v70 - 1)))) < List.length w23)) then (bif (decide (0 ≤ v70) && decide (v70 < (v7l : Int))) then (bif (decide ((0 + (Int.toNat v70)) < List.length w23)) then (Option.bind (ref2_Order n (List.getD w23 (0 + (Int.toNat (IntKind.wrap .i64 (v70 - 1)))) []) (List.getD w23 (0 + (Int.toNat v70)) [])) fun r6 => (bif (decide (r6 = 0)) then (some 16) else (ref2_RelErr_l4 n m0 v7l v69 (IntKind.wrap .i64 (v70 + 1)) w23))) else none) else none) else none) else none) else (ref2_RelErr_l4 n m0 v7l v69 (IntKind.wrap .i64 (v70 + 1)) w23)) else (some 0)) := by kernel_rfl
theorem ref2_RelErr_l4_zero (n : Nat) (v7l : Nat) (v69 : Int) (v70 : Int) (w23 : List (List ApiValue)) : ref2_RelErr_l4 n 0 v7l v69 v70 w23 = none := by kernel_rfl
theorem ref2_RelErr_l4_fold (n : Nat) (v7l : Nat) (w23 : List (List ApiValue)) (N : Nat) (hl : N < 9223372036854775807) (m i : Nat) (hi : i ≤ N) (hm : N - i < m) : ref2_RelErr_l4 n m v7l (N : Int) (i : Int) w23 = foldN (S := Unit) (fun i s K => (bif (decide ((i : Int) > 0)) then (bif (decide (0 ≤ (IntKind.wrap .i64 ((i : Int) - 1))) && decide ((IntKind.wrap .i64 ((i : Int) - 1)) < (v7l : Int))) then (bif (decide ((0 + (Int.toNat (IntKind.wrap .i64 ((i : Int) - 1)))) < List.length w23)) then (bif (decide (0 ≤ (i : Int)) && decide ((i : Int) < (v7l : Int))) then (bif (decide ((0 + (Int.toNat (i : Int))) < List.length w23)) then (Option.bind (ref2_Order n (List.getD w23 (0 + (Int.toNat (IntKind.wrap .i64 ((i : Int) - 1)))) []) (List.getD w23 (0 + (Int.toNat (i : Int))) [])) fun r6 => (bif (decide (r6 = 0)) then (some 16) else (K ()))) else none) else none) else none) else none) else (K ()))) (fun s => (some 0)) (N - i) i () := count_loop N hl (fun m (k : Int) (s : Unit) => ref2_RelErr_l4 n m v7l (N : Int) k w23) _ _ (fun m i s => (ref2_RelErr_l4_eq n m v7l (N : Int) (i : Int) w23).trans (by kernel_rfl)) m i hi hm ()
theorem ref2_RelErr_l2_eq (n : Nat) (m0 : Nat) (v53 : List (List ApiValue)) (v54 : Int) (v55 : Int) (w1 : Rel) (w23 : List (List ApiValue)) : ref2_RelErr_l2 n (m0 + 1) v53 v54 v55 w1 w23 = (bif (decide (v55 < v54)) then (bif (decide (0 ≤ v55) && decide (v55 < List.length v53)) then (Option.bind (ref2_keyOf n w1 (List.getD v53 (Int.toNat v55) [])) fun r4 => (bif (decide ((List.length w23) = List.length w23) && decide (List.length w23 + List.length ([r4] : List (List ApiValue)) ≤ 4294967296)) then (ref2_RelErr_l2 n m0 v53 v54 (IntKind.wrap .i64 (v55 + 1)) w1 (w23 ++ [r4])) else none)) else none) else (Option.bind (sortO (fun a b => Option.bind (ref2_Order n a b) fun r => some r) (List.take (List.length w23) w23)) fun r5 => (ref2_RelErr_l4 n n (List.length w23) ((List.length w23) : Int) 0 (over w23 r5 0)))) := by kernel_rfl
theorem ref2_RelErr_l2_zero (n : Nat) (v53 : List (List ApiValue)) (v54 : Int) (v55 : Int) (w1 : Rel) (w23 : List (List ApiValue)) : ref2_RelErr_l2 n 0 v53 v54 v55 w1 w23 = none := by kernel_rfl
theorem ref2_RelErr_l2_fold (n : Nat) (v53 : List (List ApiValue)) (w1 : Rel) (w23 : List (List ApiValue)) (hl : List.length v53 < 9223372036854775807) (m i : Nat) (hi : i ≤ List.length v53) (hm : List.length v53 - i < m) : ref2_RelErr_l2 n m v53 (List.length v53 : Int) (i : Int) w1 w23 = foldK (S := (List (List ApiValue))) (fun i (a : (List ApiValue)) s K => (Option.bind (ref2_keyOf n w1 a) fun r4 => (bif (decide ((List.length s) = List.length s) && decide (List.length s + List.length ([r4] : List (List ApiValue)) ≤ 4294967296)) then (K (s ++ [r4])) else none))) (fun s => (Option.bind (sortO (fun a b => Option.bind (ref2_Order n a b) fun r => some r) (List.take (List.length s) s)) fun r5 => (ref2_RelErr_l4 n n (List.length s) ((List.length s) : Int) 0 (over s r5 0)))) (List.drop i v53) i (w23) := range_loop v53 [] hl (fun m (k : Int) (s : (List (List ApiValue))) => ref2_RelErr_l2 n m v53 (List.length v53 : Int) k w1 s) _ _ (fun m i s => (ref2_RelErr_l2_eq n m v53 (List.length v53 : Int) (i : Int) w1 s).trans (by kernel_rfl)) m i hi hm (w23)
theorem ref2_RelErr_l0_eq (n : Nat) (m0 : Nat) (v21 : List (List ApiValue)) (v22 : Int) (v23 : Int) (w1 : Rel) : ref2_RelErr_l0 n (m0 + 1) v21 v22 v23 w1 = (bif (decide (v23 < v22)) then (bif (decide (0 ≤ v23) && decide (v23 < List.length v21)) then (Option.bind (ref2_RowErr n w1 (List.getD v21 (Int.toNat v23) [])) fun r2 => (bif (!decide (r2 = 0)) then (some r2) else (bif (decide (v23 > 0)) then (bif (decide (0 ≤ (IntKind.wrap .i64 (v23 - 1))) && decide ((IntKind.wrap .i64 (v23 - 1)) < List.length w1.Rows)) then (Option.bind (ref2_Order n (List.getD v21 (Int.toNat v23) []) (List.getD w1.Rows (Int.toNat (IntKind.wrap .i64 (v23 - 1))) [])) fun r3 => (bif (decide (r3 ≤ 0)) then (some 9) else (ref2_RelErr_l0 n m0 v21 v22 (IntKind.wrap .i64 (v23 + 1)) w1))) else none) else (ref2_RelErr_l0 n m0 v21 v22 (IntKind.wrap .i64 (v23 + 1)) w1)))) else none) else (bif (decide ((List.length w1.Key : Int) = 0)) then (some 0) else (ref2_RelErr_l2 n n w1.Rows (List.length w1.Rows : Int) 0 w1 []))) := by kernel_rfl
theorem ref2_RelErr_l0_zero (n : Nat) (v21 : List (List ApiValue)) (v22 : Int) (v23 : Int) (w1 : Rel) : ref2_RelErr_l0 n 0 v21 v22 v23 w1 = none := by kernel_rfl
theorem ref2_RelErr_l0_fold (n : Nat) (v21 : List (List ApiValue)) (w1 : Rel) (hl : List.length v21 < 9223372036854775807) (m i : Nat) (hi : i ≤ List.length v21) (hm : List.length v21 - i < m) : ref2_RelErr_l0 n m v21 (List.length v21 : Int) (i : Int) w1 = foldK (S := Unit) (fun i (a : (List ApiValue)) s K => (Option.bind (ref2_RowErr n w1 a) fun r2 => (bif (!decide (r2 = 0)) then (some r2) else (bif (decide ((i : Int) > 0)) then (bif (decide (0 ≤ (IntKind.wrap .i64 ((i : Int) - 1))) && decide ((IntKind.wrap .i64 ((i : Int) - 1)) < List.length w1.Rows)) then (Option.bind (ref2_Order n a (List.getD w1.Rows (Int.toNat (IntKind.wrap .i64 ((i : Int) - 1))) [])) fun r3 => (bif (decide (r3 ≤ 0)) then (some 9) else (K ()))) else none) else (K ()))))) (fun s => (bif (decide ((List.length w1.Key : Int) = 0)) then (some 0) else (ref2_RelErr_l2 n n w1.Rows (List.length w1.Rows : Int) 0 w1 []))) (List.drop i v21) i () := range_loop v21 [] hl (fun m (k : Int) (s : Unit) => ref2_RelErr_l0 n m v21 (List.length v21 : Int) k w1) _ _ (fun m i s => (ref2_RelErr_l0_eq n m v21 (List.length v21 : Int) (i : Int) w1).trans (by kernel_rfl)) m i hi hm ()
theorem ref2_RelErr_eq (n : Nat) (x0 : Rel) : ref2_RelErr n x0 = (Option.bind (ref2_HeadErr n x0) fun r1 => (bif (!decide (r1 = 0)) then (some r1) else (bif (decide ((List.length x0.Rows : Int) > 300)) then (some 2) else (ref2_RelErr_l0 n n x0.Rows (List.length x0.Rows : Int) 0 x0)))) := by kernel_rfl
noncomputable def C28 (n : Nat) : Call2 E := more tt gl H (C27 n) n 12 Tryz.f12 [.t (.nm 3)] (C27 n)

/- clapperbridge/clapref2.BaseErr -/
noncomputable def ref2_BaseErr (n : Nat) (x0 : List Rel) : Option Int := F2 (E := E) tt gl H (C28 n) n 16 Tryz.f16 [.t (.sl (.nm 3))] (x0, ())
noncomputable def ref2_BaseErr_l0 (n : Nat) (m0 : Nat) (v3 : List UInt8) (v10 : List Rel) (v11 : Int) (v12 : Int) : Option Int := lp (E := E) (ps := [.t (.sl (.nm 3))]) tt gl H (C28 n) n 16 Tryz.f16 [1, 1, 1, 0, 1, 0] [] m0 ⟨mkT 33 0 [(3, .t .str v3), (10, .t (.sl (.nm 3)) v10), (11, .t (.int .i64) v11), (12, .t (.int .i64) v12)], mkB 132 0 []⟩
theorem ref2_BaseErr_l0_eq (n : Nat) (m0 : Nat) (v3 : List UInt8) (v10 : List Rel) (v11 : Int) (v12 : Int) : ref2_BaseErr_l0 n (m0 + 1) v3 v10 v11 v12 = (bif (decide (v12 < v11)) then (bif (decide (0 ≤ v12) && decide (v12 < List.length v10)) then (Option.bind (ref2_RelErr n (List.getD v10 (Int.toNat v12) (Rel.mk [] [] [] []))) fun r1 => (bif (!decide (r1 = 0)) then (some r1) else (bif (decide (v12 > 0)) then (bif (bytesLess ((List.getD v10 (Int.toNat v12) (Rel.mk [] [] [] [])).Name) v3 || (((List.getD v10 (Int.toNat v12) (Rel.mk [] [] [] [])).Name) == v3)) then (some 9) else (ref2_BaseErr_l0 n m0 ((List.getD v10 (Int.toNat v12) (Rel.mk [] [] [] [])).Name) v10 v11 (IntKind.wrap .i64 (v12 + 1)))) else (ref2_BaseErr_l0 n m0 ((List.getD v10 (Int.toNat v12) (Rel.mk [] [] [] [])).Name) v10 v11 (IntKind.wrap .i64 (v12 + 1)))))) else none) else (some 0)) := by kernel_rfl
theorem ref2_BaseErr_l0_zero (n : Nat) (v3 : List UInt8) (v10 : List Rel) (v11 : Int) (v12 : Int) : ref2_BaseErr_l0 n 0 v3 v10 v11 v12 = none := by kernel_rfl
theorem ref2_BaseErr_l0_fold (n : Nat) (v10 : List Rel) (v3 : List UInt8) (hl : List.length v10 < 9223372036854775807) (m i : Nat) (hi : i ≤ List.length v10) (hm : List.length v10 - i < m) : ref2_BaseErr_l0 n m v3 v10 (List.length v10 : Int) (i : Int) = foldK (S := (List UInt8)) (fun i (a : Rel) s K => (Option.bind (ref2_RelErr n a) fun r1 => (bif (!decide (r1 = 0)) then (some r1) else (bif (decide ((i : Int) > 0)) then (bif (bytesLess (a.Name) s || ((a.Name) == s)) then (some 9) else (K (a.Name))) else (K (a.Name)))))) (fun s => (some 0)) (List.drop i v10) i (v3) := range_loop v10 (Rel.mk [] [] [] []) hl (fun m (k : Int) (s : (List UInt8)) => ref2_BaseErr_l0 n m s v10 (List.length v10 : Int) k) _ _ (fun m i s => (ref2_BaseErr_l0_eq n m s v10 (List.length v10 : Int) (i : Int)).trans (by kernel_rfl)) m i hi hm (v3)
theorem ref2_BaseErr_eq (n : Nat) (x0 : List Rel) : ref2_BaseErr n x0 = (bif (decide ((List.length x0 : Int) > 12)) then (some 2) else (ref2_BaseErr_l0 n n [] x0 (List.length x0 : Int) 0)) := by kernel_rfl
noncomputable def C29 (n : Nat) : Call2 E := more tt gl H (C28 n) n 16 Tryz.f16 [.t (.sl (.nm 3))] (C28 n)

/- clapperbridge/clapref2.ForeignErr$1 -/
noncomputable def ref2_ForeignErr_1 (n : Nat) (x0 : Rel) (x1 : Foreign) : Option Bool := F2 (E := E) tt gl H (C29 n) n 18 Tryz.f18 [.t (.nm 3), .imm (.nm 4)] (x0, x1, ())
theorem ref2_ForeignErr_1_eq (n : Nat) (x0 : Rel) (x1 : Foreign) : ref2_ForeignErr_1 n x0 x1 = (some (x0.Name == x1.From)) := by kernel_rfl
noncomputable def C30 (n : Nat) : Call2 E := more tt gl H (C29 n) n 18 Tryz.f18 [.t (.nm 3), .imm (.nm 4)] (C29 n)

/- slices.IndexFunc[clapperbridge/api.Base,clapperbridge/api.Rel] -/
noncomputable def slices_IndexFunc_Rel_by_ref2_ForeignErr_1 (n : Nat) (x0 : List Rel) (x1 : (Foreign × Unit)) : Option Int := F2 (E := E) tt gl H (C30 n) n 17 Tryz.f17 [.t (.sl (.nm 3)), .fn 18 [(.nm 4)]] (x0, x1, ())
noncomputable def slices_IndexFunc_Rel_by_ref2_ForeignErr_1_l0 (n : Nat) (m0 : Nat) (v0 : List Rel) (v1c0 : Foreign) (v7 : Int) (v8 : Int) : Option Int := lp (E := E) (ps := [.t (.sl (.nm 3)), .fn 18 [(.nm 4)]]) tt gl H (C30 n) n 17 Tryz.f17 [1, 0, 1, 0] [] m0 ⟨mkT 19 0 [(0, .t (.sl (.nm 3)) v0), (1, .func 18 [⟨(.nm 4), v1c0⟩]), (7, .t (.int .i64) v7), (8, .t (.int .i64) v8)], mkB 76 0 []⟩
theorem slices_IndexFunc_Rel_by_ref2_ForeignErr_1_l0_eq (n : Nat) (m0 : Nat) (v0 : List Rel) (v1c0 : Foreign) (v7 : Int) (v8 : Int) : slices_IndexFunc_Rel_by_ref2_ForeignErr_1_l0 n (m0 + 1) v0 v1c0 v7 v8 = (bif (decide (v8 < v7)) then (bif (decide (0 ≤ v8) && decide (v8 < List.length v0)) then (Option.bind (ref2_ForeignErr_1 n (List.getD v0 (Int.toNat v8) (Rel.mk [] [] [] [])) v1c0) fun r1 => (bif r1 then (some v8) else (slices_IndexFunc_Rel_by_ref2_ForeignErr_1_l0 n m0 v0 v1c0 v7 (IntKind.wrap .i64 (v8 + 1))))) else none) else (some (-1))) := by kernel_rfl
theorem slices_IndexFunc_Rel_by_ref2_ForeignErr_1_l0_zero (n : Nat) (v0 : List Rel) (v1c0 : Foreign) (v7 : Int) (v8 : Int) : slices_IndexFunc_Rel_by_ref2_ForeignErr_1_l0 n 0 v0 v1c0 v7 v8 = none := by kernel_rfl
theorem slices_IndexFunc_Rel_by_ref2_ForeignErr_1_l0_fold (n : Nat) (v0 : List Rel) (v1c0 : Foreign) (hl : List.length v0 < 9223372036854775807) (m i : Nat) (hi : i ≤ List.length v0) (hm : List.length v0 - i < m) : slices_IndexFunc_Rel_by_ref2_ForeignErr_1_l0 n m v0 v1c0 (List.length v0 : Int) (i : Int) = foldK (S := Unit) (fun i (a : Rel) s K => (Option.bind (ref2_ForeignErr_1 n a v1c0) fun r1 => (bif r1 then (some (i : Int)) else (K ())))) (fun s => (some (-1))) (List.drop i v0) i () := range_loop v0 (Rel.mk [] [] [] []) hl (fun m (k : Int) (s : Unit) => slices_IndexFunc_Rel_by_ref2_ForeignErr_1_l0 n m v0 v1c0 (List.length v0 : Int) k) _ _ (fun m i s => (slices_IndexFunc_Rel_by_ref2_ForeignErr_1_l0_eq n m v0 v1c0 (List.length v0 : Int) (i : Int)).trans (by kernel_rfl)) m i hi hm ()
theorem slices_IndexFunc_Rel_by_ref2_ForeignErr_1_eq (n : Nat) (x0 : List Rel) (x1 : (Foreign × Unit)) : slices_IndexFunc_Rel_by_ref2_ForeignErr_1 n x0 x1 = (slices_IndexFunc_Rel_by_ref2_ForeignErr_1_l0 n n x0 x1.1 (List.length x0 : Int) 0) := by kernel_rfl
noncomputable def C31 (n : Nat) : Call2 E := more tt gl H (C30 n) n 17 Tryz.f17 [.t (.sl (.nm 3)), .fn 18 [(.nm 4)]] (C30 n)

/- clapperbridge/clapref2.ForeignErr$2 -/
noncomputable def ref2_ForeignErr_2 (n : Nat) (x0 : Rel) (x1 : Foreign) : Option Bool := F2 (E := E) tt gl H (C31 n) n 19 Tryz.f19 [.t (.nm 3), .imm (.nm 4)] (x0, x1, ())
theorem ref2_ForeignErr_2_eq (n : Nat) (x0 : Rel) (x1 : Foreign) : ref2_ForeignErr_2 n x0 x1 = (some (x0.Name == x1.To)) := by kernel_rfl
noncomputable def C32 (n : Nat) : Call2 E := more tt gl H (C31 n) n 19 Tryz.f19 [.t (.nm 3), .imm (.nm 4)] (C31 n)

/- slices.IndexFunc[clapperbridge/api.Base,clapperbridge/api.Rel] -/
noncomputable def slices_IndexFunc_Rel_by_ref2_ForeignErr_2 (n : Nat) (x0 : List Rel) (x1 : (Foreign × Unit)) : Option Int := F2 (E := E) tt gl H (C32 n) n 17 Tryz.f17 [.t (.sl (.nm 3)), .fn 19 [(.nm 4)]] (x0, x1, ())
noncomputable def slices_IndexFunc_Rel_by_ref2_ForeignErr_2_l0 (n : Nat) (m0 : Nat) (v0 : List Rel) (v1c0 : Foreign) (v7 : Int) (v8 : Int) : Option Int := lp (E := E) (ps := [.t (.sl (.nm 3)), .fn 19 [(.nm 4)]]) tt gl H (C32 n) n 17 Tryz.f17 [1, 0, 1, 0] [] m0 ⟨mkT 19 0 [(0, .t (.sl (.nm 3)) v0), (1, .func 19 [⟨(.nm 4), v1c0⟩]), (7, .t (.int .i64) v7), (8, .t (.int .i64) v8)], mkB 76 0 []⟩
theorem slices_IndexFunc_Rel_by_ref2_ForeignErr_2_l0_eq (n : Nat) (m0 : Nat) (v0 : List Rel) (v1c0 : Foreign) (v7 : Int) (v8 : Int) : slices_IndexFunc_Rel_by_ref2_ForeignErr_2_l0 n (m0 + 1) v0 v1c0 v7 v8 = (bif (decide (v8 < v7)) then (bif (decide (0 ≤ v8) && decide (v8 < List.length v0)) then (Option.bind (ref2_ForeignErr_2 n (List.getD v0 (Int.toNat v8) (Rel.mk [] [] [] [])) v1c0) fun r1 => (bif r1 then (some v8) else (slices_IndexFunc_Rel_by_ref2_ForeignErr_2_l0 n m0 v0 v1c0 v7 (IntKind.wrap .i64 (v8 + 1))))) else none) else (some (-1))) := by kernel_rfl
theorem slices_IndexFunc_Rel_by_ref2_ForeignErr_2_l0_zero (n : Nat) (v0 : List Rel) (v1c0 : Foreign) (v7 : Int) (v8 : Int) : slices_IndexFunc_Rel_by_ref2_ForeignErr_2_l0 n 0 v0 v1c0 v7 v8 = none := by kernel_rfl
theorem slices_IndexFunc_Rel_by_ref2_ForeignErr_2_l0_fold (n : Nat) (v0 : List Rel) (v1c0 : Foreign) (hl : List.length v0 < 9223372036854775807) (m i : Nat) (hi : i ≤ List.length v0) (hm : List.length v0 - i < m) : slices_IndexFunc_Rel_by_ref2_ForeignErr_2_l0 n m v0 v1c0 (List.length v0 : Int) (i : Int) = foldK (S := Unit) (fun i (a : Rel) s K => (Option.bind (ref2_ForeignErr_2 n a v1c0) fun r1 => (bif r1 then (some (i : Int)) else (K ())))) (fun s => (some (-1))) (List.drop i v0) i () := range_loop v0 (Rel.mk [] [] [] []) hl (fun m (k : Int) (s : Unit) => slices_IndexFunc_Rel_by_ref2_ForeignErr_2_l0 n m v0 v1c0 (List.length v0 : Int) k) _ _ (fun m i s => (slices_IndexFunc_Rel_by_ref2_ForeignErr_2_l0_eq n m v0 v1c0 (List.length v0 : Int) (i : Int)).trans (by kernel_rfl)) m i hi hm ()
theorem slices_IndexFunc_Rel_by_ref2_ForeignErr_2_eq (n : Nat) (x0 : List Rel) (x1 : (Foreign × Unit)) : slices_IndexFunc_Rel_by_ref2_ForeignErr_2 n x0 x1 = (slices_IndexFunc_Rel_by_ref2_ForeignErr_2_l0 n n x0 x1.1 (List.length x0 : Int) 0) := by kernel_rfl
noncomputable def C33 (n : Nat) : Call2 E := more tt gl H (C32 n) n 17 Tryz.f17 [.t (.sl (.nm 3)), .fn 19 [(.nm 4)]] (C32 n)

/- clapperbridge/clapref2.ForeignErr -/
noncomputable def ref2_ForeignErr (n : Nat) (x0 : List Rel) (x1 : List Foreign) : Option Int := F2 (E := E) tt gl H (C33 n) n 5 Tryz.f5 [.t (.sl (.nm 3)), .t (.sl (.nm 4))] (x0, x1, ())
noncomputable def ref2_ForeignErr_l0 (n : Nat) (m0 : Nat) (v0 : List Rel) (v22 : List Foreign) (v23 : Int) (v24 : Int) : Option Int := lp (E := E) (ps := [.t (.sl (.nm 3)), .t (.sl (.nm 4))]) tt gl H (C33 n) n 5 Tryz.f5 [1, 1, 1, 0, 1, 0] [] m0 ⟨mkT 102 0 [(0, .t (.sl (.nm 3)) v0), (22, .t (.sl (.nm 4)) v22), (23, .t (.int .i64) v23), (24, .t (.int .i64) v24)], mkB 408 0 []⟩
noncomputable def ref2_ForeignErr_l2 (n : Nat) (m0 : Nat) (m1 : Nat) (v0 : List Rel) (v8 : Int) (v9 : Int) (v22 : List Foreign) (v23 : Int) (v24 : Int) (v54 : List (List UInt8)) (v55 : Int) (v56 : Int) : Option Int := lp (E := E) (ps := [.t (.sl (.nm 3)), .t (.sl (.nm 4))]) tt gl H (C33 n) n 5 Tryz.f5 [1, 1, 1, 0, 1, 0, 0, 1, 1, 0, 0, 1, 1, 1, 1, 1, 1, 0] [m0] m1 ⟨mkT 102 0 [(0, .t (.sl (.nm 3)) v0), (8, .t (.int .i64) v8), (9, .t (.int .i64) v9), (22, .t (.sl (.nm 4)) v22), (23, .t (.int .i64) v23), (24, .t (.int .i64) v24), (54, .t (.sl .str) v54), (55, .t (.int .i64) v55), (56, .t (.int .i64) v56)], mkB 408 0 []⟩
theorem ref2_ForeignErr_l2_eq (n : Nat) (m0 : Nat) (m1 : Nat) (v0 : List Rel) (v8 : Int) (v9 : Int) (v22 : List Foreign) (v23 : Int) (v24 : Int) (v54 : List (List UInt8)) (v55 : Int) (v56 : Int) : ref2_ForeignErr_l2 n m0 (m1 + 1) v0 v8 v9 v22 v23 v24 v54 v55 v56 = (bif (decide (v56 < v55)) then (bif (decide (0 ≤ v56) && decide (v56 < List.length v54)) then (bif (decide (0 ≤ v8) && decide (v8 < List.length v0)) then (Option.bind (ref2_column n (List.getD v0 (Int.toNat v8) (Rel.mk [] [] [] [])) (List.getD v54 (Int.toNat v56) [])) fun r4 => (bif (decide (r4 < 0)) then (some 15) else (bif (decide (0 ≤ v8) && decide (v8 < List.length v0)) then (bif (decide (0 ≤ r4) && decide (r4 < List.length ((List.getD v0 (Int.toNat v8) (Rel.mk [] [] [] [])).Cols))) then (bif (decide (0 ≤ v9) && decide (v9 < List.length v0)) then (bif (decide (0 ≤ v9) && decide (v9 < List.length v0)) then (bif (decide (0 ≤ v9) && decide (v9 < List.length v0)) then (bif (decide (0 ≤ v56) && decide (v56 < List.length ((List.getD v0 (Int.toNat v9) (Rel.mk [] [] [] [])).Key))) then (Option.bind (ref2_column n (List.getD v0 (Int.toNat v9) (Rel.mk [] [] [] [])) (List.getD ((List.getD v0 (Int.toNat v9) (Rel.mk [] [] [] [])).Key) (Int.toNat v56) [])) fun r5 => (bif (decide (0 ≤ r5) && decide (r5 < List.length ((List.getD v0 (Int.toNat v9) (Rel.mk [] [] [] [])).Cols))) then (bif (!decide (((List.getD ((List.getD v0 (Int.toNat v8) (Rel.mk [] [] [] [])).Cols) (Int.toNat r4) (Col.mk [] 0)).Kind) = ((List.getD ((List.getD v0 (Int.toNat v9) (Rel.mk [] [] [] [])).Cols) (Int.toNat r5) (Col.mk [] 0)).Kind))) then (some 8) else (ref2_ForeignErr_l2 n m0 m1 v0 v8 v9 v22 v23 v24 v54 v55 (IntKind.wrap .i64 (v56 + 1)))) else none)) else none) else none) else none) else none) else none) else none))) else none) else none) else (ref2_ForeignErr_l0 n m0 v0 v22 v23 (IntKind.wrap .i64 (v24 + 1)))) := by kernel_rfl
theorem ref2_ForeignErr_l2_zero (n : Nat) (m0 : Nat) (v0 : List Rel) (v8 : Int) (v9 : Int) (v22 : List Foreign) (v23 : Int) (v24 : Int) (v54 : List (List UInt8)) (v55 : Int) (v56 : Int) : ref2_ForeignErr_l2 n m0 0 v0 v8 v9 v22 v23 v24 v54 v55 v56 = none := by kernel_rfl
theorem ref2_ForeignErr_l2_fold (n : Nat) (m0 : Nat) (v0 : List Rel) (v8 : Int) (v9 : Int) (v22 : List Foreign) (v23 : Int) (v24 : Int) (v54 : List (List UInt8)) (hl : List.length v54 < 9223372036854775807) (m i : Nat) (hi : i ≤ List.length v54) (hm : List.length v54 - i < m) : ref2_ForeignErr_l2 n m0 m v0 v8 v9 v22 v23 v24 v54 (List.length v54 : Int) (i : Int) = foldK (S := Unit) (fun i (a : (List UInt8)) s K => (bif (decide (0 ≤ v8) && decide (v8 < List.length v0)) then (Option.bind (ref2_column n (List.getD v0 (Int.toNat v8) (Rel.mk [] [] [] [])) a) fun r4 => (bif (decide (r4 < 0)) then (some 15) else (bif (decide (0 ≤ v8) && decide (v8 < List.length v0)) then (bif (decide (0 ≤ r4) && decide (r4 < List.length ((List.getD v0 (Int.toNat v8) (Rel.mk [] [] [] [])).Cols))) then (bif (decide (0 ≤ v9) && decide (v9 < List.length v0)) then (bif (decide (0 ≤ v9) && decide (v9 < List.length v0)) then (bif (decide (0 ≤ v9) && decide (v9 < List.length v0)) then (bif (decide (0 ≤ (i : Int)) && decide ((i : Int) < List.length ((List.getD v0 (Int.toNat v9) (Rel.mk [] [] [] [])).Key))) then (Option.bind (ref2_column n (List.getD v0 (Int.toNat v9) (Rel.mk [] [] [] [])) (List.getD ((List.getD v0 (Int.toNat v9) (Rel.mk [] [] [] [])).Key) (Int.toNat (i : Int)) [])) fun r5 => (bif (decide (0 ≤ r5) && decide (r5 < List.length ((List.getD v0 (Int.toNat v9) (Rel.mk [] [] [] [])).Cols))) then (bif (!decide (((List.getD ((List.getD v0 (Int.toNat v8) (Rel.mk [] [] [] [])).Cols) (Int.toNat r4) (Col.mk [] 0)).Kind) = ((List.getD ((List.getD v0 (Int.toNat v9) (Rel.mk [] [] [] [])).Cols) (Int.toNat r5) (Col.mk [] 0)).Kind))) then (some 8) else (K ())) else none)) else none) else none) else none) else none) else none) else none))) else none)) (fun s => (ref2_ForeignErr_l0 n m0 v0 v22 v23 (IntKind.wrap .i64 (v24 + 1)))) (List.drop i v54) i () := range_loop v54 [] hl (fun m (k : Int) (s : Unit) => ref2_ForeignErr_l2 n m0 m v0 v8 v9 v22 v23 v24 v54 (List.length v54 : Int) k) _ _ (fun m i s => (ref2_ForeignErr_l2_eq n m0 m v0 v8 v9 v22 v23 v24 v54 (List.length v54 : Int) (i : Int)).trans (by kernel_rfl)) m i hi hm ()
theorem ref2_ForeignErr_l0_eq (n : Nat) (m0 : Nat) (v0 : List Rel) (v22 : List Foreign) (v23 : Int) (v24 : Int) : ref2_ForeignErr_l0 n (m0 + 1) v0 v22 v23 v24 = (bif (decide (v24 < v23)) then (bif (decide (0 ≤ v24) && decide (v24 < List.length v22)) then (Option.bind (slices_IndexFunc_Rel_by_ref2_ForeignErr_1 n v0 ((List.getD v22 (Int.toNat v24) (Foreign.mk [] [] [])), ())) fun r2 => (Option.bind (slices_IndexFunc_Rel_by_ref2_ForeignErr_2 n v0 ((List.getD v22 (Int.toNat v24) (Foreign.mk [] [] [])), ())) fun r3 => (bif (decide ((mnI r2 r3) < 0)) then (some 4) else (bif (decide (0 ≤ r3) && decide (r3 < List.length v0)) then (bif (decide ((List.length ((List.getD v0 (Int.toNat r3) (Rel.mk [] [] [] [])).Key) : Int) = 0)) then (some 3) else (bif (!decide ((List.length ((List.getD v0 (Int.toNat r3) (Rel.mk [] [] [] [])).Key) : Int) = (List.length ((List.getD v22 (Int.toNat v24) (Foreign.mk [] [] [])).Cols) : Int))) then (some 3) else (ref2_ForeignErr_l2 n m0 n v0 r2 r3 v22 v23 v24 ((List.getD v22 (Int.toNat v24) (Foreign.mk [] [] [])).Cols) (List.length ((List.getD v22 (Int.toNat v24) (Foreign.mk [] [] [])).Cols) : Int) 0))) else none)))) else none) else (some 0)) := by kernel_rfl
theorem ref2_ForeignErr_l0_zero (n : Nat) (v0 : List Rel) (v22 : List Foreign) (v23 : Int) (v24 : Int) : ref2_ForeignErr_l0 n 0 v0 v22 v23 v24 = none := by kernel_rfl
theorem ref2_ForeignErr_eq (n : Nat) (x0 : List Rel) (x1 : List Foreign) : ref2_ForeignErr n x0 x1 = (Option.bind (ref2_BaseErr n x0) fun r1 => (bif (!decide (r1 = 0)) then (some r1) else (bif (decide ((List.length x1 : Int) > 12)) then (some 2) else (ref2_ForeignErr_l0 n n x0 x1 (List.length x1 : Int) 0)))) := by kernel_rfl
noncomputable def C34 (n : Nat) : Call2 E := more tt gl H (C33 n) n 5 Tryz.f5 [.t (.sl (.nm 3)), .t (.sl (.nm 4))] (C33 n)

/- clapperbridge/rel.head$1 -/
noncomputable def rel_head_1 (n : Nat) (x0 : Col) (x1 : Col) : Option Bool := F2 (E := E) tt gl H (C34 n) n 88 Tryz.f88 [.t (.nm 0), .imm (.nm 0)] (x0, x1, ())
theorem rel_head_1_eq (n : Nat) (x0 : Col) (x1 : Col) : rel_head_1 n x0 x1 = (some (x0.Name == x1.Name)) := by kernel_rfl
noncomputable def C35 (n : Nat) : Call2 E := more tt gl H (C34 n) n 88 Tryz.f88 [.t (.nm 0), .imm (.nm 0)] (C34 n)

/- slices.IndexFunc[[]clapperbridge/api.Col,clapperbridge/api.Col] -/
noncomputable def slices_IndexFunc_Col_by_rel_head_1 (n : Nat) (x0 : List Col) (x1 : (Col × Unit)) : Option Int := F2 (E := E) tt gl H (C35 n) n 72 Tryz.f72 [.t (.sl (.nm 0)), .fn 88 [(.nm 0)]] (x0, x1, ())
noncomputable def slices_IndexFunc_Col_by_rel_head_1_l0 (n : Nat) (m0 : Nat) (v0 : List Col) (v1c0 : Col) (v7 : Int) (v8 : Int) : Option Int := lp (E := E) (ps := [.t (.sl (.nm 0)), .fn 88 [(.nm 0)]]) tt gl H (C35 n) n 72 Tryz.f72 [1, 0, 1, 0] [] m0 ⟨mkT 19 0 [(0, .t (.sl (.nm 0)) v0), (1, .func 88 [⟨(.nm 0), v1c0⟩]), (7, .t (.int .i64) v7), (8, .t (.int .i64) v8)], mkB 76 0 []⟩
theorem slices_IndexFunc_Col_by_rel_head_1_l0_eq (n : Nat) (m0 : Nat) (v0 : List Col) (v1c0 : Col) (v7 : Int) (v8 : Int) : slices_IndexFunc_Col_by_rel_head_1_l0 n (m0 + 1) v0 v1c0 v7 v8 = (bif (decide (v8 < v7)) then (bif (decide (0 ≤ v8) && decide (v8 < List.length v0)) then (Option.bind (rel_head_1 n (List.getD v0 (Int.toNat v8) (Col.mk [] 0)) v1c0) fun r1 => (bif r1 then (some v8) else (slices_IndexFunc_Col_by_rel_head_1_l0 n m0 v0 v1c0 v7 (IntKind.wrap .i64 (v8 + 1))))) else none) else (some (-1))) := by kernel_rfl
theorem slices_IndexFunc_Col_by_rel_head_1_l0_zero (n : Nat) (v0 : List Col) (v1c0 : Col) (v7 : Int) (v8 : Int) : slices_IndexFunc_Col_by_rel_head_1_l0 n 0 v0 v1c0 v7 v8 = none := by kernel_rfl
theorem slices_IndexFunc_Col_by_rel_head_1_l0_fold (n : Nat) (v0 : List Col) (v1c0 : Col) (hl : List.length v0 < 9223372036854775807) (m i : Nat) (hi : i ≤ List.length v0) (hm : List.length v0 - i < m) : slices_IndexFunc_Col_by_rel_head_1_l0 n m v0 v1c0 (List.length v0 : Int) (i : Int) = foldK (S := Unit) (fun i (a : Col) s K => (Option.bind (rel_head_1 n a v1c0) fun r1 => (bif r1 then (some (i : Int)) else (K ())))) (fun s => (some (-1))) (List.drop i v0) i () := range_loop v0 (Col.mk [] 0) hl (fun m (k : Int) (s : Unit) => slices_IndexFunc_Col_by_rel_head_1_l0 n m v0 v1c0 (List.length v0 : Int) k) _ _ (fun m i s => (slices_IndexFunc_Col_by_rel_head_1_l0_eq n m v0 v1c0 (List.length v0 : Int) (i : Int)).trans (by kernel_rfl)) m i hi hm ()
theorem slices_IndexFunc_Col_by_rel_head_1_eq (n : Nat) (x0 : List Col) (x1 : (Col × Unit)) : slices_IndexFunc_Col_by_rel_head_1 n x0 x1 = (slices_IndexFunc_Col_by_rel_head_1_l0 n n x0 x1.1 (List.length x0 : Int) 0) := by kernel_rfl
noncomputable def C36 (n : Nat) : Call2 E := more tt gl H (C35 n) n 72 Tryz.f72 [.t (.sl (.nm 0)), .fn 88 [(.nm 0)]] (C35 n)

/- slices.ContainsFunc[[]clapperbridge/api.Col,clapperbridge/api.Col] -/
noncomputable def slices_ContainsFunc_Col_by_rel_head_1 (n : Nat) (x0 : List Col) (x1 : (Col × Unit)) : Option Bool := F2 (E := E) tt gl H (C36 n) n 87 Tryz.f87 [.t (.sl (.nm 0)), .fn 88 [(.nm 0)]] (x0, x1, ())
theorem slices_ContainsFunc_Col_by_rel_head_1_eq (n : Nat) (x0 : List Col) (x1 : (Col × Unit)) : slices_ContainsFunc_Col_by_rel_head_1 n x0 x1 = (Option.bind (slices_IndexFunc_Col_by_rel_head_1 n x0 (x1.1, ())) fun r1 => (some (decide (r1 ≥ 0)))) := by kernel_rfl
noncomputable def C37 (n : Nat) : Call2 E := more tt gl H (C36 n) n 87 Tryz.f87 [.t (.sl (.nm 0)), .fn 88 [(.nm 0)]] (C36 n)

/- clapperbridge/rel.Column -/
noncomputable def rel_Column (n : Nat) (x0 : Int) : Option Bool := F2 (E := E) tt gl H (C37 n) n 89 Tryz.f89 [.t (.int .i64)] (x0, ())
theorem rel_Column_eq (n : Nat) (x0 : Int) : rel_Column n x0 = (bif (decide (x0 ≥ 1)) then (some (decide (x0 ≤ 5))) else (some false)) := by kernel_rfl
noncomputable def C38 (n : Nat) : Call2 E := more tt gl H (C37 n) n 89 Tryz.f89 [.t (.int .i64)] (C37 n)

/- clapperbridge/rel.Col$1 -/
noncomputable def rel_Col_1 (n : Nat) (x0 : Col) (x1 : List UInt8) : Option Bool := F2 (E := E) tt gl H (C38 n) n 73 Tryz.f73 [.t (.nm 0), .imm .str] (x0, x1, ())
theorem rel_Col_1_eq (n : Nat) (x0 : Col) (x1 : List UInt8) : rel_Col_1 n x0 x1 = (some (x0.Name == x1)) := by kernel_rfl
noncomputable def C39 (n : Nat) : Call2 E := more tt gl H (C38 n) n 73 Tryz.f73 [.t (.nm 0), .imm .str] (C38 n)

/- slices.IndexFunc[[]clapperbridge/api.Col,clapperbridge/api.Col] -/
noncomputable def slices_IndexFunc_Col_by_rel_Col_1 (n : Nat) (x0 : List Col) (x1 : ((List UInt8) × Unit)) : Option Int := F2 (E := E) tt gl H (C39 n) n 72 Tryz.f72 [.t (.sl (.nm 0)), .fn 73 [.str]] (x0, x1, ())
noncomputable def slices_IndexFunc_Col_by_rel_Col_1_l0 (n : Nat) (m0 : Nat) (v0 : List Col) (v1c0 : List UInt8) (v7 : Int) (v8 : Int) : Option Int := lp (E := E) (ps := [.t (.sl (.nm 0)), .fn 73 [.str]]) tt gl H (C39 n) n 72 Tryz.f72 [1, 0, 1, 0] [] m0 ⟨mkT 19 0 [(0, .t (.sl (.nm 0)) v0), (1, .func 73 [⟨.str, v1c0⟩]), (7, .t (.int .i64) v7), (8, .t (.int .i64) v8)], mkB 76 0 []⟩
theorem slices_IndexFunc_Col_by_rel_Col_1_l0_eq (n : Nat) (m0 : Nat) (v0 : List Col) (v1c0 : List UInt8) (v7 : Int) (v8 : Int) : slices_IndexFunc_Col_by_rel_Col_1_l0 n (m0 + 1) v0 v1c0 v7 v8 = (bif (decide (v8 < v7)) then (bif (decide (0 ≤ v8) && decide (v8 < List.length v0)) then (Option.bind (rel_Col_1 n (List.getD v0 (Int.toNat v8) (Col.mk [] 0)) v1c0) fun r1 => (bif r1 then (some v8) else (slices_IndexFunc_Col_by_rel_Col_1_l0 n m0 v0 v1c0 v7 (IntKind.wrap .i64 (v8 + 1))))) else none) else (some (-1))) := by kernel_rfl
theorem slices_IndexFunc_Col_by_rel_Col_1_l0_zero (n : Nat) (v0 : List Col) (v1c0 : List UInt8) (v7 : Int) (v8 : Int) : slices_IndexFunc_Col_by_rel_Col_1_l0 n 0 v0 v1c0 v7 v8 = none := by kernel_rfl
theorem slices_IndexFunc_Col_by_rel_Col_1_l0_fold (n : Nat) (v0 : List Col) (v1c0 : List UInt8) (hl : List.length v0 < 9223372036854775807) (m i : Nat) (hi : i ≤ List.length v0) (hm : List.length v0 - i < m) : slices_IndexFunc_Col_by_rel_Col_1_l0 n m v0 v1c0 (List.length v0 : Int) (i : Int) = foldK (S := Unit) (fun i (a : Col) s K => (Option.bind (rel_Col_1 n a v1c0) fun r1 => (bif r1 then (some (i : Int)) else (K ())))) (fun s => (some (-1))) (List.drop i v0) i () := range_loop v0 (Col.mk [] 0) hl (fun m (k : Int) (s : Unit) => slices_IndexFunc_Col_by_rel_Col_1_l0 n m v0 v1c0 (List.length v0 : Int) k) _ _ (fun m i s => (slices_IndexFunc_Col_by_rel_Col_1_l0_eq n m v0 v1c0 (List.length v0 : Int) (i : Int)).trans (by kernel_rfl)) m i hi hm ()
theorem slices_IndexFunc_Col_by_rel_Col_1_eq (n : Nat) (x0 : List Col) (x1 : ((List UInt8) × Unit)) : slices_IndexFunc_Col_by_rel_Col_1 n x0 x1 = (slices_IndexFunc_Col_by_rel_Col_1_l0 n n x0 x1.1 (List.length x0 : Int) 0) := by kernel_rfl
noncomputable def C40 (n : Nat) : Call2 E := more tt gl H (C39 n) n 72 Tryz.f72 [.t (.sl (.nm 0)), .fn 73 [.str]] (C39 n)

/- clapperbridge/rel.Col -/
noncomputable def rel_Col (n : Nat) (x0 : Rel) (x1 : List UInt8) : Option (Int × Bool) := F2 (E := E) tt gl H (C40 n) n 45 Tryz.f45 [.t (.nm 3), .t .str] (x0, x1, ())
theorem rel_Col_eq (n : Nat) (x0 : Rel) (x1 : List UInt8) : rel_Col n x0 x1 = (Option.bind (slices_IndexFunc_Col_by_rel_Col_1 n x0.Cols (x1, ())) fun r1 => (some ((mxI (0 : Int) r1), (decide (r1 ≥ 0))))) := by kernel_rfl
noncomputable def C41 (n : Nat) : Call2 E := more tt gl H (C40 n) n 45 Tryz.f45 [.t (.nm 3), .t .str] (C40 n)

/- slices.Index[[]string,string] -/
noncomputable def slices_Index_string (n : Nat) (x0 : List (List UInt8)) (x1 : List UInt8) : Option Int := F2 (E := E) tt gl H (C41 n) n 50 Tryz.f50 [.t (.sl .str), .t .str] (x0, x1, ())
noncomputable def slices_Index_string_l0 (n : Nat) (m0 : Nat) (v0 : List (List UInt8)) (v1 : List UInt8) (v7 : Int) (v8 : Int) : Option Int := lp (E := E) (ps := [.t (.sl .str), .t .str]) tt gl H (C41 n) n 50 Tryz.f50 [1, 0, 1, 0] [] m0 ⟨mkT 19 0 [(0, .t (.sl .str) v0), (1, .t .str v1), (7, .t (.int .i64) v7), (8, .t (.int .i64) v8)], mkB 76 0 []⟩
theorem slices_Index_string_l0_eq (n : Nat) (m0 : Nat) (v0 : List (List UInt8)) (v1 : List UInt8) (v7 : Int) (v8 : Int) : slices_Index_string_l0 n (m0 + 1) v0 v1 v7 v8 = (bif (decide (v8 < v7)) then (bif (decide (0 ≤ v8) && decide (v8 < List.length v0)) then (bif (v1 == (List.getD v0 (Int.toNat v8) [])) then (some v8) else (slices_Index_string_l0 n m0 v0 v1 v7 (IntKind.wrap .i64 (v8 + 1)))) else none) else (some (-1))) := by kernel_rfl
theorem slices_Index_string_l0_zero (n : Nat) (v0 : List (List UInt8)) (v1 : List UInt8) (v7 : Int) (v8 : Int) : slices_Index_string_l0 n 0 v0 v1 v7 v8 = none := by kernel_rfl
theorem slices_Index_string_l0_fold (n : Nat) (v0 : List (List UInt8)) (v1 : List UInt8) (hl : List.length v0 < 9223372036854775807) (m i : Nat) (hi : i ≤ List.length v0) (hm : List.length v0 - i < m) : slices_Index_string_l0 n m v0 v1 (List.length v0 : Int) (i : Int) = foldK (S := Unit) (fun i (a : (List UInt8)) s K => (bif (v1 == a) then (some (i : Int)) else (K ()))) (fun s => (some (-1))) (List.drop i v0) i () := range_loop v0 [] hl (fun m (k : Int) (s : Unit) => slices_Index_string_l0 n m v0 v1 (List.length v0 : Int) k) _ _ (fun m i s => (slices_Index_string_l0_eq n m v0 v1 (List.length v0 : Int) (i : Int)).trans (by kernel_rfl)) m i hi hm ()
theorem slices_Index_string_eq (n : Nat) (x0 : List (List UInt8)) (x1 : List UInt8) : slices_Index_string n x0 x1 = (slices_Index_string_l0 n n x0 x1 (List.length x0 : Int) 0) := by kernel_rfl
noncomputable def C42 (n : Nat) : Call2 E := more tt gl H (C41 n) n 50 Tryz.f50 [.t (.sl .str), .t .str] (C41 n)

/- slices.Contains[[]string,string] -/
noncomputable def slices_Contains_string (n : Nat) (x0 : List (List UInt8)) (x1 : List UInt8) : Option Bool := F2 (E := E) tt gl H (C42 n) n 90 Tryz.f90 [.t (.sl .str), .t .str] (x0, x1, ())
theorem slices_Contains_string_eq (n : Nat) (x0 : List (List UInt8)) (x1 : List UInt8) : slices_Contains_string n x0 x1 = (Option.bind (slices_Index_string n x0 x1) fun r1 => (some (decide (r1 ≥ 0)))) := by kernel_rfl
noncomputable def C43 (n : Nat) : Call2 E := more tt gl H (C42 n) n 90 Tryz.f90 [.t (.sl .str), .t .str] (C42 n)

/- clapperbridge/rel.head -/
noncomputable def rel_head (n : Nat) (x0 : Rel) : Option Int := F2 (E := E) tt gl H (C43 n) n 56 Tryz.f56 [.t (.nm 3)] (x0, ())
noncomputable def rel_head_l1 (n : Nat) (m0 : Nat) (v25 : List Col) (v26 : Int) (v27 : Int) (w1 : Rel) : Option Int := lp (E := E) (ps := [.t (.nm 3)]) tt gl H (C43 n) n 56 Tryz.f56 [1, 1, 0, 1, 0] [] m0 ⟨mkT 73 0 [(1, .ptr 1 (.nm 3) []), (25, .t (.sl (.nm 0)) v25), (26, .t (.int .i64) v26), (27, .t (.int .i64) v27)], mkB 292 0 [(1, .var (.nm 3) (.t (.nm 3) w1))]⟩
noncomputable def rel_head_l4 (n : Nat) (m0 : Nat) (v51 : List (List UInt8)) (v52 : Int) (v53 : Int) (w1 : Rel) : Option Int := lp (E := E) (ps := [.t (.nm 3)]) tt gl H (C43 n) n 56 Tryz.f56 [1, 1, 1, 0, 1, 0] [] m0 ⟨mkT 73 0 [(1, .ptr 1 (.nm 3) []), (51, .t (.sl .str) v51), (52, .t (.int .i64) v52), (53, .t (.int .i64) v53)], mkB 292 0 [(1, .var (.nm 3) (.t (.nm 3) w1))]⟩
theorem rel_head_l4_eq (n : Nat) (m0 : Nat) (v51 : List (List UInt8)) (v52 : Int) (v53 : Int) (w1 : Rel) : rel_head_l4 n (m0 + 1) v51 v52 v53 w1 = (bif (decide (v53 < v52)) then (bif (decide (0 ≤ v53) && decide (v53 < List.length v51)) then (Option.bind (rel_Col n w1 (List.getD v51 (Int.toNat v53) [])) fun r5 => (bif (!r5.2) then (some 15) else (bif (decide (0 ≤ v53) && decide (v53 ≤ (List.length w1.Key))) then (Option.bind (slices_Contains_string n (List.take (Int.toNat v53) w1.Key) (List.getD v51 (Int.toNat v53) [])) fun r6 => (bif r6 then (some 5) else (rel_head_l4 n m0 v51 v52 (IntKind.wrap .i64 (v53 + 1)) w1))) else none))) else none) else (some 0)) := by kernel_rfl
theorem rel_head_l4_zero (n : Nat) (v51 : List (List UInt8)) (v52 : Int) (v53 : Int) (w1 : Rel) : rel_head_l4 n 0 v51 v52 v53 w1 = none := by kernel_rfl
theorem rel_head_l4_fold (n : Nat) (v51 : List (List UInt8)) (w1 : Rel) (hl : List.length v51 < 9223372036854775807) (m i : Nat) (hi : i ≤ List.length v51) (hm : List.length v51 - i < m) : rel_head_l4 n m v51 (List.length v51 : Int) (i : Int) w1 = foldK (S := Unit) (fun i (a : (List UInt8)) s K => (Option.bind (rel_Col n w1 a) fun r5 => (bif (!r5.2) then (some 15) else (bif (decide (0 ≤ (i : Int)) && decide ((i : Int) ≤ (List.length w1.Key))) then (Option.bind (slices_Contains_string n (List.take (Int.toNat (i : Int)) w1.Key) a) fun r6 => (bif r6 then (some 5) else (K ()))) else none)))) (fun s => (some 0)) (List.drop i v51) i () := range_loop v51 [] hl (fun m (k : Int) (s : Unit) => rel_head_l4 n m v51 (List.length v51 : Int) k w1) _ _ (fun m i s => (rel_head_l4_eq n m v51 (List.length v51 : Int) (i : Int) w1).trans (by kernel_rfl)) m i hi hm ()
theorem rel_head_l1_eq (n : Nat) (m0 : Nat) (v25 : List Col) (v26 : Int) (v27 : Int) (w1 : Rel) : rel_head_l1 n (m0 + 1) v25 v26 v27 w1 = (bif (decide (v27 < v26)) then (bif (decide (0 ≤ v27) && decide (v27 < List.length v25)) then (Option.bind (value_Name n ((List.getD v25 (Int.toNat v27) (Col.mk [] 0)).Name)) fun r2 => (bif (!r2) then (some 15) else (bif (decide (0 ≤ v27) && decide (v27 ≤ (List.length w1.Cols))) then (Option.bind (slices_ContainsFunc_Col_by_rel_head_1 n (List.take (Int.toNat v27) w1.Cols) ((List.getD v25 (Int.toNat v27) (Col.mk [] 0)), ())) fun r3 => (bif r3 then (some 5) else (Option.bind (rel_Column n ((List.getD v25 (Int.toNat v27) (Col.mk [] 0)).Kind)) fun r4 => (bif (!r4) then (some 8) else (rel_head_l1 n m0 v25 v26 (IntKind.wrap .i64 (v27 + 1)) w1))))) else none))) else none) else (rel_head_l4 n n w1.Key (List.length w1.Key : Int) 0 w1)) := by kernel_rfl
theorem rel_head_l1_zero (n : Nat) (v25 : List Col) (v26 : Int) (v27 : Int) (w1 : Rel) : rel_head_l1 n 0 v25 v26 v27 w1 = none := by kernel_rfl
theorem rel_head_l1_fold (n : Nat) (v25 : List Col) (w1 : Rel) (hl : List.length v25 < 9223372036854775807) (m i : Nat) (hi : i ≤ List.length v25) (hm : List.length v25 - i < m) : rel_head_l1 n m v25 (List.length v25 : Int) (i : Int) w1 = foldK (S := Unit) (fun i (a : Col) s K => (Option.bind (value_Name n (a.Name)) fun r2 => (bif (!r2) then (some 15) else (bif (decide (0 ≤ (i : Int)) && decide ((i : Int) ≤ (List.length w1.Cols))) then (Option.bind (slices_ContainsFunc_Col_by_rel_head_1 n (List.take (Int.toNat (i : Int)) w1.Cols) (a, ())) fun r3 => (bif r3 then (some 5) else (Option.bind (rel_Column n (a.Kind)) fun r4 => (bif (!r4) then (some 8) else (K ()))))) else none)))) (fun s => (rel_head_l4 n n w1.Key (List.length w1.Key : Int) 0 w1)) (List.drop i v25) i () := range_loop v25 (Col.mk [] 0) hl (fun m (k : Int) (s : Unit) => rel_head_l1 n m v25 (List.length v25 : Int) k w1) _ _ (fun m i s => (rel_head_l1_eq n m v25 (List.length v25 : Int) (i : Int) w1).trans (by kernel_rfl)) m i hi hm ()
theorem rel_head_eq (n : Nat) (x0 : Rel) : rel_head n x0 = (Option.bind (value_Name n x0.Name) fun r1 => (bif (!r1) then (some 15) else (bif (decide ((List.length x0.Cols : Int) = 0)) then (some 3) else (bif (decide ((List.length x0.Cols : Int) > 12)) then (some 2) else (rel_head_l1 n n x0.Cols (List.length x0.Cols : Int) 0 x0))))) := by kernel_rfl
noncomputable def C44 (n : Nat) : Call2 E := more tt gl H (C43 n) n 56 Tryz.f56 [.t (.nm 3)] (C43 n)

/- clapperbridge/rel.row -/
noncomputable def rel_row (n : Nat) (x0 : Rel) (x1 : List ApiValue) : Option Int := F2 (E := E) tt gl H (C44 n) n 57 Tryz.f57 [.t (.nm 3), .t (.sl (.nm 1))] (x0, x1, ())
noncomputable def rel_row_l0 (n : Nat) (m0 : Nat) (v14 : List ApiValue) (v15 : Int) (v16 : Int) (w2 : Rel) : Option Int := lp (E := E) (ps := [.t (.nm 3), .t (.sl (.nm 1))]) tt gl H (C44 n) n 57 Tryz.f57 [1, 1, 0, 1, 0] [] m0 ⟨mkT 41 0 [(2, .ptr 2 (.nm 3) []), (14, .t (.sl (.nm 1)) v14), (15, .t (.int .i64) v15), (16, .t (.int .i64) v16)], mkB 164 0 [(2, .var (.nm 3) (.t (.nm 3) w2))]⟩
theorem rel_row_l0_eq (n : Nat) (m0 : Nat) (v14 : List ApiValue) (v15 : Int) (v16 : Int) (w2 : Rel) : rel_row_l0 n (m0 + 1) v14 v15 v16 w2 = (bif (decide (v16 < v15)) then (bif (decide (0 ≤ v16) && decide (v16 < List.length v14)) then (Option.bind (value_Check n (List.getD v14 (Int.toNat v16) (ApiValue.mk 0 0 [] []))) fun r1 => (bif (!decide (r1 = 0)) then (some r1) else (bif (decide (0 ≤ v16) && decide (v16 < List.length w2.Cols)) then (bif (!decide (((List.getD v14 (Int.toNat v16) (ApiValue.mk 0 0 [] [])).Kind) = ((List.getD w2.Cols (Int.toNat v16) (Col.mk [] 0)).Kind))) then (bif (!decide (((List.getD v14 (Int.toNat v16) (ApiValue.mk 0 0 [] [])).Kind) = 11)) then (some 8) else (rel_row_l0 n m0 v14 v15 (IntKind.wrap .i64 (v16 + 1)) w2)) else (rel_row_l0 n m0 v14 v15 (IntKind.wrap .i64 (v16 + 1)) w2)) else none))) else none) else (some 0)) := by kernel_rfl
theorem rel_row_l0_zero (n : Nat) (v14 : List ApiValue) (v15 : Int) (v16 : Int) (w2 : Rel) : rel_row_l0 n 0 v14 v15 v16 w2 = none := by kernel_rfl
theorem rel_row_l0_fold (n : Nat) (v14 : List ApiValue) (w2 : Rel) (hl : List.length v14 < 9223372036854775807) (m i : Nat) (hi : i ≤ List.length v14) (hm : List.length v14 - i < m) : rel_row_l0 n m v14 (List.length v14 : Int) (i : Int) w2 = foldK (S := Unit) (fun i (a : ApiValue) s K => (Option.bind (value_Check n a) fun r1 => (bif (!decide (r1 = 0)) then (some r1) else (bif (decide (0 ≤ (i : Int)) && decide ((i : Int) < List.length w2.Cols)) then (bif (!decide ((a.Kind) = ((List.getD w2.Cols (Int.toNat (i : Int)) (Col.mk [] 0)).Kind))) then (bif (!decide ((a.Kind) = 11)) then (some 8) else (K ())) else (K ())) else none)))) (fun s => (some 0)) (List.drop i v14) i () := range_loop v14 (ApiValue.mk 0 0 [] []) hl (fun m (k : Int) (s : Unit) => rel_row_l0 n m v14 (List.length v14 : Int) k w2) _ _ (fun m i s => (rel_row_l0_eq n m v14 (List.length v14 : Int) (i : Int) w2).trans (by kernel_rfl)) m i hi hm ()
theorem rel_row_eq (n : Nat) (x0 : Rel) (x1 : List ApiValue) : rel_row n x0 x1 = (bif (!decide ((List.length x1 : Int) = (List.length x0.Cols : Int))) then (some 3) else (rel_row_l0 n n x1 (List.length x1 : Int) 0 x0)) := by kernel_rfl
noncomputable def C45 (n : Nat) : Call2 E := more tt gl H (C44 n) n 57 Tryz.f57 [.t (.nm 3), .t (.sl (.nm 1))] (C44 n)

/- clapperbridge/rel.Cmp -/
noncomputable def rel_Cmp (n : Nat) (x0 : List ApiValue) (x1 : List ApiValue) : Option Int := F2 (E := E) tt gl H (C45 n) n 58 Tryz.f58 [.t (.sl (.nm 1)), .t (.sl (.nm 1))] (x0, x1, ())
noncomputable def rel_Cmp_l0 (n : Nat) (m0 : Nat) (v0 : List ApiValue) (v1 : List ApiValue) (v11 : Int) (v12 : Int) : Option Int := lp (E := E) (ps := [.t (.sl (.nm 1)), .t (.sl (.nm 1))]) tt gl H (C45 n) n 58 Tryz.f58 [1, 0, 1, 0] [] m0 ⟨mkT 33 0 [(0, .t (.sl (.nm 1)) v0), (1, .t (.sl (.nm 1)) v1), (11, .t (.int .i64) v11), (12, .t (.int .i64) v12)], mkB 132 0 []⟩
theorem rel_Cmp_l0_eq (n : Nat) (m0 : Nat) (v0 : List ApiValue) (v1 : List ApiValue) (v11 : Int) (v12 : Int) : rel_Cmp_l0 n (m0 + 1) v0 v1 v11 v12 = (bif (decide (v12 < v11)) then (bif (decide (0 ≤ v12) && decide (v12 < List.length v0)) then (bif (decide (0 ≤ v12) && decide (v12 < List.length v1)) then (Option.bind (value_Cmp n n (List.getD v0 (Int.toNat v12) (ApiValue.mk 0 0 [] [])) (List.getD v1 (Int.toNat v12) (ApiValue.mk 0 0 [] []))) fun r1 => (bif (!decide (r1 = 0)) then (some r1) else (rel_Cmp_l0 n m0 v0 v1 v11 (IntKind.wrap .i64 (v12 + 1))))) else none) else none) else (Option.bind (cmp_Compare_int n (List.length v0 : Int) (List.length v1 : Int)) fun r2 => (some r2))) := by kernel_rfl
theorem rel_Cmp_l0_zero (n : Nat) (v0 : List ApiValue) (v1 : List ApiValue) (v11 : Int) (v12 : Int) : rel_Cmp_l0 n 0 v0 v1 v11 v12 = none := by kernel_rfl
theorem rel_Cmp_l0_fold (n : Nat) (v0 : List ApiValue) (v1 : List ApiValue) (hl : List.length v0 < 9223372036854775807) (m i : Nat) (hi : i ≤ List.length v0) (hm : List.length v0 - i < m) : rel_Cmp_l0 n m v0 v1 (List.length v0 : Int) (i : Int) = foldK (S := Unit) (fun i (a : ApiValue) s K => (bif (decide (0 ≤ (i : Int)) && decide ((i : Int) < List.length v1)) then (Option.bind (value_Cmp n n a (List.getD v1 (Int.toNat (i : Int)) (ApiValue.mk 0 0 [] []))) fun r1 => (bif (!decide (r1 = 0)) then (some r1) else (K ()))) else none)) (fun s => (Option.bind (cmp_Compare_int n (List.length v0 : Int) (List.length v1 : Int)) fun r2 => (some r2))) (List.drop i v0) i () := range_loop v0 (ApiValue.mk 0 0 [] []) hl (fun m (k : Int) (s : Unit) => rel_Cmp_l0 n m v0 v1 (List.length v0 : Int) k) _ _ (fun m i s => (rel_Cmp_l0_eq n m v0 v1 (List.length v0 : Int) (i : Int)).trans (by kernel_rfl)) m i hi hm ()
theorem rel_Cmp_eq (n : Nat) (x0 : List ApiValue) (x1 : List ApiValue) : rel_Cmp n x0 x1 = (rel_Cmp_l0 n n x0 x1 (mnI (List.length x0 : Int) (List.length x1 : Int)) 0) := by kernel_rfl
noncomputable def C46 (n : Nat) : Call2 E := more tt gl H (C45 n) n 58 Tryz.f58 [.t (.sl (.nm 1)), .t (.sl (.nm 1))] (C45 n)

/- clapperbridge/value.Same -/
noncomputable def value_Same (n : Nat) (x0 : ApiValue) (x1 : ApiValue) : Option Bool := F2 (E := E) tt gl H (C46 n) n 49 Tryz.f49 [.t (.nm 1), .t (.nm 1)] (x0, x1, ())
theorem value_Same_eq (n : Nat) (x0 : ApiValue) (x1 : ApiValue) : value_Same n x0 x1 = (Option.bind (value_Cmp n n x0 x1) fun r1 => (some (decide (r1 = 0)))) := by kernel_rfl
noncomputable def C47 (n : Nat) : Call2 E := more tt gl H (C46 n) n 49 Tryz.f49 [.t (.nm 1), .t (.nm 1)] (C46 n)

/- clapperbridge/rel.agree$1 -/
noncomputable def rel_agree_1 (n : Nat) (x0 : List UInt8) (x1 : Rel) (x2 : List ApiValue) (x3 : List ApiValue) : Option Bool := F2 (E := E) tt gl H (C47 n) n 92 Tryz.f92 [.t .str, .imm (.nm 3), .imm (.sl (.nm 1)), .imm (.sl (.nm 1))] (x0, x1, x2, x3, ())
theorem rel_agree_1_eq (n : Nat) (x0 : List UInt8) (x1 : Rel) (x2 : List ApiValue) (x3 : List ApiValue) : rel_agree_1 n x0 x1 x2 x3 = (Option.bind (rel_Col n x1 x0) fun r1 => (bif (decide (0 ≤ r1.1) && decide (r1.1 < List.length x2)) then (bif (decide (0 ≤ r1.1) && decide (r1.1 < List.length x3)) then (Option.bind (value_Same n (List.getD x2 (Int.toNat r1.1) (ApiValue.mk 0 0 [] [])) (List.getD x3 (Int.toNat r1.1) (ApiValue.mk 0 0 [] []))) fun r2 => (some (!r2))) else none) else none)) := by kernel_rfl
noncomputable def C48 (n : Nat) : Call2 E := more tt gl H (C47 n) n 92 Tryz.f92 [.t .str, .imm (.nm 3), .imm (.sl (.nm 1)), .imm (.sl (.nm 1))] (C47 n)

/- slices.IndexFunc[[]string,string] -/
noncomputable def slices_IndexFunc_string_by_rel_agree_1 (n : Nat) (x0 : List (List UInt8)) (x1 : (Rel × (List ApiValue) × (List ApiValue) × Unit)) : Option Int := F2 (E := E) tt gl H (C48 n) n 118 Tryz.f118 [.t (.sl .str), .fn 92 [(.nm 3), (.sl (.nm 1)), (.sl (.nm 1))]] (x0, x1, ())
noncomputable def slices_IndexFunc_string_by_rel_agree_1_l0 (n : Nat) (m0 : Nat) (v0 : List (List UInt8)) (v1c0 : Rel) (v1c1 : List ApiValue) (v1c2 : List ApiValue) (v7 : Int) (v8 : Int) : Option Int := lp (E := E) (ps := [.t (.sl .str), .fn 92 [(.nm 3), (.sl (.nm 1)), (.sl (.nm 1))]]) tt gl H (C48 n) n 118 Tryz.f118 [1, 0, 1, 0] [] m0 ⟨mkT 19 0 [(0, .t (.sl .str) v0), (1, .func 92 [⟨(.nm 3), v1c0⟩, ⟨(.sl (.nm 1)), v1c1⟩, ⟨(.sl (.nm 1)), v1c2⟩]), (7, .t (.int .i64) v7), (8, .t (.int .i64) v8)], mkB 76 0 []⟩
theorem slices_IndexFunc_string_by_rel_agree_1_l0_eq (n : Nat) (m0 : Nat) (v0 : List (List UInt8)) (v1c0 : Rel) (v1c1 : List ApiValue) (v1c2 : List ApiValue) (v7 : Int) (v8 : Int) : slices_IndexFunc_string_by_rel_agree_1_l0 n (m0 + 1) v0 v1c0 v1c1 v1c2 v7 v8 = (bif (decide (v8 < v7)) then (bif (decide (0 ≤ v8) && decide (v8 < List.length v0)) then (Option.bind (rel_agree_1 n (List.getD v0 (Int.toNat v8) []) v1c0 v1c1 v1c2) fun r1 => (bif r1 then (some v8) else (slices_IndexFunc_string_by_rel_agree_1_l0 n m0 v0 v1c0 v1c1 v1c2 v7 (IntKind.wrap .i64 (v8 + 1))))) else none) else (some (-1))) := by kernel_rfl
theorem slices_IndexFunc_string_by_rel_agree_1_l0_zero (n : Nat) (v0 : List (List UInt8)) (v1c0 : Rel) (v1c1 : List ApiValue) (v1c2 : List ApiValue) (v7 : Int) (v8 : Int) : slices_IndexFunc_string_by_rel_agree_1_l0 n 0 v0 v1c0 v1c1 v1c2 v7 v8 = none := by kernel_rfl
theorem slices_IndexFunc_string_by_rel_agree_1_l0_fold (n : Nat) (v0 : List (List UInt8)) (v1c0 : Rel) (v1c1 : List ApiValue) (v1c2 : List ApiValue) (hl : List.length v0 < 9223372036854775807) (m i : Nat) (hi : i ≤ List.length v0) (hm : List.length v0 - i < m) : slices_IndexFunc_string_by_rel_agree_1_l0 n m v0 v1c0 v1c1 v1c2 (List.length v0 : Int) (i : Int) = foldK (S := Unit) (fun i (a : (List UInt8)) s K => (Option.bind (rel_agree_1 n a v1c0 v1c1 v1c2) fun r1 => (bif r1 then (some (i : Int)) else (K ())))) (fun s => (some (-1))) (List.drop i v0) i () := range_loop v0 [] hl (fun m (k : Int) (s : Unit) => slices_IndexFunc_string_by_rel_agree_1_l0 n m v0 v1c0 v1c1 v1c2 (List.length v0 : Int) k) _ _ (fun m i s => (slices_IndexFunc_string_by_rel_agree_1_l0_eq n m v0 v1c0 v1c1 v1c2 (List.length v0 : Int) (i : Int)).trans (by kernel_rfl)) m i hi hm ()
theorem slices_IndexFunc_string_by_rel_agree_1_eq (n : Nat) (x0 : List (List UInt8)) (x1 : (Rel × (List ApiValue) × (List ApiValue) × Unit)) : slices_IndexFunc_string_by_rel_agree_1 n x0 x1 = (slices_IndexFunc_string_by_rel_agree_1_l0 n n x0 x1.1 x1.2.1 x1.2.2.1 (List.length x0 : Int) 0) := by kernel_rfl
noncomputable def C49 (n : Nat) : Call2 E := more tt gl H (C48 n) n 118 Tryz.f118 [.t (.sl .str), .fn 92 [(.nm 3), (.sl (.nm 1)), (.sl (.nm 1))]] (C48 n)

/- slices.ContainsFunc[[]string,string] -/
noncomputable def slices_ContainsFunc_string_by_rel_agree_1 (n : Nat) (x0 : List (List UInt8)) (x1 : (Rel × (List ApiValue) × (List ApiValue) × Unit)) : Option Bool := F2 (E := E) tt gl H (C49 n) n 91 Tryz.f91 [.t (.sl .str), .fn 92 [(.nm 3), (.sl (.nm 1)), (.sl (.nm 1))]] (x0, x1, ())
theorem slices_ContainsFunc_string_by_rel_agree_1_eq (n : Nat) (x0 : List (List UInt8)) (x1 : (Rel × (List ApiValue) × (List ApiValue) × Unit)) : slices_ContainsFunc_string_by_rel_agree_1 n x0 x1 = (Option.bind (slices_IndexFunc_string_by_rel_agree_1 n x0 (x1.1, x1.2.1, x1.2.2.1, ())) fun r1 => (some (decide (r1 ≥ 0)))) := by kernel_rfl
noncomputable def C50 (n : Nat) : Call2 E := more tt gl H (C49 n) n 91 Tryz.f91 [.t (.sl .str), .fn 92 [(.nm 3), (.sl (.nm 1)), (.sl (.nm 1))]] (C49 n)

/- clapperbridge/rel.agree -/
noncomputable def rel_agree (n : Nat) (x0 : Rel) (x1 : List ApiValue) (x2 : List ApiValue) : Option Bool := F2 (E := E) tt gl H (C50 n) n 59 Tryz.f59 [.t (.nm 3), .t (.sl (.nm 1)), .t (.sl (.nm 1))] (x0, x1, x2, ())
theorem rel_agree_eq (n : Nat) (x0 : Rel) (x1 : List ApiValue) (x2 : List ApiValue) : rel_agree n x0 x1 x2 = (Option.bind (slices_ContainsFunc_string_by_rel_agree_1 n x0.Key (x0, x1, x2, ())) fun r1 => (some (!r1))) := by kernel_rfl
noncomputable def C51 (n : Nat) : Call2 E := more tt gl H (C50 n) n 59 Tryz.f59 [.t (.nm 3), .t (.sl (.nm 1)), .t (.sl (.nm 1))] (C50 n)

/- clapperbridge/rel.Check -/
noncomputable def rel_Check (n : Nat) (x0 : Rel) : Option Int := F2 (E := E) tt gl H (C51 n) n 34 Tryz.f34 [.t (.nm 3)] (x0, ())
noncomputable def rel_Check_l0 (n : Nat) (m0 : Nat) (v21 : List (List ApiValue)) (v22 : Int) (v23 : Int) (w1 : Rel) : Option Int := lp (E := E) (ps := [.t (.nm 3)]) tt gl H (C51 n) n 34 Tryz.f34 [1, 1, 1, 0, 1, 0] [] m0 ⟨mkT 75 0 [(1, .ptr 1 (.nm 3) []), (21, .t (.sl (.sl (.nm 1))) v21), (22, .t (.int .i64) v22), (23, .t (.int .i64) v23)], mkB 300 0 [(1, .var (.nm 3) (.t (.nm 3) w1))]⟩
noncomputable def rel_Check_l2 (n : Nat) (m0 : Nat) (v53 : List (List ApiValue)) (v54 : Int) (v55 : Int) (w1 : Rel) : Option Int := lp (E := E) (ps := [.t (.nm 3)]) tt gl H (C51 n) n 34 Tryz.f34 [1, 1, 1, 1, 1, 0, 1, 0] [] m0 ⟨mkT 75 0 [(1, .ptr 1 (.nm 3) []), (53, .t (.sl (.sl (.nm 1))) v53), (54, .t (.int .i64) v54), (55, .t (.int .i64) v55)], mkB 300 0 [(1, .var (.nm 3) (.t (.nm 3) w1))]⟩
noncomputable def rel_Check_l4 (n : Nat) (m0 : Nat) (m1 : Nat) (v8 : List ApiValue) (v53 : List (List ApiValue)) (v54 : Int) (v55 : Int) (v63 : List (List ApiValue)) (v64 : Int) (v65 : Int) (w1 : Rel) : Option Int := lp (E := E) (ps := [.t (.nm 3)]) tt gl H (C51 n) n 34 Tryz.f34 [1, 1, 1, 1, 1, 0, 1, 0, 0, 1, 1, 0, 0, 1, 1, 0] [m0] m1 ⟨mkT 75 0 [(1, .ptr 1 (.nm 3) []), (8, .t (.sl (.nm 1)) v8), (53, .t (.sl (.sl (.nm 1))) v53), (54, .t (.int .i64) v54), (55, .t (.int .i64) v55), (63, .t (.sl (.sl (.nm 1))) v63), (64, .t (.int .i64) v64), (65, .t (.int .i64) v65)], mkB 300 0 [(1, .var (.nm 3) (.t (.nm 3) w1))]⟩
theorem rel_Check_l4_eq (n : Nat) (m0 : Nat) (m1 : Nat) (v8 : List ApiValue) (v53 : List (List ApiValue)) (v54 : Int) (v55 : Int) (v63 : List (List ApiValue)) (v64 : Int) (v65 : Int) (w1 : Rel) : rel_Check_l4 n m0 (m1 + 1) v8 v53 v54 v55 v63 v64 v65 w1 = (bif (decide (v65 < v64)) then (bif (decide (0 ≤ v65) && decide (v65 < List.length v63)) then (Option.bind (rel_agree n w1 v8 (List.getD v63 (Int.toNat v65) [])) fun r4 => (bif r4 then (some 16) else (rel_Check_l4 n m0 m1 v8 v53 v54 v55 v63 v64 (IntKind.wrap .i64 (v65 + 1)) w1))) else none) else (rel_Check_l2 n m0 v53 v54 (IntKind.wrap .i64 (v55 + 1)) w1)) := by kernel_rfl
theorem rel_Check_l4_zero (n : Nat) (m0 : Nat) (v8 : List ApiValue) (v53 : List (List ApiValue)) (v54 : Int) (v55 : Int) (v63 : List (List ApiValue)) (v64 : Int) (v65 : Int) (w1 : Rel) : rel_Check_l4 n m0 0 v8 v53 v54 v55 v63 v64 v65 w1 = none := by kernel_rfl
theorem rel_Check_l4_fold (n : Nat) (m0 : Nat) (v8 : List ApiValue) (v53 : List (List ApiValue)) (v54 : Int) (v55 : Int) (v63 : List (List ApiValue)) (w1 : Rel) (hl : List.length v63 < 9223372036854775807) (m i : Nat) (hi : i ≤ List.length v63) (hm : List.length v63 - i < m) : rel_Check_l4 n m0 m v8 v53 v54 v55 v63 (List.length v63 : Int) (i : Int) w1 = foldK (S := Unit) (fun i (a : (List ApiValue)) s K => (Option.bind (rel_agree n w1 v8 a) fun r4 => (bif r4 then (some 16) else (K ())))) (fun s => (rel_Check_l2 n m0 v53 v54 (IntKind.wrap .i64 (v55 + 1)) w1)) (List.drop i v63) i () := range_loop v63 [] hl (fun m (k : Int) (s : Unit) => rel_Check_l4 n m0 m v8 v53 v54 v55 v63 (List.length v63 : Int) k w1) _ _ (fun m i s => (rel_Check_l4_eq n m0 m v8 v53 v54 v55 v63 (List.length v63 : Int) (i : Int) w1).trans (by kernel_rfl)) m i hi hm ()
theorem rel_Check_l2_eq (n : Nat) (m0 : Nat) (v53 : List (List ApiValue)) (v54 : Int) (v55 : Int) (w1 : Rel) : rel_Check_l2 n (m0 + 1) v53 v54 v55 w1 = (bif (decide (v55 < v54)) then (bif (decide (0 ≤ v55) && decide (v55 < List.length v53)) then (bif (decide (0 ≤ v55) && decide (v55 ≤ (List.length w1.Rows))) then (rel_Check_l4 n m0 n (List.getD v53 (Int.toNat v55) []) v53 v54 v55 (List.take (Int.toNat v55) w1.Rows) (List.length (List.take (Int.toNat v55) w1.Rows) : Int) 0 w1) else none) else none) else (some 0)) := by kernel_rfl
theorem rel_Check_l2_zero (n : Nat) (v53 : List (List ApiValue)) (v54 : Int) (v55 : Int) (w1 : Rel) : rel_Check_l2 n 0 v53 v54 v55 w1 = none := by kernel_rfl
theorem rel_Check_l0_eq (n : Nat) (m0 : Nat) (v21 : List (List ApiValue)) (v22 : Int) (v23 : Int) (w1 : Rel) : rel_Check_l0 n (m0 + 1) v21 v22 v23 w1 = (bif (decide (v23 < v22)) then (bif (decide (0 ≤ v23) && decide (v23 < List.length v21)) then (Option.bind (rel_row n w1 (List.getD v21 (Int.toNat v23) [])) fun r2 => (bif (!decide (r2 = 0)) then (some r2) else (bif (decide (v23 > 0)) then (bif (decide (0 ≤ (IntKind.wrap .i64 (v23 - 1))) && decide ((IntKind.wrap .i64 (v23 - 1)) < List.length w1.Rows)) then (Option.bind (rel_Cmp n (List.getD w1.Rows (Int.toNat (IntKind.wrap .i64 (v23 - 1))) []) (List.getD v21 (Int.toNat v23) [])) fun r3 => (bif (decide (r3 ≥ 0)) then (some 9) else (rel_Check_l0 n m0 v21 v22 (IntKind.wrap .i64 (v23 + 1)) w1))) else none) else (rel_Check_l0 n m0 v21 v22 (IntKind.wrap .i64 (v23 + 1)) w1)))) else none) else (bif (decide ((List.length w1.Key : Int) = 0)) then (some 0) else (rel_Check_l2 n n w1.Rows (List.length w1.Rows : Int) 0 w1))) := by kernel_rfl
theorem rel_Check_l0_zero (n : Nat) (v21 : List (List ApiValue)) (v22 : Int) (v23 : Int) (w1 : Rel) : rel_Check_l0 n 0 v21 v22 v23 w1 = none := by kernel_rfl
theorem rel_Check_l0_fold (n : Nat) (v21 : List (List ApiValue)) (w1 : Rel) (hl : List.length v21 < 9223372036854775807) (m i : Nat) (hi : i ≤ List.length v21) (hm : List.length v21 - i < m) : rel_Check_l0 n m v21 (List.length v21 : Int) (i : Int) w1 = foldK (S := Unit) (fun i (a : (List ApiValue)) s K => (Option.bind (rel_row n w1 a) fun r2 => (bif (!decide (r2 = 0)) then (some r2) else (bif (decide ((i : Int) > 0)) then (bif (decide (0 ≤ (IntKind.wrap .i64 ((i : Int) - 1))) && decide ((IntKind.wrap .i64 ((i : Int) - 1)) < List.length w1.Rows)) then (Option.bind (rel_Cmp n (List.getD w1.Rows (Int.toNat (IntKind.wrap .i64 ((i : Int) - 1))) []) a) fun r3 => (bif (decide (r3 ≥ 0)) then (some 9) else (K ()))) else none) else (K ()))))) (fun s => (bif (decide ((List.length w1.Key : Int) = 0)) then (some 0) else (rel_Check_l2 n n w1.Rows (List.length w1.Rows : Int) 0 w1))) (List.drop i v21) i () := range_loop v21 [] hl (fun m (k : Int) (s : Unit) => rel_Check_l0 n m v21 (List.length v21 : Int) k w1) _ _ (fun m i s => (rel_Check_l0_eq n m v21 (List.length v21 : Int) (i : Int) w1).trans (by kernel_rfl)) m i hi hm ()
theorem rel_Check_eq (n : Nat) (x0 : Rel) : rel_Check n x0 = (Option.bind (rel_head n x0) fun r1 => (bif (!decide (r1 = 0)) then (some r1) else (bif (decide ((List.length x0.Rows : Int) > 300)) then (some 2) else (rel_Check_l0 n n x0.Rows (List.length x0.Rows : Int) 0 x0)))) := by kernel_rfl
noncomputable def C52 (n : Nat) : Call2 E := more tt gl H (C51 n) n 34 Tryz.f34 [.t (.nm 3)] (C51 n)

/- clapperbridge/rel.CheckBase -/
noncomputable def rel_CheckBase (n : Nat) (x0 : List Rel) : Option Int := F2 (E := E) tt gl H (C52 n) n 26 Tryz.f26 [.t (.sl (.nm 3))] (x0, ())
noncomputable def rel_CheckBase_l0 (n : Nat) (m0 : Nat) (v0 : List Rel) (v9 : List Rel) (v10 : Int) (v11 : Int) : Option Int := lp (E := E) (ps := [.t (.sl (.nm 3))]) tt gl H (C52 n) n 26 Tryz.f26 [1, 1, 0, 1, 0] [] m0 ⟨mkT 35 0 [(0, .t (.sl (.nm 3)) v0), (9, .t (.sl (.nm 3)) v9), (10, .t (.int .i64) v10), (11, .t (.int .i64) v11)], mkB 140 0 []⟩
theorem rel_CheckBase_l0_eq (n : Nat) (m0 : Nat) (v0 : List Rel) (v9 : List Rel) (v10 : Int) (v11 : Int) : rel_CheckBase_l0 n (m0 + 1) v0 v9 v10 v11 = (bif (decide (v11 < v10)) then (bif (decide (0 ≤ v11) && decide (v11 < List.length v9)) then (Option.bind (rel_Check n (List.getD v9 (Int.toNat v11) (Rel.mk [] [] [] []))) fun r1 => (bif (!decide (r1 = 0)) then (some r1) else (bif (decide (v11 > 0)) then (bif (decide (0 ≤ (IntKind.wrap .i64 (v11 - 1))) && decide ((IntKind.wrap .i64 (v11 - 1)) < List.length v0)) then (bif (!bytesLess ((List.getD v0 (Int.toNat (IntKind.wrap .i64 (v11 - 1))) (Rel.mk [] [] [] [])).Name) ((List.getD v9 (Int.toNat v11) (Rel.mk [] [] [] [])).Name)) then (some 9) else (rel_CheckBase_l0 n m0 v0 v9 v10 (IntKind.wrap .i64 (v11 + 1)))) else none) else (rel_CheckBase_l0 n m0 v0 v9 v10 (IntKind.wrap .i64 (v11 + 1)))))) else none) else (some 0)) := by kernel_rfl
theorem rel_CheckBase_l0_zero (n : Nat) (v0 : List Rel) (v9 : List Rel) (v10 : Int) (v11 : Int) : rel_CheckBase_l0 n 0 v0 v9 v10 v11 = none := by kernel_rfl
theorem rel_CheckBase_l0_fold (n : Nat) (v0 : List Rel) (v9 : List Rel) (hl : List.length v9 < 9223372036854775807) (m i : Nat) (hi : i ≤ List.length v9) (hm : List.length v9 - i < m) : rel_CheckBase_l0 n m v0 v9 (List.length v9 : Int) (i : Int) = foldK (S := Unit) (fun i (a : Rel) s K => (Option.bind (rel_Check n a) fun r1 => (bif (!decide (r1 = 0)) then (some r1) else (bif (decide ((i : Int) > 0)) then (bif (decide (0 ≤ (IntKind.wrap .i64 ((i : Int) - 1))) && decide ((IntKind.wrap .i64 ((i : Int) - 1)) < List.length v0)) then (bif (!bytesLess ((List.getD v0 (Int.toNat (IntKind.wrap .i64 ((i : Int) - 1))) (Rel.mk [] [] [] [])).Name) (a.Name)) then (some 9) else (K ())) else none) else (K ()))))) (fun s => (some 0)) (List.drop i v9) i () := range_loop v9 (Rel.mk [] [] [] []) hl (fun m (k : Int) (s : Unit) => rel_CheckBase_l0 n m v0 v9 (List.length v9 : Int) k) _ _ (fun m i s => (rel_CheckBase_l0_eq n m v0 v9 (List.length v9 : Int) (i : Int)).trans (by kernel_rfl)) m i hi hm ()
theorem rel_CheckBase_eq (n : Nat) (x0 : List Rel) : rel_CheckBase n x0 = (bif (decide ((List.length x0 : Int) > 12)) then (some 2) else (rel_CheckBase_l0 n n x0 x0 (List.length x0 : Int) 0)) := by kernel_rfl
noncomputable def C53 (n : Nat) : Call2 E := more tt gl H (C52 n) n 26 Tryz.f26 [.t (.sl (.nm 3))] (C52 n)

/- slices.Clone[[]clapperbridge/api.Col,clapperbridge/api.Col] -/
noncomputable def slices_Clone_Col_nil (n : Nat) (x0 : Unit) : Option (List Col) := F2 (E := E) tt gl H (C53 n) n 32 Tryz.f32 [.snil (.nm 0)] ((), ())
theorem slices_Clone_Col_nil_eq (n : Nat) (x0 : Unit) : slices_Clone_Col_nil n x0 = (some []) := by kernel_rfl
noncomputable def C54 (n : Nat) : Call2 E := more tt gl H (C53 n) n 32 Tryz.f32 [.snil (.nm 0)] (C53 n)

/- slices.Clone[[]clapperbridge/api.Col,clapperbridge/api.Col] -/
noncomputable def slices_Clone_Col_nn (n : Nat) (x0 : List Col) : Option (List Col) := F2 (E := E) tt gl H (C53 n) n 32 Tryz.f32 [.snn (.nm 0)] (x0, ())
theorem slices_Clone_Col_nn_eq (n : Nat) (x0 : List Col) : slices_Clone_Col_nn n x0 = (bif (decide (List.length ([] : List Col) + List.length x0 ≤ 4294967296)) then (bif (decide ((List.length (([] : List Col) ++ x0)) = List.length ([] ++ x0))) then (some ([] ++ x0)) else none) else none) := by kernel_rfl
theorem slices_Clone_Col_nn_hq (n : Nat) : slices_Clone_Col_nil n () = slices_Clone_Col_nn n [] := (slices_Clone_Col_nil_eq n ()).trans (Eq.symm ((slices_Clone_Col_nn_eq n []).trans (by kernel_rfl)))
noncomputable def C55 (n : Nat) : Call2 E := moreN tt gl H (C53 n) n 32 Tryz.f32 (.nm 0) (C54 n)

/- slices.Clone[[]string,string] -/
noncomputable def slices_Clone_string_nil (n : Nat) (x0 : Unit) : Option (List (List UInt8)) := F2 (E := E) tt gl H (C55 n) n 33 Tryz.f33 [.snil .str] ((), ())
theorem slices_Clone_string_nil_eq (n : Nat) (x0 : Unit) : slices_Clone_string_nil n x0 = (some []) := by kernel_rfl
noncomputable def C56 (n : Nat) : Call2 E := more tt gl H (C55 n) n 33 Tryz.f33 [.snil .str] (C55 n)

/- slices.Clone[[]string,string] -/
noncomputable def slices_Clone_string_nn (n : Nat) (x0 : List (List UInt8)) : Option (List (List UInt8)) := F2 (E := E) tt gl H (C55 n) n 33 Tryz.f33 [.snn .str] (x0, ())
theorem slices_Clone_string_nn_eq (n : Nat) (x0 : List (List UInt8)) : slices_Clone_string_nn n x0 = (bif (decide (List.length ([] : List (List UInt8)) + List.length x0 ≤ 4294967296)) then (bif (decide ((List.length (([] : List (List UInt8)) ++ x0)) = List.length ([] ++ x0))) then (some ([] ++ x0)) else none) else none) := by kernel_rfl
theorem slices_Clone_string_nn_hq (n : Nat) : slices_Clone_string_nil n () = slices_Clone_string_nn n [] := (slices_Clone_string_nil_eq n ()).trans (Eq.symm ((slices_Clone_string_nn_eq n []).trans (by kernel_rfl)))
noncomputable def C57 (n : Nat) : Call2 E := moreN tt gl H (C55 n) n 33 Tryz.f33 .str (C56 n)

/- slices.Clone[[]clapperbridge/api.Field,clapperbridge/api.Field] -/
noncomputable def slices_Clone_Field_nil (n : Nat) (x0 : Unit) : Option (List ApiField) := F2 (E := E) tt gl H (C57 n) n 120 Tryz.f120 [.snil (.nm 2)] ((), ())
theorem slices_Clone_Field_nil_eq (n : Nat) (x0 : Unit) : slices_Clone_Field_nil n x0 = (some []) := by kernel_rfl
noncomputable def C58 (n : Nat) : Call2 E := more tt gl H (C57 n) n 120 Tryz.f120 [.snil (.nm 2)] (C57 n)

/- slices.Clone[[]clapperbridge/api.Field,clapperbridge/api.Field] -/
noncomputable def slices_Clone_Field_nn (n : Nat) (x0 : List ApiField) : Option (List ApiField) := F2 (E := E) tt gl H (C57 n) n 120 Tryz.f120 [.snn (.nm 2)] (x0, ())
theorem slices_Clone_Field_nn_eq (n : Nat) (x0 : List ApiField) : slices_Clone_Field_nn n x0 = (bif (decide (0 = List.length ([] : List ApiField)) && decide (List.length ([] : List ApiField) + List.length x0 ≤ 4294967296)) then (bif (decide ((List.length (([] : List ApiField) ++ x0)) = List.length (([] : List ApiField) ++ x0))) then (some (([] : List ApiField) ++ x0)) else none) else none) := by kernel_rfl
theorem slices_Clone_Field_nn_hq (n : Nat) : slices_Clone_Field_nil n () = slices_Clone_Field_nn n [] := (slices_Clone_Field_nil_eq n ()).trans (Eq.symm ((slices_Clone_Field_nn_eq n []).trans (by kernel_rfl)))
noncomputable def C59 (n : Nat) : Call2 E := moreN tt gl H (C57 n) n 120 Tryz.f120 (.nm 2) (C58 n)
noncomputable def Cr59 : Nat → Nat → Call2 E
  | 0, n => C59 n
  | d + 1, n => (more tt gl H (Cr59 d n) n 95 Tryz.f95 [.t (.nm 1)] (C59 n))
noncomputable def C60 (n : Nat) : Call2 E := Cr59 (n + 1) n

/- clapperbridge/value.Copy -/
noncomputable def value_Copy (d : Nat) (n : Nat) (x0 : ApiValue) : Option ApiValue := F2 (E := E) tt gl H (Cr59 d n) n 95 Tryz.f95 [.t (.nm 1)] (x0, ())
noncomputable def value_Copy_l0 (d : Nat) (n : Nat) (m0 : Nat) (v10 : Int) (v11 : Int) (w1_0 : Int) (w1_1 : Int) (w1_2 : List UInt8) (w1_3l : Nat) (w2 : ApiValue) (w6 : List ApiField) : Option ApiValue := lp (E := E) (ps := [.t (.nm 1)]) tt gl H (Cr59 d n) n 95 Tryz.f95 [1, 1, 0, 1, 0] [] m0 ⟨mkT 28 0 [(1, .ptr 1 (.nm 1) []), (2, .ptr 2 (.nm 1) []), (10, .t (.int .i64) v10), (11, .t (.int .i64) v11)], mkB 112 0 [(1, .var (.nm 1) (.agg [.t (.int .i64) w1_0, .t (.int .i64) w1_1, .t .str w1_2, .fs 6 (.nm 2) 0 w1_3l])), (2, .var (.nm 1) (.t (.nm 1) w2)), (6, .row (.nm 2) w6)]⟩
theorem value_Copy_l0_eq (d : Nat) (n : Nat) (m0 : Nat) (v10 : Int) (v11 : Int) (w1_0 : Int) (w1_1 : Int) (w1_2 : List UInt8) (w1_3l : Nat) (w2 : ApiValue) (w6 : List ApiField) : value_Copy_l0 (d + 1) n (m0 + 1) v10 v11 w1_0 w1_1 w1_2 w1_3l w2 w6 = (bif (decide (v11 < v10)) then (bif (decide (0 ≤ v11) && decide (v11 < (w1_3l : Int))) then (bif (decide ((0 + (Int.toNat v11)) < List.length w6)) then (Option.bind (value_Copy d n ((List.getD w6 (0 + (Int.toNat v11)) (ApiField.mk [] (ApiValue.mk 0 0 [] []))).Val)) fun r2 => (bif (decide (0 ≤ v11) && decide (v11 < (w1_3l : Int))) then (bif (decide ((0 + (Int.toNat v11)) < List.length w6)) then (value_Copy_l0 (d + 1) n m0 v10 (IntKind.wrap .i64 (v11 + 1)) w1_0 w1_1 w1_2 w1_3l w2 (List.set w6 (0 + (Int.toNat v11)) (ApiField.mk ((List.getD w6 (0 + (Int.toNat v11)) (ApiField.mk [] (ApiValue.mk 0 0 [] []))).Name) r2))) else none) else none)) else none) else none) else (bif (((decide (0 + w1_3l ≤ List.length w6)) && true) && true) then (some (ApiValue.mk w1_0 w1_1 w1_2 (List.take w1_3l w6))) else none)) := by kernel_rfl
theorem value_Copy_l0_zero (d : Nat) (n : Nat) (v10 : Int) (v11 : Int) (w1_0 : Int) (w1_1 : Int) (w1_2 : List UInt8) (w1_3l : Nat) (w2 : ApiValue) (w6 : List ApiField) : value_Copy_l0 d n 0 v10 v11 w1_0 w1_1 w1_2 w1_3l w2 w6 = none := by kernel_rfl
theorem value_Copy_l0_fold (d : Nat) (n : Nat) (w1_0 : Int) (w1_1 : Int) (w1_2 : List UInt8) (w1_3l : Nat) (w2 : ApiValue) (N : Nat) (w6 : List ApiField) (hl : N < 9223372036854775807) (m i : Nat) (hi : i ≤ N) (hm : N - i < m) : value_Copy_l0 (d + 1) n m (N : Int) (i : Int) w1_0 w1_1 w1_2 w1_3l w2 w6 = foldN (S := (List ApiField)) (fun i s K => (bif (decide (0 ≤ (i : Int)) && decide ((i : Int) < (w1_3l : Int))) then (bif (decide ((0 + (Int.toNat (i : Int))) < List.length s)) then (Option.bind (value_Copy d n ((List.getD s (0 + (Int.toNat (i : Int))) (ApiField.mk [] (ApiValue.mk 0 0 [] []))).Val)) fun r2 => (bif (decide (0 ≤ (i : Int)) && decide ((i : Int) < (w1_3l : Int))) then (bif (decide ((0 + (Int.toNat (i : Int))) < List.length s)) then (K (List.set s (0 + (Int.toNat (i : Int))) (ApiField.mk ((List.getD s (0 + (Int.toNat (i : Int))) (ApiField.mk [] (ApiValue.mk 0 0 [] []))).Name) r2))) else none) else none)) else none) else none)) (fun s => (bif (((decide (0 + w1_3l ≤ List.length s)) && true) && true) then (some (ApiValue.mk w1_0 w1_1 w1_2 (List.take w1_3l s))) else none)) (N - i) i (w6) := count_loop N hl (fun m (k : Int) (s : (List ApiField)) => value_Copy_l0 (d + 1) n m (N : Int) k w1_0 w1_1 w1_2 w1_3l w2 s) _ _ (fun m i s => (value_Copy_l0_eq d n m (N : Int) (i : Int) w1_0 w1_1 w1_2 w1_3l w2 s).trans (by kernel_rfl)) m i hi hm (w6)
theorem value_Copy_eq (d : Nat) (n : Nat) (x0 : ApiValue) : value_Copy (d + 1) n x0 = (Option.bind (slices_Clone_Field_nn n x0.Fields) fun r1 => (value_Copy_l0 (d + 1) n n ((List.length r1) : Int) 0 x0.Kind x0.N x0.S (List.length r1) (ApiValue.mk 0 0 [] []) r1)) := by kernel_rfl

/- clapperbridge/rel.copies -/
noncomputable def rel_copies (n : Nat) (x0 : List (List ApiValue)) : Option (List (List ApiValue)) := F2 (E := E) tt gl H (C60 n) n 64 Tryz.f64 [.t (.sl (.sl (.nm 1)))] (x0, ())
noncomputable def rel_copies_l0 (n : Nat) (m0 : Nat) (v8 : List (List ApiValue)) (v9 : Int) (v10 : Int) (w19 : List (List ApiValue)) : Option (List (List ApiValue)) := lp (E := E) (ps := [.t (.sl (.sl (.nm 1)))]) tt gl H (C60 n) n 64 Tryz.f64 [1, 1, 0, 1, 0] [] m0 ⟨mkT 37 0 [(3, .fs 19 (.sl (.nm 1)) 0 (List.length w19)), (8, .t (.sl (.sl (.nm 1))) v8), (9, .t (.int .i64) v9), (10, .t (.int .i64) v10)], mkB 148 0 [(19, .row (.sl (.nm 1)) w19)]⟩
noncomputable def rel_copies_l2 (n : Nat) (m0 : Nat) (m1 : Nat) (v5 : List ApiValue) (v6l : Nat) (v8 : List (List ApiValue)) (v9 : Int) (v10 : Int) (v18 : Int) (v19 : Int) (w19 : List (List ApiValue)) (w22 : List ApiValue) : Option (List (List ApiValue)) := lp (E := E) (ps := [.t (.sl (.sl (.nm 1)))]) tt gl H (C60 n) n 64 Tryz.f64 [1, 1, 0, 1, 0, 0, 1, 1, 0, 0, 1, 1, 0, 1, 0] [m0] m1 ⟨mkT 37 0 [(3, .fs 19 (.sl (.nm 1)) 0 (List.length w19)), (5, .t (.sl (.nm 1)) v5), (6, .fs 22 (.nm 1) 0 v6l), (8, .t (.sl (.sl (.nm 1))) v8), (9, .t (.int .i64) v9), (10, .t (.int .i64) v10), (18, .t (.int .i64) v18), (19, .t (.int .i64) v19)], mkB 148 0 [(19, .row (.sl (.nm 1)) w19), (22, .row (.nm 1) w22)]⟩
theorem rel_copies_l2_eq (n : Nat) (m0 : Nat) (m1 : Nat) (v5 : List ApiValue) (v6l : Nat) (v8 : List (List ApiValue)) (v9 : Int) (v10 : Int) (v18 : Int) (v19 : Int) (w19 : List (List ApiValue)) (w22 : List ApiValue) : rel_copies_l2 n m0 (m1 + 1) v5 v6l v8 v9 v10 v18 v19 w19 w22 = (bif (decide (v19 < v18)) then (bif (decide (0 ≤ v19) && decide (v19 < List.length v5)) then (Option.bind (value_Copy n n (List.getD v5 (Int.toNat v19) (ApiValue.mk 0 0 [] []))) fun r1 => (bif (decide (0 ≤ v19) && decide (v19 < (v6l : Int))) then (bif (decide ((0 + (Int.toNat v19)) < List.length w22)) then (rel_copies_l2 n m0 m1 v5 v6l v8 v9 v10 v18 (IntKind.wrap .i64 (v19 + 1)) w19 (List.set w22 (0 + (Int.toNat v19)) r1)) else none) else none)) else none) else (bif ((decide (0 + v6l ≤ List.length w22)) && true) then (bif (decide ((List.length w19) = List.length w19) && decide (List.length w19 + List.length ([(List.take v6l w22)] : List (List ApiValue)) ≤ 4294967296)) then (rel_copies_l0 n m0 v8 v9 (IntKind.wrap .i64 (v10 + 1)) (w19 ++ [(List.take v6l w22)])) else none) else none)) := by kernel_rfl
theorem rel_copies_l2_zero (n : Nat) (m0 : Nat) (v5 : List ApiValue) (v6l : Nat) (v8 : List (List ApiValue)) (v9 : Int) (v10 : Int) (v18 : Int) (v19 : Int) (w19 : List (List ApiValue)) (w22 : List ApiValue) : rel_copies_l2 n m0 0 v5 v6l v8 v9 v10 v18 v19 w19 w22 = none := by kernel_rfl
theorem rel_copies_l2_fold (n : Nat) (m0 : Nat) (v5 : List ApiValue) (v6l : Nat) (v8 : List (List ApiValue)) (v9 : Int) (v10 : Int) (w19 : List (List ApiValue)) (w22 : List ApiValue) (hl : List.length v5 < 9223372036854775807) (m i : Nat) (hi : i ≤ List.length v5) (hm : List.length v5 - i < m) : rel_copies_l2 n m0 m v5 v6l v8 v9 v10 (List.length v5 : Int) (i : Int) w19 w22 = foldK (S := (List ApiValue)) (fun i (a : ApiValue) s K => (Option.bind (value_Copy n n a) fun r1 => (bif (decide (0 ≤ (i : Int)) && decide ((i : Int) < (v6l : Int))) then (bif (decide ((0 + (Int.toNat (i : Int))) < List.length s)) then (K (List.set s (0 + (Int.toNat (i : Int))) r1)) else none) else none))) (fun s => (bif ((decide (0 + v6l ≤ List.length s)) && true) then (bif (decide ((List.length w19) = List.length w19) && decide (List.length w19 + List.length ([(List.take v6l s)] : List (List ApiValue)) ≤ 4294967296)) then (rel_copies_l0 n m0 v8 v9 (IntKind.wrap .i64 (v10 + 1)) (w19 ++ [(List.take v6l s)])) else none) else none)) (List.drop i v5) i (w22) := range_loop v5 (ApiValue.mk 0 0 [] []) hl (fun m (k : Int) (s : (List ApiValue)) => rel_copies_l2 n m0 m v5 v6l v8 v9 v10 (List.length v5 : Int) k w19 s) _ _ (fun m i s => (rel_copies_l2_eq n m0 m v5 v6l v8 v9 v10 (List.length v5 : Int) (i : Int) w19 s).trans (by kernel_rfl)) m i hi hm (w22)
theorem rel_copies_l0_eq (n : Nat) (m0 : Nat) (v8 : List (List ApiValue)) (v9 : Int) (v10 : Int) (w19 : List (List ApiValue)) : rel_copies_l0 n (m0 + 1) v8 v9 v10 w19 = (bif (decide (v10 < v9)) then (bif (decide (0 ≤ v10) && decide (v10 < List.length v8)) then (bif (decide (0 ≤ (List.length (List.getD v8 (Int.toNat v10) []) : Int)) && decide ((List.length (List.getD v8 (Int.toNat v10) []) : Int) ≤ (List.length (List.getD v8 (Int.toNat v10) []) : Int)) && decide ((List.length (List.getD v8 (Int.toNat v10) []) : Int) ≤ 4294967296)) then (rel_copies_l2 n m0 n (List.getD v8 (Int.toNat v10) []) (Int.toNat (List.length (List.getD v8 (Int.toNat v10) []) : Int)) v8 v9 v10 (List.length (List.getD v8 (Int.toNat v10) []) : Int) 0 w19 (List.replicate (Int.toNat (List.length (List.getD v8 (Int.toNat v10) []) : Int)) (ApiValue.mk 0 0 [] []))) else none) else none) else (bif (decide ((List.length w19) = List.length w19)) then (some w19) else none)) := by kernel_rfl
theorem rel_copies_l0_zero (n : Nat) (v8 : List (List ApiValue)) (v9 : Int) (v10 : Int) (w19 : List (List ApiValue)) : rel_copies_l0 n 0 v8 v9 v10 w19 = none := by kernel_rfl
theorem rel_copies_eq (n : Nat) (x0 : List (List ApiValue)) : rel_copies n x0 = (rel_copies_l0 n n x0 (List.length x0 : Int) 0 []) := by kernel_rfl
noncomputable def C61 (n : Nat) : Call2 E := more tt gl H (C60 n) n 64 Tryz.f64 [.t (.sl (.sl (.nm 1)))] (C60 n)

/- clapperbridge/rel.Copy -/
noncomputable def rel_Copy (n : Nat) (x0 : Rel) : Option ((List UInt8) × (List Col) × (List (List UInt8)) × List (List ApiValue)) := F2 (E := E) tt gl H (C61 n) n 62 Tryz.f62 [.t (.nm 3)] (x0, ())
theorem rel_Copy_eq (n : Nat) (x0 : Rel) : rel_Copy n x0 = (Option.bind (slices_Clone_Col_nn n x0.Cols) fun r1 => (Option.bind (slices_Clone_string_nn n x0.Key) fun r2 => (Option.bind (rel_copies n x0.Rows) fun r3 => (bif (decide ((List.length r3) = List.length r3)) then (some (x0.Name, r1, r2, r3)) else none)))) := by kernel_rfl
noncomputable def C62 (n : Nat) : Call2 E := more tt gl H (C61 n) n 62 Tryz.f62 [.t (.nm 3)] (C61 n)

/- clapperbridge/rel.Find -/
noncomputable def rel_Find (n : Nat) (x0 : List Rel) (x1 : List UInt8) : Option (Rel × Bool) := F2 (E := E) tt gl H (C62 n) n 44 Tryz.f44 [.t (.sl (.nm 3)), .t .str] (x0, x1, ())
noncomputable def rel_Find_l0 (n : Nat) (m0 : Nat) (v1 : List UInt8) (v8 : List Rel) (v9 : Int) (v10 : Int) (w4 : Rel) : Option (Rel × Bool) := lp (E := E) (ps := [.t (.sl (.nm 3)), .t .str]) tt gl H (C62 n) n 44 Tryz.f44 [1, 0, 1, 0] [] m0 ⟨mkT 22 0 [(1, .t .str v1), (4, .ptr 4 (.nm 3) []), (8, .t (.sl (.nm 3)) v8), (9, .t (.int .i64) v9), (10, .t (.int .i64) v10)], mkB 88 0 [(4, .var (.nm 3) (.t (.nm 3) w4))]⟩
theorem rel_Find_l0_eq (n : Nat) (m0 : Nat) (v1 : List UInt8) (v8 : List Rel) (v9 : Int) (v10 : Int) (w4 : Rel) : rel_Find_l0 n (m0 + 1) v1 v8 v9 v10 w4 = (bif (decide (v10 < v9)) then (bif (decide (0 ≤ v10) && decide (v10 < List.length v8)) then (bif (((List.getD v8 (Int.toNat v10) (Rel.mk [] [] [] [])).Name) == v1) then (Option.bind (rel_Copy n (List.getD v8 (Int.toNat v10) (Rel.mk [] [] [] []))) fun r1 => (bif (((decide ((List.length r1.2.2.2) = List.length r1.2.2.2)) && true) && true) then (some ((Rel.mk r1.1 r1.2.1 r1.2.2.1 r1.2.2.2), true)) else none)) else (rel_Find_l0 n m0 v1 v8 v9 (IntKind.wrap .i64 (v10 + 1)) w4)) else none) else (some ((Rel.mk [] [] [] []), false))) := by kernel_rfl
theorem rel_Find_l0_zero (n : Nat) (v1 : List UInt8) (v8 : List Rel) (v9 : Int) (v10 : Int) (w4 : Rel) : rel_Find_l0 n 0 v1 v8 v9 v10 w4 = none := by kernel_rfl
theorem rel_Find_l0_fold (n : Nat) (v1 : List UInt8) (v8 : List Rel) (w4 : Rel) (hl : List.length v8 < 9223372036854775807) (m i : Nat) (hi : i ≤ List.length v8) (hm : List.length v8 - i < m) : rel_Find_l0 n m v1 v8 (List.length v8 : Int) (i : Int) w4 = foldK (S := Unit) (fun i (a : Rel) s K => (bif ((a.Name) == v1) then (Option.bind (rel_Copy n a) fun r1 => (bif (((decide ((List.length r1.2.2.2) = List.length r1.2.2.2)) && true) && true) then (some ((Rel.mk r1.1 r1.2.1 r1.2.2.1 r1.2.2.2), true)) else none)) else (K ()))) (fun s => (some ((Rel.mk [] [] [] []), false))) (List.drop i v8) i () := range_loop v8 (Rel.mk [] [] [] []) hl (fun m (k : Int) (s : Unit) => rel_Find_l0 n m v1 v8 (List.length v8 : Int) k w4) _ _ (fun m i s => (rel_Find_l0_eq n m v1 v8 (List.length v8 : Int) (i : Int) w4).trans (by kernel_rfl)) m i hi hm ()
theorem rel_Find_eq (n : Nat) (x0 : List Rel) (x1 : List UInt8) : rel_Find n x0 x1 = (rel_Find_l0 n n x1 x0 (List.length x0 : Int) 0 (Rel.mk [] [] [] [])) := by kernel_rfl
noncomputable def C63 (n : Nat) : Call2 E := more tt gl H (C62 n) n 44 Tryz.f44 [.t (.sl (.nm 3)), .t .str] (C62 n)

/- clapperbridge/load.places -/
noncomputable def load_places (n : Nat) (x0 : List Rel) (x1 : Foreign) : Option (Rel × Rel × List (List Int) × Int) := F2 (E := E) tt gl H (C63 n) n 21 Tryz.f21 [.t (.sl (.nm 3)), .t (.nm 4)] (x0, x1, ())
noncomputable def load_places_l0 (n : Nat) (m0 : Nat) (v12 : List (List Int)) (v57 : List (List UInt8)) (v58 : Int) (v59 : Int) (w4 : Rel) (w5 : Rel) (w8 : Rel) (w10 : Rel) : Option (Rel × Rel × List (List Int) × Int) := lp (E := E) (ps := [.t (.sl (.nm 3)), .t (.nm 4)]) tt gl H (C63 n) n 21 Tryz.f21 [1, 1, 1, 1, 1, 1, 0, 1, 0] [] m0 ⟨mkT 109 0 [(4, .ptr 4 (.nm 3) []), (5, .ptr 5 (.nm 3) []), (8, .ptr 8 (.nm 3) []), (10, .ptr 10 (.nm 3) []), (12, .sl 28 (.arr 2 (.int .i64)) v12), (57, .t (.sl .str) v57), (58, .t (.int .i64) v58), (59, .t (.int .i64) v59)], mkB 436 0 [(4, .var (.nm 3) (.t (.nm 3) w4)), (5, .var (.nm 3) (.t (.nm 3) w5)), (8, .var (.nm 3) (.t (.nm 3) w8)), (10, .var (.nm 3) (.t (.nm 3) w10)), (28, .grow (.arr 2 (.int .i64)) (List.length v12))]⟩
theorem load_places_l0_eq (n : Nat) (m0 : Nat) (v12 : List (List Int)) (v57 : List (List UInt8)) (v58 : Int) (v59 : Int) (w4 : Rel) (w5 : Rel) (w8 : Rel) (w10 : Rel) : load_places_l0 n (m0 + 1) v12 v57 v58 v59 w4 w5 w8 w10 = (bif (decide (v59 < v58)) then (bif (decide (0 ≤ v59) && decide (v59 < List.length v57)) then (Option.bind (rel_Col n w8 (List.getD v57 (Int.toNat v59) [])) fun r3 => (bif (decide (0 ≤ v59) && decide (v59 < List.length w10.Key)) then (Option.bind (rel_Col n w10 (List.getD w10.Key (Int.toNat v59) [])) fun r4 => (bif (!r3.2) then (some (w8, w10, [], 15)) else (bif (decide (0 ≤ r3.1) && decide (r3.1 < List.length w8.Cols)) then (bif (decide (0 ≤ r4.1) && decide (r4.1 < List.length w10.Cols)) then (bif (!decide (((List.getD w8.Cols (Int.toNat r3.1) (Col.mk [] 0)).Kind) = ((List.getD w10.Cols (Int.toNat r4.1) (Col.mk [] 0)).Kind))) then (some (w8, w10, [], 8)) else (bif (decide ((List.length v12) = List.length v12) && decide (List.length v12 + List.length ([[r3.1, r4.1]] : List (List Int)) ≤ 4294967296)) then (load_places_l0 n m0 (v12 ++ [[r3.1, r4.1]]) v57 v58 (IntKind.wrap .i64 (v59 + 1)) w4 w5 w8 w10) else none)) else none) else none))) else none)) else none) else (some (w8, w10, v12, 0))) := by kernel_rfl
theorem load_places_l0_zero (n : Nat) (v12 : List (List Int)) (v57 : List (List UInt8)) (v58 : Int) (v59 : Int) (w4 : Rel) (w5 : Rel) (w8 : Rel) (w10 : Rel) : load_places_l0 n 0 v12 v57 v58 v59 w4 w5 w8 w10 = none := by kernel_rfl
theorem load_places_l0_fold (n : Nat) (v57 : List (List UInt8)) (w4 : Rel) (w5 : Rel) (w8 : Rel) (w10 : Rel) (v12 : List (List Int)) (hl : List.length v57 < 9223372036854775807) (m i : Nat) (hi : i ≤ List.length v57) (hm : List.length v57 - i < m) : load_places_l0 n m v12 v57 (List.length v57 : Int) (i : Int) w4 w5 w8 w10 = foldK (S := (List (List Int))) (fun i (a : (List UInt8)) s K => (Option.bind (rel_Col n w8 a) fun r3 => (bif (decide (0 ≤ (i : Int)) && decide ((i : Int) < List.length w10.Key)) then (Option.bind (rel_Col n w10 (List.getD w10.Key (Int.toNat (i : Int)) [])) fun r4 => (bif (!r3.2) then (some (w8, w10, [], 15)) else (bif (decide (0 ≤ r3.1) && decide (r3.1 < List.length w8.Cols)) then (bif (decide (0 ≤ r4.1) && decide (r4.1 < List.length w10.Cols)) then (bif (!decide (((List.getD w8.Cols (Int.toNat r3.1) (Col.mk [] 0)).Kind) = ((List.getD w10.Cols (Int.toNat r4.1) (Col.mk [] 0)).Kind))) then (some (w8, w10, [], 8)) else (bif (decide ((List.length s) = List.length s) && decide (List.length s + List.length ([[r3.1, r4.1]] : List (List Int)) ≤ 4294967296)) then (K (s ++ [[r3.1, r4.1]])) else none)) else none) else none))) else none))) (fun s => (some (w8, w10, s, 0))) (List.drop i v57) i (v12) := range_loop v57 [] hl (fun m (k : Int) (s : (List (List Int))) => load_places_l0 n m s v57 (List.length v57 : Int) k w4 w5 w8 w10) _ _ (fun m i s => (load_places_l0_eq n m s v57 (List.length v57 : Int) (i : Int) w4 w5 w8 w10).trans (by kernel_rfl)) m i hi hm (v12)
theorem load_places_eq (n : Nat) (x0 : List Rel) (x1 : Foreign) : load_places n x0 x1 = (Option.bind (rel_Find n x0 x1.From) fun r1 => (Option.bind (rel_Find n x0 x1.To) fun r2 => (bif (!r1.2) then (some (r1.1, r2.1, [], 4)) else (bif (!r2.2) then (some (r1.1, r2.1, [], 4)) else (bif (decide ((List.length r2.1.Key : Int) = 0)) then (some (r1.1, r2.1, [], 3)) else (bif (!decide ((List.length x1.Cols : Int) = (List.length r2.1.Key : Int))) then (some (r1.1, r2.1, [], 3)) else (load_places_l0 n n [] x1.Cols (List.length x1.Cols : Int) 0 (Rel.mk [] [] [] []) (Rel.mk [] [] [] []) r1.1 r2.1))))))) := by kernel_rfl
noncomputable def C64 (n : Nat) : Call2 E := more tt gl H (C63 n) n 21 Tryz.f21 [.t (.sl (.nm 3)), .t (.nm 4)] (C63 n)

/- clapperbridge/load.Check -/
noncomputable def load_Check (n : Nat) (x0 : List Rel) (x1 : List Foreign) : Option Int := F2 (E := E) tt gl H (C64 n) n 8 Tryz.f8 [.t (.sl (.nm 3)), .t (.sl (.nm 4))] (x0, x1, ())
noncomputable def load_Check_l0 (n : Nat) (m0 : Nat) (v0 : List Rel) (v20 : List Foreign) (v21 : Int) (v22 : Int) : Option Int := lp (E := E) (ps := [.t (.sl (.nm 3)), .t (.sl (.nm 4))]) tt gl H (C64 n) n 8 Tryz.f8 [1, 1, 1, 0, 1, 0] [] m0 ⟨mkT 38 0 [(0, .t (.sl (.nm 3)) v0), (20, .t (.sl (.nm 4)) v20), (21, .t (.int .i64) v21), (22, .t (.int .i64) v22)], mkB 152 0 []⟩
theorem load_Check_l0_eq (n : Nat) (m0 : Nat) (v0 : List Rel) (v20 : List Foreign) (v21 : Int) (v22 : Int) : load_Check_l0 n (m0 + 1) v0 v20 v21 v22 = (bif (decide (v22 < v21)) then (bif (decide (0 ≤ v22) && decide (v22 < List.length v20)) then (Option.bind (load_places n v0 (List.getD v20 (Int.toNat v22) (Foreign.mk [] [] []))) fun r2 => (bif (!decide (r2.2.2.2 = 0)) then (some r2.2.2.2) else (load_Check_l0 n m0 v0 v20 v21 (IntKind.wrap .i64 (v22 + 1))))) else none) else (some 0)) := by kernel_rfl
theorem load_Check_l0_zero (n : Nat) (v0 : List Rel) (v20 : List Foreign) (v21 : Int) (v22 : Int) : load_Check_l0 n 0 v0 v20 v21 v22 = none := by kernel_rfl
theorem load_Check_l0_fold (n : Nat) (v0 : List Rel) (v20 : List Foreign) (hl : List.length v20 < 9223372036854775807) (m i : Nat) (hi : i ≤ List.length v20) (hm : List.length v20 - i < m) : load_Check_l0 n m v0 v20 (List.length v20 : Int) (i : Int) = foldK (S := Unit) (fun i (a : Foreign) s K => (Option.bind (load_places n v0 a) fun r2 => (bif (!decide (r2.2.2.2 = 0)) then (some r2.2.2.2) else (K ())))) (fun s => (some 0)) (List.drop i v20) i () := range_loop v20 (Foreign.mk [] [] []) hl (fun m (k : Int) (s : Unit) => load_Check_l0 n m v0 v20 (List.length v20 : Int) k) _ _ (fun m i s => (load_Check_l0_eq n m v0 v20 (List.length v20 : Int) (i : Int)).trans (by kernel_rfl)) m i hi hm ()
theorem load_Check_eq (n : Nat) (x0 : List Rel) (x1 : List Foreign) : load_Check n x0 x1 = (Option.bind (rel_CheckBase n x0) fun r1 => (bif (!decide (r1 = 0)) then (some r1) else (bif (decide ((List.length x1 : Int) > 12)) then (some 2) else (load_Check_l0 n n x0 x1 (List.length x1 : Int) 0)))) := by kernel_rfl
noncomputable def C65 (n : Nat) : Call2 E := more tt gl H (C64 n) n 8 Tryz.f8 [.t (.sl (.nm 3)), .t (.sl (.nm 4))] (C64 n)

/- clapperbridge/load.leads$1 -/
noncomputable def load_leads_1 (n : Nat) (x0 : List Int) (x1 : List ApiValue) (x2 : List ApiValue) : Option Bool := F2 (E := E) tt gl H (C65 n) n 48 Tryz.f48 [.t (.arr 2 (.int .i64)), .imm (.sl (.nm 1)), .imm (.sl (.nm 1))] (x0, x1, x2, ())
theorem load_leads_1_eq (n : Nat) (x0 : List Int) (x1 : List ApiValue) (x2 : List ApiValue) : load_leads_1 n x0 x1 x2 = (bif (decide (0 ≤ (List.getD x0 0 (0 : Int))) && decide ((List.getD x0 0 (0 : Int)) < List.length x1)) then (bif (decide (0 ≤ (List.getD x0 1 (0 : Int))) && decide ((List.getD x0 1 (0 : Int)) < List.length x2)) then (Option.bind (value_Same n (List.getD x1 (Int.toNat (List.getD x0 0 (0 : Int))) (ApiValue.mk 0 0 [] [])) (List.getD x2 (Int.toNat (List.getD x0 1 (0 : Int))) (ApiValue.mk 0 0 [] []))) fun r1 => (some (!r1))) else none) else none) := by kernel_rfl
noncomputable def C66 (n : Nat) : Call2 E := more tt gl H (C65 n) n 48 Tryz.f48 [.t (.arr 2 (.int .i64)), .imm (.sl (.nm 1)), .imm (.sl (.nm 1))] (C65 n)

/- slices.IndexFunc[[][2]int,[2]int] -/
noncomputable def slices_IndexFunc_2int_by_load_leads_1 (n : Nat) (x0 : List (List Int)) (x1 : ((List ApiValue) × (List ApiValue) × Unit)) : Option Int := F2 (E := E) tt gl H (C66 n) n 74 Tryz.f74 [.t (.sl (.arr 2 (.int .i64))), .fn 48 [(.sl (.nm 1)), (.sl (.nm 1))]] (x0, x1, ())
noncomputable def slices_IndexFunc_2int_by_load_leads_1_l0 (n : Nat) (m0 : Nat) (v0 : List (List Int)) (v1c0 : List ApiValue) (v1c1 : List ApiValue) (v7 : Int) (v8 : Int) : Option Int := lp (E := E) (ps := [.t (.sl (.arr 2 (.int .i64))), .fn 48 [(.sl (.nm 1)), (.sl (.nm 1))]]) tt gl H (C66 n) n 74 Tryz.f74 [1, 0, 1, 0] [] m0 ⟨mkT 19 0 [(0, .t (.sl (.arr 2 (.int .i64))) v0), (1, .func 48 [⟨(.sl (.nm 1)), v1c0⟩, ⟨(.sl (.nm 1)), v1c1⟩]), (7, .t (.int .i64) v7), (8, .t (.int .i64) v8)], mkB 76 0 []⟩
theorem slices_IndexFunc_2int_by_load_leads_1_l0_eq (n : Nat) (m0 : Nat) (v0 : List (List Int)) (v1c0 : List ApiValue) (v1c1 : List ApiValue) (v7 : Int) (v8 : Int) : slices_IndexFunc_2int_by_load_leads_1_l0 n (m0 + 1) v0 v1c0 v1c1 v7 v8 = (bif (decide (v8 < v7)) then (bif (decide (0 ≤ v8) && decide (v8 < List.length v0)) then (Option.bind (load_leads_1 n (List.getD v0 (Int.toNat v8) (List.replicate 2 0)) v1c0 v1c1) fun r1 => (bif r1 then (some v8) else (slices_IndexFunc_2int_by_load_leads_1_l0 n m0 v0 v1c0 v1c1 v7 (IntKind.wrap .i64 (v8 + 1))))) else none) else (some (-1))) := by kernel_rfl
theorem slices_IndexFunc_2int_by_load_leads_1_l0_zero (n : Nat) (v0 : List (List Int)) (v1c0 : List ApiValue) (v1c1 : List ApiValue) (v7 : Int) (v8 : Int) : slices_IndexFunc_2int_by_load_leads_1_l0 n 0 v0 v1c0 v1c1 v7 v8 = none := by kernel_rfl
theorem slices_IndexFunc_2int_by_load_leads_1_l0_fold (n : Nat) (v0 : List (List Int)) (v1c0 : List ApiValue) (v1c1 : List ApiValue) (hl : List.length v0 < 9223372036854775807) (m i : Nat) (hi : i ≤ List.length v0) (hm : List.length v0 - i < m) : slices_IndexFunc_2int_by_load_leads_1_l0 n m v0 v1c0 v1c1 (List.length v0 : Int) (i : Int) = foldK (S := Unit) (fun i (a : (List Int)) s K => (Option.bind (load_leads_1 n a v1c0 v1c1) fun r1 => (bif r1 then (some (i : Int)) else (K ())))) (fun s => (some (-1))) (List.drop i v0) i () := range_loop v0 (List.replicate 2 0) hl (fun m (k : Int) (s : Unit) => slices_IndexFunc_2int_by_load_leads_1_l0 n m v0 v1c0 v1c1 (List.length v0 : Int) k) _ _ (fun m i s => (slices_IndexFunc_2int_by_load_leads_1_l0_eq n m v0 v1c0 v1c1 (List.length v0 : Int) (i : Int)).trans (by kernel_rfl)) m i hi hm ()
theorem slices_IndexFunc_2int_by_load_leads_1_eq (n : Nat) (x0 : List (List Int)) (x1 : ((List ApiValue) × (List ApiValue) × Unit)) : slices_IndexFunc_2int_by_load_leads_1 n x0 x1 = (slices_IndexFunc_2int_by_load_leads_1_l0 n n x0 x1.1 x1.2.1 (List.length x0 : Int) 0) := by kernel_rfl
noncomputable def C67 (n : Nat) : Call2 E := more tt gl H (C66 n) n 74 Tryz.f74 [.t (.sl (.arr 2 (.int .i64))), .fn 48 [(.sl (.nm 1)), (.sl (.nm 1))]] (C66 n)

/- slices.ContainsFunc[[][2]int,[2]int] -/
noncomputable def slices_ContainsFunc_2int_by_load_leads_1 (n : Nat) (x0 : List (List Int)) (x1 : ((List ApiValue) × (List ApiValue) × Unit)) : Option Bool := F2 (E := E) tt gl H (C67 n) n 47 Tryz.f47 [.t (.sl (.arr 2 (.int .i64))), .fn 48 [(.sl (.nm 1)), (.sl (.nm 1))]] (x0, x1, ())
theorem slices_ContainsFunc_2int_by_load_leads_1_eq (n : Nat) (x0 : List (List Int)) (x1 : ((List ApiValue) × (List ApiValue) × Unit)) : slices_ContainsFunc_2int_by_load_leads_1 n x0 x1 = (Option.bind (slices_IndexFunc_2int_by_load_leads_1 n x0 (x1.1, x1.2.1, ())) fun r1 => (some (decide (r1 ≥ 0)))) := by kernel_rfl
noncomputable def C68 (n : Nat) : Call2 E := more tt gl H (C67 n) n 47 Tryz.f47 [.t (.sl (.arr 2 (.int .i64))), .fn 48 [(.sl (.nm 1)), (.sl (.nm 1))]] (C67 n)

/- clapperbridge/load.leads -/
noncomputable def load_leads (n : Nat) (x0 : List ApiValue) (x1 : List ApiValue) (x2 : List (List Int)) : Option Bool := F2 (E := E) tt gl H (C68 n) n 24 Tryz.f24 [.t (.sl (.nm 1)), .t (.sl (.nm 1)), .t (.sl (.arr 2 (.int .i64)))] (x0, x1, x2, ())
theorem load_leads_eq (n : Nat) (x0 : List ApiValue) (x1 : List ApiValue) (x2 : List (List Int)) : load_leads n x0 x1 x2 = (Option.bind (slices_ContainsFunc_2int_by_load_leads_1 n x2 (x0, x1, ())) fun r1 => (some (!r1))) := by kernel_rfl
noncomputable def C69 (n : Nat) : Call2 E := more tt gl H (C68 n) n 24 Tryz.f24 [.t (.sl (.nm 1)), .t (.sl (.nm 1)), .t (.sl (.arr 2 (.int .i64)))] (C68 n)

/- clapperbridge/load.Orphans$1 -/
noncomputable def load_Orphans_1 (n : Nat) (x0 : List ApiValue) (x1 : List ApiValue) (x2 : List (List Int)) : Option Bool := F2 (E := E) tt gl H (C69 n) n 23 Tryz.f23 [.t (.sl (.nm 1)), .imm (.sl (.nm 1)), .imm (.sl (.arr 2 (.int .i64)))] (x0, x1, x2, ())
theorem load_Orphans_1_eq (n : Nat) (x0 : List ApiValue) (x1 : List ApiValue) (x2 : List (List Int)) : load_Orphans_1 n x0 x1 x2 = (Option.bind (load_leads n x1 x0 x2) fun r1 => (some r1)) := by kernel_rfl
noncomputable def C70 (n : Nat) : Call2 E := more tt gl H (C69 n) n 23 Tryz.f23 [.t (.sl (.nm 1)), .imm (.sl (.nm 1)), .imm (.sl (.arr 2 (.int .i64)))] (C69 n)

/- slices.IndexFunc[[][]clapperbridge/api.Value,[]clapperbridge/api.Value] -/
noncomputable def slices_IndexFunc_LValue_by_load_Orphans_1 (n : Nat) (x0 : List (List ApiValue)) (x1 : ((List ApiValue) × (List (List Int)) × Unit)) : Option Int := F2 (E := E) tt gl H (C70 n) n 46 Tryz.f46 [.t (.sl (.sl (.nm 1))), .fn 23 [(.sl (.nm 1)), (.sl (.arr 2 (.int .i64)))]] (x0, x1, ())
noncomputable def slices_IndexFunc_LValue_by_load_Orphans_1_l0 (n : Nat) (m0 : Nat) (v0 : List (List ApiValue)) (v1c0 : List ApiValue) (v1c1 : List (List Int)) (v7 : Int) (v8 : Int) : Option Int := lp (E := E) (ps := [.t (.sl (.sl (.nm 1))), .fn 23 [(.sl (.nm 1)), (.sl (.arr 2 (.int .i64)))]]) tt gl H (C70 n) n 46 Tryz.f46 [1, 0, 1, 0] [] m0 ⟨mkT 19 0 [(0, .t (.sl (.sl (.nm 1))) v0), (1, .func 23 [⟨(.sl (.nm 1)), v1c0⟩, ⟨(.sl (.arr 2 (.int .i64))), v1c1⟩]), (7, .t (.int .i64) v7), (8, .t (.int .i64) v8)], mkB 76 0 []⟩
theorem slices_IndexFunc_LValue_by_load_Orphans_1_l0_eq (n : Nat) (m0 : Nat) (v0 : List (List ApiValue)) (v1c0 : List ApiValue) (v1c1 : List (List Int)) (v7 : Int) (v8 : Int) : slices_IndexFunc_LValue_by_load_Orphans_1_l0 n (m0 + 1) v0 v1c0 v1c1 v7 v8 = (bif (decide (v8 < v7)) then (bif (decide (0 ≤ v8) && decide (v8 < List.length v0)) then (Option.bind (load_Orphans_1 n (List.getD v0 (Int.toNat v8) []) v1c0 v1c1) fun r1 => (bif r1 then (some v8) else (slices_IndexFunc_LValue_by_load_Orphans_1_l0 n m0 v0 v1c0 v1c1 v7 (IntKind.wrap .i64 (v8 + 1))))) else none) else (some (-1))) := by kernel_rfl
theorem slices_IndexFunc_LValue_by_load_Orphans_1_l0_zero (n : Nat) (v0 : List (List ApiValue)) (v1c0 : List ApiValue) (v1c1 : List (List Int)) (v7 : Int) (v8 : Int) : slices_IndexFunc_LValue_by_load_Orphans_1_l0 n 0 v0 v1c0 v1c1 v7 v8 = none := by kernel_rfl
theorem slices_IndexFunc_LValue_by_load_Orphans_1_l0_fold (n : Nat) (v0 : List (List ApiValue)) (v1c0 : List ApiValue) (v1c1 : List (List Int)) (hl : List.length v0 < 9223372036854775807) (m i : Nat) (hi : i ≤ List.length v0) (hm : List.length v0 - i < m) : slices_IndexFunc_LValue_by_load_Orphans_1_l0 n m v0 v1c0 v1c1 (List.length v0 : Int) (i : Int) = foldK (S := Unit) (fun i (a : (List ApiValue)) s K => (Option.bind (load_Orphans_1 n a v1c0 v1c1) fun r1 => (bif r1 then (some (i : Int)) else (K ())))) (fun s => (some (-1))) (List.drop i v0) i () := range_loop v0 [] hl (fun m (k : Int) (s : Unit) => slices_IndexFunc_LValue_by_load_Orphans_1_l0 n m v0 v1c0 v1c1 (List.length v0 : Int) k) _ _ (fun m i s => (slices_IndexFunc_LValue_by_load_Orphans_1_l0_eq n m v0 v1c0 v1c1 (List.length v0 : Int) (i : Int)).trans (by kernel_rfl)) m i hi hm ()
theorem slices_IndexFunc_LValue_by_load_Orphans_1_eq (n : Nat) (x0 : List (List ApiValue)) (x1 : ((List ApiValue) × (List (List Int)) × Unit)) : slices_IndexFunc_LValue_by_load_Orphans_1 n x0 x1 = (slices_IndexFunc_LValue_by_load_Orphans_1_l0 n n x0 x1.1 x1.2.1 (List.length x0 : Int) 0) := by kernel_rfl
noncomputable def C71 (n : Nat) : Call2 E := more tt gl H (C70 n) n 46 Tryz.f46 [.t (.sl (.sl (.nm 1))), .fn 23 [(.sl (.nm 1)), (.sl (.arr 2 (.int .i64)))]] (C70 n)

/- slices.ContainsFunc[[][]clapperbridge/api.Value,[]clapperbridge/api.Value] -/
noncomputable def slices_ContainsFunc_LValue_by_load_Orphans_1 (n : Nat) (x0 : List (List ApiValue)) (x1 : ((List ApiValue) × (List (List Int)) × Unit)) : Option Bool := F2 (E := E) tt gl H (C71 n) n 22 Tryz.f22 [.t (.sl (.sl (.nm 1))), .fn 23 [(.sl (.nm 1)), (.sl (.arr 2 (.int .i64)))]] (x0, x1, ())
theorem slices_ContainsFunc_LValue_by_load_Orphans_1_eq (n : Nat) (x0 : List (List ApiValue)) (x1 : ((List ApiValue) × (List (List Int)) × Unit)) : slices_ContainsFunc_LValue_by_load_Orphans_1 n x0 x1 = (Option.bind (slices_IndexFunc_LValue_by_load_Orphans_1 n x0 (x1.1, x1.2.1, ())) fun r1 => (some (decide (r1 ≥ 0)))) := by kernel_rfl
noncomputable def C72 (n : Nat) : Call2 E := more tt gl H (C71 n) n 22 Tryz.f22 [.t (.sl (.sl (.nm 1))), .fn 23 [(.sl (.nm 1)), (.sl (.arr 2 (.int .i64)))]] (C71 n)

/- clapperbridge/load.Orphans -/
noncomputable def load_Orphans (n : Nat) (x0 : List Rel) (x1 : List Foreign) : Option (List Orphan × Int) := F2 (E := E) tt gl H (C72 n) n 6 Tryz.f6 [.t (.sl (.nm 3)), .t (.sl (.nm 4))] (x0, x1, ())
noncomputable def load_Orphans_l0 (n : Nat) (m0 : Nat) (v0 : List Rel) (v7 : List Orphan) (v22 : List Foreign) (v23 : Int) (v24 : Int) : Option (List Orphan × Int) := lp (E := E) (ps := [.t (.sl (.nm 3)), .t (.sl (.nm 4))]) tt gl H (C72 n) n 6 Tryz.f6 [1, 1, 1, 0, 1, 0] [] m0 ⟨mkT 59 0 [(0, .t (.sl (.nm 3)) v0), (7, .sl 23 (.nm 5) v7), (22, .t (.sl (.nm 4)) v22), (23, .t (.int .i64) v23), (24, .t (.int .i64) v24)], mkB 236 0 [(23, .grow (.nm 5) (List.length v7))]⟩
noncomputable def load_Orphans_l2 (n : Nat) (m0 : Nat) (m1 : Nat) (v0 : List Rel) (v7 : List Orphan) (v8 : Int) (v22 : List Foreign) (v23 : Int) (v24 : Int) (v38 : List (List ApiValue)) (v39 : Int) (v40 : Int) (w11 : Rel) (w12 : List (List Int)) : Option (List Orphan × Int) := lp (E := E) (ps := [.t (.sl (.nm 3)), .t (.sl (.nm 4))]) tt gl H (C72 n) n 6 Tryz.f6 [1, 1, 1, 0, 1, 0, 0, 1, 1, 0, 0, 1, 1, 1, 0] [m0] m1 ⟨mkT 59 0 [(0, .t (.sl (.nm 3)) v0), (7, .sl 23 (.nm 5) v7), (8, .t (.int .i64) v8), (11, .ptr 11 (.nm 3) []), (12, .ptr 12 (.sl (.arr 2 (.int .i64))) []), (22, .t (.sl (.nm 4)) v22), (23, .t (.int .i64) v23), (24, .t (.int .i64) v24), (38, .t (.sl (.sl (.nm 1))) v38), (39, .t (.int .i64) v39), (40, .t (.int .i64) v40)], mkB 236 0 [(11, .var (.nm 3) (.t (.nm 3) w11)), (12, .frz (.sl (.arr 2 (.int .i64))) w12), (23, .grow (.nm 5) (List.length v7))]⟩
theorem load_Orphans_l2_eq (n : Nat) (m0 : Nat) (m1 : Nat) (v0 : List Rel) (v7 : List Orphan) (v8 : Int) (v22 : List Foreign) (v23 : Int) (v24 : Int) (v38 : List (List ApiValue)) (v39 : Int) (v40 : Int) (w11 : Rel) (w12 : List (List Int)) : load_Orphans_l2 n m0 (m1 + 1) v0 v7 v8 v22 v23 v24 v38 v39 v40 w11 w12 = (bif (decide (v40 < v39)) then (bif (decide (0 ≤ v40) && decide (v40 < List.length v38)) then (Option.bind (slices_ContainsFunc_LValue_by_load_Orphans_1 n w11.Rows ((List.getD v38 (Int.toNat v40) []), w12, ())) fun r3 => (bif (!r3) then (bif (decide ((List.length v7) = List.length v7) && decide (List.length v7 + List.length ([(Orphan.mk v8 v40)] : List Orphan) ≤ 4294967296)) then (load_Orphans_l2 n m0 m1 v0 (v7 ++ [(Orphan.mk v8 v40)]) v8 v22 v23 v24 v38 v39 (IntKind.wrap .i64 (v40 + 1)) w11 w12) else none) else (load_Orphans_l2 n m0 m1 v0 v7 v8 v22 v23 v24 v38 v39 (IntKind.wrap .i64 (v40 + 1)) w11 w12))) else none) else (load_Orphans_l0 n m0 v0 v7 v22 v23 (IntKind.wrap .i64 (v24 + 1)))) := by kernel_rfl
theorem load_Orphans_l2_zero (n : Nat) (m0 : Nat) (v0 : List Rel) (v7 : List Orphan) (v8 : Int) (v22 : List Foreign) (v23 : Int) (v24 : Int) (v38 : List (List ApiValue)) (v39 : Int) (v40 : Int) (w11 : Rel) (w12 : List (List Int)) : load_Orphans_l2 n m0 0 v0 v7 v8 v22 v23 v24 v38 v39 v40 w11 w12 = none := by kernel_rfl
theorem load_Orphans_l2_fold (n : Nat) (m0 : Nat) (v0 : List Rel) (v8 : Int) (v22 : List Foreign) (v23 : Int) (v24 : Int) (v38 : List (List ApiValue)) (w11 : Rel) (w12 : List (List Int)) (v7 : List Orphan) (hl : List.length v38 < 9223372036854775807) (m i : Nat) (hi : i ≤ List.length v38) (hm : List.length v38 - i < m) : load_Orphans_l2 n m0 m v0 v7 v8 v22 v23 v24 v38 (List.length v38 : Int) (i : Int) w11 w12 = foldK (S := (List Orphan)) (fun i (a : (List ApiValue)) s K => (Option.bind (slices_ContainsFunc_LValue_by_load_Orphans_1 n w11.Rows (a, w12, ())) fun r3 => (bif (!r3) then (bif (decide ((List.length s) = List.length s) && decide (List.length s + List.length ([(Orphan.mk v8 (i : Int))] : List Orphan) ≤ 4294967296)) then (K (s ++ [(Orphan.mk v8 (i : Int))])) else none) else (K s)))) (fun s => (load_Orphans_l0 n m0 v0 s v22 v23 (IntKind.wrap .i64 (v24 + 1)))) (List.drop i v38) i (v7) := range_loop v38 [] hl (fun m (k : Int) (s : (List Orphan)) => load_Orphans_l2 n m0 m v0 s v8 v22 v23 v24 v38 (List.length v38 : Int) k w11 w12) _ _ (fun m i s => (load_Orphans_l2_eq n m0 m v0 s v8 v22 v23 v24 v38 (List.length v38 : Int) (i : Int) w11 w12).trans (by kernel_rfl)) m i hi hm (v7)
theorem load_Orphans_l0_eq (n : Nat) (m0 : Nat) (v0 : List Rel) (v7 : List Orphan) (v22 : List Foreign) (v23 : Int) (v24 : Int) : load_Orphans_l0 n (m0 + 1) v0 v7 v22 v23 v24 = (bif (decide (v24 < v23)) then (bif (decide (0 ≤ v24) && decide (v24 < List.length v22)) then (Option.bind (load_places n v0 (List.getD v22 (Int.toNat v24) (Foreign.mk [] [] []))) fun r2 => (load_Orphans_l2 n m0 n v0 v7 v24 v22 v23 v24 r2.1.Rows (List.length r2.1.Rows : Int) 0 r2.2.1 r2.2.2.1)) else none) else (some (v7, 0))) := by kernel_rfl
theorem load_Orphans_l0_zero (n : Nat) (v0 : List Rel) (v7 : List Orphan) (v22 : List Foreign) (v23 : Int) (v24 : Int) : load_Orphans_l0 n 0 v0 v7 v22 v23 v24 = none := by kernel_rfl
theorem load_Orphans_eq (n : Nat) (x0 : List Rel) (x1 : List Foreign) : load_Orphans n x0 x1 = (Option.bind (load_Check n x0 x1) fun r1 => (bif (!decide (r1 = 0)) then (some ([], r1)) else (load_Orphans_l0 n n x0 [] x1 (List.length x1 : Int) 0))) := by kernel_rfl
noncomputable def C73 (n : Nat) : Call2 E := more tt gl H (C72 n) n 6 Tryz.f6 [.t (.sl (.nm 3)), .t (.sl (.nm 4))] (C72 n)
def lay51_ren : Go.Shelf.Ren := ⟨fun | 172 => 51 | 244 => 75 | 245 => 76 | 247 => 107 | 279 => 108 | 280 => 109 | 281 => 110 | 282 => 111 | 287 => 127 | 316 => 128 | 171 => 52 | 205 => 129 | 321 => 140 | 322 => 141 | 243 => 77 | 246 => 112 | 283 => 130 | 284 => 131 | 285 => 132 | 286 => 133 | 129 => 105 | 317 => 142 | 318 => 143 | 319 => 144 | 320 => 145 | 337 => 148 | 338 => 149 | n => n, fun | 9 => 9 | 3 => 3 | 75 => 96 | 76 => 97 | 4 => 4 | 5 => 5 | 167 => 149 | 37 => 137 | 0 => 0 | 85 => 116 | 2 => 2 | 168 => 150 | 53 => 148 | 175 => 165 | 46 => 114 | 210 => 169 | 127 => 181 | 145 => 184 | 143 => 182 | 21 => 21 | 171 => 171 | 173 => 173 | 212 => 186 | 51 => 146 | 20 => 20 | 213 => 187 | 232 => 191 | 233 => 192 | 80 => 193 | n => n, fun | 15 => 0 | 16 => 1 | 17 => 3 | 18 => 4 | 19 => 5 | n => n⟩
theorem lay51 : Go.Proofs.LaysC.n172 Tryz.prog lay51_ren := {
  mixed := by kernel_rfl
  f129 := Tryz.func105.trans (congrArg some (by kernel_rfl))
  f171 := Tryz.func52.trans (congrArg some (by kernel_rfl))
  f172 := Tryz.func51.trans (congrArg some (by kernel_rfl))
  f205 := Tryz.func129.trans (congrArg some (by kernel_rfl))
  f243 := Tryz.func77.trans (congrArg some (by kernel_rfl))
  f244 := Tryz.func75.trans (congrArg some (by kernel_rfl))
  f245 := Tryz.func76.trans (congrArg some (by kernel_rfl))
  f246 := Tryz.func112.trans (congrArg some (by kernel_rfl))
  f247 := Tryz.func107.trans (congrArg some (by kernel_rfl))
  f279 := Tryz.func108.trans (congrArg some (by kernel_rfl))
  f280 := Tryz.func109.trans (congrArg some (by kernel_rfl))
  f281 := Tryz.func110.trans (congrArg some (by kernel_rfl))
  f282 := Tryz.func111.trans (congrArg some (by kernel_rfl))
  f283 := Tryz.func130.trans (congrArg some (by kernel_rfl))
  f284 := Tryz.func131.trans (congrArg some (by kernel_rfl))
  f285 := Tryz.func132.trans (congrArg some (by kernel_rfl))
  f286 := Tryz.func133.trans (congrArg some (by kernel_rfl))
  f287 := Tryz.func127.trans (congrArg some (by kernel_rfl))
  f316 := Tryz.func128.trans (congrArg some (by kernel_rfl))
  f317 := Tryz.func142.trans (congrArg some (by kernel_rfl))
  f318 := Tryz.func143.trans (congrArg some (by kernel_rfl))
  f319 := Tryz.func144.trans (congrArg some (by kernel_rfl))
  f320 := Tryz.func145.trans (congrArg some (by kernel_rfl))
  f321 := Tryz.func140.trans (congrArg some (by kernel_rfl))
  f322 := Tryz.func141.trans (congrArg some (by kernel_rfl))
  f337 := Tryz.func148.trans (congrArg some (by kernel_rfl))
  f338 := Tryz.func149.trans (congrArg some (by kernel_rfl))
  t0 := Tryz.underlying0
  a0 := Tryz.isAgg0
  z0 := Tryz.sizeOf0
  v0 := Tryz.zeroValue0
  t2 := Tryz.underlying2
  a2 := Tryz.isAgg2
  z2 := Tryz.sizeOf2
  v2 := Tryz.zeroValue2
  t3 := Tryz.underlying3
  a3 := Tryz.isAgg3
  z3 := Tryz.sizeOf3
  v3 := Tryz.zeroValue3
  t4 := Tryz.underlying4
  a4 := Tryz.isAgg4
  z4 := Tryz.sizeOf4
  v4 := Tryz.zeroValue4
  t5 := Tryz.underlying5
  a5 := Tryz.isAgg5
  z5 := Tryz.sizeOf5
  v5 := Tryz.zeroValue5
  t9 := Tryz.underlying9
  a9 := Tryz.isAgg9
  z9 := Tryz.sizeOf9
  v9 := Tryz.zeroValue9
  t20 := Tryz.underlying20
  a20 := Tryz.isAgg20
  z20 := Tryz.sizeOf20
  v20 := Tryz.zeroValue20
  t21 := Tryz.underlying21
  a21 := Tryz.isAgg21
  z21 := Tryz.sizeOf21
  v21 := Tryz.zeroValue21
  t37 := Tryz.underlying137
  a37 := Tryz.isAgg137
  z37 := Tryz.sizeOf137
  v37 := Tryz.zeroValue137
  t46 := Tryz.underlying114
  a46 := Tryz.isAgg114
  z46 := Tryz.sizeOf114
  v46 := Tryz.zeroValue114
  t51 := Tryz.underlying146
  a51 := Tryz.isAgg146
  z51 := Tryz.sizeOf146
  v51 := Tryz.zeroValue146
  t53 := Tryz.underlying148
  a53 := Tryz.isAgg148
  z53 := Tryz.sizeOf148
  v53 := Tryz.zeroValue148
  t75 := Tryz.underlying96
  a75 := Tryz.isAgg96
  z75 := Tryz.sizeOf96
  v75 := Tryz.zeroValue96
  t76 := Tryz.underlying97
  a76 := Tryz.isAgg97
  z76 := Tryz.sizeOf97
  v76 := Tryz.zeroValue97
  t85 := Tryz.underlying116
  a85 := Tryz.isAgg116
  z85 := Tryz.sizeOf116
  v85 := Tryz.zeroValue116
  t127 := Tryz.underlying181
  a127 := Tryz.isAgg181
  z127 := Tryz.sizeOf181
  v127 := Tryz.zeroValue181
  t143 := Tryz.underlying182
  a143 := Tryz.isAgg182
  z143 := Tryz.sizeOf182
  v143 := Tryz.zeroValue182
  t145 := Tryz.underlying184
  a145 := Tryz.isAgg184
  z145 := Tryz.sizeOf184
  v145 := Tryz.zeroValue184
  t167 := Tryz.underlying149
  a167 := Tryz.isAgg149
  z167 := Tryz.sizeOf149
  v167 := Tryz.zeroValue149
  t168 := Tryz.underlying150
  a168 := Tryz.isAgg150
  z168 := Tryz.sizeOf150
  v168 := Tryz.zeroValue150
  t171 := Tryz.underlying171
  a171 := Tryz.isAgg171
  z171 := Tryz.sizeOf171
  v171 := Tryz.zeroValue171
  t173 := Tryz.underlying173
  a173 := Tryz.isAgg173
  z173 := Tryz.sizeOf173
  v173 := Tryz.zeroValue173
  t175 := Tryz.underlying165
  a175 := Tryz.isAgg165
  z175 := Tryz.sizeOf165
  v175 := Tryz.zeroValue165
  t210 := Tryz.underlying169
  a210 := Tryz.isAgg169
  z210 := Tryz.sizeOf169
  v210 := Tryz.zeroValue169
  t212 := Tryz.underlying186
  a212 := Tryz.isAgg186
  z212 := Tryz.sizeOf186
  v212 := Tryz.zeroValue186
  t213 := Tryz.underlying187
  a213 := Tryz.isAgg187
  z213 := Tryz.sizeOf187
  t232 := Tryz.underlying191
  a232 := Tryz.isAgg191
  z232 := Tryz.sizeOf191
  v232 := Tryz.zeroValue191
  t233 := Tryz.underlying192
  a233 := Tryz.isAgg192
  z233 := Tryz.sizeOf192
  v233 := Tryz.zeroValue192
  g15 := by kernel_rfl
  g16 := by kernel_rfl
  g17 := by kernel_rfl
  g18 := by kernel_rfl
  g19 := by kernel_rfl
  t80 := Tryz.underlying193
  a80 := Tryz.isAgg193
  z80 := Tryz.sizeOf193
  v80 := Tryz.zeroValue193
  i0 := by kernel_rfl
  i2 := by kernel_rfl
  i3 := by kernel_rfl
  i4 := by kernel_rfl
  i5 := by kernel_rfl
  i9 := by kernel_rfl
  i20 := by kernel_rfl
  i21 := by kernel_rfl
  i37 := by kernel_rfl
  i46 := by kernel_rfl
  i51 := by kernel_rfl
  i53 := by kernel_rfl
  i75 := by kernel_rfl
  i76 := by kernel_rfl
  i80 := by kernel_rfl
  i85 := by kernel_rfl
  i127 := by kernel_rfl
  i143 := by kernel_rfl
  i145 := by kernel_rfl
  i167 := by kernel_rfl
  i168 := by kernel_rfl
  i171 := by kernel_rfl
  i173 := by kernel_rfl
  i175 := by kernel_rfl
  i210 := by kernel_rfl
  i212 := by kernel_rfl
  i232 := by kernel_rfl
  i233 := by kernel_rfl
  m15 := by kernel_rfl
  m16 := by kernel_rfl
  m17 := by kernel_rfl
  m18 := by kernel_rfl
  m19 := by kernel_rfl
  c0 := by kernel_rfl
  c2 := by kernel_rfl
  c3 := by kernel_rfl
  c4 := by kernel_rfl
  c5 := by kernel_rfl
  c9 := by kernel_rfl
  c20 := by kernel_rfl
  c21 := by kernel_rfl
  c37 := by kernel_rfl
  c46 := by kernel_rfl
  c51 := by kernel_rfl
  c53 := by kernel_rfl
  c75 := by kernel_rfl
  c76 := by kernel_rfl
  c80 := by kernel_rfl
  c85 := by kernel_rfl
  c127 := by kernel_rfl
  c143 := by kernel_rfl
  c145 := by kernel_rfl
  c167 := by kernel_rfl
  c168 := by kernel_rfl
  c171 := by kernel_rfl
  c173 := by kernel_rfl
  c175 := by kernel_rfl
  c210 := by kernel_rfl
  c212 := by kernel_rfl
  c213 := by kernel_rfl
  c232 := by kernel_rfl
  c233 := by kernel_rfl }
theorem fnok51 : FnOK Tryz.prog 51 := ⟨Tryz.f51, _, Tryz.func51, by decide, rfl⟩
noncomputable def C74 (n : Nat) : Call2 E := moreE 51 [.str] (.int .i64) (fun x => atoiO x.1) (C73 n)
def lay52_ren : Go.Shelf.Ren := ⟨fun | 171 => 52 | 243 => 77 | 246 => 112 | 283 => 130 | 284 => 131 | 285 => 132 | 286 => 133 | 129 => 105 | 317 => 142 | 318 => 143 | 319 => 144 | 320 => 145 | 337 => 148 | 338 => 149 | n => n, fun | 3 => 3 | 9 => 9 | 2 => 2 | 4 => 4 | 171 => 171 | 0 => 0 | 53 => 148 | 37 => 137 | 5 => 5 | 173 => 173 | 212 => 186 | 51 => 146 | 20 => 20 | 213 => 187 | 46 => 114 | 232 => 191 | 233 => 192 | n => n, fun | 17 => 3 | 18 => 4 | 19 => 5 | n => n⟩
theorem lay52 : Go.Proofs.LaysM.n171 Tryz.prog lay52_ren := {
  mixed := by kernel_rfl
  f129 := Tryz.func105.trans (congrArg some (by kernel_rfl))
  f171 := Tryz.func52.trans (congrArg some (by kernel_rfl))
  f243 := Tryz.func77.trans (congrArg some (by kernel_rfl))
  f246 := Tryz.func112.trans (congrArg some (by kernel_rfl))
  f283 := Tryz.func130.trans (congrArg some (by kernel_rfl))
  f284 := Tryz.func131.trans (congrArg some (by kernel_rfl))
  f285 := Tryz.func132.trans (congrArg some (by kernel_rfl))
  f286 := Tryz.func133.trans (congrArg some (by kernel_rfl))
  f317 := Tryz.func142.trans (congrArg some (by kernel_rfl))
  f318 := Tryz.func143.trans (congrArg some (by kernel_rfl))
  f319 := Tryz.func144.trans (congrArg some (by kernel_rfl))
  f320 := Tryz.func145.trans (congrArg some (by kernel_rfl))
  f337 := Tryz.func148.trans (congrArg some (by kernel_rfl))
  f338 := Tryz.func149.trans (congrArg some (by kernel_rfl))
  t0 := Tryz.underlying0
  a0 := Tryz.isAgg0
  z0 := Tryz.sizeOf0
  v0 := Tryz.zeroValue0
  t2 := Tryz.underlying2
  a2 := Tryz.isAgg2
  z2 := Tryz.sizeOf2
  v2 := Tryz.zeroValue2
  t3 := Tryz.underlying3
  a3 := Tryz.isAgg3
  z3 := Tryz.sizeOf3
  v3 := Tryz.zeroValue3
  t4 := Tryz.underlying4
  a4 := Tryz.isAgg4
  z4 := Tryz.sizeOf4
  v4 := Tryz.zeroValue4
  t5 := Tryz.underlying5
  a5 := Tryz.isAgg5
  z5 := Tryz.sizeOf5
  v5 := Tryz.zeroValue5
  t9 := Tryz.underlying9
  a9 := Tryz.isAgg9
  z9 := Tryz.sizeOf9
  v9 := Tryz.zeroValue9
  t20 := Tryz.underlying20
  a20 := Tryz.isAgg20
  z20 := Tryz.sizeOf20
  v20 := Tryz.zeroValue20
  t37 := Tryz.underlying137
  a37 := Tryz.isAgg137
  z37 := Tryz.sizeOf137
  v37 := Tryz.zeroValue137
  t46 := Tryz.underlying114
  a46 := Tryz.isAgg114
  z46 := Tryz.sizeOf114
  v46 := Tryz.zeroValue114
  t51 := Tryz.underlying146
  a51 := Tryz.isAgg146
  z51 := Tryz.sizeOf146
  v51 := Tryz.zeroValue146
  t53 := Tryz.underlying148
  a53 := Tryz.isAgg148
  z53 := Tryz.sizeOf148
  v53 := Tryz.zeroValue148
  t171 := Tryz.underlying171
  a171 := Tryz.isAgg171
  z171 := Tryz.sizeOf171
  v171 := Tryz.zeroValue171
  t173 := Tryz.underlying173
  a173 := Tryz.isAgg173
  z173 := Tryz.sizeOf173
  v173 := Tryz.zeroValue173
  t212 := Tryz.underlying186
  a212 := Tryz.isAgg186
  z212 := Tryz.sizeOf186
  v212 := Tryz.zeroValue186
  t213 := Tryz.underlying187
  a213 := Tryz.isAgg187
  z213 := Tryz.sizeOf187
  t232 := Tryz.underlying191
  a232 := Tryz.isAgg191
  z232 := Tryz.sizeOf191
  v232 := Tryz.zeroValue191
  t233 := Tryz.underlying192
  a233 := Tryz.isAgg192
  z233 := Tryz.sizeOf192
  v233 := Tryz.zeroValue192
  g17 := by kernel_rfl
  g18 := by kernel_rfl
  g19 := by kernel_rfl
  i0 := by kernel_rfl
  i2 := by kernel_rfl
  i3 := by kernel_rfl
  i4 := by kernel_rfl
  i5 := by kernel_rfl
  i9 := by kernel_rfl
  i20 := by kernel_rfl
  i37 := by kernel_rfl
  i46 := by kernel_rfl
  i51 := by kernel_rfl
  i53 := by kernel_rfl
  i171 := by kernel_rfl
  i173 := by kernel_rfl
  i212 := by kernel_rfl
  i232 := by kernel_rfl
  i233 := by kernel_rfl
  m17 := by kernel_rfl
  m18 := by kernel_rfl
  m19 := by kernel_rfl }
theorem fnok52 : FnOK Tryz.prog 52 := ⟨Tryz.f52, _, Tryz.func52, by decide, rfl⟩
noncomputable def C75 (n : Nat) : Call2 E := moreP 52 [(.int .i64)] .str (fun x => itoaO x.1) (C74 n)

/- clapperbridge/load.Scalar -/
noncomputable def load_Scalar (n : Nat) (x0 : Int) (x1 : List UInt8) : Option (ApiValue × Int) := F2 (E := E) tt gl H (C75 n) n 25 Tryz.f25 [.t (.int .i64), .t .str] (x0, x1, ())
theorem load_Scalar_eq (n : Nat) (x0 : Int) (x1 : List UInt8) : load_Scalar n x0 x1 = (bif (decide (x0 = 1)) then (Option.bind (slices_Index_string n [[102, 97, 108, 115, 101], [116, 114, 117, 101]] x1) fun r1 => (bif (decide (r1 < 0)) then (some ((ApiValue.mk 0 0 [] []), 14)) else (Option.bind (value_Check n (ApiValue.mk x0 r1 [] [])) fun r2 => (bif (!decide (r2 = 0)) then (some ((ApiValue.mk 0 0 [] []), r2)) else (some ((ApiValue.mk x0 r1 [] []), 0)))))) else (bif (decide (x0 = 2)) then (bif (decide (x0 = 2)) then (Option.bind (atoiO x1) fun r3 => (bif (!r3.2) then (some ((ApiValue.mk 0 0 [] []), 14)) else (Option.bind (itoaO r3.1) fun r4 => (bif (!(r4 == x1)) then (some ((ApiValue.mk 0 0 [] []), 14)) else (Option.bind (value_Check n (ApiValue.mk x0 r3.1 [] [])) fun r5 => (bif (!decide (r5 = 0)) then (some ((ApiValue.mk 0 0 [] []), r5)) else (some ((ApiValue.mk x0 r3.1 [] []), 0)))))))) else (bif (decide (x0 = 5)) then (Option.bind (value_Check n (ApiValue.mk x0 0 x1 [])) fun r6 => (bif (!decide (r6 = 0)) then (some ((ApiValue.mk 0 0 [] []), r6)) else (some ((ApiValue.mk x0 0 x1 []), 0)))) else (some ((ApiValue.mk 0 0 [] []), 8)))) else (bif (decide (x0 = 4)) then (Option.bind (atoiO x1) fun r7 => (bif (!r7.2) then (some ((ApiValue.mk 0 0 [] []), 14)) else (Option.bind (itoaO r7.1) fun r8 => (bif (!(r8 == x1)) then (some ((ApiValue.mk 0 0 [] []), 14)) else (Option.bind (value_Check n (ApiValue.mk x0 r7.1 [] [])) fun r9 => (bif (!decide (r9 = 0)) then (some ((ApiValue.mk 0 0 [] []), r9)) else (some ((ApiValue.mk x0 r7.1 [] []), 0)))))))) else (bif (decide (x0 = 5)) then (Option.bind (value_Check n (ApiValue.mk x0 0 x1 [])) fun r10 => (bif (!decide (r10 = 0)) then (some ((ApiValue.mk 0 0 [] []), r10)) else (some ((ApiValue.mk x0 0 x1 []), 0)))) else (some ((ApiValue.mk 0 0 [] []), 8)))))) := by kernel_rfl
noncomputable def C76 (n : Nat) : Call2 E := more tt gl H (C75 n) n 25 Tryz.f25 [.t (.int .i64), .t .str] (C75 n)

/- clapperbridge/claplaw2.loads -/
noncomputable def law2_loads (n : Nat) : Option Bool := F2 (E := E) tt gl H (C76 n) n 7 Tryz.f7 [] (())
theorem law2_loads_eq (n : Nat) : law2_loads n = (Option.bind (load_Scalar n 2 [45, 53]) fun r1 => (bif (decide (r1.2 = 0)) then (bif (decide (r1.1.N = (-5))) then (some (decide (r1.1.Kind = 2))) else (some false)) else (some false))) := by kernel_rfl
noncomputable def C77 (n : Nat) : Call2 E := more tt gl H (C76 n) n 7 Tryz.f7 [] (C76 n)

/- clapperbridge/clapref2.Lonely$1 -/
noncomputable def ref2_Lonely_1 (n : Nat) (x0 : Rel) (x1 : Foreign) : Option Bool := F2 (E := E) tt gl H (C77 n) n 27 Tryz.f27 [.t (.nm 3), .imm (.nm 4)] (x0, x1, ())
theorem ref2_Lonely_1_eq (n : Nat) (x0 : Rel) (x1 : Foreign) : ref2_Lonely_1 n x0 x1 = (some (x0.Name == x1.From)) := by kernel_rfl
noncomputable def C78 (n : Nat) : Call2 E := more tt gl H (C77 n) n 27 Tryz.f27 [.t (.nm 3), .imm (.nm 4)] (C77 n)

/- slices.IndexFunc[clapperbridge/api.Base,clapperbridge/api.Rel] -/
noncomputable def slices_IndexFunc_Rel_by_ref2_Lonely_1 (n : Nat) (x0 : List Rel) (x1 : (Foreign × Unit)) : Option Int := F2 (E := E) tt gl H (C78 n) n 17 Tryz.f17 [.t (.sl (.nm 3)), .fn 27 [(.nm 4)]] (x0, x1, ())
noncomputable def slices_IndexFunc_Rel_by_ref2_Lonely_1_l0 (n : Nat) (m0 : Nat) (v0 : List Rel) (v1c0 : Foreign) (v7 : Int) (v8 : Int) : Option Int := lp (E := E) (ps := [.t (.sl (.nm 3)), .fn 27 [(.nm 4)]]) tt gl H (C78 n) n 17 Tryz.f17 [1, 0, 1, 0] [] m0 ⟨mkT 19 0 [(0, .t (.sl (.nm 3)) v0), (1, .func 27 [⟨(.nm 4), v1c0⟩]), (7, .t (.int .i64) v7), (8, .t (.int .i64) v8)], mkB 76 0 []⟩
theorem slices_IndexFunc_Rel_by_ref2_Lonely_1_l0_eq (n : Nat) (m0 : Nat) (v0 : List Rel) (v1c0 : Foreign) (v7 : Int) (v8 : Int) : slices_IndexFunc_Rel_by_ref2_Lonely_1_l0 n (m0 + 1) v0 v1c0 v7 v8 = (bif (decide (v8 < v7)) then (bif (decide (0 ≤ v8) && decide (v8 < List.length v0)) then (Option.bind (ref2_Lonely_1 n (List.getD v0 (Int.toNat v8) (Rel.mk [] [] [] [])) v1c0) fun r1 => (bif r1 then (some v8) else (slices_IndexFunc_Rel_by_ref2_Lonely_1_l0 n m0 v0 v1c0 v7 (IntKind.wrap .i64 (v8 + 1))))) else none) else (some (-1))) := by kernel_rfl
theorem slices_IndexFunc_Rel_by_ref2_Lonely_1_l0_zero (n : Nat) (v0 : List Rel) (v1c0 : Foreign) (v7 : Int) (v8 : Int) : slices_IndexFunc_Rel_by_ref2_Lonely_1_l0 n 0 v0 v1c0 v7 v8 = none := by kernel_rfl
theorem slices_IndexFunc_Rel_by_ref2_Lonely_1_l0_fold (n : Nat) (v0 : List Rel) (v1c0 : Foreign) (hl : List.length v0 < 9223372036854775807) (m i : Nat) (hi : i ≤ List.length v0) (hm : List.length v0 - i < m) : slices_IndexFunc_Rel_by_ref2_Lonely_1_l0 n m v0 v1c0 (List.length v0 : Int) (i : Int) = foldK (S := Unit) (fun i (a : Rel) s K => (Option.bind (ref2_Lonely_1 n a v1c0) fun r1 => (bif r1 then (some (i : Int)) else (K ())))) (fun s => (some (-1))) (List.drop i v0) i () := range_loop v0 (Rel.mk [] [] [] []) hl (fun m (k : Int) (s : Unit) => slices_IndexFunc_Rel_by_ref2_Lonely_1_l0 n m v0 v1c0 (List.length v0 : Int) k) _ _ (fun m i s => (slices_IndexFunc_Rel_by_ref2_Lonely_1_l0_eq n m v0 v1c0 (List.length v0 : Int) (i : Int)).trans (by kernel_rfl)) m i hi hm ()
theorem slices_IndexFunc_Rel_by_ref2_Lonely_1_eq (n : Nat) (x0 : List Rel) (x1 : (Foreign × Unit)) : slices_IndexFunc_Rel_by_ref2_Lonely_1 n x0 x1 = (slices_IndexFunc_Rel_by_ref2_Lonely_1_l0 n n x0 x1.1 (List.length x0 : Int) 0) := by kernel_rfl
noncomputable def C79 (n : Nat) : Call2 E := more tt gl H (C78 n) n 17 Tryz.f17 [.t (.sl (.nm 3)), .fn 27 [(.nm 4)]] (C78 n)

/- clapperbridge/clapref2.Lonely$2 -/
noncomputable def ref2_Lonely_2 (n : Nat) (x0 : Rel) (x1 : Foreign) : Option Bool := F2 (E := E) tt gl H (C79 n) n 28 Tryz.f28 [.t (.nm 3), .imm (.nm 4)] (x0, x1, ())
theorem ref2_Lonely_2_eq (n : Nat) (x0 : Rel) (x1 : Foreign) : ref2_Lonely_2 n x0 x1 = (some (x0.Name == x1.To)) := by kernel_rfl
noncomputable def C80 (n : Nat) : Call2 E := more tt gl H (C79 n) n 28 Tryz.f28 [.t (.nm 3), .imm (.nm 4)] (C79 n)

/- slices.IndexFunc[clapperbridge/api.Base,clapperbridge/api.Rel] -/
noncomputable def slices_IndexFunc_Rel_by_ref2_Lonely_2 (n : Nat) (x0 : List Rel) (x1 : (Foreign × Unit)) : Option Int := F2 (E := E) tt gl H (C80 n) n 17 Tryz.f17 [.t (.sl (.nm 3)), .fn 28 [(.nm 4)]] (x0, x1, ())
noncomputable def slices_IndexFunc_Rel_by_ref2_Lonely_2_l0 (n : Nat) (m0 : Nat) (v0 : List Rel) (v1c0 : Foreign) (v7 : Int) (v8 : Int) : Option Int := lp (E := E) (ps := [.t (.sl (.nm 3)), .fn 28 [(.nm 4)]]) tt gl H (C80 n) n 17 Tryz.f17 [1, 0, 1, 0] [] m0 ⟨mkT 19 0 [(0, .t (.sl (.nm 3)) v0), (1, .func 28 [⟨(.nm 4), v1c0⟩]), (7, .t (.int .i64) v7), (8, .t (.int .i64) v8)], mkB 76 0 []⟩
theorem slices_IndexFunc_Rel_by_ref2_Lonely_2_l0_eq (n : Nat) (m0 : Nat) (v0 : List Rel) (v1c0 : Foreign) (v7 : Int) (v8 : Int) : slices_IndexFunc_Rel_by_ref2_Lonely_2_l0 n (m0 + 1) v0 v1c0 v7 v8 = (bif (decide (v8 < v7)) then (bif (decide (0 ≤ v8) && decide (v8 < List.length v0)) then (Option.bind (ref2_Lonely_2 n (List.getD v0 (Int.toNat v8) (Rel.mk [] [] [] [])) v1c0) fun r1 => (bif r1 then (some v8) else (slices_IndexFunc_Rel_by_ref2_Lonely_2_l0 n m0 v0 v1c0 v7 (IntKind.wrap .i64 (v8 + 1))))) else none) else (some (-1))) := by kernel_rfl
theorem slices_IndexFunc_Rel_by_ref2_Lonely_2_l0_zero (n : Nat) (v0 : List Rel) (v1c0 : Foreign) (v7 : Int) (v8 : Int) : slices_IndexFunc_Rel_by_ref2_Lonely_2_l0 n 0 v0 v1c0 v7 v8 = none := by kernel_rfl
theorem slices_IndexFunc_Rel_by_ref2_Lonely_2_l0_fold (n : Nat) (v0 : List Rel) (v1c0 : Foreign) (hl : List.length v0 < 9223372036854775807) (m i : Nat) (hi : i ≤ List.length v0) (hm : List.length v0 - i < m) : slices_IndexFunc_Rel_by_ref2_Lonely_2_l0 n m v0 v1c0 (List.length v0 : Int) (i : Int) = foldK (S := Unit) (fun i (a : Rel) s K => (Option.bind (ref2_Lonely_2 n a v1c0) fun r1 => (bif r1 then (some (i : Int)) else (K ())))) (fun s => (some (-1))) (List.drop i v0) i () := range_loop v0 (Rel.mk [] [] [] []) hl (fun m (k : Int) (s : Unit) => slices_IndexFunc_Rel_by_ref2_Lonely_2_l0 n m v0 v1c0 (List.length v0 : Int) k) _ _ (fun m i s => (slices_IndexFunc_Rel_by_ref2_Lonely_2_l0_eq n m v0 v1c0 (List.length v0 : Int) (i : Int)).trans (by kernel_rfl)) m i hi hm ()
theorem slices_IndexFunc_Rel_by_ref2_Lonely_2_eq (n : Nat) (x0 : List Rel) (x1 : (Foreign × Unit)) : slices_IndexFunc_Rel_by_ref2_Lonely_2 n x0 x1 = (slices_IndexFunc_Rel_by_ref2_Lonely_2_l0 n n x0 x1.1 (List.length x0 : Int) 0) := by kernel_rfl
noncomputable def C81 (n : Nat) : Call2 E := more tt gl H (C80 n) n 17 Tryz.f17 [.t (.sl (.nm 3)), .fn 28 [(.nm 4)]] (C80 n)

/- clapperbridge/clapref2.Lonely$3 -/
noncomputable def ref2_Lonely_3 (n : Nat) (x0 : List ApiValue) (x1 : Rel) (x2 : List ApiValue) : Option Bool := F2 (E := E) tt gl H (C81 n) n 29 Tryz.f29 [.t (.sl (.nm 1)), .imm (.nm 3), .imm (.sl (.nm 1))] (x0, x1, x2, ())
theorem ref2_Lonely_3_eq (n : Nat) (x0 : List ApiValue) (x1 : Rel) (x2 : List ApiValue) : ref2_Lonely_3 n x0 x1 x2 = (Option.bind (ref2_keyOf n x1 x0) fun r1 => (Option.bind (ref2_Order n r1 x2) fun r2 => (some (decide (r2 = 0))))) := by kernel_rfl
noncomputable def C82 (n : Nat) : Call2 E := more tt gl H (C81 n) n 29 Tryz.f29 [.t (.sl (.nm 1)), .imm (.nm 3), .imm (.sl (.nm 1))] (C81 n)

/- slices.IndexFunc[[][]clapperbridge/api.Value,[]clapperbridge/api.Value] -/
noncomputable def slices_IndexFunc_LValue_by_ref2_Lonely_3 (n : Nat) (x0 : List (List ApiValue)) (x1 : (Rel × (List ApiValue) × Unit)) : Option Int := F2 (E := E) tt gl H (C82 n) n 46 Tryz.f46 [.t (.sl (.sl (.nm 1))), .fn 29 [(.nm 3), (.sl (.nm 1))]] (x0, x1, ())
noncomputable def slices_IndexFunc_LValue_by_ref2_Lonely_3_l0 (n : Nat) (m0 : Nat) (v0 : List (List ApiValue)) (v1c0 : Rel) (v1c1 : List ApiValue) (v7 : Int) (v8 : Int) : Option Int := lp (E := E) (ps := [.t (.sl (.sl (.nm 1))), .fn 29 [(.nm 3), (.sl (.nm 1))]]) tt gl H (C82 n) n 46 Tryz.f46 [1, 0, 1, 0] [] m0 ⟨mkT 19 0 [(0, .t (.sl (.sl (.nm 1))) v0), (1, .func 29 [⟨(.nm 3), v1c0⟩, ⟨(.sl (.nm 1)), v1c1⟩]), (7, .t (.int .i64) v7), (8, .t (.int .i64) v8)], mkB 76 0 []⟩
theorem slices_IndexFunc_LValue_by_ref2_Lonely_3_l0_eq (n : Nat) (m0 : Nat) (v0 : List (List ApiValue)) (v1c0 : Rel) (v1c1 : List ApiValue) (v7 : Int) (v8 : Int) : slices_IndexFunc_LValue_by_ref2_Lonely_3_l0 n (m0 + 1) v0 v1c0 v1c1 v7 v8 = (bif (decide (v8 < v7)) then (bif (decide (0 ≤ v8) && decide (v8 < List.length v0)) then (Option.bind (ref2_Lonely_3 n (List.getD v0 (Int.toNat v8) []) v1c0 v1c1) fun r1 => (bif r1 then (some v8) else (slices_IndexFunc_LValue_by_ref2_Lonely_3_l0 n m0 v0 v1c0 v1c1 v7 (IntKind.wrap .i64 (v8 + 1))))) else none) else (some (-1))) := by kernel_rfl
theorem slices_IndexFunc_LValue_by_ref2_Lonely_3_l0_zero (n : Nat) (v0 : List (List ApiValue)) (v1c0 : Rel) (v1c1 : List ApiValue) (v7 : Int) (v8 : Int) : slices_IndexFunc_LValue_by_ref2_Lonely_3_l0 n 0 v0 v1c0 v1c1 v7 v8 = none := by kernel_rfl
theorem slices_IndexFunc_LValue_by_ref2_Lonely_3_l0_fold (n : Nat) (v0 : List (List ApiValue)) (v1c0 : Rel) (v1c1 : List ApiValue) (hl : List.length v0 < 9223372036854775807) (m i : Nat) (hi : i ≤ List.length v0) (hm : List.length v0 - i < m) : slices_IndexFunc_LValue_by_ref2_Lonely_3_l0 n m v0 v1c0 v1c1 (List.length v0 : Int) (i : Int) = foldK (S := Unit) (fun i (a : (List ApiValue)) s K => (Option.bind (ref2_Lonely_3 n a v1c0 v1c1) fun r1 => (bif r1 then (some (i : Int)) else (K ())))) (fun s => (some (-1))) (List.drop i v0) i () := range_loop v0 [] hl (fun m (k : Int) (s : Unit) => slices_IndexFunc_LValue_by_ref2_Lonely_3_l0 n m v0 v1c0 v1c1 (List.length v0 : Int) k) _ _ (fun m i s => (slices_IndexFunc_LValue_by_ref2_Lonely_3_l0_eq n m v0 v1c0 v1c1 (List.length v0 : Int) (i : Int)).trans (by kernel_rfl)) m i hi hm ()
theorem slices_IndexFunc_LValue_by_ref2_Lonely_3_eq (n : Nat) (x0 : List (List ApiValue)) (x1 : (Rel × (List ApiValue) × Unit)) : slices_IndexFunc_LValue_by_ref2_Lonely_3 n x0 x1 = (slices_IndexFunc_LValue_by_ref2_Lonely_3_l0 n n x0 x1.1 x1.2.1 (List.length x0 : Int) 0) := by kernel_rfl
noncomputable def C83 (n : Nat) : Call2 E := more tt gl H (C82 n) n 46 Tryz.f46 [.t (.sl (.sl (.nm 1))), .fn 29 [(.nm 3), (.sl (.nm 1))]] (C82 n)

/- slices.ContainsFunc[[][]clapperbridge/api.Value,[]clapperbridge/api.Value] -/
noncomputable def slices_ContainsFunc_LValue_by_ref2_Lonely_3 (n : Nat) (x0 : List (List ApiValue)) (x1 : (Rel × (List ApiValue) × Unit)) : Option Bool := F2 (E := E) tt gl H (C83 n) n 22 Tryz.f22 [.t (.sl (.sl (.nm 1))), .fn 29 [(.nm 3), (.sl (.nm 1))]] (x0, x1, ())
theorem slices_ContainsFunc_LValue_by_ref2_Lonely_3_eq (n : Nat) (x0 : List (List ApiValue)) (x1 : (Rel × (List ApiValue) × Unit)) : slices_ContainsFunc_LValue_by_ref2_Lonely_3 n x0 x1 = (Option.bind (slices_IndexFunc_LValue_by_ref2_Lonely_3 n x0 (x1.1, x1.2.1, ())) fun r1 => (some (decide (r1 ≥ 0)))) := by kernel_rfl
noncomputable def C84 (n : Nat) : Call2 E := more tt gl H (C83 n) n 22 Tryz.f22 [.t (.sl (.sl (.nm 1))), .fn 29 [(.nm 3), (.sl (.nm 1))]] (C83 n)

/- clapperbridge/clapref2.Lonely -/
noncomputable def ref2_Lonely (n : Nat) (x0 : List Rel) (x1 : List Foreign) : Option (List Orphan) := F2 (E := E) tt gl H (C84 n) n 10 Tryz.f10 [.t (.sl (.nm 3)), .t (.sl (.nm 4))] (x0, x1, ())
noncomputable def ref2_Lonely_l0 (n : Nat) (m0 : Nat) (v0 : List Rel) (v5 : List Orphan) (v15 : List Foreign) (v16 : Int) (v17 : Int) : Option (List Orphan) := lp (E := E) (ps := [.t (.sl (.nm 3)), .t (.sl (.nm 4))]) tt gl H (C84 n) n 10 Tryz.f10 [1, 1, 0, 1, 0] [] m0 ⟨mkT 73 0 [(0, .t (.sl (.nm 3)) v0), (5, .sl 21 (.nm 5) v5), (15, .t (.sl (.nm 4)) v15), (16, .t (.int .i64) v16), (17, .t (.int .i64) v17)], mkB 292 0 [(21, .grow (.nm 5) (List.length v5))]⟩
noncomputable def ref2_Lonely_l2 (n : Nat) (m0 : Nat) (m1 : Nat) (v0 : List Rel) (v5 : List Orphan) (v6 : Int) (v15 : List Foreign) (v16 : Int) (v17 : Int) (v35 : List (List ApiValue)) (v36 : Int) (v37 : Int) (w7 : Foreign) (w8 : Rel) (w9 : Rel) : Option (List Orphan) := lp (E := E) (ps := [.t (.sl (.nm 3)), .t (.sl (.nm 4))]) tt gl H (C84 n) n 10 Tryz.f10 [1, 1, 0, 1, 0, 0, 1, 1, 0, 0, 1, 1, 1, 1, 0] [m0] m1 ⟨mkT 73 0 [(0, .t (.sl (.nm 3)) v0), (5, .sl 21 (.nm 5) v5), (6, .t (.int .i64) v6), (7, .ptr 7 (.nm 4) []), (8, .ptr 8 (.nm 3) []), (9, .ptr 9 (.nm 3) []), (15, .t (.sl (.nm 4)) v15), (16, .t (.int .i64) v16), (17, .t (.int .i64) v17), (35, .t (.sl (.sl (.nm 1))) v35), (36, .t (.int .i64) v36), (37, .t (.int .i64) v37)], mkB 292 0 [(7, .frz (.nm 4) w7), (8, .var (.nm 3) (.t (.nm 3) w8)), (9, .frz (.nm 3) w9), (21, .grow (.nm 5) (List.length v5))]⟩
noncomputable def ref2_Lonely_l4 (n : Nat) (m0 : Nat) (m1 : Nat) (m2 : Nat) (v0 : List Rel) (v5 : List Orphan) (v6 : Int) (v10 : Int) (v11 : List ApiValue) (v15 : List Foreign) (v16 : Int) (v17 : Int) (v35 : List (List ApiValue)) (v36 : Int) (v37 : Int) (v43 : List (List UInt8)) (v44 : Int) (v45 : Int) (w7 : Foreign) (w8 : Rel) (w9 : Rel) (w12 : List ApiValue) : Option (List Orphan) := lp (E := E) (ps := [.t (.sl (.nm 3)), .t (.sl (.nm 4))]) tt gl H (C84 n) n 10 Tryz.f10 [1, 1, 0, 1, 0, 0, 1, 1, 0, 0, 1, 1, 1, 1, 0, 0, 1, 1, 0, 0, 1, 1, 0, 1, 0] [m0, m1] m2 ⟨mkT 73 0 [(0, .t (.sl (.nm 3)) v0), (5, .sl 21 (.nm 5) v5), (6, .t (.int .i64) v6), (7, .ptr 7 (.nm 4) []), (8, .ptr 8 (.nm 3) []), (9, .ptr 9 (.nm 3) []), (10, .t (.int .i64) v10), (11, .t (.sl (.nm 1)) v11), (12, .ptr 12 (.sl (.nm 1)) []), (15, .t (.sl (.nm 4)) v15), (16, .t (.int .i64) v16), (17, .t (.int .i64) v17), (35, .t (.sl (.sl (.nm 1))) v35), (36, .t (.int .i64) v36), (37, .t (.int .i64) v37), (43, .t (.sl .str) v43), (44, .t (.int .i64) v44), (45, .t (.int .i64) v45)], mkB 292 0 [(7, .frz (.nm 4) w7), (8, .var (.nm 3) (.t (.nm 3) w8)), (9, .frz (.nm 3) w9), (12, .var (.sl (.nm 1)) (.sl 291 (.nm 1) w12)), (21, .grow (.nm 5) (List.length v5)), (291, .grow (.nm 1) (List.length w12))]⟩
theorem ref2_Lonely_l4_eq (n : Nat) (m0 : Nat) (m1 : Nat) (m2 : Nat) (v0 : List Rel) (v5 : List Orphan) (v6 : Int) (v10 : Int) (v11 : List ApiValue) (v15 : List Foreign) (v16 : Int) (v17 : Int) (v35 : List (List ApiValue)) (v36 : Int) (v37 : Int) (v43 : List (List UInt8)) (v44 : Int) (v45 : Int) (w7 : Foreign) (w8 : Rel) (w9 : Rel) (w12 : List ApiValue) : ref2_Lonely_l4 n m0 m1 (m2 + 1) v0 v5 v6 v10 v11 v15 v16 v17 v35 v36 v37 v43 v44 v45 w7 w8 w9 w12 = (bif (decide (v45 < v44)) then (bif (decide (0 ≤ v45) && decide (v45 < List.length v43)) then (Option.bind (ref2_column n w8 (List.getD v43 (Int.toNat v45) [])) fun r3 => (bif (decide (0 ≤ r3) && decide (r3 < List.length v11)) then (bif (decide ((List.length w12) = List.length w12) && decide (List.length w12 + List.length ([(List.getD v11 (Int.toNat r3) (ApiValue.mk 0 0 [] []))] : List ApiValue) ≤ 4294967296)) then (ref2_Lonely_l4 n m0 m1 m2 v0 v5 v6 v10 v11 v15 v16 v17 v35 v36 v37 v43 v44 (IntKind.wrap .i64 (v45 + 1)) w7 w8 w9 (w12 ++ [(List.getD v11 (Int.toNat r3) (ApiValue.mk 0 0 [] []))])) else none) else none)) else none) else (Option.bind (slices_ContainsFunc_LValue_by_ref2_Lonely_3 n w9.Rows (w9, w12, ())) fun r4 => (bif (!r4) then (bif (decide ((List.length v5) = List.length v5) && decide (List.length v5 + List.length ([(Orphan.mk v6 v10)] : List Orphan) ≤ 4294967296)) then (ref2_Lonely_l2 n m0 m1 v0 (v5 ++ [(Orphan.mk v6 v10)]) v6 v15 v16 v17 v35 v36 (IntKind.wrap .i64 (v37 + 1)) w7 w8 w9) else none) else (ref2_Lonely_l2 n m0 m1 v0 v5 v6 v15 v16 v17 v35 v36 (IntKind.wrap .i64 (v37 + 1)) w7 w8 w9)))) := by kernel_rfl
theorem ref2_Lonely_l4_zero (n : Nat) (m0 : Nat) (m1 : Nat) (v0 : List Rel) (v5 : List Orphan) (v6 : Int) (v10 : Int) (v11 : List ApiValue) (v15 : List Foreign) (v16 : Int) (v17 : Int) (v35 : List (List ApiValue)) (v36 : Int) (v37 : Int) (v43 : List (List UInt8)) (v44 : Int) (v45 : Int) (w7 : Foreign) (w8 : Rel) (w9 : Rel) (w12 : List ApiValue) : ref2_Lonely_l4 n m0 m1 0 v0 v5 v6 v10 v11 v15 v16 v17 v35 v36 v37 v43 v44 v45 w7 w8 w9 w12 = none := by kernel_rfl
theorem ref2_Lonely_l4_fold (n : Nat) (m0 : Nat) (m1 : Nat) (v0 : List Rel) (v5 : List Orphan) (v6 : Int) (v10 : Int) (v11 : List ApiValue) (v15 : List Foreign) (v16 : Int) (v17 : Int) (v35 : List (List ApiValue)) (v36 : Int) (v37 : Int) (v43 : List (List UInt8)) (w7 : Foreign) (w8 : Rel) (w9 : Rel) (w12 : List ApiValue) (hl : List.length v43 < 9223372036854775807) (m i : Nat) (hi : i ≤ List.length v43) (hm : List.length v43 - i < m) : ref2_Lonely_l4 n m0 m1 m v0 v5 v6 v10 v11 v15 v16 v17 v35 v36 v37 v43 (List.length v43 : Int) (i : Int) w7 w8 w9 w12 = foldK (S := (List ApiValue)) (fun i (a : (List UInt8)) s K => (Option.bind (ref2_column n w8 a) fun r3 => (bif (decide (0 ≤ r3) && decide (r3 < List.length v11)) then (bif (decide ((List.length s) = List.length s) && decide (List.length s + List.length ([(List.getD v11 (Int.toNat r3) (ApiValue.mk 0 0 [] []))] : List ApiValue) ≤ 4294967296)) then (K (s ++ [(List.getD v11 (Int.toNat r3) (ApiValue.mk 0 0 [] []))])) else none) else none))) (fun s => (Option.bind (slices_ContainsFunc_LValue_by_ref2_Lonely_3 n w9.Rows (w9, s, ())) fun r4 => (bif (!r4) then (bif (decide ((List.length v5) = List.length v5) && decide (List.length v5 + List.length ([(Orphan.mk v6 v10)] : List Orphan) ≤ 4294967296)) then (ref2_Lonely_l2 n m0 m1 v0 (v5 ++ [(Orphan.mk v6 v10)]) v6 v15 v16 v17 v35 v36 (IntKind.wrap .i64 (v37 + 1)) w7 w8 w9) else none) else (ref2_Lonely_l2 n m0 m1 v0 v5 v6 v15 v16 v17 v35 v36 (IntKind.wrap .i64 (v37 + 1)) w7 w8 w9)))) (List.drop i v43) i (w12) := range_loop v43 [] hl (fun m (k : Int) (s : (List ApiValue)) => ref2_Lonely_l4 n m0 m1 m v0 v5 v6 v10 v11 v15 v16 v17 v35 v36 v37 v43 (List.length v43 : Int) k w7 w8 w9 s) _ _ (fun m i s => (ref2_Lonely_l4_eq n m0 m1 m v0 v5 v6 v10 v11 v15 v16 v17 v35 v36 v37 v43 (List.length v43 : Int) (i : Int) w7 w8 w9 s).trans (by kernel_rfl)) m i hi hm (w12)
theorem ref2_Lonely_l2_eq (n : Nat) (m0 : Nat) (m1 : Nat) (v0 : List Rel) (v5 : List Orphan) (v6 : Int) (v15 : List Foreign) (v16 : Int) (v17 : Int) (v35 : List (List ApiValue)) (v36 : Int) (v37 : Int) (w7 : Foreign) (w8 : Rel) (w9 : Rel) : ref2_Lonely_l2 n m0 (m1 + 1) v0 v5 v6 v15 v16 v17 v35 v36 v37 w7 w8 w9 = (bif (decide (v37 < v36)) then (bif (decide (0 ≤ v37) && decide (v37 < List.length v35)) then (ref2_Lonely_l4 n m0 m1 n v0 v5 v6 v37 (List.getD v35 (Int.toNat v37) []) v15 v16 v17 v35 v36 v37 w7.Cols (List.length w7.Cols : Int) 0 w7 w8 w9 []) else none) else (ref2_Lonely_l0 n m0 v0 v5 v15 v16 (IntKind.wrap .i64 (v17 + 1)))) := by kernel_rfl
theorem ref2_Lonely_l2_zero (n : Nat) (m0 : Nat) (v0 : List Rel) (v5 : List Orphan) (v6 : Int) (v15 : List Foreign) (v16 : Int) (v17 : Int) (v35 : List (List ApiValue)) (v36 : Int) (v37 : Int) (w7 : Foreign) (w8 : Rel) (w9 : Rel) : ref2_Lonely_l2 n m0 0 v0 v5 v6 v15 v16 v17 v35 v36 v37 w7 w8 w9 = none := by kernel_rfl
theorem ref2_Lonely_l0_eq (n : Nat) (m0 : Nat) (v0 : List Rel) (v5 : List Orphan) (v15 : List Foreign) (v16 : Int) (v17 : Int) : ref2_Lonely_l0 n (m0 + 1) v0 v5 v15 v16 v17 = (bif (decide (v17 < v16)) then (bif (decide (0 ≤ v17) && decide (v17 < List.length v15)) then (Option.bind (slices_IndexFunc_Rel_by_ref2_Lonely_1 n v0 ((List.getD v15 (Int.toNat v17) (Foreign.mk [] [] [])), ())) fun r1 => (bif (decide (0 ≤ r1) && decide (r1 < List.length v0)) then (Option.bind (slices_IndexFunc_Rel_by_ref2_Lonely_2 n v0 ((List.getD v15 (Int.toNat v17) (Foreign.mk [] [] [])), ())) fun r2 => (bif (decide (0 ≤ r2) && decide (r2 < List.length v0)) then (ref2_Lonely_l2 n m0 n v0 v5 v17 v15 v16 v17 ((List.getD v0 (Int.toNat r1) (Rel.mk [] [] [] [])).Rows) (List.length ((List.getD v0 (Int.toNat r1) (Rel.mk [] [] [] [])).Rows) : Int) 0 (List.getD v15 (Int.toNat v17) (Foreign.mk [] [] [])) (List.getD v0 (Int.toNat r1) (Rel.mk [] [] [] [])) (List.getD v0 (Int.toNat r2) (Rel.mk [] [] [] []))) else none)) else none)) else none) else (some v5)) := by kernel_rfl
theorem ref2_Lonely_l0_zero (n : Nat) (v0 : List Rel) (v5 : List Orphan) (v15 : List Foreign) (v16 : Int) (v17 : Int) : ref2_Lonely_l0 n 0 v0 v5 v15 v16 v17 = none := by kernel_rfl
theorem ref2_Lonely_eq (n : Nat) (x0 : List Rel) (x1 : List Foreign) : ref2_Lonely n x0 x1 = (ref2_Lonely_l0 n n x0 [] x1 (List.length x1 : Int) 0) := by kernel_rfl
noncomputable def C85 (n : Nat) : Call2 E := more tt gl H (C84 n) n 10 Tryz.f10 [.t (.sl (.nm 3)), .t (.sl (.nm 4))] (C84 n)

/- slices.Equal[[]clapperbridge/load.Orphan,clapperbridge/load.Orphan] -/
noncomputable def slices_Equal_Orphan (n : Nat) (x0 : List Orphan) (x1 : List Orphan) : Option Bool := F2 (E := E) tt gl H (C85 n) n 9 Tryz.f9 [.t (.sl (.nm 5)), .t (.sl (.nm 5))] (x0, x1, ())
noncomputable def slices_Equal_Orphan_l0 (n : Nat) (m0 : Nat) (v0 : List Orphan) (v1 : List Orphan) (v12 : Int) (v13 : Int) : Option Bool := lp (E := E) (ps := [.t (.sl (.nm 5)), .t (.sl (.nm 5))]) tt gl H (C85 n) n 9 Tryz.f9 [1, 1, 0, 1, 0] [] m0 ⟨mkT 26 0 [(0, .t (.sl (.nm 5)) v0), (1, .t (.sl (.nm 5)) v1), (12, .t (.int .i64) v12), (13, .t (.int .i64) v13)], mkB 104 0 []⟩
theorem slices_Equal_Orphan_l0_eq (n : Nat) (m0 : Nat) (v0 : List Orphan) (v1 : List Orphan) (v12 : Int) (v13 : Int) : slices_Equal_Orphan_l0 n (m0 + 1) v0 v1 v12 v13 = (bif (decide (v13 < v12)) then (bif (decide (0 ≤ v13) && decide (v13 < List.length v0)) then (bif (decide (0 ≤ v13) && decide (v13 < List.length v1)) then (bif (!((((List.getD v0 (Int.toNat v13) (Orphan.mk 0 0)).Key) == ((List.getD v1 (Int.toNat v13) (Orphan.mk 0 0)).Key)) && (((List.getD v0 (Int.toNat v13) (Orphan.mk 0 0)).Row) == ((List.getD v1 (Int.toNat v13) (Orphan.mk 0 0)).Row)))) then (some false) else (slices_Equal_Orphan_l0 n m0 v0 v1 v12 (IntKind.wrap .i64 (v13 + 1)))) else none) else none) else (some true)) := by kernel_rfl
theorem slices_Equal_Orphan_l0_zero (n : Nat) (v0 : List Orphan) (v1 : List Orphan) (v12 : Int) (v13 : Int) : slices_Equal_Orphan_l0 n 0 v0 v1 v12 v13 = none := by kernel_rfl
theorem slices_Equal_Orphan_l0_fold (n : Nat) (v0 : List Orphan) (v1 : List Orphan) (hl : List.length v0 < 9223372036854775807) (m i : Nat) (hi : i ≤ List.length v0) (hm : List.length v0 - i < m) : slices_Equal_Orphan_l0 n m v0 v1 (List.length v0 : Int) (i : Int) = foldK (S := Unit) (fun i (a : Orphan) s K => (bif (decide (0 ≤ (i : Int)) && decide ((i : Int) < List.length v1)) then (bif (!(((a.Key) == ((List.getD v1 (Int.toNat (i : Int)) (Orphan.mk 0 0)).Key)) && ((a.Row) == ((List.getD v1 (Int.toNat (i : Int)) (Orphan.mk 0 0)).Row)))) then (some false) else (K ())) else none)) (fun s => (some true)) (List.drop i v0) i () := range_loop v0 (Orphan.mk 0 0) hl (fun m (k : Int) (s : Unit) => slices_Equal_Orphan_l0 n m v0 v1 (List.length v0 : Int) k) _ _ (fun m i s => (slices_Equal_Orphan_l0_eq n m v0 v1 (List.length v0 : Int) (i : Int)).trans (by kernel_rfl)) m i hi hm ()
theorem slices_Equal_Orphan_eq (n : Nat) (x0 : List Orphan) (x1 : List Orphan) : slices_Equal_Orphan n x0 x1 = (bif (!decide ((List.length x0 : Int) = (List.length x1 : Int))) then (some false) else (slices_Equal_Orphan_l0 n n x0 x1 (List.length x0 : Int) 0)) := by kernel_rfl
noncomputable def C86 (n : Nat) : Call2 E := more tt gl H (C85 n) n 9 Tryz.f9 [.t (.sl (.nm 5)), .t (.sl (.nm 5))] (C85 n)

/- clapperbridge/claplaw2.LoadOrphans -/
noncomputable def law2_LoadOrphans (n : Nat) (x0 : List Rel) (x1 : List Foreign) : Option Bool := F2 (E := E) tt gl H (C86 n) n 3 Tryz.f3 [.t (.sl (.nm 3)), .t (.sl (.nm 4))] (x0, x1, ())
theorem law2_LoadOrphans_eq (n : Nat) (x0 : List Rel) (x1 : List Foreign) : law2_LoadOrphans n x0 x1 = (Option.bind (ref2_ForeignErr n x0 x1) fun r1 => (Option.bind (load_Orphans n x0 x1) fun r2 => (Option.bind (law2_loads n) fun r3 => (bif (!r3) then (some false) else (Option.bind (load_Check n x0 x1) fun r4 => (bif (!decide (r4 = r1)) then (some false) else (bif (!decide (r2.2 = r1)) then (some false) else (bif (!decide (r1 = 0)) then (some (decide ((List.length r2.1 : Int) = 0))) else (Option.bind (ref2_Lonely n x0 x1) fun r5 => (Option.bind (slices_Equal_Orphan n r2.1 r5) fun r6 => (some r6))))))))))) := by kernel_rfl
noncomputable def C87 (n : Nat) : Call2 E := more tt gl H (C86 n) n 3 Tryz.f3 [.t (.sl (.nm 3)), .t (.sl (.nm 4))] (C86 n)

theorem ok0 [Quiet] (n : Nat) : CallOK Tryz.prog gl (callR (C0 n)) := none_ok
theorem ok1 [Quiet] (n : Nat) : CallOK Tryz.prog gl (callR (C1 n)) := more_ok envOK hz tok hmix (ok0 n) (ok0 n) Tryz.func54 (by decide)
theorem ok2 [Quiet] (n : Nat) : CallOK Tryz.prog gl (callR (C2 n)) := more_ok envOK hz tok hmix (ok1 n) (ok1 n) Tryz.func81 (by decide)
theorem ok3 [Quiet] (n : Nat) : CallOK Tryz.prog gl (callR (C3 n)) := more_ok envOK hz tok hmix (ok2 n) (ok2 n) Tryz.func116 (by decide)
theorem ok4 [Quiet] (n : Nat) : CallOK Tryz.prog gl (callR (C4 n)) := more_ok envOK hz tok hmix (ok3 n) (ok3 n) Tryz.func83 (by decide)
theorem ok5 [Quiet] (n : Nat) : CallOK Tryz.prog gl (callR (C5 n)) := moreF_ok (ok4 n) fnok84 func84
theorem ok6 [Quiet] (n : Nat) : CallOK Tryz.prog gl (callR (C6 n)) := more_ok envOK hz tok hmix (ok5 n) (ok5 n) Tryz.func82 (by decide)
theorem okr6 [Quiet] : ∀ d n : Nat, CallOK Tryz.prog gl (callR (Cr6 d n))
  | 0, n => ok6 n
  | d + 1, n => (more_ok envOK hz tok hmix (okr6 d n) (more_ok envOK hz tok hmix (okr6 d n) (more_ok envOK hz tok hmix (okr6 d n) (ok6 n) Tryz.func55 (by decide)) Tryz.func85 (by decide)) Tryz.func86 (by decide))
theorem ok7 [Quiet] (n : Nat) : CallOK Tryz.prog gl (callR (C7 n)) := okr6 (n + 1) n
theorem ok8 [Quiet] (n : Nat) : CallOK Tryz.prog gl (callR (C8 n)) := more_ok envOK hz tok hmix (ok7 n) (ok7 n) Tryz.func30 (by decide)
theorem ok9 [Quiet] (n : Nat) : CallOK Tryz.prog gl (callR (C9 n)) := more_ok envOK hz tok hmix (ok8 n) (ok8 n) Tryz.func65 (by decide)
theorem ok10 [Quiet] (n : Nat) : CallOK Tryz.prog gl (callR (C10 n)) := more_ok envOK hz tok hmix (ok9 n) (ok9 n) Tryz.func37 (by decide)
theorem okr10 [Quiet] : ∀ d n : Nat, CallOK Tryz.prog gl (callR (Cr10 d n))
  | 0, n => ok10 n
  | d + 1, n => (more_ok envOK hz tok hmix (okr10 d n) (ok10 n) Tryz.func78 (by decide))
theorem ok11 [Quiet] (n : Nat) : CallOK Tryz.prog gl (callR (C11 n)) := okr10 (n + 1) n
theorem okr11 [Quiet] : ∀ d n : Nat, CallOK Tryz.prog gl (callR (Cr11 d n))
  | 0, n => ok11 n
  | d + 1, n => (more_ok envOK hz tok hmix (okr11 d n) (ok11 n) Tryz.func79 (by decide))
theorem ok12 [Quiet] (n : Nat) : CallOK Tryz.prog gl (callR (C12 n)) := okr11 (n + 1) n
theorem ok13 [Quiet] (n : Nat) : CallOK Tryz.prog gl (callR (C13 n)) := more_ok envOK hz tok hmix (ok12 n) (ok12 n) Tryz.func134 (by decide)
theorem ok14 [Quiet] (n : Nat) : CallOK Tryz.prog gl (callR (C14 n)) := more_ok envOK hz tok hmix (ok13 n) (ok13 n) Tryz.func113 (by decide)
theorem ok15 [Quiet] (n : Nat) : CallOK Tryz.prog gl (callR (C15 n)) := more_ok envOK hz tok hmix (ok14 n) (ok14 n) Tryz.func114 (by decide)
theorem ok16 [Quiet] (n : Nat) : CallOK Tryz.prog gl (callR (C16 n)) := more_ok envOK hz tok hmix (ok15 n) (ok15 n) Tryz.func147 (by decide)
theorem ok17 [Quiet] (n : Nat) : CallOK Tryz.prog gl (callR (C17 n)) := more_ok envOK hz tok hmix (ok16 n) (ok16 n) Tryz.func150 (by decide)
theorem ok18 [Quiet] (n : Nat) : CallOK Tryz.prog gl (callR (C18 n)) := more_ok envOK hz tok hmix (ok17 n) (ok17 n) Tryz.func146 (by decide)
theorem ok19 [Quiet] (n : Nat) : CallOK Tryz.prog gl (callR (C19 n)) := more_ok envOK hz tok hmix (ok18 n) (ok18 n) Tryz.func135 (by decide)
theorem ok20 [Quiet] (n : Nat) : CallOK Tryz.prog gl (callR (C20 n)) := more_ok envOK hz tok hmix (ok19 n) (ok19 n) Tryz.func136 (by decide)
theorem ok21 [Quiet] (n : Nat) : CallOK Tryz.prog gl (callR (C21 n)) := more_ok envOK hz tok hmix (ok20 n) (ok20 n) Tryz.func115 (by decide)
theorem okr21 [Quiet] : ∀ d n : Nat, CallOK Tryz.prog gl (callR (Cr21 d n))
  | 0, n => ok21 n
  | d + 1, n => (more_ok envOK hz tok hmix (okr21 d n) (ok21 n) Tryz.func80 (by decide))
theorem ok22 [Quiet] (n : Nat) : CallOK Tryz.prog gl (callR (C22 n)) := okr21 (n + 1) n
theorem ok23 [Quiet] (n : Nat) : CallOK Tryz.prog gl (callR (C23 n)) := more_ok envOK hz tok hmix (ok22 n) (ok22 n) Tryz.func53 (by decide)
theorem ok24 [Quiet] (n : Nat) : CallOK Tryz.prog gl (callR (C24 n)) := more_ok envOK hz tok hmix (ok23 n) (ok23 n) Tryz.func38 (by decide)
theorem ok25 [Quiet] (n : Nat) : CallOK Tryz.prog gl (callR (C25 n)) := more_ok envOK hz tok hmix (ok24 n) (ok24 n) Tryz.func20 (by decide)
theorem ok26 [Quiet] (n : Nat) : CallOK Tryz.prog gl (callR (C26 n)) := more_ok envOK hz tok hmix (ok25 n) (ok25 n) Tryz.func31 (by decide)
theorem ok27 [Quiet] (n : Nat) : CallOK Tryz.prog gl (callR (C27 n)) := moreS_ok envOK (@ok8 ⟨True⟩ n) (ok26 n) fnok39 sortc39 (by decide)
theorem ok28 [Quiet] (n : Nat) : CallOK Tryz.prog gl (callR (C28 n)) := more_ok envOK hz tok hmix (ok27 n) (ok27 n) Tryz.func12 (by decide)
theorem ok29 [Quiet] (n : Nat) : CallOK Tryz.prog gl (callR (C29 n)) := more_ok envOK hz tok hmix (ok28 n) (ok28 n) Tryz.func16 (by decide)
theorem ok30 [Quiet] (n : Nat) : CallOK Tryz.prog gl (callR (C30 n)) := more_ok envOK hz tok hmix (ok29 n) (ok29 n) Tryz.func18 (by decide)
theorem ok31 [Quiet] (n : Nat) : CallOK Tryz.prog gl (callR (C31 n)) := more_ok envOK hz tok hmix (ok30 n) (ok30 n) Tryz.func17 (by decide)
theorem ok32 [Quiet] (n : Nat) : CallOK Tryz.prog gl (callR (C32 n)) := more_ok envOK hz tok hmix (ok31 n) (ok31 n) Tryz.func19 (by decide)
theorem ok33 [Quiet] (n : Nat) : CallOK Tryz.prog gl (callR (C33 n)) := more_ok envOK hz tok hmix (ok32 n) (ok32 n) Tryz.func17 (by decide)
theorem ok34 [Quiet] (n : Nat) : CallOK Tryz.prog gl (callR (C34 n)) := more_ok envOK hz tok hmix (ok33 n) (ok33 n) Tryz.func5 (by decide)
theorem ok35 [Quiet] (n : Nat) : CallOK Tryz.prog gl (callR (C35 n)) := more_ok envOK hz tok hmix (ok34 n) (ok34 n) Tryz.func88 (by decide)
theorem ok36 [Quiet] (n : Nat) : CallOK Tryz.prog gl (callR (C36 n)) := more_ok envOK hz tok hmix (ok35 n) (ok35 n) Tryz.func72 (by decide)
theorem ok37 [Quiet] (n : Nat) : CallOK Tryz.prog gl (callR (C37 n)) := more_ok envOK hz tok hmix (ok36 n) (ok36 n) Tryz.func87 (by decide)
theorem ok38 [Quiet] (n : Nat) : CallOK Tryz.prog gl (callR (C38 n)) := more_ok envOK hz tok hmix (ok37 n) (ok37 n) Tryz.func89 (by decide)
theorem ok39 [Quiet] (n : Nat) : CallOK Tryz.prog gl (callR (C39 n)) := more_ok envOK hz tok hmix (ok38 n) (ok38 n) Tryz.func73 (by decide)
theorem ok40 [Quiet] (n : Nat) : CallOK Tryz.prog gl (callR (C40 n)) := more_ok envOK hz tok hmix (ok39 n) (ok39 n) Tryz.func72 (by decide)
theorem ok41 [Quiet] (n : Nat) : CallOK Tryz.prog gl (callR (C41 n)) := more_ok envOK hz tok hmix (ok40 n) (ok40 n) Tryz.func45 (by decide)
theorem ok42 [Quiet] (n : Nat) : CallOK Tryz.prog gl (callR (C42 n)) := more_ok envOK hz tok hmix (ok41 n) (ok41 n) Tryz.func50 (by decide)
theorem ok43 [Quiet] (n : Nat) : CallOK Tryz.prog gl (callR (C43 n)) := more_ok envOK hz tok hmix (ok42 n) (ok42 n) Tryz.func90 (by decide)
theorem ok44 [Quiet] (n : Nat) : CallOK Tryz.prog gl (callR (C44 n)) := more_ok envOK hz tok hmix (ok43 n) (ok43 n) Tryz.func56 (by decide)
theorem ok45 [Quiet] (n : Nat) : CallOK Tryz.prog gl (callR (C45 n)) := more_ok envOK hz tok hmix (ok44 n) (ok44 n) Tryz.func57 (by decide)
theorem ok46 [Quiet] (n : Nat) : CallOK Tryz.prog gl (callR (C46 n)) := more_ok envOK hz tok hmix (ok45 n) (ok45 n) Tryz.func58 (by decide)
theorem ok47 [Quiet] (n : Nat) : CallOK Tryz.prog gl (callR (C47 n)) := more_ok envOK hz tok hmix (ok46 n) (ok46 n) Tryz.func49 (by decide)
theorem ok48 [Quiet] (n : Nat) : CallOK Tryz.prog gl (callR (C48 n)) := more_ok envOK hz tok hmix (ok47 n) (ok47 n) Tryz.func92 (by decide)
theorem ok49 [Quiet] (n : Nat) : CallOK Tryz.prog gl (callR (C49 n)) := more_ok envOK hz tok hmix (ok48 n) (ok48 n) Tryz.func118 (by decide)
theorem ok50 [Quiet] (n : Nat) : CallOK Tryz.prog gl (callR (C50 n)) := more_ok envOK hz tok hmix (ok49 n) (ok49 n) Tryz.func91 (by decide)
theorem ok51 [Quiet] (n : Nat) : CallOK Tryz.prog gl (callR (C51 n)) := more_ok envOK hz tok hmix (ok50 n) (ok50 n) Tryz.func59 (by decide)
theorem ok52 [Quiet] (n : Nat) : CallOK Tryz.prog gl (callR (C52 n)) := more_ok envOK hz tok hmix (ok51 n) (ok51 n) Tryz.func34 (by decide)
theorem ok53 [Quiet] (n : Nat) : CallOK Tryz.prog gl (callR (C53 n)) := more_ok envOK hz tok hmix (ok52 n) (ok52 n) Tryz.func26 (by decide)
theorem ok54 [Quiet] (n : Nat) : CallOK Tryz.prog gl (callR (C54 n)) := more_ok envOK hz tok hmix (ok53 n) (ok53 n) Tryz.func32 (by decide)
theorem ok55 [Quiet] (n : Nat) : CallOK Tryz.prog gl (callR (C55 n)) := moreN_ok envOK hz tok hmix (ok53 n) (ok54 n) Tryz.func32 (by decide) (slices_Clone_Col_nn_hq n)
theorem ok56 [Quiet] (n : Nat) : CallOK Tryz.prog gl (callR (C56 n)) := more_ok envOK hz tok hmix (ok55 n) (ok55 n) Tryz.func33 (by decide)
theorem ok57 [Quiet] (n : Nat) : CallOK Tryz.prog gl (callR (C57 n)) := moreN_ok envOK hz tok hmix (ok55 n) (ok56 n) Tryz.func33 (by decide) (slices_Clone_string_nn_hq n)
theorem ok58 [Quiet] (n : Nat) : CallOK Tryz.prog gl (callR (C58 n)) := more_ok envOK hz tok hmix (ok57 n) (ok57 n) Tryz.func120 (by decide)
theorem ok59 [Quiet] (n : Nat) : CallOK Tryz.prog gl (callR (C59 n)) := moreN_ok envOK hz tok hmix (ok57 n) (ok58 n) Tryz.func120 (by decide) (slices_Clone_Field_nn_hq n)
theorem okr59 [Quiet] : ∀ d n : Nat, CallOK Tryz.prog gl (callR (Cr59 d n))
  | 0, n => ok59 n
  | d + 1, n => (more_ok envOK hz tok hmix (okr59 d n) (ok59 n) Tryz.func95 (by decide))
theorem ok60 [Quiet] (n : Nat) : CallOK Tryz.prog gl (callR (C60 n)) := okr59 (n + 1) n
theorem ok61 [Quiet] (n : Nat) : CallOK Tryz.prog gl (callR (C61 n)) := more_ok envOK hz tok hmix (ok60 n) (ok60 n) Tryz.func64 (by decide)
theorem ok62 [Quiet] (n : Nat) : CallOK Tryz.prog gl (callR (C62 n)) := more_ok envOK hz tok hmix (ok61 n) (ok61 n) Tryz.func62 (by decide)
theorem ok63 [Quiet] (n : Nat) : CallOK Tryz.prog gl (callR (C63 n)) := more_ok envOK hz tok hmix (ok62 n) (ok62 n) Tryz.func44 (by decide)
theorem ok64 [Quiet] (n : Nat) : CallOK Tryz.prog gl (callR (C64 n)) := more_ok envOK hz tok hmix (ok63 n) (ok63 n) Tryz.func21 (by decide)
theorem ok65 [Quiet] (n : Nat) : CallOK Tryz.prog gl (callR (C65 n)) := more_ok envOK hz tok hmix (ok64 n) (ok64 n) Tryz.func8 (by decide)
theorem ok66 [Quiet] (n : Nat) : CallOK Tryz.prog gl (callR (C66 n)) := more_ok envOK hz tok hmix (ok65 n) (ok65 n) Tryz.func48 (by decide)
theorem ok67 [Quiet] (n : Nat) : CallOK Tryz.prog gl (callR (C67 n)) := more_ok envOK hz tok hmix (ok66 n) (ok66 n) Tryz.func74 (by decide)
theorem ok68 [Quiet] (n : Nat) : CallOK Tryz.prog gl (callR (C68 n)) := more_ok envOK hz tok hmix (ok67 n) (ok67 n) Tryz.func47 (by decide)
theorem ok69 [Quiet] (n : Nat) : CallOK Tryz.prog gl (callR (C69 n)) := more_ok envOK hz tok hmix (ok68 n) (ok68 n) Tryz.func24 (by decide)
theorem ok70 [Quiet] (n : Nat) : CallOK Tryz.prog gl (callR (C70 n)) := more_ok envOK hz tok hmix (ok69 n) (ok69 n) Tryz.func23 (by decide)
theorem ok71 [Quiet] (n : Nat) : CallOK Tryz.prog gl (callR (C71 n)) := more_ok envOK hz tok hmix (ok70 n) (ok70 n) Tryz.func46 (by decide)
theorem ok72 [Quiet] (n : Nat) : CallOK Tryz.prog gl (callR (C72 n)) := more_ok envOK hz tok hmix (ok71 n) (ok71 n) Tryz.func22 (by decide)
theorem ok73 [Quiet] (n : Nat) : CallOK Tryz.prog gl (callR (C73 n)) := more_ok envOK hz tok hmix (ok72 n) (ok72 n) Tryz.func6 (by decide)
theorem pc51 : PlainE (E := E) Tryz.prog gl 51 [.str] (.int .i64) (fun x => atoiO x.1) := atoiP (gs := 0) (gr := 1) (fun h => h) ⟨fun s hs v h w => (Go.Proofs.Any.strconv_Atoi_ok lay51 s (Nat.le_trans hs (by decide)) v h w).mono fun e w1 hw => ⟨hw.1, hw.2.elim (fun h => h ▸ Go.RowKit.Below.refl _ _) (fun ⟨t, h⟩ => h ▸ Go.Lib.bytesWorld_below _ _ _)⟩, fun s hs h h2 w t x hc => (Go.Proofs.Any.strconv_Atoi_syntax lay51 s hs (third h h2 (fun _ e => by cases e) (fun e => by cases e)) _ w hc (.inr ⟨_, _, rfl⟩)).mono fun e w1 ⟨N, he, _, _, hb⟩ => ⟨⟨_, _, he⟩, hb⟩, fun s hs h w t x hc => (Go.Proofs.Any.strconv_Atoi_range lay51 s hs h _ w hc (.inr ⟨_, _, rfl⟩)).mono fun e w1 ⟨N, he, _, _, hb⟩ => ⟨⟨_, _, he⟩, hb⟩⟩ rfl rfl
theorem ok74 (n : Nat) : CallOK Tryz.prog gl (callR (C74 n)) := moreE_ok (ok73 n) rfl fnok51 pc51
theorem pc52 : PlainC (E := E) Tryz.prog gl 52 [(.int .i64)] .str (fun x => itoaO x.1) := itoaP (name := "internal/strconv.uint64pow10") (gp := 3) (fun n h0 h1 w ht => Go.Proofs.Any.strconv_Itoa lay52 n h0 h1 w ht) (by kernel_rfl) rfl
theorem ok75 (n : Nat) : CallOK Tryz.prog gl (callR (C75 n)) := moreP_ok (ok74 n) rfl fnok52 pc52
theorem ok76 (n : Nat) : CallOK Tryz.prog gl (callR (C76 n)) := more_ok envOK hz tok hmix (ok75 n) (ok75 n) Tryz.func25 (by decide)
theorem ok77 (n : Nat) : CallOK Tryz.prog gl (callR (C77 n)) := more_ok envOK hz tok hmix (ok76 n) (ok76 n) Tryz.func7 (by decide)
theorem ok78 (n : Nat) : CallOK Tryz.prog gl (callR (C78 n)) := more_ok envOK hz tok hmix (ok77 n) (ok77 n) Tryz.func27 (by decide)
theorem ok79 (n : Nat) : CallOK Tryz.prog gl (callR (C79 n)) := more_ok envOK hz tok hmix (ok78 n) (ok78 n) Tryz.func17 (by decide)
theorem ok80 (n : Nat) : CallOK Tryz.prog gl (callR (C80 n)) := more_ok envOK hz tok hmix (ok79 n) (ok79 n) Tryz.func28 (by decide)
theorem ok81 (n : Nat) : CallOK Tryz.prog gl (callR (C81 n)) := more_ok envOK hz tok hmix (ok80 n) (ok80 n) Tryz.func17 (by decide)
theorem ok82 (n : Nat) : CallOK Tryz.prog gl (callR (C82 n)) := more_ok envOK hz tok hmix (ok81 n) (ok81 n) Tryz.func29 (by decide)
theorem ok83 (n : Nat) : CallOK Tryz.prog gl (callR (C83 n)) := more_ok envOK hz tok hmix (ok82 n) (ok82 n) Tryz.func46 (by decide)
theorem ok84 (n : Nat) : CallOK Tryz.prog gl (callR (C84 n)) := more_ok envOK hz tok hmix (ok83 n) (ok83 n) Tryz.func22 (by decide)
theorem ok85 (n : Nat) : CallOK Tryz.prog gl (callR (C85 n)) := more_ok envOK hz tok hmix (ok84 n) (ok84 n) Tryz.func10 (by decide)
theorem ok86 (n : Nat) : CallOK Tryz.prog gl (callR (C86 n)) := more_ok envOK hz tok hmix (ok85 n) (ok85 n) Tryz.func9 (by decide)
theorem ok87 (n : Nat) : CallOK Tryz.prog gl (callR (C87 n)) := more_ok envOK hz tok hmix (ok86 n) (ok86 n) Tryz.func3 (by decide)
theorem law_call (n : Nat) (x0 : List Rel) (x1 : List Foreign) : callR (C87 n) 3 [.t (.sl (.nm 3)) x0, .t (.sl (.nm 4)) x1] [.none, .none] = (law2_LoadOrphans n x0 x1).map fun r => (.t .bool r, [.none, .none]) := by kernel_rfl
theorem law_full : ∀ t ∈ ([23, 24] : List Nat), ∃ x, tt t = some x ∧ x.ty.full = true := by
  intro t ht
  simp only [List.mem_cons, List.not_mem_nil, or_false] at ht
  rcases ht with rfl | rfl
  · exact ⟨⟨(.sl (.nm 3)), .slice 41⟩, by kernel_rfl, rfl⟩
  · exact ⟨⟨(.sl (.nm 4)), .slice 55⟩, by kernel_rfl, rfl⟩
theorem law_ins {aa : List (AV E)} (h : Ins E tt [23, 24] aa) {N : Nat} (hb : ∀ g, (aa.map (bulkA E g)).sum ≤ N) : ∃ (x0 : List Rel) (x1 : List Foreign), aa = [.t (.sl (.nm 3)) x0, .t (.sl (.nm 4)) x1] ∧ (∀ g, Fv.Good E g (.sl (.nm 3)) x0) ∧ (∀ g, Fv.Good E g (.sl (.nm 4)) x1) ∧ ∀ g, Bulk E g (.sl (.nm 3)) x0 + Bulk E g (.sl (.nm 4)) x1 ≤ N := by
  cases h with
  | cons z0 e0 v0 g0 h => 
  have q0 := Option.some.inj (e0.symm.trans (show tt 23 = some ⟨(.sl (.nm 3)), .slice 41⟩ by kernel_rfl))
  subst q0
  cases h with
  | cons z1 e1 v1 g1 h => 
  have q1 := Option.some.inj (e1.symm.trans (show tt 24 = some ⟨(.sl (.nm 4)), .slice 55⟩ by kernel_rfl))
  subst q1
  cases h
  exact ⟨v0, v1, rfl, g0, g1, fun g => Nat.le_trans (Nat.le_of_eq (by simp [bulkA])) (hb g)⟩
theorem law_pure (ok : ∀ (x0 : List Rel) (x1 : List Foreign) (h0 : ∀ g, Fv.Good E g (.sl (.nm 3)) x0) (h1 : ∀ g, Fv.Good E g (.sl (.nm 4)) x1) (hb : ∀ g, Bulk E g (.sl (.nm 3)) x0 + Bulk E g (.sl (.nm 4)) x1 ≤ 1048576), ∃ n, law2_LoadOrphans n x0 x1 = some true) (aa : List (AV E)) (h : Ins E tt [23, 24] aa) (hb : ∀ g, (aa.map (bulkA E g)).sum ≤ 1048576) : ∃ n outs, callR (C87 n) 3 aa (List.replicate ([23, 24] : List Nat).length .none) = some (.t .bool true, outs) := by
  obtain ⟨x0, x1, rfl, h0, h1, hk⟩ := law_ins h hb
  obtain ⟨n, hn⟩ := ok x0 x1 h0 h1 hk
  exact ⟨n, _, (law_call n x0 x1).trans (by rw [hn]; rfl)⟩
end Go.Proofs.YtbbiogeemhohaaaGreatDoor.PLoadOrphans
