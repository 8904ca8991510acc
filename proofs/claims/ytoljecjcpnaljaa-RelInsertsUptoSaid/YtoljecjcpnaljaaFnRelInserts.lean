/- The functions that the law RelInserts reaches, as the evaluator reckons them. No condition. -/
import Derived.Test.YtoljecjcpnaljaaFvH
import Derived.Test.YtoljecjcpnaljaaChecked
set_option linter.unusedVariables false
set_option maxRecDepth 100000
namespace Go.Proofs.Ytoljecjcpnaljaa.PRelInserts
open Go Go.Proofs Go.Proofs.Ytoljecjcpnaljaa.Fv

structure Col where
  Name : List UInt8
  Kind : Int

mutual
structure ApiValue where
  Kind : Int
  N : Int
  S : List UInt8
  Fields : List ApiField
structure ApiField where
  Name : List UInt8
  Val : ApiValue
end

structure Rel where
  Name : List UInt8
  Cols : List Col
  Key : List (List UInt8)
  Rows : List (List ApiValue)

mutual
structure ApiType where
  Kind : Int
  Name : List UInt8
  Low : Int
  High : Int
  Pattern : List UInt8
  Parts : List Part
structure Part where
  Name : List UInt8
  Type_ : ApiType
end

def R : Nat → Type
  | 0 => Col
  | 1 => ApiValue
  | 2 => ApiField
  | 3 => Rel
  | 4 => ApiType
  | 5 => Part
  | _ => Bool
def body : Nat → Ty
  | 0 => (.pair .str (.one (.int .i64)))
  | 1 => (.pair (.int .i64) (.pair (.int .i64) (.pair .str (.one (.sl (.nm 2))))))
  | 2 => (.pair .str (.one (.nm 1)))
  | 3 => (.pair .str (.pair (.sl (.nm 0)) (.pair (.sl .str) (.one (.sl (.sl (.nm 1)))))))
  | 4 => (.pair (.int .i64) (.pair .str (.pair (.int .i64) (.pair (.int .i64) (.pair .str (.one (.sl (.nm 5))))))))
  | 5 => (.pair .str (.one (.nm 4)))
  | _ => .one .bool
def un : (n : Nat) → R n → den R (body n)
  | 0, (x : Col) => (x.Name, x.Kind)
  | 1, (x : ApiValue) => (x.Kind, x.N, x.S, x.Fields)
  | 2, (x : ApiField) => (x.Name, x.Val)
  | 3, (x : Rel) => (x.Name, x.Cols, x.Key, x.Rows)
  | 4, (x : ApiType) => (x.Kind, x.Name, x.Low, x.High, x.Pattern, x.Parts)
  | 5, (x : Part) => (x.Name, x.Type_)
  | _ + 6, x => x
def ro : (n : Nat) → den R (body n) → R n
  | 0, x => Col.mk x.1 x.2
  | 1, x => ApiValue.mk x.1 x.2.1 x.2.2.1 x.2.2.2
  | 2, x => ApiField.mk x.1 x.2
  | 3, x => Rel.mk x.1 x.2.1 x.2.2.1 x.2.2.2
  | 4, x => ApiType.mk x.1 x.2.1 x.2.2.1 x.2.2.2.1 x.2.2.2.2.1 x.2.2.2.2.2
  | 5, x => Part.mk x.1 x.2
  | _ + 6, x => x
def dfl0 : (n : Nat) → R n
  | 0 => (Col.mk [] 0)
  | 1 => (ApiValue.mk 0 0 [] [])
  | 2 => (ApiField.mk [] (ApiValue.mk 0 0 [] []))
  | 3 => (Rel.mk [] [] [] [])
  | 4 => (ApiType.mk 0 [] 0 0 [] [])
  | 5 => (Part.mk [] (ApiType.mk 0 [] 0 0 [] []))
  | _ + 6 => false
def sz0 : Nat → Nat
  | 0 => 2
  | 1 => 4
  | 2 => 5
  | 3 => 4
  | 4 => 6
  | 5 => 7
  | _ => 1
def zc0 : Nat → List Value
  | 0 => [.string ByteArray.empty, .int .i64 0]
  | 1 => [.int .i64 0, .int .i64 0, .string ByteArray.empty, .slice none 0 0]
  | 2 => [.string ByteArray.empty, .int .i64 0, .int .i64 0, .string ByteArray.empty, .slice none 0 0]
  | 3 => [.string ByteArray.empty, .slice none 0 0, .slice none 0 0, .slice none 0 0]
  | 4 => [.int .i64 0, .string ByteArray.empty, .int .i64 0, .int .i64 0, .string ByteArray.empty, .slice none 0 0]
  | 5 => [.string ByteArray.empty, .int .i64 0, .string ByteArray.empty, .int .i64 0, .int .i64 0, .string ByteArray.empty, .slice none 0 0]
  | _ => [.bool false]
def E : Env := { R := R, body := body, un := un, ro := ro, dfl := dfl0, sz := sz0, zc := zc0 }
theorem hun : ∀ n x, un n (ro n x) = x
  | 0, _ => rfl
  | 1, _ => rfl
  | 2, _ => rfl
  | 3, _ => rfl
  | 4, _ => rfl
  | 5, _ => rfl
  | _ + 6, _ => rfl
theorem hdf : ∀ n, un n (dfl0 n) = dfl E (body n)
  | 0 => rfl
  | 1 => rfl
  | 2 => rfl
  | 3 => rfl
  | 4 => rfl
  | 5 => rfl
  | _ + 6 => rfl
theorem hsz : ∀ n, sz0 n = size E (body n)
  | 0 => rfl
  | 1 => rfl
  | 2 => rfl
  | 3 => rfl
  | 4 => rfl
  | 5 => rfl
  | _ + 6 => rfl
theorem hzc : ∀ n, zc0 n = zcells E (body n)
  | 0 => rfl
  | 1 => rfl
  | 2 => rfl
  | 3 => rfl
  | 4 => rfl
  | 5 => rfl
  | _ + 6 => rfl
theorem hag : ∀ n, (∃ a, body n = .one a) ∨ ∃ a b, body n = .pair a b
  | 0 => .inr ⟨_, _, rfl⟩
  | 1 => .inr ⟨_, _, rfl⟩
  | 2 => .inr ⟨_, _, rfl⟩
  | 3 => .inr ⟨_, _, rfl⟩
  | 4 => .inr ⟨_, _, rfl⟩
  | 5 => .inr ⟨_, _, rfl⟩
  | _ + 6 => .inl ⟨_, rfl⟩
theorem envOK : EnvOK E := ⟨hun, hdf, hsz, hzc, hag⟩
theorem hz0 (M : Mem) : RC (E := E) M (.nm 0) (dfl0 0) (zc0 0) := RC.nm (E := E) (RC.pair (RC.str ByteArray.empty) (RC.one (RC.int .i64 0)))
theorem hz1 (M : Mem) : RC (E := E) M (.nm 1) (dfl0 1) (zc0 1) := RC.nm (E := E) (RC.pair (RC.int .i64 0) (RC.pair (RC.int .i64 0) (RC.pair (RC.str ByteArray.empty) (RC.one (RC.sl (e := (.nm 2)) [] none 0 (fun _ => []) (Nat.le_refl _) (fun i hi => by simp at hi) (fun i hi => by simp at hi) (fun _ => rfl))))))
theorem hz2 (M : Mem) : RC (E := E) M (.nm 2) (dfl0 2) (zc0 2) := RC.nm (E := E) (RC.pair (RC.str ByteArray.empty) (RC.one (hz1 M)))
theorem hz3 (M : Mem) : RC (E := E) M (.nm 3) (dfl0 3) (zc0 3) := RC.nm (E := E) (RC.pair (RC.str ByteArray.empty) (RC.pair (RC.sl (e := (.nm 0)) [] none 0 (fun _ => []) (Nat.le_refl _) (fun i hi => by simp at hi) (fun i hi => by simp at hi) (fun _ => rfl)) (RC.pair (RC.sl (e := .str) [] none 0 (fun _ => []) (Nat.le_refl _) (fun i hi => by simp at hi) (fun i hi => by simp at hi) (fun _ => rfl)) (RC.one (RC.sl (e := (.sl (.nm 1))) [] none 0 (fun _ => []) (Nat.le_refl _) (fun i hi => by simp at hi) (fun i hi => by simp at hi) (fun _ => rfl))))))
theorem hz4 (M : Mem) : RC (E := E) M (.nm 4) (dfl0 4) (zc0 4) := RC.nm (E := E) (RC.pair (RC.int .i64 0) (RC.pair (RC.str ByteArray.empty) (RC.pair (RC.int .i64 0) (RC.pair (RC.int .i64 0) (RC.pair (RC.str ByteArray.empty) (RC.one (RC.sl (e := (.nm 5)) [] none 0 (fun _ => []) (Nat.le_refl _) (fun i hi => by simp at hi) (fun i hi => by simp at hi) (fun _ => rfl))))))))
theorem hz5 (M : Mem) : RC (E := E) M (.nm 5) (dfl0 5) (zc0 5) := RC.nm (E := E) (RC.pair (RC.str ByteArray.empty) (RC.one (hz4 M)))
theorem hz : ∀ (M : Mem) n, RC (E := E) M (.nm n) (E.dfl n) (E.zc n)
  | M, 0 => hz0 M
  | M, 1 => hz1 M
  | M, 2 => hz2 M
  | M, 3 => hz3 M
  | M, 4 => hz4 M
  | M, 5 => hz5 M
  | M, _ + 6 => RC.nm (E := E) (RC.one (RC.bool false))
def tl : List (Nat × TE) := [(3, ⟨(.int .i64), .int .i64⟩),
  (4, ⟨.bool, .bool⟩),
  (5, ⟨(.int .u8), .int .u8⟩),
  (9, ⟨.str, .str⟩),
  (24, ⟨(.sl (.nm 0)), .slice 52⟩),
  (25, ⟨(.sl .str), .slice 9⟩),
  (26, ⟨(.sl (.sl (.nm 1))), .slice 37⟩),
  (28, ⟨(.nm 3), .struct [(9, 0), (24, 1), (25, 2), (26, 3)]⟩),
  (37, ⟨(.sl (.nm 1)), .slice 74⟩),
  (38, ⟨(.int .i64), .int .i64⟩),
  (43, ⟨.any, .func⟩),
  (44, ⟨.any, .func⟩),
  (47, ⟨(.sl (.nm 5)), .slice 54⟩),
  (49, ⟨(.nm 4), .struct [(3, 0), (9, 1), (3, 2), (3, 3), (9, 4), (47, 5)]⟩),
  (52, ⟨(.nm 0), .struct [(9, 0), (3, 1)]⟩),
  (54, ⟨(.nm 5), .struct [(9, 0), (49, 1)]⟩),
  (72, ⟨(.sl (.nm 2)), .slice 76⟩),
  (74, ⟨(.nm 1), .struct [(3, 0), (3, 1), (9, 2), (72, 3)]⟩),
  (76, ⟨(.nm 2), .struct [(9, 0), (74, 1)]⟩),
  (79, ⟨(.sl (.sl (.sl (.nm 1)))), .slice 26⟩),
  (86, ⟨(.int .u64), .int .u64⟩),
  (93, ⟨.any, .func⟩),
  (95, ⟨(.mp .str .bool), .map 9 4⟩),
  (100, ⟨.any, .func⟩),
  (102, ⟨.any, .func⟩),
  (121, ⟨(.sl (.int .u8)), .slice 5⟩),
  (122, ⟨(.sl (.int .i64)), .slice 3⟩),
  (137, ⟨.any, .func⟩)]
def tt : Nat → Option TE := look2 tl
theorem tf3 : TFact Try.prog E tt 3 ⟨(.int .i64), .int .i64⟩ := TFact.of (z := .int .i64 0) (bs := 8) Try.underlying3 ⟨rfl, rfl, rfl⟩ (by kernel_rfl) (by kernel_rfl) (fun h => nomatch h) (by kernel_rfl) (trivial) (fun _ cs h => nomatch h) (trivial)
theorem tf4 : TFact Try.prog E tt 4 ⟨.bool, .bool⟩ := TFact.of (z := .bool false) (bs := 1) Try.underlying4 ⟨rfl, rfl, rfl⟩ (by kernel_rfl) (by kernel_rfl) (fun h => nomatch h) (by kernel_rfl) (trivial) (fun _ cs h => nomatch h) (trivial)
theorem tf5 : TFact Try.prog E tt 5 ⟨(.int .u8), .int .u8⟩ := TFact.of (z := .int .u8 0) (bs := 1) Try.underlying5 ⟨rfl, rfl, rfl⟩ (by kernel_rfl) (by kernel_rfl) (fun h => nomatch h) (by kernel_rfl) (trivial) (fun _ cs h => nomatch h) (trivial)
theorem tf9 : TFact Try.prog E tt 9 ⟨.str, .str⟩ := TFact.of (z := .string ByteArray.empty) (bs := 16) Try.underlying9 ⟨rfl, rfl, rfl⟩ (by kernel_rfl) (by kernel_rfl) (fun h => nomatch h) (by kernel_rfl) (trivial) (fun _ cs h => nomatch h) (trivial)
theorem tf24 : TFact Try.prog E tt 24 ⟨(.sl (.nm 0)), .slice 52⟩ := TFact.of (z := .slice none 0 0) (bs := 24) Try.underlying24 ⟨rfl, rfl, .inr ⟨by kernel_rfl, by kernel_rfl, by kernel_rfl, of_decide_eq_true (by kernel_rfl), of_decide_eq_true (by kernel_rfl), of_decide_eq_true (by kernel_rfl)⟩⟩ (by kernel_rfl) (by kernel_rfl) (fun h => nomatch h) (by kernel_rfl) (trivial) (fun _ cs h => nomatch h) (trivial)
theorem tf25 : TFact Try.prog E tt 25 ⟨(.sl .str), .slice 9⟩ := TFact.of (z := .slice none 0 0) (bs := 24) Try.underlying25 ⟨rfl, rfl, .inr ⟨by kernel_rfl, by kernel_rfl, by kernel_rfl, of_decide_eq_true (by kernel_rfl), of_decide_eq_true (by kernel_rfl), of_decide_eq_true (by kernel_rfl)⟩⟩ (by kernel_rfl) (by kernel_rfl) (fun h => nomatch h) (by kernel_rfl) (trivial) (fun _ cs h => nomatch h) (trivial)
theorem tf26 : TFact Try.prog E tt 26 ⟨(.sl (.sl (.nm 1))), .slice 37⟩ := TFact.of (z := .slice none 0 0) (bs := 24) Try.underlying26 ⟨rfl, rfl, .inr ⟨by kernel_rfl, by kernel_rfl, by kernel_rfl, of_decide_eq_true (by kernel_rfl), of_decide_eq_true (by kernel_rfl), of_decide_eq_true (by kernel_rfl)⟩⟩ (by kernel_rfl) (by kernel_rfl) (fun h => nomatch h) (by kernel_rfl) (trivial) (fun _ cs h => nomatch h) (trivial)
theorem tf28 : TFact Try.prog E tt 28 ⟨(.nm 3), .struct [(9, 0), (24, 1), (25, 2), (26, 3)]⟩ := TFact.of (z := .agg #[.string ByteArray.empty, .slice none 0 0, .slice none 0 0, .slice none 0 0]) (bs := 88) Try.underlying28 ⟨by kernel_rfl, ⟨_, rfl, rfl⟩, by kernel_rfl, by kernel_rfl⟩ (by kernel_rfl) (by kernel_rfl) (fun _ => rfl) (by kernel_rfl) (show (Value.cells (.agg #[.string ByteArray.empty, .slice none 0 0, .slice none 0 0, .slice none 0 0])).toList = (List.map (fun f => zA (E := E) (zeroA tt 20 f.1)) [(9, 0), (24, 1), (25, 2), (26, 3)]).flatten from by kernel_rfl) (fun h => nomatch h) (fun h => absurd (h.symm.trans (show eqC tt (bodyOf E (.nm 3)) 0 [(9, 0), (24, 1), (25, 2), (26, 3)] = false from by kernel_rfl)) (by decide))
theorem tf37 : TFact Try.prog E tt 37 ⟨(.sl (.nm 1)), .slice 74⟩ := TFact.of (z := .slice none 0 0) (bs := 24) Try.underlying37 ⟨rfl, rfl, .inr ⟨by kernel_rfl, by kernel_rfl, by kernel_rfl, of_decide_eq_true (by kernel_rfl), of_decide_eq_true (by kernel_rfl), of_decide_eq_true (by kernel_rfl)⟩⟩ (by kernel_rfl) (by kernel_rfl) (fun h => nomatch h) (by kernel_rfl) (trivial) (fun _ cs h => nomatch h) (trivial)
theorem tf38 : TFact Try.prog E tt 38 ⟨(.int .i64), .int .i64⟩ := TFact.of (z := .int .i64 0) (bs := 8) Try.underlying38 ⟨rfl, rfl, rfl⟩ (by kernel_rfl) (by kernel_rfl) (fun h => nomatch h) (by kernel_rfl) (trivial) (fun _ cs h => nomatch h) (trivial)
theorem tf43 : TFact Try.prog E tt 43 ⟨.any, .func⟩ := TFact.of (z := .nilFunc) (bs := 8) Try.underlying43 ⟨rfl, _, _, _, rfl⟩ (by kernel_rfl) (by kernel_rfl) (fun h => nomatch h) (by kernel_rfl) (trivial) (fun _ cs h => nomatch h) (trivial)
theorem tf44 : TFact Try.prog E tt 44 ⟨.any, .func⟩ := TFact.of (z := .nilFunc) (bs := 8) Try.underlying44 ⟨rfl, _, _, _, rfl⟩ (by kernel_rfl) (by kernel_rfl) (fun h => nomatch h) (by kernel_rfl) (trivial) (fun _ cs h => nomatch h) (trivial)
theorem tf47 : TFact Try.prog E tt 47 ⟨(.sl (.nm 5)), .slice 54⟩ := TFact.of (z := .slice none 0 0) (bs := 24) Try.underlying47 ⟨rfl, rfl, .inr ⟨by kernel_rfl, by kernel_rfl, by kernel_rfl, of_decide_eq_true (by kernel_rfl), of_decide_eq_true (by kernel_rfl), of_decide_eq_true (by kernel_rfl)⟩⟩ (by kernel_rfl) (by kernel_rfl) (fun h => nomatch h) (by kernel_rfl) (trivial) (fun _ cs h => nomatch h) (trivial)
theorem tf49 : TFact Try.prog E tt 49 ⟨(.nm 4), .struct [(3, 0), (9, 1), (3, 2), (3, 3), (9, 4), (47, 5)]⟩ := TFact.of (z := .agg #[.int .i64 0, .string ByteArray.empty, .int .i64 0, .int .i64 0, .string ByteArray.empty, .slice none 0 0]) (bs := 80) Try.underlying49 ⟨by kernel_rfl, ⟨_, rfl, rfl⟩, by kernel_rfl, by kernel_rfl⟩ (by kernel_rfl) (by kernel_rfl) (fun _ => rfl) (by kernel_rfl) (show (Value.cells (.agg #[.int .i64 0, .string ByteArray.empty, .int .i64 0, .int .i64 0, .string ByteArray.empty, .slice none 0 0])).toList = (List.map (fun f => zA (E := E) (zeroA tt 20 f.1)) [(3, 0), (9, 1), (3, 2), (3, 3), (9, 4), (47, 5)]).flatten from by kernel_rfl) (fun h => nomatch h) (fun h => absurd (h.symm.trans (show eqC tt (bodyOf E (.nm 4)) 0 [(3, 0), (9, 1), (3, 2), (3, 3), (9, 4), (47, 5)] = false from by kernel_rfl)) (by decide))
theorem tf52 : TFact Try.prog E tt 52 ⟨(.nm 0), .struct [(9, 0), (3, 1)]⟩ := TFact.of (z := .agg #[.string ByteArray.empty, .int .i64 0]) (bs := 24) Try.underlying52 ⟨by kernel_rfl, ⟨_, rfl, rfl⟩, by kernel_rfl, by kernel_rfl⟩ (by kernel_rfl) (by kernel_rfl) (fun _ => rfl) (by kernel_rfl) (show (Value.cells (.agg #[.string ByteArray.empty, .int .i64 0])).toList = (List.map (fun f => zA (E := E) (zeroA tt 20 f.1)) [(9, 0), (3, 1)]).flatten from by kernel_rfl) (fun h => nomatch h) (fun _ => ⟨names_of Try.underlying52 (by kernel_rfl), by kernel_rfl, by kernel_rfl⟩)
theorem tf54 : TFact Try.prog E tt 54 ⟨(.nm 5), .struct [(9, 0), (49, 1)]⟩ := TFact.of (z := .agg #[.string ByteArray.empty, .int .i64 0, .string ByteArray.empty, .int .i64 0, .int .i64 0, .string ByteArray.empty, .slice none 0 0]) (bs := 96) Try.underlying54 ⟨by kernel_rfl, ⟨_, rfl, rfl⟩, by kernel_rfl, by kernel_rfl⟩ (by kernel_rfl) (by kernel_rfl) (fun _ => rfl) (by kernel_rfl) (show (Value.cells (.agg #[.string ByteArray.empty, .int .i64 0, .string ByteArray.empty, .int .i64 0, .int .i64 0, .string ByteArray.empty, .slice none 0 0])).toList = (List.map (fun f => zA (E := E) (zeroA tt 20 f.1)) [(9, 0), (49, 1)]).flatten from by kernel_rfl) (fun h => nomatch h) (fun h => absurd (h.symm.trans (show eqC tt (bodyOf E (.nm 5)) 0 [(9, 0), (49, 1)] = false from by kernel_rfl)) (by decide))
theorem tf72 : TFact Try.prog E tt 72 ⟨(.sl (.nm 2)), .slice 76⟩ := TFact.of (z := .slice none 0 0) (bs := 24) Try.underlying72 ⟨rfl, rfl, .inr ⟨by kernel_rfl, by kernel_rfl, by kernel_rfl, of_decide_eq_true (by kernel_rfl), of_decide_eq_true (by kernel_rfl), of_decide_eq_true (by kernel_rfl)⟩⟩ (by kernel_rfl) (by kernel_rfl) (fun h => nomatch h) (by kernel_rfl) (trivial) (fun _ cs h => nomatch h) (trivial)
theorem tf74 : TFact Try.prog E tt 74 ⟨(.nm 1), .struct [(3, 0), (3, 1), (9, 2), (72, 3)]⟩ := TFact.of (z := .agg #[.int .i64 0, .int .i64 0, .string ByteArray.empty, .slice none 0 0]) (bs := 56) Try.underlying74 ⟨by kernel_rfl, ⟨_, rfl, rfl⟩, by kernel_rfl, by kernel_rfl⟩ (by kernel_rfl) (by kernel_rfl) (fun _ => rfl) (by kernel_rfl) (show (Value.cells (.agg #[.int .i64 0, .int .i64 0, .string ByteArray.empty, .slice none 0 0])).toList = (List.map (fun f => zA (E := E) (zeroA tt 20 f.1)) [(3, 0), (3, 1), (9, 2), (72, 3)]).flatten from by kernel_rfl) (fun h => nomatch h) (fun h => absurd (h.symm.trans (show eqC tt (bodyOf E (.nm 1)) 0 [(3, 0), (3, 1), (9, 2), (72, 3)] = false from by kernel_rfl)) (by decide))
theorem tf76 : TFact Try.prog E tt 76 ⟨(.nm 2), .struct [(9, 0), (74, 1)]⟩ := TFact.of (z := .agg #[.string ByteArray.empty, .int .i64 0, .int .i64 0, .string ByteArray.empty, .slice none 0 0]) (bs := 72) Try.underlying76 ⟨by kernel_rfl, ⟨_, rfl, rfl⟩, by kernel_rfl, by kernel_rfl⟩ (by kernel_rfl) (by kernel_rfl) (fun _ => rfl) (by kernel_rfl) (show (Value.cells (.agg #[.string ByteArray.empty, .int .i64 0, .int .i64 0, .string ByteArray.empty, .slice none 0 0])).toList = (List.map (fun f => zA (E := E) (zeroA tt 20 f.1)) [(9, 0), (74, 1)]).flatten from by kernel_rfl) (fun h => nomatch h) (fun h => absurd (h.symm.trans (show eqC tt (bodyOf E (.nm 2)) 0 [(9, 0), (74, 1)] = false from by kernel_rfl)) (by decide))
theorem tf79 : TFact Try.prog E tt 79 ⟨(.sl (.sl (.sl (.nm 1)))), .slice 26⟩ := TFact.of (z := .slice none 0 0) (bs := 24) Try.underlying79 ⟨rfl, rfl, .inr ⟨by kernel_rfl, by kernel_rfl, by kernel_rfl, of_decide_eq_true (by kernel_rfl), of_decide_eq_true (by kernel_rfl), of_decide_eq_true (by kernel_rfl)⟩⟩ (by kernel_rfl) (by kernel_rfl) (fun h => nomatch h) (by kernel_rfl) (trivial) (fun _ cs h => nomatch h) (trivial)
theorem tf86 : TFact Try.prog E tt 86 ⟨(.int .u64), .int .u64⟩ := TFact.of (z := .int .u64 0) (bs := 8) Try.underlying86 ⟨rfl, rfl, rfl⟩ (by kernel_rfl) (by kernel_rfl) (fun h => nomatch h) (by kernel_rfl) (trivial) (fun _ cs h => nomatch h) (trivial)
theorem tf93 : TFact Try.prog E tt 93 ⟨.any, .func⟩ := TFact.of (z := .nilFunc) (bs := 8) Try.underlying93 ⟨rfl, _, _, _, rfl⟩ (by kernel_rfl) (by kernel_rfl) (fun h => nomatch h) (by kernel_rfl) (trivial) (fun _ cs h => nomatch h) (trivial)
theorem tf95 : TFact Try.prog E tt 95 ⟨(.mp .str .bool), .map 9 4⟩ := TFact.of (z := .map none) (bs := 8) Try.underlying95 ⟨rfl, rfl, by kernel_rfl, by kernel_rfl, .inr rfl⟩ (by kernel_rfl) (by kernel_rfl) (fun h => nomatch h) (by kernel_rfl) (trivial) (fun _ cs h => nomatch h) (trivial)
theorem tf100 : TFact Try.prog E tt 100 ⟨.any, .func⟩ := TFact.of (z := .nilFunc) (bs := 8) Try.underlying100 ⟨rfl, _, _, _, rfl⟩ (by kernel_rfl) (by kernel_rfl) (fun h => nomatch h) (by kernel_rfl) (trivial) (fun _ cs h => nomatch h) (trivial)
theorem tf102 : TFact Try.prog E tt 102 ⟨.any, .func⟩ := TFact.of (z := .nilFunc) (bs := 8) Try.underlying102 ⟨rfl, _, _, _, rfl⟩ (by kernel_rfl) (by kernel_rfl) (fun h => nomatch h) (by kernel_rfl) (trivial) (fun _ cs h => nomatch h) (trivial)
theorem tf121 : TFact Try.prog E tt 121 ⟨(.sl (.int .u8)), .slice 5⟩ := TFact.of (z := .slice none 0 0) (bs := 24) Try.underlying121 ⟨rfl, rfl, .inr ⟨by kernel_rfl, by kernel_rfl, by kernel_rfl, of_decide_eq_true (by kernel_rfl), of_decide_eq_true (by kernel_rfl), of_decide_eq_true (by kernel_rfl)⟩⟩ (by kernel_rfl) (by kernel_rfl) (fun h => nomatch h) (by kernel_rfl) (trivial) (fun _ cs h => nomatch h) (trivial)
theorem tf122 : TFact Try.prog E tt 122 ⟨(.sl (.int .i64)), .slice 3⟩ := TFact.of (z := .slice none 0 0) (bs := 24) Try.underlying122 ⟨rfl, rfl, .inr ⟨by kernel_rfl, by kernel_rfl, by kernel_rfl, of_decide_eq_true (by kernel_rfl), of_decide_eq_true (by kernel_rfl), of_decide_eq_true (by kernel_rfl)⟩⟩ (by kernel_rfl) (by kernel_rfl) (fun h => nomatch h) (by kernel_rfl) (trivial) (fun _ cs h => nomatch h) (trivial)
theorem tf137 : TFact Try.prog E tt 137 ⟨.any, .func⟩ := TFact.of (z := .nilFunc) (bs := 8) Try.underlying137 ⟨rfl, _, _, _, rfl⟩ (by kernel_rfl) (by kernel_rfl) (fun h => nomatch h) (by kernel_rfl) (trivial) (fun _ cs h => nomatch h) (trivial)
theorem tok : TOK Try.prog E tt := TOK.of (mem_cons2 tf3 (mem_cons2 tf4 (mem_cons2 tf5 (mem_cons2 tf9 (mem_cons2 tf24 (mem_cons2 tf25 (mem_cons2 tf26 (mem_cons2 tf28 (mem_cons2 tf37 (mem_cons2 tf38 (mem_cons2 tf43 (mem_cons2 tf44 (mem_cons2 tf47 (mem_cons2 tf49 (mem_cons2 tf52 (mem_cons2 tf54 (mem_cons2 tf72 (mem_cons2 tf74 (mem_cons2 tf76 (mem_cons2 tf79 (mem_cons2 tf86 (mem_cons2 tf93 (mem_cons2 tf95 (mem_cons2 tf100 (mem_cons2 tf102 (mem_cons2 tf121 (mem_cons2 tf122 (mem_cons2 tf137 mem_nil2))))))))))))))))))))))))))))
def tlr : List (Nat × TE) := [(3, ⟨(.int .i64), .int .i64⟩),
  (9, ⟨.str, .str⟩),
  (24, ⟨(.sl (.nm 0)), .slice 52⟩),
  (25, ⟨(.sl .str), .slice 9⟩),
  (26, ⟨(.sl (.sl (.nm 1))), .slice 37⟩),
  (28, ⟨(.nm 3), .struct [(9, 0), (24, 1), (25, 2), (26, 3)]⟩),
  (37, ⟨(.sl (.nm 1)), .slice 74⟩),
  (52, ⟨(.nm 0), .struct [(9, 0), (3, 1)]⟩),
  (72, ⟨(.sl (.nm 2)), .slice 76⟩),
  (74, ⟨(.nm 1), .struct [(3, 0), (3, 1), (9, 2), (72, 3)]⟩),
  (76, ⟨(.nm 2), .struct [(9, 0), (74, 1)]⟩)]
def ttr : Nat → Option TE := look2 tlr
theorem tfr3 : TFact Try.prog E ttr 3 ⟨(.int .i64), .int .i64⟩ := TFact.of (z := .int .i64 0) (bs := 8) Try.underlying3 ⟨rfl, rfl, rfl⟩ (by kernel_rfl) (by kernel_rfl) (fun h => nomatch h) (by kernel_rfl) (trivial) (fun _ cs h => nomatch h) (trivial)
theorem tfr9 : TFact Try.prog E ttr 9 ⟨.str, .str⟩ := TFact.of (z := .string ByteArray.empty) (bs := 16) Try.underlying9 ⟨rfl, rfl, rfl⟩ (by kernel_rfl) (by kernel_rfl) (fun h => nomatch h) (by kernel_rfl) (trivial) (fun _ cs h => nomatch h) (trivial)
theorem tfr24 : TFact Try.prog E ttr 24 ⟨(.sl (.nm 0)), .slice 52⟩ := TFact.of (z := .slice none 0 0) (bs := 24) Try.underlying24 ⟨rfl, rfl, .inr ⟨by kernel_rfl, by kernel_rfl, by kernel_rfl, of_decide_eq_true (by kernel_rfl), of_decide_eq_true (by kernel_rfl), of_decide_eq_true (by kernel_rfl)⟩⟩ (by kernel_rfl) (by kernel_rfl) (fun h => nomatch h) (by kernel_rfl) (trivial) (fun _ cs h => nomatch h) (trivial)
theorem tfr25 : TFact Try.prog E ttr 25 ⟨(.sl .str), .slice 9⟩ := TFact.of (z := .slice none 0 0) (bs := 24) Try.underlying25 ⟨rfl, rfl, .inr ⟨by kernel_rfl, by kernel_rfl, by kernel_rfl, of_decide_eq_true (by kernel_rfl), of_decide_eq_true (by kernel_rfl), of_decide_eq_true (by kernel_rfl)⟩⟩ (by kernel_rfl) (by kernel_rfl) (fun h => nomatch h) (by kernel_rfl) (trivial) (fun _ cs h => nomatch h) (trivial)
theorem tfr26 : TFact Try.prog E ttr 26 ⟨(.sl (.sl (.nm 1))), .slice 37⟩ := TFact.of (z := .slice none 0 0) (bs := 24) Try.underlying26 ⟨rfl, rfl, .inr ⟨by kernel_rfl, by kernel_rfl, by kernel_rfl, of_decide_eq_true (by kernel_rfl), of_decide_eq_true (by kernel_rfl), of_decide_eq_true (by kernel_rfl)⟩⟩ (by kernel_rfl) (by kernel_rfl) (fun h => nomatch h) (by kernel_rfl) (trivial) (fun _ cs h => nomatch h) (trivial)
theorem tfr28 : TFact Try.prog E ttr 28 ⟨(.nm 3), .struct [(9, 0), (24, 1), (25, 2), (26, 3)]⟩ := TFact.of (z := .agg #[.string ByteArray.empty, .slice none 0 0, .slice none 0 0, .slice none 0 0]) (bs := 88) Try.underlying28 ⟨by kernel_rfl, ⟨_, rfl, rfl⟩, by kernel_rfl, by kernel_rfl⟩ (by kernel_rfl) (by kernel_rfl) (fun _ => rfl) (by kernel_rfl) (show (Value.cells (.agg #[.string ByteArray.empty, .slice none 0 0, .slice none 0 0, .slice none 0 0])).toList = (List.map (fun f => zA (E := E) (zeroA ttr 20 f.1)) [(9, 0), (24, 1), (25, 2), (26, 3)]).flatten from by kernel_rfl) (fun h => nomatch h) (fun h => absurd (h.symm.trans (show eqC ttr (bodyOf E (.nm 3)) 0 [(9, 0), (24, 1), (25, 2), (26, 3)] = false from by kernel_rfl)) (by decide))
theorem tfr37 : TFact Try.prog E ttr 37 ⟨(.sl (.nm 1)), .slice 74⟩ := TFact.of (z := .slice none 0 0) (bs := 24) Try.underlying37 ⟨rfl, rfl, .inr ⟨by kernel_rfl, by kernel_rfl, by kernel_rfl, of_decide_eq_true (by kernel_rfl), of_decide_eq_true (by kernel_rfl), of_decide_eq_true (by kernel_rfl)⟩⟩ (by kernel_rfl) (by kernel_rfl) (fun h => nomatch h) (by kernel_rfl) (trivial) (fun _ cs h => nomatch h) (trivial)
theorem tfr52 : TFact Try.prog E ttr 52 ⟨(.nm 0), .struct [(9, 0), (3, 1)]⟩ := TFact.of (z := .agg #[.string ByteArray.empty, .int .i64 0]) (bs := 24) Try.underlying52 ⟨by kernel_rfl, ⟨_, rfl, rfl⟩, by kernel_rfl, by kernel_rfl⟩ (by kernel_rfl) (by kernel_rfl) (fun _ => rfl) (by kernel_rfl) (show (Value.cells (.agg #[.string ByteArray.empty, .int .i64 0])).toList = (List.map (fun f => zA (E := E) (zeroA ttr 20 f.1)) [(9, 0), (3, 1)]).flatten from by kernel_rfl) (fun h => nomatch h) (fun _ => ⟨names_of Try.underlying52 (by kernel_rfl), by kernel_rfl, by kernel_rfl⟩)
theorem tfr72 : TFact Try.prog E ttr 72 ⟨(.sl (.nm 2)), .slice 76⟩ := TFact.of (z := .slice none 0 0) (bs := 24) Try.underlying72 ⟨rfl, rfl, .inr ⟨by kernel_rfl, by kernel_rfl, by kernel_rfl, of_decide_eq_true (by kernel_rfl), of_decide_eq_true (by kernel_rfl), of_decide_eq_true (by kernel_rfl)⟩⟩ (by kernel_rfl) (by kernel_rfl) (fun h => nomatch h) (by kernel_rfl) (trivial) (fun _ cs h => nomatch h) (trivial)
theorem tfr74 : TFact Try.prog E ttr 74 ⟨(.nm 1), .struct [(3, 0), (3, 1), (9, 2), (72, 3)]⟩ := TFact.of (z := .agg #[.int .i64 0, .int .i64 0, .string ByteArray.empty, .slice none 0 0]) (bs := 56) Try.underlying74 ⟨by kernel_rfl, ⟨_, rfl, rfl⟩, by kernel_rfl, by kernel_rfl⟩ (by kernel_rfl) (by kernel_rfl) (fun _ => rfl) (by kernel_rfl) (show (Value.cells (.agg #[.int .i64 0, .int .i64 0, .string ByteArray.empty, .slice none 0 0])).toList = (List.map (fun f => zA (E := E) (zeroA ttr 20 f.1)) [(3, 0), (3, 1), (9, 2), (72, 3)]).flatten from by kernel_rfl) (fun h => nomatch h) (fun h => absurd (h.symm.trans (show eqC ttr (bodyOf E (.nm 1)) 0 [(3, 0), (3, 1), (9, 2), (72, 3)] = false from by kernel_rfl)) (by decide))
theorem tfr76 : TFact Try.prog E ttr 76 ⟨(.nm 2), .struct [(9, 0), (74, 1)]⟩ := TFact.of (z := .agg #[.string ByteArray.empty, .int .i64 0, .int .i64 0, .string ByteArray.empty, .slice none 0 0]) (bs := 72) Try.underlying76 ⟨by kernel_rfl, ⟨_, rfl, rfl⟩, by kernel_rfl, by kernel_rfl⟩ (by kernel_rfl) (by kernel_rfl) (fun _ => rfl) (by kernel_rfl) (show (Value.cells (.agg #[.string ByteArray.empty, .int .i64 0, .int .i64 0, .string ByteArray.empty, .slice none 0 0])).toList = (List.map (fun f => zA (E := E) (zeroA ttr 20 f.1)) [(9, 0), (74, 1)]).flatten from by kernel_rfl) (fun h => nomatch h) (fun h => absurd (h.symm.trans (show eqC ttr (bodyOf E (.nm 2)) 0 [(9, 0), (74, 1)] = false from by kernel_rfl)) (by decide))
theorem tokr : TOK Try.prog E ttr := TOK.of (mem_cons2 tfr3 (mem_cons2 tfr9 (mem_cons2 tfr24 (mem_cons2 tfr25 (mem_cons2 tfr26 (mem_cons2 tfr28 (mem_cons2 tfr37 (mem_cons2 tfr52 (mem_cons2 tfr72 (mem_cons2 tfr74 (mem_cons2 tfr76 mem_nil2)))))))))))
theorem rdok : RdOK Try.prog E ttr := RdOK.of (by kernel_rfl)
theorem law_sub : ∀ t ∈ ([28, 37] : List Nat), ttr t = tt t := by
  intro t ht
  simp only [List.mem_cons, List.not_mem_nil, or_false] at ht
  rcases ht with rfl | rfl
  · kernel_rfl
  · kernel_rfl
theorem hmix : Try.prog.follows .mixedOrders = true := by kernel_rfl
def hKeep (f b : Nat) : List (Nat × Nat) := bif Nat.beq f 9 then (bif Nat.beq b 0 then [(2, 0), (3, 0), (38, 0), (39, 0)] else []) else bif Nat.beq f 13 then (bif Nat.beq b 0 then [(1, 0), (2, 0), (3, 1), (8, 0), (9, 0), (10, 0)] else bif Nat.beq b 2 then [(1, 0), (2, 0), (3, 1), (5, 0), (6, 0), (8, 0), (9, 0), (10, 0)] else []) else bif Nat.beq f 15 then (bif Nat.beq b 0 then [(1, 0), (2, 0), (4, 0), (24, 0), (25, 0), (26, 0)] else bif Nat.beq b 2 then [(1, 0), (2, 0), (4, 0), (6, 0), (9, 0), (51, 0), (52, 0), (53, 0)] else []) else bif Nat.beq f 17 then (bif Nat.beq b 0 then [(1, 0), (21, 0), (22, 0), (23, 0)] else bif Nat.beq b 2 then [(1, 0), (7, 1), (53, 0), (54, 0), (55, 0)] else bif Nat.beq b 4 then [(7, 1), (69, 0), (70, 0)] else []) else bif Nat.beq f 18 then (bif Nat.beq b 0 then [(0, 0), (1, 0), (7, 0), (8, 0)] else []) else bif Nat.beq f 21 then (bif Nat.beq b 0 then [(0, 0), (3, 0), (9, 0), (10, 0), (11, 0)] else bif Nat.beq b 2 then [(6, 1), (25, 0), (26, 0), (27, 0)] else []) else bif Nat.beq f 22 then (bif Nat.beq b 0 then [(2, 0), (3, 0), (8, 0), (9, 0), (10, 0)] else []) else bif Nat.beq f 23 then (bif Nat.beq b 0 then [(1, 0), (21, 0), (22, 0), (23, 0)] else bif Nat.beq b 2 then [(1, 0), (53, 0), (54, 0), (55, 0)] else bif Nat.beq b 4 then [(1, 0), (8, 0), (53, 0), (54, 0), (55, 0), (63, 0), (64, 0), (65, 0)] else []) else bif Nat.beq f 24 then (bif Nat.beq b 0 then [(0, 0), (1, 0), (12, 0), (13, 0)] else []) else bif Nat.beq f 25 then (bif Nat.beq b 0 then [(0, 0), (1, 0), (12, 0), (13, 0)] else []) else bif Nat.beq f 28 then (bif Nat.beq b 0 then [(0, 0), (1, 0), (11, 0), (12, 0)] else []) else bif Nat.beq f 31 then (bif Nat.beq b 0 then [(3, 1), (8, 0), (9, 0), (10, 0)] else bif Nat.beq b 2 then [(3, 1), (5, 0), (6, 1), (8, 0), (9, 0), (10, 0), (18, 0), (19, 0)] else []) else bif Nat.beq f 36 then (bif Nat.beq b 0 then [(2, 0), (14, 0), (15, 0), (16, 0)] else []) else bif Nat.beq f 37 then (bif Nat.beq b 0 then [(0, 0), (1, 0), (2, 0), (8, 0), (9, 0), (10, 0)] else []) else bif Nat.beq f 41 then (bif Nat.beq b 0 then [(1, 0), (2, 0), (14, 0), (15, 0)] else []) else bif Nat.beq f 43 then (bif Nat.beq b 0 then [(1, 0), (2, 0), (5, 1), (9, 0), (10, 0), (11, 0)] else []) else bif Nat.beq f 45 then (bif Nat.beq b 0 then [(1, 0), (3, 0), (4, 0), (24, 0), (25, 0), (26, 0)] else bif Nat.beq b 3 then [(3, 0), (4, 0), (54, 0), (55, 0), (56, 0)] else []) else bif Nat.beq f 46 then (bif Nat.beq b 0 then [(2, 0), (3, 0), (7, 0), (8, 0), (9, 0)] else []) else bif Nat.beq f 50 then (bif Nat.beq b 1 then [(1, 0), (25, 0), (26, 0), (27, 0)] else bif Nat.beq b 4 then [(1, 0), (51, 0), (52, 0), (53, 0)] else []) else bif Nat.beq f 52 then (bif Nat.beq b 0 then [(1, 0), (2, 0), (10, 0), (11, 0)] else []) else bif Nat.beq f 62 then (bif Nat.beq b 0 then [(1, 0), (8, 0), (9, 0), (10, 0)] else []) else bif Nat.beq f 63 then (bif Nat.beq b 0 then [(23, 0), (24, 0), (25, 0)] else []) else bif Nat.beq f 65 then (bif Nat.beq b 0 then [(3, 0), (6, 0), (7, 0), (8, 0)] else []) else bif Nat.beq f 67 then (bif Nat.beq b 0 then [(0, 0), (1, 0), (2, 0), (11, 0), (12, 0), (13, 0)] else []) else bif Nat.beq f 86 then (bif Nat.beq b 0 then [(3, 0), (7, 0), (8, 0), (9, 0)] else []) else bif Nat.beq f 87 then (bif Nat.beq b 0 then [(3, 0), (7, 0), (8, 0), (9, 0)] else []) else bif Nat.beq f 88 then (bif Nat.beq b 1 then [(46, 0), (47, 0), (48, 0)] else []) else bif Nat.beq f 89 then (bif Nat.beq b 0 then [(0, 0), (1, 0), (7, 0), (8, 0)] else []) else bif Nat.beq f 90 then (bif Nat.beq b 0 then [(0, 0), (1, 0), (7, 0), (8, 0)] else []) else bif Nat.beq f 93 then (bif Nat.beq b 0 then [(0, 0), (1, 0), (7, 0), (8, 0)] else []) else bif Nat.beq f 106 then (bif Nat.beq b 0 then [(0, 0), (5, 0), (6, 0), (7, 0)] else []) else bif Nat.beq f 107 then (bif Nat.beq b 0 then [(1, 0), (6, 0), (7, 0), (8, 0)] else []) else bif Nat.beq f 110 then (bif Nat.beq b 0 then [(0, 0), (1, 0), (7, 0), (8, 0)] else []) else []
def hKeepB (f b : Nat) : List Nat := bif Nat.beq f 9 then (bif Nat.beq b 0 then [2, 3] else []) else bif Nat.beq f 13 then (bif Nat.beq b 0 then [1, 2] else bif Nat.beq b 2 then [1, 2] else []) else bif Nat.beq f 15 then (bif Nat.beq b 0 then [2, 4] else bif Nat.beq b 2 then [2, 4, 9] else []) else bif Nat.beq f 17 then (bif Nat.beq b 0 then [1] else bif Nat.beq b 2 then [1] else []) else bif Nat.beq f 22 then (bif Nat.beq b 0 then [2, 3, 107] else []) else bif Nat.beq f 23 then (bif Nat.beq b 0 then [1] else bif Nat.beq b 2 then [1] else bif Nat.beq b 4 then [1] else []) else bif Nat.beq f 36 then (bif Nat.beq b 0 then [2] else []) else bif Nat.beq f 41 then (bif Nat.beq b 0 then [2] else []) else bif Nat.beq f 43 then (bif Nat.beq b 0 then [2] else []) else bif Nat.beq f 45 then (bif Nat.beq b 0 then [1, 21, 22] else bif Nat.beq b 3 then [21, 22] else []) else bif Nat.beq f 46 then (bif Nat.beq b 0 then [2, 3, 87] else []) else bif Nat.beq f 50 then (bif Nat.beq b 1 then [1] else bif Nat.beq b 4 then [1] else []) else bif Nat.beq f 52 then (bif Nat.beq b 0 then [1, 2, 6] else []) else bif Nat.beq f 107 then (bif Nat.beq b 0 then [1] else []) else []
def hRsh (f : Nat) : RSh := bif Nat.beq f 4 then (.t .bool) else bif Nat.beq f 8 then (.t .bool) else bif Nat.beq f 9 then (.t .bool) else bif Nat.beq f 11 then (.ag [.str, (.sl (.nm 0)), (.sl .str)] (.sl (.nm 1))) else bif Nat.beq f 13 then (.t (.nm 3)) else bif Nat.beq f 14 then (.tup [(.t (.nm 3)), (.t (.int .i64))]) else bif Nat.beq f 15 then (.tup [(.t (.nm 3)), (.t (.int .i64))]) else bif Nat.beq f 16 then (.tup [(.t (.nm 3)), (.t (.int .i64))]) else bif Nat.beq f 17 then (.t (.int .i64)) else bif Nat.beq f 18 then (.t (.int .i64)) else bif Nat.beq f 19 then (.t .bool) else bif Nat.beq f 20 then (.t (.int .i64)) else bif Nat.beq f 21 then (.t (.sl (.sl (.nm 1)))) else bif Nat.beq f 22 then (.t (.nm 4)) else bif Nat.beq f 23 then (.t (.int .i64)) else bif Nat.beq f 24 then (.t .bool) else bif Nat.beq f 25 then (.t .bool) else bif Nat.beq f 28 then (.t (.int .i64)) else bif Nat.beq f 29 then (.own (.nm 0)) else bif Nat.beq f 30 then (.own .str) else bif Nat.beq f 31 then (.ownrow (.sl (.nm 1))) else bif Nat.beq f 32 then .unit else bif Nat.beq f 35 then (.ownrow (.sl (.nm 1))) else bif Nat.beq f 36 then (.t (.int .i64)) else bif Nat.beq f 37 then (.tup [(.t (.int .i64)), (.t .bool)]) else bif Nat.beq f 38 then (.t .bool) else bif Nat.beq f 39 then (.t .bool) else bif Nat.beq f 40 then (.t .bool) else bif Nat.beq f 41 then (.t (.int .i64)) else bif Nat.beq f 42 then (.ownrow (.sl (.nm 1))) else bif Nat.beq f 43 then (.t (.sl (.nm 1))) else bif Nat.beq f 44 then (.inrow 0 (.sl (.nm 1))) else bif Nat.beq f 45 then (.t (.int .i64)) else bif Nat.beq f 46 then (.t (.nm 1)) else bif Nat.beq f 47 then (.t (.int .i64)) else bif Nat.beq f 48 then (.own (.sl (.nm 1))) else bif Nat.beq f 49 then (.t (.nm 4)) else bif Nat.beq f 50 then (.t (.int .i64)) else bif Nat.beq f 51 then (.t (.int .i64)) else bif Nat.beq f 52 then (.t (.nm 1)) else bif Nat.beq f 57 then (.t (.int .i64)) else bif Nat.beq f 58 then (.t .bool) else bif Nat.beq f 59 then (.t .bool) else bif Nat.beq f 60 then (.tup [(.t (.int .i64)), (.t .bool)]) else bif Nat.beq f 61 then (.t .bool) else bif Nat.beq f 62 then (.t (.int .i64)) else bif Nat.beq f 63 then (.t .bool) else bif Nat.beq f 64 then (.t (.int .i64)) else bif Nat.beq f 65 then (.t (.int .i64)) else bif Nat.beq f 66 then (.t (.int .i64)) else bif Nat.beq f 67 then (.t (.int .i64)) else bif Nat.beq f 68 then (.t (.int .i64)) else bif Nat.beq f 69 then (.t .bool) else bif Nat.beq f 70 then (.t .bool) else bif Nat.beq f 71 then (.t .bool) else bif Nat.beq f 72 then (.t .bool) else bif Nat.beq f 73 then (.t .bool) else bif Nat.beq f 74 then (.ownrow (.nm 2)) else bif Nat.beq f 86 then (.t (.int .i64)) else bif Nat.beq f 87 then (.t (.int .i64)) else bif Nat.beq f 88 then (.t (.int .i64)) else bif Nat.beq f 89 then (.t (.int .i64)) else bif Nat.beq f 90 then (.t (.int .i64)) else bif Nat.beq f 91 then (.t .bool) else bif Nat.beq f 93 then (.t (.int .i64)) else bif Nat.beq f 100 then (.t .bool) else bif Nat.beq f 101 then (.t .bool) else bif Nat.beq f 102 then (.t (.int .i64)) else bif Nat.beq f 105 then (.t .bool) else bif Nat.beq f 106 then (.t (.int .i64)) else bif Nat.beq f 107 then (.t (.int .i64)) else bif Nat.beq f 108 then (.t .bool) else bif Nat.beq f 109 then (.t .bool) else bif Nat.beq f 110 then (.t (.int .i64)) else .asis
def hCons (f : Nat) : List Nat := []
def hRow (f : Nat) : List Nat := bif Nat.beq f 13 then [3] else bif Nat.beq f 17 then [7] else bif Nat.beq f 31 then [2, 3, 16] else bif Nat.beq f 42 then [2, 5] else bif Nat.beq f 74 then [2, 5] else []
def hSet (f d : Nat) : List (Nat × Nat) := bif Nat.beq f 22 then (bif Nat.beq d 6 then [(5, 107)] else []) else bif Nat.beq f 46 then (bif Nat.beq d 6 then [(3, 87)] else []) else []
def hPre (f d : Nat) : Nat := bif Nat.beq f 13 then (bif Nat.beq d 1002 then 1 else 0) else bif Nat.beq f 14 then (bif Nat.beq d 1004 then 1 else 0) else bif Nat.beq f 15 then (bif Nat.beq d 45 then 1 else 0) else bif Nat.beq f 16 then (bif Nat.beq d 1004 then 2 else 0) else bif Nat.beq f 31 then (bif Nat.beq d 33 then 2 else 0) else bif Nat.beq f 52 then (bif Nat.beq d 1002 then 2 else 0) else 0
def hPreT (f d : Nat) : List (Nat × Nat) := []
def hLend (f : Nat) : List (Nat × Nat) := bif Nat.beq f 9 then [(0, 1), (1, 1)] else bif Nat.beq f 38 then [(0, 1), (1, 1)] else []
def H : Hints := { keep := hKeep, keepB := hKeepB, rsh := hRsh, cons := hCons, asagg := hSet, asrow := hRow, mutcap := [39], pre := hPre, preT := hPreT, lend := hLend }
def gl : Nat → AV E := fun _ => .undef

def C0 (_ : Nat) : Call2 E := fun _ _ _ => none

/- clapperbridge/value.Name -/
noncomputable def value_Name (n : Nat) (x0 : List UInt8) : Option Bool := F2 (E := E) tt gl H (C0 n) n 63 Try.f63 [.t .str] (x0, ())
noncomputable def value_Name_l0 (n : Nat) (m0 : Nat) (v23 : List Int) (v24 : Int) (v25 : Int) : Option Bool := lp (E := E) (ps := [.t .str]) tt gl H (C0 n) n 63 Try.f63 [1, 1, 0, 1, 0] [] m0 ⟨mkT 49 0 [(23, .t (.sl (.int .u8)) v23), (24, .t (.int .i64) v24), (25, .t (.int .i64) v25)], mkB 196 0 []⟩
theorem value_Name_l0_eq (n : Nat) (m0 : Nat) (v23 : List Int) (v24 : Int) (v25 : Int) : value_Name_l0 n (m0 + 1) v23 v24 v25 = (bif (decide (v25 < v24)) then (bif (decide (0 ≤ v25) && decide (v25 < List.length v23)) then (bif (decide ((List.getD v23 (Int.toNat v25) (0 : Int)) ≥ 97)) then (bif (decide ((List.getD v23 (Int.toNat v25) (0 : Int)) ≤ 122)) then (value_Name_l0 n m0 v23 v24 (IntKind.wrap .i64 (v25 + 1))) else (bif (decide ((List.getD v23 (Int.toNat v25) (0 : Int)) ≥ 48)) then (bif (decide ((List.getD v23 (Int.toNat v25) (0 : Int)) ≤ 57)) then (value_Name_l0 n m0 v23 v24 (IntKind.wrap .i64 (v25 + 1))) else (bif (!(decide ((List.getD v23 (Int.toNat v25) (0 : Int)) = 45))) then (some false) else (value_Name_l0 n m0 v23 v24 (IntKind.wrap .i64 (v25 + 1))))) else (bif (!(decide ((List.getD v23 (Int.toNat v25) (0 : Int)) = 45))) then (some false) else (value_Name_l0 n m0 v23 v24 (IntKind.wrap .i64 (v25 + 1)))))) else (bif (decide ((List.getD v23 (Int.toNat v25) (0 : Int)) ≥ 48)) then (bif (decide ((List.getD v23 (Int.toNat v25) (0 : Int)) ≤ 57)) then (value_Name_l0 n m0 v23 v24 (IntKind.wrap .i64 (v25 + 1))) else (bif (!(decide ((List.getD v23 (Int.toNat v25) (0 : Int)) = 45))) then (some false) else (value_Name_l0 n m0 v23 v24 (IntKind.wrap .i64 (v25 + 1))))) else (bif (!(decide ((List.getD v23 (Int.toNat v25) (0 : Int)) = 45))) then (some false) else (value_Name_l0 n m0 v23 v24 (IntKind.wrap .i64 (v25 + 1)))))) else none) else (some true)) := by kernel_rfl
theorem value_Name_l0_zero (n : Nat) (v23 : List Int) (v24 : Int) (v25 : Int) : value_Name_l0 n 0 v23 v24 v25 = none := by kernel_rfl
theorem value_Name_l0_fold (n : Nat) (v23 : List Int) (hl : List.length v23 < 9223372036854775807) (m i : Nat) (hi : i ≤ List.length v23) (hm : List.length v23 - i < m) : value_Name_l0 n m v23 (List.length v23 : Int) (i : Int) = foldK (S := Unit) (fun i (a : Int) s K => (bif (decide (a ≥ 97)) then (bif (decide (a ≤ 122)) then (K ()) else (bif (decide (a ≥ 48)) then (bif (decide (a ≤ 57)) then (K ()) else (bif (!(decide (a = 45))) then (some false) else (K ()))) else (bif (!(decide (a = 45))) then (some false) else (K ())))) else (bif (decide (a ≥ 48)) then (bif (decide (a ≤ 57)) then (K ()) else (bif (!(decide (a = 45))) then (some false) else (K ()))) else (bif (!(decide (a = 45))) then (some false) else (K ()))))) (fun s => (some true)) (List.drop i v23) i () := range_loop v23 (0 : Int) hl (fun m (k : Int) (s : Unit) => value_Name_l0 n m v23 (List.length v23 : Int) k) _ _ (fun m i s => (value_Name_l0_eq n m v23 (List.length v23 : Int) (i : Int)).trans (by kernel_rfl)) m i hi hm ()
theorem value_Name_eq (n : Nat) (x0 : List UInt8) : value_Name n x0 = (bif (x0 == []) then (some false) else (bif (decide ((List.length x0 : Int) > 16)) then (some false) else (bif (decide (0 ≤ (0 : Int)) && decide ((0 : Int) < List.length x0)) then (bif (decide (((UInt8.toNat (List.getD x0 (Int.toNat (0 : Int)) 0) : Nat) : Int) < 97)) then (some false) else (bif (decide (0 ≤ (0 : Int)) && decide ((0 : Int) < List.length x0)) then (bif (decide (((UInt8.toNat (List.getD x0 (Int.toNat (0 : Int)) 0) : Nat) : Int) > 122)) then (some false) else (value_Name_l0 n n (ints x0) (List.length (ints x0) : Int) 0)) else none)) else none))) := by kernel_rfl
noncomputable def C1 (n : Nat) : Call2 E := more tt gl H (C0 n) n 63 Try.f63 [.t .str] (C0 n)

/- clapperbridge/rel.head$1 -/
noncomputable def rel_head_1 (n : Nat) (x0 : Col) (x1 : Col) : Option Bool := F2 (E := E) tt gl H (C1 n) n 70 Try.f70 [.t (.nm 0), .imm (.nm 0)] (x0, x1, ())
theorem rel_head_1_eq (n : Nat) (x0 : Col) (x1 : Col) : rel_head_1 n x0 x1 = (some (x0.Name == x1.Name)) := by kernel_rfl
noncomputable def C2 (n : Nat) : Call2 E := more tt gl H (C1 n) n 70 Try.f70 [.t (.nm 0), .imm (.nm 0)] (C1 n)

/- slices.IndexFunc[[]clapperbridge/api.Col,clapperbridge/api.Col] -/
noncomputable def slices_IndexFunc_Col_by_rel_head_1 (n : Nat) (x0 : List Col) (x1 : (Col × Unit)) : Option Int := F2 (E := E) tt gl H (C2 n) n 90 Try.f90 [.t (.sl (.nm 0)), .fn 70 [(.nm 0)]] (x0, x1, ())
noncomputable def slices_IndexFunc_Col_by_rel_head_1_l0 (n : Nat) (m0 : Nat) (v0 : List Col) (v1c0 : Col) (v7 : Int) (v8 : Int) : Option Int := lp (E := E) (ps := [.t (.sl (.nm 0)), .fn 70 [(.nm 0)]]) tt gl H (C2 n) n 90 Try.f90 [1, 0, 1, 0] [] m0 ⟨mkT 19 0 [(0, .t (.sl (.nm 0)) v0), (1, .func 70 [⟨(.nm 0), v1c0⟩]), (7, .t (.int .i64) v7), (8, .t (.int .i64) v8)], mkB 76 0 []⟩
theorem slices_IndexFunc_Col_by_rel_head_1_l0_eq (n : Nat) (m0 : Nat) (v0 : List Col) (v1c0 : Col) (v7 : Int) (v8 : Int) : slices_IndexFunc_Col_by_rel_head_1_l0 n (m0 + 1) v0 v1c0 v7 v8 = (bif (decide (v8 < v7)) then (bif (decide (0 ≤ v8) && decide (v8 < List.length v0)) then (Option.bind (rel_head_1 n (List.getD v0 (Int.toNat v8) (Col.mk [] 0)) v1c0) fun r1 => (bif r1 then (some v8) else (slices_IndexFunc_Col_by_rel_head_1_l0 n m0 v0 v1c0 v7 (IntKind.wrap .i64 (v8 + 1))))) else none) else (some (-1))) := by kernel_rfl
theorem slices_IndexFunc_Col_by_rel_head_1_l0_zero (n : Nat) (v0 : List Col) (v1c0 : Col) (v7 : Int) (v8 : Int) : slices_IndexFunc_Col_by_rel_head_1_l0 n 0 v0 v1c0 v7 v8 = none := by kernel_rfl
theorem slices_IndexFunc_Col_by_rel_head_1_l0_fold (n : Nat) (v0 : List Col) (v1c0 : Col) (hl : List.length v0 < 9223372036854775807) (m i : Nat) (hi : i ≤ List.length v0) (hm : List.length v0 - i < m) : slices_IndexFunc_Col_by_rel_head_1_l0 n m v0 v1c0 (List.length v0 : Int) (i : Int) = foldK (S := Unit) (fun i (a : Col) s K => (Option.bind (rel_head_1 n a v1c0) fun r1 => (bif r1 then (some (i : Int)) else (K ())))) (fun s => (some (-1))) (List.drop i v0) i () := range_loop v0 (Col.mk [] 0) hl (fun m (k : Int) (s : Unit) => slices_IndexFunc_Col_by_rel_head_1_l0 n m v0 v1c0 (List.length v0 : Int) k) _ _ (fun m i s => (slices_IndexFunc_Col_by_rel_head_1_l0_eq n m v0 v1c0 (List.length v0 : Int) (i : Int)).trans (by kernel_rfl)) m i hi hm ()
theorem slices_IndexFunc_Col_by_rel_head_1_eq (n : Nat) (x0 : List Col) (x1 : (Col × Unit)) : slices_IndexFunc_Col_by_rel_head_1 n x0 x1 = (slices_IndexFunc_Col_by_rel_head_1_l0 n n x0 x1.1 (List.length x0 : Int) 0) := by kernel_rfl
noncomputable def C3 (n : Nat) : Call2 E := more tt gl H (C2 n) n 90 Try.f90 [.t (.sl (.nm 0)), .fn 70 [(.nm 0)]] (C2 n)

/- slices.ContainsFunc[[]clapperbridge/api.Col,clapperbridge/api.Col] -/
noncomputable def slices_ContainsFunc_Col_by_rel_head_1 (n : Nat) (x0 : List Col) (x1 : (Col × Unit)) : Option Bool := F2 (E := E) tt gl H (C3 n) n 69 Try.f69 [.t (.sl (.nm 0)), .fn 70 [(.nm 0)]] (x0, x1, ())
theorem slices_ContainsFunc_Col_by_rel_head_1_eq (n : Nat) (x0 : List Col) (x1 : (Col × Unit)) : slices_ContainsFunc_Col_by_rel_head_1 n x0 x1 = (Option.bind (slices_IndexFunc_Col_by_rel_head_1 n x0 (x1.1, ())) fun r1 => (some (decide (r1 ≥ 0)))) := by kernel_rfl
noncomputable def C4 (n : Nat) : Call2 E := more tt gl H (C3 n) n 69 Try.f69 [.t (.sl (.nm 0)), .fn 70 [(.nm 0)]] (C3 n)

/- clapperbridge/rel.Column -/
noncomputable def rel_Column (n : Nat) (x0 : Int) : Option Bool := F2 (E := E) tt gl H (C4 n) n 71 Try.f71 [.t (.int .i64)] (x0, ())
theorem rel_Column_eq (n : Nat) (x0 : Int) : rel_Column n x0 = (bif (decide (x0 ≥ 1)) then (some (decide (x0 ≤ 5))) else (some false)) := by kernel_rfl
noncomputable def C5 (n : Nat) : Call2 E := more tt gl H (C4 n) n 71 Try.f71 [.t (.int .i64)] (C4 n)

/- clapperbridge/rel.Col$1 -/
noncomputable def rel_Col_1 (n : Nat) (x0 : Col) (x1 : List UInt8) : Option Bool := F2 (E := E) tt gl H (C5 n) n 91 Try.f91 [.t (.nm 0), .imm .str] (x0, x1, ())
theorem rel_Col_1_eq (n : Nat) (x0 : Col) (x1 : List UInt8) : rel_Col_1 n x0 x1 = (some (x0.Name == x1)) := by kernel_rfl
noncomputable def C6 (n : Nat) : Call2 E := more tt gl H (C5 n) n 91 Try.f91 [.t (.nm 0), .imm .str] (C5 n)

/- slices.IndexFunc[[]clapperbridge/api.Col,clapperbridge/api.Col] -/
noncomputable def slices_IndexFunc_Col_by_rel_Col_1 (n : Nat) (x0 : List Col) (x1 : ((List UInt8) × Unit)) : Option Int := F2 (E := E) tt gl H (C6 n) n 90 Try.f90 [.t (.sl (.nm 0)), .fn 91 [.str]] (x0, x1, ())
noncomputable def slices_IndexFunc_Col_by_rel_Col_1_l0 (n : Nat) (m0 : Nat) (v0 : List Col) (v1c0 : List UInt8) (v7 : Int) (v8 : Int) : Option Int := lp (E := E) (ps := [.t (.sl (.nm 0)), .fn 91 [.str]]) tt gl H (C6 n) n 90 Try.f90 [1, 0, 1, 0] [] m0 ⟨mkT 19 0 [(0, .t (.sl (.nm 0)) v0), (1, .func 91 [⟨.str, v1c0⟩]), (7, .t (.int .i64) v7), (8, .t (.int .i64) v8)], mkB 76 0 []⟩
theorem slices_IndexFunc_Col_by_rel_Col_1_l0_eq (n : Nat) (m0 : Nat) (v0 : List Col) (v1c0 : List UInt8) (v7 : Int) (v8 : Int) : slices_IndexFunc_Col_by_rel_Col_1_l0 n (m0 + 1) v0 v1c0 v7 v8 = (bif (decide (v8 < v7)) then (bif (decide (0 ≤ v8) && decide (v8 < List.length v0)) then (Option.bind (rel_Col_1 n (List.getD v0 (Int.toNat v8) (Col.mk [] 0)) v1c0) fun r1 => (bif r1 then (some v8) else (slices_IndexFunc_Col_by_rel_Col_1_l0 n m0 v0 v1c0 v7 (IntKind.wrap .i64 (v8 + 1))))) else none) else (some (-1))) := by kernel_rfl
theorem slices_IndexFunc_Col_by_rel_Col_1_l0_zero (n : Nat) (v0 : List Col) (v1c0 : List UInt8) (v7 : Int) (v8 : Int) : slices_IndexFunc_Col_by_rel_Col_1_l0 n 0 v0 v1c0 v7 v8 = none := by kernel_rfl
theorem slices_IndexFunc_Col_by_rel_Col_1_l0_fold (n : Nat) (v0 : List Col) (v1c0 : List UInt8) (hl : List.length v0 < 9223372036854775807) (m i : Nat) (hi : i ≤ List.length v0) (hm : List.length v0 - i < m) : slices_IndexFunc_Col_by_rel_Col_1_l0 n m v0 v1c0 (List.length v0 : Int) (i : Int) = foldK (S := Unit) (fun i (a : Col) s K => (Option.bind (rel_Col_1 n a v1c0) fun r1 => (bif r1 then (some (i : Int)) else (K ())))) (fun s => (some (-1))) (List.drop i v0) i () := range_loop v0 (Col.mk [] 0) hl (fun m (k : Int) (s : Unit) => slices_IndexFunc_Col_by_rel_Col_1_l0 n m v0 v1c0 (List.length v0 : Int) k) _ _ (fun m i s => (slices_IndexFunc_Col_by_rel_Col_1_l0_eq n m v0 v1c0 (List.length v0 : Int) (i : Int)).trans (by kernel_rfl)) m i hi hm ()
theorem slices_IndexFunc_Col_by_rel_Col_1_eq (n : Nat) (x0 : List Col) (x1 : ((List UInt8) × Unit)) : slices_IndexFunc_Col_by_rel_Col_1 n x0 x1 = (slices_IndexFunc_Col_by_rel_Col_1_l0 n n x0 x1.1 (List.length x0 : Int) 0) := by kernel_rfl
noncomputable def C7 (n : Nat) : Call2 E := more tt gl H (C6 n) n 90 Try.f90 [.t (.sl (.nm 0)), .fn 91 [.str]] (C6 n)

/- clapperbridge/rel.Col -/
noncomputable def rel_Col (n : Nat) (x0 : Rel) (x1 : List UInt8) : Option (Int × Bool) := F2 (E := E) tt gl H (C7 n) n 60 Try.f60 [.t (.nm 3), .t .str] (x0, x1, ())
theorem rel_Col_eq (n : Nat) (x0 : Rel) (x1 : List UInt8) : rel_Col n x0 x1 = (Option.bind (slices_IndexFunc_Col_by_rel_Col_1 n x0.Cols (x1, ())) fun r1 => (some ((mxI (0 : Int) r1), (decide (r1 ≥ 0))))) := by kernel_rfl
noncomputable def C8 (n : Nat) : Call2 E := more tt gl H (C7 n) n 60 Try.f60 [.t (.nm 3), .t .str] (C7 n)

/- slices.Index[[]string,string] -/
noncomputable def slices_Index_string (n : Nat) (x0 : List (List UInt8)) (x1 : List UInt8) : Option Int := F2 (E := E) tt gl H (C8 n) n 93 Try.f93 [.t (.sl .str), .t .str] (x0, x1, ())
noncomputable def slices_Index_string_l0 (n : Nat) (m0 : Nat) (v0 : List (List UInt8)) (v1 : List UInt8) (v7 : Int) (v8 : Int) : Option Int := lp (E := E) (ps := [.t (.sl .str), .t .str]) tt gl H (C8 n) n 93 Try.f93 [1, 0, 1, 0] [] m0 ⟨mkT 19 0 [(0, .t (.sl .str) v0), (1, .t .str v1), (7, .t (.int .i64) v7), (8, .t (.int .i64) v8)], mkB 76 0 []⟩
theorem slices_Index_string_l0_eq (n : Nat) (m0 : Nat) (v0 : List (List UInt8)) (v1 : List UInt8) (v7 : Int) (v8 : Int) : slices_Index_string_l0 n (m0 + 1) v0 v1 v7 v8 = (bif (decide (v8 < v7)) then (bif (decide (0 ≤ v8) && decide (v8 < List.length v0)) then (bif (v1 == (List.getD v0 (Int.toNat v8) [])) then (some v8) else (slices_Index_string_l0 n m0 v0 v1 v7 (IntKind.wrap .i64 (v8 + 1)))) else none) else (some (-1))) := by kernel_rfl
theorem slices_Index_string_l0_zero (n : Nat) (v0 : List (List UInt8)) (v1 : List UInt8) (v7 : Int) (v8 : Int) : slices_Index_string_l0 n 0 v0 v1 v7 v8 = none := by kernel_rfl
theorem slices_Index_string_l0_fold (n : Nat) (v0 : List (List UInt8)) (v1 : List UInt8) (hl : List.length v0 < 9223372036854775807) (m i : Nat) (hi : i ≤ List.length v0) (hm : List.length v0 - i < m) : slices_Index_string_l0 n m v0 v1 (List.length v0 : Int) (i : Int) = foldK (S := Unit) (fun i (a : (List UInt8)) s K => (bif (v1 == a) then (some (i : Int)) else (K ()))) (fun s => (some (-1))) (List.drop i v0) i () := range_loop v0 [] hl (fun m (k : Int) (s : Unit) => slices_Index_string_l0 n m v0 v1 (List.length v0 : Int) k) _ _ (fun m i s => (slices_Index_string_l0_eq n m v0 v1 (List.length v0 : Int) (i : Int)).trans (by kernel_rfl)) m i hi hm ()
theorem slices_Index_string_eq (n : Nat) (x0 : List (List UInt8)) (x1 : List UInt8) : slices_Index_string n x0 x1 = (slices_Index_string_l0 n n x0 x1 (List.length x0 : Int) 0) := by kernel_rfl
noncomputable def C9 (n : Nat) : Call2 E := more tt gl H (C8 n) n 93 Try.f93 [.t (.sl .str), .t .str] (C8 n)

/- slices.Contains[[]string,string] -/
noncomputable def slices_Contains_string (n : Nat) (x0 : List (List UInt8)) (x1 : List UInt8) : Option Bool := F2 (E := E) tt gl H (C9 n) n 72 Try.f72 [.t (.sl .str), .t .str] (x0, x1, ())
theorem slices_Contains_string_eq (n : Nat) (x0 : List (List UInt8)) (x1 : List UInt8) : slices_Contains_string n x0 x1 = (Option.bind (slices_Index_string n x0 x1) fun r1 => (some (decide (r1 ≥ 0)))) := by kernel_rfl
noncomputable def C10 (n : Nat) : Call2 E := more tt gl H (C9 n) n 72 Try.f72 [.t (.sl .str), .t .str] (C9 n)

/- clapperbridge/rel.head -/
noncomputable def rel_head (n : Nat) (x0 : Rel) : Option Int := F2 (E := E) tt gl H (C10 n) n 50 Try.f50 [.t (.nm 3)] (x0, ())
noncomputable def rel_head_l1 (n : Nat) (m0 : Nat) (v25 : List Col) (v26 : Int) (v27 : Int) (w1 : Rel) : Option Int := lp (E := E) (ps := [.t (.nm 3)]) tt gl H (C10 n) n 50 Try.f50 [1, 1, 0, 1, 0] [] m0 ⟨mkT 73 0 [(1, .ptr 1 (.nm 3) []), (25, .t (.sl (.nm 0)) v25), (26, .t (.int .i64) v26), (27, .t (.int .i64) v27)], mkB 292 0 [(1, .var (.nm 3) (.t (.nm 3) w1))]⟩
noncomputable def rel_head_l4 (n : Nat) (m0 : Nat) (v51 : List (List UInt8)) (v52 : Int) (v53 : Int) (w1 : Rel) : Option Int := lp (E := E) (ps := [.t (.nm 3)]) tt gl H (C10 n) n 50 Try.f50 [1, 1, 1, 0, 1, 0] [] m0 ⟨mkT 73 0 [(1, .ptr 1 (.nm 3) []), (51, .t (.sl .str) v51), (52, .t (.int .i64) v52), (53, .t (.int .i64) v53)], mkB 292 0 [(1, .var (.nm 3) (.t (.nm 3) w1))]⟩
theorem rel_head_l4_eq (n : Nat) (m0 : Nat) (v51 : List (List UInt8)) (v52 : Int) (v53 : Int) (w1 : Rel) : rel_head_l4 n (m0 + 1) v51 v52 v53 w1 = (bif (decide (v53 < v52)) then (bif (decide (0 ≤ v53) && decide (v53 < List.length v51)) then (Option.bind (rel_Col n w1 (List.getD v51 (Int.toNat v53) [])) fun r5 => (bif (!r5.2) then (some 15) else (bif (decide (0 ≤ v53) && decide (v53 ≤ (List.length w1.Key))) then (Option.bind (slices_Contains_string n (List.take (Int.toNat v53) w1.Key) (List.getD v51 (Int.toNat v53) [])) fun r6 => (bif r6 then (some 5) else (rel_head_l4 n m0 v51 v52 (IntKind.wrap .i64 (v53 + 1)) w1))) else none))) else none) else (some 0)) := by kernel_rfl
theorem rel_head_l4_zero (n : Nat) (v51 : List (List UInt8)) (v52 : Int) (v53 : Int) (w1 : Rel) : rel_head_l4 n 0 v51 v52 v53 w1 = none := by kernel_rfl
theorem rel_head_l4_fold (n : Nat) (v51 : List (List UInt8)) (w1 : Rel) (hl : List.length v51 < 9223372036854775807) (m i : Nat) (hi : i ≤ List.length v51) (hm : List.length v51 - i < m) : rel_head_l4 n m v51 (List.length v51 : Int) (i : Int) w1 = foldK (S := Unit) (fun i (a : (List UInt8)) s K => (Option.bind (rel_Col n w1 a) fun r5 => (bif (!r5.2) then (some 15) else (bif (decide (0 ≤ (i : Int)) && decide ((i : Int) ≤ (List.length w1.Key))) then (Option.bind (slices_Contains_string n (List.take (Int.toNat (i : Int)) w1.Key) a) fun r6 => (bif r6 then (some 5) else (K ()))) else none)))) (fun s => (some 0)) (List.drop i v51) i () := range_loop v51 [] hl (fun m (k : Int) (s : Unit) => rel_head_l4 n m v51 (List.length v51 : Int) k w1) _ _ (fun m i s => (rel_head_l4_eq n m v51 (List.length v51 : Int) (i : Int) w1).trans (by kernel_rfl)) m i hi hm ()
theorem rel_head_l1_eq (n : Nat) (m0 : Nat) (v25 : List Col) (v26 : Int) (v27 : Int) (w1 : Rel) : rel_head_l1 n (m0 + 1) v25 v26 v27 w1 = (bif (decide (v27 < v26)) then (bif (decide (0 ≤ v27) && decide (v27 < List.length v25)) then (Option.bind (value_Name n ((List.getD v25 (Int.toNat v27) (Col.mk [] 0)).Name)) fun r2 => (bif (!r2) then (some 15) else (bif (decide (0 ≤ v27) && decide (v27 ≤ (List.length w1.Cols))) then (Option.bind (slices_ContainsFunc_Col_by_rel_head_1 n (List.take (Int.toNat v27) w1.Cols) ((List.getD v25 (Int.toNat v27) (Col.mk [] 0)), ())) fun r3 => (bif r3 then (some 5) else (Option.bind (rel_Column n ((List.getD v25 (Int.toNat v27) (Col.mk [] 0)).Kind)) fun r4 => (bif (!r4) then (some 8) else (rel_head_l1 n m0 v25 v26 (IntKind.wrap .i64 (v27 + 1)) w1))))) else none))) else none) else (rel_head_l4 n n w1.Key (List.length w1.Key : Int) 0 w1)) := by kernel_rfl
theorem rel_head_l1_zero (n : Nat) (v25 : List Col) (v26 : Int) (v27 : Int) (w1 : Rel) : rel_head_l1 n 0 v25 v26 v27 w1 = none := by kernel_rfl
theorem rel_head_l1_fold (n : Nat) (v25 : List Col) (w1 : Rel) (hl : List.length v25 < 9223372036854775807) (m i : Nat) (hi : i ≤ List.length v25) (hm : List.length v25 - i < m) : rel_head_l1 n m v25 (List.length v25 : Int) (i : Int) w1 = foldK (S := Unit) (fun i (a : Col) s K => (Option.bind (value_Name n (a.Name)) fun r2 => (bif (!r2) then (some 15) else (bif (decide (0 ≤ (i : Int)) && decide ((i : Int) ≤ (List.length w1.Cols))) then (Option.bind (slices_ContainsFunc_Col_by_rel_head_1 n (List.take (Int.toNat (i : Int)) w1.Cols) (a, ())) fun r3 => (bif r3 then (some 5) else (Option.bind (rel_Column n (a.Kind)) fun r4 => (bif (!r4) then (some 8) else (K ()))))) else none)))) (fun s => (rel_head_l4 n n w1.Key (List.length w1.Key : Int) 0 w1)) (List.drop i v25) i () := range_loop v25 (Col.mk [] 0) hl (fun m (k : Int) (s : Unit) => rel_head_l1 n m v25 (List.length v25 : Int) k w1) _ _ (fun m i s => (rel_head_l1_eq n m v25 (List.length v25 : Int) (i : Int) w1).trans (by kernel_rfl)) m i hi hm ()
theorem rel_head_eq (n : Nat) (x0 : Rel) : rel_head n x0 = (Option.bind (value_Name n x0.Name) fun r1 => (bif (!r1) then (some 15) else (bif (decide ((List.length x0.Cols : Int) = 0)) then (some 3) else (bif (decide ((List.length x0.Cols : Int) > 12)) then (some 2) else (rel_head_l1 n n x0.Cols (List.length x0.Cols : Int) 0 x0))))) := by kernel_rfl
noncomputable def C11 (n : Nat) : Call2 E := more tt gl H (C10 n) n 50 Try.f50 [.t (.nm 3)] (C10 n)
noncomputable def Cr11 : Nat → Nat → Call2 E
  | 0, n => C11 n
  | d + 1, n => (more tt gl H (Cr11 d n) n 86 Try.f86 [.t (.nm 1)] (C11 n))
noncomputable def C12 (n : Nat) : Call2 E := Cr11 (n + 1) n

/- clapperbridge/value.Size -/
noncomputable def value_Size (d : Nat) (n : Nat) (x0 : ApiValue) : Option Int := F2 (E := E) tt gl H (Cr11 d n) n 86 Try.f86 [.t (.nm 1)] (x0, ())
noncomputable def value_Size_l0 (d : Nat) (n : Nat) (m0 : Nat) (v3 : Int) (v7 : List ApiField) (v8 : Int) (v9 : Int) : Option Int := lp (E := E) (ps := [.t (.nm 1)]) tt gl H (Cr11 d n) n 86 Try.f86 [1, 1, 0, 1, 0] [] m0 ⟨mkT 20 0 [(3, .t (.int .i64) v3), (7, .t (.sl (.nm 2)) v7), (8, .t (.int .i64) v8), (9, .t (.int .i64) v9)], mkB 80 0 []⟩
theorem value_Size_l0_eq (d : Nat) (n : Nat) (m0 : Nat) (v3 : Int) (v7 : List ApiField) (v8 : Int) (v9 : Int) : value_Size_l0 (d + 1) n (m0 + 1) v3 v7 v8 v9 = (bif (decide (v9 < v8)) then (bif (decide (0 ≤ v9) && decide (v9 < List.length v7)) then (Option.bind (value_Size d n ((List.getD v7 (Int.toNat v9) (ApiField.mk [] (ApiValue.mk 0 0 [] []))).Val)) fun r1 => (value_Size_l0 (d + 1) n m0 (IntKind.wrap .i64 (v3 + r1)) v7 v8 (IntKind.wrap .i64 (v9 + 1)))) else none) else (some v3)) := by kernel_rfl
theorem value_Size_l0_zero (d : Nat) (n : Nat) (v3 : Int) (v7 : List ApiField) (v8 : Int) (v9 : Int) : value_Size_l0 d n 0 v3 v7 v8 v9 = none := by kernel_rfl
theorem value_Size_l0_fold (d : Nat) (n : Nat) (v7 : List ApiField) (v3 : Int) (hl : List.length v7 < 9223372036854775807) (m i : Nat) (hi : i ≤ List.length v7) (hm : List.length v7 - i < m) : value_Size_l0 (d + 1) n m v3 v7 (List.length v7 : Int) (i : Int) = foldK (S := Int) (fun i (a : ApiField) s K => (Option.bind (value_Size d n (a.Val)) fun r1 => (K (IntKind.wrap .i64 (s + r1))))) (fun s => (some s)) (List.drop i v7) i (v3) := range_loop v7 (ApiField.mk [] (ApiValue.mk 0 0 [] [])) hl (fun m (k : Int) (s : Int) => value_Size_l0 (d + 1) n m s v7 (List.length v7 : Int) k) _ _ (fun m i s => (value_Size_l0_eq d n m s v7 (List.length v7 : Int) (i : Int)).trans (by kernel_rfl)) m i hi hm (v3)
theorem value_Size_eq (d : Nat) (n : Nat) (x0 : ApiValue) : value_Size (d + 1) n x0 = (value_Size_l0 (d + 1) n n 1 x0.Fields (List.length x0.Fields : Int) 0) := by kernel_rfl
noncomputable def Cr12 : Nat → Nat → Call2 E
  | 0, n => C12 n
  | d + 1, n => (more tt gl H (Cr12 d n) n 87 Try.f87 [.t (.nm 1)] (C12 n))
noncomputable def C13 (n : Nat) : Call2 E := Cr12 (n + 1) n

/- clapperbridge/value.Deep -/
noncomputable def value_Deep (d : Nat) (n : Nat) (x0 : ApiValue) : Option Int := F2 (E := E) tt gl H (Cr12 d n) n 87 Try.f87 [.t (.nm 1)] (x0, ())
noncomputable def value_Deep_l0 (d : Nat) (n : Nat) (m0 : Nat) (v3 : Int) (v7 : List ApiField) (v8 : Int) (v9 : Int) : Option Int := lp (E := E) (ps := [.t (.nm 1)]) tt gl H (Cr12 d n) n 87 Try.f87 [1, 1, 0, 1, 0] [] m0 ⟨mkT 21 0 [(3, .t (.int .i64) v3), (7, .t (.sl (.nm 2)) v7), (8, .t (.int .i64) v8), (9, .t (.int .i64) v9)], mkB 84 0 []⟩
theorem value_Deep_l0_eq (d : Nat) (n : Nat) (m0 : Nat) (v3 : Int) (v7 : List ApiField) (v8 : Int) (v9 : Int) : value_Deep_l0 (d + 1) n (m0 + 1) v3 v7 v8 v9 = (bif (decide (v9 < v8)) then (bif (decide (0 ≤ v9) && decide (v9 < List.length v7)) then (Option.bind (value_Deep d n ((List.getD v7 (Int.toNat v9) (ApiField.mk [] (ApiValue.mk 0 0 [] []))).Val)) fun r1 => (value_Deep_l0 (d + 1) n m0 (mxI v3 r1) v7 v8 (IntKind.wrap .i64 (v9 + 1)))) else none) else (some (IntKind.wrap .i64 (v3 + 1)))) := by kernel_rfl
theorem value_Deep_l0_zero (d : Nat) (n : Nat) (v3 : Int) (v7 : List ApiField) (v8 : Int) (v9 : Int) : value_Deep_l0 d n 0 v3 v7 v8 v9 = none := by kernel_rfl
theorem value_Deep_l0_fold (d : Nat) (n : Nat) (v7 : List ApiField) (v3 : Int) (hl : List.length v7 < 9223372036854775807) (m i : Nat) (hi : i ≤ List.length v7) (hm : List.length v7 - i < m) : value_Deep_l0 (d + 1) n m v3 v7 (List.length v7 : Int) (i : Int) = foldK (S := Int) (fun i (a : ApiField) s K => (Option.bind (value_Deep d n (a.Val)) fun r1 => (K (mxI s r1)))) (fun s => (some (IntKind.wrap .i64 (s + 1)))) (List.drop i v7) i (v3) := range_loop v7 (ApiField.mk [] (ApiValue.mk 0 0 [] [])) hl (fun m (k : Int) (s : Int) => value_Deep_l0 (d + 1) n m s v7 (List.length v7 : Int) k) _ _ (fun m i s => (value_Deep_l0_eq d n m s v7 (List.length v7 : Int) (i : Int)).trans (by kernel_rfl)) m i hi hm (v3)
theorem value_Deep_eq (d : Nat) (n : Nat) (x0 : ApiValue) : value_Deep (d + 1) n x0 = (value_Deep_l0 (d + 1) n n 0 x0.Fields (List.length x0.Fields : Int) 0) := by kernel_rfl

/- clapperbridge/value.Scalar -/
noncomputable def value_Scalar (n : Nat) (x0 : Int) : Option Bool := F2 (E := E) tt gl H (C13 n) n 105 Try.f105 [.t (.int .i64)] (x0, ())
theorem value_Scalar_eq (n : Nat) (x0 : Int) : value_Scalar n x0 = (bif (decide (x0 ≥ 0)) then (bif (decide (x0 ≤ 5)) then (some true) else (some (decide (x0 = 11)))) else (some (decide (x0 = 11)))) := by kernel_rfl
noncomputable def C14 (n : Nat) : Call2 E := more tt gl H (C13 n) n 105 Try.f105 [.t (.int .i64)] (C13 n)

/- clapperbridge/value.unused -/
noncomputable def value_unused (n : Nat) (x0 : ApiValue) : Option Bool := F2 (E := E) tt gl H (C14 n) n 100 Try.f100 [.t (.nm 1)] (x0, ())
theorem value_unused_eq (n : Nat) (x0 : ApiValue) : value_unused n x0 = (bif (decide (x0.Kind ≥ 1)) then (bif (decide (x0.Kind ≤ 4)) then (bif (!decide (x0.Kind = 5)) then (bif (!(x0.S == [])) then (some true) else (Option.bind (value_Scalar n x0.Kind) fun r1 => (bif r1 then (some (decide ((List.length x0.Fields : Int) > 0))) else (some false)))) else (Option.bind (value_Scalar n x0.Kind) fun r2 => (bif r2 then (some (decide ((List.length x0.Fields : Int) > 0))) else (some false)))) else (bif (!(decide (x0.Kind = 11))) then (bif (!decide (x0.N = 0)) then (some true) else (bif (!decide (x0.Kind = 5)) then (bif (!(x0.S == [])) then (some true) else (Option.bind (value_Scalar n x0.Kind) fun r3 => (bif r3 then (some (decide ((List.length x0.Fields : Int) > 0))) else (some false)))) else (Option.bind (value_Scalar n x0.Kind) fun r4 => (bif r4 then (some (decide ((List.length x0.Fields : Int) > 0))) else (some false))))) else (bif (!decide (x0.Kind = 5)) then (bif (!(x0.S == [])) then (some true) else (Option.bind (value_Scalar n x0.Kind) fun r5 => (bif r5 then (some (decide ((List.length x0.Fields : Int) > 0))) else (some false)))) else (Option.bind (value_Scalar n x0.Kind) fun r6 => (bif r6 then (some (decide ((List.length x0.Fields : Int) > 0))) else (some false)))))) else (bif (!(decide (x0.Kind = 11))) then (bif (!decide (x0.N = 0)) then (some true) else (bif (!decide (x0.Kind = 5)) then (bif (!(x0.S == [])) then (some true) else (Option.bind (value_Scalar n x0.Kind) fun r7 => (bif r7 then (some (decide ((List.length x0.Fields : Int) > 0))) else (some false)))) else (Option.bind (value_Scalar n x0.Kind) fun r8 => (bif r8 then (some (decide ((List.length x0.Fields : Int) > 0))) else (some false))))) else (bif (!decide (x0.Kind = 5)) then (bif (!(x0.S == [])) then (some true) else (Option.bind (value_Scalar n x0.Kind) fun r9 => (bif r9 then (some (decide ((List.length x0.Fields : Int) > 0))) else (some false)))) else (Option.bind (value_Scalar n x0.Kind) fun r10 => (bif r10 then (some (decide ((List.length x0.Fields : Int) > 0))) else (some false)))))) := by kernel_rfl
noncomputable def C15 (n : Nat) : Call2 E := more tt gl H (C14 n) n 100 Try.f100 [.t (.nm 1)] (C14 n)

/- clapperbridge/value.number -/
noncomputable def value_number (n : Nat) (x0 : ApiValue) : Option Bool := F2 (E := E) tt gl H (C15 n) n 101 Try.f101 [.t (.nm 1)] (x0, ())
theorem value_number_eq (n : Nat) (x0 : ApiValue) : value_number n x0 = (bif (decide (x0.Kind = 1)) then (bif (decide (x0.N = 0)) then (some true) else (some (decide (x0.N = 1)))) else (bif (decide (x0.Kind = 2)) then (bif (decide (x0.N ≥ (-9007199254740992))) then (some (decide (x0.N ≤ 9007199254740992))) else (some false)) else (bif (decide (x0.Kind = 4)) then (bif (decide (x0.N ≥ 0)) then (some (decide (x0.N ≤ 4194304))) else (some false)) else (bif (decide (x0.Kind = 11)) then (bif (decide (x0.N ≥ 0)) then (some (decide (x0.N ≤ 9007199254740992))) else (some false)) else (some true))))) := by kernel_rfl
noncomputable def C16 (n : Nat) : Call2 E := more tt gl H (C15 n) n 101 Try.f101 [.t (.nm 1)] (C15 n)

/- clapperbridge/value.names$1 -/
noncomputable def value_names_1 (n : Nat) (x0 : ApiField) (x1 : ApiField) : Option Bool := F2 (E := E) tt gl H (C16 n) n 109 Try.f109 [.t (.nm 2), .imm (.nm 2)] (x0, x1, ())
theorem value_names_1_eq (n : Nat) (x0 : ApiField) (x1 : ApiField) : value_names_1 n x0 x1 = (some (x0.Name == x1.Name)) := by kernel_rfl
noncomputable def C17 (n : Nat) : Call2 E := more tt gl H (C16 n) n 109 Try.f109 [.t (.nm 2), .imm (.nm 2)] (C16 n)

/- slices.IndexFunc[[]clapperbridge/api.Field,clapperbridge/api.Field] -/
noncomputable def slices_IndexFunc_Field_by_value_names_1 (n : Nat) (x0 : List ApiField) (x1 : (ApiField × Unit)) : Option Int := F2 (E := E) tt gl H (C17 n) n 110 Try.f110 [.t (.sl (.nm 2)), .fn 109 [(.nm 2)]] (x0, x1, ())
noncomputable def slices_IndexFunc_Field_by_value_names_1_l0 (n : Nat) (m0 : Nat) (v0 : List ApiField) (v1c0 : ApiField) (v7 : Int) (v8 : Int) : Option Int := lp (E := E) (ps := [.t (.sl (.nm 2)), .fn 109 [(.nm 2)]]) tt gl H (C17 n) n 110 Try.f110 [1, 0, 1, 0] [] m0 ⟨mkT 19 0 [(0, .t (.sl (.nm 2)) v0), (1, .func 109 [⟨(.nm 2), v1c0⟩]), (7, .t (.int .i64) v7), (8, .t (.int .i64) v8)], mkB 76 0 []⟩
theorem slices_IndexFunc_Field_by_value_names_1_l0_eq (n : Nat) (m0 : Nat) (v0 : List ApiField) (v1c0 : ApiField) (v7 : Int) (v8 : Int) : slices_IndexFunc_Field_by_value_names_1_l0 n (m0 + 1) v0 v1c0 v7 v8 = (bif (decide (v8 < v7)) then (bif (decide (0 ≤ v8) && decide (v8 < List.length v0)) then (Option.bind (value_names_1 n (List.getD v0 (Int.toNat v8) (ApiField.mk [] (ApiValue.mk 0 0 [] []))) v1c0) fun r1 => (bif r1 then (some v8) else (slices_IndexFunc_Field_by_value_names_1_l0 n m0 v0 v1c0 v7 (IntKind.wrap .i64 (v8 + 1))))) else none) else (some (-1))) := by kernel_rfl
theorem slices_IndexFunc_Field_by_value_names_1_l0_zero (n : Nat) (v0 : List ApiField) (v1c0 : ApiField) (v7 : Int) (v8 : Int) : slices_IndexFunc_Field_by_value_names_1_l0 n 0 v0 v1c0 v7 v8 = none := by kernel_rfl
theorem slices_IndexFunc_Field_by_value_names_1_l0_fold (n : Nat) (v0 : List ApiField) (v1c0 : ApiField) (hl : List.length v0 < 9223372036854775807) (m i : Nat) (hi : i ≤ List.length v0) (hm : List.length v0 - i < m) : slices_IndexFunc_Field_by_value_names_1_l0 n m v0 v1c0 (List.length v0 : Int) (i : Int) = foldK (S := Unit) (fun i (a : ApiField) s K => (Option.bind (value_names_1 n a v1c0) fun r1 => (bif r1 then (some (i : Int)) else (K ())))) (fun s => (some (-1))) (List.drop i v0) i () := range_loop v0 (ApiField.mk [] (ApiValue.mk 0 0 [] [])) hl (fun m (k : Int) (s : Unit) => slices_IndexFunc_Field_by_value_names_1_l0 n m v0 v1c0 (List.length v0 : Int) k) _ _ (fun m i s => (slices_IndexFunc_Field_by_value_names_1_l0_eq n m v0 v1c0 (List.length v0 : Int) (i : Int)).trans (by kernel_rfl)) m i hi hm ()
theorem slices_IndexFunc_Field_by_value_names_1_eq (n : Nat) (x0 : List ApiField) (x1 : (ApiField × Unit)) : slices_IndexFunc_Field_by_value_names_1 n x0 x1 = (slices_IndexFunc_Field_by_value_names_1_l0 n n x0 x1.1 (List.length x0 : Int) 0) := by kernel_rfl
noncomputable def C18 (n : Nat) : Call2 E := more tt gl H (C17 n) n 110 Try.f110 [.t (.sl (.nm 2)), .fn 109 [(.nm 2)]] (C17 n)

/- slices.ContainsFunc[[]clapperbridge/api.Field,clapperbridge/api.Field] -/
noncomputable def slices_ContainsFunc_Field_by_value_names_1 (n : Nat) (x0 : List ApiField) (x1 : (ApiField × Unit)) : Option Bool := F2 (E := E) tt gl H (C18 n) n 108 Try.f108 [.t (.sl (.nm 2)), .fn 109 [(.nm 2)]] (x0, x1, ())
theorem slices_ContainsFunc_Field_by_value_names_1_eq (n : Nat) (x0 : List ApiField) (x1 : (ApiField × Unit)) : slices_ContainsFunc_Field_by_value_names_1 n x0 x1 = (Option.bind (slices_IndexFunc_Field_by_value_names_1 n x0 (x1.1, ())) fun r1 => (some (decide (r1 ≥ 0)))) := by kernel_rfl
noncomputable def C19 (n : Nat) : Call2 E := more tt gl H (C18 n) n 108 Try.f108 [.t (.sl (.nm 2)), .fn 109 [(.nm 2)]] (C18 n)

/- clapperbridge/value.names -/
noncomputable def value_names (n : Nat) (x0 : List ApiField) : Option Int := F2 (E := E) tt gl H (C19 n) n 106 Try.f106 [.t (.sl (.nm 2))] (x0, ())
noncomputable def value_names_l0 (n : Nat) (m0 : Nat) (v0 : List ApiField) (v5 : List ApiField) (v6 : Int) (v7 : Int) : Option Int := lp (E := E) (ps := [.t (.sl (.nm 2))]) tt gl H (C19 n) n 106 Try.f106 [1, 0, 1, 0] [] m0 ⟨mkT 22 0 [(0, .t (.sl (.nm 2)) v0), (5, .t (.sl (.nm 2)) v5), (6, .t (.int .i64) v6), (7, .t (.int .i64) v7)], mkB 88 0 []⟩
theorem value_names_l0_eq (n : Nat) (m0 : Nat) (v0 : List ApiField) (v5 : List ApiField) (v6 : Int) (v7 : Int) : value_names_l0 n (m0 + 1) v0 v5 v6 v7 = (bif (decide (v7 < v6)) then (bif (decide (0 ≤ v7) && decide (v7 < List.length v5)) then (Option.bind (value_Name n ((List.getD v5 (Int.toNat v7) (ApiField.mk [] (ApiValue.mk 0 0 [] []))).Name)) fun r1 => (bif (!r1) then (some 15) else (bif (decide (0 ≤ v7) && decide (v7 ≤ (List.length v0))) then (Option.bind (slices_ContainsFunc_Field_by_value_names_1 n (List.take (Int.toNat v7) v0) ((List.getD v5 (Int.toNat v7) (ApiField.mk [] (ApiValue.mk 0 0 [] []))), ())) fun r2 => (bif r2 then (some 5) else (value_names_l0 n m0 v0 v5 v6 (IntKind.wrap .i64 (v7 + 1))))) else none))) else none) else (some 0)) := by kernel_rfl
theorem value_names_l0_zero (n : Nat) (v0 : List ApiField) (v5 : List ApiField) (v6 : Int) (v7 : Int) : value_names_l0 n 0 v0 v5 v6 v7 = none := by kernel_rfl
theorem value_names_l0_fold (n : Nat) (v0 : List ApiField) (v5 : List ApiField) (hl : List.length v5 < 9223372036854775807) (m i : Nat) (hi : i ≤ List.length v5) (hm : List.length v5 - i < m) : value_names_l0 n m v0 v5 (List.length v5 : Int) (i : Int) = foldK (S := Unit) (fun i (a : ApiField) s K => (Option.bind (value_Name n (a.Name)) fun r1 => (bif (!r1) then (some 15) else (bif (decide (0 ≤ (i : Int)) && decide ((i : Int) ≤ (List.length v0))) then (Option.bind (slices_ContainsFunc_Field_by_value_names_1 n (List.take (Int.toNat (i : Int)) v0) (a, ())) fun r2 => (bif r2 then (some 5) else (K ()))) else none)))) (fun s => (some 0)) (List.drop i v5) i () := range_loop v5 (ApiField.mk [] (ApiValue.mk 0 0 [] [])) hl (fun m (k : Int) (s : Unit) => value_names_l0 n m v0 v5 (List.length v5 : Int) k) _ _ (fun m i s => (value_names_l0_eq n m v0 v5 (List.length v5 : Int) (i : Int)).trans (by kernel_rfl)) m i hi hm ()
theorem value_names_eq (n : Nat) (x0 : List ApiField) : value_names n x0 = (value_names_l0 n n x0 x0 (List.length x0 : Int) 0) := by kernel_rfl
noncomputable def C20 (n : Nat) : Call2 E := more tt gl H (C19 n) n 106 Try.f106 [.t (.sl (.nm 2))] (C19 n)

/- clapperbridge/value.keys -/
noncomputable def value_keys (n : Nat) (x0 : ApiValue) : Option Int := F2 (E := E) tt gl H (C20 n) n 107 Try.f107 [.t (.nm 1)] (x0, ())
noncomputable def value_keys_l0 (n : Nat) (m0 : Nat) (v6 : List ApiField) (v7 : Int) (v8 : Int) (w1 : ApiValue) : Option Int := lp (E := E) (ps := [.t (.nm 1)]) tt gl H (C20 n) n 107 Try.f107 [1, 0, 1, 0] [] m0 ⟨mkT 47 0 [(1, .ptr 1 (.nm 1) []), (6, .t (.sl (.nm 2)) v6), (7, .t (.int .i64) v7), (8, .t (.int .i64) v8)], mkB 188 0 [(1, .var (.nm 1) (.t (.nm 1) w1))]⟩
theorem value_keys_l0_eq (n : Nat) (m0 : Nat) (v6 : List ApiField) (v7 : Int) (v8 : Int) (w1 : ApiValue) : value_keys_l0 n (m0 + 1) v6 v7 v8 w1 = (bif (decide (v8 < v7)) then (bif (decide (0 ≤ v8) && decide (v8 < List.length v6)) then (bif (decide (w1.Kind = 8)) then (bif (!(((List.getD v6 (Int.toNat v8) (ApiField.mk [] (ApiValue.mk 0 0 [] []))).Name) == [])) then (some 3) else (bif (decide (w1.Kind = 8)) then (value_keys_l0 n m0 v6 v7 (IntKind.wrap .i64 (v8 + 1)) w1) else (bif (decide ((List.length ((List.getD v6 (Int.toNat v8) (ApiField.mk [] (ApiValue.mk 0 0 [] []))).Name) : Int) > 4000)) then (some 2) else (bif (decide (v8 > 0)) then (bif (decide (0 ≤ (IntKind.wrap .i64 (v8 - 1))) && decide ((IntKind.wrap .i64 (v8 - 1)) < List.length w1.Fields)) then (bif (bytesLess ((List.getD v6 (Int.toNat v8) (ApiField.mk [] (ApiValue.mk 0 0 [] []))).Name) ((List.getD w1.Fields (Int.toNat (IntKind.wrap .i64 (v8 - 1))) (ApiField.mk [] (ApiValue.mk 0 0 [] []))).Name) || (((List.getD v6 (Int.toNat v8) (ApiField.mk [] (ApiValue.mk 0 0 [] []))).Name) == ((List.getD w1.Fields (Int.toNat (IntKind.wrap .i64 (v8 - 1))) (ApiField.mk [] (ApiValue.mk 0 0 [] []))).Name))) then (some 9) else (value_keys_l0 n m0 v6 v7 (IntKind.wrap .i64 (v8 + 1)) w1)) else none) else (value_keys_l0 n m0 v6 v7 (IntKind.wrap .i64 (v8 + 1)) w1))))) else (bif (decide (w1.Kind = 8)) then (value_keys_l0 n m0 v6 v7 (IntKind.wrap .i64 (v8 + 1)) w1) else (bif (decide ((List.length ((List.getD v6 (Int.toNat v8) (ApiField.mk [] (ApiValue.mk 0 0 [] []))).Name) : Int) > 4000)) then (some 2) else (bif (decide (v8 > 0)) then (bif (decide (0 ≤ (IntKind.wrap .i64 (v8 - 1))) && decide ((IntKind.wrap .i64 (v8 - 1)) < List.length w1.Fields)) then (bif (bytesLess ((List.getD v6 (Int.toNat v8) (ApiField.mk [] (ApiValue.mk 0 0 [] []))).Name) ((List.getD w1.Fields (Int.toNat (IntKind.wrap .i64 (v8 - 1))) (ApiField.mk [] (ApiValue.mk 0 0 [] []))).Name) || (((List.getD v6 (Int.toNat v8) (ApiField.mk [] (ApiValue.mk 0 0 [] []))).Name) == ((List.getD w1.Fields (Int.toNat (IntKind.wrap .i64 (v8 - 1))) (ApiField.mk [] (ApiValue.mk 0 0 [] []))).Name))) then (some 9) else (value_keys_l0 n m0 v6 v7 (IntKind.wrap .i64 (v8 + 1)) w1)) else none) else (value_keys_l0 n m0 v6 v7 (IntKind.wrap .i64 (v8 + 1)) w1))))) else none) else (some 0)) := by kernel_rfl
theorem value_keys_l0_zero (n : Nat) (v6 : List ApiField) (v7 : Int) (v8 : Int) (w1 : ApiValue) : value_keys_l0 n 0 v6 v7 v8 w1 = none := by kernel_rfl
theorem value_keys_l0_fold (n : Nat) (v6 : List ApiField) (w1 : ApiValue) (hl : List.length v6 < 9223372036854775807) (m i : Nat) (hi : i ≤ List.length v6) (hm : List.length v6 - i < m) : value_keys_l0 n m v6 (List.length v6 : Int) (i : Int) w1 = foldK (S := Unit) (fun i (a : ApiField) s K => (bif (decide (w1.Kind = 8)) then (bif (!((a.Name) == [])) then (some 3) else (bif (decide (w1.Kind = 8)) then (K ()) else (bif (decide ((List.length (a.Name) : Int) > 4000)) then (some 2) else (bif (decide ((i : Int) > 0)) then (bif (decide (0 ≤ (IntKind.wrap .i64 ((i : Int) - 1))) && decide ((IntKind.wrap .i64 ((i : Int) - 1)) < List.length w1.Fields)) then (bif (bytesLess (a.Name) ((List.getD w1.Fields (Int.toNat (IntKind.wrap .i64 ((i : Int) - 1))) (ApiField.mk [] (ApiValue.mk 0 0 [] []))).Name) || ((a.Name) == ((List.getD w1.Fields (Int.toNat (IntKind.wrap .i64 ((i : Int) - 1))) (ApiField.mk [] (ApiValue.mk 0 0 [] []))).Name))) then (some 9) else (K ())) else none) else (K ()))))) else (bif (decide (w1.Kind = 8)) then (K ()) else (bif (decide ((List.length (a.Name) : Int) > 4000)) then (some 2) else (bif (decide ((i : Int) > 0)) then (bif (decide (0 ≤ (IntKind.wrap .i64 ((i : Int) - 1))) && decide ((IntKind.wrap .i64 ((i : Int) - 1)) < List.length w1.Fields)) then (bif (bytesLess (a.Name) ((List.getD w1.Fields (Int.toNat (IntKind.wrap .i64 ((i : Int) - 1))) (ApiField.mk [] (ApiValue.mk 0 0 [] []))).Name) || ((a.Name) == ((List.getD w1.Fields (Int.toNat (IntKind.wrap .i64 ((i : Int) - 1))) (ApiField.mk [] (ApiValue.mk 0 0 [] []))).Name))) then (some 9) else (K ())) else none) else (K ())))))) (fun s => (some 0)) (List.drop i v6) i () := range_loop v6 (ApiField.mk [] (ApiValue.mk 0 0 [] [])) hl (fun m (k : Int) (s : Unit) => value_keys_l0 n m v6 (List.length v6 : Int) k w1) _ _ (fun m i s => (value_keys_l0_eq n m v6 (List.length v6 : Int) (i : Int) w1).trans (by kernel_rfl)) m i hi hm ()
theorem value_keys_eq (n : Nat) (x0 : ApiValue) : value_keys n x0 = (value_keys_l0 n n x0.Fields (List.length x0.Fields : Int) 0 x0) := by kernel_rfl
noncomputable def C21 (n : Nat) : Call2 E := more tt gl H (C20 n) n 107 Try.f107 [.t (.nm 1)] (C20 n)

/- clapperbridge/value.fields -/
noncomputable def value_fields (n : Nat) (x0 : ApiValue) : Option Int := F2 (E := E) tt gl H (C21 n) n 102 Try.f102 [.t (.nm 1)] (x0, ())
theorem value_fields_eq (n : Nat) (x0 : ApiValue) : value_fields n x0 = (bif (decide (x0.Kind = 5)) then (bif (decide ((List.length x0.S : Int) > 4000)) then (some 2) else (some 0)) else (bif (decide (x0.Kind = 6)) then (bif (decide ((List.length x0.Fields : Int) > 24)) then (some 2) else (Option.bind (value_names n x0.Fields) fun r1 => (some r1))) else (bif (decide (x0.Kind = 7)) then (bif (!decide ((List.length x0.Fields : Int) = 1)) then (some 3) else (Option.bind (value_names n x0.Fields) fun r2 => (some r2))) else (bif (decide (x0.Kind = 8)) then (bif (decide (x0.Kind = 8)) then (bif (decide ((List.length x0.Fields : Int) > 200)) then (some 2) else (Option.bind (value_keys n x0) fun r3 => (some r3))) else (some 0)) else (bif (decide (x0.Kind = 9)) then (bif (decide ((List.length x0.Fields : Int) > 200)) then (some 2) else (Option.bind (value_keys n x0) fun r4 => (some r4))) else (some 0)))))) := by kernel_rfl
noncomputable def C22 (n : Nat) : Call2 E := more tt gl H (C21 n) n 102 Try.f102 [.t (.nm 1)] (C21 n)
noncomputable def Cr22 : Nat → Nat → Call2 E
  | 0, n => C22 n
  | d + 1, n => (more tt gl H (Cr22 d n) n 88 Try.f88 [.t (.nm 1), .t .bool] (C22 n))
noncomputable def C23 (n : Nat) : Call2 E := Cr22 (n + 1) n

/- clapperbridge/value.node -/
noncomputable def value_node (d : Nat) (n : Nat) (x0 : ApiValue) (x1 : Bool) : Option Int := F2 (E := E) tt gl H (Cr22 d n) n 88 Try.f88 [.t (.nm 1), .t .bool] (x0, x1, ())
noncomputable def value_node_l1 (d : Nat) (n : Nat) (m0 : Nat) (v46 : List ApiField) (v47 : Int) (v48 : Int) : Option Int := lp (E := E) (ps := [.t (.nm 1), .t .bool]) tt gl H (Cr22 d n) n 88 Try.f88 [1, 1, 1, 0, 1, 0] [] m0 ⟨mkT 59 0 [(46, .t (.sl (.nm 2)) v46), (47, .t (.int .i64) v47), (48, .t (.int .i64) v48)], mkB 236 0 []⟩
theorem value_node_l1_eq (d : Nat) (n : Nat) (m0 : Nat) (v46 : List ApiField) (v47 : Int) (v48 : Int) : value_node_l1 (d + 1) n (m0 + 1) v46 v47 v48 = (bif (decide (v48 < v47)) then (bif (decide (0 ≤ v48) && decide (v48 < List.length v46)) then (Option.bind (value_node d n ((List.getD v46 (Int.toNat v48) (ApiField.mk [] (ApiValue.mk 0 0 [] []))).Val) false) fun r4 => (bif (!decide (r4 = 0)) then (some r4) else (value_node_l1 (d + 1) n m0 v46 v47 (IntKind.wrap .i64 (v48 + 1))))) else none) else (some 0)) := by kernel_rfl
theorem value_node_l1_zero (d : Nat) (n : Nat) (v46 : List ApiField) (v47 : Int) (v48 : Int) : value_node_l1 d n 0 v46 v47 v48 = none := by kernel_rfl
theorem value_node_l1_fold (d : Nat) (n : Nat) (v46 : List ApiField) (hl : List.length v46 < 9223372036854775807) (m i : Nat) (hi : i ≤ List.length v46) (hm : List.length v46 - i < m) : value_node_l1 (d + 1) n m v46 (List.length v46 : Int) (i : Int) = foldK (S := Unit) (fun i (a : ApiField) s K => (Option.bind (value_node d n (a.Val) false) fun r4 => (bif (!decide (r4 = 0)) then (some r4) else (K ())))) (fun s => (some 0)) (List.drop i v46) i () := range_loop v46 (ApiField.mk [] (ApiValue.mk 0 0 [] [])) hl (fun m (k : Int) (s : Unit) => value_node_l1 (d + 1) n m v46 (List.length v46 : Int) k) _ _ (fun m i s => (value_node_l1_eq d n m v46 (List.length v46 : Int) (i : Int)).trans (by kernel_rfl)) m i hi hm ()
theorem value_node_eq (d : Nat) (n : Nat) (x0 : ApiValue) (x1 : Bool) : value_node (d + 1) n x0 x1 = (bif (decide (x0.Kind < 0)) then (some 3) else (bif (decide (x0.Kind ≥ 12)) then (some 3) else (bif (decide (x0.Kind = 10)) then (some 3) else (bif (decide (x0.Kind = 11)) then (bif (!x1) then (some 3) else (Option.bind (value_unused n x0) fun r1 => (bif r1 then (some 3) else (Option.bind (value_number n x0) fun r2 => (bif (!r2) then (some 11) else (Option.bind (value_fields n x0) fun r3 => (bif (!decide (r3 = 0)) then (some r3) else (value_node_l1 (d + 1) n n x0.Fields (List.length x0.Fields : Int) 0)))))))) else (Option.bind (value_unused n x0) fun r5 => (bif r5 then (some 3) else (Option.bind (value_number n x0) fun r6 => (bif (!r6) then (some 11) else (Option.bind (value_fields n x0) fun r7 => (bif (!decide (r7 = 0)) then (some r7) else (value_node_l1 (d + 1) n n x0.Fields (List.length x0.Fields : Int) 0))))))))))) := by kernel_rfl

/- clapperbridge/value.Check -/
noncomputable def value_Check (n : Nat) (x0 : ApiValue) : Option Int := F2 (E := E) tt gl H (C23 n) n 57 Try.f57 [.t (.nm 1)] (x0, ())
theorem value_Check_eq (n : Nat) (x0 : ApiValue) : value_Check n x0 = (Option.bind (value_Size n n x0) fun r1 => (bif (decide (r1 > 2000)) then (some 2) else (Option.bind (value_Deep n n x0) fun r2 => (bif (decide (r2 > 40)) then (some 2) else (Option.bind (value_node n n x0 true) fun r3 => (some r3)))))) := by kernel_rfl
noncomputable def C24 (n : Nat) : Call2 E := more tt gl H (C23 n) n 57 Try.f57 [.t (.nm 1)] (C23 n)

/- clapperbridge/rel.row -/
noncomputable def rel_row (n : Nat) (x0 : Rel) (x1 : List ApiValue) : Option Int := F2 (E := E) tt gl H (C24 n) n 36 Try.f36 [.t (.nm 3), .t (.sl (.nm 1))] (x0, x1, ())
noncomputable def rel_row_l0 (n : Nat) (m0 : Nat) (v14 : List ApiValue) (v15 : Int) (v16 : Int) (w2 : Rel) : Option Int := lp (E := E) (ps := [.t (.nm 3), .t (.sl (.nm 1))]) tt gl H (C24 n) n 36 Try.f36 [1, 1, 0, 1, 0] [] m0 ⟨mkT 41 0 [(2, .ptr 2 (.nm 3) []), (14, .t (.sl (.nm 1)) v14), (15, .t (.int .i64) v15), (16, .t (.int .i64) v16)], mkB 164 0 [(2, .var (.nm 3) (.t (.nm 3) w2))]⟩
theorem rel_row_l0_eq (n : Nat) (m0 : Nat) (v14 : List ApiValue) (v15 : Int) (v16 : Int) (w2 : Rel) : rel_row_l0 n (m0 + 1) v14 v15 v16 w2 = (bif (decide (v16 < v15)) then (bif (decide (0 ≤ v16) && decide (v16 < List.length v14)) then (Option.bind (value_Check n (List.getD v14 (Int.toNat v16) (ApiValue.mk 0 0 [] []))) fun r1 => (bif (!decide (r1 = 0)) then (some r1) else (bif (decide (0 ≤ v16) && decide (v16 < List.length w2.Cols)) then (bif (!decide (((List.getD v14 (Int.toNat v16) (ApiValue.mk 0 0 [] [])).Kind) = ((List.getD w2.Cols (Int.toNat v16) (Col.mk [] 0)).Kind))) then (bif (!decide (((List.getD v14 (Int.toNat v16) (ApiValue.mk 0 0 [] [])).Kind) = 11)) then (some 8) else (rel_row_l0 n m0 v14 v15 (IntKind.wrap .i64 (v16 + 1)) w2)) else (rel_row_l0 n m0 v14 v15 (IntKind.wrap .i64 (v16 + 1)) w2)) else none))) else none) else (some 0)) := by kernel_rfl
theorem rel_row_l0_zero (n : Nat) (v14 : List ApiValue) (v15 : Int) (v16 : Int) (w2 : Rel) : rel_row_l0 n 0 v14 v15 v16 w2 = none := by kernel_rfl
theorem rel_row_l0_fold (n : Nat) (v14 : List ApiValue) (w2 : Rel) (hl : List.length v14 < 9223372036854775807) (m i : Nat) (hi : i ≤ List.length v14) (hm : List.length v14 - i < m) : rel_row_l0 n m v14 (List.length v14 : Int) (i : Int) w2 = foldK (S := Unit) (fun i (a : ApiValue) s K => (Option.bind (value_Check n a) fun r1 => (bif (!decide (r1 = 0)) then (some r1) else (bif (decide (0 ≤ (i : Int)) && decide ((i : Int) < List.length w2.Cols)) then (bif (!decide ((a.Kind) = ((List.getD w2.Cols (Int.toNat (i : Int)) (Col.mk [] 0)).Kind))) then (bif (!decide ((a.Kind) = 11)) then (some 8) else (K ())) else (K ())) else none)))) (fun s => (some 0)) (List.drop i v14) i () := range_loop v14 (ApiValue.mk 0 0 [] []) hl (fun m (k : Int) (s : Unit) => rel_row_l0 n m v14 (List.length v14 : Int) k w2) _ _ (fun m i s => (rel_row_l0_eq n m v14 (List.length v14 : Int) (i : Int) w2).trans (by kernel_rfl)) m i hi hm ()
theorem rel_row_eq (n : Nat) (x0 : Rel) (x1 : List ApiValue) : rel_row n x0 x1 = (bif (!decide ((List.length x1 : Int) = (List.length x0.Cols : Int))) then (some 3) else (rel_row_l0 n n x1 (List.length x1 : Int) 0 x0)) := by kernel_rfl
noncomputable def C25 (n : Nat) : Call2 E := more tt gl H (C24 n) n 36 Try.f36 [.t (.nm 3), .t (.sl (.nm 1))] (C24 n)

/- clapperbridge/value.order -/
noncomputable def value_order (n : Nat) (x0 : Int) : Option Int := F2 (E := E) tt gl H (C25 n) n 64 Try.f64 [.t (.int .i64)] (x0, ())
theorem value_order_eq (n : Nat) (x0 : Int) : value_order n x0 = (bif (decide (x0 < 0)) then (some (IntKind.wrap .i64 ((-1 : Int) - (Fv.bits .and .i64 x0 9223372036854775807)))) else (some x0)) := by kernel_rfl
noncomputable def C26 (n : Nat) : Call2 E := more tt gl H (C25 n) n 64 Try.f64 [.t (.int .i64)] (C25 n)

/- cmp.isNaN[int] -/
noncomputable def cmp_isNaN_int (n : Nat) (x0 : Int) : Option Bool := F2 (E := E) tt gl H (C26 n) n 73 Try.f73 [.t (.int .i64)] (x0, ())
theorem cmp_isNaN_int_eq (n : Nat) (x0 : Int) : cmp_isNaN_int n x0 = (some (!decide (x0 = x0))) := by kernel_rfl
noncomputable def C27 (n : Nat) : Call2 E := more tt gl H (C26 n) n 73 Try.f73 [.t (.int .i64)] (C26 n)

/- cmp.Compare[int] -/
noncomputable def cmp_Compare_int (n : Nat) (x0 : Int) (x1 : Int) : Option Int := F2 (E := E) tt gl H (C27 n) n 51 Try.f51 [.t (.int .i64), .t (.int .i64)] (x0, x1, ())
theorem cmp_Compare_int_eq (n : Nat) (x0 : Int) (x1 : Int) : cmp_Compare_int n x0 x1 = (Option.bind (cmp_isNaN_int n x0) fun r1 => (Option.bind (cmp_isNaN_int n x1) fun r2 => (bif r1 then (bif r2 then (some 0) else (some (-1))) else (bif r2 then (some 1) else (bif (decide (x0 < x1)) then (some (-1)) else (bif (decide (x0 > x1)) then (some 1) else (some 0))))))) := by kernel_rfl
noncomputable def C28 (n : Nat) : Call2 E := more tt gl H (C27 n) n 51 Try.f51 [.t (.int .i64), .t (.int .i64)] (C27 n)
def fun66_ren : Go.Shelf.Ren := ⟨fun | 106 => 66 | 213 => 92 | 265 => 103 | n => n, fun | 9 => 9 | 3 => 3 | n => n, fun | n => n⟩
theorem fun66 : Go.Proofs.Lays.n106 Try.prog fun66_ren := {
  mixed := by kernel_rfl
  f106 := Try.func66.trans (congrArg some (by kernel_rfl))
  f213 := Try.func92.trans (congrArg some (by kernel_rfl))
  f265 := Try.func103.trans (congrArg some (by kernel_rfl))
  t3 := Try.underlying3
  a3 := Try.isAgg3
  z3 := Try.sizeOf3
  v3 := Try.zeroValue3
  t9 := Try.underlying9
  a9 := Try.isAgg9
  z9 := Try.sizeOf9
  v9 := Try.zeroValue9 }
theorem fnok66 : FnOK Try.prog 66 := ⟨Try.f66, _, Try.func66, by decide, rfl⟩
theorem func66 : SSI Try.prog 66 Go.Lib.compareBytes := fun a b w => Go.Proofs.Any.strings_Compare fun66 a b w
noncomputable def C29 (n : Nat) : Call2 E := moreF 66 Go.Lib.compareBytes (C28 n)

/- cmp.Or[int] -/
noncomputable def cmp_Or_int (n : Nat) (x0 : List Int) : Option Int := F2 (E := E) tt gl H (C29 n) n 65 Try.f65 [.t (.sl (.int .i64))] (x0, ())
noncomputable def cmp_Or_int_l0 (n : Nat) (m0 : Nat) (v3 : Int) (v6 : List Int) (v7 : Int) (v8 : Int) : Option Int := lp (E := E) (ps := [.t (.sl (.int .i64))]) tt gl H (C29 n) n 65 Try.f65 [1, 1, 0, 1, 0] [] m0 ⟨mkT 18 0 [(3, .t (.int .i64) v3), (6, .t (.sl (.int .i64)) v6), (7, .t (.int .i64) v7), (8, .t (.int .i64) v8)], mkB 72 0 []⟩
theorem cmp_Or_int_l0_eq (n : Nat) (m0 : Nat) (v3 : Int) (v6 : List Int) (v7 : Int) (v8 : Int) : cmp_Or_int_l0 n (m0 + 1) v3 v6 v7 v8 = (bif (decide (v8 < v7)) then (bif (decide (0 ≤ v8) && decide (v8 < List.length v6)) then (bif (!decide ((List.getD v6 (Int.toNat v8) (0 : Int)) = v3)) then (some (List.getD v6 (Int.toNat v8) (0 : Int))) else (cmp_Or_int_l0 n m0 v3 v6 v7 (IntKind.wrap .i64 (v8 + 1)))) else none) else (some v3)) := by kernel_rfl
theorem cmp_Or_int_l0_zero (n : Nat) (v3 : Int) (v6 : List Int) (v7 : Int) (v8 : Int) : cmp_Or_int_l0 n 0 v3 v6 v7 v8 = none := by kernel_rfl
theorem cmp_Or_int_l0_fold (n : Nat) (v3 : Int) (v6 : List Int) (hl : List.length v6 < 9223372036854775807) (m i : Nat) (hi : i ≤ List.length v6) (hm : List.length v6 - i < m) : cmp_Or_int_l0 n m v3 v6 (List.length v6 : Int) (i : Int) = foldK (S := Unit) (fun i (a : Int) s K => (bif (!decide (a = v3)) then (some a) else (K ()))) (fun s => (some v3)) (List.drop i v6) i () := range_loop v6 (0 : Int) hl (fun m (k : Int) (s : Unit) => cmp_Or_int_l0 n m v3 v6 (List.length v6 : Int) k) _ _ (fun m i s => (cmp_Or_int_l0_eq n m v3 v6 (List.length v6 : Int) (i : Int)).trans (by kernel_rfl)) m i hi hm ()
theorem cmp_Or_int_eq (n : Nat) (x0 : List Int) : cmp_Or_int n x0 = (cmp_Or_int_l0 n n 0 x0 (List.length x0 : Int) 0) := by kernel_rfl
noncomputable def C30 (n : Nat) : Call2 E := more tt gl H (C29 n) n 65 Try.f65 [.t (.sl (.int .i64))] (C29 n)
noncomputable def Cr30 : Nat → Nat → Call2 E
  | 0, n => C30 n
  | d + 1, n => (more tt gl H (Cr30 d n) n 68 Try.f68 [.t (.nm 2), .t (.nm 2)] (more tt gl H (Cr30 d n) n 67 Try.f67 [.t (.sl (.nm 2)), .t (.sl (.nm 2)), .fn 68 []] (more tt gl H (Cr30 d n) n 47 Try.f47 [.t (.nm 1), .t (.nm 1)] (C30 n))))
noncomputable def C31 (n : Nat) : Call2 E := Cr30 (n + 1) n

/- clapperbridge/value.Cmp -/
noncomputable def value_Cmp (d : Nat) (n : Nat) (x0 : ApiValue) (x1 : ApiValue) : Option Int := F2 (E := E) tt gl H (Cr30 d n) n 47 Try.f47 [.t (.nm 1), .t (.nm 1)] (x0, x1, ())

/- slices.CompareFunc[[]clapperbridge/api.Field,[]clapperbridge/api.Field,clapperbridge/api.Field,clapperbridge/api.Field] -/
noncomputable def slices_CompareFunc_Field_by_value_Cmp_1 (d : Nat) (n : Nat) (x0 : List ApiField) (x1 : List ApiField) (x2 : (Unit)) : Option Int := F2 (E := E) tt gl H (Cr30 d n) n 67 Try.f67 [.t (.sl (.nm 2)), .t (.sl (.nm 2)), .fn 68 []] (x0, x1, x2, ())
noncomputable def slices_CompareFunc_Field_by_value_Cmp_1_l0 (d : Nat) (n : Nat) (m0 : Nat) (v0 : List ApiField) (v1 : List ApiField) (v11 : List ApiField) (v12 : Int) (v13 : Int) : Option Int := lp (E := E) (ps := [.t (.sl (.nm 2)), .t (.sl (.nm 2)), .fn 68 []]) tt gl H (Cr30 d n) n 67 Try.f67 [1, 0, 1, 0] [] m0 ⟨mkT 39 0 [(0, .t (.sl (.nm 2)) v0), (1, .t (.sl (.nm 2)) v1), (2, .func 68 []), (11, .t (.sl (.nm 2)) v11), (12, .t (.int .i64) v12), (13, .t (.int .i64) v13)], mkB 156 0 []⟩

/- clapperbridge/value.Cmp$1 -/
noncomputable def value_Cmp_1 (d : Nat) (n : Nat) (x0 : ApiField) (x1 : ApiField) : Option Int := F2 (E := E) tt gl H (Cr30 d n) n 68 Try.f68 [.t (.nm 2), .t (.nm 2)] (x0, x1, ())
theorem value_Cmp_eq (d : Nat) (n : Nat) (x0 : ApiValue) (x1 : ApiValue) : value_Cmp (d + 1) n x0 x1 = (bif (decide (x0.Kind = 3)) then (Option.bind (value_order n x0.N) fun r1 => (Option.bind (value_order n x1.N) fun r2 => (Option.bind (cmp_Compare_int n x0.Kind x1.Kind) fun r3 => (Option.bind (cmp_Compare_int n r1 r2) fun r4 => (Option.bind (cmp_Or_int n [r3, r4, (Go.Lib.compareBytes x0.S x1.S)]) fun r5 => (bif (!decide (r5 = 0)) then (some r5) else (Option.bind (slices_CompareFunc_Field_by_value_Cmp_1 d n x0.Fields x1.Fields (())) fun r6 => (some r6)))))))) else (Option.bind (cmp_Compare_int n x0.Kind x1.Kind) fun r7 => (Option.bind (cmp_Compare_int n x0.N x1.N) fun r8 => (Option.bind (cmp_Or_int n [r7, r8, (Go.Lib.compareBytes x0.S x1.S)]) fun r9 => (bif (!decide (r9 = 0)) then (some r9) else (Option.bind (slices_CompareFunc_Field_by_value_Cmp_1 d n x0.Fields x1.Fields (())) fun r10 => (some r10))))))) := by kernel_rfl
theorem slices_CompareFunc_Field_by_value_Cmp_1_l0_eq (d : Nat) (n : Nat) (m0 : Nat) (v0 : List ApiField) (v1 : List ApiField) (v11 : List ApiField) (v12 : Int) (v13 : Int) : slices_CompareFunc_Field_by_value_Cmp_1_l0 (d + 1) n (m0 + 1) v0 v1 v11 v12 v13 = (bif (decide (v13 < v12)) then (bif (decide (0 ≤ v13) && decide (v13 < List.length v11)) then (bif (decide (v13 ≥ (List.length v1 : Int))) then (some 1) else (bif (decide (0 ≤ v13) && decide (v13 < List.length v1)) then (Option.bind (value_Cmp_1 d n (List.getD v11 (Int.toNat v13) (ApiField.mk [] (ApiValue.mk 0 0 [] []))) (List.getD v1 (Int.toNat v13) (ApiField.mk [] (ApiValue.mk 0 0 [] [])))) fun r1 => (bif (!decide (r1 = 0)) then (some r1) else (slices_CompareFunc_Field_by_value_Cmp_1_l0 (d + 1) n m0 v0 v1 v11 v12 (IntKind.wrap .i64 (v13 + 1))))) else none)) else none) else (bif (decide ((List.length v0 : Int) < (List.length v1 : Int))) then (some (-1)) else (some 0))) := by kernel_rfl
theorem slices_CompareFunc_Field_by_value_Cmp_1_l0_zero (d : Nat) (n : Nat) (v0 : List ApiField) (v1 : List ApiField) (v11 : List ApiField) (v12 : Int) (v13 : Int) : slices_CompareFunc_Field_by_value_Cmp_1_l0 d n 0 v0 v1 v11 v12 v13 = none := by kernel_rfl
theorem slices_CompareFunc_Field_by_value_Cmp_1_l0_fold (d : Nat) (n : Nat) (v0 : List ApiField) (v1 : List ApiField) (v11 : List ApiField) (hl : List.length v11 < 9223372036854775807) (m i : Nat) (hi : i ≤ List.length v11) (hm : List.length v11 - i < m) : slices_CompareFunc_Field_by_value_Cmp_1_l0 (d + 1) n m v0 v1 v11 (List.length v11 : Int) (i : Int) = foldK (S := Unit) (fun i (a : ApiField) s K => (bif (decide ((i : Int) ≥ (List.length v1 : Int))) then (some 1) else (bif (decide (0 ≤ (i : Int)) && decide ((i : Int) < List.length v1)) then (Option.bind (value_Cmp_1 d n a (List.getD v1 (Int.toNat (i : Int)) (ApiField.mk [] (ApiValue.mk 0 0 [] [])))) fun r1 => (bif (!decide (r1 = 0)) then (some r1) else (K ()))) else none))) (fun s => (bif (decide ((List.length v0 : Int) < (List.length v1 : Int))) then (some (-1)) else (some 0))) (List.drop i v11) i () := range_loop v11 (ApiField.mk [] (ApiValue.mk 0 0 [] [])) hl (fun m (k : Int) (s : Unit) => slices_CompareFunc_Field_by_value_Cmp_1_l0 (d + 1) n m v0 v1 v11 (List.length v11 : Int) k) _ _ (fun m i s => (slices_CompareFunc_Field_by_value_Cmp_1_l0_eq d n m v0 v1 v11 (List.length v11 : Int) (i : Int)).trans (by kernel_rfl)) m i hi hm ()
theorem slices_CompareFunc_Field_by_value_Cmp_1_eq (d : Nat) (n : Nat) (x0 : List ApiField) (x1 : List ApiField) (x2 : (Unit)) : slices_CompareFunc_Field_by_value_Cmp_1 (d + 1) n x0 x1 x2 = (slices_CompareFunc_Field_by_value_Cmp_1_l0 (d + 1) n n x0 x1 x0 (List.length x0 : Int) 0) := by kernel_rfl
theorem value_Cmp_1_eq (d : Nat) (n : Nat) (x0 : ApiField) (x1 : ApiField) : value_Cmp_1 (d + 1) n x0 x1 = (Option.bind (value_Cmp d n x0.Val x1.Val) fun r1 => (Option.bind (cmp_Or_int n [(Go.Lib.compareBytes x0.Name x1.Name), r1]) fun r2 => (some r2))) := by kernel_rfl

/- clapperbridge/rel.Cmp -/
noncomputable def rel_Cmp (n : Nat) (x0 : List ApiValue) (x1 : List ApiValue) : Option Int := F2 (E := E) tt gl H (C31 n) n 28 Try.f28 [.t (.sl (.nm 1)), .t (.sl (.nm 1))] (x0, x1, ())
noncomputable def rel_Cmp_l0 (n : Nat) (m0 : Nat) (v0 : List ApiValue) (v1 : List ApiValue) (v11 : Int) (v12 : Int) : Option Int := lp (E := E) (ps := [.t (.sl (.nm 1)), .t (.sl (.nm 1))]) tt gl H (C31 n) n 28 Try.f28 [1, 0, 1, 0] [] m0 ⟨mkT 33 0 [(0, .t (.sl (.nm 1)) v0), (1, .t (.sl (.nm 1)) v1), (11, .t (.int .i64) v11), (12, .t (.int .i64) v12)], mkB 132 0 []⟩
theorem rel_Cmp_l0_eq (n : Nat) (m0 : Nat) (v0 : List ApiValue) (v1 : List ApiValue) (v11 : Int) (v12 : Int) : rel_Cmp_l0 n (m0 + 1) v0 v1 v11 v12 = (bif (decide (v12 < v11)) then (bif (decide (0 ≤ v12) && decide (v12 < List.length v0)) then (bif (decide (0 ≤ v12) && decide (v12 < List.length v1)) then (Option.bind (value_Cmp n n (List.getD v0 (Int.toNat v12) (ApiValue.mk 0 0 [] [])) (List.getD v1 (Int.toNat v12) (ApiValue.mk 0 0 [] []))) fun r1 => (bif (!decide (r1 = 0)) then (some r1) else (rel_Cmp_l0 n m0 v0 v1 v11 (IntKind.wrap .i64 (v12 + 1))))) else none) else none) else (Option.bind (cmp_Compare_int n (List.length v0 : Int) (List.length v1 : Int)) fun r2 => (some r2))) := by kernel_rfl
theorem rel_Cmp_l0_zero (n : Nat) (v0 : List ApiValue) (v1 : List ApiValue) (v11 : Int) (v12 : Int) : rel_Cmp_l0 n 0 v0 v1 v11 v12 = none := by kernel_rfl
theorem rel_Cmp_l0_fold (n : Nat) (v0 : List ApiValue) (v1 : List ApiValue) (hl : List.length v0 < 9223372036854775807) (m i : Nat) (hi : i ≤ List.length v0) (hm : List.length v0 - i < m) : rel_Cmp_l0 n m v0 v1 (List.length v0 : Int) (i : Int) = foldK (S := Unit) (fun i (a : ApiValue) s K => (bif (decide (0 ≤ (i : Int)) && decide ((i : Int) < List.length v1)) then (Option.bind (value_Cmp n n a (List.getD v1 (Int.toNat (i : Int)) (ApiValue.mk 0 0 [] []))) fun r1 => (bif (!decide (r1 = 0)) then (some r1) else (K ()))) else none)) (fun s => (Option.bind (cmp_Compare_int n (List.length v0 : Int) (List.length v1 : Int)) fun r2 => (some r2))) (List.drop i v0) i () := range_loop v0 (ApiValue.mk 0 0 [] []) hl (fun m (k : Int) (s : Unit) => rel_Cmp_l0 n m v0 v1 (List.length v0 : Int) k) _ _ (fun m i s => (rel_Cmp_l0_eq n m v0 v1 (List.length v0 : Int) (i : Int)).trans (by kernel_rfl)) m i hi hm ()
theorem rel_Cmp_eq (n : Nat) (x0 : List ApiValue) (x1 : List ApiValue) : rel_Cmp n x0 x1 = (rel_Cmp_l0 n n x0 x1 (mnI (List.length x0 : Int) (List.length x1 : Int)) 0) := by kernel_rfl
noncomputable def C32 (n : Nat) : Call2 E := more tt gl H (C31 n) n 28 Try.f28 [.t (.sl (.nm 1)), .t (.sl (.nm 1))] (C31 n)

/- clapperbridge/value.Same -/
noncomputable def value_Same (n : Nat) (x0 : ApiValue) (x1 : ApiValue) : Option Bool := F2 (E := E) tt gl H (C32 n) n 61 Try.f61 [.t (.nm 1), .t (.nm 1)] (x0, x1, ())
theorem value_Same_eq (n : Nat) (x0 : ApiValue) (x1 : ApiValue) : value_Same n x0 x1 = (Option.bind (value_Cmp n n x0 x1) fun r1 => (some (decide (r1 = 0)))) := by kernel_rfl
noncomputable def C33 (n : Nat) : Call2 E := more tt gl H (C32 n) n 61 Try.f61 [.t (.nm 1), .t (.nm 1)] (C32 n)

/- clapperbridge/rel.agree$1 -/
noncomputable def rel_agree_1 (n : Nat) (x0 : List UInt8) (x1 : Rel) (x2 : List ApiValue) (x3 : List ApiValue) : Option Bool := F2 (E := E) tt gl H (C33 n) n 59 Try.f59 [.t .str, .imm (.nm 3), .imm (.sl (.nm 1)), .imm (.sl (.nm 1))] (x0, x1, x2, x3, ())
theorem rel_agree_1_eq (n : Nat) (x0 : List UInt8) (x1 : Rel) (x2 : List ApiValue) (x3 : List ApiValue) : rel_agree_1 n x0 x1 x2 x3 = (Option.bind (rel_Col n x1 x0) fun r1 => (bif (decide (0 ≤ r1.1) && decide (r1.1 < List.length x2)) then (bif (decide (0 ≤ r1.1) && decide (r1.1 < List.length x3)) then (Option.bind (value_Same n (List.getD x2 (Int.toNat r1.1) (ApiValue.mk 0 0 [] [])) (List.getD x3 (Int.toNat r1.1) (ApiValue.mk 0 0 [] []))) fun r2 => (some (!r2))) else none) else none)) := by kernel_rfl
noncomputable def C34 (n : Nat) : Call2 E := more tt gl H (C33 n) n 59 Try.f59 [.t .str, .imm (.nm 3), .imm (.sl (.nm 1)), .imm (.sl (.nm 1))] (C33 n)

/- slices.IndexFunc[[]string,string] -/
noncomputable def slices_IndexFunc_string_by_rel_agree_1 (n : Nat) (x0 : List (List UInt8)) (x1 : (Rel × (List ApiValue) × (List ApiValue) × Unit)) : Option Int := F2 (E := E) tt gl H (C34 n) n 89 Try.f89 [.t (.sl .str), .fn 59 [(.nm 3), (.sl (.nm 1)), (.sl (.nm 1))]] (x0, x1, ())
noncomputable def slices_IndexFunc_string_by_rel_agree_1_l0 (n : Nat) (m0 : Nat) (v0 : List (List UInt8)) (v1c0 : Rel) (v1c1 : List ApiValue) (v1c2 : List ApiValue) (v7 : Int) (v8 : Int) : Option Int := lp (E := E) (ps := [.t (.sl .str), .fn 59 [(.nm 3), (.sl (.nm 1)), (.sl (.nm 1))]]) tt gl H (C34 n) n 89 Try.f89 [1, 0, 1, 0] [] m0 ⟨mkT 19 0 [(0, .t (.sl .str) v0), (1, .func 59 [⟨(.nm 3), v1c0⟩, ⟨(.sl (.nm 1)), v1c1⟩, ⟨(.sl (.nm 1)), v1c2⟩]), (7, .t (.int .i64) v7), (8, .t (.int .i64) v8)], mkB 76 0 []⟩
theorem slices_IndexFunc_string_by_rel_agree_1_l0_eq (n : Nat) (m0 : Nat) (v0 : List (List UInt8)) (v1c0 : Rel) (v1c1 : List ApiValue) (v1c2 : List ApiValue) (v7 : Int) (v8 : Int) : slices_IndexFunc_string_by_rel_agree_1_l0 n (m0 + 1) v0 v1c0 v1c1 v1c2 v7 v8 = (bif (decide (v8 < v7)) then (bif (decide (0 ≤ v8) && decide (v8 < List.length v0)) then (Option.bind (rel_agree_1 n (List.getD v0 (Int.toNat v8) []) v1c0 v1c1 v1c2) fun r1 => (bif r1 then (some v8) else (slices_IndexFunc_string_by_rel_agree_1_l0 n m0 v0 v1c0 v1c1 v1c2 v7 (IntKind.wrap .i64 (v8 + 1))))) else none) else (some (-1))) := by kernel_rfl
theorem slices_IndexFunc_string_by_rel_agree_1_l0_zero (n : Nat) (v0 : List (List UInt8)) (v1c0 : Rel) (v1c1 : List ApiValue) (v1c2 : List ApiValue) (v7 : Int) (v8 : Int) : slices_IndexFunc_string_by_rel_agree_1_l0 n 0 v0 v1c0 v1c1 v1c2 v7 v8 = none := by kernel_rfl
theorem slices_IndexFunc_string_by_rel_agree_1_l0_fold (n : Nat) (v0 : List (List UInt8)) (v1c0 : Rel) (v1c1 : List ApiValue) (v1c2 : List ApiValue) (hl : List.length v0 < 9223372036854775807) (m i : Nat) (hi : i ≤ List.length v0) (hm : List.length v0 - i < m) : slices_IndexFunc_string_by_rel_agree_1_l0 n m v0 v1c0 v1c1 v1c2 (List.length v0 : Int) (i : Int) = foldK (S := Unit) (fun i (a : (List UInt8)) s K => (Option.bind (rel_agree_1 n a v1c0 v1c1 v1c2) fun r1 => (bif r1 then (some (i : Int)) else (K ())))) (fun s => (some (-1))) (List.drop i v0) i () := range_loop v0 [] hl (fun m (k : Int) (s : Unit) => slices_IndexFunc_string_by_rel_agree_1_l0 n m v0 v1c0 v1c1 v1c2 (List.length v0 : Int) k) _ _ (fun m i s => (slices_IndexFunc_string_by_rel_agree_1_l0_eq n m v0 v1c0 v1c1 v1c2 (List.length v0 : Int) (i : Int)).trans (by kernel_rfl)) m i hi hm ()
theorem slices_IndexFunc_string_by_rel_agree_1_eq (n : Nat) (x0 : List (List UInt8)) (x1 : (Rel × (List ApiValue) × (List ApiValue) × Unit)) : slices_IndexFunc_string_by_rel_agree_1 n x0 x1 = (slices_IndexFunc_string_by_rel_agree_1_l0 n n x0 x1.1 x1.2.1 x1.2.2.1 (List.length x0 : Int) 0) := by kernel_rfl
noncomputable def C35 (n : Nat) : Call2 E := more tt gl H (C34 n) n 89 Try.f89 [.t (.sl .str), .fn 59 [(.nm 3), (.sl (.nm 1)), (.sl (.nm 1))]] (C34 n)

/- slices.ContainsFunc[[]string,string] -/
noncomputable def slices_ContainsFunc_string_by_rel_agree_1 (n : Nat) (x0 : List (List UInt8)) (x1 : (Rel × (List ApiValue) × (List ApiValue) × Unit)) : Option Bool := F2 (E := E) tt gl H (C35 n) n 58 Try.f58 [.t (.sl .str), .fn 59 [(.nm 3), (.sl (.nm 1)), (.sl (.nm 1))]] (x0, x1, ())
theorem slices_ContainsFunc_string_by_rel_agree_1_eq (n : Nat) (x0 : List (List UInt8)) (x1 : (Rel × (List ApiValue) × (List ApiValue) × Unit)) : slices_ContainsFunc_string_by_rel_agree_1 n x0 x1 = (Option.bind (slices_IndexFunc_string_by_rel_agree_1 n x0 (x1.1, x1.2.1, x1.2.2.1, ())) fun r1 => (some (decide (r1 ≥ 0)))) := by kernel_rfl
noncomputable def C36 (n : Nat) : Call2 E := more tt gl H (C35 n) n 58 Try.f58 [.t (.sl .str), .fn 59 [(.nm 3), (.sl (.nm 1)), (.sl (.nm 1))]] (C35 n)

/- clapperbridge/rel.agree -/
noncomputable def rel_agree (n : Nat) (x0 : Rel) (x1 : List ApiValue) (x2 : List ApiValue) : Option Bool := F2 (E := E) tt gl H (C36 n) n 40 Try.f40 [.t (.nm 3), .t (.sl (.nm 1)), .t (.sl (.nm 1))] (x0, x1, x2, ())
theorem rel_agree_eq (n : Nat) (x0 : Rel) (x1 : List ApiValue) (x2 : List ApiValue) : rel_agree n x0 x1 x2 = (Option.bind (slices_ContainsFunc_string_by_rel_agree_1 n x0.Key (x0, x1, x2, ())) fun r1 => (some (!r1))) := by kernel_rfl
noncomputable def C37 (n : Nat) : Call2 E := more tt gl H (C36 n) n 40 Try.f40 [.t (.nm 3), .t (.sl (.nm 1)), .t (.sl (.nm 1))] (C36 n)

/- clapperbridge/rel.Check -/
noncomputable def rel_Check (n : Nat) (x0 : Rel) : Option Int := F2 (E := E) tt gl H (C37 n) n 23 Try.f23 [.t (.nm 3)] (x0, ())
noncomputable def rel_Check_l0 (n : Nat) (m0 : Nat) (v21 : List (List ApiValue)) (v22 : Int) (v23 : Int) (w1 : Rel) : Option Int := lp (E := E) (ps := [.t (.nm 3)]) tt gl H (C37 n) n 23 Try.f23 [1, 1, 1, 0, 1, 0] [] m0 ⟨mkT 75 0 [(1, .ptr 1 (.nm 3) []), (21, .t (.sl (.sl (.nm 1))) v21), (22, .t (.int .i64) v22), (23, .t (.int .i64) v23)], mkB 300 0 [(1, .var (.nm 3) (.t (.nm 3) w1))]⟩
noncomputable def rel_Check_l2 (n : Nat) (m0 : Nat) (v53 : List (List ApiValue)) (v54 : Int) (v55 : Int) (w1 : Rel) : Option Int := lp (E := E) (ps := [.t (.nm 3)]) tt gl H (C37 n) n 23 Try.f23 [1, 1, 1, 1, 1, 0, 1, 0] [] m0 ⟨mkT 75 0 [(1, .ptr 1 (.nm 3) []), (53, .t (.sl (.sl (.nm 1))) v53), (54, .t (.int .i64) v54), (55, .t (.int .i64) v55)], mkB 300 0 [(1, .var (.nm 3) (.t (.nm 3) w1))]⟩
noncomputable def rel_Check_l4 (n : Nat) (m0 : Nat) (m1 : Nat) (v8 : List ApiValue) (v53 : List (List ApiValue)) (v54 : Int) (v55 : Int) (v63 : List (List ApiValue)) (v64 : Int) (v65 : Int) (w1 : Rel) : Option Int := lp (E := E) (ps := [.t (.nm 3)]) tt gl H (C37 n) n 23 Try.f23 [1, 1, 1, 1, 1, 0, 1, 0, 0, 1, 1, 0, 0, 1, 1, 0] [m0] m1 ⟨mkT 75 0 [(1, .ptr 1 (.nm 3) []), (8, .t (.sl (.nm 1)) v8), (53, .t (.sl (.sl (.nm 1))) v53), (54, .t (.int .i64) v54), (55, .t (.int .i64) v55), (63, .t (.sl (.sl (.nm 1))) v63), (64, .t (.int .i64) v64), (65, .t (.int .i64) v65)], mkB 300 0 [(1, .var (.nm 3) (.t (.nm 3) w1))]⟩
theorem rel_Check_l4_eq (n : Nat) (m0 : Nat) (m1 : Nat) (v8 : List ApiValue) (v53 : List (List ApiValue)) (v54 : Int) (v55 : Int) (v63 : List (List ApiValue)) (v64 : Int) (v65 : Int) (w1 : Rel) : rel_Check_l4 n m0 (m1 + 1) v8 v53 v54 v55 v63 v64 v65 w1 = (bif (decide (v65 < v64)) then (bif (decide (0 ≤ v65) && decide (v65 < List.length v63)) then (Option.bind (rel_agree n w1 v8 (List.getD v63 (Int.toNat v65) [])) fun r4 => (bif r4 then (some 16) else (rel_Check_l4 n m0 m1 v8 v53 v54 v55 v63 v64 (IntKind.wrap .i64 (v65 + 1)) w1))) else none) else (rel_Check_l2 n m0 v53 v54 (IntKind.wrap .i64 (v55 + 1)) w1)) := by kernel_rfl
theorem rel_Check_l4_zero (n : Nat) (m0 : Nat) (v8 : List ApiValue) (v53 : List (List ApiValue)) (v54 : Int) (v55 : Int) (v63 : List (List ApiValue)) (v64 : Int) (v65 : Int) (w1 : Rel) : rel_Check_l4 n m0 0 v8 v53 v54 v55 v63 v64 v65 w1 = none := by kernel_rfl
theorem rel_Check_l4_fold (n : Nat) (m0 : Nat) (v8 : List ApiValue) (v53 : List (List ApiValue)) (v54 : Int) (v55 : Int) (v63 : List (List ApiValue)) (w1 : Rel) (hl : List.length v63 < 9223372036854775807) (m i : Nat) (hi : i ≤ List.length v63) (hm : List.length v63 - i < m) : rel_Check_l4 n m0 m v8 v53 v54 v55 v63 (List.length v63 : Int) (i : Int) w1 = foldK (S := Unit) (fun i (a : (List ApiValue)) s K => (Option.bind (rel_agree n w1 v8 a) fun r4 => (bif r4 then (some 16) else (K ())))) (fun s => (rel_Check_l2 n m0 v53 v54 (IntKind.wrap .i64 (v55 + 1)) w1)) (List.drop i v63) i () := range_loop v63 [] hl (fun m (k : Int) (s : Unit) => rel_Check_l4 n m0 m v8 v53 v54 v55 v63 (List.length v63 : Int) k w1) _ _ (fun m i s => (rel_Check_l4_eq n m0 m v8 v53 v54 v55 v63 (List.length v63 : Int) (i : Int) w1).trans (by kernel_rfl)) m i hi hm ()
theorem rel_Check_l2_eq (n : Nat) (m0 : Nat) (v53 : List (List ApiValue)) (v54 : Int) (v55 : Int) (w1 : Rel) : rel_Check_l2 n (m0 + 1) v53 v54 v55 w1 = (bif (decide (v55 < v54)) then (bif (decide (0 ≤ v55) && decide (v55 < List.length v53)) then (bif (decide (0 ≤ v55) && decide (v55 ≤ (List.length w1.Rows))) then (rel_Check_l4 n m0 n (List.getD v53 (Int.toNat v55) []) v53 v54 v55 (List.take (Int.toNat v55) w1.Rows) (List.length (List.take (Int.toNat v55) w1.Rows) : Int) 0 w1) else none) else none) else (some 0)) := by kernel_rfl
theorem rel_Check_l2_zero (n : Nat) (v53 : List (List ApiValue)) (v54 : Int) (v55 : Int) (w1 : Rel) : rel_Check_l2 n 0 v53 v54 v55 w1 = none := by kernel_rfl
theorem rel_Check_l0_eq (n : Nat) (m0 : Nat) (v21 : List (List ApiValue)) (v22 : Int) (v23 : Int) (w1 : Rel) : rel_Check_l0 n (m0 + 1) v21 v22 v23 w1 = (bif (decide (v23 < v22)) then (bif (decide (0 ≤ v23) && decide (v23 < List.length v21)) then (Option.bind (rel_row n w1 (List.getD v21 (Int.toNat v23) [])) fun r2 => (bif (!decide (r2 = 0)) then (some r2) else (bif (decide (v23 > 0)) then (bif (decide (0 ≤ (IntKind.wrap .i64 (v23 - 1))) && decide ((IntKind.wrap .i64 (v23 - 1)) < List.length w1.Rows)) then (Option.bind (rel_Cmp n (List.getD w1.Rows (Int.toNat (IntKind.wrap .i64 (v23 - 1))) []) (List.getD v21 (Int.toNat v23) [])) fun r3 => (bif (decide (r3 ≥ 0)) then (some 9) else (rel_Check_l0 n m0 v21 v22 (IntKind.wrap .i64 (v23 + 1)) w1))) else none) else (rel_Check_l0 n m0 v21 v22 (IntKind.wrap .i64 (v23 + 1)) w1)))) else none) else (bif (decide ((List.length w1.Key : Int) = 0)) then (some 0) else (rel_Check_l2 n n w1.Rows (List.length w1.Rows : Int) 0 w1))) := by kernel_rfl
theorem rel_Check_l0_zero (n : Nat) (v21 : List (List ApiValue)) (v22 : Int) (v23 : Int) (w1 : Rel) : rel_Check_l0 n 0 v21 v22 v23 w1 = none := by kernel_rfl
theorem rel_Check_l0_fold (n : Nat) (v21 : List (List ApiValue)) (w1 : Rel) (hl : List.length v21 < 9223372036854775807) (m i : Nat) (hi : i ≤ List.length v21) (hm : List.length v21 - i < m) : rel_Check_l0 n m v21 (List.length v21 : Int) (i : Int) w1 = foldK (S := Unit) (fun i (a : (List ApiValue)) s K => (Option.bind (rel_row n w1 a) fun r2 => (bif (!decide (r2 = 0)) then (some r2) else (bif (decide ((i : Int) > 0)) then (bif (decide (0 ≤ (IntKind.wrap .i64 ((i : Int) - 1))) && decide ((IntKind.wrap .i64 ((i : Int) - 1)) < List.length w1.Rows)) then (Option.bind (rel_Cmp n (List.getD w1.Rows (Int.toNat (IntKind.wrap .i64 ((i : Int) - 1))) []) a) fun r3 => (bif (decide (r3 ≥ 0)) then (some 9) else (K ()))) else none) else (K ()))))) (fun s => (bif (decide ((List.length w1.Key : Int) = 0)) then (some 0) else (rel_Check_l2 n n w1.Rows (List.length w1.Rows : Int) 0 w1))) (List.drop i v21) i () := range_loop v21 [] hl (fun m (k : Int) (s : Unit) => rel_Check_l0 n m v21 (List.length v21 : Int) k w1) _ _ (fun m i s => (rel_Check_l0_eq n m v21 (List.length v21 : Int) (i : Int) w1).trans (by kernel_rfl)) m i hi hm ()
theorem rel_Check_eq (n : Nat) (x0 : Rel) : rel_Check n x0 = (Option.bind (rel_head n x0) fun r1 => (bif (!decide (r1 = 0)) then (some r1) else (bif (decide ((List.length x0.Rows : Int) > 300)) then (some 2) else (rel_Check_l0 n n x0.Rows (List.length x0.Rows : Int) 0 x0)))) := by kernel_rfl
noncomputable def C38 (n : Nat) : Call2 E := more tt gl H (C37 n) n 23 Try.f23 [.t (.nm 3)] (C37 n)

/- slices.BinarySearchFunc[[][]clapperbridge/api.Value,[]clapperbridge/api.Value,[]clapperbridge/api.Value] -/
noncomputable def slices_BinarySearchFunc_LValue_by_rel_Cmp (n : Nat) (x0 : List (List ApiValue)) (x1 : List ApiValue) (x2 : (Unit)) : Option (Int × Bool) := F2 (E := E) tt gl H (C38 n) n 37 Try.f37 [.t (.sl (.sl (.nm 1))), .t (.sl (.nm 1)), .fn 28 []] (x0, x1, x2, ())
noncomputable def slices_BinarySearchFunc_LValue_by_rel_Cmp_l0 (n : Nat) (m0 : Nat) (v0 : List (List ApiValue)) (v1 : List ApiValue) (v8 : Int) (v9 : Int) (v10 : Int) : Option (Int × Bool) := lp (E := E) (ps := [.t (.sl (.sl (.nm 1))), .t (.sl (.nm 1)), .fn 28 []]) tt gl H (C38 n) n 37 Try.f37 [1, 1, 1, 0, 0] [] m0 ⟨mkT 49 0 [(0, .t (.sl (.sl (.nm 1))) v0), (1, .t (.sl (.nm 1)) v1), (2, .func 28 []), (8, .t (.int .i64) v8), (9, .t (.int .i64) v9), (10, .t (.int .i64) v10)], mkB 196 0 []⟩
theorem slices_BinarySearchFunc_LValue_by_rel_Cmp_l0_eq (n : Nat) (m0 : Nat) (v0 : List (List ApiValue)) (v1 : List ApiValue) (v8 : Int) (v9 : Int) (v10 : Int) : slices_BinarySearchFunc_LValue_by_rel_Cmp_l0 n (m0 + 1) v0 v1 v8 v9 v10 = (bif (decide (v9 < v10)) then (bif (decide (0 ≤ 1)) then (bif (decide (0 ≤ (IntKind.wrap .i64 (shr .u64 (IntKind.wrap .u64 (IntKind.wrap .i64 (v9 + v10))) 1))) && decide ((IntKind.wrap .i64 (shr .u64 (IntKind.wrap .u64 (IntKind.wrap .i64 (v9 + v10))) 1)) < List.length v0)) then (Option.bind (rel_Cmp n (List.getD v0 (Int.toNat (IntKind.wrap .i64 (shr .u64 (IntKind.wrap .u64 (IntKind.wrap .i64 (v9 + v10))) 1))) []) v1) fun r1 => (bif (decide (r1 < 0)) then (slices_BinarySearchFunc_LValue_by_rel_Cmp_l0 n m0 v0 v1 v8 (IntKind.wrap .i64 ((IntKind.wrap .i64 (shr .u64 (IntKind.wrap .u64 (IntKind.wrap .i64 (v9 + v10))) 1)) + 1)) v10) else (slices_BinarySearchFunc_LValue_by_rel_Cmp_l0 n m0 v0 v1 v8 v9 (IntKind.wrap .i64 (shr .u64 (IntKind.wrap .u64 (IntKind.wrap .i64 (v9 + v10))) 1))))) else none) else none) else (bif (decide (v9 < v8)) then (bif (decide (0 ≤ v9) && decide (v9 < List.length v0)) then (Option.bind (rel_Cmp n (List.getD v0 (Int.toNat v9) []) v1) fun r2 => (some (v9, (decide (r2 = 0))))) else none) else (some (v9, false)))) := by kernel_rfl
theorem slices_BinarySearchFunc_LValue_by_rel_Cmp_l0_zero (n : Nat) (v0 : List (List ApiValue)) (v1 : List ApiValue) (v8 : Int) (v9 : Int) (v10 : Int) : slices_BinarySearchFunc_LValue_by_rel_Cmp_l0 n 0 v0 v1 v8 v9 v10 = none := by kernel_rfl
theorem slices_BinarySearchFunc_LValue_by_rel_Cmp_eq (n : Nat) (x0 : List (List ApiValue)) (x1 : List ApiValue) (x2 : (Unit)) : slices_BinarySearchFunc_LValue_by_rel_Cmp n x0 x1 x2 = (slices_BinarySearchFunc_LValue_by_rel_Cmp_l0 n n x0 x1 (List.length x0 : Int) 0 (List.length x0 : Int)) := by kernel_rfl
noncomputable def C39 (n : Nat) : Call2 E := more tt gl H (C38 n) n 37 Try.f37 [.t (.sl (.sl (.nm 1))), .t (.sl (.nm 1)), .fn 28 []] (C38 n)

/- clapperbridge/rel.Insert$1 -/
noncomputable def rel_Insert_1 (n : Nat) (x0 : List ApiValue) (x1 : Rel) (x2 : List ApiValue) : Option Bool := F2 (E := E) tt gl H (C39 n) n 39 Try.f39 [.t (.sl (.nm 1)), .imm (.nm 3), .imm (.sl (.nm 1))] (x0, x1, x2, ())
theorem rel_Insert_1_eq (n : Nat) (x0 : List ApiValue) (x1 : Rel) (x2 : List ApiValue) : rel_Insert_1 n x0 x1 x2 = (Option.bind (rel_agree n x1 x0 x2) fun r1 => (some r1)) := by kernel_rfl
noncomputable def C40 (n : Nat) : Call2 E := more tt gl H (C39 n) n 39 Try.f39 [.t (.sl (.nm 1)), .imm (.nm 3), .imm (.sl (.nm 1))] (C39 n)

/- slices.IndexFunc[[][]clapperbridge/api.Value,[]clapperbridge/api.Value] -/
noncomputable def slices_IndexFunc_LValue_by_rel_Insert_1 (n : Nat) (x0 : List (List ApiValue)) (x1 : (Rel × (List ApiValue) × Unit)) : Option Int := F2 (E := E) tt gl H (C40 n) n 18 Try.f18 [.t (.sl (.sl (.nm 1))), .fn 39 [(.nm 3), (.sl (.nm 1))]] (x0, x1, ())
noncomputable def slices_IndexFunc_LValue_by_rel_Insert_1_l0 (n : Nat) (m0 : Nat) (v0 : List (List ApiValue)) (v1c0 : Rel) (v1c1 : List ApiValue) (v7 : Int) (v8 : Int) : Option Int := lp (E := E) (ps := [.t (.sl (.sl (.nm 1))), .fn 39 [(.nm 3), (.sl (.nm 1))]]) tt gl H (C40 n) n 18 Try.f18 [1, 0, 1, 0] [] m0 ⟨mkT 19 0 [(0, .t (.sl (.sl (.nm 1))) v0), (1, .func 39 [⟨(.nm 3), v1c0⟩, ⟨(.sl (.nm 1)), v1c1⟩]), (7, .t (.int .i64) v7), (8, .t (.int .i64) v8)], mkB 76 0 []⟩
theorem slices_IndexFunc_LValue_by_rel_Insert_1_l0_eq (n : Nat) (m0 : Nat) (v0 : List (List ApiValue)) (v1c0 : Rel) (v1c1 : List ApiValue) (v7 : Int) (v8 : Int) : slices_IndexFunc_LValue_by_rel_Insert_1_l0 n (m0 + 1) v0 v1c0 v1c1 v7 v8 = (bif (decide (v8 < v7)) then (bif (decide (0 ≤ v8) && decide (v8 < List.length v0)) then (Option.bind (rel_Insert_1 n (List.getD v0 (Int.toNat v8) []) v1c0 v1c1) fun r1 => (bif r1 then (some v8) else (slices_IndexFunc_LValue_by_rel_Insert_1_l0 n m0 v0 v1c0 v1c1 v7 (IntKind.wrap .i64 (v8 + 1))))) else none) else (some (-1))) := by kernel_rfl
theorem slices_IndexFunc_LValue_by_rel_Insert_1_l0_zero (n : Nat) (v0 : List (List ApiValue)) (v1c0 : Rel) (v1c1 : List ApiValue) (v7 : Int) (v8 : Int) : slices_IndexFunc_LValue_by_rel_Insert_1_l0 n 0 v0 v1c0 v1c1 v7 v8 = none := by kernel_rfl
theorem slices_IndexFunc_LValue_by_rel_Insert_1_l0_fold (n : Nat) (v0 : List (List ApiValue)) (v1c0 : Rel) (v1c1 : List ApiValue) (hl : List.length v0 < 9223372036854775807) (m i : Nat) (hi : i ≤ List.length v0) (hm : List.length v0 - i < m) : slices_IndexFunc_LValue_by_rel_Insert_1_l0 n m v0 v1c0 v1c1 (List.length v0 : Int) (i : Int) = foldK (S := Unit) (fun i (a : (List ApiValue)) s K => (Option.bind (rel_Insert_1 n a v1c0 v1c1) fun r1 => (bif r1 then (some (i : Int)) else (K ())))) (fun s => (some (-1))) (List.drop i v0) i () := range_loop v0 [] hl (fun m (k : Int) (s : Unit) => slices_IndexFunc_LValue_by_rel_Insert_1_l0 n m v0 v1c0 v1c1 (List.length v0 : Int) k) _ _ (fun m i s => (slices_IndexFunc_LValue_by_rel_Insert_1_l0_eq n m v0 v1c0 v1c1 (List.length v0 : Int) (i : Int)).trans (by kernel_rfl)) m i hi hm ()
theorem slices_IndexFunc_LValue_by_rel_Insert_1_eq (n : Nat) (x0 : List (List ApiValue)) (x1 : (Rel × (List ApiValue) × Unit)) : slices_IndexFunc_LValue_by_rel_Insert_1 n x0 x1 = (slices_IndexFunc_LValue_by_rel_Insert_1_l0 n n x0 x1.1 x1.2.1 (List.length x0 : Int) 0) := by kernel_rfl
noncomputable def C41 (n : Nat) : Call2 E := more tt gl H (C40 n) n 18 Try.f18 [.t (.sl (.sl (.nm 1))), .fn 39 [(.nm 3), (.sl (.nm 1))]] (C40 n)

/- slices.ContainsFunc[[][]clapperbridge/api.Value,[]clapperbridge/api.Value] -/
noncomputable def slices_ContainsFunc_LValue_by_rel_Insert_1 (n : Nat) (x0 : List (List ApiValue)) (x1 : (Rel × (List ApiValue) × Unit)) : Option Bool := F2 (E := E) tt gl H (C41 n) n 38 Try.f38 [.t (.sl (.sl (.nm 1))), .fn 39 [(.nm 3), (.sl (.nm 1))]] (x0, x1, ())
theorem slices_ContainsFunc_LValue_by_rel_Insert_1_eq (n : Nat) (x0 : List (List ApiValue)) (x1 : (Rel × (List ApiValue) × Unit)) : slices_ContainsFunc_LValue_by_rel_Insert_1 n x0 x1 = (Option.bind (slices_IndexFunc_LValue_by_rel_Insert_1 n x0 (x1.1, x1.2.1, ())) fun r1 => (some (decide (r1 ≥ 0)))) := by kernel_rfl
noncomputable def C42 (n : Nat) : Call2 E := more tt gl H (C41 n) n 38 Try.f38 [.t (.sl (.sl (.nm 1))), .fn 39 [(.nm 3), (.sl (.nm 1))]] (C41 n)

/- slices.Clone[[]clapperbridge/api.Col,clapperbridge/api.Col] -/
noncomputable def slices_Clone_Col_nil (n : Nat) (x0 : Unit) : Option (List Col) := F2 (E := E) tt gl H (C42 n) n 29 Try.f29 [.snil (.nm 0)] ((), ())
theorem slices_Clone_Col_nil_eq (n : Nat) (x0 : Unit) : slices_Clone_Col_nil n x0 = (some []) := by kernel_rfl
noncomputable def C43 (n : Nat) : Call2 E := more tt gl H (C42 n) n 29 Try.f29 [.snil (.nm 0)] (C42 n)

/- slices.Clone[[]clapperbridge/api.Col,clapperbridge/api.Col] -/
noncomputable def slices_Clone_Col_nn (n : Nat) (x0 : List Col) : Option (List Col) := F2 (E := E) tt gl H (C42 n) n 29 Try.f29 [.snn (.nm 0)] (x0, ())
theorem slices_Clone_Col_nn_eq (n : Nat) (x0 : List Col) : slices_Clone_Col_nn n x0 = (bif (decide (List.length ([] : List Col) + List.length x0 ≤ 4294967296)) then (bif (decide ((List.length (([] : List Col) ++ x0)) = List.length ([] ++ x0))) then (some ([] ++ x0)) else none) else none) := by kernel_rfl
theorem slices_Clone_Col_nn_hq (n : Nat) : slices_Clone_Col_nil n () = slices_Clone_Col_nn n [] := (slices_Clone_Col_nil_eq n ()).trans (Eq.symm ((slices_Clone_Col_nn_eq n []).trans (by kernel_rfl)))
noncomputable def C44 (n : Nat) : Call2 E := moreN tt gl H (C42 n) n 29 Try.f29 (.nm 0) (C43 n)

/- slices.Clone[[]string,string] -/
noncomputable def slices_Clone_string_nil (n : Nat) (x0 : Unit) : Option (List (List UInt8)) := F2 (E := E) tt gl H (C44 n) n 30 Try.f30 [.snil .str] ((), ())
theorem slices_Clone_string_nil_eq (n : Nat) (x0 : Unit) : slices_Clone_string_nil n x0 = (some []) := by kernel_rfl
noncomputable def C45 (n : Nat) : Call2 E := more tt gl H (C44 n) n 30 Try.f30 [.snil .str] (C44 n)

/- slices.Clone[[]string,string] -/
noncomputable def slices_Clone_string_nn (n : Nat) (x0 : List (List UInt8)) : Option (List (List UInt8)) := F2 (E := E) tt gl H (C44 n) n 30 Try.f30 [.snn .str] (x0, ())
theorem slices_Clone_string_nn_eq (n : Nat) (x0 : List (List UInt8)) : slices_Clone_string_nn n x0 = (bif (decide (List.length ([] : List (List UInt8)) + List.length x0 ≤ 4294967296)) then (bif (decide ((List.length (([] : List (List UInt8)) ++ x0)) = List.length ([] ++ x0))) then (some ([] ++ x0)) else none) else none) := by kernel_rfl
theorem slices_Clone_string_nn_hq (n : Nat) : slices_Clone_string_nil n () = slices_Clone_string_nn n [] := (slices_Clone_string_nil_eq n ()).trans (Eq.symm ((slices_Clone_string_nn_eq n []).trans (by kernel_rfl)))
noncomputable def C46 (n : Nat) : Call2 E := moreN tt gl H (C44 n) n 30 Try.f30 .str (C45 n)

/- slices.Clone[[]clapperbridge/api.Field,clapperbridge/api.Field] -/
noncomputable def slices_Clone_Field_nil (n : Nat) (x0 : Unit) : Option (List ApiField) := F2 (E := E) tt gl H (C46 n) n 74 Try.f74 [.snil (.nm 2)] ((), ())
theorem slices_Clone_Field_nil_eq (n : Nat) (x0 : Unit) : slices_Clone_Field_nil n x0 = (some []) := by kernel_rfl
noncomputable def C47 (n : Nat) : Call2 E := more tt gl H (C46 n) n 74 Try.f74 [.snil (.nm 2)] (C46 n)

/- slices.Clone[[]clapperbridge/api.Field,clapperbridge/api.Field] -/
noncomputable def slices_Clone_Field_nn (n : Nat) (x0 : List ApiField) : Option (List ApiField) := F2 (E := E) tt gl H (C46 n) n 74 Try.f74 [.snn (.nm 2)] (x0, ())
theorem slices_Clone_Field_nn_eq (n : Nat) (x0 : List ApiField) : slices_Clone_Field_nn n x0 = (bif (decide (0 = List.length ([] : List ApiField)) && decide (List.length ([] : List ApiField) + List.length x0 ≤ 4294967296)) then (bif (decide ((List.length (([] : List ApiField) ++ x0)) = List.length (([] : List ApiField) ++ x0))) then (some (([] : List ApiField) ++ x0)) else none) else none) := by kernel_rfl
theorem slices_Clone_Field_nn_hq (n : Nat) : slices_Clone_Field_nil n () = slices_Clone_Field_nn n [] := (slices_Clone_Field_nil_eq n ()).trans (Eq.symm ((slices_Clone_Field_nn_eq n []).trans (by kernel_rfl)))
noncomputable def C48 (n : Nat) : Call2 E := moreN tt gl H (C46 n) n 74 Try.f74 (.nm 2) (C47 n)
noncomputable def Cr48 : Nat → Nat → Call2 E
  | 0, n => C48 n
  | d + 1, n => (more tt gl H (Cr48 d n) n 52 Try.f52 [.t (.nm 1)] (C48 n))
noncomputable def C49 (n : Nat) : Call2 E := Cr48 (n + 1) n

/- clapperbridge/value.Copy -/
noncomputable def value_Copy (d : Nat) (n : Nat) (x0 : ApiValue) : Option ApiValue := F2 (E := E) tt gl H (Cr48 d n) n 52 Try.f52 [.t (.nm 1)] (x0, ())
noncomputable def value_Copy_l0 (d : Nat) (n : Nat) (m0 : Nat) (v10 : Int) (v11 : Int) (w1_0 : Int) (w1_1 : Int) (w1_2 : List UInt8) (w1_3l : Nat) (w2 : ApiValue) (w6 : List ApiField) : Option ApiValue := lp (E := E) (ps := [.t (.nm 1)]) tt gl H (Cr48 d n) n 52 Try.f52 [1, 1, 0, 1, 0] [] m0 ⟨mkT 28 0 [(1, .ptr 1 (.nm 1) []), (2, .ptr 2 (.nm 1) []), (10, .t (.int .i64) v10), (11, .t (.int .i64) v11)], mkB 112 0 [(1, .var (.nm 1) (.agg [.t (.int .i64) w1_0, .t (.int .i64) w1_1, .t .str w1_2, .fs 6 (.nm 2) 0 w1_3l])), (2, .var (.nm 1) (.t (.nm 1) w2)), (6, .row (.nm 2) w6)]⟩
theorem value_Copy_l0_eq (d : Nat) (n : Nat) (m0 : Nat) (v10 : Int) (v11 : Int) (w1_0 : Int) (w1_1 : Int) (w1_2 : List UInt8) (w1_3l : Nat) (w2 : ApiValue) (w6 : List ApiField) : value_Copy_l0 (d + 1) n (m0 + 1) v10 v11 w1_0 w1_1 w1_2 w1_3l w2 w6 = (bif (decide (v11 < v10)) then (bif (decide (0 ≤ v11) && decide (v11 < (w1_3l : Int))) then (bif (decide ((0 + (Int.toNat v11)) < List.length w6)) then (Option.bind (value_Copy d n ((List.getD w6 (0 + (Int.toNat v11)) (ApiField.mk [] (ApiValue.mk 0 0 [] []))).Val)) fun r2 => (bif (decide (0 ≤ v11) && decide (v11 < (w1_3l : Int))) then (bif (decide ((0 + (Int.toNat v11)) < List.length w6)) then (value_Copy_l0 (d + 1) n m0 v10 (IntKind.wrap .i64 (v11 + 1)) w1_0 w1_1 w1_2 w1_3l w2 (List.set w6 (0 + (Int.toNat v11)) (ApiField.mk ((List.getD w6 (0 + (Int.toNat v11)) (ApiField.mk [] (ApiValue.mk 0 0 [] []))).Name) r2))) else none) else none)) else none) else none) else (bif (((decide (0 + w1_3l ≤ List.length w6)) && true) && true) then (some (ApiValue.mk w1_0 w1_1 w1_2 (List.take w1_3l w6))) else none)) := by kernel_rfl
theorem value_Copy_l0_zero (d : Nat) (n : Nat) (v10 : Int) (v11 : Int) (w1_0 : Int) (w1_1 : Int) (w1_2 : List UInt8) (w1_3l : Nat) (w2 : ApiValue) (w6 : List ApiField) : value_Copy_l0 d n 0 v10 v11 w1_0 w1_1 w1_2 w1_3l w2 w6 = none := by kernel_rfl
theorem value_Copy_l0_fold (d : Nat) (n : Nat) (w1_0 : Int) (w1_1 : Int) (w1_2 : List UInt8) (w1_3l : Nat) (w2 : ApiValue) (N : Nat) (w6 : List ApiField) (hl : N < 9223372036854775807) (m i : Nat) (hi : i ≤ N) (hm : N - i < m) : value_Copy_l0 (d + 1) n m (N : Int) (i : Int) w1_0 w1_1 w1_2 w1_3l w2 w6 = foldN (S := (List ApiField)) (fun i s K => (bif (decide (0 ≤ (i : Int)) && decide ((i : Int) < (w1_3l : Int))) then (bif (decide ((0 + (Int.toNat (i : Int))) < List.length s)) then (Option.bind (value_Copy d n ((List.getD s (0 + (Int.toNat (i : Int))) (ApiField.mk [] (ApiValue.mk 0 0 [] []))).Val)) fun r2 => (bif (decide (0 ≤ (i : Int)) && decide ((i : Int) < (w1_3l : Int))) then (bif (decide ((0 + (Int.toNat (i : Int))) < List.length s)) then (K (List.set s (0 + (Int.toNat (i : Int))) (ApiField.mk ((List.getD s (0 + (Int.toNat (i : Int))) (ApiField.mk [] (ApiValue.mk 0 0 [] []))).Name) r2))) else none) else none)) else none) else none)) (fun s => (bif (((decide (0 + w1_3l ≤ List.length s)) && true) && true) then (some (ApiValue.mk w1_0 w1_1 w1_2 (List.take w1_3l s))) else none)) (N - i) i (w6) := count_loop N hl (fun m (k : Int) (s : (List ApiField)) => value_Copy_l0 (d + 1) n m (N : Int) k w1_0 w1_1 w1_2 w1_3l w2 s) _ _ (fun m i s => (value_Copy_l0_eq d n m (N : Int) (i : Int) w1_0 w1_1 w1_2 w1_3l w2 s).trans (by kernel_rfl)) m i hi hm (w6)
theorem value_Copy_eq (d : Nat) (n : Nat) (x0 : ApiValue) : value_Copy (d + 1) n x0 = (Option.bind (slices_Clone_Field_nn n x0.Fields) fun r1 => (value_Copy_l0 (d + 1) n n ((List.length r1) : Int) 0 x0.Kind x0.N x0.S (List.length r1) (ApiValue.mk 0 0 [] []) r1)) := by kernel_rfl

/- clapperbridge/rel.copies -/
noncomputable def rel_copies (n : Nat) (x0 : List (List ApiValue)) : Option (List (List ApiValue)) := F2 (E := E) tt gl H (C49 n) n 31 Try.f31 [.t (.sl (.sl (.nm 1)))] (x0, ())
noncomputable def rel_copies_l0 (n : Nat) (m0 : Nat) (v8 : List (List ApiValue)) (v9 : Int) (v10 : Int) (w19 : List (List ApiValue)) : Option (List (List ApiValue)) := lp (E := E) (ps := [.t (.sl (.sl (.nm 1)))]) tt gl H (C49 n) n 31 Try.f31 [1, 1, 0, 1, 0] [] m0 ⟨mkT 37 0 [(3, .fs 19 (.sl (.nm 1)) 0 (List.length w19)), (8, .t (.sl (.sl (.nm 1))) v8), (9, .t (.int .i64) v9), (10, .t (.int .i64) v10)], mkB 148 0 [(19, .row (.sl (.nm 1)) w19)]⟩
noncomputable def rel_copies_l2 (n : Nat) (m0 : Nat) (m1 : Nat) (v5 : List ApiValue) (v6l : Nat) (v8 : List (List ApiValue)) (v9 : Int) (v10 : Int) (v18 : Int) (v19 : Int) (w19 : List (List ApiValue)) (w22 : List ApiValue) : Option (List (List ApiValue)) := lp (E := E) (ps := [.t (.sl (.sl (.nm 1)))]) tt gl H (C49 n) n 31 Try.f31 [1, 1, 0, 1, 0, 0, 1, 1, 0, 0, 1, 1, 0, 1, 0] [m0] m1 ⟨mkT 37 0 [(3, .fs 19 (.sl (.nm 1)) 0 (List.length w19)), (5, .t (.sl (.nm 1)) v5), (6, .fs 22 (.nm 1) 0 v6l), (8, .t (.sl (.sl (.nm 1))) v8), (9, .t (.int .i64) v9), (10, .t (.int .i64) v10), (18, .t (.int .i64) v18), (19, .t (.int .i64) v19)], mkB 148 0 [(19, .row (.sl (.nm 1)) w19), (22, .row (.nm 1) w22)]⟩
theorem rel_copies_l2_eq (n : Nat) (m0 : Nat) (m1 : Nat) (v5 : List ApiValue) (v6l : Nat) (v8 : List (List ApiValue)) (v9 : Int) (v10 : Int) (v18 : Int) (v19 : Int) (w19 : List (List ApiValue)) (w22 : List ApiValue) : rel_copies_l2 n m0 (m1 + 1) v5 v6l v8 v9 v10 v18 v19 w19 w22 = (bif (decide (v19 < v18)) then (bif (decide (0 ≤ v19) && decide (v19 < List.length v5)) then (Option.bind (value_Copy n n (List.getD v5 (Int.toNat v19) (ApiValue.mk 0 0 [] []))) fun r1 => (bif (decide (0 ≤ v19) && decide (v19 < (v6l : Int))) then (bif (decide ((0 + (Int.toNat v19)) < List.length w22)) then (rel_copies_l2 n m0 m1 v5 v6l v8 v9 v10 v18 (IntKind.wrap .i64 (v19 + 1)) w19 (List.set w22 (0 + (Int.toNat v19)) r1)) else none) else none)) else none) else (bif ((decide (0 + v6l ≤ List.length w22)) && true) then (bif (decide ((List.length w19) = List.length w19) && decide (List.length w19 + List.length ([(List.take v6l w22)] : List (List ApiValue)) ≤ 4294967296)) then (rel_copies_l0 n m0 v8 v9 (IntKind.wrap .i64 (v10 + 1)) (w19 ++ [(List.take v6l w22)])) else none) else none)) := by kernel_rfl
theorem rel_copies_l2_zero (n : Nat) (m0 : Nat) (v5 : List ApiValue) (v6l : Nat) (v8 : List (List ApiValue)) (v9 : Int) (v10 : Int) (v18 : Int) (v19 : Int) (w19 : List (List ApiValue)) (w22 : List ApiValue) : rel_copies_l2 n m0 0 v5 v6l v8 v9 v10 v18 v19 w19 w22 = none := by kernel_rfl
theorem rel_copies_l2_fold (n : Nat) (m0 : Nat) (v5 : List ApiValue) (v6l : Nat) (v8 : List (List ApiValue)) (v9 : Int) (v10 : Int) (w19 : List (List ApiValue)) (w22 : List ApiValue) (hl : List.length v5 < 9223372036854775807) (m i : Nat) (hi : i ≤ List.length v5) (hm : List.length v5 - i < m) : rel_copies_l2 n m0 m v5 v6l v8 v9 v10 (List.length v5 : Int) (i : Int) w19 w22 = foldK (S := (List ApiValue)) (fun i (a : ApiValue) s K => (Option.bind (value_Copy n n a) fun r1 => (bif (decide (0 ≤ (i : Int)) && decide ((i : Int) < (v6l : Int))) then (bif (decide ((0 + (Int.toNat (i : Int))) < List.length s)) then (K (List.set s (0 + (Int.toNat (i : Int))) r1)) else none) else none))) (fun s => (bif ((decide (0 + v6l ≤ List.length s)) && true) then (bif (decide ((List.length w19) = List.length w19) && decide (List.length w19 + List.length ([(List.take v6l s)] : List (List ApiValue)) ≤ 4294967296)) then (rel_copies_l0 n m0 v8 v9 (IntKind.wrap .i64 (v10 + 1)) (w19 ++ [(List.take v6l s)])) else none) else none)) (List.drop i v5) i (w22) := range_loop v5 (ApiValue.mk 0 0 [] []) hl (fun m (k : Int) (s : (List ApiValue)) => rel_copies_l2 n m0 m v5 v6l v8 v9 v10 (List.length v5 : Int) k w19 s) _ _ (fun m i s => (rel_copies_l2_eq n m0 m v5 v6l v8 v9 v10 (List.length v5 : Int) (i : Int) w19 s).trans (by kernel_rfl)) m i hi hm (w22)
theorem rel_copies_l0_eq (n : Nat) (m0 : Nat) (v8 : List (List ApiValue)) (v9 : Int) (v10 : Int) (w19 : List (List ApiValue)) : rel_copies_l0 n (m0 + 1) v8 v9 v10 w19 = (bif (decide (v10 < v9)) then (bif (decide (0 ≤ v10) && decide (v10 < List.length v8)) then (bif (decide (0 ≤ (List.length (List.getD v8 (Int.toNat v10) []) : Int)) && decide ((List.length (List.getD v8 (Int.toNat v10) []) : Int) ≤ (List.length (List.getD v8 (Int.toNat v10) []) : Int)) && decide ((List.length (List.getD v8 (Int.toNat v10) []) : Int) ≤ 4294967296)) then (rel_copies_l2 n m0 n (List.getD v8 (Int.toNat v10) []) (Int.toNat (List.length (List.getD v8 (Int.toNat v10) []) : Int)) v8 v9 v10 (List.length (List.getD v8 (Int.toNat v10) []) : Int) 0 w19 (List.replicate (Int.toNat (List.length (List.getD v8 (Int.toNat v10) []) : Int)) (ApiValue.mk 0 0 [] []))) else none) else none) else (bif (decide ((List.length w19) = List.length w19)) then (some w19) else none)) := by kernel_rfl
theorem rel_copies_l0_zero (n : Nat) (v8 : List (List ApiValue)) (v9 : Int) (v10 : Int) (w19 : List (List ApiValue)) : rel_copies_l0 n 0 v8 v9 v10 w19 = none := by kernel_rfl
theorem rel_copies_eq (n : Nat) (x0 : List (List ApiValue)) : rel_copies n x0 = (rel_copies_l0 n n x0 (List.length x0 : Int) 0 []) := by kernel_rfl
noncomputable def C50 (n : Nat) : Call2 E := more tt gl H (C49 n) n 31 Try.f31 [.t (.sl (.sl (.nm 1)))] (C49 n)

/- clapperbridge/rel.Copy -/
noncomputable def rel_Copy (n : Nat) (x0 : Rel) : Option ((List UInt8) × (List Col) × (List (List UInt8)) × List (List ApiValue)) := F2 (E := E) tt gl H (C50 n) n 11 Try.f11 [.t (.nm 3)] (x0, ())
theorem rel_Copy_eq (n : Nat) (x0 : Rel) : rel_Copy n x0 = (Option.bind (slices_Clone_Col_nn n x0.Cols) fun r1 => (Option.bind (slices_Clone_string_nn n x0.Key) fun r2 => (Option.bind (rel_copies n x0.Rows) fun r3 => (bif (decide ((List.length r3) = List.length r3)) then (some (x0.Name, r1, r2, r3)) else none)))) := by kernel_rfl
noncomputable def C51 (n : Nat) : Call2 E := more tt gl H (C50 n) n 11 Try.f11 [.t (.nm 3)] (C50 n)
/-! slices.Insert: elements of one cell. -/
section
open Go.Shelf Go.RowKit Go.Lib
theorem insOver35 (w : World) (a b : Addr) (la ca lb cb : Nat) (hne : a.block ≠ b.block) (A : Array Value) (tA : TypeId) (fA : Nat × Nat) (B : Array Value) (tB : TypeId)
    (hA : w.heap[a.block]? = some (.cells A tA fA)) (hA0 : 0 < A.size) (hB : w.heap[b.block]? = some (.cells B tB (0, 0))) :
    (callFunc 55 #[.slice (some a) la ca, .slice (some b) lb cb]).run Try.prog w = .ok (.value (.bool false)) w := by
  rw [run_callFunc_extern Try.func55 (by kernel_rfl) (by kernel_rfl) (by kernel_rfl) (e := Extern.SlicesOverlaps.overlaps #[26, 26] #[4]) (by kernel_rfl),
    run_overlaps_row Try.underlying26 Try.sizeOf37 w a b la ca lb cb hne A tA fA B tB hA hA0 hB]
  rfl
theorem insInfo35 : (Try.prog.info? 37).map (fun i => (i.zero, i.size, i.bytes)) = some (some (Value.slice none 0 0), 1, 24) := by kernel_rfl
theorem insMix35 : Try.prog.follows .mixedOrders = true := by kernel_rfl

set_option maxHeartbeats 4000000 in
set_option maxRecDepth 100000 in
/-- There is room. -/
theorem insShift35 (b n c i m vb vo vc : Nat) (cs vs : List Value) (w : World) (A : Array Value) (tA : TypeId) (fA : Nat × Nat) (B : Array Value) (tB : TypeId) (hi : i < n) (hm : 0 < m) (hroom : n + m ≤ c) (hbig : n + m ≤ 1000000000) (hne : vb ≠ b)
    (hA : w.heap[vb]? = some (.cells A tA fA)) (hA0 : 0 < A.size) (hB : w.heap[b]? = some (.cells B tB (0, 0))) (hBs : B.size = c) (hcl : cs.length = n) (hvl : vs.length = m)
    (hcs : ∀ (j : Nat) (v : Value), cs[j]? = some v → B[j]? = some v) (hvs : ∀ (j : Nat) (v : Value), vs[j]? = some v → w.cell? ⟨vb, vo + j, none⟩ = some v) (h1c : ∀ v ∈ cs, v.oneCell' = true) (h1v : ∀ v ∈ vs, v.oneCell' = true) :
    Calls Try.prog 35 #[.slice (some ⟨b, 0, none⟩) n c, .int .i64 i, .slice (some ⟨vb, vo, none⟩) m vc] w fun e w' =>
      e = .returned (.slice (some ⟨b, 0, none⟩) (n + m) c) ∧ w' = (w.drew.setCells b (i + m) (cs.drop i)).setCells b i vs := by
  have u0 := run_underlying Try.underlying0; have u3 := run_underlying Try.underlying3; have u4 := run_underlying Try.underlying4; have u24 := run_underlying Try.underlying26
  have z0 := Try.sizeOf0; have z3 := Try.sizeOf3; have z4 := Try.sizeOf4; have z24 := Try.sizeOf26; have z9 := Try.sizeOf37
  have mixed := insMix35
  have hcell : ∀ j, w.cell? ⟨b, j, none⟩ = B[j]? := fun j => by simp [World.cell?, hB]
  have hfz : ∀ j, w.frozen? ⟨b, j, none⟩ = false := fun j => by simp [World.frozen?, hB]
  have hsp : ∀ j, j < n + m → (w.cell? ⟨b, j, none⟩).isSome = true := fun j hj => by rw [hcell, Array.getElem?_eq_getElem (by omega)]; rfl
  have hz1 : ¬ ((m : Int) = 0) := by omega
  have hz2 : ¬ ((i : Int) = (n : Int)) := by omega
  have hsz : (Try.prog.info? 37).map (·.size) = some 1 := by
    obtain ⟨i0, hi0, h0, h1, h2⟩ := info_parts insInfo35
    rw [hi0]; simp [h1]
  have hov : ∀ lb cb, (callFunc 55 #[.slice (some ⟨vb, vo, none⟩) m vc, .slice (some ⟨b, i + m, none⟩) lb cb]).run Try.prog w = .ok (.value (.bool false)) w := fun lb cb => insOver35 w ⟨vb, vo, none⟩ ⟨b, i + m, none⟩ m vc lb cb hne A tA fA B tB hA hA0 hB
  have hdl : (cs.drop i).length = n - i := by rw [List.length_drop, hcl]
  have hw1 : IntKind.i64.wrap ((i : Int) + (m : Int)) = (i : Int) + (m : Int) := by rw [IntKind.wrap_i64]; omega
  have hw2 : IntKind.i64.wrap ((n : Int) + (m : Int)) = (n : Int) + (m : Int) := by rw [IntKind.wrap_i64]; omega
  have hb1 : (0 : Int) ≤ (i : Int) + (m : Int) := by omega
  have hin : i ≤ n := by omega
  have htn : ((i : Int) + (m : Int)).toNat = i + m := by omega
  have hb2 : ¬ (c = i + m) := by omega
  have hb3 : (i : Int) ≤ (n : Int) + (m : Int) := by omega
  have hb4 : ¬ (c = i) := by omega
  have hcp1 : ∀ ty dc sc, (Builtin.copy_ #[26, 26] ty #[.slice (some ⟨b, i + m, none⟩) (n + m - (i + m)) dc, .slice (some ⟨b, i, none⟩) (n + m - i) sc]).run Try.prog w.drew = .ok (goInt (cs.drop i).length) (w.drew.setCells b (i + m) (cs.drop i)) := fun ty dc sc =>
    run_copy_cells w.drew _ _ ty 37 b (i + m) (n + m - (i + m)) dc ⟨b, i, none⟩ (n + m - i) sc (cs.drop i) Try.underlying26 hsz (by rw [hdl]; simp only [Nat.min_def]; split <;> omega)
      (fun j v hj => by rw [Addr.add_lit]; refine (hcell (i + j)).trans (hcs (i + j) v (by rwa [List.getElem?_drop] at hj)))
      (fun j hj => hsp _ (by omega)) (fun j hj => hfz _) (fun v hv => h1c v (List.mem_of_mem_drop hv))
  obtain ⟨W1, hW1⟩ : ∃ W1, W1 = w.drew.setCells b (i + m) (cs.drop i) := ⟨_, rfl⟩
  have hsp1 : ∀ k, k < n + m → (W1.cell? ⟨b, k, none⟩).isSome = true := fun k hk => by
    rw [hW1]
    exact isSome_setCells b (cs.drop i) (i + m) w.drew (fun j hj => hsp _ (by rw [hdl] at hj; omega)) k (hsp k hk)
  have hcp2 : ∀ (W : World), (∀ x, W.cell? x = W1.cell? x) → (∀ x, W.frozen? x = W1.frozen? x) → ∀ ty dc, (Builtin.copy_ #[26, 26] ty #[.slice (some ⟨b, i, none⟩) (n + m - i) dc, .slice (some ⟨vb, vo, none⟩) m vc]).run Try.prog W = .ok (goInt vs.length) (W.setCells b i vs) := fun W hWc hWf ty dc =>
    run_copy_cells W _ _ ty 37 b i (n + m - i) dc ⟨vb, vo, none⟩ m vc vs Try.underlying26 hsz (by rw [hvl]; simp only [Nat.min_def]; split <;> omega)
      (fun j v hj => by
        rw [Addr.add_lit, hWc, hW1, World.cell?_setCells_out b _ _ _ _ (fun h _ => absurd h hne)]
        exact hvs j v hj)
      (fun j hj => by rw [hWc]; exact hsp1 _ (by omega)) (fun j hj => by rw [hWf, hW1, World.frozen?_setCells]; exact hfz _) h1v
  rw [← hW1] at hcp1
  go_enter Try.func35, Try.ntmps35
  go_wp2_with (simp only [hov])
  go_region_law_o (refine step_copy_runI rfl _ _ 26 26 rfl _ _ (by simp [Act.eval, Act.put]) (by simp [Act.eval, Act.put]) (hcp1 _ _ _) ?_)
  go_wp2_with (at_builtin; refine wpList_copy_runI _ rfl _ _ 26 26 rfl _ _ rfl rfl (hcp2 _ (fun _ => rfl) (fun _ => rfl) _ _) ?_)
  go_ret
  first | exact ⟨rfl, rfl⟩ | exact ⟨rfl, by rw [hW1]⟩

set_option maxHeartbeats 4000000 in
set_option maxRecDepth 100000 in
/-- Nothing to be put in. -/
theorem insNil35 (sv : Option Addr) (n c i vc : Nat) (vv : Option Addr) (w : World) (hi : i ≤ n) (hnc : n ≤ c) :
    Calls Try.prog 35 #[.slice sv n c, .int .i64 i, .slice vv 0 vc] w fun e w' => e = .returned (.slice sv n c) ∧ w' = w := by
  have u0 := run_underlying Try.underlying0; have u3 := run_underlying Try.underlying3; have u4 := run_underlying Try.underlying4; have u24 := run_underlying Try.underlying26
  have z0 := Try.sizeOf0; have z3 := Try.sizeOf3; have z4 := Try.sizeOf4; have z24 := Try.sizeOf26; have z9 := Try.sizeOf37
  have mixed := insMix35
  have hi' : (i : Int) ≤ (n : Int) := by omega
  cases sv with
  | none =>
    go_enter Try.func35, Try.ntmps35
    go_wp2
    all_goals (go_ret; exact ⟨rfl, rfl⟩)
  | some a =>
    obtain ⟨ab, ao, asp⟩ := a
    go_enter Try.func35, Try.ntmps35
    go_wp2
    all_goals (go_ret; exact ⟨rfl, rfl⟩)

set_option maxHeartbeats 4000000 in
set_option maxRecDepth 100000 in
/-- Behind the last element, and there is room. -/
theorem insEndRoom35 (b n c m vb vo vc : Nat) (vs : List Value) (w : World) (B : Array Value) (tB : TypeId) (hm : 0 < m) (hroom : n + m ≤ c) (hbig : n + m ≤ 1000000000)
    (hB : w.heap[b]? = some (.cells B tB (0, 0))) (hBs : B.size = c) (hvl : vs.length = m) (hvs : ∀ (j : Nat) (v : Value), vs[j]? = some v → w.cell? ⟨vb, vo + j, none⟩ = some v) (h1v : ∀ v ∈ vs, v.oneCell' = true) :
    Calls Try.prog 35 #[.slice (some ⟨b, 0, none⟩) n c, .int .i64 n, .slice (some ⟨vb, vo, none⟩) m vc] w fun e w' =>
      e = .returned (.slice (some ⟨b, 0, none⟩) (n + m) c) ∧ w' = w.setCells b n vs := by
  have u0 := run_underlying Try.underlying0; have u3 := run_underlying Try.underlying3; have u4 := run_underlying Try.underlying4; have u24 := run_underlying Try.underlying26
  have z0 := Try.sizeOf0; have z3 := Try.sizeOf3; have z4 := Try.sizeOf4; have z24 := Try.sizeOf26; have z9 := Try.sizeOf37
  have mixed := insMix35
  have hcell : ∀ j, w.cell? ⟨b, j, none⟩ = B[j]? := fun j => by simp [World.cell?, hB]
  have hfz : ∀ j, w.frozen? ⟨b, j, none⟩ = false := fun j => by simp [World.frozen?, hB]
  have hz1 : ¬ ((m : Int) = 0) := by omega
  have hsrc : Src Try.prog 1 26 (.slice (some ⟨vb, vo, none⟩) m vc) m vs w := Src.ofSlice w Try.underlying26 ⟨vb, vo, none⟩ m vc vs (by omega) (fun j u hj => by rw [Addr.add_lit]; exact hvs j u hj) h1v
  go_enter Try.func35, Try.ntmps35
  go_wp2_with (at_builtin; refine wpList_append_room1 _ rfl _ _ 26 26 rfl 37 _ _ Try.underlying26 insInfo35 b 0 n c rfl _ rfl m vs hsrc hroom (fun j hj => by rw [hcell, Array.getElem?_eq_getElem (by omega)]; rfl) (fun j hj => hfz _) ?_)
  go_ret
  exact ⟨rfl, rfl⟩

set_option maxHeartbeats 4000000 in
set_option maxRecDepth 100000 in
/-- Behind the last element, and there is no room. -/
theorem insEndGrow35 (base : Option Addr) (n c m vb vo vc : Nat) (cs vs : List Value) (w : World) (hm : 0 < m) (hnc : n ≤ c) (hroom : c < n + m) (hbig : n + m ≤ 1000000000) (hcl : cs.length = n) (hvl : vs.length = m)
    (hnil : base = none → n = 0) (hcs : ∀ a, base = some a → ∀ (j : Nat) (v : Value), cs[j]? = some v → w.cell? (a.add j) = some v) (hvs : ∀ (j : Nat) (v : Value), vs[j]? = some v → w.cell? ⟨vb, vo + j, none⟩ = some v) (h1v : ∀ v ∈ vs, v.oneCell' = true) :
    Calls Try.prog 35 #[.slice base n c, .int .i64 n, .slice (some ⟨vb, vo, none⟩) m vc] w fun e w' =>
      e = .returned (.slice (some ⟨w.heap.size, 0, none⟩) (n + m) (grownCap w (n + m) c 37)) ∧
      w' = w.drew.alloc (.cells ((cs ++ vs).toArray ++ Builtin.zeroCells (Value.slice none 0 0).cells (grownCap w (n + m) c 37 - (n + m))) 37) := by
  have u0 := run_underlying Try.underlying0; have u3 := run_underlying Try.underlying3; have u4 := run_underlying Try.underlying4; have u24 := run_underlying Try.underlying26
  have z0 := Try.sizeOf0; have z3 := Try.sizeOf3; have z4 := Try.sizeOf4; have z24 := Try.sizeOf26; have z9 := Try.sizeOf37
  have mixed := insMix35
  obtain ⟨i0, hi0, hz0, hzs, hzb⟩ := info_parts insInfo35
  have hz1 : ¬ ((m : Int) = 0) := by omega
  have hsrc : Src Try.prog i0.size 26 (.slice (some ⟨vb, vo, none⟩) m vc) m vs w := by
    rw [hzs]
    exact Src.ofSlice w Try.underlying26 ⟨vb, vo, none⟩ m vc vs (by omega) (fun j u hj => by rw [Addr.add_lit]; exact hvs j u hj) h1v
  have hold : (Builtin.firstCells i0.size n (.slice base n c)).run Try.prog w.drew = .ok cs.toArray w.drew := by
    rw [hzs]
    cases base with
    | none =>
      have h0 := hnil rfl
      subst h0
      rw [List.length_eq_zero_iff.1 hcl]
      exact run_firstCells_none w.drew 1 0 0 c
    | some a => exact run_firstCells_some w.drew 1 n a n c cs (by omega) (fun j v hj => hcs a rfl j v hj)
  have hrun : ∀ ty, (Builtin.append_ #[26, 26] ty #[.slice base n c, .slice (some ⟨vb, vo, none⟩) m vc]).run Try.prog w = _ := fun ty =>
    run_append_grow_src w 26 26 ty 37 i0 _ Try.underlying26 hi0 hz0 base n c cs hold _ m vs hsrc hroom (by omega) (by rw [hzb]; exact growslice_fits hroom (by omega))
  go_enter Try.func35, Try.ntmps35
  cases base with
  | none =>
    have h0 := hnil rfl
    subst h0
    go_wp2_with (at_builtin; refine Lib.wpList_append_run _ rfl _ _ _ _ rfl _ _ rfl rfl _ _ (hrun _) ?_)
    go_ret
    exact ⟨rfl, rfl⟩
  | some a =>
    obtain ⟨ab, ao, asp⟩ := a
    go_wp2_with (at_builtin; refine Lib.wpList_append_run _ rfl _ _ _ _ rfl _ _ rfl rfl _ _ (hrun _) ?_)
    all_goals (go_ret; exact ⟨rfl, rfl⟩)

set_option maxHeartbeats 4000000 in
set_option maxRecDepth 100000 in
/-- Ahead of an element, and there is no room. -/
theorem insGrow35 (b n c i m vb vo vc : Nat) (cs vs : List Value) (w : World) (hi : i < n) (hm : 0 < m) (hnc : n ≤ c) (hroom : c < n + m) (hbig : n + m ≤ 1000000000) (hcl : cs.length = n) (hvl : vs.length = m)
    (hcs : ∀ (j : Nat) (v : Value), cs[j]? = some v → w.cell? ⟨b, j, none⟩ = some v) (hvs : ∀ (j : Nat) (v : Value), vs[j]? = some v → w.cell? ⟨vb, vo + j, none⟩ = some v) (h1c : ∀ v ∈ cs, v.oneCell' = true) (h1v : ∀ v ∈ vs, v.oneCell' = true) :
    Calls Try.prog 35 #[.slice (some ⟨b, 0, none⟩) n c, .int .i64 i, .slice (some ⟨vb, vo, none⟩) m vc] w fun e w' =>
      e = .returned (.slice (some ⟨w.heap.size, 0, none⟩) (n + m) (grownCap w (n + m) c 37)) ∧
      w' = (((w.alloc (.cells ((cs.take i).toArray ++ Builtin.zeroCells (Value.slice none 0 0).cells (n + m - i) ++ Builtin.zeroCells (Value.slice none 0 0).cells (grownCap w (n + m) c 37 - (n + m))) 37)).drew.setCells w.heap.size i vs).drew).setCells w.heap.size (i + m) (cs.drop i) := by
  have u0 := run_underlying Try.underlying0; have u3 := run_underlying Try.underlying3; have u4 := run_underlying Try.underlying4; have u24 := run_underlying Try.underlying26
  have z0 := Try.sizeOf0; have z3 := Try.sizeOf3; have z4 := Try.sizeOf4; have z24 := Try.sizeOf26; have z9 := Try.sizeOf37
  have mixed := insMix35
  obtain ⟨i0, hi0, hz0, hzs, hzb⟩ := info_parts insInfo35
  have hz1 : ¬ ((m : Int) = 0) := by omega
  have hz2 : ¬ ((i : Int) = (n : Int)) := by omega
  have hz3 : (c : Int) < (n : Int) + (m : Int) := by omega
  have hsz : (Try.prog.info? 37).map (·.size) = some 1 := by rw [hi0]; simp [hzs]
  have hbw : b < w.heap.size := block_lt_of_cell (hcs 0 _ (List.getElem?_eq_getElem (by omega)))
  have hvw : vb < w.heap.size := block_lt_of_cell (hvs 0 _ (List.getElem?_eq_getElem (by omega)))
  have hkk : (n : Int) + (m : Int) - (i : Int) = ((n + m - i : Nat) : Int) := by omega
  have hik : i + (n + m - i) = n + m := by omega
  have hold : (Builtin.firstCells i0.size i (.slice (some ⟨b, 0, none⟩) i c)).run Try.prog w.drew = .ok (cs.take i).toArray w.drew := by
    rw [hzs]
    exact run_firstCells_some w.drew 1 i ⟨b, 0, none⟩ i c (cs.take i) (by rw [List.length_take]; omega) (fun j v hj => by
      rw [Addr.add_lit, Nat.zero_add]
      rw [List.getElem?_take] at hj
      split at hj
      · exact hcs j v hj
      · cases hj)
  have hrz : ∀ ty, (Builtin.append_ #[26, 3] ty #[.slice (some ⟨b, 0, none⟩) i c, .int .i64 ((n : Int) + (m : Int) - (i : Int))]).run Try.prog w =
      .ok (.slice (some ⟨w.heap.size, 0, none⟩) (n + m) (grownCap w (n + m) c 37)) (w.drew.alloc (.cells ((cs.take i).toArray ++ Builtin.zeroCells (Value.slice none 0 0).cells (n + m - i) ++ Builtin.zeroCells (Value.slice none 0 0).cells (grownCap w (n + m) c 37 - (n + m))) 37)) := fun ty => by
    have h := Lib.run_append_grow_zeros w 26 3 ty 37 i0 _ .i64 .i64 Try.underlying26 Try.underlying3 hi0 hz0 (some ⟨b, 0, none⟩) i c (cs.take i) hold (n + m - i) (by omega) (by omega) (by omega) (by omega) (by rw [hzb]; omega) (by rw [hzb, hik]; exact growslice_fits hroom (by omega))
    rw [hik] at h
    rw [hkk]
    exact h
  obtain ⟨G, hG⟩ : ∃ G, G = grownCap w (n + m) c 37 := ⟨_, rfl⟩
  obtain ⟨ROW, hROW⟩ : ∃ ROW : Array Value, ROW = (cs.take i).toArray ++ Builtin.zeroCells (Value.slice none 0 0).cells (n + m - i) ++ Builtin.zeroCells (Value.slice none 0 0).cells (G - (n + m)) := ⟨_, rfl⟩
  rw [← hG] at hrz ⊢
  rw [← hROW] at hrz ⊢
  have hRl : n + m ≤ ROW.size := by
    rw [hROW]
    simp [Builtin.zeroCells, Value.cells]
    omega
  obtain ⟨W1, hW1⟩ : ∃ W1, W1 = w.drew.alloc (.cells ROW 37) := ⟨_, rfl⟩
  rw [← hW1] at hrz
  have hN : ∀ j, j < n + m → (W1.cell? ⟨w.heap.size, j, none⟩).isSome = true := fun j hj => by
    rw [hW1, World.cell?_alloc_at (w := w.drew) ROW _ w.heap.size j rfl, Array.getElem?_eq_getElem (by omega)]; rfl
  have hNf : ∀ j, W1.frozen? ⟨w.heap.size, j, none⟩ = false := fun j => by rw [hW1]; exact World.frozen?_alloc_at (w := w.drew) ROW _ w.heap.size j rfl
  have hOb : ∀ j v, w.cell? ⟨b, j, none⟩ = some v → W1.cell? ⟨b, j, none⟩ = some v := fun j v h => by rw [hW1, World.cell?_alloc_past (w := w.drew) _ b j hbw]; exact h
  have hOv : ∀ j v, w.cell? ⟨vb, j, none⟩ = some v → W1.cell? ⟨vb, j, none⟩ = some v := fun j v h => by rw [hW1, World.cell?_alloc_past (w := w.drew) _ vb j hvw]; exact h
  have hcpA : ∀ (W : World), (∀ x, W.cell? x = W1.cell? x) → (∀ x, W.frozen? x = W1.frozen? x) → ∀ ty dc, (Builtin.copy_ #[26, 26] ty #[.slice (some ⟨w.heap.size, i, none⟩) (n + m - i) dc, .slice (some ⟨vb, vo, none⟩) m vc]).run Try.prog W = .ok (goInt vs.length) (W.setCells w.heap.size i vs) := fun W hWc hWf ty dc =>
    run_copy_cells W _ _ ty 37 w.heap.size i (n + m - i) dc ⟨vb, vo, none⟩ m vc vs Try.underlying26 hsz (by rw [hvl]; simp only [Nat.min_def]; split <;> omega)
      (fun j v hj => by rw [Addr.add_lit, hWc]; exact hOv _ v (hvs j v hj))
      (fun j hj => by rw [hWc]; exact hN _ (by omega)) (fun j hj => by rw [hWf]; exact hNf _) h1v
  have hGn : n + m ≤ G := by rw [hG]; exact grownCap_ge w _ _ _
  have hGi : ¬ (G = i) := by omega
  have hGim : ¬ (G = i + m) := by omega
  have hci : ¬ (c = i) := by omega
  have hbN : b ≠ w.heap.size := by omega
  have hdl : (cs.drop i).length = n - i := by rw [List.length_drop, hcl]
  have hcpB : ∀ (W : World), (∀ x, W.cell? x = (W1.setCells w.heap.size i vs).cell? x) → (∀ x, W.frozen? x = (W1.setCells w.heap.size i vs).frozen? x) → ∀ ty dc sc, (Builtin.copy_ #[26, 26] ty #[.slice (some ⟨w.heap.size, i + m, none⟩) (n + m - (i + m)) dc, .slice (some ⟨b, i, none⟩) (n - i) sc]).run Try.prog W = .ok (goInt (cs.drop i).length) (W.setCells w.heap.size (i + m) (cs.drop i)) := fun W hWc hWf ty dc sc =>
    run_copy_cells W _ _ ty 37 w.heap.size (i + m) (n + m - (i + m)) dc ⟨b, i, none⟩ (n - i) sc (cs.drop i) Try.underlying26 hsz (by rw [hdl]; simp only [Nat.min_def]; split <;> omega)
      (fun j v hj => by
        rw [Addr.add_lit, hWc, World.cell?_setCells_out _ _ _ _ _ (fun h _ => absurd h hbN)]
        exact hOb _ v (hcs (i + j) v (by rwa [List.getElem?_drop] at hj)))
      (fun j hj => by rw [hWc]; exact isSome_setCells _ _ _ _ (fun t ht => hN _ (by omega)) _ (hN _ (by omega)))
      (fun j hj => by rw [hWf, World.frozen?_setCells]; exact hNf _) (fun v hv => h1c v (List.mem_of_mem_drop hv))
  subst hW1
  have hE1 : ∀ x, ((w.alloc (.cells ROW 37)).drew).cell? x = (w.drew.alloc (.cells ROW 37)).cell? x := fun x => rfl
  have hE2 : ∀ x, ((w.alloc (.cells ROW 37)).drew).frozen? x = (w.drew.alloc (.cells ROW 37)).frozen? x := fun x => rfl
  have hF1 : ∀ x, (((w.alloc (.cells ROW 37)).drew.setCells w.heap.size i vs).drew).cell? x = ((w.drew.alloc (.cells ROW 37)).setCells w.heap.size i vs).cell? x := fun x => rfl
  have hF2 : ∀ x, (((w.alloc (.cells ROW 37)).drew.setCells w.heap.size i vs).drew).frozen? x = ((w.drew.alloc (.cells ROW 37)).setCells w.heap.size i vs).frozen? x := fun x => rfl
  have hw1 : IntKind.i64.wrap ((i : Int) + (m : Int)) = (i : Int) + (m : Int) := by rw [IntKind.wrap_i64]; omega
  have hw2 : IntKind.i64.wrap ((n : Int) + (m : Int)) = (n : Int) + (m : Int) := by rw [IntKind.wrap_i64]; omega
  have hw3 : IntKind.i64.wrap ((n : Int) + (m : Int) - (i : Int)) = (n : Int) + (m : Int) - (i : Int) := by rw [IntKind.wrap_i64]; omega
  have hb1 : (0 : Int) ≤ (i : Int) + (m : Int) := by omega
  have hin : i ≤ n := by omega
  have htn : ((i : Int) + (m : Int)).toNat = i + m := by omega
  have hb3 : (i : Int) ≤ (n : Int) := by omega
  clear hkk hik hold hROW hG hRl
  go_enter Try.func35, Try.ntmps35
  go_wp2_with (first
    | (at_builtin; refine Lib.wpList_append_run _ rfl _ _ _ _ rfl _ _ rfl rfl _ _ (hrz _) ?_)
    | (at_builtin; refine wpList_copy_runI _ rfl _ _ 26 26 rfl _ _ rfl rfl (hcpA _ hE1 hE2 _ _) ?_)
    | (at_builtin; refine wpList_copy_runI _ rfl _ _ 26 26 rfl _ _ rfl rfl (hcpB _ (fun _ => rfl) (fun _ => rfl) _ _ _) ?_))
  go_region_law_o (refine step_copy_runI rfl _ _ 26 26 rfl (.slice (some ⟨w.heap.size, i + m, none⟩) (n + m - (i + m)) (G - (i + m))) (.slice (some ⟨b, i, none⟩) (n - i) (c - i)) (by simp [Act.eval, Act.put]) (by simp [Act.eval, Act.put]) (hcpB _ hF1 hF2 3 (G - (i + m)) (c - i)) ?_)
  go_wp2
  go_ret
  exact ⟨rfl, rfl⟩
theorem insc35 : InsC Try.prog 35 := insC_of (by rfl) insNil35 insShift35 insEndRoom35 insEndGrow35 insGrow35
end

theorem fnok35 : FnOK Try.prog 35 := ⟨Try.f35, _, Try.func35, by decide, rfl⟩
noncomputable def C52 (n : Nat) : Call2 E := moreI 35 (.sl (.nm 1)) (C51 n)

/- clapperbridge/rel.Insert -/
noncomputable def rel_Insert (n : Nat) (x0 : Rel) (x1 : List ApiValue) : Option (Rel × Int) := F2 (E := E) tt gl H (C52 n) n 14 Try.f14 [.t (.nm 3), .t (.sl (.nm 1))] (x0, x1, ())
theorem rel_Insert_eq (n : Nat) (x0 : Rel) (x1 : List ApiValue) : rel_Insert n x0 x1 = (Option.bind (rel_Check n x0) fun r1 => (bif (!decide (r1 = 0)) then (some ((Rel.mk [] [] [] []), r1)) else (Option.bind (rel_row n x0 x1) fun r2 => (bif (!decide (r2 = 0)) then (some ((Rel.mk [] [] [] []), r2)) else (Option.bind (slices_BinarySearchFunc_LValue_by_rel_Cmp n x0.Rows x1 (())) fun r3 => (bif r3.2 then (some ((Rel.mk [] [] [] []), 5)) else (bif (decide ((List.length x0.Key : Int) > 0)) then (Option.bind (slices_ContainsFunc_LValue_by_rel_Insert_1 n x0.Rows (x0, x1, ())) fun r4 => (bif r4 then (some ((Rel.mk [] [] [] []), 16)) else (bif (decide ((List.length x0.Rows : Int) = 300)) then (some ((Rel.mk [] [] [] []), 6)) else (Option.bind (rel_Copy n x0) fun r5 => (Option.bind (rel_copies n [x1]) fun r6 => (bif (decide (0 ≤ (0 : Int)) && decide ((0 : Int) < ((List.length r6) : Int))) then (bif (decide ((0 + (Int.toNat (0 : Int))) < List.length r6)) then (Option.bind (insO r5.2.2.2 (List.length r5.2.2.2) r3.1 [(List.getD r6 (0 + (Int.toNat (0 : Int))) [])]) fun r7 => (bif (((decide ((List.length r7) = List.length r7)) && true) && true) then (some ((Rel.mk r5.1 r5.2.1 r5.2.2.1 r7), 0)) else none)) else none) else none)))))) else (bif (decide ((List.length x0.Rows : Int) = 300)) then (some ((Rel.mk [] [] [] []), 6)) else (Option.bind (rel_Copy n x0) fun r8 => (Option.bind (rel_copies n [x1]) fun r9 => (bif (decide (0 ≤ (0 : Int)) && decide ((0 : Int) < ((List.length r9) : Int))) then (bif (decide ((0 + (Int.toNat (0 : Int))) < List.length r9)) then (Option.bind (insO r8.2.2.2 (List.length r8.2.2.2) r3.1 [(List.getD r9 (0 + (Int.toNat (0 : Int))) [])]) fun r10 => (bif (((decide ((List.length r10) = List.length r10)) && true) && true) then (some ((Rel.mk r8.1 r8.2.1 r8.2.2.1 r10), 0)) else none)) else none) else none))))))))))) := by kernel_rfl
noncomputable def C53 (n : Nat) : Call2 E := more tt gl H (C52 n) n 14 Try.f14 [.t (.nm 3), .t (.sl (.nm 1))] (C52 n)

/- clapperbridge/clapref2.HeadErr -/
noncomputable def ref2_HeadErr (n : Nat) (x0 : Rel) : Option Int := F2 (E := E) tt gl H (C53 n) n 45 Try.f45 [.t (.nm 3)] (x0, ())
noncomputable def ref2_HeadErr_l0 (n : Nat) (m0 : Nat) (v24 : List Col) (v25 : Int) (v26 : Int) (w1 : Rel) (w21 : List ((List UInt8) × Bool)) (w22 : List ((List UInt8) × Bool)) : Option Int := lp (E := E) (ps := [.t (.nm 3)]) tt gl H (C53 n) n 45 Try.f45 [1, 1, 1, 1, 1, 0, 1, 0] [] m0 ⟨mkT 72 0 [(1, .ptr 1 (.nm 3) []), (3, .mp 21 .str .bool), (4, .mp 22 .str .bool), (24, .t (.sl (.nm 0)) v24), (25, .t (.int .i64) v25), (26, .t (.int .i64) v26)], mkB 288 0 [(1, .var (.nm 3) (.t (.nm 3) w1)), (21, .mp .str .bool w21), (22, .mp .str .bool w22)]⟩
noncomputable def ref2_HeadErr_l3 (n : Nat) (m0 : Nat) (v54 : List (List UInt8)) (v55 : Int) (v56 : Int) (w21 : List ((List UInt8) × Bool)) (w22 : List ((List UInt8) × Bool)) : Option Int := lp (E := E) (ps := [.t (.nm 3)]) tt gl H (C53 n) n 45 Try.f45 [1, 1, 1, 1, 1, 1, 0, 1, 0] [] m0 ⟨mkT 72 0 [(3, .mp 21 .str .bool), (4, .mp 22 .str .bool), (54, .t (.sl .str) v54), (55, .t (.int .i64) v55), (56, .t (.int .i64) v56)], mkB 288 0 [(21, .mp .str .bool w21), (22, .mp .str .bool w22)]⟩
theorem ref2_HeadErr_l3_eq (n : Nat) (m0 : Nat) (v54 : List (List UInt8)) (v55 : Int) (v56 : Int) (w21 : List ((List UInt8) × Bool)) (w22 : List ((List UInt8) × Bool)) : ref2_HeadErr_l3 n (m0 + 1) v54 v55 v56 w21 w22 = (bif (decide (v56 < v55)) then (bif (decide (0 ≤ v56) && decide (v56 < List.length v54)) then (bif (!(mgetD E .str .bool w21 (List.getD v54 (Int.toNat v56) []))) then (some 15) else (bif (mgetD E .str .bool w22 (List.getD v54 (Int.toNat v56) [])) then (some 5) else (ref2_HeadErr_l3 n m0 v54 v55 (IntKind.wrap .i64 (v56 + 1)) w21 (mset E .str .bool (List.getD v54 (Int.toNat v56) []) true w22)))) else none) else (some 0)) := by kernel_rfl
theorem ref2_HeadErr_l3_zero (n : Nat) (v54 : List (List UInt8)) (v55 : Int) (v56 : Int) (w21 : List ((List UInt8) × Bool)) (w22 : List ((List UInt8) × Bool)) : ref2_HeadErr_l3 n 0 v54 v55 v56 w21 w22 = none := by kernel_rfl
theorem ref2_HeadErr_l3_fold (n : Nat) (v54 : List (List UInt8)) (w21 : List ((List UInt8) × Bool)) (w22 : List ((List UInt8) × Bool)) (hl : List.length v54 < 9223372036854775807) (m i : Nat) (hi : i ≤ List.length v54) (hm : List.length v54 - i < m) : ref2_HeadErr_l3 n m v54 (List.length v54 : Int) (i : Int) w21 w22 = foldK (S := (List ((List UInt8) × Bool))) (fun i (a : (List UInt8)) s K => (bif (!(mgetD E .str .bool w21 a)) then (some 15) else (bif (mgetD E .str .bool s a) then (some 5) else (K (mset E .str .bool a true s))))) (fun s => (some 0)) (List.drop i v54) i (w22) := range_loop v54 [] hl (fun m (k : Int) (s : (List ((List UInt8) × Bool))) => ref2_HeadErr_l3 n m v54 (List.length v54 : Int) k w21 s) _ _ (fun m i s => (ref2_HeadErr_l3_eq n m v54 (List.length v54 : Int) (i : Int) w21 s).trans (by kernel_rfl)) m i hi hm (w22)
theorem ref2_HeadErr_l0_eq (n : Nat) (m0 : Nat) (v24 : List Col) (v25 : Int) (v26 : Int) (w1 : Rel) (w21 : List ((List UInt8) × Bool)) (w22 : List ((List UInt8) × Bool)) : ref2_HeadErr_l0 n (m0 + 1) v24 v25 v26 w1 w21 w22 = (bif (decide (v26 < v25)) then (bif (decide (0 ≤ v26) && decide (v26 < List.length v24)) then (Option.bind (value_Name n ((List.getD v24 (Int.toNat v26) (Col.mk [] 0)).Name)) fun r2 => (bif (!r2) then (some 15) else (bif (mgetD E .str .bool w21 ((List.getD v24 (Int.toNat v26) (Col.mk [] 0)).Name)) then (some 5) else (bif (decide (((List.getD v24 (Int.toNat v26) (Col.mk [] 0)).Kind) < 1)) then (some 8) else (bif (decide (((List.getD v24 (Int.toNat v26) (Col.mk [] 0)).Kind) > 5)) then (some 8) else (ref2_HeadErr_l0 n m0 v24 v25 (IntKind.wrap .i64 (v26 + 1)) w1 (mset E .str .bool ((List.getD v24 (Int.toNat v26) (Col.mk [] 0)).Name) true w21) w22)))))) else none) else (ref2_HeadErr_l3 n n w1.Key (List.length w1.Key : Int) 0 w21 w22)) := by kernel_rfl
theorem ref2_HeadErr_l0_zero (n : Nat) (v24 : List Col) (v25 : Int) (v26 : Int) (w1 : Rel) (w21 : List ((List UInt8) × Bool)) (w22 : List ((List UInt8) × Bool)) : ref2_HeadErr_l0 n 0 v24 v25 v26 w1 w21 w22 = none := by kernel_rfl
theorem ref2_HeadErr_l0_fold (n : Nat) (v24 : List Col) (w1 : Rel) (w22 : List ((List UInt8) × Bool)) (w21 : List ((List UInt8) × Bool)) (hl : List.length v24 < 9223372036854775807) (m i : Nat) (hi : i ≤ List.length v24) (hm : List.length v24 - i < m) : ref2_HeadErr_l0 n m v24 (List.length v24 : Int) (i : Int) w1 w21 w22 = foldK (S := (List ((List UInt8) × Bool))) (fun i (a : Col) s K => (Option.bind (value_Name n (a.Name)) fun r2 => (bif (!r2) then (some 15) else (bif (mgetD E .str .bool s (a.Name)) then (some 5) else (bif (decide ((a.Kind) < 1)) then (some 8) else (bif (decide ((a.Kind) > 5)) then (some 8) else (K (mset E .str .bool (a.Name) true s)))))))) (fun s => (ref2_HeadErr_l3 n n w1.Key (List.length w1.Key : Int) 0 s w22)) (List.drop i v24) i (w21) := range_loop v24 (Col.mk [] 0) hl (fun m (k : Int) (s : (List ((List UInt8) × Bool))) => ref2_HeadErr_l0 n m v24 (List.length v24 : Int) k w1 s w22) _ _ (fun m i s => (ref2_HeadErr_l0_eq n m v24 (List.length v24 : Int) (i : Int) w1 s w22).trans (by kernel_rfl)) m i hi hm (w21)
theorem ref2_HeadErr_eq (n : Nat) (x0 : Rel) : ref2_HeadErr n x0 = (Option.bind (value_Name n x0.Name) fun r1 => (bif (!r1) then (some 15) else (bif (decide ((List.length x0.Cols : Int) = 0)) then (some 3) else (bif (decide ((List.length x0.Cols : Int) > 12)) then (some 2) else (ref2_HeadErr_l0 n n x0.Cols (List.length x0.Cols : Int) 0 x0 [] []))))) := by kernel_rfl
noncomputable def C54 (n : Nat) : Call2 E := more tt gl H (C53 n) n 45 Try.f45 [.t (.nm 3)] (C53 n)

/- clapperbridge/clapref2.RowErr -/
noncomputable def ref2_RowErr (n : Nat) (x0 : Rel) (x1 : List ApiValue) : Option Int := F2 (E := E) tt gl H (C54 n) n 41 Try.f41 [.t (.nm 3), .t (.sl (.nm 1))] (x0, x1, ())
noncomputable def ref2_RowErr_l0 (n : Nat) (m0 : Nat) (v1 : List ApiValue) (v14 : Int) (v15 : Int) (w2 : Rel) : Option Int := lp (E := E) (ps := [.t (.nm 3), .t (.sl (.nm 1))]) tt gl H (C54 n) n 41 Try.f41 [1, 1, 0, 1, 0] [] m0 ⟨mkT 51 0 [(1, .t (.sl (.nm 1)) v1), (2, .ptr 2 (.nm 3) []), (14, .t (.int .i64) v14), (15, .t (.int .i64) v15)], mkB 204 0 [(2, .var (.nm 3) (.t (.nm 3) w2))]⟩
theorem ref2_RowErr_l0_eq (n : Nat) (m0 : Nat) (v1 : List ApiValue) (v14 : Int) (v15 : Int) (w2 : Rel) : ref2_RowErr_l0 n (m0 + 1) v1 v14 v15 w2 = (bif (decide (v15 < v14)) then (bif (decide (0 ≤ v15) && decide (v15 < List.length v1)) then (Option.bind (value_Check n (List.getD v1 (Int.toNat v15) (ApiValue.mk 0 0 [] []))) fun r1 => (bif (decide (r1 = 0)) then (bif (decide (0 ≤ v15) && decide (v15 < List.length v1)) then (bif (!decide (((List.getD v1 (Int.toNat v15) (ApiValue.mk 0 0 [] [])).Kind) = 11)) then (bif (decide (0 ≤ v15) && decide (v15 < List.length v1)) then (bif (decide (0 ≤ v15) && decide (v15 < List.length w2.Cols)) then (bif (!decide (((List.getD v1 (Int.toNat v15) (ApiValue.mk 0 0 [] [])).Kind) = ((List.getD w2.Cols (Int.toNat v15) (Col.mk [] 0)).Kind))) then (bif (!decide ((8 : Int) = 0)) then (some 8) else (ref2_RowErr_l0 n m0 v1 v14 (IntKind.wrap .i64 (v15 + 1)) w2)) else (bif (!decide (r1 = 0)) then (some r1) else (ref2_RowErr_l0 n m0 v1 v14 (IntKind.wrap .i64 (v15 + 1)) w2))) else none) else none) else (bif (!decide (r1 = 0)) then (some r1) else (ref2_RowErr_l0 n m0 v1 v14 (IntKind.wrap .i64 (v15 + 1)) w2))) else none) else (bif (!decide (r1 = 0)) then (some r1) else (ref2_RowErr_l0 n m0 v1 v14 (IntKind.wrap .i64 (v15 + 1)) w2)))) else none) else (some 0)) := by kernel_rfl
theorem ref2_RowErr_l0_zero (n : Nat) (v1 : List ApiValue) (v14 : Int) (v15 : Int) (w2 : Rel) : ref2_RowErr_l0 n 0 v1 v14 v15 w2 = none := by kernel_rfl
theorem ref2_RowErr_l0_fold (n : Nat) (v1 : List ApiValue) (w2 : Rel) (hl : List.length v1 < 9223372036854775807) (m i : Nat) (hi : i ≤ List.length v1) (hm : List.length v1 - i < m) : ref2_RowErr_l0 n m v1 (List.length v1 : Int) (i : Int) w2 = foldK (S := Unit) (fun i (a : ApiValue) s K => (Option.bind (value_Check n a) fun r1 => (bif (decide (r1 = 0)) then (bif (decide (0 ≤ (i : Int)) && decide ((i : Int) < List.length v1)) then (bif (!decide ((a.Kind) = 11)) then (bif (decide (0 ≤ (i : Int)) && decide ((i : Int) < List.length v1)) then (bif (decide (0 ≤ (i : Int)) && decide ((i : Int) < List.length w2.Cols)) then (bif (!decide ((a.Kind) = ((List.getD w2.Cols (Int.toNat (i : Int)) (Col.mk [] 0)).Kind))) then (bif (!decide ((8 : Int) = 0)) then (some 8) else (K ())) else (bif (!decide (r1 = 0)) then (some r1) else (K ()))) else none) else none) else (bif (!decide (r1 = 0)) then (some r1) else (K ()))) else none) else (bif (!decide (r1 = 0)) then (some r1) else (K ()))))) (fun s => (some 0)) (List.drop i v1) i () := range_loop v1 (ApiValue.mk 0 0 [] []) hl (fun m (k : Int) (s : Unit) => ref2_RowErr_l0 n m v1 (List.length v1 : Int) k w2) _ _ (fun m i s => (ref2_RowErr_l0_eq n m v1 (List.length v1 : Int) (i : Int) w2).trans (by kernel_rfl)) m i hi hm ()
theorem ref2_RowErr_eq (n : Nat) (x0 : Rel) (x1 : List ApiValue) : ref2_RowErr n x0 x1 = (bif (!decide ((List.length x0.Cols : Int) = (List.length x1 : Int))) then (some 3) else (ref2_RowErr_l0 n n x1 (List.length x1 : Int) 0 x0)) := by kernel_rfl
noncomputable def C55 (n : Nat) : Call2 E := more tt gl H (C54 n) n 41 Try.f41 [.t (.nm 3), .t (.sl (.nm 1))] (C54 n)

/- clapperbridge/clapref2.Order$1 -/
noncomputable def ref2_Order_1 (n : Nat) (x0 : List ApiValue) : Option ApiValue := F2 (E := E) tt gl H (C55 n) n 46 Try.f46 [.t (.sl (.nm 1))] (x0, ())
noncomputable def ref2_Order_1_l0 (n : Nat) (m0 : Nat) (v7 : List ApiValue) (v8 : Int) (v9 : Int) (w2 : ApiValue) (w3_0 : Int) (w3_1 : Int) (w3_2 : List UInt8) (w3_3 : List ApiField) : Option ApiValue := lp (E := E) (ps := [.t (.sl (.nm 1))]) tt gl H (C55 n) n 46 Try.f46 [1, 1, 0, 1, 0] [] m0 ⟨mkT 22 0 [(2, .ptr 2 (.nm 1) []), (3, .ptr 3 (.nm 1) []), (7, .t (.sl (.nm 1)) v7), (8, .t (.int .i64) v8), (9, .t (.int .i64) v9)], mkB 88 0 [(2, .var (.nm 1) (.t (.nm 1) w2)), (3, .var (.nm 1) (.agg [.t (.int .i64) w3_0, .t (.int .i64) w3_1, .t .str w3_2, .sl 87 (.nm 2) w3_3])), (87, .grow (.nm 2) (List.length w3_3))]⟩
theorem ref2_Order_1_l0_eq (n : Nat) (m0 : Nat) (v7 : List ApiValue) (v8 : Int) (v9 : Int) (w2 : ApiValue) (w3_0 : Int) (w3_1 : Int) (w3_2 : List UInt8) (w3_3 : List ApiField) : ref2_Order_1_l0 n (m0 + 1) v7 v8 v9 w2 w3_0 w3_1 w3_2 w3_3 = (bif (decide (v9 < v8)) then (bif (decide (0 ≤ v9) && decide (v9 < List.length v7)) then (bif (decide ((List.length w3_3) = List.length w3_3) && decide (List.length w3_3 + List.length ([(ApiField.mk [] (List.getD v7 (Int.toNat v9) (ApiValue.mk 0 0 [] [])))] : List ApiField) ≤ 4294967296)) then (ref2_Order_1_l0 n m0 v7 v8 (IntKind.wrap .i64 (v9 + 1)) w2 w3_0 w3_1 w3_2 (w3_3 ++ [(ApiField.mk [] (List.getD v7 (Int.toNat v9) (ApiValue.mk 0 0 [] [])))])) else none) else none) else (some (ApiValue.mk w3_0 w3_1 w3_2 w3_3))) := by kernel_rfl
theorem ref2_Order_1_l0_zero (n : Nat) (v7 : List ApiValue) (v8 : Int) (v9 : Int) (w2 : ApiValue) (w3_0 : Int) (w3_1 : Int) (w3_2 : List UInt8) (w3_3 : List ApiField) : ref2_Order_1_l0 n 0 v7 v8 v9 w2 w3_0 w3_1 w3_2 w3_3 = none := by kernel_rfl
theorem ref2_Order_1_l0_fold (n : Nat) (v7 : List ApiValue) (w2 : ApiValue) (w3_0 : Int) (w3_1 : Int) (w3_2 : List UInt8) (w3_3 : List ApiField) (hl : List.length v7 < 9223372036854775807) (m i : Nat) (hi : i ≤ List.length v7) (hm : List.length v7 - i < m) : ref2_Order_1_l0 n m v7 (List.length v7 : Int) (i : Int) w2 w3_0 w3_1 w3_2 w3_3 = foldK (S := (List ApiField)) (fun i (a : ApiValue) s K => (bif (decide ((List.length s) = List.length s) && decide (List.length s + List.length ([(ApiField.mk [] a)] : List ApiField) ≤ 4294967296)) then (K (s ++ [(ApiField.mk [] a)])) else none)) (fun s => (some (ApiValue.mk w3_0 w3_1 w3_2 s))) (List.drop i v7) i (w3_3) := range_loop v7 (ApiValue.mk 0 0 [] []) hl (fun m (k : Int) (s : (List ApiField)) => ref2_Order_1_l0 n m v7 (List.length v7 : Int) k w2 w3_0 w3_1 w3_2 s) _ _ (fun m i s => (ref2_Order_1_l0_eq n m v7 (List.length v7 : Int) (i : Int) w2 w3_0 w3_1 w3_2 s).trans (by kernel_rfl)) m i hi hm (w3_3)
theorem ref2_Order_1_eq (n : Nat) (x0 : List ApiValue) : ref2_Order_1 n x0 = (ref2_Order_1_l0 n n x0 (List.length x0 : Int) 0 (ApiValue.mk 0 0 [] []) 8 0 [] []) := by kernel_rfl
noncomputable def C56 (n : Nat) : Call2 E := more tt gl H (C55 n) n 46 Try.f46 [.t (.sl (.nm 1))] (C55 n)

/- clapperbridge/clapref2.Order -/
noncomputable def ref2_Order (n : Nat) (x0 : List ApiValue) (x1 : List ApiValue) : Option Int := F2 (E := E) tt gl H (C56 n) n 20 Try.f20 [.t (.sl (.nm 1)), .t (.sl (.nm 1))] (x0, x1, ())
theorem ref2_Order_eq (n : Nat) (x0 : List ApiValue) (x1 : List ApiValue) : ref2_Order n x0 x1 = (Option.bind (ref2_Order_1 n x0) fun r1 => (Option.bind (ref2_Order_1 n x1) fun r2 => (Option.bind (value_Cmp n n r1 r2) fun r3 => (some r3)))) := by kernel_rfl
noncomputable def C57 (n : Nat) : Call2 E := more tt gl H (C56 n) n 20 Try.f20 [.t (.sl (.nm 1)), .t (.sl (.nm 1))] (C56 n)

/- clapperbridge/clapref2.column -/
noncomputable def ref2_column (n : Nat) (x0 : Rel) (x1 : List UInt8) : Option Int := F2 (E := E) tt gl H (C57 n) n 62 Try.f62 [.t (.nm 3), .t .str] (x0, x1, ())
noncomputable def ref2_column_l0 (n : Nat) (m0 : Nat) (v1 : List UInt8) (v8 : List Col) (v9 : Int) (v10 : Int) : Option Int := lp (E := E) (ps := [.t (.nm 3), .t .str]) tt gl H (C57 n) n 62 Try.f62 [1, 0, 1, 0] [] m0 ⟨mkT 21 0 [(1, .t .str v1), (8, .t (.sl (.nm 0)) v8), (9, .t (.int .i64) v9), (10, .t (.int .i64) v10)], mkB 84 0 []⟩
theorem ref2_column_l0_eq (n : Nat) (m0 : Nat) (v1 : List UInt8) (v8 : List Col) (v9 : Int) (v10 : Int) : ref2_column_l0 n (m0 + 1) v1 v8 v9 v10 = (bif (decide (v10 < v9)) then (bif (decide (0 ≤ v10) && decide (v10 < List.length v8)) then (bif (((List.getD v8 (Int.toNat v10) (Col.mk [] 0)).Name) == v1) then (some v10) else (ref2_column_l0 n m0 v1 v8 v9 (IntKind.wrap .i64 (v10 + 1)))) else none) else (some (-1))) := by kernel_rfl
theorem ref2_column_l0_zero (n : Nat) (v1 : List UInt8) (v8 : List Col) (v9 : Int) (v10 : Int) : ref2_column_l0 n 0 v1 v8 v9 v10 = none := by kernel_rfl
theorem ref2_column_l0_fold (n : Nat) (v1 : List UInt8) (v8 : List Col) (hl : List.length v8 < 9223372036854775807) (m i : Nat) (hi : i ≤ List.length v8) (hm : List.length v8 - i < m) : ref2_column_l0 n m v1 v8 (List.length v8 : Int) (i : Int) = foldK (S := Unit) (fun i (a : Col) s K => (bif ((a.Name) == v1) then (some (i : Int)) else (K ()))) (fun s => (some (-1))) (List.drop i v8) i () := range_loop v8 (Col.mk [] 0) hl (fun m (k : Int) (s : Unit) => ref2_column_l0 n m v1 v8 (List.length v8 : Int) k) _ _ (fun m i s => (ref2_column_l0_eq n m v1 v8 (List.length v8 : Int) (i : Int)).trans (by kernel_rfl)) m i hi hm ()
theorem ref2_column_eq (n : Nat) (x0 : Rel) (x1 : List UInt8) : ref2_column n x0 x1 = (ref2_column_l0 n n x1 x0.Cols (List.length x0.Cols : Int) 0) := by kernel_rfl
noncomputable def C58 (n : Nat) : Call2 E := more tt gl H (C57 n) n 62 Try.f62 [.t (.nm 3), .t .str] (C57 n)

/- clapperbridge/clapref2.keyOf -/
noncomputable def ref2_keyOf (n : Nat) (x0 : Rel) (x1 : List ApiValue) : Option (List ApiValue) := F2 (E := E) tt gl H (C58 n) n 43 Try.f43 [.t (.nm 3), .t (.sl (.nm 1))] (x0, x1, ())
noncomputable def ref2_keyOf_l0 (n : Nat) (m0 : Nat) (v1 : List ApiValue) (v5 : List ApiValue) (v9 : List (List UInt8)) (v10 : Int) (v11 : Int) (w2 : Rel) : Option (List ApiValue) := lp (E := E) (ps := [.t (.nm 3), .t (.sl (.nm 1))]) tt gl H (C58 n) n 43 Try.f43 [1, 1, 0, 1, 0] [] m0 ⟨mkT 26 0 [(1, .t (.sl (.nm 1)) v1), (2, .ptr 2 (.nm 3) []), (5, .sl 21 (.nm 1) v5), (9, .t (.sl .str) v9), (10, .t (.int .i64) v10), (11, .t (.int .i64) v11)], mkB 104 0 [(2, .var (.nm 3) (.t (.nm 3) w2)), (21, .grow (.nm 1) (List.length v5))]⟩
theorem ref2_keyOf_l0_eq (n : Nat) (m0 : Nat) (v1 : List ApiValue) (v5 : List ApiValue) (v9 : List (List UInt8)) (v10 : Int) (v11 : Int) (w2 : Rel) : ref2_keyOf_l0 n (m0 + 1) v1 v5 v9 v10 v11 w2 = (bif (decide (v11 < v10)) then (bif (decide (0 ≤ v11) && decide (v11 < List.length v9)) then (Option.bind (ref2_column n w2 (List.getD v9 (Int.toNat v11) [])) fun r1 => (bif (decide (0 ≤ r1) && decide (r1 < List.length v1)) then (bif (decide ((List.length v5) = List.length v5) && decide (List.length v5 + List.length ([(List.getD v1 (Int.toNat r1) (ApiValue.mk 0 0 [] []))] : List ApiValue) ≤ 4294967296)) then (ref2_keyOf_l0 n m0 v1 (v5 ++ [(List.getD v1 (Int.toNat r1) (ApiValue.mk 0 0 [] []))]) v9 v10 (IntKind.wrap .i64 (v11 + 1)) w2) else none) else none)) else none) else (some v5)) := by kernel_rfl
theorem ref2_keyOf_l0_zero (n : Nat) (v1 : List ApiValue) (v5 : List ApiValue) (v9 : List (List UInt8)) (v10 : Int) (v11 : Int) (w2 : Rel) : ref2_keyOf_l0 n 0 v1 v5 v9 v10 v11 w2 = none := by kernel_rfl
theorem ref2_keyOf_l0_fold (n : Nat) (v1 : List ApiValue) (v9 : List (List UInt8)) (w2 : Rel) (v5 : List ApiValue) (hl : List.length v9 < 9223372036854775807) (m i : Nat) (hi : i ≤ List.length v9) (hm : List.length v9 - i < m) : ref2_keyOf_l0 n m v1 v5 v9 (List.length v9 : Int) (i : Int) w2 = foldK (S := (List ApiValue)) (fun i (a : (List UInt8)) s K => (Option.bind (ref2_column n w2 a) fun r1 => (bif (decide (0 ≤ r1) && decide (r1 < List.length v1)) then (bif (decide ((List.length s) = List.length s) && decide (List.length s + List.length ([(List.getD v1 (Int.toNat r1) (ApiValue.mk 0 0 [] []))] : List ApiValue) ≤ 4294967296)) then (K (s ++ [(List.getD v1 (Int.toNat r1) (ApiValue.mk 0 0 [] []))])) else none) else none))) (fun s => (some s)) (List.drop i v9) i (v5) := range_loop v9 [] hl (fun m (k : Int) (s : (List ApiValue)) => ref2_keyOf_l0 n m v1 s v9 (List.length v9 : Int) k w2) _ _ (fun m i s => (ref2_keyOf_l0_eq n m v1 s v9 (List.length v9 : Int) (i : Int) w2).trans (by kernel_rfl)) m i hi hm (v5)
theorem ref2_keyOf_eq (n : Nat) (x0 : Rel) (x1 : List ApiValue) : ref2_keyOf n x0 x1 = (ref2_keyOf_l0 n n x1 [] x0.Key (List.length x0.Key : Int) 0 x0) := by kernel_rfl
noncomputable def C59 (n : Nat) : Call2 E := more tt gl H (C58 n) n 43 Try.f43 [.t (.nm 3), .t (.sl (.nm 1))] (C58 n)
def srt32_ren : Go.Shelf.Ren := ⟨fun | 6 => 32 | 15 => 54 | 14 => 53 | 28 => 83 | 29 => 84 | 20 => 75 | 21 => 76 | 22 => 77 | 23 => 78 | 24 => 79 | 25 => 80 | 26 => 81 | 27 => 82 | 46 => 94 | 47 => 95 | 48 => 96 | 49 => 97 | 50 => 98 | 57 => 104 | n => n, fun | 22 => 26 | 24 => 37 | 25 => 43 | 3 => 3 | 39 => 86 | 0 => 0 | 53 => 114 | 55 => 116 | 4 => 4 | 46 => 108 | 45 => 107 | 50 => 66 | 5 => 5 | 9 => 9 | 66 => 124 | 70 => 128 | 76 => 132 | 77 => 133 | n => n, fun | n => n⟩
theorem srt32 : Go.Proofs.SlLaysF.n6 Try.prog srt32_ren := {
  mixed := by kernel_rfl
  f6 := ⟨"slices.SortFunc[[][]clapperbridge/api.Value,[]clapperbridge/api.Value]", by decide, Try.func32.trans (congrArg some (by kernel_rfl))⟩
  f14 := ⟨"slices.pdqsortCmpFunc[[]clapperbridge/api.Value]", by decide, Try.func53.trans (congrArg some (by kernel_rfl))⟩
  f15 := Try.func54.trans (congrArg some (by kernel_rfl))
  f20 := ⟨"slices.insertionSortCmpFunc[[]clapperbridge/api.Value]", by decide, Try.func75.trans (congrArg some (by kernel_rfl))⟩
  f21 := ⟨"slices.heapSortCmpFunc[[]clapperbridge/api.Value]", by decide, Try.func76.trans (congrArg some (by kernel_rfl))⟩
  f22 := ⟨"slices.breakPatternsCmpFunc[[]clapperbridge/api.Value]", by decide, Try.func77.trans (congrArg some (by kernel_rfl))⟩
  f23 := ⟨"slices.choosePivotCmpFunc[[]clapperbridge/api.Value]", by decide, Try.func78.trans (congrArg some (by kernel_rfl))⟩
  f24 := ⟨"slices.reverseRangeCmpFunc[[]clapperbridge/api.Value]", by decide, Try.func79.trans (congrArg some (by kernel_rfl))⟩
  f25 := ⟨"slices.partialInsertionSortCmpFunc[[]clapperbridge/api.Value]", by decide, Try.func80.trans (congrArg some (by kernel_rfl))⟩
  f26 := ⟨"slices.partitionEqualCmpFunc[[]clapperbridge/api.Value]", by decide, Try.func81.trans (congrArg some (by kernel_rfl))⟩
  f27 := ⟨"slices.partitionCmpFunc[[]clapperbridge/api.Value]", by decide, Try.func82.trans (congrArg some (by kernel_rfl))⟩
  f28 := Try.func83.trans (congrArg some (by kernel_rfl))
  f29 := Try.func84.trans (congrArg some (by kernel_rfl))
  f46 := ⟨"slices.siftDownCmpFunc[[]clapperbridge/api.Value]", by decide, Try.func94.trans (congrArg some (by kernel_rfl))⟩
  f47 := Try.func95.trans (congrArg some (by kernel_rfl))
  f48 := Try.func96.trans (congrArg some (by kernel_rfl))
  f49 := ⟨"slices.medianAdjacentCmpFunc[[]clapperbridge/api.Value]", by decide, Try.func97.trans (congrArg some (by kernel_rfl))⟩
  f50 := ⟨"slices.medianCmpFunc[[]clapperbridge/api.Value]", by decide, Try.func98.trans (congrArg some (by kernel_rfl))⟩
  f57 := ⟨"slices.order2CmpFunc[[]clapperbridge/api.Value]", by decide, Try.func104.trans (congrArg some (by kernel_rfl))⟩
  t0 := Try.underlying0
  a0 := Try.isAgg0
  z0 := Try.sizeOf0
  v0 := Try.zeroValue0
  t3 := Try.underlying3
  a3 := Try.isAgg3
  z3 := Try.sizeOf3
  v3 := Try.zeroValue3
  t4 := Try.underlying4
  a4 := Try.isAgg4
  z4 := Try.sizeOf4
  v4 := Try.zeroValue4
  t5 := Try.underlying5
  a5 := Try.isAgg5
  z5 := Try.sizeOf5
  v5 := Try.zeroValue5
  t9 := Try.underlying9
  a9 := Try.isAgg9
  z9 := Try.sizeOf9
  v9 := Try.zeroValue9
  t22 := Try.underlying26
  a22 := Try.isAgg26
  z22 := Try.sizeOf26
  v22 := Try.zeroValue26
  a24 := Try.isAgg37
  z24 := Try.sizeOf37
  t25 := Try.underlying43
  a25 := Try.isAgg43
  z25 := Try.sizeOf43
  v25 := Try.zeroValue43
  t39 := Try.underlying86
  a39 := Try.isAgg86
  z39 := Try.sizeOf86
  v39 := Try.zeroValue86
  t45 := Try.underlying107
  a45 := Try.isAgg107
  z45 := Try.sizeOf107
  v45 := Try.zeroValue107
  t46 := Try.underlying108
  a46 := Try.isAgg108
  z46 := Try.sizeOf108
  v46 := Try.zeroValue108
  t50 := Try.underlying66
  a50 := Try.isAgg66
  z50 := Try.sizeOf66
  v50 := Try.zeroValue66
  t53 := Try.underlying114
  a53 := Try.isAgg114
  z53 := Try.sizeOf114
  v53 := Try.zeroValue114
  t55 := Try.underlying116
  a55 := Try.isAgg116
  z55 := Try.sizeOf116
  v55 := Try.zeroValue116
  t66 := Try.underlying124
  a66 := Try.isAgg124
  z66 := Try.sizeOf124
  v66 := Try.zeroValue124
  t70 := Try.underlying128
  a70 := Try.isAgg128
  z70 := Try.sizeOf128
  v70 := Try.zeroValue128
  t76 := Try.underlying132
  a76 := Try.isAgg132
  z76 := Try.sizeOf132
  v76 := Try.zeroValue132
  t77 := Try.underlying133
  a77 := Try.isAgg133
  z77 := Try.sizeOf133
  v77 := Try.zeroValue133 }
theorem fnok32 : FnOK Try.prog 32 := ⟨Try.f32, _, Try.func32, by decide, rfl⟩
theorem sortc32 : SortC Try.prog 32 false 1 := sortC1 srt32
noncomputable def C60 (n : Nat) : Call2 E := moreS 32 (.sl (.nm 1)) (C59 n)

/- clapperbridge/clapref2.RelErr -/
noncomputable def ref2_RelErr (n : Nat) (x0 : Rel) : Option Int := F2 (E := E) tt gl H (C60 n) n 17 Try.f17 [.t (.nm 3)] (x0, ())
noncomputable def ref2_RelErr_l0 (n : Nat) (m0 : Nat) (v21 : List (List ApiValue)) (v22 : Int) (v23 : Int) (w1 : Rel) : Option Int := lp (E := E) (ps := [.t (.nm 3)]) tt gl H (C60 n) n 17 Try.f17 [1, 1, 1, 0, 1, 0] [] m0 ⟨mkT 89 0 [(1, .ptr 1 (.nm 3) []), (21, .t (.sl (.sl (.nm 1))) v21), (22, .t (.int .i64) v22), (23, .t (.int .i64) v23)], mkB 356 0 [(1, .var (.nm 3) (.t (.nm 3) w1))]⟩
noncomputable def ref2_RelErr_l2 (n : Nat) (m0 : Nat) (v53 : List (List ApiValue)) (v54 : Int) (v55 : Int) (w1 : Rel) (w23 : List (List ApiValue)) : Option Int := lp (E := E) (ps := [.t (.nm 3)]) tt gl H (C60 n) n 17 Try.f17 [1, 1, 1, 1, 1, 1, 0, 1, 0] [] m0 ⟨mkT 89 0 [(1, .ptr 1 (.nm 3) []), (7, .fs 23 (.sl (.nm 1)) 0 (List.length w23)), (53, .t (.sl (.sl (.nm 1))) v53), (54, .t (.int .i64) v54), (55, .t (.int .i64) v55)], mkB 356 0 [(1, .var (.nm 3) (.t (.nm 3) w1)), (23, .row (.sl (.nm 1)) w23)]⟩
noncomputable def ref2_RelErr_l4 (n : Nat) (m0 : Nat) (v7l : Nat) (v69 : Int) (v70 : Int) (w23 : List (List ApiValue)) : Option Int := lp (E := E) (ps := [.t (.nm 3)]) tt gl H (C60 n) n 17 Try.f17 [1, 1, 1, 1, 1, 1, 1, 1, 0, 1, 0] [] m0 ⟨mkT 89 0 [(7, .fs 23 (.sl (.nm 1)) 0 v7l), (69, .t (.int .i64) v69), (70, .t (.int .i64) v70)], mkB 356 0 [(23, .row (.sl (.nm 1)) w23)]⟩
theorem ref2_RelErr_l4_eq (n : Nat) (m0 : Nat) (v7l : Nat) (v69 : Int) (v70 : Int) (w23 : List (List ApiValue)) : ref2_RelErr_l4 n (m0 + 1) v7l v69 v70 w23 = (bif (decide (v70 < v69)) then (bif (decide (v70 > 0)) then (bif (decide (0 ≤ (IntKind.wrap .i64 (v70 - 1))) && decide ((IntKind.wrap .i64 (v70 - 1)) < (v7l : Int))) then (bif (decide ((0 + (Int.toNat (IntKind.wrap .i64 (v70 - 1)))) < List.length w23)) then (bif (decide (0 ≤ v70) && decide (v70 < (v7l : Int))) then (bif (decide ((0 + (Int.toNat v70)) < List.length w23)) then (Option.bind (ref2_Order n (List.getD w23 (0 + (Int.toNat (IntKind.wrap .i64 (v70 - 1)))) []) (List.getD w23 (0 + (Int.toNat v70)) [])) fun r6 => (bif (decide (r6 = 0)) then (some 16) else (ref2_RelErr_l4 n m0 v7l v69 (IntKind.wrap .i64 (v70 + 1)) w23))) else none) else none) else none) else none) else (ref2_RelErr_l4 n m0 v7l v69 (IntKind.wrap .i64 (v70 + 1)) w23)) else (some 0)) := by kernel_rfl
theorem ref2_RelErr_l4_zero (n : Nat) (v7l : Nat) (v69 : Int) (v70 : Int) (w23 : List (List ApiValue)) : ref2_RelErr_l4 n 0 v7l v69 v70 w23 = none := by kernel_rfl
theorem ref2_RelErr_l4_fold (n : Nat) (v7l : Nat) (w23 : List (List ApiValue)) (N : Nat) (hl : N < 9223372036854775807) (m i : Nat) (hi : i ≤ N) (hm : N - i < m) : ref2_RelErr_l4 n m v7l (N : Int) (i : Int) w23 = foldN (S := Unit) (fun i s K => (bif (decide ((i : Int) > 0)) then (bif (decide (0 ≤ (IntKind.wrap .i64 ((i : Int) - 1))) && decide ((IntKind.wrap .i64 ((i : Int) - 1)) < (v7l : Int))) then (bif (decide ((0 + (Int.toNat (IntKind.wrap .i64 ((i : Int) - 1)))) < List.length w23)) then (bif (decide (0 ≤ (i : Int)) && decide ((i : Int) < (v7l : Int))) then (bif (decide ((0 + (Int.toNat (i : Int))) < List.length w23)) then (Option.bind (ref2_Order n (List.getD w23 (0 + (Int.toNat (IntKind.wrap .i64 ((i : Int) - 1)))) []) (List.getD w23 (0 + (Int.toNat (i : Int))) [])) fun r6 => (bif (decide (r6 = 0)) then (some 16) else (K ()))) else none) else none) else none) else none) else (K ()))) (fun s => (some 0)) (N - i) i () := count_loop N hl (fun m (k : Int) (s : Unit) => ref2_RelErr_l4 n m v7l (N : Int) k w23) _ _ (fun m i s => (ref2_RelErr_l4_eq n m v7l (N : Int) (i : Int) w23).trans (by kernel_rfl)) m i hi hm ()
theorem ref2_RelErr_l2_eq (n : Nat) (m0 : Nat) (v53 : List (List ApiValue)) (v54 : Int) (v55 : Int) (w1 : Rel) (w23 : List (List ApiValue)) : ref2_RelErr_l2 n (m0 + 1) v53 v54 v55 w1 w23 = (bif (decide (v55 < v54)) then (bif (decide (0 ≤ v55) && decide (v55 < List.length v53)) then (Option.bind (ref2_keyOf n w1 (List.getD v53 (Int.toNat v55) [])) fun r4 => (bif (decide ((List.length w23) = List.length w23) && decide (List.length w23 + List.length ([r4] : List (List ApiValue)) ≤ 4294967296)) then (ref2_RelErr_l2 n m0 v53 v54 (IntKind.wrap .i64 (v55 + 1)) w1 (w23 ++ [r4])) else none)) else none) else (Option.bind (sortO (fun a b => Option.bind (ref2_Order n a b) fun r => some r) (List.take (List.length w23) w23)) fun r5 => (ref2_RelErr_l4 n n (List.length w23) ((List.length w23) : Int) 0 (over w23 r5 0)))) := by kernel_rfl
theorem ref2_RelErr_l2_zero (n : Nat) (v53 : List (List ApiValue)) (v54 : Int) (v55 : Int) (w1 : Rel) (w23 : List (List ApiValue)) : ref2_RelErr_l2 n 0 v53 v54 v55 w1 w23 = none := by kernel_rfl
theorem ref2_RelErr_l2_fold (n : Nat) (v53 : List (List ApiValue)) (w1 : Rel) (w23 : List (List ApiValue)) (hl : List.length v53 < 9223372036854775807) (m i : Nat) (hi : i ≤ List.length v53) (hm : List.length v53 - i < m) : ref2_RelErr_l2 n m v53 (List.length v53 : Int) (i : Int) w1 w23 = foldK (S := (List (List ApiValue))) (fun i (a : (List ApiValue)) s K => (Option.bind (ref2_keyOf n w1 a) fun r4 => (bif (decide ((List.length s) = List.length s) && decide (List.length s + List.length ([r4] : List (List ApiValue)) ≤ 4294967296)) then (K (s ++ [r4])) else none))) (fun s => (Option.bind (sortO (fun a b => Option.bind (ref2_Order n a b) fun r => some r) (List.take (List.length s) s)) fun r5 => (ref2_RelErr_l4 n n (List.length s) ((List.length s) : Int) 0 (over s r5 0)))) (List.drop i v53) i (w23) := range_loop v53 [] hl (fun m (k : Int) (s : (List (List ApiValue))) => ref2_RelErr_l2 n m v53 (List.length v53 : Int) k w1 s) _ _ (fun m i s => (ref2_RelErr_l2_eq n m v53 (List.length v53 : Int) (i : Int) w1 s).trans (by kernel_rfl)) m i hi hm (w23)
theorem ref2_RelErr_l0_eq (n : Nat) (m0 : Nat) (v21 : List (List ApiValue)) (v22 : Int) (v23 : Int) (w1 : Rel) : ref2_RelErr_l0 n (m0 + 1) v21 v22 v23 w1 = (bif (decide (v23 < v22)) then (bif (decide (0 ≤ v23) && decide (v23 < List.length v21)) then (Option.bind (ref2_RowErr n w1 (List.getD v21 (Int.toNat v23) [])) fun r2 => (bif (!decide (r2 = 0)) then (some r2) else (bif (decide (v23 > 0)) then (bif (decide (0 ≤ (IntKind.wrap .i64 (v23 - 1))) && decide ((IntKind.wrap .i64 (v23 - 1)) < List.length w1.Rows)) then (Option.bind (ref2_Order n (List.getD v21 (Int.toNat v23) []) (List.getD w1.Rows (Int.toNat (IntKind.wrap .i64 (v23 - 1))) [])) fun r3 => (bif (decide (r3 ≤ 0)) then (some 9) else (ref2_RelErr_l0 n m0 v21 v22 (IntKind.wrap .i64 (v23 + 1)) w1))) else none) else (ref2_RelErr_l0 n m0 v21 v22 (IntKind.wrap .i64 (v23 + 1)) w1)))) else none) else (bif (decide ((List.length w1.Key : Int) = 0)) then (some 0) else (ref2_RelErr_l2 n n w1.Rows (List.length w1.Rows : Int) 0 w1 []))) := by kernel_rfl
theorem ref2_RelErr_l0_zero (n : Nat) (v21 : List (List ApiValue)) (v22 : Int) (v23 : Int) (w1 : Rel) : ref2_RelErr_l0 n 0 v21 v22 v23 w1 = none := by kernel_rfl
theorem ref2_RelErr_l0_fold (n : Nat) (v21 : List (List ApiValue)) (w1 : Rel) (hl : List.length v21 < 9223372036854775807) (m i : Nat) (hi : i ≤ List.length v21) (hm : List.length v21 - i < m) : ref2_RelErr_l0 n m v21 (List.length v21 : Int) (i : Int) w1 = foldK (S := Unit) (fun i (a : (List ApiValue)) s K => (Option.bind (ref2_RowErr n w1 a) fun r2 => (bif (!decide (r2 = 0)) then (some r2) else (bif (decide ((i : Int) > 0)) then (bif (decide (0 ≤ (IntKind.wrap .i64 ((i : Int) - 1))) && decide ((IntKind.wrap .i64 ((i : Int) - 1)) < List.length w1.Rows)) then (Option.bind (ref2_Order n a (List.getD w1.Rows (Int.toNat (IntKind.wrap .i64 ((i : Int) - 1))) [])) fun r3 => (bif (decide (r3 ≤ 0)) then (some 9) else (K ()))) else none) else (K ()))))) (fun s => (bif (decide ((List.length w1.Key : Int) = 0)) then (some 0) else (ref2_RelErr_l2 n n w1.Rows (List.length w1.Rows : Int) 0 w1 []))) (List.drop i v21) i () := range_loop v21 [] hl (fun m (k : Int) (s : Unit) => ref2_RelErr_l0 n m v21 (List.length v21 : Int) k w1) _ _ (fun m i s => (ref2_RelErr_l0_eq n m v21 (List.length v21 : Int) (i : Int) w1).trans (by kernel_rfl)) m i hi hm ()
theorem ref2_RelErr_eq (n : Nat) (x0 : Rel) : ref2_RelErr n x0 = (Option.bind (ref2_HeadErr n x0) fun r1 => (bif (!decide (r1 = 0)) then (some r1) else (bif (decide ((List.length x0.Rows : Int) > 300)) then (some 2) else (ref2_RelErr_l0 n n x0.Rows (List.length x0.Rows : Int) 0 x0)))) := by kernel_rfl
noncomputable def C61 (n : Nat) : Call2 E := more tt gl H (C60 n) n 17 Try.f17 [.t (.nm 3)] (C60 n)

/- slices.Clone[[][]clapperbridge/api.Value,[]clapperbridge/api.Value] -/
noncomputable def slices_Clone_LValue_nil (n : Nat) (x0 : Unit) : Option (List (List ApiValue)) := F2 (E := E) tt gl H (C61 n) n 42 Try.f42 [.snil (.sl (.nm 1))] ((), ())
theorem slices_Clone_LValue_nil_eq (n : Nat) (x0 : Unit) : slices_Clone_LValue_nil n x0 = (some []) := by kernel_rfl
noncomputable def C62 (n : Nat) : Call2 E := more tt gl H (C61 n) n 42 Try.f42 [.snil (.sl (.nm 1))] (C61 n)

/- slices.Clone[[][]clapperbridge/api.Value,[]clapperbridge/api.Value] -/
noncomputable def slices_Clone_LValue_nn (n : Nat) (x0 : List (List ApiValue)) : Option (List (List ApiValue)) := F2 (E := E) tt gl H (C61 n) n 42 Try.f42 [.snn (.sl (.nm 1))] (x0, ())
theorem slices_Clone_LValue_nn_eq (n : Nat) (x0 : List (List ApiValue)) : slices_Clone_LValue_nn n x0 = (bif (decide (0 = List.length ([] : List (List ApiValue))) && decide (List.length ([] : List (List ApiValue)) + List.length x0 ≤ 4294967296)) then (bif (decide ((List.length (([] : List (List ApiValue)) ++ x0)) = List.length (([] : List (List ApiValue)) ++ x0))) then (some (([] : List (List ApiValue)) ++ x0)) else none) else none) := by kernel_rfl
theorem slices_Clone_LValue_nn_hq (n : Nat) : slices_Clone_LValue_nil n () = slices_Clone_LValue_nn n [] := (slices_Clone_LValue_nil_eq n ()).trans (Eq.symm ((slices_Clone_LValue_nn_eq n []).trans (by kernel_rfl)))
noncomputable def C63 (n : Nat) : Call2 E := moreN tt gl H (C61 n) n 42 Try.f42 (.sl (.nm 1)) (C62 n)

/- clapperbridge/clapref2.Tidy -/
noncomputable def ref2_Tidy (n : Nat) (x0 : Rel) : Option Rel := F2 (E := E) tt gl H (C63 n) n 13 Try.f13 [.t (.nm 3)] (x0, ())
noncomputable def ref2_Tidy_l0 (n : Nat) (m0 : Nat) (v8 : List (List ApiValue)) (v9 : Int) (v10 : Int) (w1 : Rel) (w2 : Rel) (w19 : List (List ApiValue)) : Option Rel := lp (E := E) (ps := [.t (.nm 3)]) tt gl H (C63 n) n 13 Try.f13 [1, 1, 0, 1, 0] [] m0 ⟨mkT 51 0 [(1, .ptr 1 (.nm 3) []), (2, .ptr 2 (.nm 3) []), (3, .fs 19 (.sl (.nm 1)) 0 (List.length w19)), (8, .t (.sl (.sl (.nm 1))) v8), (9, .t (.int .i64) v9), (10, .t (.int .i64) v10)], mkB 204 0 [(1, .var (.nm 3) (.t (.nm 3) w1)), (2, .var (.nm 3) (.t (.nm 3) w2)), (19, .row (.sl (.nm 1)) w19)]⟩
noncomputable def ref2_Tidy_l2 (n : Nat) (m0 : Nat) (m1 : Nat) (v5 : List ApiValue) (v6 : Int) (v8 : List (List ApiValue)) (v9 : Int) (v10 : Int) (w1 : Rel) (w2 : Rel) (w19 : List (List ApiValue)) : Option Rel := lp (E := E) (ps := [.t (.nm 3)]) tt gl H (C63 n) n 13 Try.f13 [1, 1, 0, 1, 0, 0, 1, 1, 0, 0, 1, 1, 0, 0] [m0] m1 ⟨mkT 51 0 [(1, .ptr 1 (.nm 3) []), (2, .ptr 2 (.nm 3) []), (3, .fs 19 (.sl (.nm 1)) 0 (List.length w19)), (5, .t (.sl (.nm 1)) v5), (6, .t (.int .i64) v6), (8, .t (.sl (.sl (.nm 1))) v8), (9, .t (.int .i64) v9), (10, .t (.int .i64) v10)], mkB 204 0 [(1, .var (.nm 3) (.t (.nm 3) w1)), (2, .var (.nm 3) (.t (.nm 3) w2)), (19, .row (.sl (.nm 1)) w19)]⟩
theorem ref2_Tidy_l2_eq (n : Nat) (m0 : Nat) (m1 : Nat) (v5 : List ApiValue) (v6 : Int) (v8 : List (List ApiValue)) (v9 : Int) (v10 : Int) (w1 : Rel) (w2 : Rel) (w19 : List (List ApiValue)) : ref2_Tidy_l2 n m0 (m1 + 1) v5 v6 v8 v9 v10 w1 w2 w19 = (bif (decide (v6 < ((List.length w19) : Int))) then (bif (decide (0 ≤ v6) && decide (v6 < ((List.length w19) : Int))) then (bif (decide ((0 + (Int.toNat v6)) < List.length w19)) then (Option.bind (ref2_Order n (List.getD w19 (0 + (Int.toNat v6)) []) v5) fun r1 => (bif (decide (r1 < 0)) then (ref2_Tidy_l2 n m0 m1 v5 (IntKind.wrap .i64 (v6 + 1)) v8 v9 v10 w1 w2 w19) else (bif (decide (v6 = ((List.length w19) : Int))) then (Option.bind (insO w19 (List.length w19) v6 [v5]) fun r2 => (ref2_Tidy_l0 n m0 v8 v9 (IntKind.wrap .i64 (v10 + 1)) w1 w2 r2)) else (bif (decide (0 ≤ v6) && decide (v6 < ((List.length w19) : Int))) then (bif (decide ((0 + (Int.toNat v6)) < List.length w19)) then (Option.bind (ref2_Order n (List.getD w19 (0 + (Int.toNat v6)) []) v5) fun r3 => (bif (!decide (r3 = 0)) then (Option.bind (insO w19 (List.length w19) v6 [v5]) fun r4 => (ref2_Tidy_l0 n m0 v8 v9 (IntKind.wrap .i64 (v10 + 1)) w1 w2 r4)) else (ref2_Tidy_l0 n m0 v8 v9 (IntKind.wrap .i64 (v10 + 1)) w1 w2 w19))) else none) else none)))) else none) else none) else (bif (decide (v6 = ((List.length w19) : Int))) then (Option.bind (insO w19 (List.length w19) v6 [v5]) fun r5 => (ref2_Tidy_l0 n m0 v8 v9 (IntKind.wrap .i64 (v10 + 1)) w1 w2 r5)) else (bif (decide (0 ≤ v6) && decide (v6 < ((List.length w19) : Int))) then (bif (decide ((0 + (Int.toNat v6)) < List.length w19)) then (Option.bind (ref2_Order n (List.getD w19 (0 + (Int.toNat v6)) []) v5) fun r6 => (bif (!decide (r6 = 0)) then (Option.bind (insO w19 (List.length w19) v6 [v5]) fun r7 => (ref2_Tidy_l0 n m0 v8 v9 (IntKind.wrap .i64 (v10 + 1)) w1 w2 r7)) else (ref2_Tidy_l0 n m0 v8 v9 (IntKind.wrap .i64 (v10 + 1)) w1 w2 w19))) else none) else none))) := by kernel_rfl
theorem ref2_Tidy_l2_zero (n : Nat) (m0 : Nat) (v5 : List ApiValue) (v6 : Int) (v8 : List (List ApiValue)) (v9 : Int) (v10 : Int) (w1 : Rel) (w2 : Rel) (w19 : List (List ApiValue)) : ref2_Tidy_l2 n m0 0 v5 v6 v8 v9 v10 w1 w2 w19 = none := by kernel_rfl
theorem ref2_Tidy_l0_eq (n : Nat) (m0 : Nat) (v8 : List (List ApiValue)) (v9 : Int) (v10 : Int) (w1 : Rel) (w2 : Rel) (w19 : List (List ApiValue)) : ref2_Tidy_l0 n (m0 + 1) v8 v9 v10 w1 w2 w19 = (bif (decide (v10 < v9)) then (bif (decide (0 ≤ v10) && decide (v10 < List.length v8)) then (ref2_Tidy_l2 n m0 n (List.getD v8 (Int.toNat v10) []) 0 v8 v9 v10 w1 w2 w19) else none) else (bif (((decide ((List.length w19) = List.length w19)) && true) && true) then (some (Rel.mk w1.Name w1.Cols w1.Key w19)) else none)) := by kernel_rfl
theorem ref2_Tidy_l0_zero (n : Nat) (v8 : List (List ApiValue)) (v9 : Int) (v10 : Int) (w1 : Rel) (w2 : Rel) (w19 : List (List ApiValue)) : ref2_Tidy_l0 n 0 v8 v9 v10 w1 w2 w19 = none := by kernel_rfl
theorem ref2_Tidy_eq (n : Nat) (x0 : Rel) : ref2_Tidy n x0 = (ref2_Tidy_l0 n n x0.Rows (List.length x0.Rows : Int) 0 x0 (Rel.mk [] [] [] []) []) := by kernel_rfl
noncomputable def C64 (n : Nat) : Call2 E := more tt gl H (C63 n) n 13 Try.f13 [.t (.nm 3)] (C63 n)

/- clapperbridge/clapref2.Inserted -/
noncomputable def ref2_Inserted (n : Nat) (x0 : Rel) (x1 : List ApiValue) : Option (Rel × Int) := F2 (E := E) tt gl H (C64 n) n 15 Try.f15 [.t (.nm 3), .t (.sl (.nm 1))] (x0, x1, ())
noncomputable def ref2_Inserted_l0 (n : Nat) (m0 : Nat) (v1 : List ApiValue) (v24 : List (List ApiValue)) (v25 : Int) (v26 : Int) (w2 : Rel) (w4 : Rel) : Option (Rel × Int) := lp (E := E) (ps := [.t (.nm 3), .t (.sl (.nm 1))]) tt gl H (C64 n) n 15 Try.f15 [1, 1, 1, 1, 0, 1, 0] [] m0 ⟨mkT 77 0 [(1, .t (.sl (.nm 1)) v1), (2, .ptr 2 (.nm 3) []), (4, .ptr 4 (.nm 3) []), (24, .t (.sl (.sl (.nm 1))) v24), (25, .t (.int .i64) v25), (26, .t (.int .i64) v26)], mkB 308 0 [(2, .var (.nm 3) (.t (.nm 3) w2)), (4, .var (.nm 3) (.t (.nm 3) w4))]⟩
noncomputable def ref2_Inserted_l2 (n : Nat) (m0 : Nat) (v1 : List ApiValue) (v6 : Int) (v51 : List (List ApiValue)) (v52 : Int) (v53 : Int) (w2 : Rel) (w4 : Rel) (w9 : Rel) : Option (Rel × Int) := lp (E := E) (ps := [.t (.nm 3), .t (.sl (.nm 1))]) tt gl H (C64 n) n 15 Try.f15 [1, 1, 1, 1, 1, 1, 1, 1, 1, 0, 1, 0, 1, 1, 0] [] m0 ⟨mkT 77 0 [(1, .t (.sl (.nm 1)) v1), (2, .ptr 2 (.nm 3) []), (4, .ptr 4 (.nm 3) []), (6, .t (.int .i64) v6), (9, .ptr 9 (.nm 3) []), (51, .t (.sl (.sl (.nm 1))) v51), (52, .t (.int .i64) v52), (53, .t (.int .i64) v53)], mkB 308 0 [(2, .var (.nm 3) (.t (.nm 3) w2)), (4, .var (.nm 3) (.t (.nm 3) w4)), (9, .var (.nm 3) (.t (.nm 3) w9))]⟩
theorem ref2_Inserted_l2_eq (n : Nat) (m0 : Nat) (v1 : List ApiValue) (v6 : Int) (v51 : List (List ApiValue)) (v52 : Int) (v53 : Int) (w2 : Rel) (w4 : Rel) (w9 : Rel) : ref2_Inserted_l2 n (m0 + 1) v1 v6 v51 v52 v53 w2 w4 w9 = (bif (decide (v53 < v52)) then (bif (decide (0 ≤ v53) && decide (v53 < List.length v51)) then (bif (decide ((List.length w2.Key : Int) > 0)) then (Option.bind (ref2_keyOf n w2 (List.getD v51 (Int.toNat v53) [])) fun r7 => (Option.bind (ref2_keyOf n w2 v1) fun r8 => (Option.bind (ref2_Order n r7 r8) fun r9 => (bif (decide (r9 = 0)) then (ref2_Inserted_l2 n m0 v1 16 v51 v52 (IntKind.wrap .i64 (v53 + 1)) w2 w4 w9) else (ref2_Inserted_l2 n m0 v1 v6 v51 v52 (IntKind.wrap .i64 (v53 + 1)) w2 w4 w9))))) else (ref2_Inserted_l2 n m0 v1 v6 v51 v52 (IntKind.wrap .i64 (v53 + 1)) w2 w4 w9)) else none) else (bif (!decide (v6 = 0)) then (some ((Rel.mk [] [] [] []), v6)) else (some (w9, 0)))) := by kernel_rfl
theorem ref2_Inserted_l2_zero (n : Nat) (v1 : List ApiValue) (v6 : Int) (v51 : List (List ApiValue)) (v52 : Int) (v53 : Int) (w2 : Rel) (w4 : Rel) (w9 : Rel) : ref2_Inserted_l2 n 0 v1 v6 v51 v52 v53 w2 w4 w9 = none := by kernel_rfl
theorem ref2_Inserted_l2_fold (n : Nat) (v1 : List ApiValue) (v51 : List (List ApiValue)) (w2 : Rel) (w4 : Rel) (w9 : Rel) (v6 : Int) (hl : List.length v51 < 9223372036854775807) (m i : Nat) (hi : i ≤ List.length v51) (hm : List.length v51 - i < m) : ref2_Inserted_l2 n m v1 v6 v51 (List.length v51 : Int) (i : Int) w2 w4 w9 = foldK (S := Int) (fun i (a : (List ApiValue)) s K => (bif (decide ((List.length w2.Key : Int) > 0)) then (Option.bind (ref2_keyOf n w2 a) fun r7 => (Option.bind (ref2_keyOf n w2 v1) fun r8 => (Option.bind (ref2_Order n r7 r8) fun r9 => (bif (decide (r9 = 0)) then (K 16) else (K s))))) else (K s))) (fun s => (bif (!decide (s = 0)) then (some ((Rel.mk [] [] [] []), s)) else (some (w9, 0)))) (List.drop i v51) i (v6) := range_loop v51 [] hl (fun m (k : Int) (s : Int) => ref2_Inserted_l2 n m v1 s v51 (List.length v51 : Int) k w2 w4 w9) _ _ (fun m i s => (ref2_Inserted_l2_eq n m v1 s v51 (List.length v51 : Int) (i : Int) w2 w4 w9).trans (by kernel_rfl)) m i hi hm (v6)
theorem ref2_Inserted_l0_eq (n : Nat) (m0 : Nat) (v1 : List ApiValue) (v24 : List (List ApiValue)) (v25 : Int) (v26 : Int) (w2 : Rel) (w4 : Rel) : ref2_Inserted_l0 n (m0 + 1) v1 v24 v25 v26 w2 w4 = (bif (decide (v26 < v25)) then (bif (decide (0 ≤ v26) && decide (v26 < List.length v24)) then (Option.bind (ref2_Order n (List.getD v24 (Int.toNat v26) []) v1) fun r3 => (bif (decide (r3 = 0)) then (some ((Rel.mk [] [] [] []), 5)) else (ref2_Inserted_l0 n m0 v1 v24 v25 (IntKind.wrap .i64 (v26 + 1)) w2 w4))) else none) else (Option.bind (slices_Clone_LValue_nn n w2.Rows) fun r4 => (bif (decide ((List.length r4) = List.length r4) && decide (List.length r4 + List.length ([v1] : List (List ApiValue)) ≤ 4294967296)) then (bif (((decide ((List.length (r4 ++ [v1])) = List.length (r4 ++ [v1]))) && true) && true) then (Option.bind (ref2_Tidy n (Rel.mk w2.Name w2.Cols w2.Key (r4 ++ [v1]))) fun r5 => (Option.bind (ref2_RelErr n r5) fun r6 => (bif (decide (r6 = 2)) then (ref2_Inserted_l2 n n v1 6 w2.Rows (List.length w2.Rows : Int) 0 w2 w4 r5) else (bif (!decide (r6 = 0)) then (some ((Rel.mk [] [] [] []), r6)) else (some (r5, 0)))))) else none) else none))) := by kernel_rfl
theorem ref2_Inserted_l0_zero (n : Nat) (v1 : List ApiValue) (v24 : List (List ApiValue)) (v25 : Int) (v26 : Int) (w2 : Rel) (w4 : Rel) : ref2_Inserted_l0 n 0 v1 v24 v25 v26 w2 w4 = none := by kernel_rfl
theorem ref2_Inserted_l0_fold (n : Nat) (v1 : List ApiValue) (v24 : List (List ApiValue)) (w2 : Rel) (w4 : Rel) (hl : List.length v24 < 9223372036854775807) (m i : Nat) (hi : i ≤ List.length v24) (hm : List.length v24 - i < m) : ref2_Inserted_l0 n m v1 v24 (List.length v24 : Int) (i : Int) w2 w4 = foldK (S := Unit) (fun i (a : (List ApiValue)) s K => (Option.bind (ref2_Order n a v1) fun r3 => (bif (decide (r3 = 0)) then (some ((Rel.mk [] [] [] []), 5)) else (K ())))) (fun s => (Option.bind (slices_Clone_LValue_nn n w2.Rows) fun r4 => (bif (decide ((List.length r4) = List.length r4) && decide (List.length r4 + List.length ([v1] : List (List ApiValue)) ≤ 4294967296)) then (bif (((decide ((List.length (r4 ++ [v1])) = List.length (r4 ++ [v1]))) && true) && true) then (Option.bind (ref2_Tidy n (Rel.mk w2.Name w2.Cols w2.Key (r4 ++ [v1]))) fun r5 => (Option.bind (ref2_RelErr n r5) fun r6 => (bif (decide (r6 = 2)) then (ref2_Inserted_l2 n n v1 6 w2.Rows (List.length w2.Rows : Int) 0 w2 w4 r5) else (bif (!decide (r6 = 0)) then (some ((Rel.mk [] [] [] []), r6)) else (some (r5, 0)))))) else none) else none))) (List.drop i v24) i () := range_loop v24 [] hl (fun m (k : Int) (s : Unit) => ref2_Inserted_l0 n m v1 v24 (List.length v24 : Int) k w2 w4) _ _ (fun m i s => (ref2_Inserted_l0_eq n m v1 v24 (List.length v24 : Int) (i : Int) w2 w4).trans (by kernel_rfl)) m i hi hm ()
theorem ref2_Inserted_eq (n : Nat) (x0 : Rel) (x1 : List ApiValue) : ref2_Inserted n x0 x1 = (Option.bind (ref2_RelErr n x0) fun r1 => (bif (decide (r1 = 0)) then (Option.bind (ref2_RowErr n x0 x1) fun r2 => (bif (!decide (r2 = 0)) then (some ((Rel.mk [] [] [] []), r2)) else (ref2_Inserted_l0 n n x1 x0.Rows (List.length x0.Rows : Int) 0 x0 (Rel.mk [] [] [] [])))) else (bif (!decide (r1 = 0)) then (some ((Rel.mk [] [] [] []), r1)) else (ref2_Inserted_l0 n n x1 x0.Rows (List.length x0.Rows : Int) 0 x0 (Rel.mk [] [] [] []))))) := by kernel_rfl
noncomputable def C65 (n : Nat) : Call2 E := more tt gl H (C64 n) n 15 Try.f15 [.t (.nm 3), .t (.sl (.nm 1))] (C64 n)

/- clapperbridge/rel.Full -/
noncomputable def rel_Full (n : Nat) (x0 : Int) : Option ApiType := F2 (E := E) tt gl H (C65 n) n 49 Try.f49 [.t (.int .i64)] (x0, ())
theorem rel_Full_eq (n : Nat) (x0 : Int) : rel_Full n x0 = (bif (decide (x0 = 1)) then (some (ApiType.mk x0 [] 0 1 [] [])) else (bif (decide (x0 = 2)) then (some (ApiType.mk x0 [] (-9007199254740992) 9007199254740992 [] [])) else (bif (decide (x0 = 4)) then (some (ApiType.mk x0 [] 0 4194304 [] [])) else (bif (decide (x0 = 5)) then (some (ApiType.mk x0 [] 0 0 [46, 42] [])) else (some (ApiType.mk x0 [] 0 0 [] [])))))) := by kernel_rfl
noncomputable def C66 (n : Nat) : Call2 E := more tt gl H (C65 n) n 49 Try.f49 [.t (.int .i64)] (C65 n)

/- clapperbridge/rel.Type -/
noncomputable def rel_Type (n : Nat) (x0 : Rel) : Option ApiType := F2 (E := E) tt gl H (C66 n) n 22 Try.f22 [.t (.nm 3)] (x0, ())
noncomputable def rel_Type_l0 (n : Nat) (m0 : Nat) (v8 : List Col) (v9 : Int) (v10 : Int) (w2 : ApiType) (w3_0 : Int) (w3_1 : List UInt8) (w3_2 : Int) (w3_3 : Int) (w3_4 : List UInt8) (w3_5 : List Part) : Option ApiType := lp (E := E) (ps := [.t (.nm 3)]) tt gl H (C66 n) n 22 Try.f22 [1, 1, 0, 1, 0] [] m0 ⟨mkT 27 0 [(2, .ptr 2 (.nm 4) []), (3, .ptr 3 (.nm 4) []), (8, .t (.sl (.nm 0)) v8), (9, .t (.int .i64) v9), (10, .t (.int .i64) v10)], mkB 108 0 [(2, .var (.nm 4) (.t (.nm 4) w2)), (3, .var (.nm 4) (.agg [.t (.int .i64) w3_0, .t .str w3_1, .t (.int .i64) w3_2, .t (.int .i64) w3_3, .t .str w3_4, .sl 107 (.nm 5) w3_5])), (107, .grow (.nm 5) (List.length w3_5))]⟩
theorem rel_Type_l0_eq (n : Nat) (m0 : Nat) (v8 : List Col) (v9 : Int) (v10 : Int) (w2 : ApiType) (w3_0 : Int) (w3_1 : List UInt8) (w3_2 : Int) (w3_3 : Int) (w3_4 : List UInt8) (w3_5 : List Part) : rel_Type_l0 n (m0 + 1) v8 v9 v10 w2 w3_0 w3_1 w3_2 w3_3 w3_4 w3_5 = (bif (decide (v10 < v9)) then (bif (decide (0 ≤ v10) && decide (v10 < List.length v8)) then (Option.bind (rel_Full n ((List.getD v8 (Int.toNat v10) (Col.mk [] 0)).Kind)) fun r1 => (bif (decide ((List.length w3_5) = List.length w3_5) && decide (List.length w3_5 + List.length ([(Part.mk ((List.getD v8 (Int.toNat v10) (Col.mk [] 0)).Name) r1)] : List Part) ≤ 4294967296)) then (rel_Type_l0 n m0 v8 v9 (IntKind.wrap .i64 (v10 + 1)) w2 w3_0 w3_1 w3_2 w3_3 w3_4 (w3_5 ++ [(Part.mk ((List.getD v8 (Int.toNat v10) (Col.mk [] 0)).Name) r1)])) else none)) else none) else (some (ApiType.mk w3_0 w3_1 w3_2 w3_3 w3_4 w3_5))) := by kernel_rfl
theorem rel_Type_l0_zero (n : Nat) (v8 : List Col) (v9 : Int) (v10 : Int) (w2 : ApiType) (w3_0 : Int) (w3_1 : List UInt8) (w3_2 : Int) (w3_3 : Int) (w3_4 : List UInt8) (w3_5 : List Part) : rel_Type_l0 n 0 v8 v9 v10 w2 w3_0 w3_1 w3_2 w3_3 w3_4 w3_5 = none := by kernel_rfl
theorem rel_Type_l0_fold (n : Nat) (v8 : List Col) (w2 : ApiType) (w3_0 : Int) (w3_1 : List UInt8) (w3_2 : Int) (w3_3 : Int) (w3_4 : List UInt8) (w3_5 : List Part) (hl : List.length v8 < 9223372036854775807) (m i : Nat) (hi : i ≤ List.length v8) (hm : List.length v8 - i < m) : rel_Type_l0 n m v8 (List.length v8 : Int) (i : Int) w2 w3_0 w3_1 w3_2 w3_3 w3_4 w3_5 = foldK (S := (List Part)) (fun i (a : Col) s K => (Option.bind (rel_Full n (a.Kind)) fun r1 => (bif (decide ((List.length s) = List.length s) && decide (List.length s + List.length ([(Part.mk (a.Name) r1)] : List Part) ≤ 4294967296)) then (K (s ++ [(Part.mk (a.Name) r1)])) else none))) (fun s => (some (ApiType.mk w3_0 w3_1 w3_2 w3_3 w3_4 s))) (List.drop i v8) i (w3_5) := range_loop v8 (Col.mk [] 0) hl (fun m (k : Int) (s : (List Part)) => rel_Type_l0 n m v8 (List.length v8 : Int) k w2 w3_0 w3_1 w3_2 w3_3 w3_4 s) _ _ (fun m i s => (rel_Type_l0_eq n m v8 (List.length v8 : Int) (i : Int) w2 w3_0 w3_1 w3_2 w3_3 w3_4 s).trans (by kernel_rfl)) m i hi hm (w3_5)
theorem rel_Type_eq (n : Nat) (x0 : Rel) : rel_Type n x0 = (rel_Type_l0 n n x0.Cols (List.length x0.Cols : Int) 0 (ApiType.mk 0 [] 0 0 [] []) 6 [] 0 0 [] []) := by kernel_rfl
noncomputable def C67 (n : Nat) : Call2 E := more tt gl H (C66 n) n 22 Try.f22 [.t (.nm 3)] (C66 n)

/- clapperbridge/claplaw2.rels -/
noncomputable def law2_rels (n : Nat) : Option Bool := F2 (E := E) tt gl H (C67 n) n 8 Try.f8 [] (())
theorem law2_rels_eq (n : Nat) : law2_rels n = (Option.bind (rel_Type n (Rel.mk [] [(Col.mk [97] 2)] [] [])) fun r1 => (bif (decide ((List.length r1.Parts : Int) = 1)) then (bif (decide (0 ≤ (0 : Int)) && decide ((0 : Int) < List.length r1.Parts)) then (bif (decide ((((List.getD r1.Parts (Int.toNat (0 : Int)) (Part.mk [] (ApiType.mk 0 [] 0 0 [] []))).Type_).High) = 9007199254740992)) then (Option.bind (rel_Check n (Rel.mk [] [] [] [])) fun r2 => (some (decide (r2 = 15)))) else (some false)) else none) else (some false))) := by kernel_rfl
noncomputable def C68 (n : Nat) : Call2 E := more tt gl H (C67 n) n 8 Try.f8 [] (C67 n)

/- slices.Equal[[]clapperbridge/api.Col,clapperbridge/api.Col] -/
noncomputable def slices_Equal_Col (n : Nat) (x0 : List Col) (x1 : List Col) : Option Bool := F2 (E := E) tt gl H (C68 n) n 24 Try.f24 [.t (.sl (.nm 0)), .t (.sl (.nm 0))] (x0, x1, ())
noncomputable def slices_Equal_Col_l0 (n : Nat) (m0 : Nat) (v0 : List Col) (v1 : List Col) (v12 : Int) (v13 : Int) : Option Bool := lp (E := E) (ps := [.t (.sl (.nm 0)), .t (.sl (.nm 0))]) tt gl H (C68 n) n 24 Try.f24 [1, 1, 0, 1, 0] [] m0 ⟨mkT 26 0 [(0, .t (.sl (.nm 0)) v0), (1, .t (.sl (.nm 0)) v1), (12, .t (.int .i64) v12), (13, .t (.int .i64) v13)], mkB 104 0 []⟩
theorem slices_Equal_Col_l0_eq (n : Nat) (m0 : Nat) (v0 : List Col) (v1 : List Col) (v12 : Int) (v13 : Int) : slices_Equal_Col_l0 n (m0 + 1) v0 v1 v12 v13 = (bif (decide (v13 < v12)) then (bif (decide (0 ≤ v13) && decide (v13 < List.length v0)) then (bif (decide (0 ≤ v13) && decide (v13 < List.length v1)) then (bif (!((((List.getD v0 (Int.toNat v13) (Col.mk [] 0)).Name) == ((List.getD v1 (Int.toNat v13) (Col.mk [] 0)).Name)) && (((List.getD v0 (Int.toNat v13) (Col.mk [] 0)).Kind) == ((List.getD v1 (Int.toNat v13) (Col.mk [] 0)).Kind)))) then (some false) else (slices_Equal_Col_l0 n m0 v0 v1 v12 (IntKind.wrap .i64 (v13 + 1)))) else none) else none) else (some true)) := by kernel_rfl
theorem slices_Equal_Col_l0_zero (n : Nat) (v0 : List Col) (v1 : List Col) (v12 : Int) (v13 : Int) : slices_Equal_Col_l0 n 0 v0 v1 v12 v13 = none := by kernel_rfl
theorem slices_Equal_Col_l0_fold (n : Nat) (v0 : List Col) (v1 : List Col) (hl : List.length v0 < 9223372036854775807) (m i : Nat) (hi : i ≤ List.length v0) (hm : List.length v0 - i < m) : slices_Equal_Col_l0 n m v0 v1 (List.length v0 : Int) (i : Int) = foldK (S := Unit) (fun i (a : Col) s K => (bif (decide (0 ≤ (i : Int)) && decide ((i : Int) < List.length v1)) then (bif (!(((a.Name) == ((List.getD v1 (Int.toNat (i : Int)) (Col.mk [] 0)).Name)) && ((a.Kind) == ((List.getD v1 (Int.toNat (i : Int)) (Col.mk [] 0)).Kind)))) then (some false) else (K ())) else none)) (fun s => (some true)) (List.drop i v0) i () := range_loop v0 (Col.mk [] 0) hl (fun m (k : Int) (s : Unit) => slices_Equal_Col_l0 n m v0 v1 (List.length v0 : Int) k) _ _ (fun m i s => (slices_Equal_Col_l0_eq n m v0 v1 (List.length v0 : Int) (i : Int)).trans (by kernel_rfl)) m i hi hm ()
theorem slices_Equal_Col_eq (n : Nat) (x0 : List Col) (x1 : List Col) : slices_Equal_Col n x0 x1 = (bif (!decide ((List.length x0 : Int) = (List.length x1 : Int))) then (some false) else (slices_Equal_Col_l0 n n x0 x1 (List.length x0 : Int) 0)) := by kernel_rfl
noncomputable def C69 (n : Nat) : Call2 E := more tt gl H (C68 n) n 24 Try.f24 [.t (.sl (.nm 0)), .t (.sl (.nm 0))] (C68 n)

/- slices.Equal[[]string,string] -/
noncomputable def slices_Equal_string (n : Nat) (x0 : List (List UInt8)) (x1 : List (List UInt8)) : Option Bool := F2 (E := E) tt gl H (C69 n) n 25 Try.f25 [.t (.sl .str), .t (.sl .str)] (x0, x1, ())
noncomputable def slices_Equal_string_l0 (n : Nat) (m0 : Nat) (v0 : List (List UInt8)) (v1 : List (List UInt8)) (v12 : Int) (v13 : Int) : Option Bool := lp (E := E) (ps := [.t (.sl .str), .t (.sl .str)]) tt gl H (C69 n) n 25 Try.f25 [1, 1, 0, 1, 0] [] m0 ⟨mkT 26 0 [(0, .t (.sl .str) v0), (1, .t (.sl .str) v1), (12, .t (.int .i64) v12), (13, .t (.int .i64) v13)], mkB 104 0 []⟩
theorem slices_Equal_string_l0_eq (n : Nat) (m0 : Nat) (v0 : List (List UInt8)) (v1 : List (List UInt8)) (v12 : Int) (v13 : Int) : slices_Equal_string_l0 n (m0 + 1) v0 v1 v12 v13 = (bif (decide (v13 < v12)) then (bif (decide (0 ≤ v13) && decide (v13 < List.length v0)) then (bif (decide (0 ≤ v13) && decide (v13 < List.length v1)) then (bif (!((List.getD v0 (Int.toNat v13) []) == (List.getD v1 (Int.toNat v13) []))) then (some false) else (slices_Equal_string_l0 n m0 v0 v1 v12 (IntKind.wrap .i64 (v13 + 1)))) else none) else none) else (some true)) := by kernel_rfl
theorem slices_Equal_string_l0_zero (n : Nat) (v0 : List (List UInt8)) (v1 : List (List UInt8)) (v12 : Int) (v13 : Int) : slices_Equal_string_l0 n 0 v0 v1 v12 v13 = none := by kernel_rfl
theorem slices_Equal_string_l0_fold (n : Nat) (v0 : List (List UInt8)) (v1 : List (List UInt8)) (hl : List.length v0 < 9223372036854775807) (m i : Nat) (hi : i ≤ List.length v0) (hm : List.length v0 - i < m) : slices_Equal_string_l0 n m v0 v1 (List.length v0 : Int) (i : Int) = foldK (S := Unit) (fun i (a : (List UInt8)) s K => (bif (decide (0 ≤ (i : Int)) && decide ((i : Int) < List.length v1)) then (bif (!(a == (List.getD v1 (Int.toNat (i : Int)) []))) then (some false) else (K ())) else none)) (fun s => (some true)) (List.drop i v0) i () := range_loop v0 [] hl (fun m (k : Int) (s : Unit) => slices_Equal_string_l0 n m v0 v1 (List.length v0 : Int) k) _ _ (fun m i s => (slices_Equal_string_l0_eq n m v0 v1 (List.length v0 : Int) (i : Int)).trans (by kernel_rfl)) m i hi hm ()
theorem slices_Equal_string_eq (n : Nat) (x0 : List (List UInt8)) (x1 : List (List UInt8)) : slices_Equal_string n x0 x1 = (bif (!decide ((List.length x0 : Int) = (List.length x1 : Int))) then (some false) else (slices_Equal_string_l0 n n x0 x1 (List.length x0 : Int) 0)) := by kernel_rfl
noncomputable def C70 (n : Nat) : Call2 E := more tt gl H (C69 n) n 25 Try.f25 [.t (.sl .str), .t (.sl .str)] (C69 n)

/- clapperbridge/clapref2.SameRel -/
noncomputable def ref2_SameRel (n : Nat) (x0 : Rel) (x1 : Rel) : Option Bool := F2 (E := E) tt gl H (C70 n) n 9 Try.f9 [.t (.nm 3), .t (.nm 3)] (x0, x1, ())
noncomputable def ref2_SameRel_l0 (n : Nat) (m0 : Nat) (v38 : Int) (v39 : Int) (w2 : Rel) (w3 : Rel) : Option Bool := lp (E := E) (ps := [.t (.nm 3), .t (.nm 3)]) tt gl H (C70 n) n 9 Try.f9 [1, 1, 0, 1, 0] [] m0 ⟨mkT 55 0 [(2, .ptr 2 (.nm 3) []), (3, .ptr 3 (.nm 3) []), (38, .t (.int .i64) v38), (39, .t (.int .i64) v39)], mkB 220 0 [(2, .var (.nm 3) (.t (.nm 3) w2)), (3, .var (.nm 3) (.t (.nm 3) w3))]⟩
theorem ref2_SameRel_l0_eq (n : Nat) (m0 : Nat) (v38 : Int) (v39 : Int) (w2 : Rel) (w3 : Rel) : ref2_SameRel_l0 n (m0 + 1) v38 v39 w2 w3 = (bif (decide (v39 < v38)) then (bif (decide (0 ≤ v39) && decide (v39 < List.length w2.Rows)) then (bif (decide (0 ≤ v39) && decide (v39 < List.length w3.Rows)) then (Option.bind (ref2_Order n (List.getD w2.Rows (Int.toNat v39) []) (List.getD w3.Rows (Int.toNat v39) [])) fun r3 => (bif (!decide (r3 = 0)) then (some false) else (ref2_SameRel_l0 n m0 v38 (IntKind.wrap .i64 (v39 + 1)) w2 w3))) else none) else none) else (some true)) := by kernel_rfl
theorem ref2_SameRel_l0_zero (n : Nat) (v38 : Int) (v39 : Int) (w2 : Rel) (w3 : Rel) : ref2_SameRel_l0 n 0 v38 v39 w2 w3 = none := by kernel_rfl
theorem ref2_SameRel_l0_fold (n : Nat) (w2 : Rel) (w3 : Rel) (N : Nat) (hl : N < 9223372036854775807) (m i : Nat) (hi : i ≤ N) (hm : N - i < m) : ref2_SameRel_l0 n m (N : Int) (i : Int) w2 w3 = foldN (S := Unit) (fun i s K => (bif (decide (0 ≤ (i : Int)) && decide ((i : Int) < List.length w2.Rows)) then (bif (decide (0 ≤ (i : Int)) && decide ((i : Int) < List.length w3.Rows)) then (Option.bind (ref2_Order n (List.getD w2.Rows (Int.toNat (i : Int)) []) (List.getD w3.Rows (Int.toNat (i : Int)) [])) fun r3 => (bif (!decide (r3 = 0)) then (some false) else (K ()))) else none) else none)) (fun s => (some true)) (N - i) i () := count_loop N hl (fun m (k : Int) (s : Unit) => ref2_SameRel_l0 n m (N : Int) k w2 w3) _ _ (fun m i s => (ref2_SameRel_l0_eq n m (N : Int) (i : Int) w2 w3).trans (by kernel_rfl)) m i hi hm ()
theorem ref2_SameRel_eq (n : Nat) (x0 : Rel) (x1 : Rel) : ref2_SameRel n x0 x1 = (bif (!(x0.Name == x1.Name)) then (some false) else (Option.bind (slices_Equal_Col n x0.Cols x1.Cols) fun r1 => (bif (!r1) then (some false) else (Option.bind (slices_Equal_string n x0.Key x1.Key) fun r2 => (bif (!r2) then (some false) else (bif (!decide ((List.length x0.Rows : Int) = (List.length x1.Rows : Int))) then (some false) else (ref2_SameRel_l0 n n (List.length x0.Rows : Int) 0 x0 x1))))))) := by kernel_rfl
noncomputable def C71 (n : Nat) : Call2 E := more tt gl H (C70 n) n 9 Try.f9 [.t (.nm 3), .t (.nm 3)] (C70 n)

/- slices.Delete[[][]clapperbridge/api.Value,[]clapperbridge/api.Value] -/
noncomputable def slices_Delete_LValue (n : Nat) (x0 : List (List ApiValue) × Nat × Nat) (x1 : Int) (x2 : Int) : Option (Nat × (List (List ApiValue)) × Unit) := F2 (E := E) tt gl H (C71 n) n 44 Try.f44 [.row (.sl (.nm 1)), .t (.int .i64), .t (.int .i64)] (x0, x1, x2, ())
theorem slices_Delete_LValue_eq (n : Nat) (x0 : List (List ApiValue) × Nat × Nat) (x1 : Int) (x2 : Int) : slices_Delete_LValue n x0 x1 x2 = (bif (decide (0 ≤ x1) && decide (x1 ≤ x2) && decide (x2 ≤ (x0.2.2 : Int)) && decide ((x0.2.1 : Int) + (x0.2.2 : Int) ≤ List.length x0.1)) then (bif (decide (x1 = x2)) then (bif (decide (x0.2.1 = 0)) then (some (x0.2.2, x0.1, ())) else none) else (bif (decide (0 ≤ (0 : Int)) && decide ((0 : Int) ≤ x1) && decide ((x0.2.1 : Int) + x1 ≤ List.length x0.1)) then (bif (decide (0 ≤ x2) && decide (x2 ≤ (x0.2.2 : Int))) then (bif (decide ((x0.2.1 + (Int.toNat (0 : Int))) + ((Int.toNat x1) - (Int.toNat (0 : Int))) + (x0.2.2 - (Int.toNat x2)) ≤ List.length x0.1) && decide ((x0.2.1 + (Int.toNat x2)) + (x0.2.2 - (Int.toNat x2)) ≤ List.length x0.1)) then (bif (decide (0 ≤ (((((Int.toNat x1) - (Int.toNat (0 : Int))) + (x0.2.2 - (Int.toNat x2))) : Nat) : Int)) && decide ((((((Int.toNat x1) - (Int.toNat (0 : Int))) + (x0.2.2 - (Int.toNat x2))) : Nat) : Int) ≤ (x0.2.2 : Int)) && decide ((((x0.2.1 + (Int.toNat (0 : Int))) : Nat) : Int) + (x0.2.2 : Int) ≤ List.length (over x0.1 (List.take (x0.2.2 - (Int.toNat x2)) (List.drop (x0.2.1 + (Int.toNat x2)) x0.1)) ((x0.2.1 + (Int.toNat (0 : Int))) + ((Int.toNat x1) - (Int.toNat (0 : Int))))))) then (bif (decide (((x0.2.1 + (Int.toNat (0 : Int))) + (Int.toNat (((((Int.toNat x1) - (Int.toNat (0 : Int))) + (x0.2.2 - (Int.toNat x2))) : Nat) : Int))) + ((Int.toNat (x0.2.2 : Int)) - (Int.toNat (((((Int.toNat x1) - (Int.toNat (0 : Int))) + (x0.2.2 - (Int.toNat x2))) : Nat) : Int))) ≤ List.length (over x0.1 (List.take (x0.2.2 - (Int.toNat x2)) (List.drop (x0.2.1 + (Int.toNat x2)) x0.1)) ((x0.2.1 + (Int.toNat (0 : Int))) + ((Int.toNat x1) - (Int.toNat (0 : Int))))))) then (bif (decide ((x0.2.1 + (Int.toNat (0 : Int))) = 0)) then (some ((((Int.toNat x1) - (Int.toNat (0 : Int))) + (x0.2.2 - (Int.toNat x2))), (over (over x0.1 (List.take (x0.2.2 - (Int.toNat x2)) (List.drop (x0.2.1 + (Int.toNat x2)) x0.1)) ((x0.2.1 + (Int.toNat (0 : Int))) + ((Int.toNat x1) - (Int.toNat (0 : Int))))) (List.replicate ((Int.toNat (x0.2.2 : Int)) - (Int.toNat (((((Int.toNat x1) - (Int.toNat (0 : Int))) + (x0.2.2 - (Int.toNat x2))) : Nat) : Int))) []) ((x0.2.1 + (Int.toNat (0 : Int))) + (Int.toNat (((((Int.toNat x1) - (Int.toNat (0 : Int))) + (x0.2.2 - (Int.toNat x2))) : Nat) : Int)))), ())) else none) else none) else none) else none) else none) else none)) else none) := by kernel_rfl
noncomputable def C72 (n : Nat) : Call2 E := more tt gl H (C71 n) n 44 Try.f44 [.row (.sl (.nm 1)), .t (.int .i64), .t (.int .i64)] (C71 n)

/- clapperbridge/rel.Delete -/
noncomputable def rel_Delete (n : Nat) (x0 : Rel) (x1 : List ApiValue) : Option (Rel × Int) := F2 (E := E) tt gl H (C72 n) n 16 Try.f16 [.t (.nm 3), .t (.sl (.nm 1))] (x0, x1, ())
theorem rel_Delete_eq (n : Nat) (x0 : Rel) (x1 : List ApiValue) : rel_Delete n x0 x1 = (Option.bind (rel_Check n x0) fun r1 => (bif (!decide (r1 = 0)) then (some ((Rel.mk [] [] [] []), r1)) else (Option.bind (slices_BinarySearchFunc_LValue_by_rel_Cmp n x0.Rows x1 (())) fun r2 => (bif (!r2.2) then (some ((Rel.mk [] [] [] []), 4)) else (Option.bind (rel_Copy n x0) fun r3 => (Option.bind (slices_Delete_LValue n (r3.2.2.2, 0, (List.length r3.2.2.2)) r2.1 (IntKind.wrap .i64 (r2.1 + 1))) fun r4 => (bif (decide (r4.1 ≤ List.length r4.2.1)) then (bif (((decide (0 + r4.1 ≤ List.length r4.2.1)) && true) && true) then (some ((Rel.mk r3.1 r3.2.1 r3.2.2.1 (List.take r4.1 r4.2.1)), 0)) else none) else none))))))) := by kernel_rfl
noncomputable def C73 (n : Nat) : Call2 E := more tt gl H (C72 n) n 16 Try.f16 [.t (.nm 3), .t (.sl (.nm 1))] (C72 n)

/- clapperbridge/claplaw2.RelInserts$1 -/
noncomputable def law2_RelInserts_1 (n : Nat) (x0 : List ApiValue) (x1 : List ApiValue) : Option Bool := F2 (E := E) tt gl H (C73 n) n 19 Try.f19 [.t (.sl (.nm 1)), .imm (.sl (.nm 1))] (x0, x1, ())
theorem law2_RelInserts_1_eq (n : Nat) (x0 : List ApiValue) (x1 : List ApiValue) : law2_RelInserts_1 n x0 x1 = (Option.bind (ref2_Order n x0 x1) fun r1 => (some (decide (r1 = 0)))) := by kernel_rfl
noncomputable def C74 (n : Nat) : Call2 E := more tt gl H (C73 n) n 19 Try.f19 [.t (.sl (.nm 1)), .imm (.sl (.nm 1))] (C73 n)

/- slices.IndexFunc[[][]clapperbridge/api.Value,[]clapperbridge/api.Value] -/
noncomputable def slices_IndexFunc_LValue_by_law2_RelInserts_1 (n : Nat) (x0 : List (List ApiValue)) (x1 : ((List ApiValue) × Unit)) : Option Int := F2 (E := E) tt gl H (C74 n) n 18 Try.f18 [.t (.sl (.sl (.nm 1))), .fn 19 [(.sl (.nm 1))]] (x0, x1, ())
noncomputable def slices_IndexFunc_LValue_by_law2_RelInserts_1_l0 (n : Nat) (m0 : Nat) (v0 : List (List ApiValue)) (v1c0 : List ApiValue) (v7 : Int) (v8 : Int) : Option Int := lp (E := E) (ps := [.t (.sl (.sl (.nm 1))), .fn 19 [(.sl (.nm 1))]]) tt gl H (C74 n) n 18 Try.f18 [1, 0, 1, 0] [] m0 ⟨mkT 19 0 [(0, .t (.sl (.sl (.nm 1))) v0), (1, .func 19 [⟨(.sl (.nm 1)), v1c0⟩]), (7, .t (.int .i64) v7), (8, .t (.int .i64) v8)], mkB 76 0 []⟩
theorem slices_IndexFunc_LValue_by_law2_RelInserts_1_l0_eq (n : Nat) (m0 : Nat) (v0 : List (List ApiValue)) (v1c0 : List ApiValue) (v7 : Int) (v8 : Int) : slices_IndexFunc_LValue_by_law2_RelInserts_1_l0 n (m0 + 1) v0 v1c0 v7 v8 = (bif (decide (v8 < v7)) then (bif (decide (0 ≤ v8) && decide (v8 < List.length v0)) then (Option.bind (law2_RelInserts_1 n (List.getD v0 (Int.toNat v8) []) v1c0) fun r1 => (bif r1 then (some v8) else (slices_IndexFunc_LValue_by_law2_RelInserts_1_l0 n m0 v0 v1c0 v7 (IntKind.wrap .i64 (v8 + 1))))) else none) else (some (-1))) := by kernel_rfl
theorem slices_IndexFunc_LValue_by_law2_RelInserts_1_l0_zero (n : Nat) (v0 : List (List ApiValue)) (v1c0 : List ApiValue) (v7 : Int) (v8 : Int) : slices_IndexFunc_LValue_by_law2_RelInserts_1_l0 n 0 v0 v1c0 v7 v8 = none := by kernel_rfl
theorem slices_IndexFunc_LValue_by_law2_RelInserts_1_l0_fold (n : Nat) (v0 : List (List ApiValue)) (v1c0 : List ApiValue) (hl : List.length v0 < 9223372036854775807) (m i : Nat) (hi : i ≤ List.length v0) (hm : List.length v0 - i < m) : slices_IndexFunc_LValue_by_law2_RelInserts_1_l0 n m v0 v1c0 (List.length v0 : Int) (i : Int) = foldK (S := Unit) (fun i (a : (List ApiValue)) s K => (Option.bind (law2_RelInserts_1 n a v1c0) fun r1 => (bif r1 then (some (i : Int)) else (K ())))) (fun s => (some (-1))) (List.drop i v0) i () := range_loop v0 [] hl (fun m (k : Int) (s : Unit) => slices_IndexFunc_LValue_by_law2_RelInserts_1_l0 n m v0 v1c0 (List.length v0 : Int) k) _ _ (fun m i s => (slices_IndexFunc_LValue_by_law2_RelInserts_1_l0_eq n m v0 v1c0 (List.length v0 : Int) (i : Int)).trans (by kernel_rfl)) m i hi hm ()
theorem slices_IndexFunc_LValue_by_law2_RelInserts_1_eq (n : Nat) (x0 : List (List ApiValue)) (x1 : ((List ApiValue) × Unit)) : slices_IndexFunc_LValue_by_law2_RelInserts_1 n x0 x1 = (slices_IndexFunc_LValue_by_law2_RelInserts_1_l0 n n x0 x1.1 (List.length x0 : Int) 0) := by kernel_rfl
noncomputable def C75 (n : Nat) : Call2 E := more tt gl H (C74 n) n 18 Try.f18 [.t (.sl (.sl (.nm 1))), .fn 19 [(.sl (.nm 1))]] (C74 n)

/- slices.Grow[[][]clapperbridge/api.Value,[]clapperbridge/api.Value] -/
noncomputable def slices_Grow_LValue_nil (n : Nat) (x0 : Unit) (x1 : Int) : Option (List (List ApiValue)) := F2 (E := E) tt gl H (C75 n) n 48 Try.f48 [.snil (.sl (.nm 1)), .t (.int .i64)] ((), x1, ())
theorem slices_Grow_LValue_nil_eq (n : Nat) (x0 : Unit) (x1 : Int) : slices_Grow_LValue_nil n x0 x1 = (bif (decide (x1 < 0)) then none else (bif (decide ((IntKind.wrap .i64 (x1 - (IntKind.wrap .i64 ((0 : Int) - (List.length ([] : List (List ApiValue)) : Int))))) > 0)) then (bif (decide ((0 : Int) = 0)) then (bif (decide (0 < (IntKind.wrap .i64 (x1 - (IntKind.wrap .i64 ((0 : Int) - (List.length ([] : List (List ApiValue)) : Int)))))) && decide ((IntKind.wrap .i64 (x1 - (IntKind.wrap .i64 ((0 : Int) - (List.length ([] : List (List ApiValue)) : Int))))) ≤ 4294967296)) then (bif (decide ((List.length ([] : List (List ApiValue)) : Int) = 0)) then (bif (decide (0 = List.length ([] : List (List ApiValue)))) then (some []) else none) else none) else none) else none) else (some []))) := by kernel_rfl
noncomputable def C76 (n : Nat) : Call2 E := more tt gl H (C75 n) n 48 Try.f48 [.snil (.sl (.nm 1)), .t (.int .i64)] (C75 n)

/- slices.Concat[[][]clapperbridge/api.Value,[]clapperbridge/api.Value] -/
noncomputable def slices_Concat_LValue (n : Nat) (x0 : List (List (List ApiValue))) : Option (List (List ApiValue)) := F2 (E := E) tt gl H (C76 n) n 21 Try.f21 [.t (.sl (.sl (.sl (.nm 1))))] (x0, ())
noncomputable def slices_Concat_LValue_l0 (n : Nat) (m0 : Nat) (v0 : List (List (List ApiValue))) (v3 : Int) (v9 : List (List (List ApiValue))) (v10 : Int) (v11 : Int) : Option (List (List ApiValue)) := lp (E := E) (ps := [.t (.sl (.sl (.sl (.nm 1))))]) tt gl H (C76 n) n 21 Try.f21 [1, 1, 0, 1, 0] [] m0 ⟨mkT 36 0 [(0, .t (.sl (.sl (.sl (.nm 1)))) v0), (3, .t (.int .i64) v3), (9, .t (.sl (.sl (.sl (.nm 1)))) v9), (10, .t (.int .i64) v10), (11, .t (.int .i64) v11)], mkB 144 0 []⟩
noncomputable def slices_Concat_LValue_l2 (n : Nat) (m0 : Nat) (v6 : List (List ApiValue)) (v25 : List (List (List ApiValue))) (v26 : Int) (v27 : Int) : Option (List (List ApiValue)) := lp (E := E) (ps := [.t (.sl (.sl (.sl (.nm 1))))]) tt gl H (C76 n) n 21 Try.f21 [1, 1, 1, 1, 0, 1, 0] [] m0 ⟨mkT 36 0 [(6, .sl 22 (.sl (.nm 1)) v6), (25, .t (.sl (.sl (.sl (.nm 1)))) v25), (26, .t (.int .i64) v26), (27, .t (.int .i64) v27)], mkB 144 0 [(22, .grow (.sl (.nm 1)) (List.length v6))]⟩
theorem slices_Concat_LValue_l2_eq (n : Nat) (m0 : Nat) (v6 : List (List ApiValue)) (v25 : List (List (List ApiValue))) (v26 : Int) (v27 : Int) : slices_Concat_LValue_l2 n (m0 + 1) v6 v25 v26 v27 = (bif (decide (v27 < v26)) then (bif (decide (0 ≤ v27) && decide (v27 < List.length v25)) then (bif (decide ((List.length v6) = List.length v6) && decide (List.length v6 + List.length (List.getD v25 (Int.toNat v27) []) ≤ 4294967296)) then (slices_Concat_LValue_l2 n m0 (v6 ++ (List.getD v25 (Int.toNat v27) [])) v25 v26 (IntKind.wrap .i64 (v27 + 1))) else none) else none) else (some v6)) := by kernel_rfl
theorem slices_Concat_LValue_l2_zero (n : Nat) (v6 : List (List ApiValue)) (v25 : List (List (List ApiValue))) (v26 : Int) (v27 : Int) : slices_Concat_LValue_l2 n 0 v6 v25 v26 v27 = none := by kernel_rfl
theorem slices_Concat_LValue_l2_fold (n : Nat) (v25 : List (List (List ApiValue))) (v6 : List (List ApiValue)) (hl : List.length v25 < 9223372036854775807) (m i : Nat) (hi : i ≤ List.length v25) (hm : List.length v25 - i < m) : slices_Concat_LValue_l2 n m v6 v25 (List.length v25 : Int) (i : Int) = foldK (S := (List (List ApiValue))) (fun i (a : (List (List ApiValue))) s K => (bif (decide ((List.length s) = List.length s) && decide (List.length s + List.length a ≤ 4294967296)) then (K (s ++ a)) else none)) (fun s => (some s)) (List.drop i v25) i (v6) := range_loop v25 [] hl (fun m (k : Int) (s : (List (List ApiValue))) => slices_Concat_LValue_l2 n m s v25 (List.length v25 : Int) k) _ _ (fun m i s => (slices_Concat_LValue_l2_eq n m s v25 (List.length v25 : Int) (i : Int)).trans (by kernel_rfl)) m i hi hm (v6)
theorem slices_Concat_LValue_l0_eq (n : Nat) (m0 : Nat) (v0 : List (List (List ApiValue))) (v3 : Int) (v9 : List (List (List ApiValue))) (v10 : Int) (v11 : Int) : slices_Concat_LValue_l0 n (m0 + 1) v0 v3 v9 v10 v11 = (bif (decide (v11 < v10)) then (bif (decide (0 ≤ v11) && decide (v11 < List.length v9)) then (bif (decide ((IntKind.wrap .i64 (v3 + (List.length (List.getD v9 (Int.toNat v11) []) : Int))) < 0)) then none else (slices_Concat_LValue_l0 n m0 v0 (IntKind.wrap .i64 (v3 + (List.length (List.getD v9 (Int.toNat v11) []) : Int))) v9 v10 (IntKind.wrap .i64 (v11 + 1)))) else none) else (Option.bind (slices_Grow_LValue_nil n () v3) fun r1 => (slices_Concat_LValue_l2 n n r1 v0 (List.length v0 : Int) 0))) := by kernel_rfl
theorem slices_Concat_LValue_l0_zero (n : Nat) (v0 : List (List (List ApiValue))) (v3 : Int) (v9 : List (List (List ApiValue))) (v10 : Int) (v11 : Int) : slices_Concat_LValue_l0 n 0 v0 v3 v9 v10 v11 = none := by kernel_rfl
theorem slices_Concat_LValue_l0_fold (n : Nat) (v0 : List (List (List ApiValue))) (v9 : List (List (List ApiValue))) (v3 : Int) (hl : List.length v9 < 9223372036854775807) (m i : Nat) (hi : i ≤ List.length v9) (hm : List.length v9 - i < m) : slices_Concat_LValue_l0 n m v0 v3 v9 (List.length v9 : Int) (i : Int) = foldK (S := Int) (fun i (a : (List (List ApiValue))) s K => (bif (decide ((IntKind.wrap .i64 (s + (List.length a : Int))) < 0)) then none else (K (IntKind.wrap .i64 (s + (List.length a : Int)))))) (fun s => (Option.bind (slices_Grow_LValue_nil n () s) fun r1 => (slices_Concat_LValue_l2 n n r1 v0 (List.length v0 : Int) 0))) (List.drop i v9) i (v3) := range_loop v9 [] hl (fun m (k : Int) (s : Int) => slices_Concat_LValue_l0 n m v0 s v9 (List.length v9 : Int) k) _ _ (fun m i s => (slices_Concat_LValue_l0_eq n m v0 s v9 (List.length v9 : Int) (i : Int)).trans (by kernel_rfl)) m i hi hm (v3)
theorem slices_Concat_LValue_eq (n : Nat) (x0 : List (List (List ApiValue))) : slices_Concat_LValue n x0 = (slices_Concat_LValue_l0 n n x0 0 x0 (List.length x0 : Int) 0) := by kernel_rfl
noncomputable def C77 (n : Nat) : Call2 E := more tt gl H (C76 n) n 21 Try.f21 [.t (.sl (.sl (.sl (.nm 1))))] (C76 n)

/- clapperbridge/claplaw2.RelInserts -/
noncomputable def law2_RelInserts (n : Nat) (x0 : Rel) (x1 : List ApiValue) : Option Bool := F2 (E := E) tt gl H (C77 n) n 4 Try.f4 [.t (.nm 3), .t (.sl (.nm 1))] (x0, x1, ())
theorem law2_RelInserts_eq (n : Nat) (x0 : Rel) (x1 : List ApiValue) : law2_RelInserts n x0 x1 = (Option.bind (rel_Insert n x0 x1) fun r1 => (Option.bind (ref2_Inserted n x0 x1) fun r2 => (Option.bind (law2_rels n) fun r3 => (bif (!r3) then (some false) else (bif (!decide (r1.2 = r2.2)) then (some false) else (Option.bind (ref2_SameRel n r1.1 r2.1) fun r4 => (bif (!r4) then (some false) else (Option.bind (rel_Delete n x0 x1) fun r5 => (Option.bind (ref2_RelErr n x0) fun r6 => (Option.bind (slices_IndexFunc_LValue_by_law2_RelInserts_1 n x0.Rows (x1, ())) fun r7 => (bif (decide (r6 = 0)) then (bif (decide (r7 < 0)) then (bif (!decide ((4 : Int) = 0)) then (bif (decide (r5.2 = 4)) then (Option.bind (ref2_SameRel n r5.1 (Rel.mk [] [] [] [])) fun r8 => (some r8)) else (some false)) else (bif (decide (0 ≤ r7) && decide (r7 ≤ (List.length x0.Rows))) then (bif (decide (0 ≤ (IntKind.wrap .i64 (r7 + 1))) && decide ((IntKind.wrap .i64 (r7 + 1)) ≤ (List.length x0.Rows))) then (Option.bind (slices_Concat_LValue n [(List.take (Int.toNat r7) x0.Rows), (List.drop (Int.toNat (IntKind.wrap .i64 (r7 + 1))) x0.Rows)]) fun r9 => (bif (decide (r5.2 = 0)) then (Option.bind (ref2_SameRel n r5.1 (Rel.mk x0.Name x0.Cols x0.Key r9)) fun r10 => (some r10)) else (some false))) else none) else none)) else (bif (!decide (r6 = 0)) then (bif (decide (r5.2 = r6)) then (Option.bind (ref2_SameRel n r5.1 (Rel.mk [] [] [] [])) fun r11 => (some r11)) else (some false)) else (bif (decide (0 ≤ r7) && decide (r7 ≤ (List.length x0.Rows))) then (bif (decide (0 ≤ (IntKind.wrap .i64 (r7 + 1))) && decide ((IntKind.wrap .i64 (r7 + 1)) ≤ (List.length x0.Rows))) then (Option.bind (slices_Concat_LValue n [(List.take (Int.toNat r7) x0.Rows), (List.drop (Int.toNat (IntKind.wrap .i64 (r7 + 1))) x0.Rows)]) fun r12 => (bif (decide (r5.2 = 0)) then (Option.bind (ref2_SameRel n r5.1 (Rel.mk x0.Name x0.Cols x0.Key r12)) fun r13 => (some r13)) else (some false))) else none) else none))) else (bif (!decide (r6 = 0)) then (bif (decide (r5.2 = r6)) then (Option.bind (ref2_SameRel n r5.1 (Rel.mk [] [] [] [])) fun r14 => (some r14)) else (some false)) else (bif (decide (0 ≤ r7) && decide (r7 ≤ (List.length x0.Rows))) then (bif (decide (0 ≤ (IntKind.wrap .i64 (r7 + 1))) && decide ((IntKind.wrap .i64 (r7 + 1)) ≤ (List.length x0.Rows))) then (Option.bind (slices_Concat_LValue n [(List.take (Int.toNat r7) x0.Rows), (List.drop (Int.toNat (IntKind.wrap .i64 (r7 + 1))) x0.Rows)]) fun r15 => (bif (decide (r5.2 = 0)) then (Option.bind (ref2_SameRel n r5.1 (Rel.mk x0.Name x0.Cols x0.Key r15)) fun r16 => (some r16)) else (some false))) else none) else none))))))))))))) := by kernel_rfl
noncomputable def C78 (n : Nat) : Call2 E := more tt gl H (C77 n) n 4 Try.f4 [.t (.nm 3), .t (.sl (.nm 1))] (C77 n)

theorem ok0 (n : Nat) : CallOK Try.prog gl (callR (C0 n)) := none_ok
theorem ok1 (n : Nat) : CallOK Try.prog gl (callR (C1 n)) := more_ok envOK hz tok hmix (ok0 n) (ok0 n) Try.func63 (by decide)
theorem ok2 (n : Nat) : CallOK Try.prog gl (callR (C2 n)) := more_ok envOK hz tok hmix (ok1 n) (ok1 n) Try.func70 (by decide)
theorem ok3 (n : Nat) : CallOK Try.prog gl (callR (C3 n)) := more_ok envOK hz tok hmix (ok2 n) (ok2 n) Try.func90 (by decide)
theorem ok4 (n : Nat) : CallOK Try.prog gl (callR (C4 n)) := more_ok envOK hz tok hmix (ok3 n) (ok3 n) Try.func69 (by decide)
theorem ok5 (n : Nat) : CallOK Try.prog gl (callR (C5 n)) := more_ok envOK hz tok hmix (ok4 n) (ok4 n) Try.func71 (by decide)
theorem ok6 (n : Nat) : CallOK Try.prog gl (callR (C6 n)) := more_ok envOK hz tok hmix (ok5 n) (ok5 n) Try.func91 (by decide)
theorem ok7 (n : Nat) : CallOK Try.prog gl (callR (C7 n)) := more_ok envOK hz tok hmix (ok6 n) (ok6 n) Try.func90 (by decide)
theorem ok8 (n : Nat) : CallOK Try.prog gl (callR (C8 n)) := more_ok envOK hz tok hmix (ok7 n) (ok7 n) Try.func60 (by decide)
theorem ok9 (n : Nat) : CallOK Try.prog gl (callR (C9 n)) := more_ok envOK hz tok hmix (ok8 n) (ok8 n) Try.func93 (by decide)
theorem ok10 (n : Nat) : CallOK Try.prog gl (callR (C10 n)) := more_ok envOK hz tok hmix (ok9 n) (ok9 n) Try.func72 (by decide)
theorem ok11 (n : Nat) : CallOK Try.prog gl (callR (C11 n)) := more_ok envOK hz tok hmix (ok10 n) (ok10 n) Try.func50 (by decide)
theorem okr11 : ∀ d n : Nat, CallOK Try.prog gl (callR (Cr11 d n))
  | 0, n => ok11 n
  | d + 1, n => (more_ok envOK hz tok hmix (okr11 d n) (ok11 n) Try.func86 (by decide))
theorem ok12 (n : Nat) : CallOK Try.prog gl (callR (C12 n)) := okr11 (n + 1) n
theorem okr12 : ∀ d n : Nat, CallOK Try.prog gl (callR (Cr12 d n))
  | 0, n => ok12 n
  | d + 1, n => (more_ok envOK hz tok hmix (okr12 d n) (ok12 n) Try.func87 (by decide))
theorem ok13 (n : Nat) : CallOK Try.prog gl (callR (C13 n)) := okr12 (n + 1) n
theorem ok14 (n : Nat) : CallOK Try.prog gl (callR (C14 n)) := more_ok envOK hz tok hmix (ok13 n) (ok13 n) Try.func105 (by decide)
theorem ok15 (n : Nat) : CallOK Try.prog gl (callR (C15 n)) := more_ok envOK hz tok hmix (ok14 n) (ok14 n) Try.func100 (by decide)
theorem ok16 (n : Nat) : CallOK Try.prog gl (callR (C16 n)) := more_ok envOK hz tok hmix (ok15 n) (ok15 n) Try.func101 (by decide)
theorem ok17 (n : Nat) : CallOK Try.prog gl (callR (C17 n)) := more_ok envOK hz tok hmix (ok16 n) (ok16 n) Try.func109 (by decide)
theorem ok18 (n : Nat) : CallOK Try.prog gl (callR (C18 n)) := more_ok envOK hz tok hmix (ok17 n) (ok17 n) Try.func110 (by decide)
theorem ok19 (n : Nat) : CallOK Try.prog gl (callR (C19 n)) := more_ok envOK hz tok hmix (ok18 n) (ok18 n) Try.func108 (by decide)
theorem ok20 (n : Nat) : CallOK Try.prog gl (callR (C20 n)) := more_ok envOK hz tok hmix (ok19 n) (ok19 n) Try.func106 (by decide)
theorem ok21 (n : Nat) : CallOK Try.prog gl (callR (C21 n)) := more_ok envOK hz tok hmix (ok20 n) (ok20 n) Try.func107 (by decide)
theorem ok22 (n : Nat) : CallOK Try.prog gl (callR (C22 n)) := more_ok envOK hz tok hmix (ok21 n) (ok21 n) Try.func102 (by decide)
theorem okr22 : ∀ d n : Nat, CallOK Try.prog gl (callR (Cr22 d n))
  | 0, n => ok22 n
  | d + 1, n => (more_ok envOK hz tok hmix (okr22 d n) (ok22 n) Try.func88 (by decide))
theorem ok23 (n : Nat) : CallOK Try.prog gl (callR (C23 n)) := okr22 (n + 1) n
theorem ok24 (n : Nat) : CallOK Try.prog gl (callR (C24 n)) := more_ok envOK hz tok hmix (ok23 n) (ok23 n) Try.func57 (by decide)
theorem ok25 (n : Nat) : CallOK Try.prog gl (callR (C25 n)) := more_ok envOK hz tok hmix (ok24 n) (ok24 n) Try.func36 (by decide)
theorem ok26 (n : Nat) : CallOK Try.prog gl (callR (C26 n)) := more_ok envOK hz tok hmix (ok25 n) (ok25 n) Try.func64 (by decide)
theorem ok27 (n : Nat) : CallOK Try.prog gl (callR (C27 n)) := more_ok envOK hz tok hmix (ok26 n) (ok26 n) Try.func73 (by decide)
theorem ok28 (n : Nat) : CallOK Try.prog gl (callR (C28 n)) := more_ok envOK hz tok hmix (ok27 n) (ok27 n) Try.func51 (by decide)
theorem ok29 (n : Nat) : CallOK Try.prog gl (callR (C29 n)) := moreF_ok (ok28 n) fnok66 func66
theorem ok30 (n : Nat) : CallOK Try.prog gl (callR (C30 n)) := more_ok envOK hz tok hmix (ok29 n) (ok29 n) Try.func65 (by decide)
theorem okr30 : ∀ d n : Nat, CallOK Try.prog gl (callR (Cr30 d n))
  | 0, n => ok30 n
  | d + 1, n => (more_ok envOK hz tok hmix (okr30 d n) (more_ok envOK hz tok hmix (okr30 d n) (more_ok envOK hz tok hmix (okr30 d n) (ok30 n) Try.func47 (by decide)) Try.func67 (by decide)) Try.func68 (by decide))
theorem ok31 (n : Nat) : CallOK Try.prog gl (callR (C31 n)) := okr30 (n + 1) n
theorem ok32 (n : Nat) : CallOK Try.prog gl (callR (C32 n)) := more_ok envOK hz tok hmix (ok31 n) (ok31 n) Try.func28 (by decide)
theorem ok33 (n : Nat) : CallOK Try.prog gl (callR (C33 n)) := more_ok envOK hz tok hmix (ok32 n) (ok32 n) Try.func61 (by decide)
theorem ok34 (n : Nat) : CallOK Try.prog gl (callR (C34 n)) := more_ok envOK hz tok hmix (ok33 n) (ok33 n) Try.func59 (by decide)
theorem ok35 (n : Nat) : CallOK Try.prog gl (callR (C35 n)) := more_ok envOK hz tok hmix (ok34 n) (ok34 n) Try.func89 (by decide)
theorem ok36 (n : Nat) : CallOK Try.prog gl (callR (C36 n)) := more_ok envOK hz tok hmix (ok35 n) (ok35 n) Try.func58 (by decide)
theorem ok37 (n : Nat) : CallOK Try.prog gl (callR (C37 n)) := more_ok envOK hz tok hmix (ok36 n) (ok36 n) Try.func40 (by decide)
theorem ok38 (n : Nat) : CallOK Try.prog gl (callR (C38 n)) := more_ok envOK hz tok hmix (ok37 n) (ok37 n) Try.func23 (by decide)
theorem ok39 (n : Nat) : CallOK Try.prog gl (callR (C39 n)) := more_ok envOK hz tok hmix (ok38 n) (ok38 n) Try.func37 (by decide)
theorem ok40 (n : Nat) : CallOK Try.prog gl (callR (C40 n)) := more_ok envOK hz tok hmix (ok39 n) (ok39 n) Try.func39 (by decide)
theorem ok41 (n : Nat) : CallOK Try.prog gl (callR (C41 n)) := more_ok envOK hz tok hmix (ok40 n) (ok40 n) Try.func18 (by decide)
theorem ok42 (n : Nat) : CallOK Try.prog gl (callR (C42 n)) := more_ok envOK hz tok hmix (ok41 n) (ok41 n) Try.func38 (by decide)
theorem ok43 (n : Nat) : CallOK Try.prog gl (callR (C43 n)) := more_ok envOK hz tok hmix (ok42 n) (ok42 n) Try.func29 (by decide)
theorem ok44 (n : Nat) : CallOK Try.prog gl (callR (C44 n)) := moreN_ok envOK hz tok hmix (ok42 n) (ok43 n) Try.func29 (by decide) (slices_Clone_Col_nn_hq n)
theorem ok45 (n : Nat) : CallOK Try.prog gl (callR (C45 n)) := more_ok envOK hz tok hmix (ok44 n) (ok44 n) Try.func30 (by decide)
theorem ok46 (n : Nat) : CallOK Try.prog gl (callR (C46 n)) := moreN_ok envOK hz tok hmix (ok44 n) (ok45 n) Try.func30 (by decide) (slices_Clone_string_nn_hq n)
theorem ok47 (n : Nat) : CallOK Try.prog gl (callR (C47 n)) := more_ok envOK hz tok hmix (ok46 n) (ok46 n) Try.func74 (by decide)
theorem ok48 (n : Nat) : CallOK Try.prog gl (callR (C48 n)) := moreN_ok envOK hz tok hmix (ok46 n) (ok47 n) Try.func74 (by decide) (slices_Clone_Field_nn_hq n)
theorem okr48 : ∀ d n : Nat, CallOK Try.prog gl (callR (Cr48 d n))
  | 0, n => ok48 n
  | d + 1, n => (more_ok envOK hz tok hmix (okr48 d n) (ok48 n) Try.func52 (by decide))
theorem ok49 (n : Nat) : CallOK Try.prog gl (callR (C49 n)) := okr48 (n + 1) n
theorem ok50 (n : Nat) : CallOK Try.prog gl (callR (C50 n)) := more_ok envOK hz tok hmix (ok49 n) (ok49 n) Try.func31 (by decide)
theorem ok51 (n : Nat) : CallOK Try.prog gl (callR (C51 n)) := more_ok envOK hz tok hmix (ok50 n) (ok50 n) Try.func11 (by decide)
theorem ok52 (n : Nat) : CallOK Try.prog gl (callR (C52 n)) := moreI_ok envOK (ok51 n) (by rfl) fnok35 insc35
theorem ok53 (n : Nat) : CallOK Try.prog gl (callR (C53 n)) := more_ok envOK hz tok hmix (ok52 n) (ok52 n) Try.func14 (by decide)
theorem ok54 (n : Nat) : CallOK Try.prog gl (callR (C54 n)) := more_ok envOK hz tok hmix (ok53 n) (ok53 n) Try.func45 (by decide)
theorem ok55 (n : Nat) : CallOK Try.prog gl (callR (C55 n)) := more_ok envOK hz tok hmix (ok54 n) (ok54 n) Try.func41 (by decide)
theorem ok56 (n : Nat) : CallOK Try.prog gl (callR (C56 n)) := more_ok envOK hz tok hmix (ok55 n) (ok55 n) Try.func46 (by decide)
theorem ok57 (n : Nat) : CallOK Try.prog gl (callR (C57 n)) := more_ok envOK hz tok hmix (ok56 n) (ok56 n) Try.func20 (by decide)
theorem ok58 (n : Nat) : CallOK Try.prog gl (callR (C58 n)) := more_ok envOK hz tok hmix (ok57 n) (ok57 n) Try.func62 (by decide)
theorem ok59 (n : Nat) : CallOK Try.prog gl (callR (C59 n)) := more_ok envOK hz tok hmix (ok58 n) (ok58 n) Try.func43 (by decide)
theorem ok60 (n : Nat) : CallOK Try.prog gl (callR (C60 n)) := moreS_ok envOK (ok59 n) fnok32 sortc32
theorem ok61 (n : Nat) : CallOK Try.prog gl (callR (C61 n)) := more_ok envOK hz tok hmix (ok60 n) (ok60 n) Try.func17 (by decide)
theorem ok62 (n : Nat) : CallOK Try.prog gl (callR (C62 n)) := more_ok envOK hz tok hmix (ok61 n) (ok61 n) Try.func42 (by decide)
theorem ok63 (n : Nat) : CallOK Try.prog gl (callR (C63 n)) := moreN_ok envOK hz tok hmix (ok61 n) (ok62 n) Try.func42 (by decide) (slices_Clone_LValue_nn_hq n)
theorem ok64 (n : Nat) : CallOK Try.prog gl (callR (C64 n)) := more_ok envOK hz tok hmix (ok63 n) (ok63 n) Try.func13 (by decide)
theorem ok65 (n : Nat) : CallOK Try.prog gl (callR (C65 n)) := more_ok envOK hz tok hmix (ok64 n) (ok64 n) Try.func15 (by decide)
theorem ok66 (n : Nat) : CallOK Try.prog gl (callR (C66 n)) := more_ok envOK hz tok hmix (ok65 n) (ok65 n) Try.func49 (by decide)
theorem ok67 (n : Nat) : CallOK Try.prog gl (callR (C67 n)) := more_ok envOK hz tok hmix (ok66 n) (ok66 n) Try.func22 (by decide)
theorem ok68 (n : Nat) : CallOK Try.prog gl (callR (C68 n)) := more_ok envOK hz tok hmix (ok67 n) (ok67 n) Try.func8 (by decide)
theorem ok69 (n : Nat) : CallOK Try.prog gl (callR (C69 n)) := more_ok envOK hz tok hmix (ok68 n) (ok68 n) Try.func24 (by decide)
theorem ok70 (n : Nat) : CallOK Try.prog gl (callR (C70 n)) := more_ok envOK hz tok hmix (ok69 n) (ok69 n) Try.func25 (by decide)
theorem ok71 (n : Nat) : CallOK Try.prog gl (callR (C71 n)) := more_ok envOK hz tok hmix (ok70 n) (ok70 n) Try.func9 (by decide)
theorem ok72 (n : Nat) : CallOK Try.prog gl (callR (C72 n)) := more_ok envOK hz tok hmix (ok71 n) (ok71 n) Try.func44 (by decide)
theorem ok73 (n : Nat) : CallOK Try.prog gl (callR (C73 n)) := more_ok envOK hz tok hmix (ok72 n) (ok72 n) Try.func16 (by decide)
theorem ok74 (n : Nat) : CallOK Try.prog gl (callR (C74 n)) := more_ok envOK hz tok hmix (ok73 n) (ok73 n) Try.func19 (by decide)
theorem ok75 (n : Nat) : CallOK Try.prog gl (callR (C75 n)) := more_ok envOK hz tok hmix (ok74 n) (ok74 n) Try.func18 (by decide)
theorem ok76 (n : Nat) : CallOK Try.prog gl (callR (C76 n)) := more_ok envOK hz tok hmix (ok75 n) (ok75 n) Try.func48 (by decide)
theorem ok77 (n : Nat) : CallOK Try.prog gl (callR (C77 n)) := more_ok envOK hz tok hmix (ok76 n) (ok76 n) Try.func21 (by decide)
theorem ok78 (n : Nat) : CallOK Try.prog gl (callR (C78 n)) := more_ok envOK hz tok hmix (ok77 n) (ok77 n) Try.func4 (by decide)
theorem law_call (n : Nat) (x0 : Rel) (x1 : List ApiValue) : callR (C78 n) 4 [.t (.nm 3) x0, .t (.sl (.nm 1)) x1] [.none, .none] = (law2_RelInserts n x0 x1).map fun r => (.t .bool r, [.none, .none]) := by kernel_rfl
theorem law_full : ∀ t ∈ ([28, 37] : List Nat), ∃ x, tt t = some x ∧ x.ty.full = true := by
  intro t ht
  simp only [List.mem_cons, List.not_mem_nil, or_false] at ht
  rcases ht with rfl | rfl
  · exact ⟨⟨(.nm 3), .struct [(9, 0), (24, 1), (25, 2), (26, 3)]⟩, by kernel_rfl, rfl⟩
  · exact ⟨⟨(.sl (.nm 1)), .slice 74⟩, by kernel_rfl, rfl⟩
theorem law_ins {aa : List (AV E)} (h : Ins E tt [28, 37] aa) {N : Nat} (hb : ∀ g, (aa.map (bulkA E g)).sum ≤ N) : ∃ (x0 : Rel) (x1 : List ApiValue), aa = [.t (.nm 3) x0, .t (.sl (.nm 1)) x1] ∧ (∀ g, Fv.Good E g (.nm 3) x0) ∧ (∀ g, Fv.Good E g (.sl (.nm 1)) x1) ∧ ∀ g, Bulk E g (.nm 3) x0 + Bulk E g (.sl (.nm 1)) x1 ≤ N := by
  cases h with
  | cons z0 e0 v0 g0 h => 
  have q0 := Option.some.inj (e0.symm.trans (show tt 28 = some ⟨(.nm 3), .struct [(9, 0), (24, 1), (25, 2), (26, 3)]⟩ by kernel_rfl))
  subst q0
  cases h with
  | cons z1 e1 v1 g1 h => 
  have q1 := Option.some.inj (e1.symm.trans (show tt 37 = some ⟨(.sl (.nm 1)), .slice 74⟩ by kernel_rfl))
  subst q1
  cases h
  exact ⟨v0, v1, rfl, g0, g1, fun g => Nat.le_trans (Nat.le_of_eq (by simp [bulkA])) (hb g)⟩
theorem law_pure (ok : ∀ (x0 : Rel) (x1 : List ApiValue) (h0 : ∀ g, Fv.Good E g (.nm 3) x0) (h1 : ∀ g, Fv.Good E g (.sl (.nm 1)) x1) (hb : ∀ g, Bulk E g (.nm 3) x0 + Bulk E g (.sl (.nm 1)) x1 ≤ 1048576), ∃ n, law2_RelInserts n x0 x1 = some true) (aa : List (AV E)) (h : Ins E tt [28, 37] aa) (hb : ∀ g, (aa.map (bulkA E g)).sum ≤ 1048576) : ∃ n outs, callR (C78 n) 4 aa (List.replicate ([28, 37] : List Nat).length .none) = some (.t .bool true, outs) := by
  obtain ⟨x0, x1, rfl, h0, h1, hk⟩ := law_ins h hb
  obtain ⟨n, hn⟩ := ok x0 x1 h0 h1 hk
  exact ⟨n, _, (law_call n x0 x1).trans (by rw [hn]; rfl)⟩
end Go.Proofs.Ytoljecjcpnaljaa.PRelInserts
