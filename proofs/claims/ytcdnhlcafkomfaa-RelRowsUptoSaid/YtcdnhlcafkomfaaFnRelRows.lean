/- The functions that the law RelRows reaches, as the evaluator reckons them. No condition. -/
import Derived.Test.YtcdnhlcafkomfaaFvF
import Derived.Test.YtcdnhlcafkomfaaChecked
set_option linter.unusedVariables false
set_option maxRecDepth 100000
namespace Go.Proofs.Ytcdnhlcafkomfaa.PRelRows
open Go Go.Proofs Go.Proofs.Ytcdnhlcafkomfaa.Fv

structure Col where
  Name : List UInt8
  Kind : Int

mutual
structure ApiValue where
  Kind : Int
  N : Int
  S : List UInt8
  Fields : List ApiField
structure ApiField where
  Name : List UInt8
  Val : ApiValue
end

structure Rel where
  Name : List UInt8
  Cols : List Col
  Key : List (List UInt8)
  Rows : List (List ApiValue)

mutual
structure ApiType where
  Kind : Int
  Name : List UInt8
  Low : Int
  High : Int
  Pattern : List UInt8
  Parts : List Part
structure Part where
  Name : List UInt8
  Type_ : ApiType
end

def R : Nat → Type
  | 0 => Col
  | 1 => ApiValue
  | 2 => ApiField
  | 3 => Rel
  | 4 => ApiType
  | 5 => Part
  | _ => Bool
def body : Nat → Ty
  | 0 => (.pair .str (.one (.int .i64)))
  | 1 => (.pair (.int .i64) (.pair (.int .i64) (.pair .str (.one (.sl (.nm 2))))))
  | 2 => (.pair .str (.one (.nm 1)))
  | 3 => (.pair .str (.pair (.sl (.nm 0)) (.pair (.sl .str) (.one (.sl (.sl (.nm 1)))))))
  | 4 => (.pair (.int .i64) (.pair .str (.pair (.int .i64) (.pair (.int .i64) (.pair .str (.one (.sl (.nm 5))))))))
  | 5 => (.pair .str (.one (.nm 4)))
  | _ => .one .bool
def un : (n : Nat) → R n → den R (body n)
  | 0, (x : Col) => (x.Name, x.Kind)
  | 1, (x : ApiValue) => (x.Kind, x.N, x.S, x.Fields)
  | 2, (x : ApiField) => (x.Name, x.Val)
  | 3, (x : Rel) => (x.Name, x.Cols, x.Key, x.Rows)
  | 4, (x : ApiType) => (x.Kind, x.Name, x.Low, x.High, x.Pattern, x.Parts)
  | 5, (x : Part) => (x.Name, x.Type_)
  | _ + 6, x => x
def ro : (n : Nat) → den R (body n) → R n
  | 0, x => Col.mk x.1 x.2
  | 1, x => ApiValue.mk x.1 x.2.1 x.2.2.1 x.2.2.2
  | 2, x => ApiField.mk x.1 x.2
  | 3, x => Rel.mk x.1 x.2.1 x.2.2.1 x.2.2.2
  | 4, x => ApiType.mk x.1 x.2.1 x.2.2.1 x.2.2.2.1 x.2.2.2.2.1 x.2.2.2.2.2
  | 5, x => Part.mk x.1 x.2
  | _ + 6, x => x
def dfl0 : (n : Nat) → R n
  | 0 => (Col.mk [] 0)
  | 1 => (ApiValue.mk 0 0 [] [])
  | 2 => (ApiField.mk [] (ApiValue.mk 0 0 [] []))
  | 3 => (Rel.mk [] [] [] [])
  | 4 => (ApiType.mk 0 [] 0 0 [] [])
  | 5 => (Part.mk [] (ApiType.mk 0 [] 0 0 [] []))
  | _ + 6 => false
def sz0 : Nat → Nat
  | 0 => 2
  | 1 => 4
  | 2 => 5
  | 3 => 4
  | 4 => 6
  | 5 => 7
  | _ => 1
def zc0 : Nat → List Value
  | 0 => [.string ByteArray.empty, .int .i64 0]
  | 1 => [.int .i64 0, .int .i64 0, .string ByteArray.empty, .slice none 0 0]
  | 2 => [.string ByteArray.empty, .int .i64 0, .int .i64 0, .string ByteArray.empty, .slice none 0 0]
  | 3 => [.string ByteArray.empty, .slice none 0 0, .slice none 0 0, .slice none 0 0]
  | 4 => [.int .i64 0, .string ByteArray.empty, .int .i64 0, .int .i64 0, .string ByteArray.empty, .slice none 0 0]
  | 5 => [.string ByteArray.empty, .int .i64 0, .string ByteArray.empty, .int .i64 0, .int .i64 0, .string ByteArray.empty, .slice none 0 0]
  | _ => [.bool false]
def E : Env := { R := R, body := body, un := un, ro := ro, dfl := dfl0, sz := sz0, zc := zc0 }
theorem hun : ∀ n x, un n (ro n x) = x
  | 0, _ => rfl
  | 1, _ => rfl
  | 2, _ => rfl
  | 3, _ => rfl
  | 4, _ => rfl
  | 5, _ => rfl
  | _ + 6, _ => rfl
theorem hdf : ∀ n, un n (dfl0 n) = dfl E (body n)
  | 0 => rfl
  | 1 => rfl
  | 2 => rfl
  | 3 => rfl
  | 4 => rfl
  | 5 => rfl
  | _ + 6 => rfl
theorem hsz : ∀ n, sz0 n = size E (body n)
  | 0 => rfl
  | 1 => rfl
  | 2 => rfl
  | 3 => rfl
  | 4 => rfl
  | 5 => rfl
  | _ + 6 => rfl
theorem hzc : ∀ n, zc0 n = zcells E (body n)
  | 0 => rfl
  | 1 => rfl
  | 2 => rfl
  | 3 => rfl
  | 4 => rfl
  | 5 => rfl
  | _ + 6 => rfl
theorem hag : ∀ n, (∃ a, body n = .one a) ∨ ∃ a b, body n = .pair a b
  | 0 => .inr ⟨_, _, rfl⟩
  | 1 => .inr ⟨_, _, rfl⟩
  | 2 => .inr ⟨_, _, rfl⟩
  | 3 => .inr ⟨_, _, rfl⟩
  | 4 => .inr ⟨_, _, rfl⟩
  | 5 => .inr ⟨_, _, rfl⟩
  | _ + 6 => .inl ⟨_, rfl⟩
theorem envOK : EnvOK E := ⟨hun, hdf, hsz, hzc, hag⟩
theorem hz0 (M : Mem) : RC (E := E) M (.nm 0) (dfl0 0) (zc0 0) := RC.nm (E := E) (RC.pair (RC.str ByteArray.empty) (RC.one (RC.int .i64 0)))
theorem hz1 (M : Mem) : RC (E := E) M (.nm 1) (dfl0 1) (zc0 1) := RC.nm (E := E) (RC.pair (RC.int .i64 0) (RC.pair (RC.int .i64 0) (RC.pair (RC.str ByteArray.empty) (RC.one (RC.sl (e := (.nm 2)) [] none 0 (fun _ => []) (Nat.le_refl _) (fun i hi => by simp at hi) (fun i hi => by simp at hi) (fun _ => rfl))))))
theorem hz2 (M : Mem) : RC (E := E) M (.nm 2) (dfl0 2) (zc0 2) := RC.nm (E := E) (RC.pair (RC.str ByteArray.empty) (RC.one (hz1 M)))
theorem hz3 (M : Mem) : RC (E := E) M (.nm 3) (dfl0 3) (zc0 3) := RC.nm (E := E) (RC.pair (RC.str ByteArray.empty) (RC.pair (RC.sl (e := (.nm 0)) [] none 0 (fun _ => []) (Nat.le_refl _) (fun i hi => by simp at hi) (fun i hi => by simp at hi) (fun _ => rfl)) (RC.pair (RC.sl (e := .str) [] none 0 (fun _ => []) (Nat.le_refl _) (fun i hi => by simp at hi) (fun i hi => by simp at hi) (fun _ => rfl)) (RC.one (RC.sl (e := (.sl (.nm 1))) [] none 0 (fun _ => []) (Nat.le_refl _) (fun i hi => by simp at hi) (fun i hi => by simp at hi) (fun _ => rfl))))))
theorem hz4 (M : Mem) : RC (E := E) M (.nm 4) (dfl0 4) (zc0 4) := RC.nm (E := E) (RC.pair (RC.int .i64 0) (RC.pair (RC.str ByteArray.empty) (RC.pair (RC.int .i64 0) (RC.pair (RC.int .i64 0) (RC.pair (RC.str ByteArray.empty) (RC.one (RC.sl (e := (.nm 5)) [] none 0 (fun _ => []) (Nat.le_refl _) (fun i hi => by simp at hi) (fun i hi => by simp at hi) (fun _ => rfl))))))))
theorem hz5 (M : Mem) : RC (E := E) M (.nm 5) (dfl0 5) (zc0 5) := RC.nm (E := E) (RC.pair (RC.str ByteArray.empty) (RC.one (hz4 M)))
theorem hz : ∀ (M : Mem) n, RC (E := E) M (.nm n) (E.dfl n) (E.zc n)
  | M, 0 => hz0 M
  | M, 1 => hz1 M
  | M, 2 => hz2 M
  | M, 3 => hz3 M
  | M, 4 => hz4 M
  | M, 5 => hz5 M
  | M, _ + 6 => RC.nm (E := E) (RC.one (RC.bool false))
def tl : List (Nat × TE) := [(3, ⟨(.int .i64), .int .i64⟩),
  (4, ⟨.bool, .bool⟩),
  (5, ⟨(.int .u8), .int .u8⟩),
  (9, ⟨.str, .str⟩),
  (24, ⟨(.int .i64), .int .i64⟩),
  (33, ⟨(.sl (.int .u8)), .slice 5⟩),
  (34, ⟨(.sl (.nm 2)), .slice 76⟩),
  (36, ⟨(.nm 1), .struct [(3, 0), (3, 1), (9, 2), (34, 3)]⟩),
  (49, ⟨(.sl (.nm 1)), .slice 36⟩),
  (52, ⟨.any, .func⟩),
  (53, ⟨(.sl (.nm 0)), .slice 62⟩),
  (54, ⟨(.sl .str), .slice 9⟩),
  (55, ⟨(.sl (.sl (.nm 1))), .slice 49⟩),
  (57, ⟨(.nm 3), .struct [(9, 0), (53, 1), (54, 2), (55, 3)]⟩),
  (62, ⟨(.nm 0), .struct [(9, 0), (3, 1)]⟩),
  (63, ⟨.any, .func⟩),
  (67, ⟨(.sl (.nm 5)), .slice 117⟩),
  (69, ⟨(.nm 4), .struct [(3, 0), (9, 1), (3, 2), (3, 3), (9, 4), (67, 5)]⟩),
  (76, ⟨(.nm 2), .struct [(9, 0), (36, 1)]⟩),
  (117, ⟨(.nm 5), .struct [(9, 0), (69, 1)]⟩),
  (124, ⟨.any, .func⟩),
  (146, ⟨.any, .func⟩),
  (154, ⟨(.sl (.int .i64)), .slice 3⟩),
  (164, ⟨.any, .func⟩),
  (173, ⟨(.mp .str .bool), .map 9 4⟩),
  (219, ⟨.any, .func⟩)]
def tt : Nat → Option TE := look2 tl
theorem tf3 : TFact Try.prog E tt 3 ⟨(.int .i64), .int .i64⟩ := TFact.of (z := .int .i64 0) (bs := 8) Try.underlying3 ⟨rfl, rfl, rfl⟩ (by kernel_rfl) (by kernel_rfl) (fun h => nomatch h) (by kernel_rfl) (trivial) (fun _ cs h => nomatch h)
theorem tf4 : TFact Try.prog E tt 4 ⟨.bool, .bool⟩ := TFact.of (z := .bool false) (bs := 1) Try.underlying4 ⟨rfl, rfl, rfl⟩ (by kernel_rfl) (by kernel_rfl) (fun h => nomatch h) (by kernel_rfl) (trivial) (fun _ cs h => nomatch h)
theorem tf5 : TFact Try.prog E tt 5 ⟨(.int .u8), .int .u8⟩ := TFact.of (z := .int .u8 0) (bs := 1) Try.underlying5 ⟨rfl, rfl, rfl⟩ (by kernel_rfl) (by kernel_rfl) (fun h => nomatch h) (by kernel_rfl) (trivial) (fun _ cs h => nomatch h)
theorem tf9 : TFact Try.prog E tt 9 ⟨.str, .str⟩ := TFact.of (z := .string ByteArray.empty) (bs := 16) Try.underlying9 ⟨rfl, rfl, rfl⟩ (by kernel_rfl) (by kernel_rfl) (fun h => nomatch h) (by kernel_rfl) (trivial) (fun _ cs h => nomatch h)
theorem tf24 : TFact Try.prog E tt 24 ⟨(.int .i64), .int .i64⟩ := TFact.of (z := .int .i64 0) (bs := 8) Try.underlying24 ⟨rfl, rfl, rfl⟩ (by kernel_rfl) (by kernel_rfl) (fun h => nomatch h) (by kernel_rfl) (trivial) (fun _ cs h => nomatch h)
theorem tf33 : TFact Try.prog E tt 33 ⟨(.sl (.int .u8)), .slice 5⟩ := TFact.of (z := .slice none 0 0) (bs := 24) Try.underlying33 ⟨rfl, rfl, .inr ⟨by kernel_rfl, by kernel_rfl, by kernel_rfl, of_decide_eq_true (by kernel_rfl), of_decide_eq_true (by kernel_rfl), of_decide_eq_true (by kernel_rfl)⟩⟩ (by kernel_rfl) (by kernel_rfl) (fun h => nomatch h) (by kernel_rfl) (trivial) (fun _ cs h => nomatch h)
theorem tf34 : TFact Try.prog E tt 34 ⟨(.sl (.nm 2)), .slice 76⟩ := TFact.of (z := .slice none 0 0) (bs := 24) Try.underlying34 ⟨rfl, rfl, .inr ⟨by kernel_rfl, by kernel_rfl, by kernel_rfl, of_decide_eq_true (by kernel_rfl), of_decide_eq_true (by kernel_rfl), of_decide_eq_true (by kernel_rfl)⟩⟩ (by kernel_rfl) (by kernel_rfl) (fun h => nomatch h) (by kernel_rfl) (trivial) (fun _ cs h => nomatch h)
theorem tf36 : TFact Try.prog E tt 36 ⟨(.nm 1), .struct [(3, 0), (3, 1), (9, 2), (34, 3)]⟩ := TFact.of (z := .agg #[.int .i64 0, .int .i64 0, .string ByteArray.empty, .slice none 0 0]) (bs := 56) Try.underlying36 ⟨by kernel_rfl, ⟨_, rfl, rfl⟩, by kernel_rfl, by kernel_rfl⟩ (by kernel_rfl) (by kernel_rfl) (fun _ => rfl) (by kernel_rfl) (show (Value.cells (.agg #[.int .i64 0, .int .i64 0, .string ByteArray.empty, .slice none 0 0])).toList = (List.map (fun f => zA (E := E) (zeroA tt 20 f.1)) [(3, 0), (3, 1), (9, 2), (34, 3)]).flatten from by kernel_rfl) (fun h => nomatch h)
theorem tf49 : TFact Try.prog E tt 49 ⟨(.sl (.nm 1)), .slice 36⟩ := TFact.of (z := .slice none 0 0) (bs := 24) Try.underlying49 ⟨rfl, rfl, .inr ⟨by kernel_rfl, by kernel_rfl, by kernel_rfl, of_decide_eq_true (by kernel_rfl), of_decide_eq_true (by kernel_rfl), of_decide_eq_true (by kernel_rfl)⟩⟩ (by kernel_rfl) (by kernel_rfl) (fun h => nomatch h) (by kernel_rfl) (trivial) (fun _ cs h => nomatch h)
theorem tf52 : TFact Try.prog E tt 52 ⟨.any, .func⟩ := TFact.of (z := .nilFunc) (bs := 8) Try.underlying52 ⟨rfl, _, _, _, rfl⟩ (by kernel_rfl) (by kernel_rfl) (fun h => nomatch h) (by kernel_rfl) (trivial) (fun _ cs h => nomatch h)
theorem tf53 : TFact Try.prog E tt 53 ⟨(.sl (.nm 0)), .slice 62⟩ := TFact.of (z := .slice none 0 0) (bs := 24) Try.underlying53 ⟨rfl, rfl, .inr ⟨by kernel_rfl, by kernel_rfl, by kernel_rfl, of_decide_eq_true (by kernel_rfl), of_decide_eq_true (by kernel_rfl), of_decide_eq_true (by kernel_rfl)⟩⟩ (by kernel_rfl) (by kernel_rfl) (fun h => nomatch h) (by kernel_rfl) (trivial) (fun _ cs h => nomatch h)
theorem tf54 : TFact Try.prog E tt 54 ⟨(.sl .str), .slice 9⟩ := TFact.of (z := .slice none 0 0) (bs := 24) Try.underlying54 ⟨rfl, rfl, .inr ⟨by kernel_rfl, by kernel_rfl, by kernel_rfl, of_decide_eq_true (by kernel_rfl), of_decide_eq_true (by kernel_rfl), of_decide_eq_true (by kernel_rfl)⟩⟩ (by kernel_rfl) (by kernel_rfl) (fun h => nomatch h) (by kernel_rfl) (trivial) (fun _ cs h => nomatch h)
theorem tf55 : TFact Try.prog E tt 55 ⟨(.sl (.sl (.nm 1))), .slice 49⟩ := TFact.of (z := .slice none 0 0) (bs := 24) Try.underlying55 ⟨rfl, rfl, .inr ⟨by kernel_rfl, by kernel_rfl, by kernel_rfl, of_decide_eq_true (by kernel_rfl), of_decide_eq_true (by kernel_rfl), of_decide_eq_true (by kernel_rfl)⟩⟩ (by kernel_rfl) (by kernel_rfl) (fun h => nomatch h) (by kernel_rfl) (trivial) (fun _ cs h => nomatch h)
theorem tf57 : TFact Try.prog E tt 57 ⟨(.nm 3), .struct [(9, 0), (53, 1), (54, 2), (55, 3)]⟩ := TFact.of (z := .agg #[.string ByteArray.empty, .slice none 0 0, .slice none 0 0, .slice none 0 0]) (bs := 88) Try.underlying57 ⟨by kernel_rfl, ⟨_, rfl, rfl⟩, by kernel_rfl, by kernel_rfl⟩ (by kernel_rfl) (by kernel_rfl) (fun _ => rfl) (by kernel_rfl) (show (Value.cells (.agg #[.string ByteArray.empty, .slice none 0 0, .slice none 0 0, .slice none 0 0])).toList = (List.map (fun f => zA (E := E) (zeroA tt 20 f.1)) [(9, 0), (53, 1), (54, 2), (55, 3)]).flatten from by kernel_rfl) (fun h => nomatch h)
theorem tf62 : TFact Try.prog E tt 62 ⟨(.nm 0), .struct [(9, 0), (3, 1)]⟩ := TFact.of (z := .agg #[.string ByteArray.empty, .int .i64 0]) (bs := 24) Try.underlying62 ⟨by kernel_rfl, ⟨_, rfl, rfl⟩, by kernel_rfl, by kernel_rfl⟩ (by kernel_rfl) (by kernel_rfl) (fun _ => rfl) (by kernel_rfl) (show (Value.cells (.agg #[.string ByteArray.empty, .int .i64 0])).toList = (List.map (fun f => zA (E := E) (zeroA tt 20 f.1)) [(9, 0), (3, 1)]).flatten from by kernel_rfl) (fun h => nomatch h)
theorem tf63 : TFact Try.prog E tt 63 ⟨.any, .func⟩ := TFact.of (z := .nilFunc) (bs := 8) Try.underlying63 ⟨rfl, _, _, _, rfl⟩ (by kernel_rfl) (by kernel_rfl) (fun h => nomatch h) (by kernel_rfl) (trivial) (fun _ cs h => nomatch h)
theorem tf67 : TFact Try.prog E tt 67 ⟨(.sl (.nm 5)), .slice 117⟩ := TFact.of (z := .slice none 0 0) (bs := 24) Try.underlying67 ⟨rfl, rfl, .inr ⟨by kernel_rfl, by kernel_rfl, by kernel_rfl, of_decide_eq_true (by kernel_rfl), of_decide_eq_true (by kernel_rfl), of_decide_eq_true (by kernel_rfl)⟩⟩ (by kernel_rfl) (by kernel_rfl) (fun h => nomatch h) (by kernel_rfl) (trivial) (fun _ cs h => nomatch h)
theorem tf69 : TFact Try.prog E tt 69 ⟨(.nm 4), .struct [(3, 0), (9, 1), (3, 2), (3, 3), (9, 4), (67, 5)]⟩ := TFact.of (z := .agg #[.int .i64 0, .string ByteArray.empty, .int .i64 0, .int .i64 0, .string ByteArray.empty, .slice none 0 0]) (bs := 80) Try.underlying69 ⟨by kernel_rfl, ⟨_, rfl, rfl⟩, by kernel_rfl, by kernel_rfl⟩ (by kernel_rfl) (by kernel_rfl) (fun _ => rfl) (by kernel_rfl) (show (Value.cells (.agg #[.int .i64 0, .string ByteArray.empty, .int .i64 0, .int .i64 0, .string ByteArray.empty, .slice none 0 0])).toList = (List.map (fun f => zA (E := E) (zeroA tt 20 f.1)) [(3, 0), (9, 1), (3, 2), (3, 3), (9, 4), (67, 5)]).flatten from by kernel_rfl) (fun h => nomatch h)
theorem tf76 : TFact Try.prog E tt 76 ⟨(.nm 2), .struct [(9, 0), (36, 1)]⟩ := TFact.of (z := .agg #[.string ByteArray.empty, .int .i64 0, .int .i64 0, .string ByteArray.empty, .slice none 0 0]) (bs := 72) Try.underlying76 ⟨by kernel_rfl, ⟨_, rfl, rfl⟩, by kernel_rfl, by kernel_rfl⟩ (by kernel_rfl) (by kernel_rfl) (fun _ => rfl) (by kernel_rfl) (show (Value.cells (.agg #[.string ByteArray.empty, .int .i64 0, .int .i64 0, .string ByteArray.empty, .slice none 0 0])).toList = (List.map (fun f => zA (E := E) (zeroA tt 20 f.1)) [(9, 0), (36, 1)]).flatten from by kernel_rfl) (fun h => nomatch h)
theorem tf117 : TFact Try.prog E tt 117 ⟨(.nm 5), .struct [(9, 0), (69, 1)]⟩ := TFact.of (z := .agg #[.string ByteArray.empty, .int .i64 0, .string ByteArray.empty, .int .i64 0, .int .i64 0, .string ByteArray.empty, .slice none 0 0]) (bs := 96) Try.underlying117 ⟨by kernel_rfl, ⟨_, rfl, rfl⟩, by kernel_rfl, by kernel_rfl⟩ (by kernel_rfl) (by kernel_rfl) (fun _ => rfl) (by kernel_rfl) (show (Value.cells (.agg #[.string ByteArray.empty, .int .i64 0, .string ByteArray.empty, .int .i64 0, .int .i64 0, .string ByteArray.empty, .slice none 0 0])).toList = (List.map (fun f => zA (E := E) (zeroA tt 20 f.1)) [(9, 0), (69, 1)]).flatten from by kernel_rfl) (fun h => nomatch h)
theorem tf124 : TFact Try.prog E tt 124 ⟨.any, .func⟩ := TFact.of (z := .nilFunc) (bs := 8) Try.underlying124 ⟨rfl, _, _, _, rfl⟩ (by kernel_rfl) (by kernel_rfl) (fun h => nomatch h) (by kernel_rfl) (trivial) (fun _ cs h => nomatch h)
theorem tf146 : TFact Try.prog E tt 146 ⟨.any, .func⟩ := TFact.of (z := .nilFunc) (bs := 8) Try.underlying146 ⟨rfl, _, _, _, rfl⟩ (by kernel_rfl) (by kernel_rfl) (fun h => nomatch h) (by kernel_rfl) (trivial) (fun _ cs h => nomatch h)
theorem tf154 : TFact Try.prog E tt 154 ⟨(.sl (.int .i64)), .slice 3⟩ := TFact.of (z := .slice none 0 0) (bs := 24) Try.underlying154 ⟨rfl, rfl, .inr ⟨by kernel_rfl, by kernel_rfl, by kernel_rfl, of_decide_eq_true (by kernel_rfl), of_decide_eq_true (by kernel_rfl), of_decide_eq_true (by kernel_rfl)⟩⟩ (by kernel_rfl) (by kernel_rfl) (fun h => nomatch h) (by kernel_rfl) (trivial) (fun _ cs h => nomatch h)
theorem tf164 : TFact Try.prog E tt 164 ⟨.any, .func⟩ := TFact.of (z := .nilFunc) (bs := 8) Try.underlying164 ⟨rfl, _, _, _, rfl⟩ (by kernel_rfl) (by kernel_rfl) (fun h => nomatch h) (by kernel_rfl) (trivial) (fun _ cs h => nomatch h)
theorem tf173 : TFact Try.prog E tt 173 ⟨(.mp .str .bool), .map 9 4⟩ := TFact.of (z := .map none) (bs := 8) Try.underlying173 ⟨rfl, rfl, by kernel_rfl, by kernel_rfl, .inr rfl⟩ (by kernel_rfl) (by kernel_rfl) (fun h => nomatch h) (by kernel_rfl) (trivial) (fun _ cs h => nomatch h)
theorem tf219 : TFact Try.prog E tt 219 ⟨.any, .func⟩ := TFact.of (z := .nilFunc) (bs := 8) Try.underlying219 ⟨rfl, _, _, _, rfl⟩ (by kernel_rfl) (by kernel_rfl) (fun h => nomatch h) (by kernel_rfl) (trivial) (fun _ cs h => nomatch h)
theorem tok : TOK Try.prog E tt := TOK.of (mem_cons2 tf3 (mem_cons2 tf4 (mem_cons2 tf5 (mem_cons2 tf9 (mem_cons2 tf24 (mem_cons2 tf33 (mem_cons2 tf34 (mem_cons2 tf36 (mem_cons2 tf49 (mem_cons2 tf52 (mem_cons2 tf53 (mem_cons2 tf54 (mem_cons2 tf55 (mem_cons2 tf57 (mem_cons2 tf62 (mem_cons2 tf63 (mem_cons2 tf67 (mem_cons2 tf69 (mem_cons2 tf76 (mem_cons2 tf117 (mem_cons2 tf124 (mem_cons2 tf146 (mem_cons2 tf154 (mem_cons2 tf164 (mem_cons2 tf173 (mem_cons2 tf219 mem_nil2))))))))))))))))))))))))))
def tlr : List (Nat × TE) := [(3, ⟨(.int .i64), .int .i64⟩),
  (9, ⟨.str, .str⟩),
  (34, ⟨(.sl (.nm 2)), .slice 76⟩),
  (36, ⟨(.nm 1), .struct [(3, 0), (3, 1), (9, 2), (34, 3)]⟩),
  (49, ⟨(.sl (.nm 1)), .slice 36⟩),
  (53, ⟨(.sl (.nm 0)), .slice 62⟩),
  (54, ⟨(.sl .str), .slice 9⟩),
  (55, ⟨(.sl (.sl (.nm 1))), .slice 49⟩),
  (57, ⟨(.nm 3), .struct [(9, 0), (53, 1), (54, 2), (55, 3)]⟩),
  (62, ⟨(.nm 0), .struct [(9, 0), (3, 1)]⟩),
  (76, ⟨(.nm 2), .struct [(9, 0), (36, 1)]⟩)]
def ttr : Nat → Option TE := look2 tlr
theorem tfr3 : TFact Try.prog E ttr 3 ⟨(.int .i64), .int .i64⟩ := TFact.of (z := .int .i64 0) (bs := 8) Try.underlying3 ⟨rfl, rfl, rfl⟩ (by kernel_rfl) (by kernel_rfl) (fun h => nomatch h) (by kernel_rfl) (trivial) (fun _ cs h => nomatch h)
theorem tfr9 : TFact Try.prog E ttr 9 ⟨.str, .str⟩ := TFact.of (z := .string ByteArray.empty) (bs := 16) Try.underlying9 ⟨rfl, rfl, rfl⟩ (by kernel_rfl) (by kernel_rfl) (fun h => nomatch h) (by kernel_rfl) (trivial) (fun _ cs h => nomatch h)
theorem tfr34 : TFact Try.prog E ttr 34 ⟨(.sl (.nm 2)), .slice 76⟩ := TFact.of (z := .slice none 0 0) (bs := 24) Try.underlying34 ⟨rfl, rfl, .inr ⟨by kernel_rfl, by kernel_rfl, by kernel_rfl, of_decide_eq_true (by kernel_rfl), of_decide_eq_true (by kernel_rfl), of_decide_eq_true (by kernel_rfl)⟩⟩ (by kernel_rfl) (by kernel_rfl) (fun h => nomatch h) (by kernel_rfl) (trivial) (fun _ cs h => nomatch h)
theorem tfr36 : TFact Try.prog E ttr 36 ⟨(.nm 1), .struct [(3, 0), (3, 1), (9, 2), (34, 3)]⟩ := TFact.of (z := .agg #[.int .i64 0, .int .i64 0, .string ByteArray.empty, .slice none 0 0]) (bs := 56) Try.underlying36 ⟨by kernel_rfl, ⟨_, rfl, rfl⟩, by kernel_rfl, by kernel_rfl⟩ (by kernel_rfl) (by kernel_rfl) (fun _ => rfl) (by kernel_rfl) (show (Value.cells (.agg #[.int .i64 0, .int .i64 0, .string ByteArray.empty, .slice none 0 0])).toList = (List.map (fun f => zA (E := E) (zeroA ttr 20 f.1)) [(3, 0), (3, 1), (9, 2), (34, 3)]).flatten from by kernel_rfl) (fun h => nomatch h)
theorem tfr49 : TFact Try.prog E ttr 49 ⟨(.sl (.nm 1)), .slice 36⟩ := TFact.of (z := .slice none 0 0) (bs := 24) Try.underlying49 ⟨rfl, rfl, .inr ⟨by kernel_rfl, by kernel_rfl, by kernel_rfl, of_decide_eq_true (by kernel_rfl), of_decide_eq_true (by kernel_rfl), of_decide_eq_true (by kernel_rfl)⟩⟩ (by kernel_rfl) (by kernel_rfl) (fun h => nomatch h) (by kernel_rfl) (trivial) (fun _ cs h => nomatch h)
theorem tfr53 : TFact Try.prog E ttr 53 ⟨(.sl (.nm 0)), .slice 62⟩ := TFact.of (z := .slice none 0 0) (bs := 24) Try.underlying53 ⟨rfl, rfl, .inr ⟨by kernel_rfl, by kernel_rfl, by kernel_rfl, of_decide_eq_true (by kernel_rfl), of_decide_eq_true (by kernel_rfl), of_decide_eq_true (by kernel_rfl)⟩⟩ (by kernel_rfl) (by kernel_rfl) (fun h => nomatch h) (by kernel_rfl) (trivial) (fun _ cs h => nomatch h)
theorem tfr54 : TFact Try.prog E ttr 54 ⟨(.sl .str), .slice 9⟩ := TFact.of (z := .slice none 0 0) (bs := 24) Try.underlying54 ⟨rfl, rfl, .inr ⟨by kernel_rfl, by kernel_rfl, by kernel_rfl, of_decide_eq_true (by kernel_rfl), of_decide_eq_true (by kernel_rfl), of_decide_eq_true (by kernel_rfl)⟩⟩ (by kernel_rfl) (by kernel_rfl) (fun h => nomatch h) (by kernel_rfl) (trivial) (fun _ cs h => nomatch h)
theorem tfr55 : TFact Try.prog E ttr 55 ⟨(.sl (.sl (.nm 1))), .slice 49⟩ := TFact.of (z := .slice none 0 0) (bs := 24) Try.underlying55 ⟨rfl, rfl, .inr ⟨by kernel_rfl, by kernel_rfl, by kernel_rfl, of_decide_eq_true (by kernel_rfl), of_decide_eq_true (by kernel_rfl), of_decide_eq_true (by kernel_rfl)⟩⟩ (by kernel_rfl) (by kernel_rfl) (fun h => nomatch h) (by kernel_rfl) (trivial) (fun _ cs h => nomatch h)
theorem tfr57 : TFact Try.prog E ttr 57 ⟨(.nm 3), .struct [(9, 0), (53, 1), (54, 2), (55, 3)]⟩ := TFact.of (z := .agg #[.string ByteArray.empty, .slice none 0 0, .slice none 0 0, .slice none 0 0]) (bs := 88) Try.underlying57 ⟨by kernel_rfl, ⟨_, rfl, rfl⟩, by kernel_rfl, by kernel_rfl⟩ (by kernel_rfl) (by kernel_rfl) (fun _ => rfl) (by kernel_rfl) (show (Value.cells (.agg #[.string ByteArray.empty, .slice none 0 0, .slice none 0 0, .slice none 0 0])).toList = (List.map (fun f => zA (E := E) (zeroA ttr 20 f.1)) [(9, 0), (53, 1), (54, 2), (55, 3)]).flatten from by kernel_rfl) (fun h => nomatch h)
theorem tfr62 : TFact Try.prog E ttr 62 ⟨(.nm 0), .struct [(9, 0), (3, 1)]⟩ := TFact.of (z := .agg #[.string ByteArray.empty, .int .i64 0]) (bs := 24) Try.underlying62 ⟨by kernel_rfl, ⟨_, rfl, rfl⟩, by kernel_rfl, by kernel_rfl⟩ (by kernel_rfl) (by kernel_rfl) (fun _ => rfl) (by kernel_rfl) (show (Value.cells (.agg #[.string ByteArray.empty, .int .i64 0])).toList = (List.map (fun f => zA (E := E) (zeroA ttr 20 f.1)) [(9, 0), (3, 1)]).flatten from by kernel_rfl) (fun h => nomatch h)
theorem tfr76 : TFact Try.prog E ttr 76 ⟨(.nm 2), .struct [(9, 0), (36, 1)]⟩ := TFact.of (z := .agg #[.string ByteArray.empty, .int .i64 0, .int .i64 0, .string ByteArray.empty, .slice none 0 0]) (bs := 72) Try.underlying76 ⟨by kernel_rfl, ⟨_, rfl, rfl⟩, by kernel_rfl, by kernel_rfl⟩ (by kernel_rfl) (by kernel_rfl) (fun _ => rfl) (by kernel_rfl) (show (Value.cells (.agg #[.string ByteArray.empty, .int .i64 0, .int .i64 0, .string ByteArray.empty, .slice none 0 0])).toList = (List.map (fun f => zA (E := E) (zeroA ttr 20 f.1)) [(9, 0), (36, 1)]).flatten from by kernel_rfl) (fun h => nomatch h)
theorem tokr : TOK Try.prog E ttr := TOK.of (mem_cons2 tfr3 (mem_cons2 tfr9 (mem_cons2 tfr34 (mem_cons2 tfr36 (mem_cons2 tfr49 (mem_cons2 tfr53 (mem_cons2 tfr54 (mem_cons2 tfr55 (mem_cons2 tfr57 (mem_cons2 tfr62 (mem_cons2 tfr76 mem_nil2)))))))))))
theorem rdok : RdOK Try.prog E ttr := RdOK.of (by kernel_rfl)
theorem law_sub : ∀ t ∈ ([57, 3, 3] : List Nat), ttr t = tt t := by
  intro t ht
  simp only [List.mem_cons, List.not_mem_nil, or_false] at ht
  rcases ht with rfl | rfl | rfl
  · kernel_rfl
  · kernel_rfl
  · kernel_rfl
theorem hmix : Try.prog.follows .mixedOrders = true := by kernel_rfl
def hKeep (f b : Nat) : List (Nat × Nat) := bif Nat.beq f 26 then (bif Nat.beq b 0 then [(0, 0), (1, 0), (11, 0), (12, 0)] else []) else bif Nat.beq f 29 then (bif Nat.beq b 0 then [(0, 0), (1, 0), (7, 0), (8, 0)] else []) else bif Nat.beq f 31 then (bif Nat.beq b 0 then [(1, 0), (21, 0), (22, 0), (23, 0)] else bif Nat.beq b 2 then [(1, 0), (53, 0), (54, 0), (55, 0)] else bif Nat.beq b 4 then [(1, 0), (8, 0), (53, 0), (54, 0), (55, 0), (63, 0), (64, 0), (65, 0)] else []) else bif Nat.beq f 32 then (bif Nat.beq b 0 then [(1, 0), (21, 0), (22, 0), (23, 0)] else bif Nat.beq b 2 then [(1, 0), (7, 1), (53, 0), (54, 0), (55, 0)] else bif Nat.beq b 4 then [(7, 1), (69, 0), (70, 0)] else []) else bif Nat.beq f 34 then (bif Nat.beq b 0 then [(2, 0), (3, 0), (8, 0), (9, 0), (10, 0)] else []) else bif Nat.beq f 35 then (bif Nat.beq b 0 then [(2, 0), (3, 0), (7, 0), (8, 0), (9, 0)] else []) else bif Nat.beq f 38 then (bif Nat.beq b 0 then [(1, 0), (2, 0), (4, 0), (7, 0), (28, 0), (29, 0), (30, 0)] else []) else bif Nat.beq f 39 then (bif Nat.beq b 0 then [(1, 0), (2, 0), (3, 1), (10, 0), (11, 0), (12, 0)] else bif Nat.beq b 2 then [(1, 0), (2, 0), (3, 1), (5, 0), (6, 0), (10, 0), (11, 0), (12, 0), (18, 0), (19, 0), (20, 0)] else []) else bif Nat.beq f 77 then (bif Nat.beq b 0 then [(2, 0), (3, 0), (7, 0), (8, 0), (9, 0)] else []) else bif Nat.beq f 79 then (bif Nat.beq b 1 then [(1, 0), (25, 0), (26, 0), (27, 0)] else bif Nat.beq b 4 then [(1, 0), (51, 0), (52, 0), (53, 0)] else []) else bif Nat.beq f 80 then (bif Nat.beq b 0 then [(2, 0), (14, 0), (15, 0), (16, 0)] else []) else bif Nat.beq f 82 then (bif Nat.beq b 0 then [(1, 0), (3, 0), (4, 0), (24, 0), (25, 0), (26, 0)] else bif Nat.beq b 3 then [(3, 0), (4, 0), (54, 0), (55, 0), (56, 0)] else []) else bif Nat.beq f 83 then (bif Nat.beq b 0 then [(1, 0), (2, 0), (14, 0), (15, 0)] else []) else bif Nat.beq f 84 then (bif Nat.beq b 0 then [(1, 0), (2, 0), (5, 1), (9, 0), (10, 0), (11, 0)] else []) else bif Nat.beq f 86 then (bif Nat.beq b 0 then [(1, 0), (2, 0), (15, 0), (16, 0), (17, 0)] else []) else bif Nat.beq f 88 then (bif Nat.beq b 0 then [(1, 0), (2, 0), (10, 0), (11, 0)] else []) else bif Nat.beq f 89 then (bif Nat.beq b 0 then [(2, 0), (3, 0), (7, 0), (8, 0), (9, 0)] else []) else bif Nat.beq f 105 then (bif Nat.beq b 0 then [(23, 0), (24, 0), (25, 0)] else []) else bif Nat.beq f 110 then (bif Nat.beq b 0 then [(3, 0), (7, 0), (8, 0), (9, 0)] else []) else bif Nat.beq f 111 then (bif Nat.beq b 0 then [(3, 0), (7, 0), (8, 0), (9, 0)] else []) else bif Nat.beq f 112 then (bif Nat.beq b 1 then [(46, 0), (47, 0), (48, 0)] else []) else bif Nat.beq f 118 then (bif Nat.beq b 0 then [(3, 0), (6, 0), (7, 0), (8, 0)] else []) else bif Nat.beq f 120 then (bif Nat.beq b 0 then [(0, 0), (1, 0), (2, 0), (11, 0), (12, 0), (13, 0)] else []) else bif Nat.beq f 132 then (bif Nat.beq b 0 then [(1, 0), (8, 0), (9, 0), (10, 0)] else []) else bif Nat.beq f 156 then (bif Nat.beq b 0 then [(0, 0), (1, 0), (7, 0), (8, 0)] else []) else bif Nat.beq f 157 then (bif Nat.beq b 0 then [(0, 0), (1, 0), (7, 0), (8, 0)] else []) else bif Nat.beq f 175 then (bif Nat.beq b 0 then [(0, 0), (5, 0), (6, 0), (7, 0)] else []) else bif Nat.beq f 176 then (bif Nat.beq b 0 then [(1, 0), (6, 0), (7, 0), (8, 0)] else []) else bif Nat.beq f 190 then (bif Nat.beq b 0 then [(0, 0), (1, 0), (7, 0), (8, 0)] else []) else []
def hKeepB (f b : Nat) : List Nat := bif Nat.beq f 31 then (bif Nat.beq b 0 then [1] else bif Nat.beq b 2 then [1] else bif Nat.beq b 4 then [1] else []) else bif Nat.beq f 32 then (bif Nat.beq b 0 then [1] else bif Nat.beq b 2 then [1] else []) else bif Nat.beq f 34 then (bif Nat.beq b 0 then [2, 3, 107] else []) else bif Nat.beq f 35 then (bif Nat.beq b 0 then [2, 3, 103] else []) else bif Nat.beq f 38 then (bif Nat.beq b 0 then [2, 4, 7, 215] else []) else bif Nat.beq f 39 then (bif Nat.beq b 0 then [1, 2] else bif Nat.beq b 2 then [1, 2, 6, 179] else []) else bif Nat.beq f 77 then (bif Nat.beq b 0 then [2, 3, 87] else []) else bif Nat.beq f 79 then (bif Nat.beq b 1 then [1] else bif Nat.beq b 4 then [1] else []) else bif Nat.beq f 80 then (bif Nat.beq b 0 then [2] else []) else bif Nat.beq f 82 then (bif Nat.beq b 0 then [1, 21, 22] else bif Nat.beq b 3 then [21, 22] else []) else bif Nat.beq f 83 then (bif Nat.beq b 0 then [2] else []) else bif Nat.beq f 84 then (bif Nat.beq b 0 then [2] else []) else bif Nat.beq f 88 then (bif Nat.beq b 0 then [1, 2, 6] else []) else bif Nat.beq f 89 then (bif Nat.beq b 0 then [2, 3, 87] else []) else bif Nat.beq f 176 then (bif Nat.beq b 0 then [1] else []) else []
def hRsh (f : Nat) : RSh := bif Nat.beq f 7 then (.t .bool) else bif Nat.beq f 17 then (.t .bool) else bif Nat.beq f 22 then (.t .bool) else bif Nat.beq f 25 then (.t .bool) else bif Nat.beq f 26 then (.t (.int .i64)) else bif Nat.beq f 27 then (.t (.int .i64)) else bif Nat.beq f 28 then (.tup [(.t (.int .i64)), (.t .bool)]) else bif Nat.beq f 29 then (.t (.int .i64)) else bif Nat.beq f 31 then (.t (.int .i64)) else bif Nat.beq f 32 then (.t (.int .i64)) else bif Nat.beq f 33 then (.t .bool) else bif Nat.beq f 34 then (.t (.nm 4)) else bif Nat.beq f 35 then (.t (.nm 4)) else bif Nat.beq f 36 then (.t (.nm 4)) else bif Nat.beq f 37 then (.t (.nm 4)) else bif Nat.beq f 38 then (.tup [(.t (.nm 1)), (.t (.int .i64))]) else bif Nat.beq f 39 then (.t (.nm 1)) else bif Nat.beq f 54 then (.t (.int .i64)) else bif Nat.beq f 56 then (.t (.int .i64)) else bif Nat.beq f 63 then (.t (.int .i64)) else bif Nat.beq f 77 then (.t (.nm 1)) else bif Nat.beq f 78 then (.t .bool) else bif Nat.beq f 79 then (.t (.int .i64)) else bif Nat.beq f 80 then (.t (.int .i64)) else bif Nat.beq f 81 then (.t .bool) else bif Nat.beq f 82 then (.t (.int .i64)) else bif Nat.beq f 83 then (.t (.int .i64)) else bif Nat.beq f 84 then (.t (.sl (.nm 1))) else bif Nat.beq f 85 then .unit else bif Nat.beq f 86 then (.t .bool) else bif Nat.beq f 87 then (.t .bool) else bif Nat.beq f 88 then (.t (.nm 1)) else bif Nat.beq f 89 then (.t (.nm 1)) else bif Nat.beq f 105 then (.t .bool) else bif Nat.beq f 109 then (.t .bool) else bif Nat.beq f 110 then (.t (.int .i64)) else bif Nat.beq f 111 then (.t (.int .i64)) else bif Nat.beq f 112 then (.t (.int .i64)) else bif Nat.beq f 117 then (.t (.int .i64)) else bif Nat.beq f 118 then (.t (.int .i64)) else bif Nat.beq f 119 then (.t (.int .i64)) else bif Nat.beq f 120 then (.t (.int .i64)) else bif Nat.beq f 121 then (.t (.int .i64)) else bif Nat.beq f 127 then (.t .bool) else bif Nat.beq f 128 then (.t .bool) else bif Nat.beq f 129 then (.t .bool) else bif Nat.beq f 130 then (.t .bool) else bif Nat.beq f 131 then (.t .bool) else bif Nat.beq f 132 then (.t (.int .i64)) else bif Nat.beq f 135 then (.ownrow (.nm 2)) else bif Nat.beq f 147 then (.t .bool) else bif Nat.beq f 148 then (.t .bool) else bif Nat.beq f 149 then (.t (.int .i64)) else bif Nat.beq f 156 then (.t (.int .i64)) else bif Nat.beq f 157 then (.t (.int .i64)) else bif Nat.beq f 174 then (.t .bool) else bif Nat.beq f 175 then (.t (.int .i64)) else bif Nat.beq f 176 then (.t (.int .i64)) else bif Nat.beq f 186 then (.t .bool) else bif Nat.beq f 187 then (.t .bool) else bif Nat.beq f 190 then (.t (.int .i64)) else .asis
def hCons (f : Nat) : List Nat := []
def hRow (f : Nat) : List Nat := bif Nat.beq f 32 then [7] else bif Nat.beq f 135 then [2, 5] else []
def hSet (f d : Nat) : List (Nat × Nat) := bif Nat.beq f 34 then (bif Nat.beq d 6 then [(5, 107)] else []) else bif Nat.beq f 35 then (bif Nat.beq d 6 then [(5, 103)] else []) else bif Nat.beq f 38 then (bif Nat.beq d 26 then [(3, 215)] else []) else bif Nat.beq f 39 then (bif Nat.beq d 16 then [(3, 179)] else []) else bif Nat.beq f 77 then (bif Nat.beq d 6 then [(3, 87)] else []) else bif Nat.beq f 89 then (bif Nat.beq d 6 then [(3, 87)] else []) else []
def hPre (f d : Nat) : Nat := bif Nat.beq f 88 then (bif Nat.beq d 1002 then 2 else 0) else 0
def hPreT (f d : Nat) : List (Nat × Nat) := []
def H : Hints := { keep := hKeep, keepB := hKeepB, rsh := hRsh, cons := hCons, asagg := hSet, asrow := hRow, mutcap := [], pre := hPre, preT := hPreT }
def gl : Nat → AV E := fun _ => .undef

def C0 (_ : Nat) : Call2 E := fun _ _ _ => none

/- clapperbridge/rel.Full -/
noncomputable def rel_Full (n : Nat) (x0 : Int) : Option ApiType := F2 (E := E) tt gl H (C0 n) n 36 Try.f36 [.t (.int .i64)] (x0, ())
theorem rel_Full_eq (n : Nat) (x0 : Int) : rel_Full n x0 = (bif (decide (x0 = 1)) then (some (ApiType.mk x0 [] 0 1 [] [])) else (bif (decide (x0 = 2)) then (some (ApiType.mk x0 [] (-9007199254740992) 9007199254740992 [] [])) else (bif (decide (x0 = 4)) then (some (ApiType.mk x0 [] 0 4194304 [] [])) else (bif (decide (x0 = 5)) then (some (ApiType.mk x0 [] 0 0 [46, 42] [])) else (some (ApiType.mk x0 [] 0 0 [] [])))))) := by kernel_rfl
noncomputable def C1 (n : Nat) : Call2 E := more tt gl H (C0 n) n 36 Try.f36 [.t (.int .i64)] (C0 n)

/- clapperbridge/rel.Type -/
noncomputable def rel_Type (n : Nat) (x0 : Rel) : Option ApiType := F2 (E := E) tt gl H (C1 n) n 34 Try.f34 [.t (.nm 3)] (x0, ())
noncomputable def rel_Type_l0 (n : Nat) (m0 : Nat) (v8 : List Col) (v9 : Int) (v10 : Int) (w2 : ApiType) (w3_0 : Int) (w3_1 : List UInt8) (w3_2 : Int) (w3_3 : Int) (w3_4 : List UInt8) (w3_5 : List Part) : Option ApiType := lp (E := E) (ps := [.t (.nm 3)]) tt gl H (C1 n) n 34 Try.f34 [1, 1, 0, 1, 0] [] m0 ⟨mkT 27 0 [(2, .ptr 2 (.nm 4) []), (3, .ptr 3 (.nm 4) []), (8, .t (.sl (.nm 0)) v8), (9, .t (.int .i64) v9), (10, .t (.int .i64) v10)], mkB 108 0 [(2, .var (.nm 4) (.t (.nm 4) w2)), (3, .var (.nm 4) (.agg [.t (.int .i64) w3_0, .t .str w3_1, .t (.int .i64) w3_2, .t (.int .i64) w3_3, .t .str w3_4, .sl 107 (.nm 5) w3_5])), (107, .grow (.nm 5) (List.length w3_5))]⟩
theorem rel_Type_l0_eq (n : Nat) (m0 : Nat) (v8 : List Col) (v9 : Int) (v10 : Int) (w2 : ApiType) (w3_0 : Int) (w3_1 : List UInt8) (w3_2 : Int) (w3_3 : Int) (w3_4 : List UInt8) (w3_5 : List Part) : rel_Type_l0 n (m0 + 1) v8 v9 v10 w2 w3_0 w3_1 w3_2 w3_3 w3_4 w3_5 = (bif (decide (v10 < v9)) then (bif (decide (0 ≤ v10) && decide (v10 < List.length v8)) then (Option.bind (rel_Full n ((List.getD v8 (Int.toNat v10) (Col.mk [] 0)).Kind)) fun r1 => (bif (decide ((List.length w3_5) = List.length w3_5) && decide (List.length w3_5 + List.length ([(Part.mk ((List.getD v8 (Int.toNat v10) (Col.mk [] 0)).Name) r1)] : List Part) ≤ 4294967296)) then (rel_Type_l0 n m0 v8 v9 (IntKind.wrap .i64 (v10 + 1)) w2 w3_0 w3_1 w3_2 w3_3 w3_4 (w3_5 ++ [(Part.mk ((List.getD v8 (Int.toNat v10) (Col.mk [] 0)).Name) r1)])) else none)) else none) else (some (ApiType.mk w3_0 w3_1 w3_2 w3_3 w3_4 w3_5))) := by kernel_rfl
theorem rel_Type_l0_zero (n : Nat) (v8 : List Col) (v9 : Int) (v10 : Int) (w2 : ApiType) (w3_0 : Int) (w3_1 : List UInt8) (w3_2 : Int) (w3_3 : Int) (w3_4 : List UInt8) (w3_5 : List Part) : rel_Type_l0 n 0 v8 v9 v10 w2 w3_0 w3_1 w3_2 w3_3 w3_4 w3_5 = none := by kernel_rfl
theorem rel_Type_l0_fold (n : Nat) (v8 : List Col) (w2 : ApiType) (w3_0 : Int) (w3_1 : List UInt8) (w3_2 : Int) (w3_3 : Int) (w3_4 : List UInt8) (w3_5 : List Part) (hl : List.length v8 < 9223372036854775807) (m i : Nat) (hi : i ≤ List.length v8) (hm : List.length v8 - i < m) : rel_Type_l0 n m v8 (List.length v8 : Int) (i : Int) w2 w3_0 w3_1 w3_2 w3_3 w3_4 w3_5 = foldK (S := (List Part)) (fun i (a : Col) s K => (Option.bind (rel_Full n (a.Kind)) fun r1 => (bif (decide ((List.length s) = List.length s) && decide (List.length s + List.length ([(Part.mk (a.Name) r1)] : List Part) ≤ 4294967296)) then (K (s ++ [(Part.mk (a.Name) r1)])) else none))) (fun s => (some (ApiType.mk w3_0 w3_1 w3_2 w3_3 w3_4 s))) (List.drop i v8) i (w3_5) := range_loop v8 (Col.mk [] 0) hl (fun m (k : Int) (s : (List Part)) => rel_Type_l0 n m v8 (List.length v8 : Int) k w2 w3_0 w3_1 w3_2 w3_3 w3_4 s) _ _ (fun m i s => (rel_Type_l0_eq n m v8 (List.length v8 : Int) (i : Int) w2 w3_0 w3_1 w3_2 w3_3 w3_4 s).trans (by kernel_rfl)) m i hi hm (w3_5)
theorem rel_Type_eq (n : Nat) (x0 : Rel) : rel_Type n x0 = (rel_Type_l0 n n x0.Cols (List.length x0.Cols : Int) 0 (ApiType.mk 0 [] 0 0 [] []) 6 [] 0 0 [] []) := by kernel_rfl
noncomputable def C2 (n : Nat) : Call2 E := more tt gl H (C1 n) n 34 Try.f34 [.t (.nm 3)] (C1 n)

/- clapperbridge/value.Name -/
noncomputable def value_Name (n : Nat) (x0 : List UInt8) : Option Bool := F2 (E := E) tt gl H (C2 n) n 105 Try.f105 [.t .str] (x0, ())
noncomputable def value_Name_l0 (n : Nat) (m0 : Nat) (v23 : List Int) (v24 : Int) (v25 : Int) : Option Bool := lp (E := E) (ps := [.t .str]) tt gl H (C2 n) n 105 Try.f105 [1, 1, 0, 1, 0] [] m0 ⟨mkT 49 0 [(23, .t (.sl (.int .u8)) v23), (24, .t (.int .i64) v24), (25, .t (.int .i64) v25)], mkB 196 0 []⟩
theorem value_Name_l0_eq (n : Nat) (m0 : Nat) (v23 : List Int) (v24 : Int) (v25 : Int) : value_Name_l0 n (m0 + 1) v23 v24 v25 = (bif (decide (v25 < v24)) then (bif (decide (0 ≤ v25) && decide (v25 < List.length v23)) then (bif (decide ((List.getD v23 (Int.toNat v25) (0 : Int)) ≥ 97)) then (bif (decide ((List.getD v23 (Int.toNat v25) (0 : Int)) ≤ 122)) then (value_Name_l0 n m0 v23 v24 (IntKind.wrap .i64 (v25 + 1))) else (bif (decide ((List.getD v23 (Int.toNat v25) (0 : Int)) ≥ 48)) then (bif (decide ((List.getD v23 (Int.toNat v25) (0 : Int)) ≤ 57)) then (value_Name_l0 n m0 v23 v24 (IntKind.wrap .i64 (v25 + 1))) else (bif (!(decide ((List.getD v23 (Int.toNat v25) (0 : Int)) = 45))) then (some false) else (value_Name_l0 n m0 v23 v24 (IntKind.wrap .i64 (v25 + 1))))) else (bif (!(decide ((List.getD v23 (Int.toNat v25) (0 : Int)) = 45))) then (some false) else (value_Name_l0 n m0 v23 v24 (IntKind.wrap .i64 (v25 + 1)))))) else (bif (decide ((List.getD v23 (Int.toNat v25) (0 : Int)) ≥ 48)) then (bif (decide ((List.getD v23 (Int.toNat v25) (0 : Int)) ≤ 57)) then (value_Name_l0 n m0 v23 v24 (IntKind.wrap .i64 (v25 + 1))) else (bif (!(decide ((List.getD v23 (Int.toNat v25) (0 : Int)) = 45))) then (some false) else (value_Name_l0 n m0 v23 v24 (IntKind.wrap .i64 (v25 + 1))))) else (bif (!(decide ((List.getD v23 (Int.toNat v25) (0 : Int)) = 45))) then (some false) else (value_Name_l0 n m0 v23 v24 (IntKind.wrap .i64 (v25 + 1)))))) else none) else (some true)) := by kernel_rfl
theorem value_Name_l0_zero (n : Nat) (v23 : List Int) (v24 : Int) (v25 : Int) : value_Name_l0 n 0 v23 v24 v25 = none := by kernel_rfl
theorem value_Name_l0_fold (n : Nat) (v23 : List Int) (hl : List.length v23 < 9223372036854775807) (m i : Nat) (hi : i ≤ List.length v23) (hm : List.length v23 - i < m) : value_Name_l0 n m v23 (List.length v23 : Int) (i : Int) = foldK (S := Unit) (fun i (a : Int) s K => (bif (decide (a ≥ 97)) then (bif (decide (a ≤ 122)) then (K ()) else (bif (decide (a ≥ 48)) then (bif (decide (a ≤ 57)) then (K ()) else (bif (!(decide (a = 45))) then (some false) else (K ()))) else (bif (!(decide (a = 45))) then (some false) else (K ())))) else (bif (decide (a ≥ 48)) then (bif (decide (a ≤ 57)) then (K ()) else (bif (!(decide (a = 45))) then (some false) else (K ()))) else (bif (!(decide (a = 45))) then (some false) else (K ()))))) (fun s => (some true)) (List.drop i v23) i () := range_loop v23 (0 : Int) hl (fun m (k : Int) (s : Unit) => value_Name_l0 n m v23 (List.length v23 : Int) k) _ _ (fun m i s => (value_Name_l0_eq n m v23 (List.length v23 : Int) (i : Int)).trans (by kernel_rfl)) m i hi hm ()
theorem value_Name_eq (n : Nat) (x0 : List UInt8) : value_Name n x0 = (bif (x0 == []) then (some false) else (bif (decide ((List.length x0 : Int) > 16)) then (some false) else (bif (decide (0 ≤ (0 : Int)) && decide ((0 : Int) < List.length x0)) then (bif (decide (((UInt8.toNat (List.getD x0 (Int.toNat (0 : Int)) 0) : Nat) : Int) < 97)) then (some false) else (bif (decide (0 ≤ (0 : Int)) && decide ((0 : Int) < List.length x0)) then (bif (decide (((UInt8.toNat (List.getD x0 (Int.toNat (0 : Int)) 0) : Nat) : Int) > 122)) then (some false) else (value_Name_l0 n n (ints x0) (List.length (ints x0) : Int) 0)) else none)) else none))) := by kernel_rfl
noncomputable def C3 (n : Nat) : Call2 E := more tt gl H (C2 n) n 105 Try.f105 [.t .str] (C2 n)

/- clapperbridge/rel.head$1 -/
noncomputable def rel_head_1 (n : Nat) (x0 : Col) (x1 : Col) : Option Bool := F2 (E := E) tt gl H (C3 n) n 128 Try.f128 [.t (.nm 0), .imm (.nm 0)] (x0, x1, ())
theorem rel_head_1_eq (n : Nat) (x0 : Col) (x1 : Col) : rel_head_1 n x0 x1 = (some (x0.Name == x1.Name)) := by kernel_rfl
noncomputable def C4 (n : Nat) : Call2 E := more tt gl H (C3 n) n 128 Try.f128 [.t (.nm 0), .imm (.nm 0)] (C3 n)

/- slices.IndexFunc[[]clapperbridge/api.Col,clapperbridge/api.Col] -/
noncomputable def slices_IndexFunc (n : Nat) (x0 : List Col) (x1 : (Col × Unit)) : Option Int := F2 (E := E) tt gl H (C4 n) n 29 Try.f29 [.t (.sl (.nm 0)), .fn 128 [(.nm 0)]] (x0, x1, ())
noncomputable def slices_IndexFunc_l0 (n : Nat) (m0 : Nat) (v0 : List Col) (v1c0 : Col) (v7 : Int) (v8 : Int) : Option Int := lp (E := E) (ps := [.t (.sl (.nm 0)), .fn 128 [(.nm 0)]]) tt gl H (C4 n) n 29 Try.f29 [1, 0, 1, 0] [] m0 ⟨mkT 19 0 [(0, .t (.sl (.nm 0)) v0), (1, .func 128 [⟨(.nm 0), v1c0⟩]), (7, .t (.int .i64) v7), (8, .t (.int .i64) v8)], mkB 76 0 []⟩
theorem slices_IndexFunc_l0_eq (n : Nat) (m0 : Nat) (v0 : List Col) (v1c0 : Col) (v7 : Int) (v8 : Int) : slices_IndexFunc_l0 n (m0 + 1) v0 v1c0 v7 v8 = (bif (decide (v8 < v7)) then (bif (decide (0 ≤ v8) && decide (v8 < List.length v0)) then (Option.bind (rel_head_1 n (List.getD v0 (Int.toNat v8) (Col.mk [] 0)) v1c0) fun r1 => (bif r1 then (some v8) else (slices_IndexFunc_l0 n m0 v0 v1c0 v7 (IntKind.wrap .i64 (v8 + 1))))) else none) else (some (-1))) := by kernel_rfl
theorem slices_IndexFunc_l0_zero (n : Nat) (v0 : List Col) (v1c0 : Col) (v7 : Int) (v8 : Int) : slices_IndexFunc_l0 n 0 v0 v1c0 v7 v8 = none := by kernel_rfl
theorem slices_IndexFunc_l0_fold (n : Nat) (v0 : List Col) (v1c0 : Col) (hl : List.length v0 < 9223372036854775807) (m i : Nat) (hi : i ≤ List.length v0) (hm : List.length v0 - i < m) : slices_IndexFunc_l0 n m v0 v1c0 (List.length v0 : Int) (i : Int) = foldK (S := Unit) (fun i (a : Col) s K => (Option.bind (rel_head_1 n a v1c0) fun r1 => (bif r1 then (some (i : Int)) else (K ())))) (fun s => (some (-1))) (List.drop i v0) i () := range_loop v0 (Col.mk [] 0) hl (fun m (k : Int) (s : Unit) => slices_IndexFunc_l0 n m v0 v1c0 (List.length v0 : Int) k) _ _ (fun m i s => (slices_IndexFunc_l0_eq n m v0 v1c0 (List.length v0 : Int) (i : Int)).trans (by kernel_rfl)) m i hi hm ()
theorem slices_IndexFunc_eq (n : Nat) (x0 : List Col) (x1 : (Col × Unit)) : slices_IndexFunc n x0 x1 = (slices_IndexFunc_l0 n n x0 x1.1 (List.length x0 : Int) 0) := by kernel_rfl
noncomputable def C5 (n : Nat) : Call2 E := more tt gl H (C4 n) n 29 Try.f29 [.t (.sl (.nm 0)), .fn 128 [(.nm 0)]] (C4 n)

/- slices.ContainsFunc[[]clapperbridge/api.Col,clapperbridge/api.Col] -/
noncomputable def slices_ContainsFunc (n : Nat) (x0 : List Col) (x1 : (Col × Unit)) : Option Bool := F2 (E := E) tt gl H (C5 n) n 127 Try.f127 [.t (.sl (.nm 0)), .fn 128 [(.nm 0)]] (x0, x1, ())
theorem slices_ContainsFunc_eq (n : Nat) (x0 : List Col) (x1 : (Col × Unit)) : slices_ContainsFunc n x0 x1 = (Option.bind (slices_IndexFunc n x0 (x1.1, ())) fun r1 => (some (decide (r1 ≥ 0)))) := by kernel_rfl
noncomputable def C6 (n : Nat) : Call2 E := more tt gl H (C5 n) n 127 Try.f127 [.t (.sl (.nm 0)), .fn 128 [(.nm 0)]] (C5 n)

/- clapperbridge/rel.Column -/
noncomputable def rel_Column (n : Nat) (x0 : Int) : Option Bool := F2 (E := E) tt gl H (C6 n) n 25 Try.f25 [.t (.int .i64)] (x0, ())
theorem rel_Column_eq (n : Nat) (x0 : Int) : rel_Column n x0 = (bif (decide (x0 ≥ 1)) then (some (decide (x0 ≤ 5))) else (some false)) := by kernel_rfl
noncomputable def C7 (n : Nat) : Call2 E := more tt gl H (C6 n) n 25 Try.f25 [.t (.int .i64)] (C6 n)

/- clapperbridge/rel.Col$1 -/
noncomputable def rel_Col_1 (n : Nat) (x0 : Col) (x1 : List UInt8) : Option Bool := F2 (E := E) tt gl H (C7 n) n 78 Try.f78 [.t (.nm 0), .imm .str] (x0, x1, ())
theorem rel_Col_1_eq (n : Nat) (x0 : Col) (x1 : List UInt8) : rel_Col_1 n x0 x1 = (some (x0.Name == x1)) := by kernel_rfl
noncomputable def C8 (n : Nat) : Call2 E := more tt gl H (C7 n) n 78 Try.f78 [.t (.nm 0), .imm .str] (C7 n)

/- slices.IndexFunc[[]clapperbridge/api.Col,clapperbridge/api.Col] -/
noncomputable def slices_IndexFunc_2 (n : Nat) (x0 : List Col) (x1 : ((List UInt8) × Unit)) : Option Int := F2 (E := E) tt gl H (C8 n) n 29 Try.f29 [.t (.sl (.nm 0)), .fn 78 [.str]] (x0, x1, ())
noncomputable def slices_IndexFunc_2_l0 (n : Nat) (m0 : Nat) (v0 : List Col) (v1c0 : List UInt8) (v7 : Int) (v8 : Int) : Option Int := lp (E := E) (ps := [.t (.sl (.nm 0)), .fn 78 [.str]]) tt gl H (C8 n) n 29 Try.f29 [1, 0, 1, 0] [] m0 ⟨mkT 19 0 [(0, .t (.sl (.nm 0)) v0), (1, .func 78 [⟨.str, v1c0⟩]), (7, .t (.int .i64) v7), (8, .t (.int .i64) v8)], mkB 76 0 []⟩
theorem slices_IndexFunc_2_l0_eq (n : Nat) (m0 : Nat) (v0 : List Col) (v1c0 : List UInt8) (v7 : Int) (v8 : Int) : slices_IndexFunc_2_l0 n (m0 + 1) v0 v1c0 v7 v8 = (bif (decide (v8 < v7)) then (bif (decide (0 ≤ v8) && decide (v8 < List.length v0)) then (Option.bind (rel_Col_1 n (List.getD v0 (Int.toNat v8) (Col.mk [] 0)) v1c0) fun r1 => (bif r1 then (some v8) else (slices_IndexFunc_2_l0 n m0 v0 v1c0 v7 (IntKind.wrap .i64 (v8 + 1))))) else none) else (some (-1))) := by kernel_rfl
theorem slices_IndexFunc_2_l0_zero (n : Nat) (v0 : List Col) (v1c0 : List UInt8) (v7 : Int) (v8 : Int) : slices_IndexFunc_2_l0 n 0 v0 v1c0 v7 v8 = none := by kernel_rfl
theorem slices_IndexFunc_2_l0_fold (n : Nat) (v0 : List Col) (v1c0 : List UInt8) (hl : List.length v0 < 9223372036854775807) (m i : Nat) (hi : i ≤ List.length v0) (hm : List.length v0 - i < m) : slices_IndexFunc_2_l0 n m v0 v1c0 (List.length v0 : Int) (i : Int) = foldK (S := Unit) (fun i (a : Col) s K => (Option.bind (rel_Col_1 n a v1c0) fun r1 => (bif r1 then (some (i : Int)) else (K ())))) (fun s => (some (-1))) (List.drop i v0) i () := range_loop v0 (Col.mk [] 0) hl (fun m (k : Int) (s : Unit) => slices_IndexFunc_2_l0 n m v0 v1c0 (List.length v0 : Int) k) _ _ (fun m i s => (slices_IndexFunc_2_l0_eq n m v0 v1c0 (List.length v0 : Int) (i : Int)).trans (by kernel_rfl)) m i hi hm ()
theorem slices_IndexFunc_2_eq (n : Nat) (x0 : List Col) (x1 : ((List UInt8) × Unit)) : slices_IndexFunc_2 n x0 x1 = (slices_IndexFunc_2_l0 n n x0 x1.1 (List.length x0 : Int) 0) := by kernel_rfl
noncomputable def C9 (n : Nat) : Call2 E := more tt gl H (C8 n) n 29 Try.f29 [.t (.sl (.nm 0)), .fn 78 [.str]] (C8 n)

/- clapperbridge/rel.Col -/
noncomputable def rel_Col (n : Nat) (x0 : Rel) (x1 : List UInt8) : Option (Int × Bool) := F2 (E := E) tt gl H (C9 n) n 28 Try.f28 [.t (.nm 3), .t .str] (x0, x1, ())
theorem rel_Col_eq (n : Nat) (x0 : Rel) (x1 : List UInt8) : rel_Col n x0 x1 = (Option.bind (slices_IndexFunc_2 n x0.Cols (x1, ())) fun r1 => (some ((mxI (0 : Int) r1), (decide (r1 ≥ 0))))) := by kernel_rfl
noncomputable def C10 (n : Nat) : Call2 E := more tt gl H (C9 n) n 28 Try.f28 [.t (.nm 3), .t .str] (C9 n)

/- slices.Index[[]string,string] -/
noncomputable def slices_Index (n : Nat) (x0 : List (List UInt8)) (x1 : List UInt8) : Option Int := F2 (E := E) tt gl H (C10 n) n 156 Try.f156 [.t (.sl .str), .t .str] (x0, x1, ())
noncomputable def slices_Index_l0 (n : Nat) (m0 : Nat) (v0 : List (List UInt8)) (v1 : List UInt8) (v7 : Int) (v8 : Int) : Option Int := lp (E := E) (ps := [.t (.sl .str), .t .str]) tt gl H (C10 n) n 156 Try.f156 [1, 0, 1, 0] [] m0 ⟨mkT 19 0 [(0, .t (.sl .str) v0), (1, .t .str v1), (7, .t (.int .i64) v7), (8, .t (.int .i64) v8)], mkB 76 0 []⟩
theorem slices_Index_l0_eq (n : Nat) (m0 : Nat) (v0 : List (List UInt8)) (v1 : List UInt8) (v7 : Int) (v8 : Int) : slices_Index_l0 n (m0 + 1) v0 v1 v7 v8 = (bif (decide (v8 < v7)) then (bif (decide (0 ≤ v8) && decide (v8 < List.length v0)) then (bif (v1 == (List.getD v0 (Int.toNat v8) [])) then (some v8) else (slices_Index_l0 n m0 v0 v1 v7 (IntKind.wrap .i64 (v8 + 1)))) else none) else (some (-1))) := by kernel_rfl
theorem slices_Index_l0_zero (n : Nat) (v0 : List (List UInt8)) (v1 : List UInt8) (v7 : Int) (v8 : Int) : slices_Index_l0 n 0 v0 v1 v7 v8 = none := by kernel_rfl
theorem slices_Index_l0_fold (n : Nat) (v0 : List (List UInt8)) (v1 : List UInt8) (hl : List.length v0 < 9223372036854775807) (m i : Nat) (hi : i ≤ List.length v0) (hm : List.length v0 - i < m) : slices_Index_l0 n m v0 v1 (List.length v0 : Int) (i : Int) = foldK (S := Unit) (fun i (a : (List UInt8)) s K => (bif (v1 == a) then (some (i : Int)) else (K ()))) (fun s => (some (-1))) (List.drop i v0) i () := range_loop v0 [] hl (fun m (k : Int) (s : Unit) => slices_Index_l0 n m v0 v1 (List.length v0 : Int) k) _ _ (fun m i s => (slices_Index_l0_eq n m v0 v1 (List.length v0 : Int) (i : Int)).trans (by kernel_rfl)) m i hi hm ()
theorem slices_Index_eq (n : Nat) (x0 : List (List UInt8)) (x1 : List UInt8) : slices_Index n x0 x1 = (slices_Index_l0 n n x0 x1 (List.length x0 : Int) 0) := by kernel_rfl
noncomputable def C11 (n : Nat) : Call2 E := more tt gl H (C10 n) n 156 Try.f156 [.t (.sl .str), .t .str] (C10 n)

/- slices.Contains[[]string,string] -/
noncomputable def slices_Contains (n : Nat) (x0 : List (List UInt8)) (x1 : List UInt8) : Option Bool := F2 (E := E) tt gl H (C11 n) n 129 Try.f129 [.t (.sl .str), .t .str] (x0, x1, ())
theorem slices_Contains_eq (n : Nat) (x0 : List (List UInt8)) (x1 : List UInt8) : slices_Contains n x0 x1 = (Option.bind (slices_Index n x0 x1) fun r1 => (some (decide (r1 ≥ 0)))) := by kernel_rfl
noncomputable def C12 (n : Nat) : Call2 E := more tt gl H (C11 n) n 129 Try.f129 [.t (.sl .str), .t .str] (C11 n)

/- clapperbridge/rel.head -/
noncomputable def rel_head (n : Nat) (x0 : Rel) : Option Int := F2 (E := E) tt gl H (C12 n) n 79 Try.f79 [.t (.nm 3)] (x0, ())
noncomputable def rel_head_l1 (n : Nat) (m0 : Nat) (v25 : List Col) (v26 : Int) (v27 : Int) (w1 : Rel) : Option Int := lp (E := E) (ps := [.t (.nm 3)]) tt gl H (C12 n) n 79 Try.f79 [1, 1, 0, 1, 0] [] m0 ⟨mkT 73 0 [(1, .ptr 1 (.nm 3) []), (25, .t (.sl (.nm 0)) v25), (26, .t (.int .i64) v26), (27, .t (.int .i64) v27)], mkB 292 0 [(1, .var (.nm 3) (.t (.nm 3) w1))]⟩
noncomputable def rel_head_l4 (n : Nat) (m0 : Nat) (v51 : List (List UInt8)) (v52 : Int) (v53 : Int) (w1 : Rel) : Option Int := lp (E := E) (ps := [.t (.nm 3)]) tt gl H (C12 n) n 79 Try.f79 [1, 1, 1, 0, 1, 0] [] m0 ⟨mkT 73 0 [(1, .ptr 1 (.nm 3) []), (51, .t (.sl .str) v51), (52, .t (.int .i64) v52), (53, .t (.int .i64) v53)], mkB 292 0 [(1, .var (.nm 3) (.t (.nm 3) w1))]⟩
theorem rel_head_l4_eq (n : Nat) (m0 : Nat) (v51 : List (List UInt8)) (v52 : Int) (v53 : Int) (w1 : Rel) : rel_head_l4 n (m0 + 1) v51 v52 v53 w1 = (bif (decide (v53 < v52)) then (bif (decide (0 ≤ v53) && decide (v53 < List.length v51)) then (Option.bind (rel_Col n w1 (List.getD v51 (Int.toNat v53) [])) fun r5 => (bif (!r5.2) then (some 15) else (bif (decide (0 ≤ v53) && decide (v53 ≤ (List.length w1.Key))) then (Option.bind (slices_Contains n (List.take (Int.toNat v53) w1.Key) (List.getD v51 (Int.toNat v53) [])) fun r6 => (bif r6 then (some 5) else (rel_head_l4 n m0 v51 v52 (IntKind.wrap .i64 (v53 + 1)) w1))) else none))) else none) else (some 0)) := by kernel_rfl
theorem rel_head_l4_zero (n : Nat) (v51 : List (List UInt8)) (v52 : Int) (v53 : Int) (w1 : Rel) : rel_head_l4 n 0 v51 v52 v53 w1 = none := by kernel_rfl
theorem rel_head_l4_fold (n : Nat) (v51 : List (List UInt8)) (w1 : Rel) (hl : List.length v51 < 9223372036854775807) (m i : Nat) (hi : i ≤ List.length v51) (hm : List.length v51 - i < m) : rel_head_l4 n m v51 (List.length v51 : Int) (i : Int) w1 = foldK (S := Unit) (fun i (a : (List UInt8)) s K => (Option.bind (rel_Col n w1 a) fun r5 => (bif (!r5.2) then (some 15) else (bif (decide (0 ≤ (i : Int)) && decide ((i : Int) ≤ (List.length w1.Key))) then (Option.bind (slices_Contains n (List.take (Int.toNat (i : Int)) w1.Key) a) fun r6 => (bif r6 then (some 5) else (K ()))) else none)))) (fun s => (some 0)) (List.drop i v51) i () := range_loop v51 [] hl (fun m (k : Int) (s : Unit) => rel_head_l4 n m v51 (List.length v51 : Int) k w1) _ _ (fun m i s => (rel_head_l4_eq n m v51 (List.length v51 : Int) (i : Int) w1).trans (by kernel_rfl)) m i hi hm ()
theorem rel_head_l1_eq (n : Nat) (m0 : Nat) (v25 : List Col) (v26 : Int) (v27 : Int) (w1 : Rel) : rel_head_l1 n (m0 + 1) v25 v26 v27 w1 = (bif (decide (v27 < v26)) then (bif (decide (0 ≤ v27) && decide (v27 < List.length v25)) then (Option.bind (value_Name n ((List.getD v25 (Int.toNat v27) (Col.mk [] 0)).Name)) fun r2 => (bif (!r2) then (some 15) else (bif (decide (0 ≤ v27) && decide (v27 ≤ (List.length w1.Cols))) then (Option.bind (slices_ContainsFunc n (List.take (Int.toNat v27) w1.Cols) ((List.getD v25 (Int.toNat v27) (Col.mk [] 0)), ())) fun r3 => (bif r3 then (some 5) else (Option.bind (rel_Column n ((List.getD v25 (Int.toNat v27) (Col.mk [] 0)).Kind)) fun r4 => (bif (!r4) then (some 8) else (rel_head_l1 n m0 v25 v26 (IntKind.wrap .i64 (v27 + 1)) w1))))) else none))) else none) else (rel_head_l4 n n w1.Key (List.length w1.Key : Int) 0 w1)) := by kernel_rfl
theorem rel_head_l1_zero (n : Nat) (v25 : List Col) (v26 : Int) (v27 : Int) (w1 : Rel) : rel_head_l1 n 0 v25 v26 v27 w1 = none := by kernel_rfl
theorem rel_head_l1_fold (n : Nat) (v25 : List Col) (w1 : Rel) (hl : List.length v25 < 9223372036854775807) (m i : Nat) (hi : i ≤ List.length v25) (hm : List.length v25 - i < m) : rel_head_l1 n m v25 (List.length v25 : Int) (i : Int) w1 = foldK (S := Unit) (fun i (a : Col) s K => (Option.bind (value_Name n (a.Name)) fun r2 => (bif (!r2) then (some 15) else (bif (decide (0 ≤ (i : Int)) && decide ((i : Int) ≤ (List.length w1.Cols))) then (Option.bind (slices_ContainsFunc n (List.take (Int.toNat (i : Int)) w1.Cols) (a, ())) fun r3 => (bif r3 then (some 5) else (Option.bind (rel_Column n (a.Kind)) fun r4 => (bif (!r4) then (some 8) else (K ()))))) else none)))) (fun s => (rel_head_l4 n n w1.Key (List.length w1.Key : Int) 0 w1)) (List.drop i v25) i () := range_loop v25 (Col.mk [] 0) hl (fun m (k : Int) (s : Unit) => rel_head_l1 n m v25 (List.length v25 : Int) k w1) _ _ (fun m i s => (rel_head_l1_eq n m v25 (List.length v25 : Int) (i : Int) w1).trans (by kernel_rfl)) m i hi hm ()
theorem rel_head_eq (n : Nat) (x0 : Rel) : rel_head n x0 = (Option.bind (value_Name n x0.Name) fun r1 => (bif (!r1) then (some 15) else (bif (decide ((List.length x0.Cols : Int) = 0)) then (some 3) else (bif (decide ((List.length x0.Cols : Int) > 12)) then (some 2) else (rel_head_l1 n n x0.Cols (List.length x0.Cols : Int) 0 x0))))) := by kernel_rfl
noncomputable def C13 (n : Nat) : Call2 E := more tt gl H (C12 n) n 79 Try.f79 [.t (.nm 3)] (C12 n)
noncomputable def Cr13 : Nat → Nat → Call2 E
  | 0, n => C13 n
  | d + 1, n => (more tt gl H (Cr13 d n) n 110 Try.f110 [.t (.nm 1)] (C13 n))
noncomputable def C14 (n : Nat) : Call2 E := Cr13 (n + 1) n

/- clapperbridge/value.Size -/
noncomputable def value_Size (d : Nat) (n : Nat) (x0 : ApiValue) : Option Int := F2 (E := E) tt gl H (Cr13 d n) n 110 Try.f110 [.t (.nm 1)] (x0, ())
noncomputable def value_Size_l0 (d : Nat) (n : Nat) (m0 : Nat) (v3 : Int) (v7 : List ApiField) (v8 : Int) (v9 : Int) : Option Int := lp (E := E) (ps := [.t (.nm 1)]) tt gl H (Cr13 d n) n 110 Try.f110 [1, 1, 0, 1, 0] [] m0 ⟨mkT 20 0 [(3, .t (.int .i64) v3), (7, .t (.sl (.nm 2)) v7), (8, .t (.int .i64) v8), (9, .t (.int .i64) v9)], mkB 80 0 []⟩
theorem value_Size_l0_eq (d : Nat) (n : Nat) (m0 : Nat) (v3 : Int) (v7 : List ApiField) (v8 : Int) (v9 : Int) : value_Size_l0 (d + 1) n (m0 + 1) v3 v7 v8 v9 = (bif (decide (v9 < v8)) then (bif (decide (0 ≤ v9) && decide (v9 < List.length v7)) then (Option.bind (value_Size d n ((List.getD v7 (Int.toNat v9) (ApiField.mk [] (ApiValue.mk 0 0 [] []))).Val)) fun r1 => (value_Size_l0 (d + 1) n m0 (IntKind.wrap .i64 (v3 + r1)) v7 v8 (IntKind.wrap .i64 (v9 + 1)))) else none) else (some v3)) := by kernel_rfl
theorem value_Size_l0_zero (d : Nat) (n : Nat) (v3 : Int) (v7 : List ApiField) (v8 : Int) (v9 : Int) : value_Size_l0 d n 0 v3 v7 v8 v9 = none := by kernel_rfl
theorem value_Size_l0_fold (d : Nat) (n : Nat) (v7 : List ApiField) (v3 : Int) (hl : List.length v7 < 9223372036854775807) (m i : Nat) (hi : i ≤ List.length v7) (hm : List.length v7 - i < m) : value_Size_l0 (d + 1) n m v3 v7 (List.length v7 : Int) (i : Int) = foldK (S := Int) (fun i (a : ApiField) s K => (Option.bind (value_Size d n (a.Val)) fun r1 => (K (IntKind.wrap .i64 (s + r1))))) (fun s => (some s)) (List.drop i v7) i (v3) := range_loop v7 (ApiField.mk [] (ApiValue.mk 0 0 [] [])) hl (fun m (k : Int) (s : Int) => value_Size_l0 (d + 1) n m s v7 (List.length v7 : Int) k) _ _ (fun m i s => (value_Size_l0_eq d n m s v7 (List.length v7 : Int) (i : Int)).trans (by kernel_rfl)) m i hi hm (v3)
theorem value_Size_eq (d : Nat) (n : Nat) (x0 : ApiValue) : value_Size (d + 1) n x0 = (value_Size_l0 (d + 1) n n 1 x0.Fields (List.length x0.Fields : Int) 0) := by kernel_rfl
noncomputable def Cr14 : Nat → Nat → Call2 E
  | 0, n => C14 n
  | d + 1, n => (more tt gl H (Cr14 d n) n 111 Try.f111 [.t (.nm 1)] (C14 n))
noncomputable def C15 (n : Nat) : Call2 E := Cr14 (n + 1) n

/- clapperbridge/value.Deep -/
noncomputable def value_Deep (d : Nat) (n : Nat) (x0 : ApiValue) : Option Int := F2 (E := E) tt gl H (Cr14 d n) n 111 Try.f111 [.t (.nm 1)] (x0, ())
noncomputable def value_Deep_l0 (d : Nat) (n : Nat) (m0 : Nat) (v3 : Int) (v7 : List ApiField) (v8 : Int) (v9 : Int) : Option Int := lp (E := E) (ps := [.t (.nm 1)]) tt gl H (Cr14 d n) n 111 Try.f111 [1, 1, 0, 1, 0] [] m0 ⟨mkT 21 0 [(3, .t (.int .i64) v3), (7, .t (.sl (.nm 2)) v7), (8, .t (.int .i64) v8), (9, .t (.int .i64) v9)], mkB 84 0 []⟩
theorem value_Deep_l0_eq (d : Nat) (n : Nat) (m0 : Nat) (v3 : Int) (v7 : List ApiField) (v8 : Int) (v9 : Int) : value_Deep_l0 (d + 1) n (m0 + 1) v3 v7 v8 v9 = (bif (decide (v9 < v8)) then (bif (decide (0 ≤ v9) && decide (v9 < List.length v7)) then (Option.bind (value_Deep d n ((List.getD v7 (Int.toNat v9) (ApiField.mk [] (ApiValue.mk 0 0 [] []))).Val)) fun r1 => (value_Deep_l0 (d + 1) n m0 (mxI v3 r1) v7 v8 (IntKind.wrap .i64 (v9 + 1)))) else none) else (some (IntKind.wrap .i64 (v3 + 1)))) := by kernel_rfl
theorem value_Deep_l0_zero (d : Nat) (n : Nat) (v3 : Int) (v7 : List ApiField) (v8 : Int) (v9 : Int) : value_Deep_l0 d n 0 v3 v7 v8 v9 = none := by kernel_rfl
theorem value_Deep_l0_fold (d : Nat) (n : Nat) (v7 : List ApiField) (v3 : Int) (hl : List.length v7 < 9223372036854775807) (m i : Nat) (hi : i ≤ List.length v7) (hm : List.length v7 - i < m) : value_Deep_l0 (d + 1) n m v3 v7 (List.length v7 : Int) (i : Int) = foldK (S := Int) (fun i (a : ApiField) s K => (Option.bind (value_Deep d n (a.Val)) fun r1 => (K (mxI s r1)))) (fun s => (some (IntKind.wrap .i64 (s + 1)))) (List.drop i v7) i (v3) := range_loop v7 (ApiField.mk [] (ApiValue.mk 0 0 [] [])) hl (fun m (k : Int) (s : Int) => value_Deep_l0 (d + 1) n m s v7 (List.length v7 : Int) k) _ _ (fun m i s => (value_Deep_l0_eq d n m s v7 (List.length v7 : Int) (i : Int)).trans (by kernel_rfl)) m i hi hm (v3)
theorem value_Deep_eq (d : Nat) (n : Nat) (x0 : ApiValue) : value_Deep (d + 1) n x0 = (value_Deep_l0 (d + 1) n n 0 x0.Fields (List.length x0.Fields : Int) 0) := by kernel_rfl

/- clapperbridge/value.Scalar -/
noncomputable def value_Scalar (n : Nat) (x0 : Int) : Option Bool := F2 (E := E) tt gl H (C15 n) n 174 Try.f174 [.t (.int .i64)] (x0, ())
theorem value_Scalar_eq (n : Nat) (x0 : Int) : value_Scalar n x0 = (bif (decide (x0 ≥ 0)) then (bif (decide (x0 ≤ 5)) then (some true) else (some (decide (x0 = 11)))) else (some (decide (x0 = 11)))) := by kernel_rfl
noncomputable def C16 (n : Nat) : Call2 E := more tt gl H (C15 n) n 174 Try.f174 [.t (.int .i64)] (C15 n)

/- clapperbridge/value.unused -/
noncomputable def value_unused (n : Nat) (x0 : ApiValue) : Option Bool := F2 (E := E) tt gl H (C16 n) n 147 Try.f147 [.t (.nm 1)] (x0, ())
theorem value_unused_eq (n : Nat) (x0 : ApiValue) : value_unused n x0 = (bif (decide (x0.Kind ≥ 1)) then (bif (decide (x0.Kind ≤ 4)) then (bif (!decide (x0.Kind = 5)) then (bif (!(x0.S == [])) then (some true) else (Option.bind (value_Scalar n x0.Kind) fun r1 => (bif r1 then (some (decide ((List.length x0.Fields : Int) > 0))) else (some false)))) else (Option.bind (value_Scalar n x0.Kind) fun r2 => (bif r2 then (some (decide ((List.length x0.Fields : Int) > 0))) else (some false)))) else (bif (!(decide (x0.Kind = 11))) then (bif (!decide (x0.N = 0)) then (some true) else (bif (!decide (x0.Kind = 5)) then (bif (!(x0.S == [])) then (some true) else (Option.bind (value_Scalar n x0.Kind) fun r3 => (bif r3 then (some (decide ((List.length x0.Fields : Int) > 0))) else (some false)))) else (Option.bind (value_Scalar n x0.Kind) fun r4 => (bif r4 then (some (decide ((List.length x0.Fields : Int) > 0))) else (some false))))) else (bif (!decide (x0.Kind = 5)) then (bif (!(x0.S == [])) then (some true) else (Option.bind (value_Scalar n x0.Kind) fun r5 => (bif r5 then (some (decide ((List.length x0.Fields : Int) > 0))) else (some false)))) else (Option.bind (value_Scalar n x0.Kind) fun r6 => (bif r6 then (some (decide ((List.length x0.Fields : Int) > 0))) else (some false)))))) else (bif (!(decide (x0.Kind = 11))) then (bif (!decide (x0.N = 0)) then (some true) else (bif (!decide (x0.Kind = 5)) then (bif (!(x0.S == [])) then (some true) else (Option.bind (value_Scalar n x0.Kind) fun r7 => (bif r7 then (some (decide ((List.length x0.Fields : Int) > 0))) else (some false)))) else (Option.bind (value_Scalar n x0.Kind) fun r8 => (bif r8 then (some (decide ((List.length x0.Fields : Int) > 0))) else (some false))))) else (bif (!decide (x0.Kind = 5)) then (bif (!(x0.S == [])) then (some true) else (Option.bind (value_Scalar n x0.Kind) fun r9 => (bif r9 then (some (decide ((List.length x0.Fields : Int) > 0))) else (some false)))) else (Option.bind (value_Scalar n x0.Kind) fun r10 => (bif r10 then (some (decide ((List.length x0.Fields : Int) > 0))) else (some false)))))) := by kernel_rfl
noncomputable def C17 (n : Nat) : Call2 E := more tt gl H (C16 n) n 147 Try.f147 [.t (.nm 1)] (C16 n)

/- clapperbridge/value.number -/
noncomputable def value_number (n : Nat) (x0 : ApiValue) : Option Bool := F2 (E := E) tt gl H (C17 n) n 148 Try.f148 [.t (.nm 1)] (x0, ())
theorem value_number_eq (n : Nat) (x0 : ApiValue) : value_number n x0 = (bif (decide (x0.Kind = 1)) then (bif (decide (x0.N = 0)) then (some true) else (some (decide (x0.N = 1)))) else (bif (decide (x0.Kind = 2)) then (bif (decide (x0.N ≥ (-9007199254740992))) then (some (decide (x0.N ≤ 9007199254740992))) else (some false)) else (bif (decide (x0.Kind = 4)) then (bif (decide (x0.N ≥ 0)) then (some (decide (x0.N ≤ 4194304))) else (some false)) else (bif (decide (x0.Kind = 11)) then (bif (decide (x0.N ≥ 0)) then (some (decide (x0.N ≤ 9007199254740992))) else (some false)) else (some true))))) := by kernel_rfl
noncomputable def C18 (n : Nat) : Call2 E := more tt gl H (C17 n) n 148 Try.f148 [.t (.nm 1)] (C17 n)

/- clapperbridge/value.names$1 -/
noncomputable def value_names_1 (n : Nat) (x0 : ApiField) (x1 : ApiField) : Option Bool := F2 (E := E) tt gl H (C18 n) n 187 Try.f187 [.t (.nm 2), .imm (.nm 2)] (x0, x1, ())
theorem value_names_1_eq (n : Nat) (x0 : ApiField) (x1 : ApiField) : value_names_1 n x0 x1 = (some (x0.Name == x1.Name)) := by kernel_rfl
noncomputable def C19 (n : Nat) : Call2 E := more tt gl H (C18 n) n 187 Try.f187 [.t (.nm 2), .imm (.nm 2)] (C18 n)

/- slices.IndexFunc[[]clapperbridge/api.Field,clapperbridge/api.Field] -/
noncomputable def slices_IndexFunc_190 (n : Nat) (x0 : List ApiField) (x1 : (ApiField × Unit)) : Option Int := F2 (E := E) tt gl H (C19 n) n 190 Try.f190 [.t (.sl (.nm 2)), .fn 187 [(.nm 2)]] (x0, x1, ())
noncomputable def slices_IndexFunc_190_l0 (n : Nat) (m0 : Nat) (v0 : List ApiField) (v1c0 : ApiField) (v7 : Int) (v8 : Int) : Option Int := lp (E := E) (ps := [.t (.sl (.nm 2)), .fn 187 [(.nm 2)]]) tt gl H (C19 n) n 190 Try.f190 [1, 0, 1, 0] [] m0 ⟨mkT 19 0 [(0, .t (.sl (.nm 2)) v0), (1, .func 187 [⟨(.nm 2), v1c0⟩]), (7, .t (.int .i64) v7), (8, .t (.int .i64) v8)], mkB 76 0 []⟩
theorem slices_IndexFunc_190_l0_eq (n : Nat) (m0 : Nat) (v0 : List ApiField) (v1c0 : ApiField) (v7 : Int) (v8 : Int) : slices_IndexFunc_190_l0 n (m0 + 1) v0 v1c0 v7 v8 = (bif (decide (v8 < v7)) then (bif (decide (0 ≤ v8) && decide (v8 < List.length v0)) then (Option.bind (value_names_1 n (List.getD v0 (Int.toNat v8) (ApiField.mk [] (ApiValue.mk 0 0 [] []))) v1c0) fun r1 => (bif r1 then (some v8) else (slices_IndexFunc_190_l0 n m0 v0 v1c0 v7 (IntKind.wrap .i64 (v8 + 1))))) else none) else (some (-1))) := by kernel_rfl
theorem slices_IndexFunc_190_l0_zero (n : Nat) (v0 : List ApiField) (v1c0 : ApiField) (v7 : Int) (v8 : Int) : slices_IndexFunc_190_l0 n 0 v0 v1c0 v7 v8 = none := by kernel_rfl
theorem slices_IndexFunc_190_l0_fold (n : Nat) (v0 : List ApiField) (v1c0 : ApiField) (hl : List.length v0 < 9223372036854775807) (m i : Nat) (hi : i ≤ List.length v0) (hm : List.length v0 - i < m) : slices_IndexFunc_190_l0 n m v0 v1c0 (List.length v0 : Int) (i : Int) = foldK (S := Unit) (fun i (a : ApiField) s K => (Option.bind (value_names_1 n a v1c0) fun r1 => (bif r1 then (some (i : Int)) else (K ())))) (fun s => (some (-1))) (List.drop i v0) i () := range_loop v0 (ApiField.mk [] (ApiValue.mk 0 0 [] [])) hl (fun m (k : Int) (s : Unit) => slices_IndexFunc_190_l0 n m v0 v1c0 (List.length v0 : Int) k) _ _ (fun m i s => (slices_IndexFunc_190_l0_eq n m v0 v1c0 (List.length v0 : Int) (i : Int)).trans (by kernel_rfl)) m i hi hm ()
theorem slices_IndexFunc_190_eq (n : Nat) (x0 : List ApiField) (x1 : (ApiField × Unit)) : slices_IndexFunc_190 n x0 x1 = (slices_IndexFunc_190_l0 n n x0 x1.1 (List.length x0 : Int) 0) := by kernel_rfl
noncomputable def C20 (n : Nat) : Call2 E := more tt gl H (C19 n) n 190 Try.f190 [.t (.sl (.nm 2)), .fn 187 [(.nm 2)]] (C19 n)

/- slices.ContainsFunc[[]clapperbridge/api.Field,clapperbridge/api.Field] -/
noncomputable def slices_ContainsFunc_186 (n : Nat) (x0 : List ApiField) (x1 : (ApiField × Unit)) : Option Bool := F2 (E := E) tt gl H (C20 n) n 186 Try.f186 [.t (.sl (.nm 2)), .fn 187 [(.nm 2)]] (x0, x1, ())
theorem slices_ContainsFunc_186_eq (n : Nat) (x0 : List ApiField) (x1 : (ApiField × Unit)) : slices_ContainsFunc_186 n x0 x1 = (Option.bind (slices_IndexFunc_190 n x0 (x1.1, ())) fun r1 => (some (decide (r1 ≥ 0)))) := by kernel_rfl
noncomputable def C21 (n : Nat) : Call2 E := more tt gl H (C20 n) n 186 Try.f186 [.t (.sl (.nm 2)), .fn 187 [(.nm 2)]] (C20 n)

/- clapperbridge/value.names -/
noncomputable def value_names (n : Nat) (x0 : List ApiField) : Option Int := F2 (E := E) tt gl H (C21 n) n 175 Try.f175 [.t (.sl (.nm 2))] (x0, ())
noncomputable def value_names_l0 (n : Nat) (m0 : Nat) (v0 : List ApiField) (v5 : List ApiField) (v6 : Int) (v7 : Int) : Option Int := lp (E := E) (ps := [.t (.sl (.nm 2))]) tt gl H (C21 n) n 175 Try.f175 [1, 0, 1, 0] [] m0 ⟨mkT 22 0 [(0, .t (.sl (.nm 2)) v0), (5, .t (.sl (.nm 2)) v5), (6, .t (.int .i64) v6), (7, .t (.int .i64) v7)], mkB 88 0 []⟩
theorem value_names_l0_eq (n : Nat) (m0 : Nat) (v0 : List ApiField) (v5 : List ApiField) (v6 : Int) (v7 : Int) : value_names_l0 n (m0 + 1) v0 v5 v6 v7 = (bif (decide (v7 < v6)) then (bif (decide (0 ≤ v7) && decide (v7 < List.length v5)) then (Option.bind (value_Name n ((List.getD v5 (Int.toNat v7) (ApiField.mk [] (ApiValue.mk 0 0 [] []))).Name)) fun r1 => (bif (!r1) then (some 15) else (bif (decide (0 ≤ v7) && decide (v7 ≤ (List.length v0))) then (Option.bind (slices_ContainsFunc_186 n (List.take (Int.toNat v7) v0) ((List.getD v5 (Int.toNat v7) (ApiField.mk [] (ApiValue.mk 0 0 [] []))), ())) fun r2 => (bif r2 then (some 5) else (value_names_l0 n m0 v0 v5 v6 (IntKind.wrap .i64 (v7 + 1))))) else none))) else none) else (some 0)) := by kernel_rfl
theorem value_names_l0_zero (n : Nat) (v0 : List ApiField) (v5 : List ApiField) (v6 : Int) (v7 : Int) : value_names_l0 n 0 v0 v5 v6 v7 = none := by kernel_rfl
theorem value_names_l0_fold (n : Nat) (v0 : List ApiField) (v5 : List ApiField) (hl : List.length v5 < 9223372036854775807) (m i : Nat) (hi : i ≤ List.length v5) (hm : List.length v5 - i < m) : value_names_l0 n m v0 v5 (List.length v5 : Int) (i : Int) = foldK (S := Unit) (fun i (a : ApiField) s K => (Option.bind (value_Name n (a.Name)) fun r1 => (bif (!r1) then (some 15) else (bif (decide (0 ≤ (i : Int)) && decide ((i : Int) ≤ (List.length v0))) then (Option.bind (slices_ContainsFunc_186 n (List.take (Int.toNat (i : Int)) v0) (a, ())) fun r2 => (bif r2 then (some 5) else (K ()))) else none)))) (fun s => (some 0)) (List.drop i v5) i () := range_loop v5 (ApiField.mk [] (ApiValue.mk 0 0 [] [])) hl (fun m (k : Int) (s : Unit) => value_names_l0 n m v0 v5 (List.length v5 : Int) k) _ _ (fun m i s => (value_names_l0_eq n m v0 v5 (List.length v5 : Int) (i : Int)).trans (by kernel_rfl)) m i hi hm ()
theorem value_names_eq (n : Nat) (x0 : List ApiField) : value_names n x0 = (value_names_l0 n n x0 x0 (List.length x0 : Int) 0) := by kernel_rfl
noncomputable def C22 (n : Nat) : Call2 E := more tt gl H (C21 n) n 175 Try.f175 [.t (.sl (.nm 2))] (C21 n)

/- clapperbridge/value.keys -/
noncomputable def value_keys (n : Nat) (x0 : ApiValue) : Option Int := F2 (E := E) tt gl H (C22 n) n 176 Try.f176 [.t (.nm 1)] (x0, ())
noncomputable def value_keys_l0 (n : Nat) (m0 : Nat) (v6 : List ApiField) (v7 : Int) (v8 : Int) (w1 : ApiValue) : Option Int := lp (E := E) (ps := [.t (.nm 1)]) tt gl H (C22 n) n 176 Try.f176 [1, 0, 1, 0] [] m0 ⟨mkT 47 0 [(1, .ptr 1 (.nm 1) []), (6, .t (.sl (.nm 2)) v6), (7, .t (.int .i64) v7), (8, .t (.int .i64) v8)], mkB 188 0 [(1, .var (.nm 1) (.t (.nm 1) w1))]⟩
theorem value_keys_l0_eq (n : Nat) (m0 : Nat) (v6 : List ApiField) (v7 : Int) (v8 : Int) (w1 : ApiValue) : value_keys_l0 n (m0 + 1) v6 v7 v8 w1 = (bif (decide (v8 < v7)) then (bif (decide (0 ≤ v8) && decide (v8 < List.length v6)) then (bif (decide (w1.Kind = 8)) then (bif (!(((List.getD v6 (Int.toNat v8) (ApiField.mk [] (ApiValue.mk 0 0 [] []))).Name) == [])) then (some 3) else (bif (decide (w1.Kind = 8)) then (value_keys_l0 n m0 v6 v7 (IntKind.wrap .i64 (v8 + 1)) w1) else (bif (decide ((List.length ((List.getD v6 (Int.toNat v8) (ApiField.mk [] (ApiValue.mk 0 0 [] []))).Name) : Int) > 4000)) then (some 2) else (bif (decide (v8 > 0)) then (bif (decide (0 ≤ (IntKind.wrap .i64 (v8 - 1))) && decide ((IntKind.wrap .i64 (v8 - 1)) < List.length w1.Fields)) then (bif (bytesLess ((List.getD v6 (Int.toNat v8) (ApiField.mk [] (ApiValue.mk 0 0 [] []))).Name) ((List.getD w1.Fields (Int.toNat (IntKind.wrap .i64 (v8 - 1))) (ApiField.mk [] (ApiValue.mk 0 0 [] []))).Name) || (((List.getD v6 (Int.toNat v8) (ApiField.mk [] (ApiValue.mk 0 0 [] []))).Name) == ((List.getD w1.Fields (Int.toNat (IntKind.wrap .i64 (v8 - 1))) (ApiField.mk [] (ApiValue.mk 0 0 [] []))).Name))) then (some 9) else (value_keys_l0 n m0 v6 v7 (IntKind.wrap .i64 (v8 + 1)) w1)) else none) else (value_keys_l0 n m0 v6 v7 (IntKind.wrap .i64 (v8 + 1)) w1))))) else (bif (decide (w1.Kind = 8)) then (value_keys_l0 n m0 v6 v7 (IntKind.wrap .i64 (v8 + 1)) w1) else (bif (decide ((List.length ((List.getD v6 (Int.toNat v8) (ApiField.mk [] (ApiValue.mk 0 0 [] []))).Name) : Int) > 4000)) then (some 2) else (bif (decide (v8 > 0)) then (bif (decide (0 ≤ (IntKind.wrap .i64 (v8 - 1))) && decide ((IntKind.wrap .i64 (v8 - 1)) < List.length w1.Fields)) then (bif (bytesLess ((List.getD v6 (Int.toNat v8) (ApiField.mk [] (ApiValue.mk 0 0 [] []))).Name) ((List.getD w1.Fields (Int.toNat (IntKind.wrap .i64 (v8 - 1))) (ApiField.mk [] (ApiValue.mk 0 0 [] []))).Name) || (((List.getD v6 (Int.toNat v8) (ApiField.mk [] (ApiValue.mk 0 0 [] []))).Name) == ((List.getD w1.Fields (Int.toNat (IntKind.wrap .i64 (v8 - 1))) (ApiField.mk [] (ApiValue.mk 0 0 [] []))).Name))) then (some 9) else (value_keys_l0 n m0 v6 v7 (IntKind.wrap .i64 (v8 + 1)) w1)) else none) else (value_keys_l0 n m0 v6 v7 (IntKind.wrap .i64 (v8 + 1)) w1))))) else none) else (some 0)) := by kernel_rfl
theorem value_keys_l0_zero (n : Nat) (v6 : List ApiField) (v7 : Int) (v8 : Int) (w1 : ApiValue) : value_keys_l0 n 0 v6 v7 v8 w1 = none := by kernel_rfl
theorem value_keys_l0_fold (n : Nat) (v6 : List ApiField) (w1 : ApiValue) (hl : List.length v6 < 9223372036854775807) (m i : Nat) (hi : i ≤ List.length v6) (hm : List.length v6 - i < m) : value_keys_l0 n m v6 (List.length v6 : Int) (i : Int) w1 = foldK (S := Unit) (fun i (a : ApiField) s K => (bif (decide (w1.Kind = 8)) then (bif (!((a.Name) == [])) then (some 3) else (bif (decide (w1.Kind = 8)) then (K ()) else (bif (decide ((List.length (a.Name) : Int) > 4000)) then (some 2) else (bif (decide ((i : Int) > 0)) then (bif (decide (0 ≤ (IntKind.wrap .i64 ((i : Int) - 1))) && decide ((IntKind.wrap .i64 ((i : Int) - 1)) < List.length w1.Fields)) then (bif (bytesLess (a.Name) ((List.getD w1.Fields (Int.toNat (IntKind.wrap .i64 ((i : Int) - 1))) (ApiField.mk [] (ApiValue.mk 0 0 [] []))).Name) || ((a.Name) == ((List.getD w1.Fields (Int.toNat (IntKind.wrap .i64 ((i : Int) - 1))) (ApiField.mk [] (ApiValue.mk 0 0 [] []))).Name))) then (some 9) else (K ())) else none) else (K ()))))) else (bif (decide (w1.Kind = 8)) then (K ()) else (bif (decide ((List.length (a.Name) : Int) > 4000)) then (some 2) else (bif (decide ((i : Int) > 0)) then (bif (decide (0 ≤ (IntKind.wrap .i64 ((i : Int) - 1))) && decide ((IntKind.wrap .i64 ((i : Int) - 1)) < List.length w1.Fields)) then (bif (bytesLess (a.Name) ((List.getD w1.Fields (Int.toNat (IntKind.wrap .i64 ((i : Int) - 1))) (ApiField.mk [] (ApiValue.mk 0 0 [] []))).Name) || ((a.Name) == ((List.getD w1.Fields (Int.toNat (IntKind.wrap .i64 ((i : Int) - 1))) (ApiField.mk [] (ApiValue.mk 0 0 [] []))).Name))) then (some 9) else (K ())) else none) else (K ())))))) (fun s => (some 0)) (List.drop i v6) i () := range_loop v6 (ApiField.mk [] (ApiValue.mk 0 0 [] [])) hl (fun m (k : Int) (s : Unit) => value_keys_l0 n m v6 (List.length v6 : Int) k w1) _ _ (fun m i s => (value_keys_l0_eq n m v6 (List.length v6 : Int) (i : Int) w1).trans (by kernel_rfl)) m i hi hm ()
theorem value_keys_eq (n : Nat) (x0 : ApiValue) : value_keys n x0 = (value_keys_l0 n n x0.Fields (List.length x0.Fields : Int) 0 x0) := by kernel_rfl
noncomputable def C23 (n : Nat) : Call2 E := more tt gl H (C22 n) n 176 Try.f176 [.t (.nm 1)] (C22 n)

/- clapperbridge/value.fields -/
noncomputable def value_fields (n : Nat) (x0 : ApiValue) : Option Int := F2 (E := E) tt gl H (C23 n) n 149 Try.f149 [.t (.nm 1)] (x0, ())
theorem value_fields_eq (n : Nat) (x0 : ApiValue) : value_fields n x0 = (bif (decide (x0.Kind = 5)) then (bif (decide ((List.length x0.S : Int) > 4000)) then (some 2) else (some 0)) else (bif (decide (x0.Kind = 6)) then (bif (decide ((List.length x0.Fields : Int) > 24)) then (some 2) else (Option.bind (value_names n x0.Fields) fun r1 => (some r1))) else (bif (decide (x0.Kind = 7)) then (bif (!decide ((List.length x0.Fields : Int) = 1)) then (some 3) else (Option.bind (value_names n x0.Fields) fun r2 => (some r2))) else (bif (decide (x0.Kind = 8)) then (bif (decide (x0.Kind = 8)) then (bif (decide ((List.length x0.Fields : Int) > 200)) then (some 2) else (Option.bind (value_keys n x0) fun r3 => (some r3))) else (some 0)) else (bif (decide (x0.Kind = 9)) then (bif (decide ((List.length x0.Fields : Int) > 200)) then (some 2) else (Option.bind (value_keys n x0) fun r4 => (some r4))) else (some 0)))))) := by kernel_rfl
noncomputable def C24 (n : Nat) : Call2 E := more tt gl H (C23 n) n 149 Try.f149 [.t (.nm 1)] (C23 n)
noncomputable def Cr24 : Nat → Nat → Call2 E
  | 0, n => C24 n
  | d + 1, n => (more tt gl H (Cr24 d n) n 112 Try.f112 [.t (.nm 1), .t .bool] (C24 n))
noncomputable def C25 (n : Nat) : Call2 E := Cr24 (n + 1) n

/- clapperbridge/value.node -/
noncomputable def value_node (d : Nat) (n : Nat) (x0 : ApiValue) (x1 : Bool) : Option Int := F2 (E := E) tt gl H (Cr24 d n) n 112 Try.f112 [.t (.nm 1), .t .bool] (x0, x1, ())
noncomputable def value_node_l1 (d : Nat) (n : Nat) (m0 : Nat) (v46 : List ApiField) (v47 : Int) (v48 : Int) : Option Int := lp (E := E) (ps := [.t (.nm 1), .t .bool]) tt gl H (Cr24 d n) n 112 Try.f112 [1, 1, 1, 0, 1, 0] [] m0 ⟨mkT 59 0 [(46, .t (.sl (.nm 2)) v46), (47, .t (.int .i64) v47), (48, .t (.int .i64) v48)], mkB 236 0 []⟩
theorem value_node_l1_eq (d : Nat) (n : Nat) (m0 : Nat) (v46 : List ApiField) (v47 : Int) (v48 : Int) : value_node_l1 (d + 1) n (m0 + 1) v46 v47 v48 = (bif (decide (v48 < v47)) then (bif (decide (0 ≤ v48) && decide (v48 < List.length v46)) then (Option.bind (value_node d n ((List.getD v46 (Int.toNat v48) (ApiField.mk [] (ApiValue.mk 0 0 [] []))).Val) false) fun r4 => (bif (!decide (r4 = 0)) then (some r4) else (value_node_l1 (d + 1) n m0 v46 v47 (IntKind.wrap .i64 (v48 + 1))))) else none) else (some 0)) := by kernel_rfl
theorem value_node_l1_zero (d : Nat) (n : Nat) (v46 : List ApiField) (v47 : Int) (v48 : Int) : value_node_l1 d n 0 v46 v47 v48 = none := by kernel_rfl
theorem value_node_l1_fold (d : Nat) (n : Nat) (v46 : List ApiField) (hl : List.length v46 < 9223372036854775807) (m i : Nat) (hi : i ≤ List.length v46) (hm : List.length v46 - i < m) : value_node_l1 (d + 1) n m v46 (List.length v46 : Int) (i : Int) = foldK (S := Unit) (fun i (a : ApiField) s K => (Option.bind (value_node d n (a.Val) false) fun r4 => (bif (!decide (r4 = 0)) then (some r4) else (K ())))) (fun s => (some 0)) (List.drop i v46) i () := range_loop v46 (ApiField.mk [] (ApiValue.mk 0 0 [] [])) hl (fun m (k : Int) (s : Unit) => value_node_l1 (d + 1) n m v46 (List.length v46 : Int) k) _ _ (fun m i s => (value_node_l1_eq d n m v46 (List.length v46 : Int) (i : Int)).trans (by kernel_rfl)) m i hi hm ()
theorem value_node_eq (d : Nat) (n : Nat) (x0 : ApiValue) (x1 : Bool) : value_node (d + 1) n x0 x1 = (bif (decide (x0.Kind < 0)) then (some 3) else (bif (decide (x0.Kind ≥ 12)) then (some 3) else (bif (decide (x0.Kind = 10)) then (some 3) else (bif (decide (x0.Kind = 11)) then (bif (!x1) then (some 3) else (Option.bind (value_unused n x0) fun r1 => (bif r1 then (some 3) else (Option.bind (value_number n x0) fun r2 => (bif (!r2) then (some 11) else (Option.bind (value_fields n x0) fun r3 => (bif (!decide (r3 = 0)) then (some r3) else (value_node_l1 (d + 1) n n x0.Fields (List.length x0.Fields : Int) 0)))))))) else (Option.bind (value_unused n x0) fun r5 => (bif r5 then (some 3) else (Option.bind (value_number n x0) fun r6 => (bif (!r6) then (some 11) else (Option.bind (value_fields n x0) fun r7 => (bif (!decide (r7 = 0)) then (some r7) else (value_node_l1 (d + 1) n n x0.Fields (List.length x0.Fields : Int) 0))))))))))) := by kernel_rfl

/- clapperbridge/value.Check -/
noncomputable def value_Check (n : Nat) (x0 : ApiValue) : Option Int := F2 (E := E) tt gl H (C25 n) n 56 Try.f56 [.t (.nm 1)] (x0, ())
theorem value_Check_eq (n : Nat) (x0 : ApiValue) : value_Check n x0 = (Option.bind (value_Size n n x0) fun r1 => (bif (decide (r1 > 2000)) then (some 2) else (Option.bind (value_Deep n n x0) fun r2 => (bif (decide (r2 > 40)) then (some 2) else (Option.bind (value_node n n x0 true) fun r3 => (some r3)))))) := by kernel_rfl
noncomputable def C26 (n : Nat) : Call2 E := more tt gl H (C25 n) n 56 Try.f56 [.t (.nm 1)] (C25 n)

/- clapperbridge/rel.row -/
noncomputable def rel_row (n : Nat) (x0 : Rel) (x1 : List ApiValue) : Option Int := F2 (E := E) tt gl H (C26 n) n 80 Try.f80 [.t (.nm 3), .t (.sl (.nm 1))] (x0, x1, ())
noncomputable def rel_row_l0 (n : Nat) (m0 : Nat) (v14 : List ApiValue) (v15 : Int) (v16 : Int) (w2 : Rel) : Option Int := lp (E := E) (ps := [.t (.nm 3), .t (.sl (.nm 1))]) tt gl H (C26 n) n 80 Try.f80 [1, 1, 0, 1, 0] [] m0 ⟨mkT 41 0 [(2, .ptr 2 (.nm 3) []), (14, .t (.sl (.nm 1)) v14), (15, .t (.int .i64) v15), (16, .t (.int .i64) v16)], mkB 164 0 [(2, .var (.nm 3) (.t (.nm 3) w2))]⟩
theorem rel_row_l0_eq (n : Nat) (m0 : Nat) (v14 : List ApiValue) (v15 : Int) (v16 : Int) (w2 : Rel) : rel_row_l0 n (m0 + 1) v14 v15 v16 w2 = (bif (decide (v16 < v15)) then (bif (decide (0 ≤ v16) && decide (v16 < List.length v14)) then (Option.bind (value_Check n (List.getD v14 (Int.toNat v16) (ApiValue.mk 0 0 [] []))) fun r1 => (bif (!decide (r1 = 0)) then (some r1) else (bif (decide (0 ≤ v16) && decide (v16 < List.length w2.Cols)) then (bif (!decide (((List.getD v14 (Int.toNat v16) (ApiValue.mk 0 0 [] [])).Kind) = ((List.getD w2.Cols (Int.toNat v16) (Col.mk [] 0)).Kind))) then (bif (!decide (((List.getD v14 (Int.toNat v16) (ApiValue.mk 0 0 [] [])).Kind) = 11)) then (some 8) else (rel_row_l0 n m0 v14 v15 (IntKind.wrap .i64 (v16 + 1)) w2)) else (rel_row_l0 n m0 v14 v15 (IntKind.wrap .i64 (v16 + 1)) w2)) else none))) else none) else (some 0)) := by kernel_rfl
theorem rel_row_l0_zero (n : Nat) (v14 : List ApiValue) (v15 : Int) (v16 : Int) (w2 : Rel) : rel_row_l0 n 0 v14 v15 v16 w2 = none := by kernel_rfl
theorem rel_row_l0_fold (n : Nat) (v14 : List ApiValue) (w2 : Rel) (hl : List.length v14 < 9223372036854775807) (m i : Nat) (hi : i ≤ List.length v14) (hm : List.length v14 - i < m) : rel_row_l0 n m v14 (List.length v14 : Int) (i : Int) w2 = foldK (S := Unit) (fun i (a : ApiValue) s K => (Option.bind (value_Check n a) fun r1 => (bif (!decide (r1 = 0)) then (some r1) else (bif (decide (0 ≤ (i : Int)) && decide ((i : Int) < List.length w2.Cols)) then (bif (!decide ((a.Kind) = ((List.getD w2.Cols (Int.toNat (i : Int)) (Col.mk [] 0)).Kind))) then (bif (!decide ((a.Kind) = 11)) then (some 8) else (K ())) else (K ())) else none)))) (fun s => (some 0)) (List.drop i v14) i () := range_loop v14 (ApiValue.mk 0 0 [] []) hl (fun m (k : Int) (s : Unit) => rel_row_l0 n m v14 (List.length v14 : Int) k w2) _ _ (fun m i s => (rel_row_l0_eq n m v14 (List.length v14 : Int) (i : Int) w2).trans (by kernel_rfl)) m i hi hm ()
theorem rel_row_eq (n : Nat) (x0 : Rel) (x1 : List ApiValue) : rel_row n x0 x1 = (bif (!decide ((List.length x1 : Int) = (List.length x0.Cols : Int))) then (some 3) else (rel_row_l0 n n x1 (List.length x1 : Int) 0 x0)) := by kernel_rfl
noncomputable def C27 (n : Nat) : Call2 E := more tt gl H (C26 n) n 80 Try.f80 [.t (.nm 3), .t (.sl (.nm 1))] (C26 n)

/- clapperbridge/value.order -/
noncomputable def value_order (n : Nat) (x0 : Int) : Option Int := F2 (E := E) tt gl H (C27 n) n 117 Try.f117 [.t (.int .i64)] (x0, ())
theorem value_order_eq (n : Nat) (x0 : Int) : value_order n x0 = (bif (decide (x0 < 0)) then (some (IntKind.wrap .i64 ((-1 : Int) - (Fv.bits .and .i64 x0 9223372036854775807)))) else (some x0)) := by kernel_rfl
noncomputable def C28 (n : Nat) : Call2 E := more tt gl H (C27 n) n 117 Try.f117 [.t (.int .i64)] (C27 n)

/- cmp.isNaN[int] -/
noncomputable def cmp_isNaN (n : Nat) (x0 : Int) : Option Bool := F2 (E := E) tt gl H (C28 n) n 109 Try.f109 [.t (.int .i64)] (x0, ())
theorem cmp_isNaN_eq (n : Nat) (x0 : Int) : cmp_isNaN n x0 = (some (!decide (x0 = x0))) := by kernel_rfl
noncomputable def C29 (n : Nat) : Call2 E := more tt gl H (C28 n) n 109 Try.f109 [.t (.int .i64)] (C28 n)

/- cmp.Compare[int] -/
noncomputable def cmp_Compare (n : Nat) (x0 : Int) (x1 : Int) : Option Int := F2 (E := E) tt gl H (C29 n) n 54 Try.f54 [.t (.int .i64), .t (.int .i64)] (x0, x1, ())
theorem cmp_Compare_eq (n : Nat) (x0 : Int) (x1 : Int) : cmp_Compare n x0 x1 = (Option.bind (cmp_isNaN n x0) fun r1 => (Option.bind (cmp_isNaN n x1) fun r2 => (bif r1 then (bif r2 then (some 0) else (some (-1))) else (bif r2 then (some 1) else (bif (decide (x0 < x1)) then (some (-1)) else (bif (decide (x0 > x1)) then (some 1) else (some 0))))))) := by kernel_rfl
noncomputable def C30 (n : Nat) : Call2 E := more tt gl H (C29 n) n 54 Try.f54 [.t (.int .i64), .t (.int .i64)] (C29 n)
def fun119_ren : Go.Shelf.Ren := ⟨fun | 106 => 119 | 213 => 152 | 265 => 177 | n => n, fun | 9 => 9 | 3 => 3 | n => n, fun | n => n⟩
theorem fun119 : Go.Proofs.Lays.n106 Try.prog fun119_ren := {
  mixed := by kernel_rfl
  f106 := Try.func119.trans (congrArg some (by kernel_rfl))
  f213 := Try.func152.trans (congrArg some (by kernel_rfl))
  f265 := Try.func177.trans (congrArg some (by kernel_rfl))
  t3 := Try.underlying3
  a3 := Try.isAgg3
  z3 := Try.sizeOf3
  v3 := Try.zeroValue3
  t9 := Try.underlying9
  a9 := Try.isAgg9
  z9 := Try.sizeOf9
  v9 := Try.zeroValue9 }
theorem fnok119 : FnOK Try.prog 119 := ⟨Try.f119, _, Try.func119, by decide, rfl⟩
theorem func119 : SSI Try.prog 119 Go.Lib.compareBytes := fun a b w => Go.Proofs.Any.strings_Compare fun119 a b w
noncomputable def C31 (n : Nat) : Call2 E := moreF 119 Go.Lib.compareBytes (C30 n)

/- cmp.Or[int] -/
noncomputable def cmp_Or (n : Nat) (x0 : List Int) : Option Int := F2 (E := E) tt gl H (C31 n) n 118 Try.f118 [.t (.sl (.int .i64))] (x0, ())
noncomputable def cmp_Or_l0 (n : Nat) (m0 : Nat) (v3 : Int) (v6 : List Int) (v7 : Int) (v8 : Int) : Option Int := lp (E := E) (ps := [.t (.sl (.int .i64))]) tt gl H (C31 n) n 118 Try.f118 [1, 1, 0, 1, 0] [] m0 ⟨mkT 18 0 [(3, .t (.int .i64) v3), (6, .t (.sl (.int .i64)) v6), (7, .t (.int .i64) v7), (8, .t (.int .i64) v8)], mkB 72 0 []⟩
theorem cmp_Or_l0_eq (n : Nat) (m0 : Nat) (v3 : Int) (v6 : List Int) (v7 : Int) (v8 : Int) : cmp_Or_l0 n (m0 + 1) v3 v6 v7 v8 = (bif (decide (v8 < v7)) then (bif (decide (0 ≤ v8) && decide (v8 < List.length v6)) then (bif (!decide ((List.getD v6 (Int.toNat v8) (0 : Int)) = v3)) then (some (List.getD v6 (Int.toNat v8) (0 : Int))) else (cmp_Or_l0 n m0 v3 v6 v7 (IntKind.wrap .i64 (v8 + 1)))) else none) else (some v3)) := by kernel_rfl
theorem cmp_Or_l0_zero (n : Nat) (v3 : Int) (v6 : List Int) (v7 : Int) (v8 : Int) : cmp_Or_l0 n 0 v3 v6 v7 v8 = none := by kernel_rfl
theorem cmp_Or_l0_fold (n : Nat) (v3 : Int) (v6 : List Int) (hl : List.length v6 < 9223372036854775807) (m i : Nat) (hi : i ≤ List.length v6) (hm : List.length v6 - i < m) : cmp_Or_l0 n m v3 v6 (List.length v6 : Int) (i : Int) = foldK (S := Unit) (fun i (a : Int) s K => (bif (!decide (a = v3)) then (some a) else (K ()))) (fun s => (some v3)) (List.drop i v6) i () := range_loop v6 (0 : Int) hl (fun m (k : Int) (s : Unit) => cmp_Or_l0 n m v3 v6 (List.length v6 : Int) k) _ _ (fun m i s => (cmp_Or_l0_eq n m v3 v6 (List.length v6 : Int) (i : Int)).trans (by kernel_rfl)) m i hi hm ()
theorem cmp_Or_eq (n : Nat) (x0 : List Int) : cmp_Or n x0 = (cmp_Or_l0 n n 0 x0 (List.length x0 : Int) 0) := by kernel_rfl
noncomputable def C32 (n : Nat) : Call2 E := more tt gl H (C31 n) n 118 Try.f118 [.t (.sl (.int .i64))] (C31 n)
noncomputable def Cr32 : Nat → Nat → Call2 E
  | 0, n => C32 n
  | d + 1, n => (more tt gl H (Cr32 d n) n 121 Try.f121 [.t (.nm 2), .t (.nm 2)] (more tt gl H (Cr32 d n) n 120 Try.f120 [.t (.sl (.nm 2)), .t (.sl (.nm 2)), .fn 121 []] (more tt gl H (Cr32 d n) n 63 Try.f63 [.t (.nm 1), .t (.nm 1)] (C32 n))))
noncomputable def C33 (n : Nat) : Call2 E := Cr32 (n + 1) n

/- clapperbridge/value.Cmp -/
noncomputable def value_Cmp (d : Nat) (n : Nat) (x0 : ApiValue) (x1 : ApiValue) : Option Int := F2 (E := E) tt gl H (Cr32 d n) n 63 Try.f63 [.t (.nm 1), .t (.nm 1)] (x0, x1, ())

/- slices.CompareFunc[[]clapperbridge/api.Field,[]clapperbridge/api.Field,clapperbridge/api.Field,clapperbridge/api.Field] -/
noncomputable def slices_CompareFunc (d : Nat) (n : Nat) (x0 : List ApiField) (x1 : List ApiField) (x2 : (Unit)) : Option Int := F2 (E := E) tt gl H (Cr32 d n) n 120 Try.f120 [.t (.sl (.nm 2)), .t (.sl (.nm 2)), .fn 121 []] (x0, x1, x2, ())
noncomputable def slices_CompareFunc_l0 (d : Nat) (n : Nat) (m0 : Nat) (v0 : List ApiField) (v1 : List ApiField) (v11 : List ApiField) (v12 : Int) (v13 : Int) : Option Int := lp (E := E) (ps := [.t (.sl (.nm 2)), .t (.sl (.nm 2)), .fn 121 []]) tt gl H (Cr32 d n) n 120 Try.f120 [1, 0, 1, 0] [] m0 ⟨mkT 39 0 [(0, .t (.sl (.nm 2)) v0), (1, .t (.sl (.nm 2)) v1), (2, .func 121 []), (11, .t (.sl (.nm 2)) v11), (12, .t (.int .i64) v12), (13, .t (.int .i64) v13)], mkB 156 0 []⟩

/- clapperbridge/value.Cmp$1 -/
noncomputable def value_Cmp_1 (d : Nat) (n : Nat) (x0 : ApiField) (x1 : ApiField) : Option Int := F2 (E := E) tt gl H (Cr32 d n) n 121 Try.f121 [.t (.nm 2), .t (.nm 2)] (x0, x1, ())
theorem value_Cmp_eq (d : Nat) (n : Nat) (x0 : ApiValue) (x1 : ApiValue) : value_Cmp (d + 1) n x0 x1 = (bif (decide (x0.Kind = 3)) then (Option.bind (value_order n x0.N) fun r1 => (Option.bind (value_order n x1.N) fun r2 => (Option.bind (cmp_Compare n x0.Kind x1.Kind) fun r3 => (Option.bind (cmp_Compare n r1 r2) fun r4 => (Option.bind (cmp_Or n [r3, r4, (Go.Lib.compareBytes x0.S x1.S)]) fun r5 => (bif (!decide (r5 = 0)) then (some r5) else (Option.bind (slices_CompareFunc d n x0.Fields x1.Fields (())) fun r6 => (some r6)))))))) else (Option.bind (cmp_Compare n x0.Kind x1.Kind) fun r7 => (Option.bind (cmp_Compare n x0.N x1.N) fun r8 => (Option.bind (cmp_Or n [r7, r8, (Go.Lib.compareBytes x0.S x1.S)]) fun r9 => (bif (!decide (r9 = 0)) then (some r9) else (Option.bind (slices_CompareFunc d n x0.Fields x1.Fields (())) fun r10 => (some r10))))))) := by kernel_rfl
theorem slices_CompareFunc_l0_eq (d : Nat) (n : Nat) (m0 : Nat) (v0 : List ApiField) (v1 : List ApiField) (v11 : List ApiField) (v12 : Int) (v13 : Int) : slices_CompareFunc_l0 (d + 1) n (m0 + 1) v0 v1 v11 v12 v13 = (bif (decide (v13 < v12)) then (bif (decide (0 ≤ v13) && decide (v13 < List.length v11)) then (bif (decide (v13 ≥ (List.length v1 : Int))) then (some 1) else (bif (decide (0 ≤ v13) && decide (v13 < List.length v1)) then (Option.bind (value_Cmp_1 d n (List.getD v11 (Int.toNat v13) (ApiField.mk [] (ApiValue.mk 0 0 [] []))) (List.getD v1 (Int.toNat v13) (ApiField.mk [] (ApiValue.mk 0 0 [] [])))) fun r1 => (bif (!decide (r1 = 0)) then (some r1) else (slices_CompareFunc_l0 (d + 1) n m0 v0 v1 v11 v12 (IntKind.wrap .i64 (v13 + 1))))) else none)) else none) else (bif (decide ((List.length v0 : Int) < (List.length v1 : Int))) then (some (-1)) else (some 0))) := by kernel_rfl
theorem slices_CompareFunc_l0_zero (d : Nat) (n : Nat) (v0 : List ApiField) (v1 : List ApiField) (v11 : List ApiField) (v12 : Int) (v13 : Int) : slices_CompareFunc_l0 d n 0 v0 v1 v11 v12 v13 = none := by kernel_rfl
theorem slices_CompareFunc_l0_fold (d : Nat) (n : Nat) (v0 : List ApiField) (v1 : List ApiField) (v11 : List ApiField) (hl : List.length v11 < 9223372036854775807) (m i : Nat) (hi : i ≤ List.length v11) (hm : List.length v11 - i < m) : slices_CompareFunc_l0 (d + 1) n m v0 v1 v11 (List.length v11 : Int) (i : Int) = foldK (S := Unit) (fun i (a : ApiField) s K => (bif (decide ((i : Int) ≥ (List.length v1 : Int))) then (some 1) else (bif (decide (0 ≤ (i : Int)) && decide ((i : Int) < List.length v1)) then (Option.bind (value_Cmp_1 d n a (List.getD v1 (Int.toNat (i : Int)) (ApiField.mk [] (ApiValue.mk 0 0 [] [])))) fun r1 => (bif (!decide (r1 = 0)) then (some r1) else (K ()))) else none))) (fun s => (bif (decide ((List.length v0 : Int) < (List.length v1 : Int))) then (some (-1)) else (some 0))) (List.drop i v11) i () := range_loop v11 (ApiField.mk [] (ApiValue.mk 0 0 [] [])) hl (fun m (k : Int) (s : Unit) => slices_CompareFunc_l0 (d + 1) n m v0 v1 v11 (List.length v11 : Int) k) _ _ (fun m i s => (slices_CompareFunc_l0_eq d n m v0 v1 v11 (List.length v11 : Int) (i : Int)).trans (by kernel_rfl)) m i hi hm ()
theorem slices_CompareFunc_eq (d : Nat) (n : Nat) (x0 : List ApiField) (x1 : List ApiField) (x2 : (Unit)) : slices_CompareFunc (d + 1) n x0 x1 x2 = (slices_CompareFunc_l0 (d + 1) n n x0 x1 x0 (List.length x0 : Int) 0) := by kernel_rfl
theorem value_Cmp_1_eq (d : Nat) (n : Nat) (x0 : ApiField) (x1 : ApiField) : value_Cmp_1 (d + 1) n x0 x1 = (Option.bind (value_Cmp d n x0.Val x1.Val) fun r1 => (Option.bind (cmp_Or n [(Go.Lib.compareBytes x0.Name x1.Name), r1]) fun r2 => (some r2))) := by kernel_rfl

/- clapperbridge/rel.Cmp -/
noncomputable def rel_Cmp (n : Nat) (x0 : List ApiValue) (x1 : List ApiValue) : Option Int := F2 (E := E) tt gl H (C33 n) n 26 Try.f26 [.t (.sl (.nm 1)), .t (.sl (.nm 1))] (x0, x1, ())
noncomputable def rel_Cmp_l0 (n : Nat) (m0 : Nat) (v0 : List ApiValue) (v1 : List ApiValue) (v11 : Int) (v12 : Int) : Option Int := lp (E := E) (ps := [.t (.sl (.nm 1)), .t (.sl (.nm 1))]) tt gl H (C33 n) n 26 Try.f26 [1, 0, 1, 0] [] m0 ⟨mkT 33 0 [(0, .t (.sl (.nm 1)) v0), (1, .t (.sl (.nm 1)) v1), (11, .t (.int .i64) v11), (12, .t (.int .i64) v12)], mkB 132 0 []⟩
theorem rel_Cmp_l0_eq (n : Nat) (m0 : Nat) (v0 : List ApiValue) (v1 : List ApiValue) (v11 : Int) (v12 : Int) : rel_Cmp_l0 n (m0 + 1) v0 v1 v11 v12 = (bif (decide (v12 < v11)) then (bif (decide (0 ≤ v12) && decide (v12 < List.length v0)) then (bif (decide (0 ≤ v12) && decide (v12 < List.length v1)) then (Option.bind (value_Cmp n n (List.getD v0 (Int.toNat v12) (ApiValue.mk 0 0 [] [])) (List.getD v1 (Int.toNat v12) (ApiValue.mk 0 0 [] []))) fun r1 => (bif (!decide (r1 = 0)) then (some r1) else (rel_Cmp_l0 n m0 v0 v1 v11 (IntKind.wrap .i64 (v12 + 1))))) else none) else none) else (Option.bind (cmp_Compare n (List.length v0 : Int) (List.length v1 : Int)) fun r2 => (some r2))) := by kernel_rfl
theorem rel_Cmp_l0_zero (n : Nat) (v0 : List ApiValue) (v1 : List ApiValue) (v11 : Int) (v12 : Int) : rel_Cmp_l0 n 0 v0 v1 v11 v12 = none := by kernel_rfl
theorem rel_Cmp_l0_fold (n : Nat) (v0 : List ApiValue) (v1 : List ApiValue) (hl : List.length v0 < 9223372036854775807) (m i : Nat) (hi : i ≤ List.length v0) (hm : List.length v0 - i < m) : rel_Cmp_l0 n m v0 v1 (List.length v0 : Int) (i : Int) = foldK (S := Unit) (fun i (a : ApiValue) s K => (bif (decide (0 ≤ (i : Int)) && decide ((i : Int) < List.length v1)) then (Option.bind (value_Cmp n n a (List.getD v1 (Int.toNat (i : Int)) (ApiValue.mk 0 0 [] []))) fun r1 => (bif (!decide (r1 = 0)) then (some r1) else (K ()))) else none)) (fun s => (Option.bind (cmp_Compare n (List.length v0 : Int) (List.length v1 : Int)) fun r2 => (some r2))) (List.drop i v0) i () := range_loop v0 (ApiValue.mk 0 0 [] []) hl (fun m (k : Int) (s : Unit) => rel_Cmp_l0 n m v0 v1 (List.length v0 : Int) k) _ _ (fun m i s => (rel_Cmp_l0_eq n m v0 v1 (List.length v0 : Int) (i : Int)).trans (by kernel_rfl)) m i hi hm ()
theorem rel_Cmp_eq (n : Nat) (x0 : List ApiValue) (x1 : List ApiValue) : rel_Cmp n x0 x1 = (rel_Cmp_l0 n n x0 x1 (mnI (List.length x0 : Int) (List.length x1 : Int)) 0) := by kernel_rfl
noncomputable def C34 (n : Nat) : Call2 E := more tt gl H (C33 n) n 26 Try.f26 [.t (.sl (.nm 1)), .t (.sl (.nm 1))] (C33 n)

/- clapperbridge/value.Same -/
noncomputable def value_Same (n : Nat) (x0 : ApiValue) (x1 : ApiValue) : Option Bool := F2 (E := E) tt gl H (C34 n) n 17 Try.f17 [.t (.nm 1), .t (.nm 1)] (x0, x1, ())
theorem value_Same_eq (n : Nat) (x0 : ApiValue) (x1 : ApiValue) : value_Same n x0 x1 = (Option.bind (value_Cmp n n x0 x1) fun r1 => (some (decide (r1 = 0)))) := by kernel_rfl
noncomputable def C35 (n : Nat) : Call2 E := more tt gl H (C34 n) n 17 Try.f17 [.t (.nm 1), .t (.nm 1)] (C34 n)

/- clapperbridge/rel.agree$1 -/
noncomputable def rel_agree_1 (n : Nat) (x0 : List UInt8) (x1 : Rel) (x2 : List ApiValue) (x3 : List ApiValue) : Option Bool := F2 (E := E) tt gl H (C35 n) n 131 Try.f131 [.t .str, .imm (.nm 3), .imm (.sl (.nm 1)), .imm (.sl (.nm 1))] (x0, x1, x2, x3, ())
theorem rel_agree_1_eq (n : Nat) (x0 : List UInt8) (x1 : Rel) (x2 : List ApiValue) (x3 : List ApiValue) : rel_agree_1 n x0 x1 x2 x3 = (Option.bind (rel_Col n x1 x0) fun r1 => (bif (decide (0 ≤ r1.1) && decide (r1.1 < List.length x2)) then (bif (decide (0 ≤ r1.1) && decide (r1.1 < List.length x3)) then (Option.bind (value_Same n (List.getD x2 (Int.toNat r1.1) (ApiValue.mk 0 0 [] [])) (List.getD x3 (Int.toNat r1.1) (ApiValue.mk 0 0 [] []))) fun r2 => (some (!r2))) else none) else none)) := by kernel_rfl
noncomputable def C36 (n : Nat) : Call2 E := more tt gl H (C35 n) n 131 Try.f131 [.t .str, .imm (.nm 3), .imm (.sl (.nm 1)), .imm (.sl (.nm 1))] (C35 n)

/- slices.IndexFunc[[]string,string] -/
noncomputable def slices_IndexFunc_157 (n : Nat) (x0 : List (List UInt8)) (x1 : (Rel × (List ApiValue) × (List ApiValue) × Unit)) : Option Int := F2 (E := E) tt gl H (C36 n) n 157 Try.f157 [.t (.sl .str), .fn 131 [(.nm 3), (.sl (.nm 1)), (.sl (.nm 1))]] (x0, x1, ())
noncomputable def slices_IndexFunc_157_l0 (n : Nat) (m0 : Nat) (v0 : List (List UInt8)) (v1c0 : Rel) (v1c1 : List ApiValue) (v1c2 : List ApiValue) (v7 : Int) (v8 : Int) : Option Int := lp (E := E) (ps := [.t (.sl .str), .fn 131 [(.nm 3), (.sl (.nm 1)), (.sl (.nm 1))]]) tt gl H (C36 n) n 157 Try.f157 [1, 0, 1, 0] [] m0 ⟨mkT 19 0 [(0, .t (.sl .str) v0), (1, .func 131 [⟨(.nm 3), v1c0⟩, ⟨(.sl (.nm 1)), v1c1⟩, ⟨(.sl (.nm 1)), v1c2⟩]), (7, .t (.int .i64) v7), (8, .t (.int .i64) v8)], mkB 76 0 []⟩
theorem slices_IndexFunc_157_l0_eq (n : Nat) (m0 : Nat) (v0 : List (List UInt8)) (v1c0 : Rel) (v1c1 : List ApiValue) (v1c2 : List ApiValue) (v7 : Int) (v8 : Int) : slices_IndexFunc_157_l0 n (m0 + 1) v0 v1c0 v1c1 v1c2 v7 v8 = (bif (decide (v8 < v7)) then (bif (decide (0 ≤ v8) && decide (v8 < List.length v0)) then (Option.bind (rel_agree_1 n (List.getD v0 (Int.toNat v8) []) v1c0 v1c1 v1c2) fun r1 => (bif r1 then (some v8) else (slices_IndexFunc_157_l0 n m0 v0 v1c0 v1c1 v1c2 v7 (IntKind.wrap .i64 (v8 + 1))))) else none) else (some (-1))) := by kernel_rfl
theorem slices_IndexFunc_157_l0_zero (n : Nat) (v0 : List (List UInt8)) (v1c0 : Rel) (v1c1 : List ApiValue) (v1c2 : List ApiValue) (v7 : Int) (v8 : Int) : slices_IndexFunc_157_l0 n 0 v0 v1c0 v1c1 v1c2 v7 v8 = none := by kernel_rfl
theorem slices_IndexFunc_157_l0_fold (n : Nat) (v0 : List (List UInt8)) (v1c0 : Rel) (v1c1 : List ApiValue) (v1c2 : List ApiValue) (hl : List.length v0 < 9223372036854775807) (m i : Nat) (hi : i ≤ List.length v0) (hm : List.length v0 - i < m) : slices_IndexFunc_157_l0 n m v0 v1c0 v1c1 v1c2 (List.length v0 : Int) (i : Int) = foldK (S := Unit) (fun i (a : (List UInt8)) s K => (Option.bind (rel_agree_1 n a v1c0 v1c1 v1c2) fun r1 => (bif r1 then (some (i : Int)) else (K ())))) (fun s => (some (-1))) (List.drop i v0) i () := range_loop v0 [] hl (fun m (k : Int) (s : Unit) => slices_IndexFunc_157_l0 n m v0 v1c0 v1c1 v1c2 (List.length v0 : Int) k) _ _ (fun m i s => (slices_IndexFunc_157_l0_eq n m v0 v1c0 v1c1 v1c2 (List.length v0 : Int) (i : Int)).trans (by kernel_rfl)) m i hi hm ()
theorem slices_IndexFunc_157_eq (n : Nat) (x0 : List (List UInt8)) (x1 : (Rel × (List ApiValue) × (List ApiValue) × Unit)) : slices_IndexFunc_157 n x0 x1 = (slices_IndexFunc_157_l0 n n x0 x1.1 x1.2.1 x1.2.2.1 (List.length x0 : Int) 0) := by kernel_rfl
noncomputable def C37 (n : Nat) : Call2 E := more tt gl H (C36 n) n 157 Try.f157 [.t (.sl .str), .fn 131 [(.nm 3), (.sl (.nm 1)), (.sl (.nm 1))]] (C36 n)

/- slices.ContainsFunc[[]string,string] -/
noncomputable def slices_ContainsFunc_130 (n : Nat) (x0 : List (List UInt8)) (x1 : (Rel × (List ApiValue) × (List ApiValue) × Unit)) : Option Bool := F2 (E := E) tt gl H (C37 n) n 130 Try.f130 [.t (.sl .str), .fn 131 [(.nm 3), (.sl (.nm 1)), (.sl (.nm 1))]] (x0, x1, ())
theorem slices_ContainsFunc_130_eq (n : Nat) (x0 : List (List UInt8)) (x1 : (Rel × (List ApiValue) × (List ApiValue) × Unit)) : slices_ContainsFunc_130 n x0 x1 = (Option.bind (slices_IndexFunc_157 n x0 (x1.1, x1.2.1, x1.2.2.1, ())) fun r1 => (some (decide (r1 ≥ 0)))) := by kernel_rfl
noncomputable def C38 (n : Nat) : Call2 E := more tt gl H (C37 n) n 130 Try.f130 [.t (.sl .str), .fn 131 [(.nm 3), (.sl (.nm 1)), (.sl (.nm 1))]] (C37 n)

/- clapperbridge/rel.agree -/
noncomputable def rel_agree (n : Nat) (x0 : Rel) (x1 : List ApiValue) (x2 : List ApiValue) : Option Bool := F2 (E := E) tt gl H (C38 n) n 81 Try.f81 [.t (.nm 3), .t (.sl (.nm 1)), .t (.sl (.nm 1))] (x0, x1, x2, ())
theorem rel_agree_eq (n : Nat) (x0 : Rel) (x1 : List ApiValue) (x2 : List ApiValue) : rel_agree n x0 x1 x2 = (Option.bind (slices_ContainsFunc_130 n x0.Key (x0, x1, x2, ())) fun r1 => (some (!r1))) := by kernel_rfl
noncomputable def C39 (n : Nat) : Call2 E := more tt gl H (C38 n) n 81 Try.f81 [.t (.nm 3), .t (.sl (.nm 1)), .t (.sl (.nm 1))] (C38 n)

/- clapperbridge/rel.Check -/
noncomputable def rel_Check (n : Nat) (x0 : Rel) : Option Int := F2 (E := E) tt gl H (C39 n) n 31 Try.f31 [.t (.nm 3)] (x0, ())
noncomputable def rel_Check_l0 (n : Nat) (m0 : Nat) (v21 : List (List ApiValue)) (v22 : Int) (v23 : Int) (w1 : Rel) : Option Int := lp (E := E) (ps := [.t (.nm 3)]) tt gl H (C39 n) n 31 Try.f31 [1, 1, 1, 0, 1, 0] [] m0 ⟨mkT 75 0 [(1, .ptr 1 (.nm 3) []), (21, .t (.sl (.sl (.nm 1))) v21), (22, .t (.int .i64) v22), (23, .t (.int .i64) v23)], mkB 300 0 [(1, .var (.nm 3) (.t (.nm 3) w1))]⟩
noncomputable def rel_Check_l2 (n : Nat) (m0 : Nat) (v53 : List (List ApiValue)) (v54 : Int) (v55 : Int) (w1 : Rel) : Option Int := lp (E := E) (ps := [.t (.nm 3)]) tt gl H (C39 n) n 31 Try.f31 [1, 1, 1, 1, 1, 0, 1, 0] [] m0 ⟨mkT 75 0 [(1, .ptr 1 (.nm 3) []), (53, .t (.sl (.sl (.nm 1))) v53), (54, .t (.int .i64) v54), (55, .t (.int .i64) v55)], mkB 300 0 [(1, .var (.nm 3) (.t (.nm 3) w1))]⟩
noncomputable def rel_Check_l4 (n : Nat) (m0 : Nat) (m1 : Nat) (v8 : List ApiValue) (v53 : List (List ApiValue)) (v54 : Int) (v55 : Int) (v63 : List (List ApiValue)) (v64 : Int) (v65 : Int) (w1 : Rel) : Option Int := lp (E := E) (ps := [.t (.nm 3)]) tt gl H (C39 n) n 31 Try.f31 [1, 1, 1, 1, 1, 0, 1, 0, 0, 1, 1, 0, 0, 1, 1, 0] [m0] m1 ⟨mkT 75 0 [(1, .ptr 1 (.nm 3) []), (8, .t (.sl (.nm 1)) v8), (53, .t (.sl (.sl (.nm 1))) v53), (54, .t (.int .i64) v54), (55, .t (.int .i64) v55), (63, .t (.sl (.sl (.nm 1))) v63), (64, .t (.int .i64) v64), (65, .t (.int .i64) v65)], mkB 300 0 [(1, .var (.nm 3) (.t (.nm 3) w1))]⟩
theorem rel_Check_l4_eq (n : Nat) (m0 : Nat) (m1 : Nat) (v8 : List ApiValue) (v53 : List (List ApiValue)) (v54 : Int) (v55 : Int) (v63 : List (List ApiValue)) (v64 : Int) (v65 : Int) (w1 : Rel) : rel_Check_l4 n m0 (m1 + 1) v8 v53 v54 v55 v63 v64 v65 w1 = (bif (decide (v65 < v64)) then (bif (decide (0 ≤ v65) && decide (v65 < List.length v63)) then (Option.bind (rel_agree n w1 v8 (List.getD v63 (Int.toNat v65) [])) fun r4 => (bif r4 then (some 16) else (rel_Check_l4 n m0 m1 v8 v53 v54 v55 v63 v64 (IntKind.wrap .i64 (v65 + 1)) w1))) else none) else (rel_Check_l2 n m0 v53 v54 (IntKind.wrap .i64 (v55 + 1)) w1)) := by kernel_rfl
theorem rel_Check_l4_zero (n : Nat) (m0 : Nat) (v8 : List ApiValue) (v53 : List (List ApiValue)) (v54 : Int) (v55 : Int) (v63 : List (List ApiValue)) (v64 : Int) (v65 : Int) (w1 : Rel) : rel_Check_l4 n m0 0 v8 v53 v54 v55 v63 v64 v65 w1 = none := by kernel_rfl
theorem rel_Check_l4_fold (n : Nat) (m0 : Nat) (v8 : List ApiValue) (v53 : List (List ApiValue)) (v54 : Int) (v55 : Int) (v63 : List (List ApiValue)) (w1 : Rel) (hl : List.length v63 < 9223372036854775807) (m i : Nat) (hi : i ≤ List.length v63) (hm : List.length v63 - i < m) : rel_Check_l4 n m0 m v8 v53 v54 v55 v63 (List.length v63 : Int) (i : Int) w1 = foldK (S := Unit) (fun i (a : (List ApiValue)) s K => (Option.bind (rel_agree n w1 v8 a) fun r4 => (bif r4 then (some 16) else (K ())))) (fun s => (rel_Check_l2 n m0 v53 v54 (IntKind.wrap .i64 (v55 + 1)) w1)) (List.drop i v63) i () := range_loop v63 [] hl (fun m (k : Int) (s : Unit) => rel_Check_l4 n m0 m v8 v53 v54 v55 v63 (List.length v63 : Int) k w1) _ _ (fun m i s => (rel_Check_l4_eq n m0 m v8 v53 v54 v55 v63 (List.length v63 : Int) (i : Int) w1).trans (by kernel_rfl)) m i hi hm ()
theorem rel_Check_l2_eq (n : Nat) (m0 : Nat) (v53 : List (List ApiValue)) (v54 : Int) (v55 : Int) (w1 : Rel) : rel_Check_l2 n (m0 + 1) v53 v54 v55 w1 = (bif (decide (v55 < v54)) then (bif (decide (0 ≤ v55) && decide (v55 < List.length v53)) then (bif (decide (0 ≤ v55) && decide (v55 ≤ (List.length w1.Rows))) then (rel_Check_l4 n m0 n (List.getD v53 (Int.toNat v55) []) v53 v54 v55 (List.take (Int.toNat v55) w1.Rows) (List.length (List.take (Int.toNat v55) w1.Rows) : Int) 0 w1) else none) else none) else (some 0)) := by kernel_rfl
theorem rel_Check_l2_zero (n : Nat) (v53 : List (List ApiValue)) (v54 : Int) (v55 : Int) (w1 : Rel) : rel_Check_l2 n 0 v53 v54 v55 w1 = none := by kernel_rfl
theorem rel_Check_l0_eq (n : Nat) (m0 : Nat) (v21 : List (List ApiValue)) (v22 : Int) (v23 : Int) (w1 : Rel) : rel_Check_l0 n (m0 + 1) v21 v22 v23 w1 = (bif (decide (v23 < v22)) then (bif (decide (0 ≤ v23) && decide (v23 < List.length v21)) then (Option.bind (rel_row n w1 (List.getD v21 (Int.toNat v23) [])) fun r2 => (bif (!decide (r2 = 0)) then (some r2) else (bif (decide (v23 > 0)) then (bif (decide (0 ≤ (IntKind.wrap .i64 (v23 - 1))) && decide ((IntKind.wrap .i64 (v23 - 1)) < List.length w1.Rows)) then (Option.bind (rel_Cmp n (List.getD w1.Rows (Int.toNat (IntKind.wrap .i64 (v23 - 1))) []) (List.getD v21 (Int.toNat v23) [])) fun r3 => (bif (decide (r3 ≥ 0)) then (some 9) else (rel_Check_l0 n m0 v21 v22 (IntKind.wrap .i64 (v23 + 1)) w1))) else none) else (rel_Check_l0 n m0 v21 v22 (IntKind.wrap .i64 (v23 + 1)) w1)))) else none) else (bif (decide ((List.length w1.Key : Int) = 0)) then (some 0) else (rel_Check_l2 n n w1.Rows (List.length w1.Rows : Int) 0 w1))) := by kernel_rfl
theorem rel_Check_l0_zero (n : Nat) (v21 : List (List ApiValue)) (v22 : Int) (v23 : Int) (w1 : Rel) : rel_Check_l0 n 0 v21 v22 v23 w1 = none := by kernel_rfl
theorem rel_Check_l0_fold (n : Nat) (v21 : List (List ApiValue)) (w1 : Rel) (hl : List.length v21 < 9223372036854775807) (m i : Nat) (hi : i ≤ List.length v21) (hm : List.length v21 - i < m) : rel_Check_l0 n m v21 (List.length v21 : Int) (i : Int) w1 = foldK (S := Unit) (fun i (a : (List ApiValue)) s K => (Option.bind (rel_row n w1 a) fun r2 => (bif (!decide (r2 = 0)) then (some r2) else (bif (decide ((i : Int) > 0)) then (bif (decide (0 ≤ (IntKind.wrap .i64 ((i : Int) - 1))) && decide ((IntKind.wrap .i64 ((i : Int) - 1)) < List.length w1.Rows)) then (Option.bind (rel_Cmp n (List.getD w1.Rows (Int.toNat (IntKind.wrap .i64 ((i : Int) - 1))) []) a) fun r3 => (bif (decide (r3 ≥ 0)) then (some 9) else (K ()))) else none) else (K ()))))) (fun s => (bif (decide ((List.length w1.Key : Int) = 0)) then (some 0) else (rel_Check_l2 n n w1.Rows (List.length w1.Rows : Int) 0 w1))) (List.drop i v21) i () := range_loop v21 [] hl (fun m (k : Int) (s : Unit) => rel_Check_l0 n m v21 (List.length v21 : Int) k w1) _ _ (fun m i s => (rel_Check_l0_eq n m v21 (List.length v21 : Int) (i : Int) w1).trans (by kernel_rfl)) m i hi hm ()
theorem rel_Check_eq (n : Nat) (x0 : Rel) : rel_Check n x0 = (Option.bind (rel_head n x0) fun r1 => (bif (!decide (r1 = 0)) then (some r1) else (bif (decide ((List.length x0.Rows : Int) > 300)) then (some 2) else (rel_Check_l0 n n x0.Rows (List.length x0.Rows : Int) 0 x0)))) := by kernel_rfl
noncomputable def C40 (n : Nat) : Call2 E := more tt gl H (C39 n) n 31 Try.f31 [.t (.nm 3)] (C39 n)

/- clapperbridge/claplaw2.rels -/
noncomputable def law2_rels (n : Nat) : Option Bool := F2 (E := E) tt gl H (C40 n) n 22 Try.f22 [] (())
theorem law2_rels_eq (n : Nat) : law2_rels n = (Option.bind (rel_Type n (Rel.mk [] [(Col.mk [97] 2)] [] [])) fun r1 => (bif (decide ((List.length r1.Parts : Int) = 1)) then (bif (decide (0 ≤ (0 : Int)) && decide ((0 : Int) < List.length r1.Parts)) then (bif (decide ((((List.getD r1.Parts (Int.toNat (0 : Int)) (Part.mk [] (ApiType.mk 0 [] 0 0 [] []))).Type_).High) = 9007199254740992)) then (Option.bind (rel_Check n (Rel.mk [] [] [] [])) fun r2 => (some (decide (r2 = 15)))) else (some false)) else none) else (some false))) := by kernel_rfl
noncomputable def C41 (n : Nat) : Call2 E := more tt gl H (C40 n) n 22 Try.f22 [] (C40 n)

/- clapperbridge/clapref2.Kinded -/
noncomputable def ref2_Kinded (n : Nat) (x0 : Int) : Option ApiType := F2 (E := E) tt gl H (C41 n) n 37 Try.f37 [.t (.int .i64)] (x0, ())
theorem ref2_Kinded_eq (n : Nat) (x0 : Int) : ref2_Kinded n x0 = (bif (decide (x0 = 1)) then (some (ApiType.mk x0 [] 0 1 [] [])) else (bif (decide (x0 = 2)) then (some (ApiType.mk x0 [] (-9007199254740992) 9007199254740992 [] [])) else (bif (decide (x0 = 4)) then (some (ApiType.mk x0 [] 0 4194304 [] [])) else (bif (decide (x0 = 5)) then (some (ApiType.mk x0 [] 0 0 [46, 42] [])) else (some (ApiType.mk x0 [] 0 0 [] [])))))) := by kernel_rfl
noncomputable def C42 (n : Nat) : Call2 E := more tt gl H (C41 n) n 37 Try.f37 [.t (.int .i64)] (C41 n)

/- clapperbridge/clapref2.Rowed -/
noncomputable def ref2_Rowed (n : Nat) (x0 : List Col) : Option ApiType := F2 (E := E) tt gl H (C42 n) n 35 Try.f35 [.t (.sl (.nm 0))] (x0, ())
noncomputable def ref2_Rowed_l0 (n : Nat) (m0 : Nat) (v7 : List Col) (v8 : Int) (v9 : Int) (w2 : ApiType) (w3_0 : Int) (w3_1 : List UInt8) (w3_2 : Int) (w3_3 : Int) (w3_4 : List UInt8) (w3_5 : List Part) : Option ApiType := lp (E := E) (ps := [.t (.sl (.nm 0))]) tt gl H (C42 n) n 35 Try.f35 [1, 1, 0, 1, 0] [] m0 ⟨mkT 26 0 [(2, .ptr 2 (.nm 4) []), (3, .ptr 3 (.nm 4) []), (7, .t (.sl (.nm 0)) v7), (8, .t (.int .i64) v8), (9, .t (.int .i64) v9)], mkB 104 0 [(2, .var (.nm 4) (.t (.nm 4) w2)), (3, .var (.nm 4) (.agg [.t (.int .i64) w3_0, .t .str w3_1, .t (.int .i64) w3_2, .t (.int .i64) w3_3, .t .str w3_4, .sl 103 (.nm 5) w3_5])), (103, .grow (.nm 5) (List.length w3_5))]⟩
theorem ref2_Rowed_l0_eq (n : Nat) (m0 : Nat) (v7 : List Col) (v8 : Int) (v9 : Int) (w2 : ApiType) (w3_0 : Int) (w3_1 : List UInt8) (w3_2 : Int) (w3_3 : Int) (w3_4 : List UInt8) (w3_5 : List Part) : ref2_Rowed_l0 n (m0 + 1) v7 v8 v9 w2 w3_0 w3_1 w3_2 w3_3 w3_4 w3_5 = (bif (decide (v9 < v8)) then (bif (decide (0 ≤ v9) && decide (v9 < List.length v7)) then (Option.bind (ref2_Kinded n ((List.getD v7 (Int.toNat v9) (Col.mk [] 0)).Kind)) fun r1 => (bif (decide ((List.length w3_5) = List.length w3_5) && decide (List.length w3_5 + List.length ([(Part.mk ((List.getD v7 (Int.toNat v9) (Col.mk [] 0)).Name) r1)] : List Part) ≤ 4294967296)) then (ref2_Rowed_l0 n m0 v7 v8 (IntKind.wrap .i64 (v9 + 1)) w2 w3_0 w3_1 w3_2 w3_3 w3_4 (w3_5 ++ [(Part.mk ((List.getD v7 (Int.toNat v9) (Col.mk [] 0)).Name) r1)])) else none)) else none) else (some (ApiType.mk w3_0 w3_1 w3_2 w3_3 w3_4 w3_5))) := by kernel_rfl
theorem ref2_Rowed_l0_zero (n : Nat) (v7 : List Col) (v8 : Int) (v9 : Int) (w2 : ApiType) (w3_0 : Int) (w3_1 : List UInt8) (w3_2 : Int) (w3_3 : Int) (w3_4 : List UInt8) (w3_5 : List Part) : ref2_Rowed_l0 n 0 v7 v8 v9 w2 w3_0 w3_1 w3_2 w3_3 w3_4 w3_5 = none := by kernel_rfl
theorem ref2_Rowed_l0_fold (n : Nat) (v7 : List Col) (w2 : ApiType) (w3_0 : Int) (w3_1 : List UInt8) (w3_2 : Int) (w3_3 : Int) (w3_4 : List UInt8) (w3_5 : List Part) (hl : List.length v7 < 9223372036854775807) (m i : Nat) (hi : i ≤ List.length v7) (hm : List.length v7 - i < m) : ref2_Rowed_l0 n m v7 (List.length v7 : Int) (i : Int) w2 w3_0 w3_1 w3_2 w3_3 w3_4 w3_5 = foldK (S := (List Part)) (fun i (a : Col) s K => (Option.bind (ref2_Kinded n (a.Kind)) fun r1 => (bif (decide ((List.length s) = List.length s) && decide (List.length s + List.length ([(Part.mk (a.Name) r1)] : List Part) ≤ 4294967296)) then (K (s ++ [(Part.mk (a.Name) r1)])) else none))) (fun s => (some (ApiType.mk w3_0 w3_1 w3_2 w3_3 w3_4 s))) (List.drop i v7) i (w3_5) := range_loop v7 (Col.mk [] 0) hl (fun m (k : Int) (s : (List Part)) => ref2_Rowed_l0 n m v7 (List.length v7 : Int) k w2 w3_0 w3_1 w3_2 w3_3 w3_4 s) _ _ (fun m i s => (ref2_Rowed_l0_eq n m v7 (List.length v7 : Int) (i : Int) w2 w3_0 w3_1 w3_2 w3_3 w3_4 s).trans (by kernel_rfl)) m i hi hm (w3_5)
theorem ref2_Rowed_eq (n : Nat) (x0 : List Col) : ref2_Rowed n x0 = (ref2_Rowed_l0 n n x0 (List.length x0 : Int) 0 (ApiType.mk 0 [] 0 0 [] []) 6 [] 0 0 [] []) := by kernel_rfl
noncomputable def C43 (n : Nat) : Call2 E := more tt gl H (C42 n) n 35 Try.f35 [.t (.sl (.nm 0))] (C42 n)
noncomputable def Cr43 : Nat → Nat → Call2 E
  | 0, n => C43 n
  | d + 1, n => (more tt gl H (Cr43 d n) n 87 Try.f87 [.t (.nm 5), .t (.nm 5)] (more tt gl H (Cr43 d n) n 86 Try.f86 [.t (.sl (.nm 5)), .t (.sl (.nm 5)), .fn 87 []] (more tt gl H (Cr43 d n) n 33 Try.f33 [.t (.nm 4), .t (.nm 4)] (C43 n))))
noncomputable def C44 (n : Nat) : Call2 E := Cr43 (n + 1) n

/- clapperbridge/claplaw2.sameType -/
noncomputable def law2_sameType (d : Nat) (n : Nat) (x0 : ApiType) (x1 : ApiType) : Option Bool := F2 (E := E) tt gl H (Cr43 d n) n 33 Try.f33 [.t (.nm 4), .t (.nm 4)] (x0, x1, ())

/- slices.EqualFunc[[]clapperbridge/api.Part,[]clapperbridge/api.Part,clapperbridge/api.Part,clapperbridge/api.Part] -/
noncomputable def slices_EqualFunc (d : Nat) (n : Nat) (x0 : List Part) (x1 : List Part) (x2 : (Unit)) : Option Bool := F2 (E := E) tt gl H (Cr43 d n) n 86 Try.f86 [.t (.sl (.nm 5)), .t (.sl (.nm 5)), .fn 87 []] (x0, x1, x2, ())
noncomputable def slices_EqualFunc_l0 (d : Nat) (n : Nat) (m0 : Nat) (v1 : List Part) (v15 : List Part) (v16 : Int) (v17 : Int) : Option Bool := lp (E := E) (ps := [.t (.sl (.nm 5)), .t (.sl (.nm 5)), .fn 87 []]) tt gl H (Cr43 d n) n 86 Try.f86 [1, 1, 0, 1, 0] [] m0 ⟨mkT 32 0 [(1, .t (.sl (.nm 5)) v1), (2, .func 87 []), (15, .t (.sl (.nm 5)) v15), (16, .t (.int .i64) v16), (17, .t (.int .i64) v17)], mkB 128 0 []⟩

/- clapperbridge/claplaw2.sameType$1 -/
noncomputable def law2_sameType_1 (d : Nat) (n : Nat) (x0 : Part) (x1 : Part) : Option Bool := F2 (E := E) tt gl H (Cr43 d n) n 87 Try.f87 [.t (.nm 5), .t (.nm 5)] (x0, x1, ())
theorem law2_sameType_eq (d : Nat) (n : Nat) (x0 : ApiType) (x1 : ApiType) : law2_sameType (d + 1) n x0 x1 = (bif (decide (x0.Kind = x1.Kind)) then (bif (x0.Name == x1.Name) then (bif (decide (x0.Low = x1.Low)) then (bif (decide (x0.High = x1.High)) then (bif (x0.Pattern == x1.Pattern) then (Option.bind (slices_EqualFunc d n x0.Parts x1.Parts (())) fun r1 => (some r1)) else (some false)) else (some false)) else (some false)) else (some false)) else (some false)) := by kernel_rfl
theorem slices_EqualFunc_l0_eq (d : Nat) (n : Nat) (m0 : Nat) (v1 : List Part) (v15 : List Part) (v16 : Int) (v17 : Int) : slices_EqualFunc_l0 (d + 1) n (m0 + 1) v1 v15 v16 v17 = (bif (decide (v17 < v16)) then (bif (decide (0 ≤ v17) && decide (v17 < List.length v15)) then (bif (decide (0 ≤ v17) && decide (v17 < List.length v1)) then (Option.bind (law2_sameType_1 d n (List.getD v15 (Int.toNat v17) (Part.mk [] (ApiType.mk 0 [] 0 0 [] []))) (List.getD v1 (Int.toNat v17) (Part.mk [] (ApiType.mk 0 [] 0 0 [] [])))) fun r1 => (bif (!r1) then (some false) else (slices_EqualFunc_l0 (d + 1) n m0 v1 v15 v16 (IntKind.wrap .i64 (v17 + 1))))) else none) else none) else (some true)) := by kernel_rfl
theorem slices_EqualFunc_l0_zero (d : Nat) (n : Nat) (v1 : List Part) (v15 : List Part) (v16 : Int) (v17 : Int) : slices_EqualFunc_l0 d n 0 v1 v15 v16 v17 = none := by kernel_rfl
theorem slices_EqualFunc_l0_fold (d : Nat) (n : Nat) (v1 : List Part) (v15 : List Part) (hl : List.length v15 < 9223372036854775807) (m i : Nat) (hi : i ≤ List.length v15) (hm : List.length v15 - i < m) : slices_EqualFunc_l0 (d + 1) n m v1 v15 (List.length v15 : Int) (i : Int) = foldK (S := Unit) (fun i (a : Part) s K => (bif (decide (0 ≤ (i : Int)) && decide ((i : Int) < List.length v1)) then (Option.bind (law2_sameType_1 d n a (List.getD v1 (Int.toNat (i : Int)) (Part.mk [] (ApiType.mk 0 [] 0 0 [] [])))) fun r1 => (bif (!r1) then (some false) else (K ()))) else none)) (fun s => (some true)) (List.drop i v15) i () := range_loop v15 (Part.mk [] (ApiType.mk 0 [] 0 0 [] [])) hl (fun m (k : Int) (s : Unit) => slices_EqualFunc_l0 (d + 1) n m v1 v15 (List.length v15 : Int) k) _ _ (fun m i s => (slices_EqualFunc_l0_eq d n m v1 v15 (List.length v15 : Int) (i : Int)).trans (by kernel_rfl)) m i hi hm ()
theorem slices_EqualFunc_eq (d : Nat) (n : Nat) (x0 : List Part) (x1 : List Part) (x2 : (Unit)) : slices_EqualFunc (d + 1) n x0 x1 x2 = (bif (!decide ((List.length x0 : Int) = (List.length x1 : Int))) then (some false) else (slices_EqualFunc_l0 (d + 1) n n x1 x0 (List.length x0 : Int) 0)) := by kernel_rfl
theorem law2_sameType_1_eq (d : Nat) (n : Nat) (x0 : Part) (x1 : Part) : law2_sameType_1 (d + 1) n x0 x1 = (bif (x0.Name == x1.Name) then (Option.bind (law2_sameType d n x0.Type_ x1.Type_) fun r1 => (some r1)) else (some false)) := by kernel_rfl

/- slices.Clone[[]clapperbridge/api.Field,clapperbridge/api.Field] -/
noncomputable def slices_Clone (n : Nat) (x0 : Unit) : Option (List ApiField) := F2 (E := E) tt gl H (C44 n) n 135 Try.f135 [.snil (.nm 2)] ((), ())
theorem slices_Clone_eq (n : Nat) (x0 : Unit) : slices_Clone n x0 = (some []) := by kernel_rfl
noncomputable def C45 (n : Nat) : Call2 E := more tt gl H (C44 n) n 135 Try.f135 [.snil (.nm 2)] (C44 n)

/- slices.Clone[[]clapperbridge/api.Field,clapperbridge/api.Field] -/
noncomputable def slices_Clone_2 (n : Nat) (x0 : List ApiField) : Option (List ApiField) := F2 (E := E) tt gl H (C44 n) n 135 Try.f135 [.snn (.nm 2)] (x0, ())
theorem slices_Clone_2_eq (n : Nat) (x0 : List ApiField) : slices_Clone_2 n x0 = (bif (decide (0 = List.length ([] : List ApiField)) && decide (List.length ([] : List ApiField) + List.length x0 ≤ 4294967296)) then (bif (decide ((List.length (([] : List ApiField) ++ x0)) = List.length (([] : List ApiField) ++ x0))) then (some (([] : List ApiField) ++ x0)) else none) else none) := by kernel_rfl
theorem slices_Clone_2_hq (n : Nat) : slices_Clone n () = slices_Clone_2 n [] := (slices_Clone_eq n ()).trans (Eq.symm ((slices_Clone_2_eq n []).trans (by kernel_rfl)))
noncomputable def C46 (n : Nat) : Call2 E := moreN tt gl H (C44 n) n 135 Try.f135 (.nm 2) (C45 n)
noncomputable def Cr46 : Nat → Nat → Call2 E
  | 0, n => C46 n
  | d + 1, n => (more tt gl H (Cr46 d n) n 88 Try.f88 [.t (.nm 1)] (C46 n))
noncomputable def C47 (n : Nat) : Call2 E := Cr46 (n + 1) n

/- clapperbridge/value.Copy -/
noncomputable def value_Copy (d : Nat) (n : Nat) (x0 : ApiValue) : Option ApiValue := F2 (E := E) tt gl H (Cr46 d n) n 88 Try.f88 [.t (.nm 1)] (x0, ())
noncomputable def value_Copy_l0 (d : Nat) (n : Nat) (m0 : Nat) (v10 : Int) (v11 : Int) (w1_0 : Int) (w1_1 : Int) (w1_2 : List UInt8) (w1_3l : Nat) (w2 : ApiValue) (w6 : List ApiField) : Option ApiValue := lp (E := E) (ps := [.t (.nm 1)]) tt gl H (Cr46 d n) n 88 Try.f88 [1, 1, 0, 1, 0] [] m0 ⟨mkT 28 0 [(1, .ptr 1 (.nm 1) []), (2, .ptr 2 (.nm 1) []), (10, .t (.int .i64) v10), (11, .t (.int .i64) v11)], mkB 112 0 [(1, .var (.nm 1) (.agg [.t (.int .i64) w1_0, .t (.int .i64) w1_1, .t .str w1_2, .fs 6 (.nm 2) 0 w1_3l])), (2, .var (.nm 1) (.t (.nm 1) w2)), (6, .row (.nm 2) w6)]⟩
theorem value_Copy_l0_eq (d : Nat) (n : Nat) (m0 : Nat) (v10 : Int) (v11 : Int) (w1_0 : Int) (w1_1 : Int) (w1_2 : List UInt8) (w1_3l : Nat) (w2 : ApiValue) (w6 : List ApiField) : value_Copy_l0 (d + 1) n (m0 + 1) v10 v11 w1_0 w1_1 w1_2 w1_3l w2 w6 = (bif (decide (v11 < v10)) then (bif (decide (0 ≤ v11) && decide (v11 < (w1_3l : Int))) then (bif (decide ((0 + (Int.toNat v11)) < List.length w6)) then (Option.bind (value_Copy d n ((List.getD w6 (0 + (Int.toNat v11)) (ApiField.mk [] (ApiValue.mk 0 0 [] []))).Val)) fun r2 => (bif (decide (0 ≤ v11) && decide (v11 < (w1_3l : Int))) then (bif (decide ((0 + (Int.toNat v11)) < List.length w6)) then (value_Copy_l0 (d + 1) n m0 v10 (IntKind.wrap .i64 (v11 + 1)) w1_0 w1_1 w1_2 w1_3l w2 (List.set w6 (0 + (Int.toNat v11)) (ApiField.mk ((List.getD w6 (0 + (Int.toNat v11)) (ApiField.mk [] (ApiValue.mk 0 0 [] []))).Name) r2))) else none) else none)) else none) else none) else (bif (((decide (0 + w1_3l ≤ List.length w6)) && true) && true) then (some (ApiValue.mk w1_0 w1_1 w1_2 (List.take w1_3l w6))) else none)) := by kernel_rfl
theorem value_Copy_l0_zero (d : Nat) (n : Nat) (v10 : Int) (v11 : Int) (w1_0 : Int) (w1_1 : Int) (w1_2 : List UInt8) (w1_3l : Nat) (w2 : ApiValue) (w6 : List ApiField) : value_Copy_l0 d n 0 v10 v11 w1_0 w1_1 w1_2 w1_3l w2 w6 = none := by kernel_rfl
theorem value_Copy_l0_fold (d : Nat) (n : Nat) (w1_0 : Int) (w1_1 : Int) (w1_2 : List UInt8) (w1_3l : Nat) (w2 : ApiValue) (N : Nat) (w6 : List ApiField) (hl : N < 9223372036854775807) (m i : Nat) (hi : i ≤ N) (hm : N - i < m) : value_Copy_l0 (d + 1) n m (N : Int) (i : Int) w1_0 w1_1 w1_2 w1_3l w2 w6 = foldN (S := (List ApiField)) (fun i s K => (bif (decide (0 ≤ (i : Int)) && decide ((i : Int) < (w1_3l : Int))) then (bif (decide ((0 + (Int.toNat (i : Int))) < List.length s)) then (Option.bind (value_Copy d n ((List.getD s (0 + (Int.toNat (i : Int))) (ApiField.mk [] (ApiValue.mk 0 0 [] []))).Val)) fun r2 => (bif (decide (0 ≤ (i : Int)) && decide ((i : Int) < (w1_3l : Int))) then (bif (decide ((0 + (Int.toNat (i : Int))) < List.length s)) then (K (List.set s (0 + (Int.toNat (i : Int))) (ApiField.mk ((List.getD s (0 + (Int.toNat (i : Int))) (ApiField.mk [] (ApiValue.mk 0 0 [] []))).Name) r2))) else none) else none)) else none) else none)) (fun s => (bif (((decide (0 + w1_3l ≤ List.length s)) && true) && true) then (some (ApiValue.mk w1_0 w1_1 w1_2 (List.take w1_3l s))) else none)) (N - i) i (w6) := count_loop N hl (fun m (k : Int) (s : (List ApiField)) => value_Copy_l0 (d + 1) n m (N : Int) k w1_0 w1_1 w1_2 w1_3l w2 s) _ _ (fun m i s => (value_Copy_l0_eq d n m (N : Int) (i : Int) w1_0 w1_1 w1_2 w1_3l w2 s).trans (by kernel_rfl)) m i hi hm (w6)
theorem value_Copy_eq (d : Nat) (n : Nat) (x0 : ApiValue) : value_Copy (d + 1) n x0 = (Option.bind (slices_Clone_2 n x0.Fields) fun r1 => (value_Copy_l0 (d + 1) n n ((List.length r1) : Int) 0 x0.Kind x0.N x0.S (List.length r1) (ApiValue.mk 0 0 [] []) r1)) := by kernel_rfl

/- clapperbridge/rel.Row -/
noncomputable def rel_Row (n : Nat) (x0 : Rel) (x1 : Int) : Option (ApiValue × Int) := F2 (E := E) tt gl H (C47 n) n 38 Try.f38 [.t (.nm 3), .t (.int .i64)] (x0, x1, ())
noncomputable def rel_Row_l0 (n : Nat) (m0 : Nat) (v1 : Int) (v28 : List Col) (v29 : Int) (v30 : Int) (w2 : Rel) (w4 : ApiValue) (w7_0 : Int) (w7_1 : Int) (w7_2 : List UInt8) (w7_3 : List ApiField) : Option (ApiValue × Int) := lp (E := E) (ps := [.t (.nm 3), .t (.int .i64)]) tt gl H (C47 n) n 38 Try.f38 [1, 1, 1, 1, 0, 1, 0] [] m0 ⟨mkT 54 0 [(1, .t (.int .i64) v1), (2, .ptr 2 (.nm 3) []), (4, .ptr 4 (.nm 1) []), (7, .ptr 7 (.nm 1) []), (28, .t (.sl (.nm 0)) v28), (29, .t (.int .i64) v29), (30, .t (.int .i64) v30)], mkB 216 0 [(2, .var (.nm 3) (.t (.nm 3) w2)), (4, .var (.nm 1) (.t (.nm 1) w4)), (7, .var (.nm 1) (.agg [.t (.int .i64) w7_0, .t (.int .i64) w7_1, .t .str w7_2, .sl 215 (.nm 2) w7_3])), (215, .grow (.nm 2) (List.length w7_3))]⟩
theorem rel_Row_l0_eq (n : Nat) (m0 : Nat) (v1 : Int) (v28 : List Col) (v29 : Int) (v30 : Int) (w2 : Rel) (w4 : ApiValue) (w7_0 : Int) (w7_1 : Int) (w7_2 : List UInt8) (w7_3 : List ApiField) : rel_Row_l0 n (m0 + 1) v1 v28 v29 v30 w2 w4 w7_0 w7_1 w7_2 w7_3 = (bif (decide (v30 < v29)) then (bif (decide (0 ≤ v30) && decide (v30 < List.length v28)) then (bif (decide (0 ≤ v1) && decide (v1 < List.length w2.Rows)) then (bif (decide (0 ≤ v30) && decide (v30 < List.length (List.getD w2.Rows (Int.toNat v1) []))) then (Option.bind (value_Copy n n (List.getD (List.getD w2.Rows (Int.toNat v1) []) (Int.toNat v30) (ApiValue.mk 0 0 [] []))) fun r2 => (bif (decide ((List.length w7_3) = List.length w7_3) && decide (List.length w7_3 + List.length ([(ApiField.mk ((List.getD v28 (Int.toNat v30) (Col.mk [] 0)).Name) r2)] : List ApiField) ≤ 4294967296)) then (rel_Row_l0 n m0 v1 v28 v29 (IntKind.wrap .i64 (v30 + 1)) w2 w4 w7_0 w7_1 w7_2 (w7_3 ++ [(ApiField.mk ((List.getD v28 (Int.toNat v30) (Col.mk [] 0)).Name) r2)])) else none)) else none) else none) else none) else (some ((ApiValue.mk w7_0 w7_1 w7_2 w7_3), 0))) := by kernel_rfl
theorem rel_Row_l0_zero (n : Nat) (v1 : Int) (v28 : List Col) (v29 : Int) (v30 : Int) (w2 : Rel) (w4 : ApiValue) (w7_0 : Int) (w7_1 : Int) (w7_2 : List UInt8) (w7_3 : List ApiField) : rel_Row_l0 n 0 v1 v28 v29 v30 w2 w4 w7_0 w7_1 w7_2 w7_3 = none := by kernel_rfl
theorem rel_Row_l0_fold (n : Nat) (v1 : Int) (v28 : List Col) (w2 : Rel) (w4 : ApiValue) (w7_0 : Int) (w7_1 : Int) (w7_2 : List UInt8) (w7_3 : List ApiField) (hl : List.length v28 < 9223372036854775807) (m i : Nat) (hi : i ≤ List.length v28) (hm : List.length v28 - i < m) : rel_Row_l0 n m v1 v28 (List.length v28 : Int) (i : Int) w2 w4 w7_0 w7_1 w7_2 w7_3 = foldK (S := (List ApiField)) (fun i (a : Col) s K => (bif (decide (0 ≤ v1) && decide (v1 < List.length w2.Rows)) then (bif (decide (0 ≤ (i : Int)) && decide ((i : Int) < List.length (List.getD w2.Rows (Int.toNat v1) []))) then (Option.bind (value_Copy n n (List.getD (List.getD w2.Rows (Int.toNat v1) []) (Int.toNat (i : Int)) (ApiValue.mk 0 0 [] []))) fun r2 => (bif (decide ((List.length s) = List.length s) && decide (List.length s + List.length ([(ApiField.mk (a.Name) r2)] : List ApiField) ≤ 4294967296)) then (K (s ++ [(ApiField.mk (a.Name) r2)])) else none)) else none) else none)) (fun s => (some ((ApiValue.mk w7_0 w7_1 w7_2 s), 0))) (List.drop i v28) i (w7_3) := range_loop v28 (Col.mk [] 0) hl (fun m (k : Int) (s : (List ApiField)) => rel_Row_l0 n m v1 v28 (List.length v28 : Int) k w2 w4 w7_0 w7_1 w7_2 s) _ _ (fun m i s => (rel_Row_l0_eq n m v1 v28 (List.length v28 : Int) (i : Int) w2 w4 w7_0 w7_1 w7_2 s).trans (by kernel_rfl)) m i hi hm (w7_3)
theorem rel_Row_eq (n : Nat) (x0 : Rel) (x1 : Int) : rel_Row n x0 x1 = (Option.bind (rel_Check n x0) fun r1 => (bif (!decide (r1 = 0)) then (some ((ApiValue.mk 0 0 [] []), r1)) else (bif (decide (x1 < 0)) then (some ((ApiValue.mk 0 0 [] []), 11)) else (bif (decide (x1 ≥ (List.length x0.Rows : Int))) then (some ((ApiValue.mk 0 0 [] []), 11)) else (rel_Row_l0 n n x1 x0.Cols (List.length x0.Cols : Int) 0 x0 (ApiValue.mk 0 0 [] []) 6 0 [] []))))) := by kernel_rfl
noncomputable def C48 (n : Nat) : Call2 E := more tt gl H (C47 n) n 38 Try.f38 [.t (.nm 3), .t (.int .i64)] (C47 n)

/- clapperbridge/clapref2.HeadErr -/
noncomputable def ref2_HeadErr (n : Nat) (x0 : Rel) : Option Int := F2 (E := E) tt gl H (C48 n) n 82 Try.f82 [.t (.nm 3)] (x0, ())
noncomputable def ref2_HeadErr_l0 (n : Nat) (m0 : Nat) (v24 : List Col) (v25 : Int) (v26 : Int) (w1 : Rel) (w21 : List ((List UInt8) × Bool)) (w22 : List ((List UInt8) × Bool)) : Option Int := lp (E := E) (ps := [.t (.nm 3)]) tt gl H (C48 n) n 82 Try.f82 [1, 1, 1, 1, 1, 0, 1, 0] [] m0 ⟨mkT 72 0 [(1, .ptr 1 (.nm 3) []), (3, .mp 21 .str .bool), (4, .mp 22 .str .bool), (24, .t (.sl (.nm 0)) v24), (25, .t (.int .i64) v25), (26, .t (.int .i64) v26)], mkB 288 0 [(1, .var (.nm 3) (.t (.nm 3) w1)), (21, .mp .str .bool w21), (22, .mp .str .bool w22)]⟩
noncomputable def ref2_HeadErr_l3 (n : Nat) (m0 : Nat) (v54 : List (List UInt8)) (v55 : Int) (v56 : Int) (w21 : List ((List UInt8) × Bool)) (w22 : List ((List UInt8) × Bool)) : Option Int := lp (E := E) (ps := [.t (.nm 3)]) tt gl H (C48 n) n 82 Try.f82 [1, 1, 1, 1, 1, 1, 0, 1, 0] [] m0 ⟨mkT 72 0 [(3, .mp 21 .str .bool), (4, .mp 22 .str .bool), (54, .t (.sl .str) v54), (55, .t (.int .i64) v55), (56, .t (.int .i64) v56)], mkB 288 0 [(21, .mp .str .bool w21), (22, .mp .str .bool w22)]⟩
theorem ref2_HeadErr_l3_eq (n : Nat) (m0 : Nat) (v54 : List (List UInt8)) (v55 : Int) (v56 : Int) (w21 : List ((List UInt8) × Bool)) (w22 : List ((List UInt8) × Bool)) : ref2_HeadErr_l3 n (m0 + 1) v54 v55 v56 w21 w22 = (bif (decide (v56 < v55)) then (bif (decide (0 ≤ v56) && decide (v56 < List.length v54)) then (bif (!(mgetD E .str .bool w21 (List.getD v54 (Int.toNat v56) []))) then (some 15) else (bif (mgetD E .str .bool w22 (List.getD v54 (Int.toNat v56) [])) then (some 5) else (ref2_HeadErr_l3 n m0 v54 v55 (IntKind.wrap .i64 (v56 + 1)) w21 (mset E .str .bool (List.getD v54 (Int.toNat v56) []) true w22)))) else none) else (some 0)) := by kernel_rfl
theorem ref2_HeadErr_l3_zero (n : Nat) (v54 : List (List UInt8)) (v55 : Int) (v56 : Int) (w21 : List ((List UInt8) × Bool)) (w22 : List ((List UInt8) × Bool)) : ref2_HeadErr_l3 n 0 v54 v55 v56 w21 w22 = none := by kernel_rfl
theorem ref2_HeadErr_l3_fold (n : Nat) (v54 : List (List UInt8)) (w21 : List ((List UInt8) × Bool)) (w22 : List ((List UInt8) × Bool)) (hl : List.length v54 < 9223372036854775807) (m i : Nat) (hi : i ≤ List.length v54) (hm : List.length v54 - i < m) : ref2_HeadErr_l3 n m v54 (List.length v54 : Int) (i : Int) w21 w22 = foldK (S := (List ((List UInt8) × Bool))) (fun i (a : (List UInt8)) s K => (bif (!(mgetD E .str .bool w21 a)) then (some 15) else (bif (mgetD E .str .bool s a) then (some 5) else (K (mset E .str .bool a true s))))) (fun s => (some 0)) (List.drop i v54) i (w22) := range_loop v54 [] hl (fun m (k : Int) (s : (List ((List UInt8) × Bool))) => ref2_HeadErr_l3 n m v54 (List.length v54 : Int) k w21 s) _ _ (fun m i s => (ref2_HeadErr_l3_eq n m v54 (List.length v54 : Int) (i : Int) w21 s).trans (by kernel_rfl)) m i hi hm (w22)
theorem ref2_HeadErr_l0_eq (n : Nat) (m0 : Nat) (v24 : List Col) (v25 : Int) (v26 : Int) (w1 : Rel) (w21 : List ((List UInt8) × Bool)) (w22 : List ((List UInt8) × Bool)) : ref2_HeadErr_l0 n (m0 + 1) v24 v25 v26 w1 w21 w22 = (bif (decide (v26 < v25)) then (bif (decide (0 ≤ v26) && decide (v26 < List.length v24)) then (Option.bind (value_Name n ((List.getD v24 (Int.toNat v26) (Col.mk [] 0)).Name)) fun r2 => (bif (!r2) then (some 15) else (bif (mgetD E .str .bool w21 ((List.getD v24 (Int.toNat v26) (Col.mk [] 0)).Name)) then (some 5) else (bif (decide (((List.getD v24 (Int.toNat v26) (Col.mk [] 0)).Kind) < 1)) then (some 8) else (bif (decide (((List.getD v24 (Int.toNat v26) (Col.mk [] 0)).Kind) > 5)) then (some 8) else (ref2_HeadErr_l0 n m0 v24 v25 (IntKind.wrap .i64 (v26 + 1)) w1 (mset E .str .bool ((List.getD v24 (Int.toNat v26) (Col.mk [] 0)).Name) true w21) w22)))))) else none) else (ref2_HeadErr_l3 n n w1.Key (List.length w1.Key : Int) 0 w21 w22)) := by kernel_rfl
theorem ref2_HeadErr_l0_zero (n : Nat) (v24 : List Col) (v25 : Int) (v26 : Int) (w1 : Rel) (w21 : List ((List UInt8) × Bool)) (w22 : List ((List UInt8) × Bool)) : ref2_HeadErr_l0 n 0 v24 v25 v26 w1 w21 w22 = none := by kernel_rfl
theorem ref2_HeadErr_l0_fold (n : Nat) (v24 : List Col) (w1 : Rel) (w22 : List ((List UInt8) × Bool)) (w21 : List ((List UInt8) × Bool)) (hl : List.length v24 < 9223372036854775807) (m i : Nat) (hi : i ≤ List.length v24) (hm : List.length v24 - i < m) : ref2_HeadErr_l0 n m v24 (List.length v24 : Int) (i : Int) w1 w21 w22 = foldK (S := (List ((List UInt8) × Bool))) (fun i (a : Col) s K => (Option.bind (value_Name n (a.Name)) fun r2 => (bif (!r2) then (some 15) else (bif (mgetD E .str .bool s (a.Name)) then (some 5) else (bif (decide ((a.Kind) < 1)) then (some 8) else (bif (decide ((a.Kind) > 5)) then (some 8) else (K (mset E .str .bool (a.Name) true s)))))))) (fun s => (ref2_HeadErr_l3 n n w1.Key (List.length w1.Key : Int) 0 s w22)) (List.drop i v24) i (w21) := range_loop v24 (Col.mk [] 0) hl (fun m (k : Int) (s : (List ((List UInt8) × Bool))) => ref2_HeadErr_l0 n m v24 (List.length v24 : Int) k w1 s w22) _ _ (fun m i s => (ref2_HeadErr_l0_eq n m v24 (List.length v24 : Int) (i : Int) w1 s w22).trans (by kernel_rfl)) m i hi hm (w21)
theorem ref2_HeadErr_eq (n : Nat) (x0 : Rel) : ref2_HeadErr n x0 = (Option.bind (value_Name n x0.Name) fun r1 => (bif (!r1) then (some 15) else (bif (decide ((List.length x0.Cols : Int) = 0)) then (some 3) else (bif (decide ((List.length x0.Cols : Int) > 12)) then (some 2) else (ref2_HeadErr_l0 n n x0.Cols (List.length x0.Cols : Int) 0 x0 [] []))))) := by kernel_rfl
noncomputable def C49 (n : Nat) : Call2 E := more tt gl H (C48 n) n 82 Try.f82 [.t (.nm 3)] (C48 n)

/- clapperbridge/clapref2.RowErr -/
noncomputable def ref2_RowErr (n : Nat) (x0 : Rel) (x1 : List ApiValue) : Option Int := F2 (E := E) tt gl H (C49 n) n 83 Try.f83 [.t (.nm 3), .t (.sl (.nm 1))] (x0, x1, ())
noncomputable def ref2_RowErr_l0 (n : Nat) (m0 : Nat) (v1 : List ApiValue) (v14 : Int) (v15 : Int) (w2 : Rel) : Option Int := lp (E := E) (ps := [.t (.nm 3), .t (.sl (.nm 1))]) tt gl H (C49 n) n 83 Try.f83 [1, 1, 0, 1, 0] [] m0 ⟨mkT 51 0 [(1, .t (.sl (.nm 1)) v1), (2, .ptr 2 (.nm 3) []), (14, .t (.int .i64) v14), (15, .t (.int .i64) v15)], mkB 204 0 [(2, .var (.nm 3) (.t (.nm 3) w2))]⟩
theorem ref2_RowErr_l0_eq (n : Nat) (m0 : Nat) (v1 : List ApiValue) (v14 : Int) (v15 : Int) (w2 : Rel) : ref2_RowErr_l0 n (m0 + 1) v1 v14 v15 w2 = (bif (decide (v15 < v14)) then (bif (decide (0 ≤ v15) && decide (v15 < List.length v1)) then (Option.bind (value_Check n (List.getD v1 (Int.toNat v15) (ApiValue.mk 0 0 [] []))) fun r1 => (bif (decide (r1 = 0)) then (bif (decide (0 ≤ v15) && decide (v15 < List.length v1)) then (bif (!decide (((List.getD v1 (Int.toNat v15) (ApiValue.mk 0 0 [] [])).Kind) = 11)) then (bif (decide (0 ≤ v15) && decide (v15 < List.length v1)) then (bif (decide (0 ≤ v15) && decide (v15 < List.length w2.Cols)) then (bif (!decide (((List.getD v1 (Int.toNat v15) (ApiValue.mk 0 0 [] [])).Kind) = ((List.getD w2.Cols (Int.toNat v15) (Col.mk [] 0)).Kind))) then (bif (!decide ((8 : Int) = 0)) then (some 8) else (ref2_RowErr_l0 n m0 v1 v14 (IntKind.wrap .i64 (v15 + 1)) w2)) else (bif (!decide (r1 = 0)) then (some r1) else (ref2_RowErr_l0 n m0 v1 v14 (IntKind.wrap .i64 (v15 + 1)) w2))) else none) else none) else (bif (!decide (r1 = 0)) then (some r1) else (ref2_RowErr_l0 n m0 v1 v14 (IntKind.wrap .i64 (v15 + 1)) w2))) else none) else (bif (!decide (r1 = 0)) then (some r1) else (ref2_RowErr_l0 n m0 v1 v14 (IntKind.wrap .i64 (v15 + 1)) w2)))) else none) else (some 0)) := by kernel_rfl
theorem ref2_RowErr_l0_zero (n : Nat) (v1 : List ApiValue) (v14 : Int) (v15 : Int) (w2 : Rel) : ref2_RowErr_l0 n 0 v1 v14 v15 w2 = none := by kernel_rfl
theorem ref2_RowErr_l0_fold (n : Nat) (v1 : List ApiValue) (w2 : Rel) (hl : List.length v1 < 9223372036854775807) (m i : Nat) (hi : i ≤ List.length v1) (hm : List.length v1 - i < m) : ref2_RowErr_l0 n m v1 (List.length v1 : Int) (i : Int) w2 = foldK (S := Unit) (fun i (a : ApiValue) s K => (Option.bind (value_Check n a) fun r1 => (bif (decide (r1 = 0)) then (bif (decide (0 ≤ (i : Int)) && decide ((i : Int) < List.length v1)) then (bif (!decide ((a.Kind) = 11)) then (bif (decide (0 ≤ (i : Int)) && decide ((i : Int) < List.length v1)) then (bif (decide (0 ≤ (i : Int)) && decide ((i : Int) < List.length w2.Cols)) then (bif (!decide ((a.Kind) = ((List.getD w2.Cols (Int.toNat (i : Int)) (Col.mk [] 0)).Kind))) then (bif (!decide ((8 : Int) = 0)) then (some 8) else (K ())) else (bif (!decide (r1 = 0)) then (some r1) else (K ()))) else none) else none) else (bif (!decide (r1 = 0)) then (some r1) else (K ()))) else none) else (bif (!decide (r1 = 0)) then (some r1) else (K ()))))) (fun s => (some 0)) (List.drop i v1) i () := range_loop v1 (ApiValue.mk 0 0 [] []) hl (fun m (k : Int) (s : Unit) => ref2_RowErr_l0 n m v1 (List.length v1 : Int) k w2) _ _ (fun m i s => (ref2_RowErr_l0_eq n m v1 (List.length v1 : Int) (i : Int) w2).trans (by kernel_rfl)) m i hi hm ()
theorem ref2_RowErr_eq (n : Nat) (x0 : Rel) (x1 : List ApiValue) : ref2_RowErr n x0 x1 = (bif (!decide ((List.length x0.Cols : Int) = (List.length x1 : Int))) then (some 3) else (ref2_RowErr_l0 n n x1 (List.length x1 : Int) 0 x0)) := by kernel_rfl
noncomputable def C50 (n : Nat) : Call2 E := more tt gl H (C49 n) n 83 Try.f83 [.t (.nm 3), .t (.sl (.nm 1))] (C49 n)

/- clapperbridge/clapref2.Order$1 -/
noncomputable def ref2_Order_1 (n : Nat) (x0 : List ApiValue) : Option ApiValue := F2 (E := E) tt gl H (C50 n) n 77 Try.f77 [.t (.sl (.nm 1))] (x0, ())
noncomputable def ref2_Order_1_l0 (n : Nat) (m0 : Nat) (v7 : List ApiValue) (v8 : Int) (v9 : Int) (w2 : ApiValue) (w3_0 : Int) (w3_1 : Int) (w3_2 : List UInt8) (w3_3 : List ApiField) : Option ApiValue := lp (E := E) (ps := [.t (.sl (.nm 1))]) tt gl H (C50 n) n 77 Try.f77 [1, 1, 0, 1, 0] [] m0 ⟨mkT 22 0 [(2, .ptr 2 (.nm 1) []), (3, .ptr 3 (.nm 1) []), (7, .t (.sl (.nm 1)) v7), (8, .t (.int .i64) v8), (9, .t (.int .i64) v9)], mkB 88 0 [(2, .var (.nm 1) (.t (.nm 1) w2)), (3, .var (.nm 1) (.agg [.t (.int .i64) w3_0, .t (.int .i64) w3_1, .t .str w3_2, .sl 87 (.nm 2) w3_3])), (87, .grow (.nm 2) (List.length w3_3))]⟩
theorem ref2_Order_1_l0_eq (n : Nat) (m0 : Nat) (v7 : List ApiValue) (v8 : Int) (v9 : Int) (w2 : ApiValue) (w3_0 : Int) (w3_1 : Int) (w3_2 : List UInt8) (w3_3 : List ApiField) : ref2_Order_1_l0 n (m0 + 1) v7 v8 v9 w2 w3_0 w3_1 w3_2 w3_3 = (bif (decide (v9 < v8)) then (bif (decide (0 ≤ v9) && decide (v9 < List.length v7)) then (bif (decide ((List.length w3_3) = List.length w3_3) && decide (List.length w3_3 + List.length ([(ApiField.mk [] (List.getD v7 (Int.toNat v9) (ApiValue.mk 0 0 [] [])))] : List ApiField) ≤ 4294967296)) then (ref2_Order_1_l0 n m0 v7 v8 (IntKind.wrap .i64 (v9 + 1)) w2 w3_0 w3_1 w3_2 (w3_3 ++ [(ApiField.mk [] (List.getD v7 (Int.toNat v9) (ApiValue.mk 0 0 [] [])))])) else none) else none) else (some (ApiValue.mk w3_0 w3_1 w3_2 w3_3))) := by kernel_rfl
theorem ref2_Order_1_l0_zero (n : Nat) (v7 : List ApiValue) (v8 : Int) (v9 : Int) (w2 : ApiValue) (w3_0 : Int) (w3_1 : Int) (w3_2 : List UInt8) (w3_3 : List ApiField) : ref2_Order_1_l0 n 0 v7 v8 v9 w2 w3_0 w3_1 w3_2 w3_3 = none := by kernel_rfl
theorem ref2_Order_1_l0_fold (n : Nat) (v7 : List ApiValue) (w2 : ApiValue) (w3_0 : Int) (w3_1 : Int) (w3_2 : List UInt8) (w3_3 : List ApiField) (hl : List.length v7 < 9223372036854775807) (m i : Nat) (hi : i ≤ List.length v7) (hm : List.length v7 - i < m) : ref2_Order_1_l0 n m v7 (List.length v7 : Int) (i : Int) w2 w3_0 w3_1 w3_2 w3_3 = foldK (S := (List ApiField)) (fun i (a : ApiValue) s K => (bif (decide ((List.length s) = List.length s) && decide (List.length s + List.length ([(ApiField.mk [] a)] : List ApiField) ≤ 4294967296)) then (K (s ++ [(ApiField.mk [] a)])) else none)) (fun s => (some (ApiValue.mk w3_0 w3_1 w3_2 s))) (List.drop i v7) i (w3_3) := range_loop v7 (ApiValue.mk 0 0 [] []) hl (fun m (k : Int) (s : (List ApiField)) => ref2_Order_1_l0 n m v7 (List.length v7 : Int) k w2 w3_0 w3_1 w3_2 s) _ _ (fun m i s => (ref2_Order_1_l0_eq n m v7 (List.length v7 : Int) (i : Int) w2 w3_0 w3_1 w3_2 s).trans (by kernel_rfl)) m i hi hm (w3_3)
theorem ref2_Order_1_eq (n : Nat) (x0 : List ApiValue) : ref2_Order_1 n x0 = (ref2_Order_1_l0 n n x0 (List.length x0 : Int) 0 (ApiValue.mk 0 0 [] []) 8 0 [] []) := by kernel_rfl
noncomputable def C51 (n : Nat) : Call2 E := more tt gl H (C50 n) n 77 Try.f77 [.t (.sl (.nm 1))] (C50 n)

/- clapperbridge/clapref2.Order -/
noncomputable def ref2_Order (n : Nat) (x0 : List ApiValue) (x1 : List ApiValue) : Option Int := F2 (E := E) tt gl H (C51 n) n 27 Try.f27 [.t (.sl (.nm 1)), .t (.sl (.nm 1))] (x0, x1, ())
theorem ref2_Order_eq (n : Nat) (x0 : List ApiValue) (x1 : List ApiValue) : ref2_Order n x0 x1 = (Option.bind (ref2_Order_1 n x0) fun r1 => (Option.bind (ref2_Order_1 n x1) fun r2 => (Option.bind (value_Cmp n n r1 r2) fun r3 => (some r3)))) := by kernel_rfl
noncomputable def C52 (n : Nat) : Call2 E := more tt gl H (C51 n) n 27 Try.f27 [.t (.sl (.nm 1)), .t (.sl (.nm 1))] (C51 n)

/- clapperbridge/clapref2.column -/
noncomputable def ref2_column (n : Nat) (x0 : Rel) (x1 : List UInt8) : Option Int := F2 (E := E) tt gl H (C52 n) n 132 Try.f132 [.t (.nm 3), .t .str] (x0, x1, ())
noncomputable def ref2_column_l0 (n : Nat) (m0 : Nat) (v1 : List UInt8) (v8 : List Col) (v9 : Int) (v10 : Int) : Option Int := lp (E := E) (ps := [.t (.nm 3), .t .str]) tt gl H (C52 n) n 132 Try.f132 [1, 0, 1, 0] [] m0 ⟨mkT 21 0 [(1, .t .str v1), (8, .t (.sl (.nm 0)) v8), (9, .t (.int .i64) v9), (10, .t (.int .i64) v10)], mkB 84 0 []⟩
theorem ref2_column_l0_eq (n : Nat) (m0 : Nat) (v1 : List UInt8) (v8 : List Col) (v9 : Int) (v10 : Int) : ref2_column_l0 n (m0 + 1) v1 v8 v9 v10 = (bif (decide (v10 < v9)) then (bif (decide (0 ≤ v10) && decide (v10 < List.length v8)) then (bif (((List.getD v8 (Int.toNat v10) (Col.mk [] 0)).Name) == v1) then (some v10) else (ref2_column_l0 n m0 v1 v8 v9 (IntKind.wrap .i64 (v10 + 1)))) else none) else (some (-1))) := by kernel_rfl
theorem ref2_column_l0_zero (n : Nat) (v1 : List UInt8) (v8 : List Col) (v9 : Int) (v10 : Int) : ref2_column_l0 n 0 v1 v8 v9 v10 = none := by kernel_rfl
theorem ref2_column_l0_fold (n : Nat) (v1 : List UInt8) (v8 : List Col) (hl : List.length v8 < 9223372036854775807) (m i : Nat) (hi : i ≤ List.length v8) (hm : List.length v8 - i < m) : ref2_column_l0 n m v1 v8 (List.length v8 : Int) (i : Int) = foldK (S := Unit) (fun i (a : Col) s K => (bif ((a.Name) == v1) then (some (i : Int)) else (K ()))) (fun s => (some (-1))) (List.drop i v8) i () := range_loop v8 (Col.mk [] 0) hl (fun m (k : Int) (s : Unit) => ref2_column_l0 n m v1 v8 (List.length v8 : Int) k) _ _ (fun m i s => (ref2_column_l0_eq n m v1 v8 (List.length v8 : Int) (i : Int)).trans (by kernel_rfl)) m i hi hm ()
theorem ref2_column_eq (n : Nat) (x0 : Rel) (x1 : List UInt8) : ref2_column n x0 x1 = (ref2_column_l0 n n x1 x0.Cols (List.length x0.Cols : Int) 0) := by kernel_rfl
noncomputable def C53 (n : Nat) : Call2 E := more tt gl H (C52 n) n 132 Try.f132 [.t (.nm 3), .t .str] (C52 n)

/- clapperbridge/clapref2.keyOf -/
noncomputable def ref2_keyOf (n : Nat) (x0 : Rel) (x1 : List ApiValue) : Option (List ApiValue) := F2 (E := E) tt gl H (C53 n) n 84 Try.f84 [.t (.nm 3), .t (.sl (.nm 1))] (x0, x1, ())
noncomputable def ref2_keyOf_l0 (n : Nat) (m0 : Nat) (v1 : List ApiValue) (v5 : List ApiValue) (v9 : List (List UInt8)) (v10 : Int) (v11 : Int) (w2 : Rel) : Option (List ApiValue) := lp (E := E) (ps := [.t (.nm 3), .t (.sl (.nm 1))]) tt gl H (C53 n) n 84 Try.f84 [1, 1, 0, 1, 0] [] m0 ⟨mkT 26 0 [(1, .t (.sl (.nm 1)) v1), (2, .ptr 2 (.nm 3) []), (5, .sl 21 (.nm 1) v5), (9, .t (.sl .str) v9), (10, .t (.int .i64) v10), (11, .t (.int .i64) v11)], mkB 104 0 [(2, .var (.nm 3) (.t (.nm 3) w2)), (21, .grow (.nm 1) (List.length v5))]⟩
theorem ref2_keyOf_l0_eq (n : Nat) (m0 : Nat) (v1 : List ApiValue) (v5 : List ApiValue) (v9 : List (List UInt8)) (v10 : Int) (v11 : Int) (w2 : Rel) : ref2_keyOf_l0 n (m0 + 1) v1 v5 v9 v10 v11 w2 = (bif (decide (v11 < v10)) then (bif (decide (0 ≤ v11) && decide (v11 < List.length v9)) then (Option.bind (ref2_column n w2 (List.getD v9 (Int.toNat v11) [])) fun r1 => (bif (decide (0 ≤ r1) && decide (r1 < List.length v1)) then (bif (decide ((List.length v5) = List.length v5) && decide (List.length v5 + List.length ([(List.getD v1 (Int.toNat r1) (ApiValue.mk 0 0 [] []))] : List ApiValue) ≤ 4294967296)) then (ref2_keyOf_l0 n m0 v1 (v5 ++ [(List.getD v1 (Int.toNat r1) (ApiValue.mk 0 0 [] []))]) v9 v10 (IntKind.wrap .i64 (v11 + 1)) w2) else none) else none)) else none) else (some v5)) := by kernel_rfl
theorem ref2_keyOf_l0_zero (n : Nat) (v1 : List ApiValue) (v5 : List ApiValue) (v9 : List (List UInt8)) (v10 : Int) (v11 : Int) (w2 : Rel) : ref2_keyOf_l0 n 0 v1 v5 v9 v10 v11 w2 = none := by kernel_rfl
theorem ref2_keyOf_l0_fold (n : Nat) (v1 : List ApiValue) (v9 : List (List UInt8)) (w2 : Rel) (v5 : List ApiValue) (hl : List.length v9 < 9223372036854775807) (m i : Nat) (hi : i ≤ List.length v9) (hm : List.length v9 - i < m) : ref2_keyOf_l0 n m v1 v5 v9 (List.length v9 : Int) (i : Int) w2 = foldK (S := (List ApiValue)) (fun i (a : (List UInt8)) s K => (Option.bind (ref2_column n w2 a) fun r1 => (bif (decide (0 ≤ r1) && decide (r1 < List.length v1)) then (bif (decide ((List.length s) = List.length s) && decide (List.length s + List.length ([(List.getD v1 (Int.toNat r1) (ApiValue.mk 0 0 [] []))] : List ApiValue) ≤ 4294967296)) then (K (s ++ [(List.getD v1 (Int.toNat r1) (ApiValue.mk 0 0 [] []))])) else none) else none))) (fun s => (some s)) (List.drop i v9) i (v5) := range_loop v9 [] hl (fun m (k : Int) (s : (List ApiValue)) => ref2_keyOf_l0 n m v1 s v9 (List.length v9 : Int) k w2) _ _ (fun m i s => (ref2_keyOf_l0_eq n m v1 s v9 (List.length v9 : Int) (i : Int) w2).trans (by kernel_rfl)) m i hi hm (v5)
theorem ref2_keyOf_eq (n : Nat) (x0 : Rel) (x1 : List ApiValue) : ref2_keyOf n x0 x1 = (ref2_keyOf_l0 n n x1 [] x0.Key (List.length x0.Key : Int) 0 x0) := by kernel_rfl
noncomputable def C54 (n : Nat) : Call2 E := more tt gl H (C53 n) n 84 Try.f84 [.t (.nm 3), .t (.sl (.nm 1))] (C53 n)
def srt85_ren : Go.Shelf.Ren := ⟨fun | 6 => 85 | 15 => 134 | 14 => 133 | 28 => 166 | 29 => 167 | 20 => 158 | 21 => 159 | 22 => 160 | 23 => 161 | 24 => 162 | 25 => 163 | 26 => 164 | 27 => 165 | 46 => 179 | 47 => 180 | 48 => 181 | 49 => 182 | 50 => 183 | 57 => 189 | n => n, fun | 22 => 55 | 24 => 49 | 25 => 52 | 3 => 3 | 39 => 149 | 0 => 0 | 53 => 204 | 55 => 150 | 4 => 4 | 46 => 198 | 45 => 197 | 50 => 58 | 5 => 5 | 9 => 9 | 66 => 211 | 70 => 215 | 76 => 220 | 77 => 29 | n => n, fun | n => n⟩
theorem srt85 : Go.Proofs.SlLaysF.n6 Try.prog srt85_ren := {
  mixed := by kernel_rfl
  f6 := ⟨"slices.SortFunc[[][]clapperbridge/api.Value,[]clapperbridge/api.Value]", by decide, Try.func85.trans (congrArg some (by kernel_rfl))⟩
  f14 := ⟨"slices.pdqsortCmpFunc[[]clapperbridge/api.Value]", by decide, Try.func133.trans (congrArg some (by kernel_rfl))⟩
  f15 := Try.func134.trans (congrArg some (by kernel_rfl))
  f20 := ⟨"slices.insertionSortCmpFunc[[]clapperbridge/api.Value]", by decide, Try.func158.trans (congrArg some (by kernel_rfl))⟩
  f21 := ⟨"slices.heapSortCmpFunc[[]clapperbridge/api.Value]", by decide, Try.func159.trans (congrArg some (by kernel_rfl))⟩
  f22 := ⟨"slices.breakPatternsCmpFunc[[]clapperbridge/api.Value]", by decide, Try.func160.trans (congrArg some (by kernel_rfl))⟩
  f23 := ⟨"slices.choosePivotCmpFunc[[]clapperbridge/api.Value]", by decide, Try.func161.trans (congrArg some (by kernel_rfl))⟩
  f24 := ⟨"slices.reverseRangeCmpFunc[[]clapperbridge/api.Value]", by decide, Try.func162.trans (congrArg some (by kernel_rfl))⟩
  f25 := ⟨"slices.partialInsertionSortCmpFunc[[]clapperbridge/api.Value]", by decide, Try.func163.trans (congrArg some (by kernel_rfl))⟩
  f26 := ⟨"slices.partitionEqualCmpFunc[[]clapperbridge/api.Value]", by decide, Try.func164.trans (congrArg some (by kernel_rfl))⟩
  f27 := ⟨"slices.partitionCmpFunc[[]clapperbridge/api.Value]", by decide, Try.func165.trans (congrArg some (by kernel_rfl))⟩
  f28 := Try.func166.trans (congrArg some (by kernel_rfl))
  f29 := Try.func167.trans (congrArg some (by kernel_rfl))
  f46 := ⟨"slices.siftDownCmpFunc[[]clapperbridge/api.Value]", by decide, Try.func179.trans (congrArg some (by kernel_rfl))⟩
  f47 := Try.func180.trans (congrArg some (by kernel_rfl))
  f48 := Try.func181.trans (congrArg some (by kernel_rfl))
  f49 := ⟨"slices.medianAdjacentCmpFunc[[]clapperbridge/api.Value]", by decide, Try.func182.trans (congrArg some (by kernel_rfl))⟩
  f50 := ⟨"slices.medianCmpFunc[[]clapperbridge/api.Value]", by decide, Try.func183.trans (congrArg some (by kernel_rfl))⟩
  f57 := ⟨"slices.order2CmpFunc[[]clapperbridge/api.Value]", by decide, Try.func189.trans (congrArg some (by kernel_rfl))⟩
  t0 := Try.underlying0
  a0 := Try.isAgg0
  z0 := Try.sizeOf0
  v0 := Try.zeroValue0
  t3 := Try.underlying3
  a3 := Try.isAgg3
  z3 := Try.sizeOf3
  v3 := Try.zeroValue3
  t4 := Try.underlying4
  a4 := Try.isAgg4
  z4 := Try.sizeOf4
  v4 := Try.zeroValue4
  t5 := Try.underlying5
  a5 := Try.isAgg5
  z5 := Try.sizeOf5
  v5 := Try.zeroValue5
  t9 := Try.underlying9
  a9 := Try.isAgg9
  z9 := Try.sizeOf9
  v9 := Try.zeroValue9
  t22 := Try.underlying55
  a22 := Try.isAgg55
  z22 := Try.sizeOf55
  v22 := Try.zeroValue55
  a24 := Try.isAgg49
  z24 := Try.sizeOf49
  t25 := Try.underlying52
  a25 := Try.isAgg52
  z25 := Try.sizeOf52
  v25 := Try.zeroValue52
  t39 := Try.underlying149
  a39 := Try.isAgg149
  z39 := Try.sizeOf149
  v39 := Try.zeroValue149
  t45 := Try.underlying197
  a45 := Try.isAgg197
  z45 := Try.sizeOf197
  v45 := Try.zeroValue197
  t46 := Try.underlying198
  a46 := Try.isAgg198
  z46 := Try.sizeOf198
  v46 := Try.zeroValue198
  t50 := Try.underlying58
  a50 := Try.isAgg58
  z50 := Try.sizeOf58
  v50 := Try.zeroValue58
  t53 := Try.underlying204
  a53 := Try.isAgg204
  z53 := Try.sizeOf204
  v53 := Try.zeroValue204
  t55 := Try.underlying150
  a55 := Try.isAgg150
  z55 := Try.sizeOf150
  v55 := Try.zeroValue150
  t66 := Try.underlying211
  a66 := Try.isAgg211
  z66 := Try.sizeOf211
  v66 := Try.zeroValue211
  t70 := Try.underlying215
  a70 := Try.isAgg215
  z70 := Try.sizeOf215
  v70 := Try.zeroValue215
  t76 := Try.underlying220
  a76 := Try.isAgg220
  z76 := Try.sizeOf220
  v76 := Try.zeroValue220
  t77 := Try.underlying29
  a77 := Try.isAgg29
  z77 := Try.sizeOf29
  v77 := Try.zeroValue29 }
theorem fnok85 : FnOK Try.prog 85 := ⟨Try.f85, _, Try.func85, by decide, rfl⟩
theorem sortc85 : SortC Try.prog 85 false 1 := sortC1 srt85
noncomputable def C55 (n : Nat) : Call2 E := moreS 85 (.sl (.nm 1)) (C54 n)

/- clapperbridge/clapref2.RelErr -/
noncomputable def ref2_RelErr (n : Nat) (x0 : Rel) : Option Int := F2 (E := E) tt gl H (C55 n) n 32 Try.f32 [.t (.nm 3)] (x0, ())
noncomputable def ref2_RelErr_l0 (n : Nat) (m0 : Nat) (v21 : List (List ApiValue)) (v22 : Int) (v23 : Int) (w1 : Rel) : Option Int := lp (E := E) (ps := [.t (.nm 3)]) tt gl H (C55 n) n 32 Try.f32 [1, 1, 1, 0, 1, 0] [] m0 ⟨mkT 89 0 [(1, .ptr 1 (.nm 3) []), (21, .t (.sl (.sl (.nm 1))) v21), (22, .t (.int .i64) v22), (23, .t (.int .i64) v23)], mkB 356 0 [(1, .var (.nm 3) (.t (.nm 3) w1))]⟩
noncomputable def ref2_RelErr_l2 (n : Nat) (m0 : Nat) (v53 : List (List ApiValue)) (v54 : Int) (v55 : Int) (w1 : Rel) (w23 : List (List ApiValue)) : Option Int := lp (E := E) (ps := [.t (.nm 3)]) tt gl H (C55 n) n 32 Try.f32 [1, 1, 1, 1, 1, 1, 0, 1, 0] [] m0 ⟨mkT 89 0 [(1, .ptr 1 (.nm 3) []), (7, .fs 23 (.sl (.nm 1)) 0 (List.length w23)), (53, .t (.sl (.sl (.nm 1))) v53), (54, .t (.int .i64) v54), (55, .t (.int .i64) v55)], mkB 356 0 [(1, .var (.nm 3) (.t (.nm 3) w1)), (23, .row (.sl (.nm 1)) w23)]⟩
noncomputable def ref2_RelErr_l4 (n : Nat) (m0 : Nat) (v7l : Nat) (v69 : Int) (v70 : Int) (w23 : List (List ApiValue)) : Option Int := lp (E := E) (ps := [.t (.nm 3)]) tt gl H (C55 n) n 32 Try.f32 [1, 1, 1, 1, 1, 1, 1, 1, 0, 1, 0] [] m0 ⟨mkT 89 0 [(7, .fs 23 (.sl (.nm 1)) 0 v7l), (69, .t (.int .i64) v69), (70, .t (.int .i64) v70)], mkB 356 0 [(23, .row (.sl (.nm 1)) w23)]⟩
theorem ref2_RelErr_l4_eq (n : Nat) (m0 : Nat) (v7l : Nat) (v69 : Int) (v70 : Int) (w23 : List (List ApiValue)) : ref2_RelErr_l4 n (m0 + 1) v7l v69 v70 w23 = (bif (decide (v70 < v69)) then (bif (decide (v70 > 0)) then (bif (decide (0 ≤ (IntKind.wrap .i64 (v70 - 1))) && decide ((IntKind.wrap .i64 (v70 - 1)) < (v7l : Int))) then (bif (decide ((0 + (Int.toNat (IntKind.wrap .i64 (v70 - 1)))) < List.length w23)) then (bif (decide (0 ≤ v70) && decide (v70 < (v7l : Int))) then (bif (decide ((0 + (Int.toNat v70)) < List.length w23)) then (Option.bind (ref2_Order n (List.getD w23 (0 + (Int.toNat (IntKind.wrap .i64 (v70 - 1)))) []) (List.getD w23 (0 + (Int.toNat v70)) [])) fun r6 => (bif (decide (r6 = 0)) then (some 16) else (ref2_RelErr_l4 n m0 v7l v69 (IntKind.wrap .i64 (v70 + 1)) w23))) else none) else none) else none) else none) else (ref2_RelErr_l4 n m0 v7l v69 (IntKind.wrap .i64 (v70 + 1)) w23)) else (some 0)) := by kernel_rfl
theorem ref2_RelErr_l4_zero (n : Nat) (v7l : Nat) (v69 : Int) (v70 : Int) (w23 : List (List ApiValue)) : ref2_RelErr_l4 n 0 v7l v69 v70 w23 = none := by kernel_rfl
theorem ref2_RelErr_l4_fold (n : Nat) (v7l : Nat) (w23 : List (List ApiValue)) (N : Nat) (hl : N < 9223372036854775807) (m i : Nat) (hi : i ≤ N) (hm : N - i < m) : ref2_RelErr_l4 n m v7l (N : Int) (i : Int) w23 = foldN (S := Unit) (fun i s K => (bif (decide ((i : Int) > 0)) then (bif (decide (0 ≤ (IntKind.wrap .i64 ((i : Int) - 1))) && decide ((IntKind.wrap .i64 ((i : Int) - 1)) < (v7l : Int))) then (bif (decide ((0 + (Int.toNat (IntKind.wrap .i64 ((i : Int) - 1)))) < List.length w23)) then (bif (decide (0 ≤ (i : Int)) && decide ((i : Int) < (v7l : Int))) then (bif (decide ((0 + (Int.toNat (i : Int))) < List.length w23)) then (Option.bind (ref2_Order n (List.getD w23 (0 + (Int.toNat (IntKind.wrap .i64 ((i : Int) - 1)))) []) (List.getD w23 (0 + (Int.toNat (i : Int))) [])) fun r6 => (bif (decide (r6 = 0)) then (some 16) else (K ()))) else none) else none) else none) else none) else (K ()))) (fun s => (some 0)) (N - i) i () := count_loop N hl (fun m (k : Int) (s : Unit) => ref2_RelErr_l4 n m v7l (N : Int) k w23) _ _ (fun m i s => (ref2_RelErr_l4_eq n m v7l (N : Int) (i : Int) w23).trans (by kernel_rfl)) m i hi hm ()
theorem ref2_RelErr_l2_eq (n : Nat) (m0 : Nat) (v53 : List (List ApiValue)) (v54 : Int) (v55 : Int) (w1 : Rel) (w23 : List (List ApiValue)) : ref2_RelErr_l2 n (m0 + 1) v53 v54 v55 w1 w23 = (bif (decide (v55 < v54)) then (bif (decide (0 ≤ v55) && decide (v55 < List.length v53)) then (Option.bind (ref2_keyOf n w1 (List.getD v53 (Int.toNat v55) [])) fun r4 => (bif (decide ((List.length w23) = List.length w23) && decide (List.length w23 + List.length ([r4] : List (List ApiValue)) ≤ 4294967296)) then (ref2_RelErr_l2 n m0 v53 v54 (IntKind.wrap .i64 (v55 + 1)) w1 (w23 ++ [r4])) else none)) else none) else (Option.bind (sortO (fun a b => Option.bind (ref2_Order n a b) fun r => some r) (List.take (List.length w23) w23)) fun r5 => (ref2_RelErr_l4 n n (List.length w23) ((List.length w23) : Int) 0 (over w23 r5 0)))) := by kernel_rfl
theorem ref2_RelErr_l2_zero (n : Nat) (v53 : List (List ApiValue)) (v54 : Int) (v55 : Int) (w1 : Rel) (w23 : List (List ApiValue)) : ref2_RelErr_l2 n 0 v53 v54 v55 w1 w23 = none := by kernel_rfl
theorem ref2_RelErr_l2_fold (n : Nat) (v53 : List (List ApiValue)) (w1 : Rel) (w23 : List (List ApiValue)) (hl : List.length v53 < 9223372036854775807) (m i : Nat) (hi : i ≤ List.length v53) (hm : List.length v53 - i < m) : ref2_RelErr_l2 n m v53 (List.length v53 : Int) (i : Int) w1 w23 = foldK (S := (List (List ApiValue))) (fun i (a : (List ApiValue)) s K => (Option.bind (ref2_keyOf n w1 a) fun r4 => (bif (decide ((List.length s) = List.length s) && decide (List.length s + List.length ([r4] : List (List ApiValue)) ≤ 4294967296)) then (K (s ++ [r4])) else none))) (fun s => (Option.bind (sortO (fun a b => Option.bind (ref2_Order n a b) fun r => some r) (List.take (List.length s) s)) fun r5 => (ref2_RelErr_l4 n n (List.length s) ((List.length s) : Int) 0 (over s r5 0)))) (List.drop i v53) i (w23) := range_loop v53 [] hl (fun m (k : Int) (s : (List (List ApiValue))) => ref2_RelErr_l2 n m v53 (List.length v53 : Int) k w1 s) _ _ (fun m i s => (ref2_RelErr_l2_eq n m v53 (List.length v53 : Int) (i : Int) w1 s).trans (by kernel_rfl)) m i hi hm (w23)
theorem ref2_RelErr_l0_eq (n : Nat) (m0 : Nat) (v21 : List (List ApiValue)) (v22 : Int) (v23 : Int) (w1 : Rel) : ref2_RelErr_l0 n (m0 + 1) v21 v22 v23 w1 = (bif (decide (v23 < v22)) then (bif (decide (0 ≤ v23) && decide (v23 < List.length v21)) then (Option.bind (ref2_RowErr n w1 (List.getD v21 (Int.toNat v23) [])) fun r2 => (bif (!decide (r2 = 0)) then (some r2) else (bif (decide (v23 > 0)) then (bif (decide (0 ≤ (IntKind.wrap .i64 (v23 - 1))) && decide ((IntKind.wrap .i64 (v23 - 1)) < List.length w1.Rows)) then (Option.bind (ref2_Order n (List.getD v21 (Int.toNat v23) []) (List.getD w1.Rows (Int.toNat (IntKind.wrap .i64 (v23 - 1))) [])) fun r3 => (bif (decide (r3 ≤ 0)) then (some 9) else (ref2_RelErr_l0 n m0 v21 v22 (IntKind.wrap .i64 (v23 + 1)) w1))) else none) else (ref2_RelErr_l0 n m0 v21 v22 (IntKind.wrap .i64 (v23 + 1)) w1)))) else none) else (bif (decide ((List.length w1.Key : Int) = 0)) then (some 0) else (ref2_RelErr_l2 n n w1.Rows (List.length w1.Rows : Int) 0 w1 []))) := by kernel_rfl
theorem ref2_RelErr_l0_zero (n : Nat) (v21 : List (List ApiValue)) (v22 : Int) (v23 : Int) (w1 : Rel) : ref2_RelErr_l0 n 0 v21 v22 v23 w1 = none := by kernel_rfl
theorem ref2_RelErr_l0_fold (n : Nat) (v21 : List (List ApiValue)) (w1 : Rel) (hl : List.length v21 < 9223372036854775807) (m i : Nat) (hi : i ≤ List.length v21) (hm : List.length v21 - i < m) : ref2_RelErr_l0 n m v21 (List.length v21 : Int) (i : Int) w1 = foldK (S := Unit) (fun i (a : (List ApiValue)) s K => (Option.bind (ref2_RowErr n w1 a) fun r2 => (bif (!decide (r2 = 0)) then (some r2) else (bif (decide ((i : Int) > 0)) then (bif (decide (0 ≤ (IntKind.wrap .i64 ((i : Int) - 1))) && decide ((IntKind.wrap .i64 ((i : Int) - 1)) < List.length w1.Rows)) then (Option.bind (ref2_Order n a (List.getD w1.Rows (Int.toNat (IntKind.wrap .i64 ((i : Int) - 1))) [])) fun r3 => (bif (decide (r3 ≤ 0)) then (some 9) else (K ()))) else none) else (K ()))))) (fun s => (bif (decide ((List.length w1.Key : Int) = 0)) then (some 0) else (ref2_RelErr_l2 n n w1.Rows (List.length w1.Rows : Int) 0 w1 []))) (List.drop i v21) i () := range_loop v21 [] hl (fun m (k : Int) (s : Unit) => ref2_RelErr_l0 n m v21 (List.length v21 : Int) k w1) _ _ (fun m i s => (ref2_RelErr_l0_eq n m v21 (List.length v21 : Int) (i : Int) w1).trans (by kernel_rfl)) m i hi hm ()
theorem ref2_RelErr_eq (n : Nat) (x0 : Rel) : ref2_RelErr n x0 = (Option.bind (ref2_HeadErr n x0) fun r1 => (bif (!decide (r1 = 0)) then (some r1) else (bif (decide ((List.length x0.Rows : Int) > 300)) then (some 2) else (ref2_RelErr_l0 n n x0.Rows (List.length x0.Rows : Int) 0 x0)))) := by kernel_rfl
noncomputable def C56 (n : Nat) : Call2 E := more tt gl H (C55 n) n 32 Try.f32 [.t (.nm 3)] (C55 n)

/- clapperbridge/clapref2.lst -/
noncomputable def ref2_lst (n : Nat) (x0 : List ApiValue) : Option ApiValue := F2 (E := E) tt gl H (C56 n) n 89 Try.f89 [.t (.sl (.nm 1))] (x0, ())
noncomputable def ref2_lst_l0 (n : Nat) (m0 : Nat) (v7 : List ApiValue) (v8 : Int) (v9 : Int) (w2 : ApiValue) (w3_0 : Int) (w3_1 : Int) (w3_2 : List UInt8) (w3_3 : List ApiField) : Option ApiValue := lp (E := E) (ps := [.t (.sl (.nm 1))]) tt gl H (C56 n) n 89 Try.f89 [1, 1, 0, 1, 0] [] m0 ⟨mkT 22 0 [(2, .ptr 2 (.nm 1) []), (3, .ptr 3 (.nm 1) []), (7, .t (.sl (.nm 1)) v7), (8, .t (.int .i64) v8), (9, .t (.int .i64) v9)], mkB 88 0 [(2, .var (.nm 1) (.t (.nm 1) w2)), (3, .var (.nm 1) (.agg [.t (.int .i64) w3_0, .t (.int .i64) w3_1, .t .str w3_2, .sl 87 (.nm 2) w3_3])), (87, .grow (.nm 2) (List.length w3_3))]⟩
theorem ref2_lst_l0_eq (n : Nat) (m0 : Nat) (v7 : List ApiValue) (v8 : Int) (v9 : Int) (w2 : ApiValue) (w3_0 : Int) (w3_1 : Int) (w3_2 : List UInt8) (w3_3 : List ApiField) : ref2_lst_l0 n (m0 + 1) v7 v8 v9 w2 w3_0 w3_1 w3_2 w3_3 = (bif (decide (v9 < v8)) then (bif (decide (0 ≤ v9) && decide (v9 < List.length v7)) then (bif (decide ((List.length w3_3) = List.length w3_3) && decide (List.length w3_3 + List.length ([(ApiField.mk [] (List.getD v7 (Int.toNat v9) (ApiValue.mk 0 0 [] [])))] : List ApiField) ≤ 4294967296)) then (ref2_lst_l0 n m0 v7 v8 (IntKind.wrap .i64 (v9 + 1)) w2 w3_0 w3_1 w3_2 (w3_3 ++ [(ApiField.mk [] (List.getD v7 (Int.toNat v9) (ApiValue.mk 0 0 [] [])))])) else none) else none) else (some (ApiValue.mk w3_0 w3_1 w3_2 w3_3))) := by kernel_rfl
theorem ref2_lst_l0_zero (n : Nat) (v7 : List ApiValue) (v8 : Int) (v9 : Int) (w2 : ApiValue) (w3_0 : Int) (w3_1 : Int) (w3_2 : List UInt8) (w3_3 : List ApiField) : ref2_lst_l0 n 0 v7 v8 v9 w2 w3_0 w3_1 w3_2 w3_3 = none := by kernel_rfl
theorem ref2_lst_l0_fold (n : Nat) (v7 : List ApiValue) (w2 : ApiValue) (w3_0 : Int) (w3_1 : Int) (w3_2 : List UInt8) (w3_3 : List ApiField) (hl : List.length v7 < 9223372036854775807) (m i : Nat) (hi : i ≤ List.length v7) (hm : List.length v7 - i < m) : ref2_lst_l0 n m v7 (List.length v7 : Int) (i : Int) w2 w3_0 w3_1 w3_2 w3_3 = foldK (S := (List ApiField)) (fun i (a : ApiValue) s K => (bif (decide ((List.length s) = List.length s) && decide (List.length s + List.length ([(ApiField.mk [] a)] : List ApiField) ≤ 4294967296)) then (K (s ++ [(ApiField.mk [] a)])) else none)) (fun s => (some (ApiValue.mk w3_0 w3_1 w3_2 s))) (List.drop i v7) i (w3_3) := range_loop v7 (ApiValue.mk 0 0 [] []) hl (fun m (k : Int) (s : (List ApiField)) => ref2_lst_l0 n m v7 (List.length v7 : Int) k w2 w3_0 w3_1 w3_2 s) _ _ (fun m i s => (ref2_lst_l0_eq n m v7 (List.length v7 : Int) (i : Int) w2 w3_0 w3_1 w3_2 s).trans (by kernel_rfl)) m i hi hm (w3_3)
theorem ref2_lst_eq (n : Nat) (x0 : List ApiValue) : ref2_lst n x0 = (ref2_lst_l0 n n x0 (List.length x0 : Int) 0 (ApiValue.mk 0 0 [] []) 8 0 [] []) := by kernel_rfl
noncomputable def C57 (n : Nat) : Call2 E := more tt gl H (C56 n) n 89 Try.f89 [.t (.sl (.nm 1))] (C56 n)

/- clapperbridge/clapref2.RelValue -/
noncomputable def ref2_RelValue (n : Nat) (x0 : Rel) : Option ApiValue := F2 (E := E) tt gl H (C57 n) n 39 Try.f39 [.t (.nm 3)] (x0, ())
noncomputable def ref2_RelValue_l0 (n : Nat) (m0 : Nat) (v3 : List ApiValue) (v10 : List (List ApiValue)) (v11 : Int) (v12 : Int) (w1 : Rel) (w2 : ApiValue) : Option ApiValue := lp (E := E) (ps := [.t (.nm 3)]) tt gl H (C57 n) n 39 Try.f39 [1, 1, 0, 1, 0] [] m0 ⟨mkT 45 0 [(1, .ptr 1 (.nm 3) []), (2, .ptr 2 (.nm 1) []), (3, .sl 19 (.nm 1) v3), (10, .t (.sl (.sl (.nm 1))) v10), (11, .t (.int .i64) v11), (12, .t (.int .i64) v12)], mkB 180 0 [(1, .var (.nm 3) (.t (.nm 3) w1)), (2, .var (.nm 1) (.t (.nm 1) w2)), (19, .grow (.nm 1) (List.length v3))]⟩
noncomputable def ref2_RelValue_l2 (n : Nat) (m0 : Nat) (m1 : Nat) (v3 : List ApiValue) (v5 : List ApiValue) (v10 : List (List ApiValue)) (v11 : Int) (v12 : Int) (v18 : List Col) (v19 : Int) (v20 : Int) (w1 : Rel) (w2 : ApiValue) (w6_0 : Int) (w6_1 : Int) (w6_2 : List UInt8) (w6_3 : List ApiField) : Option ApiValue := lp (E := E) (ps := [.t (.nm 3)]) tt gl H (C57 n) n 39 Try.f39 [1, 1, 0, 1, 0, 0, 1, 1, 0, 0, 1, 1, 0, 1, 0] [m0] m1 ⟨mkT 45 0 [(1, .ptr 1 (.nm 3) []), (2, .ptr 2 (.nm 1) []), (3, .sl 19 (.nm 1) v3), (5, .t (.sl (.nm 1)) v5), (6, .ptr 6 (.nm 1) []), (10, .t (.sl (.sl (.nm 1))) v10), (11, .t (.int .i64) v11), (12, .t (.int .i64) v12), (18, .t (.sl (.nm 0)) v18), (19, .t (.int .i64) v19), (20, .t (.int .i64) v20)], mkB 180 0 [(1, .var (.nm 3) (.t (.nm 3) w1)), (2, .var (.nm 1) (.t (.nm 1) w2)), (6, .var (.nm 1) (.agg [.t (.int .i64) w6_0, .t (.int .i64) w6_1, .t .str w6_2, .sl 179 (.nm 2) w6_3])), (19, .grow (.nm 1) (List.length v3)), (179, .grow (.nm 2) (List.length w6_3))]⟩
theorem ref2_RelValue_l2_eq (n : Nat) (m0 : Nat) (m1 : Nat) (v3 : List ApiValue) (v5 : List ApiValue) (v10 : List (List ApiValue)) (v11 : Int) (v12 : Int) (v18 : List Col) (v19 : Int) (v20 : Int) (w1 : Rel) (w2 : ApiValue) (w6_0 : Int) (w6_1 : Int) (w6_2 : List UInt8) (w6_3 : List ApiField) : ref2_RelValue_l2 n m0 (m1 + 1) v3 v5 v10 v11 v12 v18 v19 v20 w1 w2 w6_0 w6_1 w6_2 w6_3 = (bif (decide (v20 < v19)) then (bif (decide (0 ≤ v20) && decide (v20 < List.length v18)) then (bif (decide (0 ≤ v20) && decide (v20 < List.length v5)) then (bif (decide ((List.length w6_3) = List.length w6_3) && decide (List.length w6_3 + List.length ([(ApiField.mk ((List.getD v18 (Int.toNat v20) (Col.mk [] 0)).Name) (List.getD v5 (Int.toNat v20) (ApiValue.mk 0 0 [] [])))] : List ApiField) ≤ 4294967296)) then (ref2_RelValue_l2 n m0 m1 v3 v5 v10 v11 v12 v18 v19 (IntKind.wrap .i64 (v20 + 1)) w1 w2 w6_0 w6_1 w6_2 (w6_3 ++ [(ApiField.mk ((List.getD v18 (Int.toNat v20) (Col.mk [] 0)).Name) (List.getD v5 (Int.toNat v20) (ApiValue.mk 0 0 [] [])))])) else none) else none) else none) else (bif (decide ((List.length v3) = List.length v3) && decide (List.length v3 + List.length ([(ApiValue.mk w6_0 w6_1 w6_2 w6_3)] : List ApiValue) ≤ 4294967296)) then (ref2_RelValue_l0 n m0 (v3 ++ [(ApiValue.mk w6_0 w6_1 w6_2 w6_3)]) v10 v11 (IntKind.wrap .i64 (v12 + 1)) w1 w2) else none)) := by kernel_rfl
theorem ref2_RelValue_l2_zero (n : Nat) (m0 : Nat) (v3 : List ApiValue) (v5 : List ApiValue) (v10 : List (List ApiValue)) (v11 : Int) (v12 : Int) (v18 : List Col) (v19 : Int) (v20 : Int) (w1 : Rel) (w2 : ApiValue) (w6_0 : Int) (w6_1 : Int) (w6_2 : List UInt8) (w6_3 : List ApiField) : ref2_RelValue_l2 n m0 0 v3 v5 v10 v11 v12 v18 v19 v20 w1 w2 w6_0 w6_1 w6_2 w6_3 = none := by kernel_rfl
theorem ref2_RelValue_l2_fold (n : Nat) (m0 : Nat) (v3 : List ApiValue) (v5 : List ApiValue) (v10 : List (List ApiValue)) (v11 : Int) (v12 : Int) (v18 : List Col) (w1 : Rel) (w2 : ApiValue) (w6_0 : Int) (w6_1 : Int) (w6_2 : List UInt8) (w6_3 : List ApiField) (hl : List.length v18 < 9223372036854775807) (m i : Nat) (hi : i ≤ List.length v18) (hm : List.length v18 - i < m) : ref2_RelValue_l2 n m0 m v3 v5 v10 v11 v12 v18 (List.length v18 : Int) (i : Int) w1 w2 w6_0 w6_1 w6_2 w6_3 = foldK (S := (List ApiField)) (fun i (a : Col) s K => (bif (decide (0 ≤ (i : Int)) && decide ((i : Int) < List.length v5)) then (bif (decide ((List.length s) = List.length s) && decide (List.length s + List.length ([(ApiField.mk (a.Name) (List.getD v5 (Int.toNat (i : Int)) (ApiValue.mk 0 0 [] [])))] : List ApiField) ≤ 4294967296)) then (K (s ++ [(ApiField.mk (a.Name) (List.getD v5 (Int.toNat (i : Int)) (ApiValue.mk 0 0 [] [])))])) else none) else none)) (fun s => (bif (decide ((List.length v3) = List.length v3) && decide (List.length v3 + List.length ([(ApiValue.mk w6_0 w6_1 w6_2 s)] : List ApiValue) ≤ 4294967296)) then (ref2_RelValue_l0 n m0 (v3 ++ [(ApiValue.mk w6_0 w6_1 w6_2 s)]) v10 v11 (IntKind.wrap .i64 (v12 + 1)) w1 w2) else none)) (List.drop i v18) i (w6_3) := range_loop v18 (Col.mk [] 0) hl (fun m (k : Int) (s : (List ApiField)) => ref2_RelValue_l2 n m0 m v3 v5 v10 v11 v12 v18 (List.length v18 : Int) k w1 w2 w6_0 w6_1 w6_2 s) _ _ (fun m i s => (ref2_RelValue_l2_eq n m0 m v3 v5 v10 v11 v12 v18 (List.length v18 : Int) (i : Int) w1 w2 w6_0 w6_1 w6_2 s).trans (by kernel_rfl)) m i hi hm (w6_3)
theorem ref2_RelValue_l0_eq (n : Nat) (m0 : Nat) (v3 : List ApiValue) (v10 : List (List ApiValue)) (v11 : Int) (v12 : Int) (w1 : Rel) (w2 : ApiValue) : ref2_RelValue_l0 n (m0 + 1) v3 v10 v11 v12 w1 w2 = (bif (decide (v12 < v11)) then (bif (decide (0 ≤ v12) && decide (v12 < List.length v10)) then (ref2_RelValue_l2 n m0 n v3 (List.getD v10 (Int.toNat v12) []) v10 v11 v12 w1.Cols (List.length w1.Cols : Int) 0 w1 w2 6 0 [] []) else none) else (Option.bind (ref2_lst n v3) fun r1 => (some r1))) := by kernel_rfl
theorem ref2_RelValue_l0_zero (n : Nat) (v3 : List ApiValue) (v10 : List (List ApiValue)) (v11 : Int) (v12 : Int) (w1 : Rel) (w2 : ApiValue) : ref2_RelValue_l0 n 0 v3 v10 v11 v12 w1 w2 = none := by kernel_rfl
theorem ref2_RelValue_eq (n : Nat) (x0 : Rel) : ref2_RelValue n x0 = (ref2_RelValue_l0 n n [] x0.Rows (List.length x0.Rows : Int) 0 x0 (ApiValue.mk 0 0 [] [])) := by kernel_rfl
noncomputable def C58 (n : Nat) : Call2 E := more tt gl H (C57 n) n 39 Try.f39 [.t (.nm 3)] (C57 n)

/- clapperbridge/claplaw2.RelRows -/
noncomputable def law2_RelRows (n : Nat) (x0 : Rel) (x1 : Int) (x2 : Int) : Option Bool := F2 (E := E) tt gl H (C58 n) n 7 Try.f7 [.t (.nm 3), .t (.int .i64), .t (.int .i64)] (x0, x1, x2, ())
theorem law2_RelRows_eq (n : Nat) (x0 : Rel) (x1 : Int) (x2 : Int) : law2_RelRows n x0 x1 x2 = (Option.bind (law2_rels n) fun r1 => (bif (!r1) then (some false) else (Option.bind (rel_Type n x0) fun r2 => (Option.bind (ref2_Rowed n x0.Cols) fun r3 => (Option.bind (law2_sameType n n r2 r3) fun r4 => (bif (!r4) then (some false) else (Option.bind (rel_Full n x2) fun r5 => (Option.bind (ref2_Kinded n x2) fun r6 => (Option.bind (law2_sameType n n r5 r6) fun r7 => (bif (!r7) then (some false) else (Option.bind (rel_Row n x0 x1) fun r8 => (Option.bind (ref2_RelErr n x0) fun r9 => (bif (decide (r9 = 0)) then (bif (decide (x1 < 0)) then (bif (!decide ((11 : Int) = 0)) then (bif (decide (r8.2 = 11)) then (Option.bind (value_Same n r8.1 (ApiValue.mk 0 0 [] [])) fun r10 => (some r10)) else (some false)) else (bif (decide (r8.2 = 0)) then (Option.bind (ref2_RelValue n x0) fun r11 => (bif (decide (0 ≤ x1) && decide (x1 < List.length r11.Fields)) then (Option.bind (value_Same n r8.1 ((List.getD r11.Fields (Int.toNat x1) (ApiField.mk [] (ApiValue.mk 0 0 [] []))).Val)) fun r12 => (some r12)) else none)) else (some false))) else (bif (decide (x1 ≥ (List.length x0.Rows : Int))) then (bif (!decide ((11 : Int) = 0)) then (bif (decide (r8.2 = 11)) then (Option.bind (value_Same n r8.1 (ApiValue.mk 0 0 [] [])) fun r13 => (some r13)) else (some false)) else (bif (decide (r8.2 = 0)) then (Option.bind (ref2_RelValue n x0) fun r14 => (bif (decide (0 ≤ x1) && decide (x1 < List.length r14.Fields)) then (Option.bind (value_Same n r8.1 ((List.getD r14.Fields (Int.toNat x1) (ApiField.mk [] (ApiValue.mk 0 0 [] []))).Val)) fun r15 => (some r15)) else none)) else (some false))) else (bif (!decide (r9 = 0)) then (bif (decide (r8.2 = r9)) then (Option.bind (value_Same n r8.1 (ApiValue.mk 0 0 [] [])) fun r16 => (some r16)) else (some false)) else (bif (decide (r8.2 = 0)) then (Option.bind (ref2_RelValue n x0) fun r17 => (bif (decide (0 ≤ x1) && decide (x1 < List.length r17.Fields)) then (Option.bind (value_Same n r8.1 ((List.getD r17.Fields (Int.toNat x1) (ApiField.mk [] (ApiValue.mk 0 0 [] []))).Val)) fun r18 => (some r18)) else none)) else (some false))))) else (bif (!decide (r9 = 0)) then (bif (decide (r8.2 = r9)) then (Option.bind (value_Same n r8.1 (ApiValue.mk 0 0 [] [])) fun r19 => (some r19)) else (some false)) else (bif (decide (r8.2 = 0)) then (Option.bind (ref2_RelValue n x0) fun r20 => (bif (decide (0 ≤ x1) && decide (x1 < List.length r20.Fields)) then (Option.bind (value_Same n r8.1 ((List.getD r20.Fields (Int.toNat x1) (ApiField.mk [] (ApiValue.mk 0 0 [] []))).Val)) fun r21 => (some r21)) else none)) else (some false)))))))))))))))) := by kernel_rfl
noncomputable def C59 (n : Nat) : Call2 E := more tt gl H (C58 n) n 7 Try.f7 [.t (.nm 3), .t (.int .i64), .t (.int .i64)] (C58 n)

theorem ok0 (n : Nat) : CallOK Try.prog gl (callR (C0 n)) := none_ok
theorem ok1 (n : Nat) : CallOK Try.prog gl (callR (C1 n)) := more_ok envOK hz tok hmix (ok0 n) (ok0 n) Try.func36 (by decide)
theorem ok2 (n : Nat) : CallOK Try.prog gl (callR (C2 n)) := more_ok envOK hz tok hmix (ok1 n) (ok1 n) Try.func34 (by decide)
theorem ok3 (n : Nat) : CallOK Try.prog gl (callR (C3 n)) := more_ok envOK hz tok hmix (ok2 n) (ok2 n) Try.func105 (by decide)
theorem ok4 (n : Nat) : CallOK Try.prog gl (callR (C4 n)) := more_ok envOK hz tok hmix (ok3 n) (ok3 n) Try.func128 (by decide)
theorem ok5 (n : Nat) : CallOK Try.prog gl (callR (C5 n)) := more_ok envOK hz tok hmix (ok4 n) (ok4 n) Try.func29 (by decide)
theorem ok6 (n : Nat) : CallOK Try.prog gl (callR (C6 n)) := more_ok envOK hz tok hmix (ok5 n) (ok5 n) Try.func127 (by decide)
theorem ok7 (n : Nat) : CallOK Try.prog gl (callR (C7 n)) := more_ok envOK hz tok hmix (ok6 n) (ok6 n) Try.func25 (by decide)
theorem ok8 (n : Nat) : CallOK Try.prog gl (callR (C8 n)) := more_ok envOK hz tok hmix (ok7 n) (ok7 n) Try.func78 (by decide)
theorem ok9 (n : Nat) : CallOK Try.prog gl (callR (C9 n)) := more_ok envOK hz tok hmix (ok8 n) (ok8 n) Try.func29 (by decide)
theorem ok10 (n : Nat) : CallOK Try.prog gl (callR (C10 n)) := more_ok envOK hz tok hmix (ok9 n) (ok9 n) Try.func28 (by decide)
theorem ok11 (n : Nat) : CallOK Try.prog gl (callR (C11 n)) := more_ok envOK hz tok hmix (ok10 n) (ok10 n) Try.func156 (by decide)
theorem ok12 (n : Nat) : CallOK Try.prog gl (callR (C12 n)) := more_ok envOK hz tok hmix (ok11 n) (ok11 n) Try.func129 (by decide)
theorem ok13 (n : Nat) : CallOK Try.prog gl (callR (C13 n)) := more_ok envOK hz tok hmix (ok12 n) (ok12 n) Try.func79 (by decide)
theorem okr13 : ∀ d n : Nat, CallOK Try.prog gl (callR (Cr13 d n))
  | 0, n => ok13 n
  | d + 1, n => (more_ok envOK hz tok hmix (okr13 d n) (ok13 n) Try.func110 (by decide))
theorem ok14 (n : Nat) : CallOK Try.prog gl (callR (C14 n)) := okr13 (n + 1) n
theorem okr14 : ∀ d n : Nat, CallOK Try.prog gl (callR (Cr14 d n))
  | 0, n => ok14 n
  | d + 1, n => (more_ok envOK hz tok hmix (okr14 d n) (ok14 n) Try.func111 (by decide))
theorem ok15 (n : Nat) : CallOK Try.prog gl (callR (C15 n)) := okr14 (n + 1) n
theorem ok16 (n : Nat) : CallOK Try.prog gl (callR (C16 n)) := more_ok envOK hz tok hmix (ok15 n) (ok15 n) Try.func174 (by decide)
theorem ok17 (n : Nat) : CallOK Try.prog gl (callR (C17 n)) := more_ok envOK hz tok hmix (ok16 n) (ok16 n) Try.func147 (by decide)
theorem ok18 (n : Nat) : CallOK Try.prog gl (callR (C18 n)) := more_ok envOK hz tok hmix (ok17 n) (ok17 n) Try.func148 (by decide)
theorem ok19 (n : Nat) : CallOK Try.prog gl (callR (C19 n)) := more_ok envOK hz tok hmix (ok18 n) (ok18 n) Try.func187 (by decide)
theorem ok20 (n : Nat) : CallOK Try.prog gl (callR (C20 n)) := more_ok envOK hz tok hmix (ok19 n) (ok19 n) Try.func190 (by decide)
theorem ok21 (n : Nat) : CallOK Try.prog gl (callR (C21 n)) := more_ok envOK hz tok hmix (ok20 n) (ok20 n) Try.func186 (by decide)
theorem ok22 (n : Nat) : CallOK Try.prog gl (callR (C22 n)) := more_ok envOK hz tok hmix (ok21 n) (ok21 n) Try.func175 (by decide)
theorem ok23 (n : Nat) : CallOK Try.prog gl (callR (C23 n)) := more_ok envOK hz tok hmix (ok22 n) (ok22 n) Try.func176 (by decide)
theorem ok24 (n : Nat) : CallOK Try.prog gl (callR (C24 n)) := more_ok envOK hz tok hmix (ok23 n) (ok23 n) Try.func149 (by decide)
theorem okr24 : ∀ d n : Nat, CallOK Try.prog gl (callR (Cr24 d n))
  | 0, n => ok24 n
  | d + 1, n => (more_ok envOK hz tok hmix (okr24 d n) (ok24 n) Try.func112 (by decide))
theorem ok25 (n : Nat) : CallOK Try.prog gl (callR (C25 n)) := okr24 (n + 1) n
theorem ok26 (n : Nat) : CallOK Try.prog gl (callR (C26 n)) := more_ok envOK hz tok hmix (ok25 n) (ok25 n) Try.func56 (by decide)
theorem ok27 (n : Nat) : CallOK Try.prog gl (callR (C27 n)) := more_ok envOK hz tok hmix (ok26 n) (ok26 n) Try.func80 (by decide)
theorem ok28 (n : Nat) : CallOK Try.prog gl (callR (C28 n)) := more_ok envOK hz tok hmix (ok27 n) (ok27 n) Try.func117 (by decide)
theorem ok29 (n : Nat) : CallOK Try.prog gl (callR (C29 n)) := more_ok envOK hz tok hmix (ok28 n) (ok28 n) Try.func109 (by decide)
theorem ok30 (n : Nat) : CallOK Try.prog gl (callR (C30 n)) := more_ok envOK hz tok hmix (ok29 n) (ok29 n) Try.func54 (by decide)
theorem ok31 (n : Nat) : CallOK Try.prog gl (callR (C31 n)) := moreF_ok (ok30 n) fnok119 func119
theorem ok32 (n : Nat) : CallOK Try.prog gl (callR (C32 n)) := more_ok envOK hz tok hmix (ok31 n) (ok31 n) Try.func118 (by decide)
theorem okr32 : ∀ d n : Nat, CallOK Try.prog gl (callR (Cr32 d n))
  | 0, n => ok32 n
  | d + 1, n => (more_ok envOK hz tok hmix (okr32 d n) (more_ok envOK hz tok hmix (okr32 d n) (more_ok envOK hz tok hmix (okr32 d n) (ok32 n) Try.func63 (by decide)) Try.func120 (by decide)) Try.func121 (by decide))
theorem ok33 (n : Nat) : CallOK Try.prog gl (callR (C33 n)) := okr32 (n + 1) n
theorem ok34 (n : Nat) : CallOK Try.prog gl (callR (C34 n)) := more_ok envOK hz tok hmix (ok33 n) (ok33 n) Try.func26 (by decide)
theorem ok35 (n : Nat) : CallOK Try.prog gl (callR (C35 n)) := more_ok envOK hz tok hmix (ok34 n) (ok34 n) Try.func17 (by decide)
theorem ok36 (n : Nat) : CallOK Try.prog gl (callR (C36 n)) := more_ok envOK hz tok hmix (ok35 n) (ok35 n) Try.func131 (by decide)
theorem ok37 (n : Nat) : CallOK Try.prog gl (callR (C37 n)) := more_ok envOK hz tok hmix (ok36 n) (ok36 n) Try.func157 (by decide)
theorem ok38 (n : Nat) : CallOK Try.prog gl (callR (C38 n)) := more_ok envOK hz tok hmix (ok37 n) (ok37 n) Try.func130 (by decide)
theorem ok39 (n : Nat) : CallOK Try.prog gl (callR (C39 n)) := more_ok envOK hz tok hmix (ok38 n) (ok38 n) Try.func81 (by decide)
theorem ok40 (n : Nat) : CallOK Try.prog gl (callR (C40 n)) := more_ok envOK hz tok hmix (ok39 n) (ok39 n) Try.func31 (by decide)
theorem ok41 (n : Nat) : CallOK Try.prog gl (callR (C41 n)) := more_ok envOK hz tok hmix (ok40 n) (ok40 n) Try.func22 (by decide)
theorem ok42 (n : Nat) : CallOK Try.prog gl (callR (C42 n)) := more_ok envOK hz tok hmix (ok41 n) (ok41 n) Try.func37 (by decide)
theorem ok43 (n : Nat) : CallOK Try.prog gl (callR (C43 n)) := more_ok envOK hz tok hmix (ok42 n) (ok42 n) Try.func35 (by decide)
theorem okr43 : ∀ d n : Nat, CallOK Try.prog gl (callR (Cr43 d n))
  | 0, n => ok43 n
  | d + 1, n => (more_ok envOK hz tok hmix (okr43 d n) (more_ok envOK hz tok hmix (okr43 d n) (more_ok envOK hz tok hmix (okr43 d n) (ok43 n) Try.func33 (by decide)) Try.func86 (by decide)) Try.func87 (by decide))
theorem ok44 (n : Nat) : CallOK Try.prog gl (callR (C44 n)) := okr43 (n + 1) n
theorem ok45 (n : Nat) : CallOK Try.prog gl (callR (C45 n)) := more_ok envOK hz tok hmix (ok44 n) (ok44 n) Try.func135 (by decide)
theorem ok46 (n : Nat) : CallOK Try.prog gl (callR (C46 n)) := moreN_ok envOK hz tok hmix (ok44 n) (ok45 n) Try.func135 (by decide) (slices_Clone_2_hq n)
theorem okr46 : ∀ d n : Nat, CallOK Try.prog gl (callR (Cr46 d n))
  | 0, n => ok46 n
  | d + 1, n => (more_ok envOK hz tok hmix (okr46 d n) (ok46 n) Try.func88 (by decide))
theorem ok47 (n : Nat) : CallOK Try.prog gl (callR (C47 n)) := okr46 (n + 1) n
theorem ok48 (n : Nat) : CallOK Try.prog gl (callR (C48 n)) := more_ok envOK hz tok hmix (ok47 n) (ok47 n) Try.func38 (by decide)
theorem ok49 (n : Nat) : CallOK Try.prog gl (callR (C49 n)) := more_ok envOK hz tok hmix (ok48 n) (ok48 n) Try.func82 (by decide)
theorem ok50 (n : Nat) : CallOK Try.prog gl (callR (C50 n)) := more_ok envOK hz tok hmix (ok49 n) (ok49 n) Try.func83 (by decide)
theorem ok51 (n : Nat) : CallOK Try.prog gl (callR (C51 n)) := more_ok envOK hz tok hmix (ok50 n) (ok50 n) Try.func77 (by decide)
theorem ok52 (n : Nat) : CallOK Try.prog gl (callR (C52 n)) := more_ok envOK hz tok hmix (ok51 n) (ok51 n) Try.func27 (by decide)
theorem ok53 (n : Nat) : CallOK Try.prog gl (callR (C53 n)) := more_ok envOK hz tok hmix (ok52 n) (ok52 n) Try.func132 (by decide)
theorem ok54 (n : Nat) : CallOK Try.prog gl (callR (C54 n)) := more_ok envOK hz tok hmix (ok53 n) (ok53 n) Try.func84 (by decide)
theorem ok55 (n : Nat) : CallOK Try.prog gl (callR (C55 n)) := moreS_ok envOK (ok54 n) fnok85 sortc85
theorem ok56 (n : Nat) : CallOK Try.prog gl (callR (C56 n)) := more_ok envOK hz tok hmix (ok55 n) (ok55 n) Try.func32 (by decide)
theorem ok57 (n : Nat) : CallOK Try.prog gl (callR (C57 n)) := more_ok envOK hz tok hmix (ok56 n) (ok56 n) Try.func89 (by decide)
theorem ok58 (n : Nat) : CallOK Try.prog gl (callR (C58 n)) := more_ok envOK hz tok hmix (ok57 n) (ok57 n) Try.func39 (by decide)
theorem ok59 (n : Nat) : CallOK Try.prog gl (callR (C59 n)) := more_ok envOK hz tok hmix (ok58 n) (ok58 n) Try.func7 (by decide)
theorem law_call (n : Nat) (x0 : Rel) (x1 : Int) (x2 : Int) : callR (C59 n) 7 [.t (.nm 3) x0, .t (.int .i64) x1, .t (.int .i64) x2] [.none, .none, .none] = (law2_RelRows n x0 x1 x2).map fun r => (.t .bool r, [.none, .none, .none]) := by kernel_rfl
theorem law_full : ∀ t ∈ ([57, 3, 3] : List Nat), ∃ x, tt t = some x ∧ x.ty.full = true := by
  intro t ht
  simp only [List.mem_cons, List.not_mem_nil, or_false] at ht
  rcases ht with rfl | rfl | rfl
  · exact ⟨⟨(.nm 3), .struct [(9, 0), (53, 1), (54, 2), (55, 3)]⟩, by kernel_rfl, rfl⟩
  · exact ⟨⟨(.int .i64), .int .i64⟩, by kernel_rfl, rfl⟩
  · exact ⟨⟨(.int .i64), .int .i64⟩, by kernel_rfl, rfl⟩
theorem law_ins {aa : List (AV E)} (h : Ins E tt [57, 3, 3] aa) {N : Nat} (hb : ∀ g, (aa.map (bulkA E g)).sum ≤ N) : ∃ (x0 : Rel) (x1 : Int) (x2 : Int), aa = [.t (.nm 3) x0, .t (.int .i64) x1, .t (.int .i64) x2] ∧ (∀ g, Fv.Good E g (.nm 3) x0) ∧ (∀ g, Fv.Good E g (.int .i64) x1) ∧ (∀ g, Fv.Good E g (.int .i64) x2) ∧ ∀ g, Bulk E g (.nm 3) x0 + Bulk E g (.int .i64) x1 + Bulk E g (.int .i64) x2 ≤ N := by
  cases h with
  | cons z0 e0 v0 g0 h => 
  have q0 := Option.some.inj (e0.symm.trans (show tt 57 = some ⟨(.nm 3), .struct [(9, 0), (53, 1), (54, 2), (55, 3)]⟩ by kernel_rfl))
  subst q0
  cases h with
  | cons z1 e1 v1 g1 h => 
  have q1 := Option.some.inj (e1.symm.trans (show tt 3 = some ⟨(.int .i64), .int .i64⟩ by kernel_rfl))
  subst q1
  cases h with
  | cons z2 e2 v2 g2 h => 
  have q2 := Option.some.inj (e2.symm.trans (show tt 3 = some ⟨(.int .i64), .int .i64⟩ by kernel_rfl))
  subst q2
  cases h
  exact ⟨v0, v1, v2, rfl, g0, g1, g2, fun g => Nat.le_trans (Nat.le_of_eq (by simp [bulkA, Nat.add_assoc])) (hb g)⟩
theorem law_pure (ok : ∀ (x0 : Rel) (x1 : Int) (x2 : Int) (h0 : ∀ g, Fv.Good E g (.nm 3) x0) (h1 : ∀ g, Fv.Good E g (.int .i64) x1) (h2 : ∀ g, Fv.Good E g (.int .i64) x2) (hb : ∀ g, Bulk E g (.nm 3) x0 + Bulk E g (.int .i64) x1 + Bulk E g (.int .i64) x2 ≤ 1048576), ∃ n, law2_RelRows n x0 x1 x2 = some true) (aa : List (AV E)) (h : Ins E tt [57, 3, 3] aa) (hb : ∀ g, (aa.map (bulkA E g)).sum ≤ 1048576) : ∃ n outs, callR (C59 n) 7 aa (List.replicate ([57, 3, 3] : List Nat).length .none) = some (.t .bool true, outs) := by
  obtain ⟨x0, x1, x2, rfl, h0, h1, h2, hk⟩ := law_ins h hb
  obtain ⟨n, hn⟩ := ok x0 x1 x2 h0 h1 h2 hk
  exact ⟨n, _, (law_call n x0 x1 x2).trans (by rw [hn]; rfl)⟩
end Go.Proofs.Ytcdnhlcafkomfaa.PRelRows
