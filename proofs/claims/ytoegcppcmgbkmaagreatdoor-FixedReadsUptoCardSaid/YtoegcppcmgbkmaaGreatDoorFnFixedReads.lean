/- The functions that the law FixedReads reaches, as the evaluator reckons them. No condition. -/
import Derived.Test.YtoegcppcmgbkmaaGreatDoorFvI
import Derived.Ground.MpProg
import Derived.Ground.NamesProg
import Derived.Shelf.Strconv.AtoiAll
import Derived.Shelf.Strconv.Itoa4
import Derived.Shelf.Strconv.ParseIntPublic10
import Derived.Shelf.Strings.Prefix
import Derived.Shelf.Strings.Repeat
import Derived.Shelf.Strings.SlTrimAscii
import Derived.WalkKit
import Derived.Test.YtoegcppcmgbkmaaGreatDoorChecked
set_option linter.unusedVariables false
set_option maxRecDepth 100000
namespace Go.Proofs.YtoegcppcmgbkmaaGreatDoor.PFixedReads
open Go Go.Proofs Go.Proofs.YtoegcppcmgbkmaaGreatDoor.Fv
instance loud : Quiet := ⟨False⟩

structure FixedField where
  Name : List UInt8
  Kind : Int
  At : Int
  Wide : Int
  Pad : Int
  Signed : Bool
  Scale : Int

mutual
structure ApiValue where
  Kind : Int
  N : Int
  S : List UInt8
  Fields : List ApiField
structure ApiField where
  Name : List UInt8
  Val : ApiValue
end

def R : Nat → Type
  | 0 => FixedField
  | 1 => ApiValue
  | 2 => ApiField
  | _ => Bool
def body : Nat → Ty
  | 0 => (.pair .str (.pair (.int .i64) (.pair (.int .i64) (.pair (.int .i64) (.pair (.int .u8) (.pair .bool (.one (.int .i64))))))))
  | 1 => (.pair (.int .i64) (.pair (.int .i64) (.pair .str (.one (.sl (.nm 2))))))
  | 2 => (.pair .str (.one (.nm 1)))
  | _ => .one .bool
def un : (n : Nat) → R n → den R (body n)
  | 0, (x : FixedField) => (x.Name, x.Kind, x.At, x.Wide, x.Pad, x.Signed, x.Scale)
  | 1, (x : ApiValue) => (x.Kind, x.N, x.S, x.Fields)
  | 2, (x : ApiField) => (x.Name, x.Val)
  | _ + 3, x => x
def ro : (n : Nat) → den R (body n) → R n
  | 0, x => FixedField.mk x.1 x.2.1 x.2.2.1 x.2.2.2.1 x.2.2.2.2.1 x.2.2.2.2.2.1 x.2.2.2.2.2.2
  | 1, x => ApiValue.mk x.1 x.2.1 x.2.2.1 x.2.2.2
  | 2, x => ApiField.mk x.1 x.2
  | _ + 3, x => x
def dfl0 : (n : Nat) → R n
  | 0 => (FixedField.mk [] 0 0 0 0 false 0)
  | 1 => (ApiValue.mk 0 0 [] [])
  | 2 => (ApiField.mk [] (ApiValue.mk 0 0 [] []))
  | _ + 3 => false
def sz0 : Nat → Nat
  | 0 => 7
  | 1 => 4
  | 2 => 5
  | _ => 1
def zc0 : Nat → List Value
  | 0 => [.string ByteArray.empty, .int .i64 0, .int .i64 0, .int .i64 0, .int .u8 0, .bool false, .int .i64 0]
  | 1 => [.int .i64 0, .int .i64 0, .string ByteArray.empty, .slice none 0 0]
  | 2 => [.string ByteArray.empty, .int .i64 0, .int .i64 0, .string ByteArray.empty, .slice none 0 0]
  | _ => [.bool false]
def E : Env := { R := R, body := body, un := un, ro := ro, dfl := dfl0, sz := sz0, zc := zc0 }
theorem hun : ∀ n x, un n (ro n x) = x
  | 0, _ => rfl
  | 1, _ => rfl
  | 2, _ => rfl
  | _ + 3, _ => rfl
theorem hdf : ∀ n, un n (dfl0 n) = dfl E (body n)
  | 0 => rfl
  | 1 => rfl
  | 2 => rfl
  | _ + 3 => rfl
theorem hsz : ∀ n, sz0 n = size E (body n)
  | 0 => rfl
  | 1 => rfl
  | 2 => rfl
  | _ + 3 => rfl
theorem hzc : ∀ n, zc0 n = zcells E (body n)
  | 0 => rfl
  | 1 => rfl
  | 2 => rfl
  | _ + 3 => rfl
theorem hag : ∀ n, (∃ a, body n = .one a) ∨ ∃ a b, body n = .pair a b
  | 0 => .inr ⟨_, _, rfl⟩
  | 1 => .inr ⟨_, _, rfl⟩
  | 2 => .inr ⟨_, _, rfl⟩
  | _ + 3 => .inl ⟨_, rfl⟩
theorem envOK : EnvOK E := ⟨hun, hdf, hsz, hzc, hag⟩
theorem hz0 (M : Mem) : RC (E := E) M (.nm 0) (dfl0 0) (zc0 0) := RC.nm (E := E) (RC.pair (RC.str ByteArray.empty) (RC.pair (RC.int .i64 0) (RC.pair (RC.int .i64 0) (RC.pair (RC.int .i64 0) (RC.pair (RC.int .u8 0) (RC.pair (RC.bool false) (RC.one (RC.int .i64 0))))))))
theorem hz1 (M : Mem) : RC (E := E) M (.nm 1) (dfl0 1) (zc0 1) := RC.nm (E := E) (RC.pair (RC.int .i64 0) (RC.pair (RC.int .i64 0) (RC.pair (RC.str ByteArray.empty) (RC.one (RC.sl (e := (.nm 2)) [] none 0 (fun _ => []) (Nat.le_refl _) (fun i hi => by simp at hi) (fun i hi => by simp at hi) (fun _ => rfl))))))
theorem hz2 (M : Mem) : RC (E := E) M (.nm 2) (dfl0 2) (zc0 2) := RC.nm (E := E) (RC.pair (RC.str ByteArray.empty) (RC.one (hz1 M)))
theorem hz : ∀ (M : Mem) n, RC (E := E) M (.nm n) (E.dfl n) (E.zc n)
  | M, 0 => hz0 M
  | M, 1 => hz1 M
  | M, 2 => hz2 M
  | M, _ + 3 => RC.nm (E := E) (RC.one (RC.bool false))
def tl : List (Nat × TE) := [(2, ⟨(.int .i64), .int .i64⟩),
  (3, ⟨(.int .i64), .int .i64⟩),
  (4, ⟨.bool, .bool⟩),
  (5, ⟨(.int .u8), .int .u8⟩),
  (9, ⟨.str, .str⟩),
  (21, ⟨(.int .i32), .int .i32⟩),
  (22, ⟨(.sl (.nm 0)), .slice 36⟩),
  (23, ⟨(.sl (.int .u8)), .slice 5⟩),
  (24, ⟨(.sl (.nm 2)), .slice 40⟩),
  (26, ⟨(.nm 1), .struct [(3, 0), (3, 1), (9, 2), (24, 3)]⟩),
  (27, ⟨(.int .i64), .int .i64⟩),
  (36, ⟨(.nm 0), .struct [(9, 0), (3, 1), (3, 2), (3, 3), (5, 4), (4, 5), (3, 6)]⟩),
  (40, ⟨(.nm 2), .struct [(9, 0), (26, 1)]⟩),
  (49, ⟨.any, .iface⟩),
  (54, ⟨(.mp (.int .i64) (.int .i64)), .map 3 3⟩),
  (55, ⟨(.mp .str (.int .i64)), .map 9 3⟩),
  (61, ⟨(.mp .str .str), .map 9 9⟩),
  (67, ⟨(.int .u64), .int .u64⟩),
  (74, ⟨.any, .func⟩),
  (75, ⟨(.int .u64), .int .u64⟩),
  (86, ⟨(.sl (.int .i64)), .slice 3⟩),
  (88, ⟨(.sl .str), .slice 9⟩),
  (109, ⟨(.arr 24 (.int .u8)), .arr 24 5⟩),
  (126, ⟨(.arr 65 (.int .u8)), .arr 65 5⟩),
  (143, ⟨(.arr 64 (.int .u8)), .arr 64 5⟩)]
def tt : Nat → Option TE := look2 tl
theorem tf2 : TFact Tryz.prog E tt 2 ⟨(.int .i64), .int .i64⟩ := TFact.of (z := .int .i64 0) (bs := 8) Tryz.underlying2 ⟨rfl, rfl, rfl⟩ (by kernel_rfl) (by kernel_rfl) (fun h => nomatch h) (by kernel_rfl) (trivial) (fun _ cs h => nomatch h) (trivial)
theorem tf3 : TFact Tryz.prog E tt 3 ⟨(.int .i64), .int .i64⟩ := TFact.of (z := .int .i64 0) (bs := 8) Tryz.underlying3 ⟨rfl, rfl, rfl⟩ (by kernel_rfl) (by kernel_rfl) (fun h => nomatch h) (by kernel_rfl) (trivial) (fun _ cs h => nomatch h) (trivial)
theorem tf4 : TFact Tryz.prog E tt 4 ⟨.bool, .bool⟩ := TFact.of (z := .bool false) (bs := 1) Tryz.underlying4 ⟨rfl, rfl, rfl⟩ (by kernel_rfl) (by kernel_rfl) (fun h => nomatch h) (by kernel_rfl) (trivial) (fun _ cs h => nomatch h) (trivial)
theorem tf5 : TFact Tryz.prog E tt 5 ⟨(.int .u8), .int .u8⟩ := TFact.of (z := .int .u8 0) (bs := 1) Tryz.underlying5 ⟨rfl, rfl, rfl⟩ (by kernel_rfl) (by kernel_rfl) (fun h => nomatch h) (by kernel_rfl) (trivial) (fun _ cs h => nomatch h) (trivial)
theorem tf9 : TFact Tryz.prog E tt 9 ⟨.str, .str⟩ := TFact.of (z := .string ByteArray.empty) (bs := 16) Tryz.underlying9 ⟨rfl, rfl, rfl⟩ (by kernel_rfl) (by kernel_rfl) (fun h => nomatch h) (by kernel_rfl) (trivial) (fun _ cs h => nomatch h) (trivial)
theorem tf21 : TFact Tryz.prog E tt 21 ⟨(.int .i32), .int .i32⟩ := TFact.of (z := .int .i32 0) (bs := 4) Tryz.underlying21 ⟨rfl, rfl, rfl⟩ (by kernel_rfl) (by kernel_rfl) (fun h => nomatch h) (by kernel_rfl) (trivial) (fun _ cs h => nomatch h) (trivial)
theorem tf22 : TFact Tryz.prog E tt 22 ⟨(.sl (.nm 0)), .slice 36⟩ := TFact.of (z := .slice none 0 0) (bs := 24) Tryz.underlying22 ⟨rfl, rfl, .inr ⟨by kernel_rfl, by kernel_rfl, by kernel_rfl, of_decide_eq_true (by kernel_rfl), of_decide_eq_true (by kernel_rfl), of_decide_eq_true (by kernel_rfl)⟩⟩ (by kernel_rfl) (by kernel_rfl) (fun h => nomatch h) (by kernel_rfl) (trivial) (fun _ cs h => nomatch h) (trivial)
theorem tf23 : TFact Tryz.prog E tt 23 ⟨(.sl (.int .u8)), .slice 5⟩ := TFact.of (z := .slice none 0 0) (bs := 24) Tryz.underlying23 ⟨rfl, rfl, .inr ⟨by kernel_rfl, by kernel_rfl, by kernel_rfl, of_decide_eq_true (by kernel_rfl), of_decide_eq_true (by kernel_rfl), of_decide_eq_true (by kernel_rfl)⟩⟩ (by kernel_rfl) (by kernel_rfl) (fun h => nomatch h) (by kernel_rfl) (trivial) (fun _ cs h => nomatch h) (trivial)
theorem tf24 : TFact Tryz.prog E tt 24 ⟨(.sl (.nm 2)), .slice 40⟩ := TFact.of (z := .slice none 0 0) (bs := 24) Tryz.underlying24 ⟨rfl, rfl, .inr ⟨by kernel_rfl, by kernel_rfl, by kernel_rfl, of_decide_eq_true (by kernel_rfl), of_decide_eq_true (by kernel_rfl), of_decide_eq_true (by kernel_rfl)⟩⟩ (by kernel_rfl) (by kernel_rfl) (fun h => nomatch h) (by kernel_rfl) (trivial) (fun _ cs h => nomatch h) (trivial)
theorem tf26 : TFact Tryz.prog E tt 26 ⟨(.nm 1), .struct [(3, 0), (3, 1), (9, 2), (24, 3)]⟩ := TFact.of (z := .agg #[.int .i64 0, .int .i64 0, .string ByteArray.empty, .slice none 0 0]) (bs := 56) Tryz.underlying26 ⟨by kernel_rfl, ⟨_, rfl, rfl⟩, by kernel_rfl, by kernel_rfl⟩ (by kernel_rfl) (by kernel_rfl) (fun _ => rfl) (by kernel_rfl) (show (Value.cells (.agg #[.int .i64 0, .int .i64 0, .string ByteArray.empty, .slice none 0 0])).toList = (List.map (fun f => zA (E := E) (zeroA tt 20 f.1)) [(3, 0), (3, 1), (9, 2), (24, 3)]).flatten from by kernel_rfl) (fun h => nomatch h) (fun h => absurd (h.symm.trans (show eqC tt (bodyOf E (.nm 1)) 0 [(3, 0), (3, 1), (9, 2), (24, 3)] = false from by kernel_rfl)) (by decide))
theorem tf27 : TFact Tryz.prog E tt 27 ⟨(.int .i64), .int .i64⟩ := TFact.of (z := .int .i64 0) (bs := 8) Tryz.underlying27 ⟨rfl, rfl, rfl⟩ (by kernel_rfl) (by kernel_rfl) (fun h => nomatch h) (by kernel_rfl) (trivial) (fun _ cs h => nomatch h) (trivial)
theorem tf36 : TFact Tryz.prog E tt 36 ⟨(.nm 0), .struct [(9, 0), (3, 1), (3, 2), (3, 3), (5, 4), (4, 5), (3, 6)]⟩ := TFact.of (z := .agg #[.string ByteArray.empty, .int .i64 0, .int .i64 0, .int .i64 0, .int .u8 0, .bool false, .int .i64 0]) (bs := 56) Tryz.underlying36 ⟨by kernel_rfl, ⟨_, rfl, rfl⟩, by kernel_rfl, by kernel_rfl⟩ (by kernel_rfl) (by kernel_rfl) (fun _ => rfl) (by kernel_rfl) (show (Value.cells (.agg #[.string ByteArray.empty, .int .i64 0, .int .i64 0, .int .i64 0, .int .u8 0, .bool false, .int .i64 0])).toList = (List.map (fun f => zA (E := E) (zeroA tt 20 f.1)) [(9, 0), (3, 1), (3, 2), (3, 3), (5, 4), (4, 5), (3, 6)]).flatten from by kernel_rfl) (fun h => nomatch h) (fun _ => ⟨names_of Tryz.underlying36 (by kernel_rfl), by kernel_rfl, by kernel_rfl⟩)
theorem tf40 : TFact Tryz.prog E tt 40 ⟨(.nm 2), .struct [(9, 0), (26, 1)]⟩ := TFact.of (z := .agg #[.string ByteArray.empty, .int .i64 0, .int .i64 0, .string ByteArray.empty, .slice none 0 0]) (bs := 72) Tryz.underlying40 ⟨by kernel_rfl, ⟨_, rfl, rfl⟩, by kernel_rfl, by kernel_rfl⟩ (by kernel_rfl) (by kernel_rfl) (fun _ => rfl) (by kernel_rfl) (show (Value.cells (.agg #[.string ByteArray.empty, .int .i64 0, .int .i64 0, .string ByteArray.empty, .slice none 0 0])).toList = (List.map (fun f => zA (E := E) (zeroA tt 20 f.1)) [(9, 0), (26, 1)]).flatten from by kernel_rfl) (fun h => nomatch h) (fun h => absurd (h.symm.trans (show eqC tt (bodyOf E (.nm 2)) 0 [(9, 0), (26, 1)] = false from by kernel_rfl)) (by decide))
theorem tf49 : TFact Tryz.prog E tt 49 ⟨.any, .iface⟩ := TFact.of (z := .nilIface) (bs := 16) Tryz.underlying49 ⟨rfl, _, rfl⟩ (by kernel_rfl) (by kernel_rfl) (fun h => nomatch h) (by kernel_rfl) (trivial) (fun _ cs h => nomatch h) (trivial)
theorem tf54 : TFact Tryz.prog E tt 54 ⟨(.mp (.int .i64) (.int .i64)), .map 3 3⟩ := TFact.of (z := .map none) (bs := 8) Tryz.underlying54 ⟨rfl, rfl, by kernel_rfl, by kernel_rfl, .inr rfl⟩ (by kernel_rfl) (by kernel_rfl) (fun h => nomatch h) (by kernel_rfl) (trivial) (fun _ cs h => nomatch h) (trivial)
theorem tf55 : TFact Tryz.prog E tt 55 ⟨(.mp .str (.int .i64)), .map 9 3⟩ := TFact.of (z := .map none) (bs := 8) Tryz.underlying55 ⟨rfl, rfl, by kernel_rfl, by kernel_rfl, .inr rfl⟩ (by kernel_rfl) (by kernel_rfl) (fun h => nomatch h) (by kernel_rfl) (trivial) (fun _ cs h => nomatch h) (trivial)
theorem tf61 : TFact Tryz.prog E tt 61 ⟨(.mp .str .str), .map 9 9⟩ := TFact.of (z := .map none) (bs := 8) Tryz.underlying61 ⟨rfl, rfl, by kernel_rfl, by kernel_rfl, .inr rfl⟩ (by kernel_rfl) (by kernel_rfl) (fun h => nomatch h) (by kernel_rfl) (trivial) (fun _ cs h => nomatch h) (trivial)
theorem tf67 : TFact Tryz.prog E tt 67 ⟨(.int .u64), .int .u64⟩ := TFact.of (z := .int .u64 0) (bs := 8) Tryz.underlying67 ⟨rfl, rfl, rfl⟩ (by kernel_rfl) (by kernel_rfl) (fun h => nomatch h) (by kernel_rfl) (trivial) (fun _ cs h => nomatch h) (trivial)
theorem tf74 : TFact Tryz.prog E tt 74 ⟨.any, .func⟩ := TFact.of (z := .nilFunc) (bs := 8) Tryz.underlying74 ⟨rfl, _, _, _, rfl⟩ (by kernel_rfl) (by kernel_rfl) (fun h => nomatch h) (by kernel_rfl) (trivial) (fun _ cs h => nomatch h) (trivial)
theorem tf75 : TFact Tryz.prog E tt 75 ⟨(.int .u64), .int .u64⟩ := TFact.of (z := .int .u64 0) (bs := 8) Tryz.underlying75 ⟨rfl, rfl, rfl⟩ (by kernel_rfl) (by kernel_rfl) (fun h => nomatch h) (by kernel_rfl) (trivial) (fun _ cs h => nomatch h) (trivial)
theorem tf86 : TFact Tryz.prog E tt 86 ⟨(.sl (.int .i64)), .slice 3⟩ := TFact.of (z := .slice none 0 0) (bs := 24) Tryz.underlying86 ⟨rfl, rfl, .inr ⟨by kernel_rfl, by kernel_rfl, by kernel_rfl, of_decide_eq_true (by kernel_rfl), of_decide_eq_true (by kernel_rfl), of_decide_eq_true (by kernel_rfl)⟩⟩ (by kernel_rfl) (by kernel_rfl) (fun h => nomatch h) (by kernel_rfl) (trivial) (fun _ cs h => nomatch h) (trivial)
theorem tf88 : TFact Tryz.prog E tt 88 ⟨(.sl .str), .slice 9⟩ := TFact.of (z := .slice none 0 0) (bs := 24) Tryz.underlying88 ⟨rfl, rfl, .inr ⟨by kernel_rfl, by kernel_rfl, by kernel_rfl, of_decide_eq_true (by kernel_rfl), of_decide_eq_true (by kernel_rfl), of_decide_eq_true (by kernel_rfl)⟩⟩ (by kernel_rfl) (by kernel_rfl) (fun h => nomatch h) (by kernel_rfl) (trivial) (fun _ cs h => nomatch h) (trivial)
theorem tf109 : TFact Tryz.prog E tt 109 ⟨(.arr 24 (.int .u8)), .arr 24 5⟩ := TFact.of (z := .agg #[.int .u8 0, .int .u8 0, .int .u8 0, .int .u8 0, .int .u8 0, .int .u8 0, .int .u8 0, .int .u8 0, .int .u8 0, .int .u8 0, .int .u8 0, .int .u8 0, .int .u8 0, .int .u8 0, .int .u8 0, .int .u8 0, .int .u8 0, .int .u8 0, .int .u8 0, .int .u8 0, .int .u8 0, .int .u8 0, .int .u8 0, .int .u8 0]) (bs := 24) Tryz.underlying109 ⟨rfl, rfl, by kernel_rfl, by kernel_rfl⟩ (by kernel_rfl) (by kernel_rfl) (fun _ => rfl) (by kernel_rfl) (trivial) (fun h => nomatch h) (fun _ => by kernel_rfl)
theorem tf126 : TFact Tryz.prog E tt 126 ⟨(.arr 65 (.int .u8)), .arr 65 5⟩ := TFact.of (z := .agg #[.int .u8 0, .int .u8 0, .int .u8 0, .int .u8 0, .int .u8 0, .int .u8 0, .int .u8 0, .int .u8 0, .int .u8 0, .int .u8 0, .int .u8 0, .int .u8 0, .int .u8 0, .int .u8 0, .int .u8 0, .int .u8 0, .int .u8 0, .int .u8 0, .int .u8 0, .int .u8 0, .int .u8 0, .int .u8 0, .int .u8 0, .int .u8 0, .int .u8 0, .int .u8 0, .int .u8 0, .int .u8 0, .int .u8 0, .int .u8 0, .int .u8 0, .int .u8 0, .int .u8 0, .int .u8 0, .int .u8 0, .int .u8 0, .int .u8 0, .int .u8 0, .int .u8 0, .int .u8 0, .int .u8 0, .int .u8 0, .int .u8 0, .int .u8 0, .int .u8 0, .int .u8 0, .int .u8 0, .int .u8 0, .int .u8 0, .int .u8 0, .int .u8 0, .int .u8 0, .int .u8 0, .int .u8 0, .int .u8 0, .int .u8 0, .int .u8 0, .int .u8 0, .int .u8 0, .int .u8 0, .int .u8 0, .int .u8 0, .int .u8 0, .int .u8 0, .int .u8 0]) (bs := 65) Tryz.underlying126 ⟨rfl, rfl, by kernel_rfl, by kernel_rfl⟩ (by kernel_rfl) (by kernel_rfl) (fun _ => rfl) (by kernel_rfl) (trivial) (fun h => nomatch h) (fun _ => by kernel_rfl)
theorem tf143 : TFact Tryz.prog E tt 143 ⟨(.arr 64 (.int .u8)), .arr 64 5⟩ := TFact.of (z := .agg #[.int .u8 0, .int .u8 0, .int .u8 0, .int .u8 0, .int .u8 0, .int .u8 0, .int .u8 0, .int .u8 0, .int .u8 0, .int .u8 0, .int .u8 0, .int .u8 0, .int .u8 0, .int .u8 0, .int .u8 0, .int .u8 0, .int .u8 0, .int .u8 0, .int .u8 0, .int .u8 0, .int .u8 0, .int .u8 0, .int .u8 0, .int .u8 0, .int .u8 0, .int .u8 0, .int .u8 0, .int .u8 0, .int .u8 0, .int .u8 0, .int .u8 0, .int .u8 0, .int .u8 0, .int .u8 0, .int .u8 0, .int .u8 0, .int .u8 0, .int .u8 0, .int .u8 0, .int .u8 0, .int .u8 0, .int .u8 0, .int .u8 0, .int .u8 0, .int .u8 0, .int .u8 0, .int .u8 0, .int .u8 0, .int .u8 0, .int .u8 0, .int .u8 0, .int .u8 0, .int .u8 0, .int .u8 0, .int .u8 0, .int .u8 0, .int .u8 0, .int .u8 0, .int .u8 0, .int .u8 0, .int .u8 0, .int .u8 0, .int .u8 0, .int .u8 0]) (bs := 64) Tryz.underlying143 ⟨rfl, rfl, by kernel_rfl, by kernel_rfl⟩ (by kernel_rfl) (by kernel_rfl) (fun _ => rfl) (by kernel_rfl) (trivial) (fun h => nomatch h) (fun _ => by kernel_rfl)
theorem tok : TOK Tryz.prog E tt := TOK.of (mem_cons2 tf2 (mem_cons2 tf3 (mem_cons2 tf4 (mem_cons2 tf5 (mem_cons2 tf9 (mem_cons2 tf21 (mem_cons2 tf22 (mem_cons2 tf23 (mem_cons2 tf24 (mem_cons2 tf26 (mem_cons2 tf27 (mem_cons2 tf36 (mem_cons2 tf40 (mem_cons2 tf49 (mem_cons2 tf54 (mem_cons2 tf55 (mem_cons2 tf61 (mem_cons2 tf67 (mem_cons2 tf74 (mem_cons2 tf75 (mem_cons2 tf86 (mem_cons2 tf88 (mem_cons2 tf109 (mem_cons2 tf126 (mem_cons2 tf143 mem_nil2)))))))))))))))))))))))))
def tlr : List (Nat × TE) := [(3, ⟨(.int .i64), .int .i64⟩),
  (4, ⟨.bool, .bool⟩),
  (5, ⟨(.int .u8), .int .u8⟩),
  (9, ⟨.str, .str⟩),
  (22, ⟨(.sl (.nm 0)), .slice 36⟩),
  (23, ⟨(.sl (.int .u8)), .slice 5⟩),
  (36, ⟨(.nm 0), .struct [(9, 0), (3, 1), (3, 2), (3, 3), (5, 4), (4, 5), (3, 6)]⟩)]
def ttr : Nat → Option TE := look2 tlr
theorem tfr3 : TFact Tryz.prog E ttr 3 ⟨(.int .i64), .int .i64⟩ := TFact.of (z := .int .i64 0) (bs := 8) Tryz.underlying3 ⟨rfl, rfl, rfl⟩ (by kernel_rfl) (by kernel_rfl) (fun h => nomatch h) (by kernel_rfl) (trivial) (fun _ cs h => nomatch h) (trivial)
theorem tfr4 : TFact Tryz.prog E ttr 4 ⟨.bool, .bool⟩ := TFact.of (z := .bool false) (bs := 1) Tryz.underlying4 ⟨rfl, rfl, rfl⟩ (by kernel_rfl) (by kernel_rfl) (fun h => nomatch h) (by kernel_rfl) (trivial) (fun _ cs h => nomatch h) (trivial)
theorem tfr5 : TFact Tryz.prog E ttr 5 ⟨(.int .u8), .int .u8⟩ := TFact.of (z := .int .u8 0) (bs := 1) Tryz.underlying5 ⟨rfl, rfl, rfl⟩ (by kernel_rfl) (by kernel_rfl) (fun h => nomatch h) (by kernel_rfl) (trivial) (fun _ cs h => nomatch h) (trivial)
theorem tfr9 : TFact Tryz.prog E ttr 9 ⟨.str, .str⟩ := TFact.of (z := .string ByteArray.empty) (bs := 16) Tryz.underlying9 ⟨rfl, rfl, rfl⟩ (by kernel_rfl) (by kernel_rfl) (fun h => nomatch h) (by kernel_rfl) (trivial) (fun _ cs h => nomatch h) (trivial)
theorem tfr22 : TFact Tryz.prog E ttr 22 ⟨(.sl (.nm 0)), .slice 36⟩ := TFact.of (z := .slice none 0 0) (bs := 24) Tryz.underlying22 ⟨rfl, rfl, .inr ⟨by kernel_rfl, by kernel_rfl, by kernel_rfl, of_decide_eq_true (by kernel_rfl), of_decide_eq_true (by kernel_rfl), of_decide_eq_true (by kernel_rfl)⟩⟩ (by kernel_rfl) (by kernel_rfl) (fun h => nomatch h) (by kernel_rfl) (trivial) (fun _ cs h => nomatch h) (trivial)
theorem tfr23 : TFact Tryz.prog E ttr 23 ⟨(.sl (.int .u8)), .slice 5⟩ := TFact.of (z := .slice none 0 0) (bs := 24) Tryz.underlying23 ⟨rfl, rfl, .inr ⟨by kernel_rfl, by kernel_rfl, by kernel_rfl, of_decide_eq_true (by kernel_rfl), of_decide_eq_true (by kernel_rfl), of_decide_eq_true (by kernel_rfl)⟩⟩ (by kernel_rfl) (by kernel_rfl) (fun h => nomatch h) (by kernel_rfl) (trivial) (fun _ cs h => nomatch h) (trivial)
theorem tfr36 : TFact Tryz.prog E ttr 36 ⟨(.nm 0), .struct [(9, 0), (3, 1), (3, 2), (3, 3), (5, 4), (4, 5), (3, 6)]⟩ := TFact.of (z := .agg #[.string ByteArray.empty, .int .i64 0, .int .i64 0, .int .i64 0, .int .u8 0, .bool false, .int .i64 0]) (bs := 56) Tryz.underlying36 ⟨by kernel_rfl, ⟨_, rfl, rfl⟩, by kernel_rfl, by kernel_rfl⟩ (by kernel_rfl) (by kernel_rfl) (fun _ => rfl) (by kernel_rfl) (show (Value.cells (.agg #[.string ByteArray.empty, .int .i64 0, .int .i64 0, .int .i64 0, .int .u8 0, .bool false, .int .i64 0])).toList = (List.map (fun f => zA (E := E) (zeroA ttr 20 f.1)) [(9, 0), (3, 1), (3, 2), (3, 3), (5, 4), (4, 5), (3, 6)]).flatten from by kernel_rfl) (fun h => nomatch h) (fun _ => ⟨names_of Tryz.underlying36 (by kernel_rfl), by kernel_rfl, by kernel_rfl⟩)
theorem tokr : TOK Tryz.prog E ttr := TOK.of (mem_cons2 tfr3 (mem_cons2 tfr4 (mem_cons2 tfr5 (mem_cons2 tfr9 (mem_cons2 tfr22 (mem_cons2 tfr23 (mem_cons2 tfr36 mem_nil2)))))))
theorem rdok : RdOK Tryz.prog E ttr := RdOK.of (by kernel_rfl)
theorem law_sub : ∀ t ∈ ([22, 23] : List Nat), ttr t = tt t := by
  intro t ht
  simp only [List.mem_cons, List.not_mem_nil, or_false] at ht
  rcases ht with rfl | rfl
  · kernel_rfl
  · kernel_rfl
theorem hmix : Tryz.prog.follows .mixedOrders = true := by kernel_rfl
def hKeep (f b : Nat) : List (Nat × Nat) := bif Nat.beq f 4 then (bif Nat.beq b 0 then [(1, 0), (4, 0), (8, 0), (26, 0), (27, 0), (28, 0)] else []) else bif Nat.beq f 5 then (bif Nat.beq b 0 then [(1, 0), (4, 0), (8, 0), (26, 0), (27, 0), (28, 0)] else []) else bif Nat.beq f 8 then (bif Nat.beq b 0 then [(0, 0), (11, 0), (12, 0), (13, 0)] else bif Nat.beq b 2 then [(0, 0), (4, 0), (11, 0), (12, 0), (13, 0), (25, 0), (26, 0), (27, 0)] else []) else bif Nat.beq f 9 then (bif Nat.beq b 0 then [(3, 0), (6, 0), (7, 0), (8, 0)] else []) else bif Nat.beq f 10 then (bif Nat.beq b 0 then [(1, 0), (2, 0), (4, 0), (6, 0)] else []) else bif Nat.beq f 11 then (bif Nat.beq b 0 then [(0, 0), (3, 0), (4, 0), (21, 0), (22, 0), (23, 0)] else bif Nat.beq b 3 then [(0, 0), (3, 0), (4, 0), (5, 0), (6, 0), (8, 0), (9, 0), (12, 0), (21, 0), (22, 0), (23, 0)] else bif Nat.beq b 5 then [(0, 0), (3, 0), (4, 0), (5, 0), (6, 0), (15, 0), (21, 0), (22, 0), (23, 0)] else []) else bif Nat.beq f 12 then (bif Nat.beq b 0 then [(3, 0), (6, 0), (7, 0), (8, 0)] else []) else bif Nat.beq f 13 then (bif Nat.beq b 0 then [(1, 0), (2, 0), (4, 0)] else bif Nat.beq b 2 then [(1, 0), (2, 0), (4, 0), (6, 0), (35, 0), (36, 0), (37, 0)] else []) else bif Nat.beq f 17 then (bif Nat.beq b 0 then [(1, 0), (2, 0), (7, 0), (29, 0), (30, 0), (31, 0)] else []) else bif Nat.beq f 21 then (bif Nat.beq b 0 then [(0, 0), (1, 0), (12, 0), (13, 0)] else []) else bif Nat.beq f 22 then (bif Nat.beq b 0 then [(7, 0), (8, 0), (9, 1), (10, 0)] else []) else bif Nat.beq f 23 then (bif Nat.beq b 0 then [(23, 0), (24, 0), (25, 0)] else []) else bif Nat.beq f 28 then (bif Nat.beq b 1 then [(2, 0), (3, 0)] else bif Nat.beq b 3 then [(7, 0), (8, 0), (9, 0)] else []) else bif Nat.beq f 32 then (bif Nat.beq b 0 then [(3, 0), (6, 0), (7, 0), (8, 0)] else []) else bif Nat.beq f 35 then (bif Nat.beq b 0 then [(0, 0), (1, 0), (2, 0), (11, 0), (12, 0), (13, 0)] else []) else bif Nat.beq f 48 then (bif Nat.beq b 0 then [(7, 1), (8, 0)] else []) else bif Nat.beq f 53 then (bif Nat.beq b 0 then [(2, 0), (5, 0), (6, 0)] else []) else bif Nat.beq f 78 then (bif Nat.beq b 0 then [(0, 0), (1, 0), (3, 0), (4, 0), (10, 1), (11, 0), (12, 0), (13, 0), (14, 0), (15, 0), (16, 0)] else bif Nat.beq b 2 then [(0, 0), (1, 0), (3, 0), (4, 0), (10, 1), (11, 0), (12, 0), (13, 0), (17, 0)] else []) else []
def hKeepB (f b : Nat) : List Nat := bif Nat.beq f 4 then (bif Nat.beq b 0 then [4, 8, 247] else []) else bif Nat.beq f 5 then (bif Nat.beq b 0 then [4, 8, 251] else []) else bif Nat.beq f 8 then (bif Nat.beq b 2 then [4] else []) else bif Nat.beq f 10 then (bif Nat.beq b 0 then [2, 4] else []) else bif Nat.beq f 11 then (bif Nat.beq b 0 then [19, 20] else bif Nat.beq b 3 then [6, 19, 20] else bif Nat.beq b 5 then [6, 19, 20] else []) else bif Nat.beq f 13 then (bif Nat.beq b 0 then [2, 4] else bif Nat.beq b 2 then [2, 4] else []) else bif Nat.beq f 17 then (bif Nat.beq b 0 then [2] else []) else bif Nat.beq f 28 then (bif Nat.beq b 1 then [2, 3] else []) else bif Nat.beq f 53 then (bif Nat.beq b 0 then [2] else []) else bif Nat.beq f 78 then (bif Nat.beq b 0 then [12] else bif Nat.beq b 2 then [12] else []) else []
def hRsh (f : Nat) : RSh := bif Nat.beq f 3 then (.t .bool) else bif Nat.beq f 4 then (.tup [(.t (.nm 1)), (.t (.int .i64)), (.t (.int .i64))]) else bif Nat.beq f 5 then (.tup [(.t (.nm 1)), (.t (.int .i64)), (.t (.int .i64))]) else bif Nat.beq f 6 then (.t .bool) else bif Nat.beq f 7 then (.t .bool) else bif Nat.beq f 8 then (.t (.int .i64)) else bif Nat.beq f 9 then (.t (.int .i64)) else bif Nat.beq f 10 then (.tup [(.t (.nm 1)), (.t .bool)]) else bif Nat.beq f 11 then (.t (.int .i64)) else bif Nat.beq f 12 then (.t (.int .i64)) else bif Nat.beq f 13 then (.tup [(.t (.nm 1)), (.t .bool)]) else bif Nat.beq f 14 then (.t .str) else bif Nat.beq f 15 then (.t (.int .i64)) else bif Nat.beq f 16 then (.t (.int .i64)) else bif Nat.beq f 17 then (.tup [(.t .str), (.t .bool)]) else bif Nat.beq f 18 then (.t .str) else bif Nat.beq f 19 then (.t .str) else bif Nat.beq f 20 then (.tup [(.t (.int .i64)), .asis]) else bif Nat.beq f 21 then (.t .bool) else bif Nat.beq f 22 then (.ownrow (.int .u8)) else bif Nat.beq f 23 then (.t .bool) else bif Nat.beq f 24 then (.t (.int .i64)) else bif Nat.beq f 25 then (.t .bool) else bif Nat.beq f 26 then (.t .str) else bif Nat.beq f 27 then (.tup [(.t (.int .i64)), .asis]) else bif Nat.beq f 28 then (.tup [(.t .str), (.t (.int .i64))]) else bif Nat.beq f 29 then (.t .str) else bif Nat.beq f 30 then (.t .str) else bif Nat.beq f 31 then (.t (.int .i64)) else bif Nat.beq f 32 then (.t (.int .i64)) else bif Nat.beq f 33 then (.t (.int .i64)) else bif Nat.beq f 34 then (.t (.int .i64)) else bif Nat.beq f 35 then (.t (.int .i64)) else bif Nat.beq f 36 then (.t (.int .i64)) else bif Nat.beq f 37 then (.t (.int .i64)) else bif Nat.beq f 48 then (.ownrow (.int .u8)) else bif Nat.beq f 49 then (.t .str) else bif Nat.beq f 51 then (.t .str) else bif Nat.beq f 53 then (.t .str) else bif Nat.beq f 54 then (.t (.int .i64)) else bif Nat.beq f 55 then (.tup [(.t (.int .u64)), .unit]) else bif Nat.beq f 57 then (.tup [(.t (.int .u64)), (.t (.int .u64))]) else bif Nat.beq f 63 then (.t .bool) else bif Nat.beq f 78 then (.tup [(.t (.sl (.int .u8))), (.t .str)]) else bif Nat.beq f 81 then (.tup [(.t (.int .u64)), (.t (.int .u64))]) else bif Nat.beq f 93 then (.t .bool) else bif Nat.beq f 94 then (.t (.int .i64)) else bif Nat.beq f 104 then (.t (.int .i64)) else .asis
def hCons (f : Nat) : List Nat := []
def hRow (f : Nat) : List Nat := bif Nat.beq f 22 then [4, 9, 16, 56] else bif Nat.beq f 48 then [4, 30] else []
def hSet (f d : Nat) : List (Nat × Nat) := bif Nat.beq f 4 then (bif Nat.beq d 25 then [(3, 247)] else []) else bif Nat.beq f 5 then (bif Nat.beq d 25 then [(3, 251)] else []) else []
def hPre (f d : Nat) : Nat := 0
def hPreT (f d : Nat) : List (Nat × Nat) := []
def H : Hints := { keep := hKeep, keepB := hKeepB, rsh := hRsh, cons := hCons, asagg := hSet, asrow := hRow, mutcap := [], pre := hPre, preT := hPreT }
def gl : Nat → AV E := fun g => bif Nat.beq g 1 then .err false else bif Nat.beq g 2 then .err false else bif Nat.beq g 3 then .imm (.arr 20 (.int .u64)) Go.Lib.pow10Tab else bif Nat.beq g 7 then .imm (.arr 64 (.int .u8)) db64 else .undef

theorem gl_ok {W : World} (h_errsyn : ∃ u v, W.var? Tryz.prog "strconv.ErrSyntax" = some #[.iface u v]) (h_errrng : ∃ u v, W.var? Tryz.prog "strconv.ErrRange" = some #[.iface u v]) (h_pow10 : Go.Lib.TabIs Tryz.prog W "internal/strconv.uint64pow10" .u64 Go.Lib.pow10Tab) (h_db64 : Go.Lib.TabIs Tryz.prog W "math/bits.deBruijn64tab" .u8 db64) : GlOK (memOf W) gl := by
  intro g
  cases e_errsyn : Nat.beq g 1 with
  | true =>
    have e := Nat.eq_of_beq_eq_true e_errsyn
    subst e
    exact .inr (.inr ⟨rfl, errAt_gl (show Tryz.prog.globalNamed "strconv.ErrSyntax" = some 1 by kernel_rfl) h_errsyn⟩)
  | false =>
  cases e_errrng : Nat.beq g 2 with
  | true =>
    have e := Nat.eq_of_beq_eq_true e_errrng
    subst e
    exact .inr (.inr ⟨rfl, errAt_gl (show Tryz.prog.globalNamed "strconv.ErrRange" = some 2 by kernel_rfl) h_errrng⟩)
  | false =>
  cases e_pow10 : Nat.beq g 3 with
  | true =>
    have e := Nat.eq_of_beq_eq_true e_pow10
    subst e
    obtain ⟨cells, h1, h2, h3⟩ := tabIs_gl (E := E) (show Tryz.prog.globalNamed "internal/strconv.uint64pow10" = some 3 by kernel_rfl) h_pow10
    exact .inr (.inl ⟨_, _, cells, rfl, h1, h2, h3⟩)
  | false =>
  cases e_db64 : Nat.beq g 7 with
  | true =>
    have e := Nat.eq_of_beq_eq_true e_db64
    subst e
    obtain ⟨cells, h1, h2, h3⟩ := tabIs_gl (E := E) (show Tryz.prog.globalNamed "math/bits.deBruijn64tab" = some 7 by kernel_rfl) h_db64
    exact .inr (.inl ⟨_, _, cells, rfl, h1, h2, h3⟩)
  | false =>
  exact .inl (by simp [gl, e_errsyn, e_errrng, e_pow10, e_db64])
def C0 (_ : Nat) : Call2 E := fun _ _ _ => none

/- clapperbridge/value.Name -/
noncomputable def value_Name (n : Nat) (x0 : List UInt8) : Option Bool := F2 (E := E) tt gl H (C0 n) n 23 Tryz.f23 [.t .str] (x0, ())
noncomputable def value_Name_l0 (n : Nat) (m0 : Nat) (v23 : List Int) (v24 : Int) (v25 : Int) : Option Bool := lp (E := E) (ps := [.t .str]) tt gl H (C0 n) n 23 Tryz.f23 [1, 1, 0, 1, 0] [] m0 ⟨mkT 49 0 [(23, .t (.sl (.int .u8)) v23), (24, .t (.int .i64) v24), (25, .t (.int .i64) v25)], mkB 196 0 []⟩
theorem value_Name_l0_eq (n : Nat) (m0 : Nat) (v23 : List Int) (v24 : Int) (v25 : Int) : value_Name_l0 n (m0 + 1) v23 v24 v25 = (bif (decide (v25 < v24)) then (bif (decide (0 ≤ v25) && decide (v25 < List.length v23)) then (bif (decide ((List.getD v23 (Int.toNat v25) (0 : Int)) ≥ 97)) then (bif (decide ((List.getD v23 (Int.toNat v25) (0 : Int)) ≤ 122)) then (value_Name_l0 n m0 v23 v24 (IntKind.wrap .i64 (v25 + 1))) else (bif (decide ((List.getD v23 (Int.toNat v25) (0 : Int)) ≥ 48)) then (bif (decide ((List.getD v23 (Int.toNat v25) (0 : Int)) ≤ 57)) then (value_Name_l0 n m0 v23 v24 (IntKind.wrap .i64 (v25 + 1))) else (bif (!(decide ((List.getD v23 (Int.toNat v25) (0 : Int)) = 45))) then (some false) else (value_Name_l0 n m0 v23 v24 (IntKind.wrap .i64 (v25 + 1))))) else (bif (!(decide ((List.getD v23 (Int.toNat v25) (0 : Int)) = 45))) then (some false) else (value_Name_l0 n m0 v23 v24 (IntKind.wrap .i64 (v25 + 1)))))) else (bif (decide ((List.getD v23 (Int.toNat v25) (0 : Int)) ≥ 48)) then (bif (decide ((List.getD v23 (Int.toNat v25) (0 : Int)) ≤ 57)) then (value_Name_l0 n m0 v23 v24 (IntKind.wrap .i64 (v25 + 1))) else (bif (!(decide ((List.getD v23 (Int.toNat v25) (0 : Int)) = 45))) then (some false) else (value_Name_l0 n m0 v23 v24 (IntKind.wrap .i64 (v25 + 1))))) else (bif (!(decide ((List.getD v23 (Int.toNat v25) (0 : Int)) = 45))) then (some false) else (value_Name_l0 n m0 v23 v24 (IntKind.wrap .i64 (v25 + 1)))))) else none) else (some true)) := by kernel_rfl
theorem value_Name_l0_zero (n : Nat) (v23 : List Int) (v24 : Int) (v25 : Int) : value_Name_l0 n 0 v23 v24 v25 = none := by kernel_rfl
theorem value_Name_l0_fold (n : Nat) (v23 : List Int) (hl : List.length v23 < 9223372036854775807) (m i : Nat) (hi : i ≤ List.length v23) (hm : List.length v23 - i < m) : value_Name_l0 n m v23 (List.length v23 : Int) (i : Int) = foldK (S := Unit) (fun i (a : Int) s K => (bif (decide (a ≥ 97)) then (bif (decide (a ≤ 122)) then (K ()) else (bif (decide (a ≥ 48)) then (bif (decide (a ≤ 57)) then (K ()) else (bif (!(decide (a = 45))) then (some false) else (K ()))) else (bif (!(decide (a = 45))) then (some false) else (K ())))) else (bif (decide (a ≥ 48)) then (bif (decide (a ≤ 57)) then (K ()) else (bif (!(decide (a = 45))) then (some false) else (K ()))) else (bif (!(decide (a = 45))) then (some false) else (K ()))))) (fun s => (some true)) (List.drop i v23) i () := range_loop v23 (0 : Int) hl (fun m (k : Int) (s : Unit) => value_Name_l0 n m v23 (List.length v23 : Int) k) _ _ (fun m i s => (value_Name_l0_eq n m v23 (List.length v23 : Int) (i : Int)).trans (by kernel_rfl)) m i hi hm ()
theorem value_Name_eq (n : Nat) (x0 : List UInt8) : value_Name n x0 = (bif (x0 == []) then (some false) else (bif (decide ((List.length x0 : Int) > 16)) then (some false) else (bif (decide (0 ≤ (0 : Int)) && decide ((0 : Int) < List.length x0)) then (bif (decide (((UInt8.toNat (List.getD x0 (Int.toNat (0 : Int)) 0) : Nat) : Int) < 97)) then (some false) else (bif (decide (0 ≤ (0 : Int)) && decide ((0 : Int) < List.length x0)) then (bif (decide (((UInt8.toNat (List.getD x0 (Int.toNat (0 : Int)) 0) : Nat) : Int) > 122)) then (some false) else (value_Name_l0 n n (ints x0) (List.length (ints x0) : Int) 0)) else none)) else none))) := by kernel_rfl
noncomputable def C1 (n : Nat) : Call2 E := more tt gl H (C0 n) n 23 Tryz.f23 [.t .str] (C0 n)

/- clapperbridge/fixed.Digits -/
noncomputable def fixed_Digits (n : Nat) (x0 : FixedField) : Option Int := F2 (E := E) tt gl H (C1 n) n 37 Tryz.f37 [.t (.nm 0)] (x0, ())
theorem fixed_Digits_eq (n : Nat) (x0 : FixedField) : fixed_Digits n x0 = (bif (decide (x0.Kind = 1)) then (bif x0.Signed then (some (IntKind.wrap .i64 (x0.Wide - 1))) else (some x0.Wide)) else (bif (decide (x0.Kind = 2)) then (some (IntKind.wrap .i64 ((IntKind.wrap .i64 ((2 : Int) * x0.Wide)) - 1))) else (some 0))) := by kernel_rfl
noncomputable def C2 (n : Nat) : Call2 E := more tt gl H (C1 n) n 37 Tryz.f37 [.t (.nm 0)] (C1 n)

/- clapperbridge/fixed.one -/
noncomputable def fixed_one (n : Nat) (x0 : FixedField) : Option Int := F2 (E := E) tt gl H (C2 n) n 16 Tryz.f16 [.t (.nm 0)] (x0, ())
theorem fixed_one_eq (n : Nat) (x0 : FixedField) : fixed_one n x0 = (Option.bind (value_Name n x0.Name) fun r1 => (bif (!r1) then (some 15) else (bif (decide (x0.Kind < 0)) then (some 8) else (bif (decide (x0.Kind ≥ 3)) then (some 8) else (bif (decide (x0.At < 0)) then (some 11) else (bif (decide (x0.Wide < 1)) then (some 11) else (bif (decide (x0.At > 400)) then (some 11) else (bif (decide (x0.Wide > (IntKind.wrap .i64 ((400 : Int) - x0.At)))) then (some 11) else (bif (decide (x0.Kind = 0)) then (bif x0.Signed then (some 3) else (bif (!decide (x0.Scale = 0)) then (some 3) else (bif (!decide (x0.Kind = 0)) then (bif (!decide (x0.Pad = 0)) then (some 3) else (bif (!decide (x0.Kind = 0)) then (Option.bind (fixed_Digits n x0) fun r2 => (bif (decide (r2 < 1)) then (some 11) else (Option.bind (fixed_Digits n x0) fun r3 => (bif (decide (r3 > 15)) then (some 11) else (bif (decide (x0.Scale < 0)) then (some 11) else (Option.bind (fixed_Digits n x0) fun r4 => (bif (decide (x0.Scale > r4)) then (some 11) else (some 0)))))))) else (some 0))) else (bif (!decide (x0.Kind = 0)) then (Option.bind (fixed_Digits n x0) fun r5 => (bif (decide (r5 < 1)) then (some 11) else (Option.bind (fixed_Digits n x0) fun r6 => (bif (decide (r6 > 15)) then (some 11) else (bif (decide (x0.Scale < 0)) then (some 11) else (Option.bind (fixed_Digits n x0) fun r7 => (bif (decide (x0.Scale > r7)) then (some 11) else (some 0)))))))) else (some 0))))) else (bif (!decide (x0.Kind = 0)) then (bif (!decide (x0.Pad = 0)) then (some 3) else (bif (!decide (x0.Kind = 0)) then (Option.bind (fixed_Digits n x0) fun r8 => (bif (decide (r8 < 1)) then (some 11) else (Option.bind (fixed_Digits n x0) fun r9 => (bif (decide (r9 > 15)) then (some 11) else (bif (decide (x0.Scale < 0)) then (some 11) else (Option.bind (fixed_Digits n x0) fun r10 => (bif (decide (x0.Scale > r10)) then (some 11) else (some 0)))))))) else (some 0))) else (bif (!decide (x0.Kind = 0)) then (Option.bind (fixed_Digits n x0) fun r11 => (bif (decide (r11 < 1)) then (some 11) else (Option.bind (fixed_Digits n x0) fun r12 => (bif (decide (r12 > 15)) then (some 11) else (bif (decide (x0.Scale < 0)) then (some 11) else (Option.bind (fixed_Digits n x0) fun r13 => (bif (decide (x0.Scale > r13)) then (some 11) else (some 0)))))))) else (some 0)))))))))))) := by kernel_rfl
noncomputable def C3 (n : Nat) : Call2 E := more tt gl H (C2 n) n 16 Tryz.f16 [.t (.nm 0)] (C2 n)

/- clapperbridge/fixed.Check -/
noncomputable def fixed_Check (n : Nat) (x0 : List FixedField) : Option Int := F2 (E := E) tt gl H (C3 n) n 8 Tryz.f8 [.t (.sl (.nm 0))] (x0, ())
noncomputable def fixed_Check_l0 (n : Nat) (m0 : Nat) (v0 : List FixedField) (v11 : List FixedField) (v12 : Int) (v13 : Int) : Option Int := lp (E := E) (ps := [.t (.sl (.nm 0))]) tt gl H (C3 n) n 8 Tryz.f8 [1, 1, 0, 1, 0] [] m0 ⟨mkT 56 0 [(0, .t (.sl (.nm 0)) v0), (11, .t (.sl (.nm 0)) v11), (12, .t (.int .i64) v12), (13, .t (.int .i64) v13)], mkB 224 0 []⟩
noncomputable def fixed_Check_l2 (n : Nat) (m0 : Nat) (m1 : Nat) (v0 : List FixedField) (v11 : List FixedField) (v12 : Int) (v13 : Int) (v25 : List FixedField) (v26 : Int) (v27 : Int) (w4 : FixedField) : Option Int := lp (E := E) (ps := [.t (.sl (.nm 0))]) tt gl H (C3 n) n 8 Tryz.f8 [1, 1, 0, 1, 0, 0, 1, 1, 0, 0, 1, 1, 1, 0] [m0] m1 ⟨mkT 56 0 [(0, .t (.sl (.nm 0)) v0), (4, .ptr 4 (.nm 0) []), (11, .t (.sl (.nm 0)) v11), (12, .t (.int .i64) v12), (13, .t (.int .i64) v13), (25, .t (.sl (.nm 0)) v25), (26, .t (.int .i64) v26), (27, .t (.int .i64) v27)], mkB 224 0 [(4, .var (.nm 0) (.t (.nm 0) w4))]⟩
theorem fixed_Check_l2_eq (n : Nat) (m0 : Nat) (m1 : Nat) (v0 : List FixedField) (v11 : List FixedField) (v12 : Int) (v13 : Int) (v25 : List FixedField) (v26 : Int) (v27 : Int) (w4 : FixedField) : fixed_Check_l2 n m0 (m1 + 1) v0 v11 v12 v13 v25 v26 v27 w4 = (bif (decide (v27 < v26)) then (bif (decide (0 ≤ v27) && decide (v27 < List.length v25)) then (bif (((List.getD v25 (Int.toNat v27) (FixedField.mk [] 0 0 0 0 false 0)).Name) == w4.Name) then (some 5) else (bif (decide (w4.At < (IntKind.wrap .i64 (((List.getD v25 (Int.toNat v27) (FixedField.mk [] 0 0 0 0 false 0)).At) + ((List.getD v25 (Int.toNat v27) (FixedField.mk [] 0 0 0 0 false 0)).Wide))))) then (bif (decide (((List.getD v25 (Int.toNat v27) (FixedField.mk [] 0 0 0 0 false 0)).At) < (IntKind.wrap .i64 (w4.At + w4.Wide)))) then (some 17) else (fixed_Check_l2 n m0 m1 v0 v11 v12 v13 v25 v26 (IntKind.wrap .i64 (v27 + 1)) w4)) else (fixed_Check_l2 n m0 m1 v0 v11 v12 v13 v25 v26 (IntKind.wrap .i64 (v27 + 1)) w4))) else none) else (fixed_Check_l0 n m0 v0 v11 v12 (IntKind.wrap .i64 (v13 + 1)))) := by kernel_rfl
theorem fixed_Check_l2_zero (n : Nat) (m0 : Nat) (v0 : List FixedField) (v11 : List FixedField) (v12 : Int) (v13 : Int) (v25 : List FixedField) (v26 : Int) (v27 : Int) (w4 : FixedField) : fixed_Check_l2 n m0 0 v0 v11 v12 v13 v25 v26 v27 w4 = none := by kernel_rfl
theorem fixed_Check_l2_fold (n : Nat) (m0 : Nat) (v0 : List FixedField) (v11 : List FixedField) (v12 : Int) (v13 : Int) (v25 : List FixedField) (w4 : FixedField) (hl : List.length v25 < 9223372036854775807) (m i : Nat) (hi : i ≤ List.length v25) (hm : List.length v25 - i < m) : fixed_Check_l2 n m0 m v0 v11 v12 v13 v25 (List.length v25 : Int) (i : Int) w4 = foldK (S := Unit) (fun i (a : FixedField) s K => (bif ((a.Name) == w4.Name) then (some 5) else (bif (decide (w4.At < (IntKind.wrap .i64 ((a.At) + (a.Wide))))) then (bif (decide ((a.At) < (IntKind.wrap .i64 (w4.At + w4.Wide)))) then (some 17) else (K ())) else (K ())))) (fun s => (fixed_Check_l0 n m0 v0 v11 v12 (IntKind.wrap .i64 (v13 + 1)))) (List.drop i v25) i () := range_loop v25 (FixedField.mk [] 0 0 0 0 false 0) hl (fun m (k : Int) (s : Unit) => fixed_Check_l2 n m0 m v0 v11 v12 v13 v25 (List.length v25 : Int) k w4) _ _ (fun m i s => (fixed_Check_l2_eq n m0 m v0 v11 v12 v13 v25 (List.length v25 : Int) (i : Int) w4).trans (by kernel_rfl)) m i hi hm ()
theorem fixed_Check_l0_eq (n : Nat) (m0 : Nat) (v0 : List FixedField) (v11 : List FixedField) (v12 : Int) (v13 : Int) : fixed_Check_l0 n (m0 + 1) v0 v11 v12 v13 = (bif (decide (v13 < v12)) then (bif (decide (0 ≤ v13) && decide (v13 < List.length v11)) then (Option.bind (fixed_one n (List.getD v11 (Int.toNat v13) (FixedField.mk [] 0 0 0 0 false 0))) fun r1 => (bif (!decide (r1 = 0)) then (some r1) else (bif (decide (0 ≤ v13) && decide (v13 ≤ (List.length v0))) then (fixed_Check_l2 n m0 n v0 v11 v12 v13 (List.take (Int.toNat v13) v0) (List.length (List.take (Int.toNat v13) v0) : Int) 0 (List.getD v11 (Int.toNat v13) (FixedField.mk [] 0 0 0 0 false 0))) else none))) else none) else (some 0)) := by kernel_rfl
theorem fixed_Check_l0_zero (n : Nat) (v0 : List FixedField) (v11 : List FixedField) (v12 : Int) (v13 : Int) : fixed_Check_l0 n 0 v0 v11 v12 v13 = none := by kernel_rfl
theorem fixed_Check_eq (n : Nat) (x0 : List FixedField) : fixed_Check n x0 = (bif (decide ((List.length x0 : Int) > 24)) then (some 2) else (fixed_Check_l0 n n x0 x0 (List.length x0 : Int) 0)) := by kernel_rfl
noncomputable def C4 (n : Nat) : Call2 E := more tt gl H (C3 n) n 8 Tryz.f8 [.t (.sl (.nm 0))] (C3 n)

/- clapperbridge/fixed.Wide -/
noncomputable def fixed_Wide (n : Nat) (x0 : List FixedField) : Option Int := F2 (E := E) tt gl H (C4 n) n 9 Tryz.f9 [.t (.sl (.nm 0))] (x0, ())
noncomputable def fixed_Wide_l0 (n : Nat) (m0 : Nat) (v3 : Int) (v6 : List FixedField) (v7 : Int) (v8 : Int) : Option Int := lp (E := E) (ps := [.t (.sl (.nm 0))]) tt gl H (C4 n) n 9 Tryz.f9 [1, 1, 0, 1, 0] [] m0 ⟨mkT 21 0 [(3, .t (.int .i64) v3), (6, .t (.sl (.nm 0)) v6), (7, .t (.int .i64) v7), (8, .t (.int .i64) v8)], mkB 84 0 []⟩
theorem fixed_Wide_l0_eq (n : Nat) (m0 : Nat) (v3 : Int) (v6 : List FixedField) (v7 : Int) (v8 : Int) : fixed_Wide_l0 n (m0 + 1) v3 v6 v7 v8 = (bif (decide (v8 < v7)) then (bif (decide (0 ≤ v8) && decide (v8 < List.length v6)) then (fixed_Wide_l0 n m0 (mxI v3 (IntKind.wrap .i64 (((List.getD v6 (Int.toNat v8) (FixedField.mk [] 0 0 0 0 false 0)).At) + ((List.getD v6 (Int.toNat v8) (FixedField.mk [] 0 0 0 0 false 0)).Wide)))) v6 v7 (IntKind.wrap .i64 (v8 + 1))) else none) else (some v3)) := by kernel_rfl
theorem fixed_Wide_l0_zero (n : Nat) (v3 : Int) (v6 : List FixedField) (v7 : Int) (v8 : Int) : fixed_Wide_l0 n 0 v3 v6 v7 v8 = none := by kernel_rfl
theorem fixed_Wide_l0_fold (n : Nat) (v6 : List FixedField) (v3 : Int) (hl : List.length v6 < 9223372036854775807) (m i : Nat) (hi : i ≤ List.length v6) (hm : List.length v6 - i < m) : fixed_Wide_l0 n m v3 v6 (List.length v6 : Int) (i : Int) = foldK (S := Int) (fun i (a : FixedField) s K => (K (mxI s (IntKind.wrap .i64 ((a.At) + (a.Wide)))))) (fun s => (some s)) (List.drop i v6) i (v3) := range_loop v6 (FixedField.mk [] 0 0 0 0 false 0) hl (fun m (k : Int) (s : Int) => fixed_Wide_l0 n m s v6 (List.length v6 : Int) k) _ _ (fun m i s => (fixed_Wide_l0_eq n m s v6 (List.length v6 : Int) (i : Int)).trans (by kernel_rfl)) m i hi hm (v3)
theorem fixed_Wide_eq (n : Nat) (x0 : List FixedField) : fixed_Wide n x0 = (fixed_Wide_l0 n n 0 x0 (List.length x0 : Int) 0) := by kernel_rfl
noncomputable def C5 (n : Nat) : Call2 E := more tt gl H (C4 n) n 9 Tryz.f9 [.t (.sl (.nm 0))] (C4 n)
def lay18_ren : Go.Shelf.Ren := ⟨fun | 101 => 18 | 208 => 38 | 206 => 65 | n => n, fun | 9 => 9 | 4 => 4 | 3 => 3 | n => n, fun | n => n⟩
theorem lay18 : Go.Proofs.Lays.n101 Tryz.prog lay18_ren := {
  mixed := by kernel_rfl
  f101 := Tryz.func18.trans (congrArg some (by kernel_rfl))
  f206 := Tryz.func65.trans (congrArg some (by kernel_rfl))
  f208 := Tryz.func38.trans (congrArg some (by kernel_rfl))
  t3 := Tryz.underlying3
  a3 := Tryz.isAgg3
  z3 := Tryz.sizeOf3
  v3 := Tryz.zeroValue3
  t4 := Tryz.underlying4
  a4 := Tryz.isAgg4
  z4 := Tryz.sizeOf4
  v4 := Tryz.zeroValue4
  t9 := Tryz.underlying9
  a9 := Tryz.isAgg9
  z9 := Tryz.sizeOf9
  v9 := Tryz.zeroValue9 }
theorem fnok18 : FnOK Tryz.prog 18 := ⟨Tryz.f18, _, Tryz.func18, by decide, rfl⟩
noncomputable def C6 (n : Nat) : Call2 E := moreP 18 [.str, .str] .str (fun x => some (Go.Lib.trimPrefix x.1 x.2.1)) (C5 n)

/- clapperbridge/fixed.text -/
noncomputable def fixed_text (n : Nat) (x0 : FixedField) (x1 : List Int) : Option (List UInt8 × Bool) := F2 (E := E) tt gl H (C6 n) n 17 Tryz.f17 [.t (.nm 0), .t (.sl (.int .u8))] (x0, x1, ())
noncomputable def fixed_text_l0 (n : Nat) (m0 : Nat) (v1 : List Int) (v7 : List UInt8) (v29 : List Int) (v30 : Int) (v31 : Int) (w2 : FixedField) : Option (List UInt8 × Bool) := lp (E := E) (ps := [.t (.nm 0), .t (.sl (.int .u8))]) tt gl H (C6 n) n 17 Tryz.f17 [1, 1, 1, 0, 1, 0] [] m0 ⟨mkT 72 0 [(1, .t (.sl (.int .u8)) v1), (2, .ptr 2 (.nm 0) []), (7, .t .str v7), (29, .t (.sl (.int .u8)) v29), (30, .t (.int .i64) v30), (31, .t (.int .i64) v31)], mkB 288 0 [(2, .var (.nm 0) (.t (.nm 0) w2))]⟩
theorem fixed_text_l0_eq (n : Nat) (m0 : Nat) (v1 : List Int) (v7 : List UInt8) (v29 : List Int) (v30 : Int) (v31 : Int) (w2 : FixedField) : fixed_text_l0 n (m0 + 1) v1 v7 v29 v30 v31 w2 = (bif (decide (v31 < v30)) then (bif (decide (0 ≤ v31) && decide (v31 < List.length v29)) then (bif (decide (0 ≤ 4)) then (bif (decide (List.length v7 + List.length (byts [(IntKind.wrap .u8 ((48 : Int) + (shr .u8 (List.getD v29 (Int.toNat v31) (0 : Int)) 4)))]) ≤ 4294967296)) then (bif (decide (v31 < (IntKind.wrap .i64 ((List.length v1 : Int) - 1)))) then (bif (decide (List.length (v7 ++ (byts [(IntKind.wrap .u8 ((48 : Int) + (shr .u8 (List.getD v29 (Int.toNat v31) (0 : Int)) 4)))])) + List.length (byts [(IntKind.wrap .u8 ((48 : Int) + (Fv.bits .and .u8 (List.getD v29 (Int.toNat v31) (0 : Int)) 15)))]) ≤ 4294967296)) then (fixed_text_l0 n m0 v1 ((v7 ++ (byts [(IntKind.wrap .u8 ((48 : Int) + (shr .u8 (List.getD v29 (Int.toNat v31) (0 : Int)) 4)))])) ++ (byts [(IntKind.wrap .u8 ((48 : Int) + (Fv.bits .and .u8 (List.getD v29 (Int.toNat v31) (0 : Int)) 15)))])) v29 v30 (IntKind.wrap .i64 (v31 + 1)) w2) else none) else (fixed_text_l0 n m0 v1 (v7 ++ (byts [(IntKind.wrap .u8 ((48 : Int) + (shr .u8 (List.getD v29 (Int.toNat v31) (0 : Int)) 4)))])) v29 v30 (IntKind.wrap .i64 (v31 + 1)) w2)) else none) else none) else none) else (bif (decide (0 ≤ (IntKind.wrap .i64 ((List.length v1 : Int) - 1))) && decide ((IntKind.wrap .i64 ((List.length v1 : Int) - 1)) < List.length v1)) then (bif (decide ((Fv.bits .and .u8 (List.getD v1 (Int.toNat (IntKind.wrap .i64 ((List.length v1 : Int) - 1))) (0 : Int)) 15) = 12)) then (some (v7, true)) else (bif (decide ((Fv.bits .and .u8 (List.getD v1 (Int.toNat (IntKind.wrap .i64 ((List.length v1 : Int) - 1))) (0 : Int)) 15) = 13)) then (bif (decide (List.length ([45] : List UInt8) + List.length v7 ≤ 4294967296)) then (some ((([45] : List UInt8) ++ v7), w2.Signed)) else none) else (some ([], false)))) else none)) := by kernel_rfl
theorem fixed_text_l0_zero (n : Nat) (v1 : List Int) (v7 : List UInt8) (v29 : List Int) (v30 : Int) (v31 : Int) (w2 : FixedField) : fixed_text_l0 n 0 v1 v7 v29 v30 v31 w2 = none := by kernel_rfl
theorem fixed_text_l0_fold (n : Nat) (v1 : List Int) (v29 : List Int) (w2 : FixedField) (v7 : List UInt8) (hl : List.length v29 < 9223372036854775807) (m i : Nat) (hi : i ≤ List.length v29) (hm : List.length v29 - i < m) : fixed_text_l0 n m v1 v7 v29 (List.length v29 : Int) (i : Int) w2 = foldK (S := (List UInt8)) (fun i (a : Int) s K => (bif (decide (0 ≤ 4)) then (bif (decide (List.length s + List.length (byts [(IntKind.wrap .u8 ((48 : Int) + (shr .u8 a 4)))]) ≤ 4294967296)) then (bif (decide ((i : Int) < (IntKind.wrap .i64 ((List.length v1 : Int) - 1)))) then (bif (decide (List.length (s ++ (byts [(IntKind.wrap .u8 ((48 : Int) + (shr .u8 a 4)))])) + List.length (byts [(IntKind.wrap .u8 ((48 : Int) + (Fv.bits .and .u8 a 15)))]) ≤ 4294967296)) then (K ((s ++ (byts [(IntKind.wrap .u8 ((48 : Int) + (shr .u8 a 4)))])) ++ (byts [(IntKind.wrap .u8 ((48 : Int) + (Fv.bits .and .u8 a 15)))]))) else none) else (K (s ++ (byts [(IntKind.wrap .u8 ((48 : Int) + (shr .u8 a 4)))])))) else none) else none)) (fun s => (bif (decide (0 ≤ (IntKind.wrap .i64 ((List.length v1 : Int) - 1))) && decide ((IntKind.wrap .i64 ((List.length v1 : Int) - 1)) < List.length v1)) then (bif (decide ((Fv.bits .and .u8 (List.getD v1 (Int.toNat (IntKind.wrap .i64 ((List.length v1 : Int) - 1))) (0 : Int)) 15) = 12)) then (some (s, true)) else (bif (decide ((Fv.bits .and .u8 (List.getD v1 (Int.toNat (IntKind.wrap .i64 ((List.length v1 : Int) - 1))) (0 : Int)) 15) = 13)) then (bif (decide (List.length ([45] : List UInt8) + List.length s ≤ 4294967296)) then (some ((([45] : List UInt8) ++ s), w2.Signed)) else none) else (some ([], false)))) else none)) (List.drop i v29) i (v7) := range_loop v29 (0 : Int) hl (fun m (k : Int) (s : (List UInt8)) => fixed_text_l0 n m v1 s v29 (List.length v29 : Int) k w2) _ _ (fun m i s => (fixed_text_l0_eq n m v1 s v29 (List.length v29 : Int) (i : Int) w2).trans (by kernel_rfl)) m i hi hm (v7)
theorem fixed_text_eq (n : Nat) (x0 : FixedField) (x1 : List Int) : fixed_text n x0 x1 = (bif (decide (x0.Kind = 1)) then (bif (!x0.Signed) then (some ((byts x1), true)) else (bif (decide (0 ≤ (0 : Int)) && decide ((0 : Int) < List.length (byts x1))) then (bif (decide (((UInt8.toNat (List.getD (byts x1) (Int.toNat (0 : Int)) 0) : Nat) : Int) = 43)) then (some ((Go.Lib.trimPrefix (byts x1) ([43] : List UInt8)), true)) else (bif (decide (0 ≤ (0 : Int)) && decide ((0 : Int) < List.length (byts x1))) then (some ((Go.Lib.trimPrefix (byts x1) ([43] : List UInt8)), (decide (((UInt8.toNat (List.getD (byts x1) (Int.toNat (0 : Int)) 0) : Nat) : Int) = 45)))) else none)) else none)) else (fixed_text_l0 n n x1 [] x1 (List.length x1 : Int) 0 x0)) := by kernel_rfl
noncomputable def C7 (n : Nat) : Call2 E := more tt gl H (C6 n) n 17 Tryz.f17 [.t (.nm 0), .t (.sl (.int .u8))] (C6 n)
def lay19_ren : Go.Shelf.Ren := ⟨fun | 160 => 19 | 232 => 40 | 231 => 39 | 227 => 41 | 234 => 43 | 233 => 42 | 236 => 45 | 235 => 44 | 228 => 66 | 271 => 69 | 151 => 68 | 197 => 67 | 120 => 87 | 152 => 86 | 260 => 85 | 137 => 99 | 119 => 100 | 224 => 101 | 225 => 102 | 217 => 105 | 266 => 106 | n => n, fun | 9 => 9 | 4 => 4 | 3 => 3 | 5 => 5 | 117 => 79 | 116 => 78 | 0 => 0 | 124 => 82 | 21 => 21 | 105 => 102 | 46 => 75 | 119 => 132 | 139 => 135 | 138 => 134 | n => n, fun | 3 => 4 | 4 => 5 | n => n⟩
theorem lay19 : Go.Proofs.Lays.n160 Tryz.prog lay19_ren := {
  mixed := by kernel_rfl
  f119 := Tryz.func100.trans (congrArg some (by kernel_rfl))
  f120 := Tryz.func87.trans (congrArg some (by kernel_rfl))
  f137 := Tryz.func99.trans (congrArg some (by kernel_rfl))
  f151 := Tryz.func68.trans (congrArg some (by kernel_rfl))
  f152 := Tryz.func86.trans (congrArg some (by kernel_rfl))
  f160 := Tryz.func19.trans (congrArg some (by kernel_rfl))
  f197 := Tryz.func67.trans (congrArg some (by kernel_rfl))
  f217 := Tryz.func105.trans (congrArg some (by kernel_rfl))
  f224 := Tryz.func101.trans (congrArg some (by kernel_rfl))
  f225 := Tryz.func102.trans (congrArg some (by kernel_rfl))
  f227 := Tryz.func41.trans (congrArg some (by kernel_rfl))
  f228 := Tryz.func66.trans (congrArg some (by kernel_rfl))
  f231 := Tryz.func39.trans (congrArg some (by kernel_rfl))
  f232 := Tryz.func40.trans (congrArg some (by kernel_rfl))
  f233 := Tryz.func42.trans (congrArg some (by kernel_rfl))
  f234 := Tryz.func43.trans (congrArg some (by kernel_rfl))
  f235 := Tryz.func44.trans (congrArg some (by kernel_rfl))
  f236 := Tryz.func45.trans (congrArg some (by kernel_rfl))
  f260 := Tryz.func85.trans (congrArg some (by kernel_rfl))
  f266 := Tryz.func106.trans (congrArg some (by kernel_rfl))
  f271 := Tryz.func69.trans (congrArg some (by kernel_rfl))
  t0 := Tryz.underlying0
  a0 := Tryz.isAgg0
  z0 := Tryz.sizeOf0
  v0 := Tryz.zeroValue0
  t3 := Tryz.underlying3
  a3 := Tryz.isAgg3
  z3 := Tryz.sizeOf3
  v3 := Tryz.zeroValue3
  t4 := Tryz.underlying4
  a4 := Tryz.isAgg4
  z4 := Tryz.sizeOf4
  v4 := Tryz.zeroValue4
  t5 := Tryz.underlying5
  a5 := Tryz.isAgg5
  z5 := Tryz.sizeOf5
  v5 := Tryz.zeroValue5
  t9 := Tryz.underlying9
  a9 := Tryz.isAgg9
  z9 := Tryz.sizeOf9
  v9 := Tryz.zeroValue9
  t21 := Tryz.underlying21
  a21 := Tryz.isAgg21
  z21 := Tryz.sizeOf21
  v21 := Tryz.zeroValue21
  t46 := Tryz.underlying75
  a46 := Tryz.isAgg75
  z46 := Tryz.sizeOf75
  v46 := Tryz.zeroValue75
  t105 := Tryz.underlying102
  a105 := Tryz.isAgg102
  z105 := Tryz.sizeOf102
  v105 := Tryz.zeroValue102
  t116 := Tryz.underlying78
  a116 := Tryz.isAgg78
  z116 := Tryz.sizeOf78
  t117 := Tryz.underlying79
  a117 := Tryz.isAgg79
  z117 := Tryz.sizeOf79
  v117 := Tryz.zeroValue79
  t119 := Tryz.underlying132
  a119 := Tryz.isAgg132
  z119 := Tryz.sizeOf132
  t124 := Tryz.underlying82
  a124 := Tryz.isAgg82
  z124 := Tryz.sizeOf82
  v124 := Tryz.zeroValue82
  t138 := Tryz.underlying134
  a138 := Tryz.isAgg134
  z138 := Tryz.sizeOf134
  v138 := Tryz.zeroValue134
  t139 := Tryz.underlying135
  a139 := Tryz.isAgg135
  z139 := Tryz.sizeOf135
  v139 := Tryz.zeroValue135
  g3 := by kernel_rfl
  g4 := by kernel_rfl }
theorem fnok19 : FnOK Tryz.prog 19 := ⟨Tryz.f19, _, Tryz.func19, by decide, rfl⟩
noncomputable def C8 (n : Nat) : Call2 E := moreP 19 [.str, .str] .str (fun x => trimO x.1 x.2.1) (C7 n)
def lay20_ren : Go.Shelf.Ren := ⟨fun | 172 => 20 | 244 => 46 | 245 => 47 | 247 => 52 | 279 => 70 | 280 => 71 | 281 => 72 | 282 => 73 | 287 => 79 | 316 => 88 | 171 => 49 | 205 => 89 | 321 => 95 | 322 => 96 | 243 => 74 | 246 => 51 | 283 => 75 | 284 => 76 | 285 => 77 | 286 => 78 | 129 => 91 | 317 => 90 | 318 => 92 | 319 => 93 | 320 => 94 | 337 => 103 | 338 => 104 | n => n, fun | 9 => 9 | 3 => 3 | 75 => 49 | 76 => 50 | 4 => 4 | 5 => 5 | 167 => 105 | 37 => 23 | 0 => 0 | 85 => 62 | 2 => 2 | 168 => 106 | 53 => 67 | 175 => 90 | 46 => 75 | 210 => 123 | 127 => 119 | 145 => 140 | 143 => 138 | 21 => 21 | 171 => 109 | 173 => 112 | 212 => 125 | 51 => 114 | 20 => 20 | 213 => 126 | 232 => 142 | 233 => 143 | 80 => 99 | n => n, fun | 15 => 1 | 16 => 2 | 17 => 3 | 18 => 6 | 19 => 7 | n => n⟩
theorem lay20 : Go.Proofs.LaysC.n172 Tryz.prog lay20_ren := {
  mixed := by kernel_rfl
  f129 := Tryz.func91.trans (congrArg some (by kernel_rfl))
  f171 := Tryz.func49.trans (congrArg some (by kernel_rfl))
  f172 := Tryz.func20.trans (congrArg some (by kernel_rfl))
  f205 := Tryz.func89.trans (congrArg some (by kernel_rfl))
  f243 := Tryz.func74.trans (congrArg some (by kernel_rfl))
  f244 := Tryz.func46.trans (congrArg some (by kernel_rfl))
  f245 := Tryz.func47.trans (congrArg some (by kernel_rfl))
  f246 := Tryz.func51.trans (congrArg some (by kernel_rfl))
  f247 := Tryz.func52.trans (congrArg some (by kernel_rfl))
  f279 := Tryz.func70.trans (congrArg some (by kernel_rfl))
  f280 := Tryz.func71.trans (congrArg some (by kernel_rfl))
  f281 := Tryz.func72.trans (congrArg some (by kernel_rfl))
  f282 := Tryz.func73.trans (congrArg some (by kernel_rfl))
  f283 := Tryz.func75.trans (congrArg some (by kernel_rfl))
  f284 := Tryz.func76.trans (congrArg some (by kernel_rfl))
  f285 := Tryz.func77.trans (congrArg some (by kernel_rfl))
  f286 := Tryz.func78.trans (congrArg some (by kernel_rfl))
  f287 := Tryz.func79.trans (congrArg some (by kernel_rfl))
  f316 := Tryz.func88.trans (congrArg some (by kernel_rfl))
  f317 := Tryz.func90.trans (congrArg some (by kernel_rfl))
  f318 := Tryz.func92.trans (congrArg some (by kernel_rfl))
  f319 := Tryz.func93.trans (congrArg some (by kernel_rfl))
  f320 := Tryz.func94.trans (congrArg some (by kernel_rfl))
  f321 := Tryz.func95.trans (congrArg some (by kernel_rfl))
  f322 := Tryz.func96.trans (congrArg some (by kernel_rfl))
  f337 := Tryz.func103.trans (congrArg some (by kernel_rfl))
  f338 := Tryz.func104.trans (congrArg some (by kernel_rfl))
  t0 := Tryz.underlying0
  a0 := Tryz.isAgg0
  z0 := Tryz.sizeOf0
  v0 := Tryz.zeroValue0
  t2 := Tryz.underlying2
  a2 := Tryz.isAgg2
  z2 := Tryz.sizeOf2
  v2 := Tryz.zeroValue2
  t3 := Tryz.underlying3
  a3 := Tryz.isAgg3
  z3 := Tryz.sizeOf3
  v3 := Tryz.zeroValue3
  t4 := Tryz.underlying4
  a4 := Tryz.isAgg4
  z4 := Tryz.sizeOf4
  v4 := Tryz.zeroValue4
  t5 := Tryz.underlying5
  a5 := Tryz.isAgg5
  z5 := Tryz.sizeOf5
  v5 := Tryz.zeroValue5
  t9 := Tryz.underlying9
  a9 := Tryz.isAgg9
  z9 := Tryz.sizeOf9
  v9 := Tryz.zeroValue9
  t20 := Tryz.underlying20
  a20 := Tryz.isAgg20
  z20 := Tryz.sizeOf20
  v20 := Tryz.zeroValue20
  t21 := Tryz.underlying21
  a21 := Tryz.isAgg21
  z21 := Tryz.sizeOf21
  v21 := Tryz.zeroValue21
  t37 := Tryz.underlying23
  a37 := Tryz.isAgg23
  z37 := Tryz.sizeOf23
  v37 := Tryz.zeroValue23
  t46 := Tryz.underlying75
  a46 := Tryz.isAgg75
  z46 := Tryz.sizeOf75
  v46 := Tryz.zeroValue75
  t51 := Tryz.underlying114
  a51 := Tryz.isAgg114
  z51 := Tryz.sizeOf114
  v51 := Tryz.zeroValue114
  t53 := Tryz.underlying67
  a53 := Tryz.isAgg67
  z53 := Tryz.sizeOf67
  v53 := Tryz.zeroValue67
  t75 := Tryz.underlying49
  a75 := Tryz.isAgg49
  z75 := Tryz.sizeOf49
  v75 := Tryz.zeroValue49
  t76 := Tryz.underlying50
  a76 := Tryz.isAgg50
  z76 := Tryz.sizeOf50
  v76 := Tryz.zeroValue50
  t85 := Tryz.underlying62
  a85 := Tryz.isAgg62
  z85 := Tryz.sizeOf62
  v85 := Tryz.zeroValue62
  t127 := Tryz.underlying119
  a127 := Tryz.isAgg119
  z127 := Tryz.sizeOf119
  v127 := Tryz.zeroValue119
  t143 := Tryz.underlying138
  a143 := Tryz.isAgg138
  z143 := Tryz.sizeOf138
  v143 := Tryz.zeroValue138
  t145 := Tryz.underlying140
  a145 := Tryz.isAgg140
  z145 := Tryz.sizeOf140
  v145 := Tryz.zeroValue140
  t167 := Tryz.underlying105
  a167 := Tryz.isAgg105
  z167 := Tryz.sizeOf105
  v167 := Tryz.zeroValue105
  t168 := Tryz.underlying106
  a168 := Tryz.isAgg106
  z168 := Tryz.sizeOf106
  v168 := Tryz.zeroValue106
  t171 := Tryz.underlying109
  a171 := Tryz.isAgg109
  z171 := Tryz.sizeOf109
  v171 := Tryz.zeroValue109
  t173 := Tryz.underlying112
  a173 := Tryz.isAgg112
  z173 := Tryz.sizeOf112
  v173 := Tryz.zeroValue112
  t175 := Tryz.underlying90
  a175 := Tryz.isAgg90
  z175 := Tryz.sizeOf90
  v175 := Tryz.zeroValue90
  t210 := Tryz.underlying123
  a210 := Tryz.isAgg123
  z210 := Tryz.sizeOf123
  v210 := Tryz.zeroValue123
  t212 := Tryz.underlying125
  a212 := Tryz.isAgg125
  z212 := Tryz.sizeOf125
  v212 := Tryz.zeroValue125
  t213 := Tryz.underlying126
  a213 := Tryz.isAgg126
  z213 := Tryz.sizeOf126
  t232 := Tryz.underlying142
  a232 := Tryz.isAgg142
  z232 := Tryz.sizeOf142
  v232 := Tryz.zeroValue142
  t233 := Tryz.underlying143
  a233 := Tryz.isAgg143
  z233 := Tryz.sizeOf143
  v233 := Tryz.zeroValue143
  g15 := by kernel_rfl
  g16 := by kernel_rfl
  g17 := by kernel_rfl
  g18 := by kernel_rfl
  g19 := by kernel_rfl
  t80 := Tryz.underlying99
  a80 := Tryz.isAgg99
  z80 := Tryz.sizeOf99
  v80 := Tryz.zeroValue99
  i0 := by kernel_rfl
  i2 := by kernel_rfl
  i3 := by kernel_rfl
  i4 := by kernel_rfl
  i5 := by kernel_rfl
  i9 := by kernel_rfl
  i20 := by kernel_rfl
  i21 := by kernel_rfl
  i37 := by kernel_rfl
  i46 := by kernel_rfl
  i51 := by kernel_rfl
  i53 := by kernel_rfl
  i75 := by kernel_rfl
  i76 := by kernel_rfl
  i80 := by kernel_rfl
  i85 := by kernel_rfl
  i127 := by kernel_rfl
  i143 := by kernel_rfl
  i145 := by kernel_rfl
  i167 := by kernel_rfl
  i168 := by kernel_rfl
  i171 := by kernel_rfl
  i173 := by kernel_rfl
  i175 := by kernel_rfl
  i210 := by kernel_rfl
  i212 := by kernel_rfl
  i232 := by kernel_rfl
  i233 := by kernel_rfl
  m15 := by kernel_rfl
  m16 := by kernel_rfl
  m17 := by kernel_rfl
  m18 := by kernel_rfl
  m19 := by kernel_rfl
  c0 := by kernel_rfl
  c2 := by kernel_rfl
  c3 := by kernel_rfl
  c4 := by kernel_rfl
  c5 := by kernel_rfl
  c9 := by kernel_rfl
  c20 := by kernel_rfl
  c21 := by kernel_rfl
  c37 := by kernel_rfl
  c46 := by kernel_rfl
  c51 := by kernel_rfl
  c53 := by kernel_rfl
  c75 := by kernel_rfl
  c76 := by kernel_rfl
  c80 := by kernel_rfl
  c85 := by kernel_rfl
  c127 := by kernel_rfl
  c143 := by kernel_rfl
  c145 := by kernel_rfl
  c167 := by kernel_rfl
  c168 := by kernel_rfl
  c171 := by kernel_rfl
  c173 := by kernel_rfl
  c175 := by kernel_rfl
  c210 := by kernel_rfl
  c212 := by kernel_rfl
  c213 := by kernel_rfl
  c232 := by kernel_rfl
  c233 := by kernel_rfl }
theorem fnok20 : FnOK Tryz.prog 20 := ⟨Tryz.f20, _, Tryz.func20, by decide, rfl⟩
noncomputable def C9 (n : Nat) : Call2 E := moreE 20 [.str] (.int .i64) (fun x => atoiO x.1) (C8 n)

/- math/bits.Mul64 -/
noncomputable def bits_Mul64 (n : Nat) (x0 : Int) (x1 : Int) : Option (Int × Int) := F2 (E := E) tt gl H (C9 n) n 81 Tryz.f81 [.t (.int .u64), .t (.int .u64)] (x0, x1, ())
theorem bits_Mul64_eq (n : Nat) (x0 : Int) (x1 : Int) : bits_Mul64 n x0 x1 = (bif (decide (0 ≤ 32)) then (bif (decide (0 ≤ 32)) then (bif (decide (0 ≤ 32)) then (bif (decide (0 ≤ 32)) then (bif (decide (0 ≤ 32)) then (some ((IntKind.wrap .u64 ((IntKind.wrap .u64 ((IntKind.wrap .u64 ((shr .u64 x0 32) * (shr .u64 x1 32))) + (shr .u64 (IntKind.wrap .u64 ((IntKind.wrap .u64 ((shr .u64 x0 32) * (Fv.bits .and .u64 x1 4294967295))) + (shr .u64 (IntKind.wrap .u64 ((Fv.bits .and .u64 x0 4294967295) * (Fv.bits .and .u64 x1 4294967295))) 32))) 32))) + (shr .u64 (IntKind.wrap .u64 ((Fv.bits .and .u64 (IntKind.wrap .u64 ((IntKind.wrap .u64 ((shr .u64 x0 32) * (Fv.bits .and .u64 x1 4294967295))) + (shr .u64 (IntKind.wrap .u64 ((Fv.bits .and .u64 x0 4294967295) * (Fv.bits .and .u64 x1 4294967295))) 32))) 4294967295) + (IntKind.wrap .u64 ((Fv.bits .and .u64 x0 4294967295) * (shr .u64 x1 32))))) 32))), (IntKind.wrap .u64 (x0 * x1)))) else none) else none) else none) else none) else none) := by kernel_rfl
noncomputable def C10 (n : Nat) : Call2 E := more tt gl H (C9 n) n 81 Tryz.f81 [.t (.int .u64), .t (.int .u64)] (C9 n)

/- math/bits.Mul -/
noncomputable def bits_Mul (n : Nat) (x0 : Int) (x1 : Int) : Option (Int × Int) := F2 (E := E) tt gl H (C10 n) n 57 Tryz.f57 [.t (.int .u64), .t (.int .u64)] (x0, x1, ())
theorem bits_Mul_eq (n : Nat) (x0 : Int) (x1 : Int) : bits_Mul n x0 x1 = (Option.bind (bits_Mul64 n x0 x1) fun r1 => (some (r1.1, r1.2))) := by kernel_rfl
noncomputable def C11 (n : Nat) : Call2 E := more tt gl H (C10 n) n 57 Tryz.f57 [.t (.int .u64), .t (.int .u64)] (C10 n)

/- slices.Repeat[[]byte,byte] -/
noncomputable def slices_Repeat_byte (n : Nat) (x0 : List Int) (x1 : Int) : Option (List Int) := F2 (E := E) tt gl H (C11 n) n 48 Tryz.f48 [.t (.sl (.int .u8)), .t (.int .i64)] (x0, x1, ())
noncomputable def slices_Repeat_byte_l0 (n : Nat) (m0 : Nat) (v7l : Nat) (v8 : Int) (w23 : List Int) : Option (List Int) := lp (E := E) (ps := [.t (.sl (.int .u8)), .t (.int .i64)]) tt gl H (C11 n) n 48 Tryz.f48 [1, 1, 1, 1, 1, 1, 0, 0] [] m0 ⟨mkT 48 0 [(7, .fs 23 (.int .u8) 0 v7l), (8, .t (.int .i64) v8)], mkB 192 0 [(23, .row (.int .u8) w23)]⟩
theorem slices_Repeat_byte_l0_eq (n : Nat) (m0 : Nat) (v7l : Nat) (v8 : Int) (w23 : List Int) : slices_Repeat_byte_l0 n (m0 + 1) v7l v8 w23 = (bif (decide (v8 < (v7l : Int))) then (bif (decide (0 ≤ v8) && decide (v8 ≤ (v7l : Int))) then (bif (decide (0 ≤ (0 : Int)) && decide ((0 : Int) ≤ v8) && decide ((0 : Int) + v8 ≤ List.length w23)) then (bif (decide ((0 + (Int.toNat v8)) + (v7l - (Int.toNat v8)) ≤ List.length w23)) then (slices_Repeat_byte_l0 n m0 v7l (IntKind.wrap .i64 (v8 + ((min (List.length (List.take ((Int.toNat v8) - (Int.toNat (0 : Int))) (List.drop (0 + (Int.toNat (0 : Int))) w23))) (v7l - (Int.toNat v8)) : Nat) : Int))) (over w23 (List.take (v7l - (Int.toNat v8)) (List.take ((Int.toNat v8) - (Int.toNat (0 : Int))) (List.drop (0 + (Int.toNat (0 : Int))) w23))) (0 + (Int.toNat v8)))) else none) else none) else none) else (bif (decide (v7l = List.length w23)) then (some w23) else none)) := by kernel_rfl
theorem slices_Repeat_byte_l0_zero (n : Nat) (v7l : Nat) (v8 : Int) (w23 : List Int) : slices_Repeat_byte_l0 n 0 v7l v8 w23 = none := by kernel_rfl
theorem slices_Repeat_byte_eq (n : Nat) (x0 : List Int) (x1 : Int) : slices_Repeat_byte n x0 x1 = (bif (decide (x1 < 0)) then none else (Option.bind (bits_Mul n (IntKind.wrap .u64 (List.length x0 : Int)) (IntKind.wrap .u64 x1)) fun r1 => (bif (decide (r1.1 > 0)) then none else (bif (decide (r1.2 > 9223372036854775807)) then none else (bif (decide (0 ≤ (IntKind.wrap .i64 r1.2)) && decide ((IntKind.wrap .i64 r1.2) ≤ (IntKind.wrap .i64 r1.2)) && decide ((IntKind.wrap .i64 r1.2) ≤ 4294967296)) then (bif (decide (0 + (Int.toNat (IntKind.wrap .i64 r1.2)) ≤ List.length (List.replicate (Int.toNat (IntKind.wrap .i64 r1.2)) (0 : Int)))) then (slices_Repeat_byte_l0 n n (Int.toNat (IntKind.wrap .i64 r1.2)) ((min (List.length x0) (Int.toNat (IntKind.wrap .i64 r1.2)) : Nat) : Int) (over (List.replicate (Int.toNat (IntKind.wrap .i64 r1.2)) (0 : Int)) (List.take (Int.toNat (IntKind.wrap .i64 r1.2)) x0) 0)) else none) else none))))) := by kernel_rfl
noncomputable def C12 (n : Nat) : Call2 E := more tt gl H (C11 n) n 48 Tryz.f48 [.t (.sl (.int .u8)), .t (.int .i64)] (C11 n)
def lay49_ren : Go.Shelf.Ren := ⟨fun | 171 => 49 | 243 => 74 | 246 => 51 | 283 => 75 | 284 => 76 | 285 => 77 | 286 => 78 | 129 => 91 | 317 => 90 | 318 => 92 | 319 => 93 | 320 => 94 | 337 => 103 | 338 => 104 | n => n, fun | 3 => 3 | 9 => 9 | 2 => 2 | 4 => 4 | 171 => 109 | 0 => 0 | 53 => 67 | 37 => 23 | 5 => 5 | 173 => 112 | 212 => 125 | 51 => 114 | 20 => 20 | 213 => 126 | 46 => 75 | 232 => 142 | 233 => 143 | n => n, fun | 17 => 3 | 18 => 6 | 19 => 7 | n => n⟩
theorem lay49 : Go.Proofs.LaysM.n171 Tryz.prog lay49_ren := {
  mixed := by kernel_rfl
  f129 := Tryz.func91.trans (congrArg some (by kernel_rfl))
  f171 := Tryz.func49.trans (congrArg some (by kernel_rfl))
  f243 := Tryz.func74.trans (congrArg some (by kernel_rfl))
  f246 := Tryz.func51.trans (congrArg some (by kernel_rfl))
  f283 := Tryz.func75.trans (congrArg some (by kernel_rfl))
  f284 := Tryz.func76.trans (congrArg some (by kernel_rfl))
  f285 := Tryz.func77.trans (congrArg some (by kernel_rfl))
  f286 := Tryz.func78.trans (congrArg some (by kernel_rfl))
  f317 := Tryz.func90.trans (congrArg some (by kernel_rfl))
  f318 := Tryz.func92.trans (congrArg some (by kernel_rfl))
  f319 := Tryz.func93.trans (congrArg some (by kernel_rfl))
  f320 := Tryz.func94.trans (congrArg some (by kernel_rfl))
  f337 := Tryz.func103.trans (congrArg some (by kernel_rfl))
  f338 := Tryz.func104.trans (congrArg some (by kernel_rfl))
  t0 := Tryz.underlying0
  a0 := Tryz.isAgg0
  z0 := Tryz.sizeOf0
  v0 := Tryz.zeroValue0
  t2 := Tryz.underlying2
  a2 := Tryz.isAgg2
  z2 := Tryz.sizeOf2
  v2 := Tryz.zeroValue2
  t3 := Tryz.underlying3
  a3 := Tryz.isAgg3
  z3 := Tryz.sizeOf3
  v3 := Tryz.zeroValue3
  t4 := Tryz.underlying4
  a4 := Tryz.isAgg4
  z4 := Tryz.sizeOf4
  v4 := Tryz.zeroValue4
  t5 := Tryz.underlying5
  a5 := Tryz.isAgg5
  z5 := Tryz.sizeOf5
  v5 := Tryz.zeroValue5
  t9 := Tryz.underlying9
  a9 := Tryz.isAgg9
  z9 := Tryz.sizeOf9
  v9 := Tryz.zeroValue9
  t20 := Tryz.underlying20
  a20 := Tryz.isAgg20
  z20 := Tryz.sizeOf20
  v20 := Tryz.zeroValue20
  t37 := Tryz.underlying23
  a37 := Tryz.isAgg23
  z37 := Tryz.sizeOf23
  v37 := Tryz.zeroValue23
  t46 := Tryz.underlying75
  a46 := Tryz.isAgg75
  z46 := Tryz.sizeOf75
  v46 := Tryz.zeroValue75
  t51 := Tryz.underlying114
  a51 := Tryz.isAgg114
  z51 := Tryz.sizeOf114
  v51 := Tryz.zeroValue114
  t53 := Tryz.underlying67
  a53 := Tryz.isAgg67
  z53 := Tryz.sizeOf67
  v53 := Tryz.zeroValue67
  t171 := Tryz.underlying109
  a171 := Tryz.isAgg109
  z171 := Tryz.sizeOf109
  v171 := Tryz.zeroValue109
  t173 := Tryz.underlying112
  a173 := Tryz.isAgg112
  z173 := Tryz.sizeOf112
  v173 := Tryz.zeroValue112
  t212 := Tryz.underlying125
  a212 := Tryz.isAgg125
  z212 := Tryz.sizeOf125
  v212 := Tryz.zeroValue125
  t213 := Tryz.underlying126
  a213 := Tryz.isAgg126
  z213 := Tryz.sizeOf126
  t232 := Tryz.underlying142
  a232 := Tryz.isAgg142
  z232 := Tryz.sizeOf142
  v232 := Tryz.zeroValue142
  t233 := Tryz.underlying143
  a233 := Tryz.isAgg143
  z233 := Tryz.sizeOf143
  v233 := Tryz.zeroValue143
  g17 := by kernel_rfl
  g18 := by kernel_rfl
  g19 := by kernel_rfl
  i0 := by kernel_rfl
  i2 := by kernel_rfl
  i3 := by kernel_rfl
  i4 := by kernel_rfl
  i5 := by kernel_rfl
  i9 := by kernel_rfl
  i20 := by kernel_rfl
  i37 := by kernel_rfl
  i46 := by kernel_rfl
  i51 := by kernel_rfl
  i53 := by kernel_rfl
  i171 := by kernel_rfl
  i173 := by kernel_rfl
  i212 := by kernel_rfl
  i232 := by kernel_rfl
  i233 := by kernel_rfl
  m17 := by kernel_rfl
  m18 := by kernel_rfl
  m19 := by kernel_rfl }
theorem fnok49 : FnOK Tryz.prog 49 := ⟨Tryz.f49, _, Tryz.func49, by decide, rfl⟩
noncomputable def C13 (n : Nat) : Call2 E := moreP 49 [(.int .i64)] .str (fun x => itoaO x.1) (C12 n)
def lay30_ren : Go.Shelf.Ren := ⟨fun | 105 => 30 | 212 => 57 | 99 => 58 | 165 => 59 | 166 => 60 | 170 => 61 | 169 => 62 | 263 => 80 | 264 => 81 | 206 => 65 | 240 => 82 | 241 => 83 | 276 => 97 | 277 => 98 | n => n, fun | 9 => 9 | 3 => 3 | 4 => 4 | 20 => 20 | 0 => 0 | 46 => 75 | 109 => 92 | 5 => 5 | 72 => 96 | 76 => 50 | 51 => 114 | 146 => 115 | 53 => 67 | 148 => 117 | 70 => 94 | 37 => 23 | 75 => 49 | 127 => 119 | 164 => 129 | 80 => 99 | n => n, fun | n => n⟩
theorem lay30 : Go.Proofs.Lays.n105 Tryz.prog lay30_ren := {
  mixed := by kernel_rfl
  f99 := Tryz.func58.trans (congrArg some (by kernel_rfl))
  f105 := Tryz.func30.trans (congrArg some (by kernel_rfl))
  f165 := Tryz.func59.trans (congrArg some (by kernel_rfl))
  f166 := Tryz.func60.trans (congrArg some (by kernel_rfl))
  f169 := Tryz.func62.trans (congrArg some (by kernel_rfl))
  f170 := Tryz.func61.trans (congrArg some (by kernel_rfl))
  f206 := Tryz.func65.trans (congrArg some (by kernel_rfl))
  f212 := Tryz.func57.trans (congrArg some (by kernel_rfl))
  f240 := Tryz.func82.trans (congrArg some (by kernel_rfl))
  f241 := Tryz.func83.trans (congrArg some (by kernel_rfl))
  f263 := Tryz.func80.trans (congrArg some (by kernel_rfl))
  f264 := Tryz.func81.trans (congrArg some (by kernel_rfl))
  f276 := Tryz.func97.trans (congrArg some (by kernel_rfl))
  f277 := Tryz.func98.trans (congrArg some (by kernel_rfl))
  t0 := Tryz.underlying0
  a0 := Tryz.isAgg0
  z0 := Tryz.sizeOf0
  v0 := Tryz.zeroValue0
  t3 := Tryz.underlying3
  a3 := Tryz.isAgg3
  z3 := Tryz.sizeOf3
  v3 := Tryz.zeroValue3
  t4 := Tryz.underlying4
  a4 := Tryz.isAgg4
  z4 := Tryz.sizeOf4
  v4 := Tryz.zeroValue4
  t5 := Tryz.underlying5
  a5 := Tryz.isAgg5
  z5 := Tryz.sizeOf5
  v5 := Tryz.zeroValue5
  t9 := Tryz.underlying9
  a9 := Tryz.isAgg9
  z9 := Tryz.sizeOf9
  v9 := Tryz.zeroValue9
  t20 := Tryz.underlying20
  a20 := Tryz.isAgg20
  z20 := Tryz.sizeOf20
  v20 := Tryz.zeroValue20
  t37 := Tryz.underlying23
  a37 := Tryz.isAgg23
  z37 := Tryz.sizeOf23
  v37 := Tryz.zeroValue23
  t46 := Tryz.underlying75
  a46 := Tryz.isAgg75
  z46 := Tryz.sizeOf75
  v46 := Tryz.zeroValue75
  t51 := Tryz.underlying114
  a51 := Tryz.isAgg114
  z51 := Tryz.sizeOf114
  v51 := Tryz.zeroValue114
  t53 := Tryz.underlying67
  a53 := Tryz.isAgg67
  z53 := Tryz.sizeOf67
  v53 := Tryz.zeroValue67
  t70 := Tryz.underlying94
  a70 := Tryz.isAgg94
  z70 := Tryz.sizeOf94
  v70 := Tryz.zeroValue94
  t72 := Tryz.underlying96
  a72 := Tryz.isAgg96
  z72 := Tryz.sizeOf96
  v72 := Tryz.zeroValue96
  t75 := Tryz.underlying49
  a75 := Tryz.isAgg49
  z75 := Tryz.sizeOf49
  v75 := Tryz.zeroValue49
  t76 := Tryz.underlying50
  a76 := Tryz.isAgg50
  z76 := Tryz.sizeOf50
  v76 := Tryz.zeroValue50
  t109 := Tryz.underlying92
  a109 := Tryz.isAgg92
  z109 := Tryz.sizeOf92
  v109 := Tryz.zeroValue92
  t127 := Tryz.underlying119
  a127 := Tryz.isAgg119
  z127 := Tryz.sizeOf119
  v127 := Tryz.zeroValue119
  t146 := Tryz.underlying115
  a146 := Tryz.isAgg115
  z146 := Tryz.sizeOf115
  v146 := Tryz.zeroValue115
  t148 := Tryz.underlying117
  a148 := Tryz.isAgg117
  z148 := Tryz.sizeOf117
  v148 := Tryz.zeroValue117
  t164 := Tryz.underlying129
  a164 := Tryz.isAgg129
  z164 := Tryz.sizeOf129
  v164 := Tryz.zeroValue129 }
theorem ext30 : Go.Proofs.Builder.Extra Tryz.prog lay30_ren where
  sizeBuilder := by kernel_rfl
  liesBuilder := by kernel_rfl
  t5 := Tryz.underlying5
  a5 := Tryz.isAgg5
  z5 := Tryz.sizeOf5
  v5 := Tryz.zeroValue5
  infoByte := by kernel_rfl
  cellsByte := by kernel_rfl
  sizeByte := by kernel_rfl
  neB5 := by decide
theorem fnok30 : FnOK Tryz.prog 30 := ⟨Tryz.f30, _, Tryz.func30, by decide, rfl⟩
noncomputable def C14 (n : Nat) : Call2 E := moreP 30 [.str, (.int .i64)] .str (fun x => repO x.1 x.2.1) (C13 n)

/- clapperbridge/fixed.bytes -/
noncomputable def fixed_bytes (n : Nat) (x0 : FixedField) (x1 : ApiValue) : Option (List Int) := F2 (E := E) tt gl H (C14 n) n 22 Tryz.f22 [.t (.nm 0), .t (.nm 1)] (x0, x1, ())
noncomputable def fixed_bytes_l0 (n : Nat) (m0 : Nat) (v7 : List UInt8) (v8 : Int) (v10 : Int) (w25 : List Int) : Option (List Int) := lp (E := E) (ps := [.t (.nm 0), .t (.nm 1)]) tt gl H (C14 n) n 22 Tryz.f22 [1, 1, 1, 1, 1, 1, 1, 1, 1, 1, 0, 1, 0] [] m0 ⟨mkT 93 0 [(7, .t .str v7), (8, .t (.int .u8) v8), (9, .fs 25 (.int .u8) 0 (List.length w25)), (10, .t (.int .i64) v10)], mkB 372 0 [(25, .row (.int .u8) w25)]⟩
theorem fixed_bytes_l0_eq (n : Nat) (m0 : Nat) (v7 : List UInt8) (v8 : Int) (v10 : Int) (w25 : List Int) : fixed_bytes_l0 n (m0 + 1) v7 v8 v10 w25 = (bif (decide ((IntKind.wrap .i64 (v10 + 1)) < (List.length v7 : Int))) then (bif (decide (0 ≤ v10) && decide (v10 < List.length v7)) then (bif (decide (0 ≤ 4)) then (bif (decide (0 ≤ (IntKind.wrap .i64 (v10 + 1))) && decide ((IntKind.wrap .i64 (v10 + 1)) < List.length v7)) then (bif (decide ((List.length w25) = List.length w25) && decide (List.length w25 + List.length ([(Fv.bits .or .u8 (shl .u8 (IntKind.wrap .u8 (((UInt8.toNat (List.getD v7 (Int.toNat v10) 0) : Nat) : Int) - 48)) 4) (IntKind.wrap .u8 (((UInt8.toNat (List.getD v7 (Int.toNat (IntKind.wrap .i64 (v10 + 1))) 0) : Nat) : Int) - 48)))] : List Int) ≤ 4294967296)) then (fixed_bytes_l0 n m0 v7 v8 (IntKind.wrap .i64 (v10 + 2)) (w25 ++ [(Fv.bits .or .u8 (shl .u8 (IntKind.wrap .u8 (((UInt8.toNat (List.getD v7 (Int.toNat v10) 0) : Nat) : Int) - 48)) 4) (IntKind.wrap .u8 (((UInt8.toNat (List.getD v7 (Int.toNat (IntKind.wrap .i64 (v10 + 1))) 0) : Nat) : Int) - 48)))])) else none) else none) else none) else none) else (bif (decide (0 ≤ (IntKind.wrap .i64 ((List.length v7 : Int) - 1))) && decide ((IntKind.wrap .i64 ((List.length v7 : Int) - 1)) < List.length v7)) then (bif (decide (0 ≤ 4)) then (bif (decide ((List.length w25) = List.length w25) && decide (List.length w25 + List.length ([(Fv.bits .or .u8 (shl .u8 (IntKind.wrap .u8 (((UInt8.toNat (List.getD v7 (Int.toNat (IntKind.wrap .i64 ((List.length v7 : Int) - 1))) 0) : Nat) : Int) - 48)) 4) v8)] : List Int) ≤ 4294967296)) then (bif (decide ((List.length (w25 ++ [(Fv.bits .or .u8 (shl .u8 (IntKind.wrap .u8 (((UInt8.toNat (List.getD v7 (Int.toNat (IntKind.wrap .i64 ((List.length v7 : Int) - 1))) 0) : Nat) : Int) - 48)) 4) v8)])) = List.length (w25 ++ [(Fv.bits .or .u8 (shl .u8 (IntKind.wrap .u8 (((UInt8.toNat (List.getD v7 (Int.toNat (IntKind.wrap .i64 ((List.length v7 : Int) - 1))) 0) : Nat) : Int) - 48)) 4) v8)]))) then (some (w25 ++ [(Fv.bits .or .u8 (shl .u8 (IntKind.wrap .u8 (((UInt8.toNat (List.getD v7 (Int.toNat (IntKind.wrap .i64 ((List.length v7 : Int) - 1))) 0) : Nat) : Int) - 48)) 4) v8)])) else none) else none) else none) else none)) := by kernel_rfl
theorem fixed_bytes_l0_zero (n : Nat) (v7 : List UInt8) (v8 : Int) (v10 : Int) (w25 : List Int) : fixed_bytes_l0 n 0 v7 v8 v10 w25 = none := by kernel_rfl
theorem fixed_bytes_eq (n : Nat) (x0 : FixedField) (x1 : ApiValue) : fixed_bytes n x0 x1 = (bif (decide (x0.Kind = 0)) then (Option.bind (slices_Repeat_byte n [x0.Pad] (IntKind.wrap .i64 (x0.Wide - (List.length x1.S : Int)))) fun r1 => (bif (decide ((List.length (ints x1.S)) = List.length (ints x1.S)) && decide (List.length (ints x1.S) + List.length (List.take (List.length r1) r1) ≤ 4294967296)) then (bif (decide ((List.length ((ints x1.S) ++ (List.take (List.length r1) r1))) = List.length ((ints x1.S) ++ (List.take (List.length r1) r1)))) then (some ((ints x1.S) ++ (List.take (List.length r1) r1))) else none) else none)) else (bif (decide (x1.N < 0)) then (Option.bind (itoaO (mxI x1.N (IntKind.wrap .i64 (0 - x1.N)))) fun r2 => (Option.bind (fixed_Digits n x0) fun r3 => (Option.bind (repO ([48] : List UInt8) (IntKind.wrap .i64 (r3 - (List.length r2 : Int)))) fun r4 => (bif (decide (List.length r4 + List.length r2 ≤ 4294967296)) then (bif (decide (x0.Kind = 1)) then (bif x0.Signed then (bif (decide (List.length ([45] : List UInt8) + List.length (r4 ++ r2) ≤ 4294967296)) then (bif (decide ((List.length (ints (([45] : List UInt8) ++ (r4 ++ r2)))) = List.length (ints (([45] : List UInt8) ++ (r4 ++ r2))))) then (some (ints (([45] : List UInt8) ++ (r4 ++ r2)))) else none) else none) else (bif (decide ((List.length (ints (r4 ++ r2))) = List.length (ints (r4 ++ r2)))) then (some (ints (r4 ++ r2))) else none)) else (bif (decide (x1.N < 0)) then (fixed_bytes_l0 n n (r4 ++ r2) 13 0 []) else (fixed_bytes_l0 n n (r4 ++ r2) 12 0 []))) else none)))) else (Option.bind (itoaO (mxI x1.N (IntKind.wrap .i64 (0 - x1.N)))) fun r5 => (Option.bind (fixed_Digits n x0) fun r6 => (Option.bind (repO ([48] : List UInt8) (IntKind.wrap .i64 (r6 - (List.length r5 : Int)))) fun r7 => (bif (decide (List.length r7 + List.length r5 ≤ 4294967296)) then (bif (decide (x0.Kind = 1)) then (bif x0.Signed then (bif (decide (List.length ([43] : List UInt8) + List.length (r7 ++ r5) ≤ 4294967296)) then (bif (decide ((List.length (ints (([43] : List UInt8) ++ (r7 ++ r5)))) = List.length (ints (([43] : List UInt8) ++ (r7 ++ r5))))) then (some (ints (([43] : List UInt8) ++ (r7 ++ r5)))) else none) else none) else (bif (decide ((List.length (ints (r7 ++ r5))) = List.length (ints (r7 ++ r5)))) then (some (ints (r7 ++ r5))) else none)) else (bif (decide (x1.N < 0)) then (fixed_bytes_l0 n n (r7 ++ r5) 13 0 []) else (fixed_bytes_l0 n n (r7 ++ r5) 12 0 []))) else none)))))) := by kernel_rfl
noncomputable def C15 (n : Nat) : Call2 E := more tt gl H (C14 n) n 22 Tryz.f22 [.t (.nm 0), .t (.nm 1)] (C14 n)

/- slices.Equal[[]byte,byte] -/
noncomputable def slices_Equal_byte (n : Nat) (x0 : List Int × Nat × Nat) (x1 : List Int) : Option (Bool × (List Int) × Unit) := F2 (E := E) tt gl H (C15 n) n 21 Tryz.f21 [.row (.int .u8), .t (.sl (.int .u8))] (x0, x1, ())
noncomputable def slices_Equal_byte_l0 (n : Nat) (m0 : Nat) (v0o : Nat) (v0l : Nat) (v1 : List Int) (v12 : Int) (v13 : Int) (w0 : List Int) : Option (Bool × (List Int) × Unit) := lp (E := E) (ps := [.row (.int .u8), .t (.sl (.int .u8))]) tt gl H (C15 n) n 21 Tryz.f21 [1, 1, 0, 1, 0] [] m0 ⟨mkT 26 0 [(0, .fs 0 (.int .u8) v0o v0l), (1, .t (.sl (.int .u8)) v1), (12, .t (.int .i64) v12), (13, .t (.int .i64) v13)], mkB 104 0 [(0, .row (.int .u8) w0)]⟩
theorem slices_Equal_byte_l0_eq (n : Nat) (m0 : Nat) (v0o : Nat) (v0l : Nat) (v1 : List Int) (v12 : Int) (v13 : Int) (w0 : List Int) : slices_Equal_byte_l0 n (m0 + 1) v0o v0l v1 v12 v13 w0 = (bif (decide (v13 < v12)) then (bif (decide (0 ≤ v13) && decide (v13 < (v0l : Int))) then (bif (decide ((v0o + (Int.toNat v13)) < List.length w0)) then (bif (decide (0 ≤ v13) && decide (v13 < List.length v1)) then (bif (!decide ((List.getD w0 (v0o + (Int.toNat v13)) (0 : Int)) = (List.getD v1 (Int.toNat v13) (0 : Int)))) then (some (false, w0, ())) else (slices_Equal_byte_l0 n m0 v0o v0l v1 v12 (IntKind.wrap .i64 (v13 + 1)) w0)) else none) else none) else none) else (some (true, w0, ()))) := by kernel_rfl
theorem slices_Equal_byte_l0_zero (n : Nat) (v0o : Nat) (v0l : Nat) (v1 : List Int) (v12 : Int) (v13 : Int) (w0 : List Int) : slices_Equal_byte_l0 n 0 v0o v0l v1 v12 v13 w0 = none := by kernel_rfl
theorem slices_Equal_byte_l0_fold (n : Nat) (v0o : Nat) (v0l : Nat) (v1 : List Int) (w0 : List Int) (N : Nat) (hl : N < 9223372036854775807) (m i : Nat) (hi : i ≤ N) (hm : N - i < m) : slices_Equal_byte_l0 n m v0o v0l v1 (N : Int) (i : Int) w0 = foldN (S := Unit) (fun i s K => (bif (decide (0 ≤ (i : Int)) && decide ((i : Int) < (v0l : Int))) then (bif (decide ((v0o + (Int.toNat (i : Int))) < List.length w0)) then (bif (decide (0 ≤ (i : Int)) && decide ((i : Int) < List.length v1)) then (bif (!decide ((List.getD w0 (v0o + (Int.toNat (i : Int))) (0 : Int)) = (List.getD v1 (Int.toNat (i : Int)) (0 : Int)))) then (some (false, w0, ())) else (K ())) else none) else none) else none)) (fun s => (some (true, w0, ()))) (N - i) i () := count_loop N hl (fun m (k : Int) (s : Unit) => slices_Equal_byte_l0 n m v0o v0l v1 (N : Int) k w0) _ _ (fun m i s => (slices_Equal_byte_l0_eq n m v0o v0l v1 (N : Int) (i : Int) w0).trans (by kernel_rfl)) m i hi hm ()
theorem slices_Equal_byte_eq (n : Nat) (x0 : List Int × Nat × Nat) (x1 : List Int) : slices_Equal_byte n x0 x1 = (bif (!decide ((x0.2.2 : Int) = (List.length x1 : Int))) then (some (false, x0.1, ())) else (slices_Equal_byte_l0 n n x0.2.1 x0.2.2 x1 (x0.2.2 : Int) 0 x0.1)) := by kernel_rfl
noncomputable def C16 (n : Nat) : Call2 E := more tt gl H (C15 n) n 21 Tryz.f21 [.row (.int .u8), .t (.sl (.int .u8))] (C15 n)

/- clapperbridge/fixed.read -/
noncomputable def fixed_read (n : Nat) (x0 : FixedField) (x1 : List Int) : Option (ApiValue × Bool) := F2 (E := E) tt gl H (C16 n) n 10 Tryz.f10 [.t (.nm 0), .t (.sl (.int .u8))] (x0, x1, ())
noncomputable def fixed_read_l0 (n : Nat) (m0 : Nat) (v1 : List Int) (v6 : Int) (w2 : FixedField) (w4 : ApiValue) : Option (ApiValue × Bool) := lp (E := E) (ps := [.t (.nm 0), .t (.sl (.int .u8))]) tt gl H (C16 n) n 10 Tryz.f10 [1, 0, 1, 0, 1, 0, 0] [] m0 ⟨mkT 84 0 [(1, .t (.sl (.int .u8)) v1), (2, .ptr 2 (.nm 0) []), (4, .ptr 4 (.nm 1) []), (6, .t (.int .i64) v6)], mkB 336 0 [(2, .var (.nm 0) (.t (.nm 0) w2)), (4, .var (.nm 1) (.t (.nm 1) w4))]⟩
theorem fixed_read_l0_eq (n : Nat) (m0 : Nat) (v1 : List Int) (v6 : Int) (w2 : FixedField) (w4 : ApiValue) : fixed_read_l0 n (m0 + 1) v1 v6 w2 w4 = (bif (decide (v6 > 0)) then (bif (decide (0 ≤ (IntKind.wrap .i64 (v6 - 1))) && decide ((IntKind.wrap .i64 (v6 - 1)) < List.length v1)) then (bif (decide ((List.getD v1 (Int.toNat (IntKind.wrap .i64 (v6 - 1))) (0 : Int)) = w2.Pad)) then (fixed_read_l0 n m0 v1 (IntKind.wrap .i64 (v6 - 1)) w2 w4) else (bif (decide (0 ≤ v6) && decide (v6 ≤ (List.length v1))) then (some ((ApiValue.mk 5 0 (byts (List.take (Int.toNat v6) v1)) []), true)) else none)) else none) else (bif (decide (0 ≤ v6) && decide (v6 ≤ (List.length v1))) then (some ((ApiValue.mk 5 0 (byts (List.take (Int.toNat v6) v1)) []), true)) else none)) := by kernel_rfl
theorem fixed_read_l0_zero (n : Nat) (v1 : List Int) (v6 : Int) (w2 : FixedField) (w4 : ApiValue) : fixed_read_l0 n 0 v1 v6 w2 w4 = none := by kernel_rfl
theorem fixed_read_eq (n : Nat) (x0 : FixedField) (x1 : List Int) : fixed_read n x0 x1 = (bif (decide (x0.Kind = 0)) then (fixed_read_l0 n n x1 (List.length x1 : Int) x0 (ApiValue.mk 0 0 [] [])) else (Option.bind (fixed_text n x0 x1) fun r1 => (bif (!r1.2) then (some ((ApiValue.mk 0 0 [] []), false)) else (Option.bind (trimO (Go.Lib.trimPrefix r1.1 ([45] : List UInt8)) ([48, 49, 50, 51, 52, 53, 54, 55, 56, 57] : List UInt8)) fun r2 => (bif (!(r2 == [])) then (some ((ApiValue.mk 0 0 [] []), false)) else (bif ((Go.Lib.trimPrefix r1.1 ([45] : List UInt8)) == []) then (some ((ApiValue.mk 0 0 [] []), false)) else (bif (!x0.Signed) then (bif (!((Go.Lib.trimPrefix r1.1 ([45] : List UInt8)) == r1.1)) then (some ((ApiValue.mk 0 0 [] []), false)) else (Option.bind (atoiO r1.1) fun r3 => (bif r3.2 then (Option.bind (fixed_bytes n x0 (ApiValue.mk 2 r3.1 [] [])) fun r4 => (Option.bind (slices_Equal_byte n (r4, 0, (List.length r4)) x1) fun r5 => (some ((ApiValue.mk 2 r3.1 [] []), r5.1)))) else (some ((ApiValue.mk 2 r3.1 [] []), false))))) else (Option.bind (atoiO r1.1) fun r6 => (bif r6.2 then (Option.bind (fixed_bytes n x0 (ApiValue.mk 2 r6.1 [] [])) fun r7 => (Option.bind (slices_Equal_byte n (r7, 0, (List.length r7)) x1) fun r8 => (some ((ApiValue.mk 2 r6.1 [] []), r8.1)))) else (some ((ApiValue.mk 2 r6.1 [] []), false))))))))))) := by kernel_rfl
noncomputable def C17 (n : Nat) : Call2 E := more tt gl H (C16 n) n 10 Tryz.f10 [.t (.nm 0), .t (.sl (.int .u8))] (C16 n)

/- clapperbridge/fixed.Read -/
noncomputable def fixed_Read (n : Nat) (x0 : List FixedField) (x1 : List Int) : Option (ApiValue × Int × Int) := F2 (E := E) tt gl H (C17 n) n 4 Tryz.f4 [.t (.sl (.nm 0)), .t (.sl (.int .u8))] (x0, x1, ())
noncomputable def fixed_Read_l0 (n : Nat) (m0 : Nat) (v1 : List Int) (v26 : List FixedField) (v27 : Int) (v28 : Int) (w4 : ApiValue) (w8_0 : Int) (w8_1 : Int) (w8_2 : List UInt8) (w8_3 : List ApiField) : Option (ApiValue × Int × Int) := lp (E := E) (ps := [.t (.sl (.nm 0)), .t (.sl (.int .u8))]) tt gl H (C17 n) n 4 Tryz.f4 [1, 1, 1, 1, 0, 1, 0] [] m0 ⟨mkT 62 0 [(1, .t (.sl (.int .u8)) v1), (4, .ptr 4 (.nm 1) []), (8, .ptr 8 (.nm 1) []), (26, .t (.sl (.nm 0)) v26), (27, .t (.int .i64) v27), (28, .t (.int .i64) v28)], mkB 248 0 [(4, .var (.nm 1) (.t (.nm 1) w4)), (8, .var (.nm 1) (.agg [.t (.int .i64) w8_0, .t (.int .i64) w8_1, .t .str w8_2, .sl 247 (.nm 2) w8_3])), (247, .grow (.nm 2) (List.length w8_3))]⟩
theorem fixed_Read_l0_eq (n : Nat) (m0 : Nat) (v1 : List Int) (v26 : List FixedField) (v27 : Int) (v28 : Int) (w4 : ApiValue) (w8_0 : Int) (w8_1 : Int) (w8_2 : List UInt8) (w8_3 : List ApiField) : fixed_Read_l0 n (m0 + 1) v1 v26 v27 v28 w4 w8_0 w8_1 w8_2 w8_3 = (bif (decide (v28 < v27)) then (bif (decide (0 ≤ v28) && decide (v28 < List.length v26)) then (bif (decide (0 ≤ ((List.getD v26 (Int.toNat v28) (FixedField.mk [] 0 0 0 0 false 0)).At)) && decide (((List.getD v26 (Int.toNat v28) (FixedField.mk [] 0 0 0 0 false 0)).At) ≤ (IntKind.wrap .i64 (((List.getD v26 (Int.toNat v28) (FixedField.mk [] 0 0 0 0 false 0)).At) + ((List.getD v26 (Int.toNat v28) (FixedField.mk [] 0 0 0 0 false 0)).Wide)))) && decide ((IntKind.wrap .i64 (((List.getD v26 (Int.toNat v28) (FixedField.mk [] 0 0 0 0 false 0)).At) + ((List.getD v26 (Int.toNat v28) (FixedField.mk [] 0 0 0 0 false 0)).Wide))) ≤ (List.length v1))) then (Option.bind (fixed_read n (List.getD v26 (Int.toNat v28) (FixedField.mk [] 0 0 0 0 false 0)) (List.drop (Int.toNat ((List.getD v26 (Int.toNat v28) (FixedField.mk [] 0 0 0 0 false 0)).At)) (List.take (Int.toNat (IntKind.wrap .i64 (((List.getD v26 (Int.toNat v28) (FixedField.mk [] 0 0 0 0 false 0)).At) + ((List.getD v26 (Int.toNat v28) (FixedField.mk [] 0 0 0 0 false 0)).Wide)))) v1))) fun r3 => (bif (!r3.2) then (some ((ApiValue.mk 0 0 [] []), v28, 14)) else (bif (decide ((List.length w8_3) = List.length w8_3) && decide (List.length w8_3 + List.length ([(ApiField.mk ((List.getD v26 (Int.toNat v28) (FixedField.mk [] 0 0 0 0 false 0)).Name) r3.1)] : List ApiField) ≤ 4294967296)) then (fixed_Read_l0 n m0 v1 v26 v27 (IntKind.wrap .i64 (v28 + 1)) w4 w8_0 w8_1 w8_2 (w8_3 ++ [(ApiField.mk ((List.getD v26 (Int.toNat v28) (FixedField.mk [] 0 0 0 0 false 0)).Name) r3.1)])) else none))) else none) else none) else (some ((ApiValue.mk w8_0 w8_1 w8_2 w8_3), 0, 0))) := by kernel_rfl
theorem fixed_Read_l0_zero (n : Nat) (v1 : List Int) (v26 : List FixedField) (v27 : Int) (v28 : Int) (w4 : ApiValue) (w8_0 : Int) (w8_1 : Int) (w8_2 : List UInt8) (w8_3 : List ApiField) : fixed_Read_l0 n 0 v1 v26 v27 v28 w4 w8_0 w8_1 w8_2 w8_3 = none := by kernel_rfl
theorem fixed_Read_l0_fold (n : Nat) (v1 : List Int) (v26 : List FixedField) (w4 : ApiValue) (w8_0 : Int) (w8_1 : Int) (w8_2 : List UInt8) (w8_3 : List ApiField) (hl : List.length v26 < 9223372036854775807) (m i : Nat) (hi : i ≤ List.length v26) (hm : List.length v26 - i < m) : fixed_Read_l0 n m v1 v26 (List.length v26 : Int) (i : Int) w4 w8_0 w8_1 w8_2 w8_3 = foldK (S := (List ApiField)) (fun i (a : FixedField) s K => (bif (decide (0 ≤ (a.At)) && decide ((a.At) ≤ (IntKind.wrap .i64 ((a.At) + (a.Wide)))) && decide ((IntKind.wrap .i64 ((a.At) + (a.Wide))) ≤ (List.length v1))) then (Option.bind (fixed_read n a (List.drop (Int.toNat (a.At)) (List.take (Int.toNat (IntKind.wrap .i64 ((a.At) + (a.Wide)))) v1))) fun r3 => (bif (!r3.2) then (some ((ApiValue.mk 0 0 [] []), (i : Int), 14)) else (bif (decide ((List.length s) = List.length s) && decide (List.length s + List.length ([(ApiField.mk (a.Name) r3.1)] : List ApiField) ≤ 4294967296)) then (K (s ++ [(ApiField.mk (a.Name) r3.1)])) else none))) else none)) (fun s => (some ((ApiValue.mk w8_0 w8_1 w8_2 s), 0, 0))) (List.drop i v26) i (w8_3) := range_loop v26 (FixedField.mk [] 0 0 0 0 false 0) hl (fun m (k : Int) (s : (List ApiField)) => fixed_Read_l0 n m v1 v26 (List.length v26 : Int) k w4 w8_0 w8_1 w8_2 s) _ _ (fun m i s => (fixed_Read_l0_eq n m v1 v26 (List.length v26 : Int) (i : Int) w4 w8_0 w8_1 w8_2 s).trans (by kernel_rfl)) m i hi hm (w8_3)
theorem fixed_Read_eq (n : Nat) (x0 : List FixedField) (x1 : List Int) : fixed_Read n x0 x1 = (Option.bind (fixed_Check n x0) fun r1 => (bif (!decide (r1 = 0)) then (some ((ApiValue.mk 0 0 [] []), 0, r1)) else (Option.bind (fixed_Wide n x0) fun r2 => (bif (!decide ((List.length x1 : Int) = r2)) then (some ((ApiValue.mk 0 0 [] []), 0, 13)) else (fixed_Read_l0 n n x1 x0 (List.length x0 : Int) 0 (ApiValue.mk 0 0 [] []) 6 0 [] []))))) := by kernel_rfl
noncomputable def C18 (n : Nat) : Call2 E := more tt gl H (C17 n) n 4 Tryz.f4 [.t (.sl (.nm 0)), .t (.sl (.int .u8))] (C17 n)

/- clapperbridge/clapref2.Places -/
noncomputable def ref2_Places (n : Nat) (x0 : FixedField) : Option Int := F2 (E := E) tt gl H (C18 n) n 24 Tryz.f24 [.t (.nm 0)] (x0, ())
theorem ref2_Places_eq (n : Nat) (x0 : FixedField) : ref2_Places n x0 = (bif (decide (x0.Kind < 0)) then (some 0) else (bif (decide (x0.Kind > 2)) then (some 0) else (bif x0.Signed then (bif (decide (x0.Kind = 1)) then (bif (decide (0 ≤ x0.Kind) && decide (x0.Kind < List.length ([0, x0.Wide, (IntKind.wrap .i64 ((IntKind.wrap .i64 ((2 : Int) * x0.Wide)) - 1))] : List Int))) then (some (IntKind.wrap .i64 ((List.getD ([0, x0.Wide, (IntKind.wrap .i64 ((IntKind.wrap .i64 ((2 : Int) * x0.Wide)) - 1))] : List Int) (Int.toNat x0.Kind) (0 : Int)) - 1))) else none) else (bif (decide (0 ≤ x0.Kind) && decide (x0.Kind < List.length ([0, x0.Wide, (IntKind.wrap .i64 ((IntKind.wrap .i64 ((2 : Int) * x0.Wide)) - 1))] : List Int))) then (some (List.getD ([0, x0.Wide, (IntKind.wrap .i64 ((IntKind.wrap .i64 ((2 : Int) * x0.Wide)) - 1))] : List Int) (Int.toNat x0.Kind) (0 : Int))) else none)) else (bif (decide (0 ≤ x0.Kind) && decide (x0.Kind < List.length ([0, x0.Wide, (IntKind.wrap .i64 ((IntKind.wrap .i64 ((2 : Int) * x0.Wide)) - 1))] : List Int))) then (some (List.getD ([0, x0.Wide, (IntKind.wrap .i64 ((IntKind.wrap .i64 ((2 : Int) * x0.Wide)) - 1))] : List Int) (Int.toNat x0.Kind) (0 : Int))) else none)))) := by kernel_rfl
noncomputable def C19 (n : Nat) : Call2 E := more tt gl H (C18 n) n 24 Tryz.f24 [.t (.nm 0)] (C18 n)

/- clapperbridge/clapref2.FieldsErr -/
noncomputable def ref2_FieldsErr (n : Nat) (x0 : List FixedField) : Option Int := F2 (E := E) tt gl H (C19 n) n 11 Tryz.f11 [.t (.sl (.nm 0))] (x0, ())
noncomputable def ref2_FieldsErr_l0 (n : Nat) (m0 : Nat) (v0 : List FixedField) (v21 : List FixedField) (v22 : Int) (v23 : Int) (w19 : List (Int × Int)) (w20 : List ((List UInt8) × Int)) : Option Int := lp (E := E) (ps := [.t (.sl (.nm 0))]) tt gl H (C19 n) n 11 Tryz.f11 [1, 1, 1, 1, 0, 1, 0] [] m0 ⟨mkT 181 0 [(0, .t (.sl (.nm 0)) v0), (3, .mp 19 (.int .i64) (.int .i64)), (4, .mp 20 .str (.int .i64)), (21, .t (.sl (.nm 0)) v21), (22, .t (.int .i64) v22), (23, .t (.int .i64) v23)], mkB 724 0 [(19, .mp (.int .i64) (.int .i64) w19), (20, .mp .str (.int .i64) w20)]⟩
noncomputable def ref2_FieldsErr_l3 (n : Nat) (m0 : Nat) (m1 : Nat) (v0 : List FixedField) (v5 : Int) (v8 : Int) (v9 : Int) (v12 : Int) (v21 : List FixedField) (v22 : Int) (v23 : Int) (w6 : FixedField) (w19 : List (Int × Int)) (w20 : List ((List UInt8) × Int)) : Option Int := lp (E := E) (ps := [.t (.sl (.nm 0))]) tt gl H (C19 n) n 11 Tryz.f11 [1, 1, 1, 1, 0, 1, 0, 0, 1, 1, 0, 0, 1, 1, 1, 1, 1, 0, 1, 0] [m0] m1 ⟨mkT 181 0 [(0, .t (.sl (.nm 0)) v0), (3, .mp 19 (.int .i64) (.int .i64)), (4, .mp 20 .str (.int .i64)), (5, .t (.int .i64) v5), (6, .ptr 6 (.nm 0) []), (8, .t (.int .i64) v8), (9, .t (.int .i64) v9), (12, .t (.int .i64) v12), (21, .t (.sl (.nm 0)) v21), (22, .t (.int .i64) v22), (23, .t (.int .i64) v23)], mkB 724 0 [(6, .var (.nm 0) (.t (.nm 0) w6)), (19, .mp (.int .i64) (.int .i64) w19), (20, .mp .str (.int .i64) w20)]⟩
noncomputable def ref2_FieldsErr_l5 (n : Nat) (m0 : Nat) (m1 : Nat) (v0 : List FixedField) (v5 : Int) (v15 : Int) (v21 : List FixedField) (v22 : Int) (v23 : Int) (w6 : FixedField) (w19 : List (Int × Int)) (w20 : List ((List UInt8) × Int)) : Option Int := lp (E := E) (ps := [.t (.sl (.nm 0))]) tt gl H (C19 n) n 11 Tryz.f11 [1, 1, 1, 1, 0, 1, 0, 0, 1, 1, 0, 0, 1, 1, 1, 1, 1, 1, 1, 1, 1, 1, 0] [m0] m1 ⟨mkT 181 0 [(0, .t (.sl (.nm 0)) v0), (3, .mp 19 (.int .i64) (.int .i64)), (4, .mp 20 .str (.int .i64)), (5, .t (.int .i64) v5), (6, .ptr 6 (.nm 0) []), (15, .t (.int .i64) v15), (21, .t (.sl (.nm 0)) v21), (22, .t (.int .i64) v22), (23, .t (.int .i64) v23)], mkB 724 0 [(6, .var (.nm 0) (.t (.nm 0) w6)), (19, .mp (.int .i64) (.int .i64) w19), (20, .mp .str (.int .i64) w20)]⟩
theorem ref2_FieldsErr_l5_eq (n : Nat) (m0 : Nat) (m1 : Nat) (v0 : List FixedField) (v5 : Int) (v15 : Int) (v21 : List FixedField) (v22 : Int) (v23 : Int) (w6 : FixedField) (w19 : List (Int × Int)) (w20 : List ((List UInt8) × Int)) : ref2_FieldsErr_l5 n m0 (m1 + 1) v0 v5 v15 v21 v22 v23 w6 w19 w20 = (bif (decide (v15 < (IntKind.wrap .i64 (w6.At + w6.Wide)))) then (ref2_FieldsErr_l5 n m0 m1 v0 v5 (IntKind.wrap .i64 (v15 + 1)) v21 v22 v23 w6 (mset E (.int .i64) (.int .i64) v15 v5 w19) w20) else (ref2_FieldsErr_l0 n m0 v0 v21 v22 (IntKind.wrap .i64 (v23 + 1)) w19 w20)) := by kernel_rfl
theorem ref2_FieldsErr_l5_zero (n : Nat) (m0 : Nat) (v0 : List FixedField) (v5 : Int) (v15 : Int) (v21 : List FixedField) (v22 : Int) (v23 : Int) (w6 : FixedField) (w19 : List (Int × Int)) (w20 : List ((List UInt8) × Int)) : ref2_FieldsErr_l5 n m0 0 v0 v5 v15 v21 v22 v23 w6 w19 w20 = none := by kernel_rfl
theorem ref2_FieldsErr_l3_eq (n : Nat) (m0 : Nat) (m1 : Nat) (v0 : List FixedField) (v5 : Int) (v8 : Int) (v9 : Int) (v12 : Int) (v21 : List FixedField) (v22 : Int) (v23 : Int) (w6 : FixedField) (w19 : List (Int × Int)) (w20 : List ((List UInt8) × Int)) : ref2_FieldsErr_l3 n m0 (m1 + 1) v0 v5 v8 v9 v12 v21 v22 v23 w6 w19 w20 = (bif (decide (v12 < (IntKind.wrap .i64 (w6.At + w6.Wide)))) then (bif (Option.isSome (mget E (.int .i64) (.int .i64) w19 v12)) then (ref2_FieldsErr_l3 n m0 m1 v0 v5 v8 (mnI v9 (mgetD E (.int .i64) (.int .i64) w19 v12)) (IntKind.wrap .i64 (v12 + 1)) v21 v22 v23 w6 w19 w20) else (ref2_FieldsErr_l3 n m0 m1 v0 v5 v8 v9 (IntKind.wrap .i64 (v12 + 1)) v21 v22 v23 w6 w19 w20)) else (bif (decide (v8 < (List.length v0 : Int))) then (bif (decide (v8 ≤ v9)) then (some 5) else (bif (decide (v9 < (List.length v0 : Int))) then (some 17) else (ref2_FieldsErr_l5 n m0 n v0 v5 w6.At v21 v22 v23 w6 w19 (mset E .str (.int .i64) w6.Name v5 w20)))) else (bif (decide (v9 < (List.length v0 : Int))) then (some 17) else (ref2_FieldsErr_l5 n m0 n v0 v5 w6.At v21 v22 v23 w6 w19 (mset E .str (.int .i64) w6.Name v5 w20))))) := by kernel_rfl
theorem ref2_FieldsErr_l3_zero (n : Nat) (m0 : Nat) (v0 : List FixedField) (v5 : Int) (v8 : Int) (v9 : Int) (v12 : Int) (v21 : List FixedField) (v22 : Int) (v23 : Int) (w6 : FixedField) (w19 : List (Int × Int)) (w20 : List ((List UInt8) × Int)) : ref2_FieldsErr_l3 n m0 0 v0 v5 v8 v9 v12 v21 v22 v23 w6 w19 w20 = none := by kernel_rfl
theorem ref2_FieldsErr_l0_eq (n : Nat) (m0 : Nat) (v0 : List FixedField) (v21 : List FixedField) (v22 : Int) (v23 : Int) (w19 : List (Int × Int)) (w20 : List ((List UInt8) × Int)) : ref2_FieldsErr_l0 n (m0 + 1) v0 v21 v22 v23 w19 w20 = (bif (decide (v23 < v22)) then (bif (decide (0 ≤ v23) && decide (v23 < List.length v21)) then (Option.bind (value_Name n ((List.getD v21 (Int.toNat v23) (FixedField.mk [] 0 0 0 0 false 0)).Name)) fun r1 => (bif (!r1) then (some 15) else (bif (decide (((List.getD v21 (Int.toNat v23) (FixedField.mk [] 0 0 0 0 false 0)).Kind) < 0)) then (some 8) else (bif (decide (((List.getD v21 (Int.toNat v23) (FixedField.mk [] 0 0 0 0 false 0)).Kind) > 2)) then (some 8) else (bif (decide (((List.getD v21 (Int.toNat v23) (FixedField.mk [] 0 0 0 0 false 0)).At) < 0)) then (some 11) else (bif (decide (((List.getD v21 (Int.toNat v23) (FixedField.mk [] 0 0 0 0 false 0)).At) > 400)) then (some 11) else (bif (decide (((List.getD v21 (Int.toNat v23) (FixedField.mk [] 0 0 0 0 false 0)).Wide) < 1)) then (some 11) else (bif (decide (((List.getD v21 (Int.toNat v23) (FixedField.mk [] 0 0 0 0 false 0)).Wide) > 400)) then (some 11) else (bif (decide ((IntKind.wrap .i64 (((List.getD v21 (Int.toNat v23) (FixedField.mk [] 0 0 0 0 false 0)).At) + ((List.getD v21 (Int.toNat v23) (FixedField.mk [] 0 0 0 0 false 0)).Wide))) > 400)) then (some 11) else (bif (decide (((List.getD v21 (Int.toNat v23) (FixedField.mk [] 0 0 0 0 false 0)).Kind) = 0)) then (bif (List.getD v21 (Int.toNat v23) (FixedField.mk [] 0 0 0 0 false 0)).Signed then (some 3) else (bif (!decide (((List.getD v21 (Int.toNat v23) (FixedField.mk [] 0 0 0 0 false 0)).Scale) = 0)) then (bif (!decide (((List.getD v21 (Int.toNat v23) (FixedField.mk [] 0 0 0 0 false 0)).Scale) = 0)) then (some 3) else (bif (!(decide (((List.getD v21 (Int.toNat v23) (FixedField.mk [] 0 0 0 0 false 0)).Kind) = 0))) then (Option.bind (ref2_Places n (List.getD v21 (Int.toNat v23) (FixedField.mk [] 0 0 0 0 false 0))) fun r2 => (bif (decide (r2 < 1)) then (some 11) else (Option.bind (ref2_Places n (List.getD v21 (Int.toNat v23) (FixedField.mk [] 0 0 0 0 false 0))) fun r3 => (bif (decide (r3 > 15)) then (some 11) else (bif (decide (((List.getD v21 (Int.toNat v23) (FixedField.mk [] 0 0 0 0 false 0)).Scale) < 0)) then (some 11) else (Option.bind (ref2_Places n (List.getD v21 (Int.toNat v23) (FixedField.mk [] 0 0 0 0 false 0))) fun r4 => (bif (decide (((List.getD v21 (Int.toNat v23) (FixedField.mk [] 0 0 0 0 false 0)).Scale) > r4)) then (some 11) else (bif (Option.isSome (mget E .str (.int .i64) w20 ((List.getD v21 (Int.toNat v23) (FixedField.mk [] 0 0 0 0 false 0)).Name))) then (ref2_FieldsErr_l3 n m0 n v0 v23 (mgetD E .str (.int .i64) w20 ((List.getD v21 (Int.toNat v23) (FixedField.mk [] 0 0 0 0 false 0)).Name)) (List.length v0 : Int) ((List.getD v21 (Int.toNat v23) (FixedField.mk [] 0 0 0 0 false 0)).At) v21 v22 v23 (List.getD v21 (Int.toNat v23) (FixedField.mk [] 0 0 0 0 false 0)) w19 w20) else (ref2_FieldsErr_l3 n m0 n v0 v23 (List.length v0 : Int) (List.length v0 : Int) ((List.getD v21 (Int.toNat v23) (FixedField.mk [] 0 0 0 0 false 0)).At) v21 v22 v23 (List.getD v21 (Int.toNat v23) (FixedField.mk [] 0 0 0 0 false 0)) w19 w20))))))))) else (bif (Option.isSome (mget E .str (.int .i64) w20 ((List.getD v21 (Int.toNat v23) (FixedField.mk [] 0 0 0 0 false 0)).Name))) then (ref2_FieldsErr_l3 n m0 n v0 v23 (mgetD E .str (.int .i64) w20 ((List.getD v21 (Int.toNat v23) (FixedField.mk [] 0 0 0 0 false 0)).Name)) (List.length v0 : Int) ((List.getD v21 (Int.toNat v23) (FixedField.mk [] 0 0 0 0 false 0)).At) v21 v22 v23 (List.getD v21 (Int.toNat v23) (FixedField.mk [] 0 0 0 0 false 0)) w19 w20) else (ref2_FieldsErr_l3 n m0 n v0 v23 (List.length v0 : Int) (List.length v0 : Int) ((List.getD v21 (Int.toNat v23) (FixedField.mk [] 0 0 0 0 false 0)).At) v21 v22 v23 (List.getD v21 (Int.toNat v23) (FixedField.mk [] 0 0 0 0 false 0)) w19 w20)))) else (bif (!(decide (((List.getD v21 (Int.toNat v23) (FixedField.mk [] 0 0 0 0 false 0)).Kind) = 0))) then (bif (!decide (((List.getD v21 (Int.toNat v23) (FixedField.mk [] 0 0 0 0 false 0)).Pad) = 0)) then (some 3) else (bif (!(decide (((List.getD v21 (Int.toNat v23) (FixedField.mk [] 0 0 0 0 false 0)).Kind) = 0))) then (Option.bind (ref2_Places n (List.getD v21 (Int.toNat v23) (FixedField.mk [] 0 0 0 0 false 0))) fun r5 => (bif (decide (r5 < 1)) then (some 11) else (Option.bind (ref2_Places n (List.getD v21 (Int.toNat v23) (FixedField.mk [] 0 0 0 0 false 0))) fun r6 => (bif (decide (r6 > 15)) then (some 11) else (bif (decide (((List.getD v21 (Int.toNat v23) (FixedField.mk [] 0 0 0 0 false 0)).Scale) < 0)) then (some 11) else (Option.bind (ref2_Places n (List.getD v21 (Int.toNat v23) (FixedField.mk [] 0 0 0 0 false 0))) fun r7 => (bif (decide (((List.getD v21 (Int.toNat v23) (FixedField.mk [] 0 0 0 0 false 0)).Scale) > r7)) then (some 11) else (bif (Option.isSome (mget E .str (.int .i64) w20 ((List.getD v21 (Int.toNat v23) (FixedField.mk [] 0 0 0 0 false 0)).Name))) then (ref2_FieldsErr_l3 n m0 n v0 v23 (mgetD E .str (.int .i64) w20 ((List.getD v21 (Int.toNat v23) (FixedField.mk [] 0 0 0 0 false 0)).Name)) (List.length v0 : Int) ((List.getD v21 (Int.toNat v23) (FixedField.mk [] 0 0 0 0 false 0)).At) v21 v22 v23 (List.getD v21 (Int.toNat v23) (FixedField.mk [] 0 0 0 0 false 0)) w19 w20) else (ref2_FieldsErr_l3 n m0 n v0 v23 (List.length v0 : Int) (List.length v0 : Int) ((List.getD v21 (Int.toNat v23) (FixedField.mk [] 0 0 0 0 false 0)).At) v21 v22 v23 (List.getD v21 (Int.toNat v23) (FixedField.mk [] 0 0 0 0 false 0)) w19 w20))))))))) else (bif (Option.isSome (mget E .str (.int .i64) w20 ((List.getD v21 (Int.toNat v23) (FixedField.mk [] 0 0 0 0 false 0)).Name))) then (ref2_FieldsErr_l3 n m0 n v0 v23 (mgetD E .str (.int .i64) w20 ((List.getD v21 (Int.toNat v23) (FixedField.mk [] 0 0 0 0 false 0)).Name)) (List.length v0 : Int) ((List.getD v21 (Int.toNat v23) (FixedField.mk [] 0 0 0 0 false 0)).At) v21 v22 v23 (List.getD v21 (Int.toNat v23) (FixedField.mk [] 0 0 0 0 false 0)) w19 w20) else (ref2_FieldsErr_l3 n m0 n v0 v23 (List.length v0 : Int) (List.length v0 : Int) ((List.getD v21 (Int.toNat v23) (FixedField.mk [] 0 0 0 0 false 0)).At) v21 v22 v23 (List.getD v21 (Int.toNat v23) (FixedField.mk [] 0 0 0 0 false 0)) w19 w20)))) else (bif (!(decide (((List.getD v21 (Int.toNat v23) (FixedField.mk [] 0 0 0 0 false 0)).Kind) = 0))) then (Option.bind (ref2_Places n (List.getD v21 (Int.toNat v23) (FixedField.mk [] 0 0 0 0 false 0))) fun r8 => (bif (decide (r8 < 1)) then (some 11) else (Option.bind (ref2_Places n (List.getD v21 (Int.toNat v23) (FixedField.mk [] 0 0 0 0 false 0))) fun r9 => (bif (decide (r9 > 15)) then (some 11) else (bif (decide (((List.getD v21 (Int.toNat v23) (FixedField.mk [] 0 0 0 0 false 0)).Scale) < 0)) then (some 11) else (Option.bind (ref2_Places n (List.getD v21 (Int.toNat v23) (FixedField.mk [] 0 0 0 0 false 0))) fun r10 => (bif (decide (((List.getD v21 (Int.toNat v23) (FixedField.mk [] 0 0 0 0 false 0)).Scale) > r10)) then (some 11) else (bif (Option.isSome (mget E .str (.int .i64) w20 ((List.getD v21 (Int.toNat v23) (FixedField.mk [] 0 0 0 0 false 0)).Name))) then (ref2_FieldsErr_l3 n m0 n v0 v23 (mgetD E .str (.int .i64) w20 ((List.getD v21 (Int.toNat v23) (FixedField.mk [] 0 0 0 0 false 0)).Name)) (List.length v0 : Int) ((List.getD v21 (Int.toNat v23) (FixedField.mk [] 0 0 0 0 false 0)).At) v21 v22 v23 (List.getD v21 (Int.toNat v23) (FixedField.mk [] 0 0 0 0 false 0)) w19 w20) else (ref2_FieldsErr_l3 n m0 n v0 v23 (List.length v0 : Int) (List.length v0 : Int) ((List.getD v21 (Int.toNat v23) (FixedField.mk [] 0 0 0 0 false 0)).At) v21 v22 v23 (List.getD v21 (Int.toNat v23) (FixedField.mk [] 0 0 0 0 false 0)) w19 w20))))))))) else (bif (Option.isSome (mget E .str (.int .i64) w20 ((List.getD v21 (Int.toNat v23) (FixedField.mk [] 0 0 0 0 false 0)).Name))) then (ref2_FieldsErr_l3 n m0 n v0 v23 (mgetD E .str (.int .i64) w20 ((List.getD v21 (Int.toNat v23) (FixedField.mk [] 0 0 0 0 false 0)).Name)) (List.length v0 : Int) ((List.getD v21 (Int.toNat v23) (FixedField.mk [] 0 0 0 0 false 0)).At) v21 v22 v23 (List.getD v21 (Int.toNat v23) (FixedField.mk [] 0 0 0 0 false 0)) w19 w20) else (ref2_FieldsErr_l3 n m0 n v0 v23 (List.length v0 : Int) (List.length v0 : Int) ((List.getD v21 (Int.toNat v23) (FixedField.mk [] 0 0 0 0 false 0)).At) v21 v22 v23 (List.getD v21 (Int.toNat v23) (FixedField.mk [] 0 0 0 0 false 0)) w19 w20)))))) else (bif (!(decide (((List.getD v21 (Int.toNat v23) (FixedField.mk [] 0 0 0 0 false 0)).Kind) = 0))) then (bif (!decide (((List.getD v21 (Int.toNat v23) (FixedField.mk [] 0 0 0 0 false 0)).Pad) = 0)) then (some 3) else (bif (!(decide (((List.getD v21 (Int.toNat v23) (FixedField.mk [] 0 0 0 0 false 0)).Kind) = 0))) then (Option.bind (ref2_Places n (List.getD v21 (Int.toNat v23) (FixedField.mk [] 0 0 0 0 false 0))) fun r11 => (bif (decide (r11 < 1)) then (some 11) else (Option.bind (ref2_Places n (List.getD v21 (Int.toNat v23) (FixedField.mk [] 0 0 0 0 false 0))) fun r12 => (bif (decide (r12 > 15)) then (some 11) else (bif (decide (((List.getD v21 (Int.toNat v23) (FixedField.mk [] 0 0 0 0 false 0)).Scale) < 0)) then (some 11) else (Option.bind (ref2_Places n (List.getD v21 (Int.toNat v23) (FixedField.mk [] 0 0 0 0 false 0))) fun r13 => (bif (decide (((List.getD v21 (Int.toNat v23) (FixedField.mk [] 0 0 0 0 false 0)).Scale) > r13)) then (some 11) else (bif (Option.isSome (mget E .str (.int .i64) w20 ((List.getD v21 (Int.toNat v23) (FixedField.mk [] 0 0 0 0 false 0)).Name))) then (ref2_FieldsErr_l3 n m0 n v0 v23 (mgetD E .str (.int .i64) w20 ((List.getD v21 (Int.toNat v23) (FixedField.mk [] 0 0 0 0 false 0)).Name)) (List.length v0 : Int) ((List.getD v21 (Int.toNat v23) (FixedField.mk [] 0 0 0 0 false 0)).At) v21 v22 v23 (List.getD v21 (Int.toNat v23) (FixedField.mk [] 0 0 0 0 false 0)) w19 w20) else (ref2_FieldsErr_l3 n m0 n v0 v23 (List.length v0 : Int) (List.length v0 : Int) ((List.getD v21 (Int.toNat v23) (FixedField.mk [] 0 0 0 0 false 0)).At) v21 v22 v23 (List.getD v21 (Int.toNat v23) (FixedField.mk [] 0 0 0 0 false 0)) w19 w20))))))))) else (bif (Option.isSome (mget E .str (.int .i64) w20 ((List.getD v21 (Int.toNat v23) (FixedField.mk [] 0 0 0 0 false 0)).Name))) then (ref2_FieldsErr_l3 n m0 n v0 v23 (mgetD E .str (.int .i64) w20 ((List.getD v21 (Int.toNat v23) (FixedField.mk [] 0 0 0 0 false 0)).Name)) (List.length v0 : Int) ((List.getD v21 (Int.toNat v23) (FixedField.mk [] 0 0 0 0 false 0)).At) v21 v22 v23 (List.getD v21 (Int.toNat v23) (FixedField.mk [] 0 0 0 0 false 0)) w19 w20) else (ref2_FieldsErr_l3 n m0 n v0 v23 (List.length v0 : Int) (List.length v0 : Int) ((List.getD v21 (Int.toNat v23) (FixedField.mk [] 0 0 0 0 false 0)).At) v21 v22 v23 (List.getD v21 (Int.toNat v23) (FixedField.mk [] 0 0 0 0 false 0)) w19 w20)))) else (bif (!(decide (((List.getD v21 (Int.toNat v23) (FixedField.mk [] 0 0 0 0 false 0)).Kind) = 0))) then (Option.bind (ref2_Places n (List.getD v21 (Int.toNat v23) (FixedField.mk [] 0 0 0 0 false 0))) fun r14 => (bif (decide (r14 < 1)) then (some 11) else (Option.bind (ref2_Places n (List.getD v21 (Int.toNat v23) (FixedField.mk [] 0 0 0 0 false 0))) fun r15 => (bif (decide (r15 > 15)) then (some 11) else (bif (decide (((List.getD v21 (Int.toNat v23) (FixedField.mk [] 0 0 0 0 false 0)).Scale) < 0)) then (some 11) else (Option.bind (ref2_Places n (List.getD v21 (Int.toNat v23) (FixedField.mk [] 0 0 0 0 false 0))) fun r16 => (bif (decide (((List.getD v21 (Int.toNat v23) (FixedField.mk [] 0 0 0 0 false 0)).Scale) > r16)) then (some 11) else (bif (Option.isSome (mget E .str (.int .i64) w20 ((List.getD v21 (Int.toNat v23) (FixedField.mk [] 0 0 0 0 false 0)).Name))) then (ref2_FieldsErr_l3 n m0 n v0 v23 (mgetD E .str (.int .i64) w20 ((List.getD v21 (Int.toNat v23) (FixedField.mk [] 0 0 0 0 false 0)).Name)) (List.length v0 : Int) ((List.getD v21 (Int.toNat v23) (FixedField.mk [] 0 0 0 0 false 0)).At) v21 v22 v23 (List.getD v21 (Int.toNat v23) (FixedField.mk [] 0 0 0 0 false 0)) w19 w20) else (ref2_FieldsErr_l3 n m0 n v0 v23 (List.length v0 : Int) (List.length v0 : Int) ((List.getD v21 (Int.toNat v23) (FixedField.mk [] 0 0 0 0 false 0)).At) v21 v22 v23 (List.getD v21 (Int.toNat v23) (FixedField.mk [] 0 0 0 0 false 0)) w19 w20))))))))) else (bif (Option.isSome (mget E .str (.int .i64) w20 ((List.getD v21 (Int.toNat v23) (FixedField.mk [] 0 0 0 0 false 0)).Name))) then (ref2_FieldsErr_l3 n m0 n v0 v23 (mgetD E .str (.int .i64) w20 ((List.getD v21 (Int.toNat v23) (FixedField.mk [] 0 0 0 0 false 0)).Name)) (List.length v0 : Int) ((List.getD v21 (Int.toNat v23) (FixedField.mk [] 0 0 0 0 false 0)).At) v21 v22 v23 (List.getD v21 (Int.toNat v23) (FixedField.mk [] 0 0 0 0 false 0)) w19 w20) else (ref2_FieldsErr_l3 n m0 n v0 v23 (List.length v0 : Int) (List.length v0 : Int) ((List.getD v21 (Int.toNat v23) (FixedField.mk [] 0 0 0 0 false 0)).At) v21 v22 v23 (List.getD v21 (Int.toNat v23) (FixedField.mk [] 0 0 0 0 false 0)) w19 w20)))))))))))))) else none) else (some 0)) := by kernel_rfl
theorem ref2_FieldsErr_l0_zero (n : Nat) (v0 : List FixedField) (v21 : List FixedField) (v22 : Int) (v23 : Int) (w19 : List (Int × Int)) (w20 : List ((List UInt8) × Int)) : ref2_FieldsErr_l0 n 0 v0 v21 v22 v23 w19 w20 = none := by kernel_rfl
theorem ref2_FieldsErr_eq (n : Nat) (x0 : List FixedField) : ref2_FieldsErr n x0 = (bif (decide ((List.length x0 : Int) > 24)) then (some 2) else (ref2_FieldsErr_l0 n n x0 x0 (List.length x0 : Int) 0 [] [])) := by kernel_rfl
noncomputable def C20 (n : Nat) : Call2 E := more tt gl H (C19 n) n 11 Tryz.f11 [.t (.sl (.nm 0))] (C19 n)

/- clapperbridge/clapref2.Breadth -/
noncomputable def ref2_Breadth (n : Nat) (x0 : List FixedField) : Option Int := F2 (E := E) tt gl H (C20 n) n 12 Tryz.f12 [.t (.sl (.nm 0))] (x0, ())
noncomputable def ref2_Breadth_l0 (n : Nat) (m0 : Nat) (v3 : Int) (v6 : List FixedField) (v7 : Int) (v8 : Int) : Option Int := lp (E := E) (ps := [.t (.sl (.nm 0))]) tt gl H (C20 n) n 12 Tryz.f12 [1, 1, 0, 1, 0] [] m0 ⟨mkT 26 0 [(3, .t (.int .i64) v3), (6, .t (.sl (.nm 0)) v6), (7, .t (.int .i64) v7), (8, .t (.int .i64) v8)], mkB 104 0 []⟩
theorem ref2_Breadth_l0_eq (n : Nat) (m0 : Nat) (v3 : Int) (v6 : List FixedField) (v7 : Int) (v8 : Int) : ref2_Breadth_l0 n (m0 + 1) v3 v6 v7 v8 = (bif (decide (v8 < v7)) then (bif (decide (0 ≤ v8) && decide (v8 < List.length v6)) then (bif (decide ((IntKind.wrap .i64 (((List.getD v6 (Int.toNat v8) (FixedField.mk [] 0 0 0 0 false 0)).At) + ((List.getD v6 (Int.toNat v8) (FixedField.mk [] 0 0 0 0 false 0)).Wide))) > v3)) then (ref2_Breadth_l0 n m0 (IntKind.wrap .i64 (((List.getD v6 (Int.toNat v8) (FixedField.mk [] 0 0 0 0 false 0)).At) + ((List.getD v6 (Int.toNat v8) (FixedField.mk [] 0 0 0 0 false 0)).Wide))) v6 v7 (IntKind.wrap .i64 (v8 + 1))) else (ref2_Breadth_l0 n m0 v3 v6 v7 (IntKind.wrap .i64 (v8 + 1)))) else none) else (some v3)) := by kernel_rfl
theorem ref2_Breadth_l0_zero (n : Nat) (v3 : Int) (v6 : List FixedField) (v7 : Int) (v8 : Int) : ref2_Breadth_l0 n 0 v3 v6 v7 v8 = none := by kernel_rfl
theorem ref2_Breadth_l0_fold (n : Nat) (v6 : List FixedField) (v3 : Int) (hl : List.length v6 < 9223372036854775807) (m i : Nat) (hi : i ≤ List.length v6) (hm : List.length v6 - i < m) : ref2_Breadth_l0 n m v3 v6 (List.length v6 : Int) (i : Int) = foldK (S := Int) (fun i (a : FixedField) s K => (bif (decide ((IntKind.wrap .i64 ((a.At) + (a.Wide))) > s)) then (K (IntKind.wrap .i64 ((a.At) + (a.Wide)))) else (K s))) (fun s => (some s)) (List.drop i v6) i (v3) := range_loop v6 (FixedField.mk [] 0 0 0 0 false 0) hl (fun m (k : Int) (s : Int) => ref2_Breadth_l0 n m s v6 (List.length v6 : Int) k) _ _ (fun m i s => (ref2_Breadth_l0_eq n m s v6 (List.length v6 : Int) (i : Int)).trans (by kernel_rfl)) m i hi hm (v3)
theorem ref2_Breadth_eq (n : Nat) (x0 : List FixedField) : ref2_Breadth n x0 = (ref2_Breadth_l0 n n 0 x0 (List.length x0 : Int) 0) := by kernel_rfl
noncomputable def C21 (n : Nat) : Call2 E := more tt gl H (C20 n) n 12 Tryz.f12 [.t (.sl (.nm 0))] (C20 n)
def lay25_ren : Go.Shelf.Ren := ⟨fun | 100 => 25 | 207 => 50 | n => n, fun | 9 => 9 | 4 => 4 | 3 => 3 | n => n, fun | n => n⟩
theorem lay25 : Go.Proofs.Lays.n100 Tryz.prog lay25_ren := {
  mixed := by kernel_rfl
  f100 := Tryz.func25.trans (congrArg some (by kernel_rfl))
  f207 := Tryz.func50.trans (congrArg some (by kernel_rfl))
  t3 := Tryz.underlying3
  a3 := Tryz.isAgg3
  z3 := Tryz.sizeOf3
  v3 := Tryz.zeroValue3
  t4 := Tryz.underlying4
  a4 := Tryz.isAgg4
  z4 := Tryz.sizeOf4
  v4 := Tryz.zeroValue4
  t9 := Tryz.underlying9
  a9 := Tryz.isAgg9
  z9 := Tryz.sizeOf9
  v9 := Tryz.zeroValue9 }
theorem fnok25 : FnOK Tryz.prog 25 := ⟨Tryz.f25, _, Tryz.func25, by decide, rfl⟩
noncomputable def C22 (n : Nat) : Call2 E := moreP 25 [.str, .str] .bool (fun x => hasSufO x.1 x.2.1) (C21 n)

/- internal/strconv.isPowerOfTwo -/
noncomputable def strconv_isPowerOfTwo (n : Nat) (x0 : Int) : Option Bool := F2 (E := E) tt gl H (C22 n) n 93 Tryz.f93 [.t (.int .i64)] (x0, ())
theorem strconv_isPowerOfTwo_eq (n : Nat) (x0 : Int) : strconv_isPowerOfTwo n x0 = (some (decide ((Fv.bits .and .i64 x0 (IntKind.wrap .i64 (x0 - 1))) = 0))) := by kernel_rfl
noncomputable def C23 (n : Nat) : Call2 E := more tt gl H (C22 n) n 93 Tryz.f93 [.t (.int .i64)] (C22 n)

/- math/bits.TrailingZeros64 -/
noncomputable def bits_TrailingZeros64 (n : Nat) (x0 : Int) : Option Int := F2 (E := E) tt gl H (C23 n) n 104 Tryz.f104 [.t (.int .u64)] (x0, ())
theorem bits_TrailingZeros64_eq (n : Nat) (x0 : Int) : bits_TrailingZeros64 n x0 = (bif (decide (x0 = 0)) then (some 64) else (bif (decide (0 ≤ 58)) then (bif (decide (0 ≤ (shr .u64 (IntKind.wrap .u64 ((Fv.bits .and .u64 x0 (IntKind.wrap .u64 (0 - x0))) * 285870213051353865)) 58)) && decide ((shr .u64 (IntKind.wrap .u64 ((Fv.bits .and .u64 x0 (IntKind.wrap .u64 (0 - x0))) * 285870213051353865)) 58) < 64)) then (some (IntKind.wrap .i64 (List.getD db64 (Int.toNat (shr .u64 (IntKind.wrap .u64 ((Fv.bits .and .u64 x0 (IntKind.wrap .u64 (0 - x0))) * 285870213051353865)) 58)) (0 : Int)))) else none) else none)) := by kernel_rfl
noncomputable def C24 (n : Nat) : Call2 E := more tt gl H (C23 n) n 104 Tryz.f104 [.t (.int .u64)] (C23 n)

/- math/bits.TrailingZeros -/
noncomputable def bits_TrailingZeros (n : Nat) (x0 : Int) : Option Int := F2 (E := E) tt gl H (C24 n) n 94 Tryz.f94 [.t (.int .u64)] (x0, ())
theorem bits_TrailingZeros_eq (n : Nat) (x0 : Int) : bits_TrailingZeros n x0 = (Option.bind (bits_TrailingZeros64 n x0) fun r1 => (some r1)) := by kernel_rfl
noncomputable def C25 (n : Nat) : Call2 E := more tt gl H (C24 n) n 94 Tryz.f94 [.t (.int .u64)] (C24 n)

/- internal/strconv.formatBits -/
noncomputable def strconv_formatBits_nil (n : Nat) (x0 : Unit) (x1 : Int) (x2 : Int) (x3 : Bool) (x4 : Bool) : Option (List Int × List UInt8) := F2 (E := E) tt gl H (C25 n) n 78 Tryz.f78 [.snil (.int .u8), .t (.int .u64), .t (.int .i64), .t .bool, .t .bool] ((), x1, x2, x3, x4, ())
noncomputable def strconv_formatBits_nil_l0 (n : Nat) (m0 : Nat) (v1 : Int) (v3 : Bool) (v4 : Bool) (v10 : List Int) (v11 : List UInt8) (v13 : Int) (v14 : Int) (v15 : Int) (v16 : Int) (w12 : List Int) : Option (List Int × List UInt8) := lp (E := E) (ps := [.snil (.int .u8), .t (.int .u64), .t (.int .i64), .t .bool, .t .bool]) tt gl H (C25 n) n 78 Tryz.f78 [1, 1, 1, 1, 1, 0, 1, 0, 1, 1, 1, 0, 0] [] m0 ⟨mkT 102 0 [(0, .snil (.int .u8)), (1, .t (.int .u64) v1), (3, .t .bool v3), (4, .t .bool v4), (10, .sl 26 (.int .u8) v10), (11, .t .str v11), (12, .ptr 12 (.arr 65 (.int .u8)) []), (13, .t (.int .i64) v13), (14, .t (.int .u64) v14), (15, .t (.int .u64) v15), (16, .t (.int .u64) v16)], mkB 408 0 [(12, .var (.arr 65 (.int .u8)) (.t (.arr 65 (.int .u8)) w12)), (26, .grow (.int .u8) (List.length v10))]⟩
noncomputable def strconv_formatBits_nil_l2 (n : Nat) (m0 : Nat) (v1 : Int) (v3 : Bool) (v4 : Bool) (v10 : List Int) (v11 : List UInt8) (v13 : Int) (v17 : Int) (w12 : List Int) : Option (List Int × List UInt8) := lp (E := E) (ps := [.snil (.int .u8), .t (.int .u64), .t (.int .i64), .t .bool, .t .bool]) tt gl H (C25 n) n 78 Tryz.f78 [1, 1, 1, 1, 1, 0, 1, 1, 1, 0, 0] [] m0 ⟨mkT 102 0 [(0, .snil (.int .u8)), (1, .t (.int .u64) v1), (3, .t .bool v3), (4, .t .bool v4), (10, .sl 26 (.int .u8) v10), (11, .t .str v11), (12, .ptr 12 (.arr 65 (.int .u8)) []), (13, .t (.int .i64) v13), (17, .t (.int .u64) v17)], mkB 408 0 [(12, .var (.arr 65 (.int .u8)) (.t (.arr 65 (.int .u8)) w12)), (26, .grow (.int .u8) (List.length v10))]⟩
theorem strconv_formatBits_nil_l2_eq (n : Nat) (m0 : Nat) (v1 : Int) (v3 : Bool) (v4 : Bool) (v10 : List Int) (v11 : List UInt8) (v13 : Int) (v17 : Int) (w12 : List Int) : strconv_formatBits_nil_l2 n (m0 + 1) v1 v3 v4 v10 v11 v13 v17 w12 = (bif (decide (v1 ≥ v17)) then (bif (!decide (v17 = 0)) then (bif (decide (0 ≤ (IntKind.wrap .u64 (v1 - (IntKind.wrap .u64 ((IntKind.wrap .u64 (Int.tdiv v1 v17)) * v17))))) && decide ((IntKind.wrap .u64 (v1 - (IntKind.wrap .u64 ((IntKind.wrap .u64 (Int.tdiv v1 v17)) * v17)))) < List.length ([48, 49, 50, 51, 52, 53, 54, 55, 56, 57, 97, 98, 99, 100, 101, 102, 103, 104, 105, 106, 107, 108, 109, 110, 111, 112, 113, 114, 115, 116, 117, 118, 119, 120, 121, 122] : List UInt8))) then (bif (decide (0 ≤ (IntKind.wrap .i64 (v13 - 1))) && decide ((IntKind.wrap .i64 (v13 - 1)) < 65)) then (bif (decide ((Int.toNat (IntKind.wrap .i64 (v13 - 1))) < 65) && true) then (strconv_formatBits_nil_l2 n m0 (IntKind.wrap .u64 (Int.tdiv v1 v17)) v3 v4 v10 v11 (IntKind.wrap .i64 (v13 - 1)) v17 (List.set w12 (Int.toNat (IntKind.wrap .i64 (v13 - 1))) ((UInt8.toNat (List.getD ([48, 49, 50, 51, 52, 53, 54, 55, 56, 57, 97, 98, 99, 100, 101, 102, 103, 104, 105, 106, 107, 108, 109, 110, 111, 112, 113, 114, 115, 116, 117, 118, 119, 120, 121, 122] : List UInt8) (Int.toNat (IntKind.wrap .u64 (v1 - (IntKind.wrap .u64 ((IntKind.wrap .u64 (Int.tdiv v1 v17)) * v17))))) 0) : Nat) : Int))) else none) else none) else none) else none) else (bif (decide (0 ≤ v1) && decide (v1 < List.length ([48, 49, 50, 51, 52, 53, 54, 55, 56, 57, 97, 98, 99, 100, 101, 102, 103, 104, 105, 106, 107, 108, 109, 110, 111, 112, 113, 114, 115, 116, 117, 118, 119, 120, 121, 122] : List UInt8))) then (bif (decide (0 ≤ (IntKind.wrap .i64 (v13 - 1))) && decide ((IntKind.wrap .i64 (v13 - 1)) < 65)) then (bif (decide ((Int.toNat (IntKind.wrap .i64 (v13 - 1))) < 65) && true) then (bif v3 then (bif (decide (0 ≤ (IntKind.wrap .i64 ((IntKind.wrap .i64 (v13 - 1)) - 1))) && decide ((IntKind.wrap .i64 ((IntKind.wrap .i64 (v13 - 1)) - 1)) < 65)) then (bif (decide ((Int.toNat (IntKind.wrap .i64 ((IntKind.wrap .i64 (v13 - 1)) - 1))) < 65) && true) then (bif v4 then (bif (decide (0 ≤ (IntKind.wrap .i64 ((IntKind.wrap .i64 (v13 - 1)) - 1))) && decide ((IntKind.wrap .i64 ((IntKind.wrap .i64 (v13 - 1)) - 1)) ≤ (65 : Int)) && decide ((65 : Int) ≤ (65 : Int))) then (bif (decide (List.length ([] : List Int) + List.length (List.drop (Int.toNat (IntKind.wrap .i64 ((IntKind.wrap .i64 (v13 - 1)) - 1))) (List.take (Int.toNat (65 : Int)) (List.set (List.set w12 (Int.toNat (IntKind.wrap .i64 (v13 - 1))) ((UInt8.toNat (List.getD ([48, 49, 50, 51, 52, 53, 54, 55, 56, 57, 97, 98, 99, 100, 101, 102, 103, 104, 105, 106, 107, 108, 109, 110, 111, 112, 113, 114, 115, 116, 117, 118, 119, 120, 121, 122] : List UInt8) (Int.toNat v1) 0) : Nat) : Int)) (Int.toNat (IntKind.wrap .i64 ((IntKind.wrap .i64 (v13 - 1)) - 1))) 45))) ≤ 4294967296)) then (some (([] ++ (List.drop (Int.toNat (IntKind.wrap .i64 ((IntKind.wrap .i64 (v13 - 1)) - 1))) (List.take (Int.toNat (65 : Int)) (List.set (List.set w12 (Int.toNat (IntKind.wrap .i64 (v13 - 1))) ((UInt8.toNat (List.getD ([48, 49, 50, 51, 52, 53, 54, 55, 56, 57, 97, 98, 99, 100, 101, 102, 103, 104, 105, 106, 107, 108, 109, 110, 111, 112, 113, 114, 115, 116, 117, 118, 119, 120, 121, 122] : List UInt8) (Int.toNat v1) 0) : Nat) : Int)) (Int.toNat (IntKind.wrap .i64 ((IntKind.wrap .i64 (v13 - 1)) - 1))) 45)))), v11)) else none) else none) else (bif (decide (0 ≤ (IntKind.wrap .i64 ((IntKind.wrap .i64 (v13 - 1)) - 1))) && decide ((IntKind.wrap .i64 ((IntKind.wrap .i64 (v13 - 1)) - 1)) ≤ (65 : Int)) && decide ((65 : Int) ≤ (65 : Int))) then (some (v10, (byts (List.drop (Int.toNat (IntKind.wrap .i64 ((IntKind.wrap .i64 (v13 - 1)) - 1))) (List.take (Int.toNat (65 : Int)) (List.set (List.set w12 (Int.toNat (IntKind.wrap .i64 (v13 - 1))) ((UInt8.toNat (List.getD ([48, 49, 50, 51, 52, 53, 54, 55, 56, 57, 97, 98, 99, 100, 101, 102, 103, 104, 105, 106, 107, 108, 109, 110, 111, 112, 113, 114, 115, 116, 117, 118, 119, 120, 121, 122] : List UInt8) (Int.toNat v1) 0) : Nat) : Int)) (Int.toNat (IntKind.wrap .i64 ((IntKind.wrap .i64 (v13 - 1)) - 1))) 45)))))) else none)) else none) else none) else (bif v4 then (bif (decide (0 ≤ (IntKind.wrap .i64 (v13 - 1))) && decide ((IntKind.wrap .i64 (v13 - 1)) ≤ (65 : Int)) && decide ((65 : Int) ≤ (65 : Int))) then (bif (decide (List.length ([] : List Int) + List.length (List.drop (Int.toNat (IntKind.wrap .i64 (v13 - 1))) (List.take (Int.toNat (65 : Int)) (List.set w12 (Int.toNat (IntKind.wrap .i64 (v13 - 1))) ((UInt8.toNat (List.getD ([48, 49, 50, 51, 52, 53, 54, 55, 56, 57, 97, 98, 99, 100, 101, 102, 103, 104, 105, 106, 107, 108, 109, 110, 111, 112, 113, 114, 115, 116, 117, 118, 119, 120, 121, 122] : List UInt8) (Int.toNat v1) 0) : Nat) : Int)))) ≤ 4294967296)) then (some (([] ++ (List.drop (Int.toNat (IntKind.wrap .i64 (v13 - 1))) (List.take (Int.toNat (65 : Int)) (List.set w12 (Int.toNat (IntKind.wrap .i64 (v13 - 1))) ((UInt8.toNat (List.getD ([48, 49, 50, 51, 52, 53, 54, 55, 56, 57, 97, 98, 99, 100, 101, 102, 103, 104, 105, 106, 107, 108, 109, 110, 111, 112, 113, 114, 115, 116, 117, 118, 119, 120, 121, 122] : List UInt8) (Int.toNat v1) 0) : Nat) : Int))))), v11)) else none) else none) else (bif (decide (0 ≤ (IntKind.wrap .i64 (v13 - 1))) && decide ((IntKind.wrap .i64 (v13 - 1)) ≤ (65 : Int)) && decide ((65 : Int) ≤ (65 : Int))) then (some (v10, (byts (List.drop (Int.toNat (IntKind.wrap .i64 (v13 - 1))) (List.take (Int.toNat (65 : Int)) (List.set w12 (Int.toNat (IntKind.wrap .i64 (v13 - 1))) ((UInt8.toNat (List.getD ([48, 49, 50, 51, 52, 53, 54, 55, 56, 57, 97, 98, 99, 100, 101, 102, 103, 104, 105, 106, 107, 108, 109, 110, 111, 112, 113, 114, 115, 116, 117, 118, 119, 120, 121, 122] : List UInt8) (Int.toNat v1) 0) : Nat) : Int))))))) else none))) else none) else none) else none)) := by kernel_rfl
theorem strconv_formatBits_nil_l2_zero (n : Nat) (v1 : Int) (v3 : Bool) (v4 : Bool) (v10 : List Int) (v11 : List UInt8) (v13 : Int) (v17 : Int) (w12 : List Int) : strconv_formatBits_nil_l2 n 0 v1 v3 v4 v10 v11 v13 v17 w12 = none := by kernel_rfl
theorem strconv_formatBits_nil_l0_eq (n : Nat) (m0 : Nat) (v1 : Int) (v3 : Bool) (v4 : Bool) (v10 : List Int) (v11 : List UInt8) (v13 : Int) (v14 : Int) (v15 : Int) (v16 : Int) (w12 : List Int) : strconv_formatBits_nil_l0 n (m0 + 1) v1 v3 v4 v10 v11 v13 v14 v15 v16 w12 = (bif (decide (v1 ≥ v15)) then (bif (decide (0 ≤ (Fv.bits .and .u64 v1 v16)) && decide ((Fv.bits .and .u64 v1 v16) < List.length ([48, 49, 50, 51, 52, 53, 54, 55, 56, 57, 97, 98, 99, 100, 101, 102, 103, 104, 105, 106, 107, 108, 109, 110, 111, 112, 113, 114, 115, 116, 117, 118, 119, 120, 121, 122] : List UInt8))) then (bif (decide (0 ≤ (IntKind.wrap .i64 (v13 - 1))) && decide ((IntKind.wrap .i64 (v13 - 1)) < 65)) then (bif (decide ((Int.toNat (IntKind.wrap .i64 (v13 - 1))) < 65) && true) then (bif (decide (0 ≤ v14)) then (strconv_formatBits_nil_l0 n m0 (shr .u64 v1 v14) v3 v4 v10 v11 (IntKind.wrap .i64 (v13 - 1)) v14 v15 v16 (List.set w12 (Int.toNat (IntKind.wrap .i64 (v13 - 1))) ((UInt8.toNat (List.getD ([48, 49, 50, 51, 52, 53, 54, 55, 56, 57, 97, 98, 99, 100, 101, 102, 103, 104, 105, 106, 107, 108, 109, 110, 111, 112, 113, 114, 115, 116, 117, 118, 119, 120, 121, 122] : List UInt8) (Int.toNat (Fv.bits .and .u64 v1 v16)) 0) : Nat) : Int))) else none) else none) else none) else none) else (bif (decide (0 ≤ v1) && decide (v1 < List.length ([48, 49, 50, 51, 52, 53, 54, 55, 56, 57, 97, 98, 99, 100, 101, 102, 103, 104, 105, 106, 107, 108, 109, 110, 111, 112, 113, 114, 115, 116, 117, 118, 119, 120, 121, 122] : List UInt8))) then (bif (decide (0 ≤ (IntKind.wrap .i64 (v13 - 1))) && decide ((IntKind.wrap .i64 (v13 - 1)) < 65)) then (bif (decide ((Int.toNat (IntKind.wrap .i64 (v13 - 1))) < 65) && true) then (bif v3 then (bif (decide (0 ≤ (IntKind.wrap .i64 ((IntKind.wrap .i64 (v13 - 1)) - 1))) && decide ((IntKind.wrap .i64 ((IntKind.wrap .i64 (v13 - 1)) - 1)) < 65)) then (bif (decide ((Int.toNat (IntKind.wrap .i64 ((IntKind.wrap .i64 (v13 - 1)) - 1))) < 65) && true) then (bif v4 then (bif (decide (0 ≤ (IntKind.wrap .i64 ((IntKind.wrap .i64 (v13 - 1)) - 1))) && decide ((IntKind.wrap .i64 ((IntKind.wrap .i64 (v13 - 1)) - 1)) ≤ (65 : Int)) && decide ((65 : Int) ≤ (65 : Int))) then (bif (decide (List.length ([] : List Int) + List.length (List.drop (Int.toNat (IntKind.wrap .i64 ((IntKind.wrap .i64 (v13 - 1)) - 1))) (List.take (Int.toNat (65 : Int)) (List.set (List.set w12 (Int.toNat (IntKind.wrap .i64 (v13 - 1))) ((UInt8.toNat (List.getD ([48, 49, 50, 51, 52, 53, 54, 55, 56, 57, 97, 98, 99, 100, 101, 102, 103, 104, 105, 106, 107, 108, 109, 110, 111, 112, 113, 114, 115, 116, 117, 118, 119, 120, 121, 122] : List UInt8) (Int.toNat v1) 0) : Nat) : Int)) (Int.toNat (IntKind.wrap .i64 ((IntKind.wrap .i64 (v13 - 1)) - 1))) 45))) ≤ 4294967296)) then (some (([] ++ (List.drop (Int.toNat (IntKind.wrap .i64 ((IntKind.wrap .i64 (v13 - 1)) - 1))) (List.take (Int.toNat (65 : Int)) (List.set (List.set w12 (Int.toNat (IntKind.wrap .i64 (v13 - 1))) ((UInt8.toNat (List.getD ([48, 49, 50, 51, 52, 53, 54, 55, 56, 57, 97, 98, 99, 100, 101, 102, 103, 104, 105, 106, 107, 108, 109, 110, 111, 112, 113, 114, 115, 116, 117, 118, 119, 120, 121, 122] : List UInt8) (Int.toNat v1) 0) : Nat) : Int)) (Int.toNat (IntKind.wrap .i64 ((IntKind.wrap .i64 (v13 - 1)) - 1))) 45)))), v11)) else none) else none) else (bif (decide (0 ≤ (IntKind.wrap .i64 ((IntKind.wrap .i64 (v13 - 1)) - 1))) && decide ((IntKind.wrap .i64 ((IntKind.wrap .i64 (v13 - 1)) - 1)) ≤ (65 : Int)) && decide ((65 : Int) ≤ (65 : Int))) then (some (v10, (byts (List.drop (Int.toNat (IntKind.wrap .i64 ((IntKind.wrap .i64 (v13 - 1)) - 1))) (List.take (Int.toNat (65 : Int)) (List.set (List.set w12 (Int.toNat (IntKind.wrap .i64 (v13 - 1))) ((UInt8.toNat (List.getD ([48, 49, 50, 51, 52, 53, 54, 55, 56, 57, 97, 98, 99, 100, 101, 102, 103, 104, 105, 106, 107, 108, 109, 110, 111, 112, 113, 114, 115, 116, 117, 118, 119, 120, 121, 122] : List UInt8) (Int.toNat v1) 0) : Nat) : Int)) (Int.toNat (IntKind.wrap .i64 ((IntKind.wrap .i64 (v13 - 1)) - 1))) 45)))))) else none)) else none) else none) else (bif v4 then (bif (decide (0 ≤ (IntKind.wrap .i64 (v13 - 1))) && decide ((IntKind.wrap .i64 (v13 - 1)) ≤ (65 : Int)) && decide ((65 : Int) ≤ (65 : Int))) then (bif (decide (List.length ([] : List Int) + List.length (List.drop (Int.toNat (IntKind.wrap .i64 (v13 - 1))) (List.take (Int.toNat (65 : Int)) (List.set w12 (Int.toNat (IntKind.wrap .i64 (v13 - 1))) ((UInt8.toNat (List.getD ([48, 49, 50, 51, 52, 53, 54, 55, 56, 57, 97, 98, 99, 100, 101, 102, 103, 104, 105, 106, 107, 108, 109, 110, 111, 112, 113, 114, 115, 116, 117, 118, 119, 120, 121, 122] : List UInt8) (Int.toNat v1) 0) : Nat) : Int)))) ≤ 4294967296)) then (some (([] ++ (List.drop (Int.toNat (IntKind.wrap .i64 (v13 - 1))) (List.take (Int.toNat (65 : Int)) (List.set w12 (Int.toNat (IntKind.wrap .i64 (v13 - 1))) ((UInt8.toNat (List.getD ([48, 49, 50, 51, 52, 53, 54, 55, 56, 57, 97, 98, 99, 100, 101, 102, 103, 104, 105, 106, 107, 108, 109, 110, 111, 112, 113, 114, 115, 116, 117, 118, 119, 120, 121, 122] : List UInt8) (Int.toNat v1) 0) : Nat) : Int))))), v11)) else none) else none) else (bif (decide (0 ≤ (IntKind.wrap .i64 (v13 - 1))) && decide ((IntKind.wrap .i64 (v13 - 1)) ≤ (65 : Int)) && decide ((65 : Int) ≤ (65 : Int))) then (some (v10, (byts (List.drop (Int.toNat (IntKind.wrap .i64 (v13 - 1))) (List.take (Int.toNat (65 : Int)) (List.set w12 (Int.toNat (IntKind.wrap .i64 (v13 - 1))) ((UInt8.toNat (List.getD ([48, 49, 50, 51, 52, 53, 54, 55, 56, 57, 97, 98, 99, 100, 101, 102, 103, 104, 105, 106, 107, 108, 109, 110, 111, 112, 113, 114, 115, 116, 117, 118, 119, 120, 121, 122] : List UInt8) (Int.toNat v1) 0) : Nat) : Int))))))) else none))) else none) else none) else none)) := by kernel_rfl
theorem strconv_formatBits_nil_l0_zero (n : Nat) (v1 : Int) (v3 : Bool) (v4 : Bool) (v10 : List Int) (v11 : List UInt8) (v13 : Int) (v14 : Int) (v15 : Int) (v16 : Int) (w12 : List Int) : strconv_formatBits_nil_l0 n 0 v1 v3 v4 v10 v11 v13 v14 v15 v16 w12 = none := by kernel_rfl
theorem strconv_formatBits_nil_eq (n : Nat) (x0 : Unit) (x1 : Int) (x2 : Int) (x3 : Bool) (x4 : Bool) : strconv_formatBits_nil n x0 x1 x2 x3 x4 = (bif (decide (x2 < 2)) then none else (bif (decide (x2 = 10)) then none else (bif (decide (x2 > 36)) then none else (bif x3 then (Option.bind (strconv_isPowerOfTwo n x2) fun r1 => (bif r1 then (Option.bind (bits_TrailingZeros n (IntKind.wrap .u64 x2)) fun r2 => (strconv_formatBits_nil_l0 n n (IntKind.wrap .u64 (0 - x1)) x3 x4 [] [] 65 (IntKind.wrap .u64 r2) (IntKind.wrap .u64 x2) (IntKind.wrap .u64 ((IntKind.wrap .u64 x2) - 1)) (List.replicate 65 0))) else (strconv_formatBits_nil_l2 n n (IntKind.wrap .u64 (0 - x1)) x3 x4 [] [] 65 (IntKind.wrap .u64 x2) (List.replicate 65 0)))) else (Option.bind (strconv_isPowerOfTwo n x2) fun r3 => (bif r3 then (Option.bind (bits_TrailingZeros n (IntKind.wrap .u64 x2)) fun r4 => (strconv_formatBits_nil_l0 n n x1 x3 x4 [] [] 65 (IntKind.wrap .u64 r4) (IntKind.wrap .u64 x2) (IntKind.wrap .u64 ((IntKind.wrap .u64 x2) - 1)) (List.replicate 65 0))) else (strconv_formatBits_nil_l2 n n x1 x3 x4 [] [] 65 (IntKind.wrap .u64 x2) (List.replicate 65 0)))))))) := by kernel_rfl
noncomputable def C26 (n : Nat) : Call2 E := more tt gl H (C25 n) n 78 Tryz.f78 [.snil (.int .u8), .t (.int .u64), .t (.int .i64), .t .bool, .t .bool] (C25 n)

/- internal/strconv.FormatInt -/
noncomputable def strconv_FormatInt_2 (n : Nat) (x0 : Int) (x1 : Int) : Option (List UInt8) := F2 (E := E) tt gl H (C26 n) n 51 Tryz.f51 [.t (.int .i64), .t (.int .i64)] (x0, x1, ())
theorem strconv_FormatInt_2_eq (n : Nat) (x0 : Int) (x1 : Int) : strconv_FormatInt_2 n x0 x1 = (bif (decide (x1 = 10)) then (bif (decide ((0 : Int) ≤ x0)) then (bif (decide (x0 < 100)) then none else (bif (decide (x0 < 0)) then none else none)) else (bif (decide (x0 < 0)) then none else none)) else (Option.bind (strconv_formatBits_nil n () (IntKind.wrap .u64 x0) x1 (decide (x0 < 0)) false) fun r1 => (some r1.2))) := by kernel_rfl
noncomputable def C27 (n : Nat) : Call2 E := more tt gl H (C26 n) n 51 Tryz.f51 [.t (.int .i64), .t (.int .i64)] (C26 n)

/- strconv.FormatInt -/
noncomputable def strconv_FormatInt (n : Nat) (x0 : Int) (x1 : Int) : Option (List UInt8) := F2 (E := E) tt gl H (C27 n) n 26 Tryz.f26 [.t (.int .i64), .t (.int .i64)] (x0, x1, ())
theorem strconv_FormatInt_eq (n : Nat) (x0 : Int) (x1 : Int) : strconv_FormatInt n x0 x1 = (Option.bind (strconv_FormatInt_2 n x0 x1) fun r1 => (some r1)) := by kernel_rfl
noncomputable def C28 (n : Nat) : Call2 E := more tt gl H (C27 n) n 26 Tryz.f26 [.t (.int .i64), .t (.int .i64)] (C27 n)
def lay27_ren : Go.Shelf.Ren := ⟨fun | 174 => 27 | 247 => 52 | 245 => 47 | 287 => 79 | 279 => 70 | 280 => 71 | 281 => 72 | 282 => 73 | 321 => 95 | 322 => 96 | 316 => 88 | 171 => 49 | 205 => 89 | 243 => 74 | 246 => 51 | 283 => 75 | 284 => 76 | 285 => 77 | 286 => 78 | 129 => 91 | 317 => 90 | 318 => 92 | 319 => 93 | 320 => 94 | 337 => 103 | 338 => 104 | n => n, fun | 9 => 9 | 3 => 3 | 2 => 2 | 75 => 49 | 85 => 62 | 4 => 4 | 167 => 105 | 5 => 5 | 53 => 67 | 175 => 90 | 46 => 75 | 168 => 106 | 37 => 23 | 0 => 0 | 210 => 123 | 21 => 21 | 127 => 119 | 145 => 140 | 143 => 138 | 171 => 109 | 173 => 112 | 212 => 125 | 51 => 114 | 20 => 20 | 213 => 126 | 232 => 142 | 233 => 143 | 80 => 99 | n => n, fun | 15 => 1 | 16 => 2 | 17 => 3 | 18 => 6 | 19 => 7 | n => n⟩
theorem lay27 : Go.Proofs.LaysC.n174 Tryz.prog lay27_ren := {
  mixed := by kernel_rfl
  f129 := Tryz.func91.trans (congrArg some (by kernel_rfl))
  f171 := Tryz.func49.trans (congrArg some (by kernel_rfl))
  f174 := Tryz.func27.trans (congrArg some (by kernel_rfl))
  f205 := Tryz.func89.trans (congrArg some (by kernel_rfl))
  f243 := Tryz.func74.trans (congrArg some (by kernel_rfl))
  f245 := Tryz.func47.trans (congrArg some (by kernel_rfl))
  f246 := Tryz.func51.trans (congrArg some (by kernel_rfl))
  f247 := Tryz.func52.trans (congrArg some (by kernel_rfl))
  f279 := Tryz.func70.trans (congrArg some (by kernel_rfl))
  f280 := Tryz.func71.trans (congrArg some (by kernel_rfl))
  f281 := Tryz.func72.trans (congrArg some (by kernel_rfl))
  f282 := Tryz.func73.trans (congrArg some (by kernel_rfl))
  f283 := Tryz.func75.trans (congrArg some (by kernel_rfl))
  f284 := Tryz.func76.trans (congrArg some (by kernel_rfl))
  f285 := Tryz.func77.trans (congrArg some (by kernel_rfl))
  f286 := Tryz.func78.trans (congrArg some (by kernel_rfl))
  f287 := Tryz.func79.trans (congrArg some (by kernel_rfl))
  f316 := Tryz.func88.trans (congrArg some (by kernel_rfl))
  f317 := Tryz.func90.trans (congrArg some (by kernel_rfl))
  f318 := Tryz.func92.trans (congrArg some (by kernel_rfl))
  f319 := Tryz.func93.trans (congrArg some (by kernel_rfl))
  f320 := Tryz.func94.trans (congrArg some (by kernel_rfl))
  f321 := Tryz.func95.trans (congrArg some (by kernel_rfl))
  f322 := Tryz.func96.trans (congrArg some (by kernel_rfl))
  f337 := Tryz.func103.trans (congrArg some (by kernel_rfl))
  f338 := Tryz.func104.trans (congrArg some (by kernel_rfl))
  t0 := Tryz.underlying0
  a0 := Tryz.isAgg0
  z0 := Tryz.sizeOf0
  v0 := Tryz.zeroValue0
  t2 := Tryz.underlying2
  a2 := Tryz.isAgg2
  z2 := Tryz.sizeOf2
  v2 := Tryz.zeroValue2
  t3 := Tryz.underlying3
  a3 := Tryz.isAgg3
  z3 := Tryz.sizeOf3
  v3 := Tryz.zeroValue3
  t4 := Tryz.underlying4
  a4 := Tryz.isAgg4
  z4 := Tryz.sizeOf4
  v4 := Tryz.zeroValue4
  t5 := Tryz.underlying5
  a5 := Tryz.isAgg5
  z5 := Tryz.sizeOf5
  v5 := Tryz.zeroValue5
  t9 := Tryz.underlying9
  a9 := Tryz.isAgg9
  z9 := Tryz.sizeOf9
  v9 := Tryz.zeroValue9
  t20 := Tryz.underlying20
  a20 := Tryz.isAgg20
  z20 := Tryz.sizeOf20
  v20 := Tryz.zeroValue20
  t21 := Tryz.underlying21
  a21 := Tryz.isAgg21
  z21 := Tryz.sizeOf21
  v21 := Tryz.zeroValue21
  t37 := Tryz.underlying23
  a37 := Tryz.isAgg23
  z37 := Tryz.sizeOf23
  v37 := Tryz.zeroValue23
  t46 := Tryz.underlying75
  a46 := Tryz.isAgg75
  z46 := Tryz.sizeOf75
  v46 := Tryz.zeroValue75
  t51 := Tryz.underlying114
  a51 := Tryz.isAgg114
  z51 := Tryz.sizeOf114
  v51 := Tryz.zeroValue114
  t53 := Tryz.underlying67
  a53 := Tryz.isAgg67
  z53 := Tryz.sizeOf67
  v53 := Tryz.zeroValue67
  t75 := Tryz.underlying49
  a75 := Tryz.isAgg49
  z75 := Tryz.sizeOf49
  v75 := Tryz.zeroValue49
  t85 := Tryz.underlying62
  a85 := Tryz.isAgg62
  z85 := Tryz.sizeOf62
  v85 := Tryz.zeroValue62
  t127 := Tryz.underlying119
  a127 := Tryz.isAgg119
  z127 := Tryz.sizeOf119
  v127 := Tryz.zeroValue119
  t143 := Tryz.underlying138
  a143 := Tryz.isAgg138
  z143 := Tryz.sizeOf138
  v143 := Tryz.zeroValue138
  t145 := Tryz.underlying140
  a145 := Tryz.isAgg140
  z145 := Tryz.sizeOf140
  v145 := Tryz.zeroValue140
  t167 := Tryz.underlying105
  a167 := Tryz.isAgg105
  z167 := Tryz.sizeOf105
  v167 := Tryz.zeroValue105
  t168 := Tryz.underlying106
  a168 := Tryz.isAgg106
  z168 := Tryz.sizeOf106
  v168 := Tryz.zeroValue106
  t171 := Tryz.underlying109
  a171 := Tryz.isAgg109
  z171 := Tryz.sizeOf109
  v171 := Tryz.zeroValue109
  t173 := Tryz.underlying112
  a173 := Tryz.isAgg112
  z173 := Tryz.sizeOf112
  v173 := Tryz.zeroValue112
  t175 := Tryz.underlying90
  a175 := Tryz.isAgg90
  z175 := Tryz.sizeOf90
  v175 := Tryz.zeroValue90
  t210 := Tryz.underlying123
  a210 := Tryz.isAgg123
  z210 := Tryz.sizeOf123
  v210 := Tryz.zeroValue123
  t212 := Tryz.underlying125
  a212 := Tryz.isAgg125
  z212 := Tryz.sizeOf125
  v212 := Tryz.zeroValue125
  t213 := Tryz.underlying126
  a213 := Tryz.isAgg126
  z213 := Tryz.sizeOf126
  t232 := Tryz.underlying142
  a232 := Tryz.isAgg142
  z232 := Tryz.sizeOf142
  v232 := Tryz.zeroValue142
  t233 := Tryz.underlying143
  a233 := Tryz.isAgg143
  z233 := Tryz.sizeOf143
  v233 := Tryz.zeroValue143
  g15 := by kernel_rfl
  g16 := by kernel_rfl
  g17 := by kernel_rfl
  g18 := by kernel_rfl
  g19 := by kernel_rfl
  t80 := Tryz.underlying99
  a80 := Tryz.isAgg99
  z80 := Tryz.sizeOf99
  v80 := Tryz.zeroValue99
  i0 := by kernel_rfl
  i2 := by kernel_rfl
  i3 := by kernel_rfl
  i4 := by kernel_rfl
  i5 := by kernel_rfl
  i9 := by kernel_rfl
  i20 := by kernel_rfl
  i21 := by kernel_rfl
  i37 := by kernel_rfl
  i46 := by kernel_rfl
  i51 := by kernel_rfl
  i53 := by kernel_rfl
  i75 := by kernel_rfl
  i80 := by kernel_rfl
  i85 := by kernel_rfl
  i127 := by kernel_rfl
  i143 := by kernel_rfl
  i145 := by kernel_rfl
  i167 := by kernel_rfl
  i168 := by kernel_rfl
  i171 := by kernel_rfl
  i173 := by kernel_rfl
  i175 := by kernel_rfl
  i210 := by kernel_rfl
  i212 := by kernel_rfl
  i232 := by kernel_rfl
  i233 := by kernel_rfl
  m15 := by kernel_rfl
  m16 := by kernel_rfl
  m17 := by kernel_rfl
  m18 := by kernel_rfl
  m19 := by kernel_rfl
  c0 := by kernel_rfl
  c2 := by kernel_rfl
  c3 := by kernel_rfl
  c4 := by kernel_rfl
  c5 := by kernel_rfl
  c9 := by kernel_rfl
  c20 := by kernel_rfl
  c21 := by kernel_rfl
  c37 := by kernel_rfl
  c46 := by kernel_rfl
  c51 := by kernel_rfl
  c53 := by kernel_rfl
  c75 := by kernel_rfl
  c80 := by kernel_rfl
  c85 := by kernel_rfl
  c127 := by kernel_rfl
  c143 := by kernel_rfl
  c145 := by kernel_rfl
  c167 := by kernel_rfl
  c168 := by kernel_rfl
  c171 := by kernel_rfl
  c173 := by kernel_rfl
  c175 := by kernel_rfl
  c210 := by kernel_rfl
  c212 := by kernel_rfl
  c213 := by kernel_rfl
  c232 := by kernel_rfl
  c233 := by kernel_rfl }
theorem fnok27 : FnOK Tryz.prog 27 := ⟨Tryz.f27, _, Tryz.func27, by decide, rfl⟩
noncomputable def C29 (n : Nat) : Call2 E := moreE 27 [.str, (.int .i64), (.int .i64)] (.int .i64) (fun x => parseO x.1 x.2.1 x.2.2.1) (C28 n)

/- clapperbridge/clapref2.shown -/
noncomputable def ref2_shown (n : Nat) (x0 : FixedField) (x1 : Int) : Option (List UInt8) := F2 (E := E) tt gl H (C29 n) n 53 Tryz.f53 [.t (.nm 0), .t (.int .i64)] (x0, x1, ())
noncomputable def ref2_shown_l0 (n : Nat) (m0 : Nat) (v5 : List UInt8) (v6 : Int) (w2 : FixedField) : Option (List UInt8) := lp (E := E) (ps := [.t (.nm 0), .t (.int .i64)]) tt gl H (C29 n) n 53 Tryz.f53 [1, 1, 0, 1, 0] [] m0 ⟨mkT 26 0 [(2, .ptr 2 (.nm 0) []), (5, .t .str v5), (6, .t (.int .i64) v6)], mkB 104 0 [(2, .var (.nm 0) (.t (.nm 0) w2))]⟩
theorem ref2_shown_l0_eq (n : Nat) (m0 : Nat) (v5 : List UInt8) (v6 : Int) (w2 : FixedField) : ref2_shown_l0 n (m0 + 1) v5 v6 w2 = (Option.bind (ref2_Places n w2) fun r1 => (bif (decide ((List.length v5 : Int) < r1)) then (bif (decide (0 ≤ (IntKind.wrap .i32 (IntKind.wrap .i64 ((48 : Int) + (Int.tmod v6 10))))) && decide ((IntKind.wrap .i32 (IntKind.wrap .i64 ((48 : Int) + (Int.tmod v6 10)))) < 128)) then (bif (decide (List.length ([UInt8.ofNat (Int.toNat (IntKind.wrap .i32 (IntKind.wrap .i64 ((48 : Int) + (Int.tmod v6 10)))))] : List UInt8) + List.length v5 ≤ 4294967296)) then (ref2_shown_l0 n m0 (([UInt8.ofNat (Int.toNat (IntKind.wrap .i32 (IntKind.wrap .i64 ((48 : Int) + (Int.tmod v6 10)))))] : List UInt8) ++ v5) (IntKind.wrap .i64 (Int.tdiv v6 10)) w2) else none) else none) else (some v5))) := by kernel_rfl
theorem ref2_shown_l0_zero (n : Nat) (v5 : List UInt8) (v6 : Int) (w2 : FixedField) : ref2_shown_l0 n 0 v5 v6 w2 = none := by kernel_rfl
theorem ref2_shown_eq (n : Nat) (x0 : FixedField) (x1 : Int) : ref2_shown n x0 x1 = (ref2_shown_l0 n n [] (mxI x1 (IntKind.wrap .i64 (0 - x1))) x0) := by kernel_rfl
noncomputable def C30 (n : Nat) : Call2 E := more tt gl H (C29 n) n 53 Tryz.f53 [.t (.nm 0), .t (.int .i64)] (C29 n)

/- clapperbridge/clapref2.bit -/
noncomputable def ref2_bit (n : Nat) (x0 : Bool) : Option Int := F2 (E := E) tt gl H (C30 n) n 54 Tryz.f54 [.t .bool] (x0, ())
theorem ref2_bit_eq (n : Nat) (x0 : Bool) : ref2_bit n x0 = (bif x0 then (some 1) else (some 0)) := by kernel_rfl
noncomputable def C31 (n : Nat) : Call2 E := more tt gl H (C30 n) n 54 Tryz.f54 [.t .bool] (C30 n)
def lay55_ren : Go.Shelf.Ren := ⟨fun | 14 => 55 | 16 => 79 | 17 => 47 | 19 => 95 | 20 => 96 | 21 => 70 | 22 => 71 | 23 => 72 | 24 => 73 | 25 => 88 | 27 => 49 | 26 => 89 | 28 => 74 | 29 => 51 | 30 => 75 | 31 => 76 | 32 => 77 | 33 => 78 | 35 => 91 | 34 => 90 | 36 => 92 | 37 => 93 | 38 => 94 | 39 => 103 | 40 => 104 | n => n, fun | 9 => 9 | 3 => 3 | 22 => 67 | 24 => 49 | 25 => 90 | 4 => 4 | 34 => 105 | 5 => 5 | 36 => 75 | 37 => 23 | 0 => 0 | 39 => 106 | 21 => 21 | 44 => 123 | 47 => 119 | 50 => 140 | 48 => 138 | 2 => 2 | 52 => 109 | 55 => 112 | 59 => 125 | 60 => 114 | 20 => 20 | 61 => 126 | 65 => 142 | 66 => 143 | 67 => 99 | n => n, fun | 0 => 1 | 1 => 2 | 2 => 3 | 3 => 6 | 4 => 7 | n => n⟩
theorem lay55 : Go.Proofs.LaysPu.n14 Tryz.prog lay55_ren := {
  mixed := by kernel_rfl
  f14 := Tryz.func55.trans (congrArg some (by kernel_rfl))
  f16 := Tryz.func79.trans (congrArg some (by kernel_rfl))
  f17 := Tryz.func47.trans (congrArg some (by kernel_rfl))
  f19 := Tryz.func95.trans (congrArg some (by kernel_rfl))
  f20 := Tryz.func96.trans (congrArg some (by kernel_rfl))
  f21 := Tryz.func70.trans (congrArg some (by kernel_rfl))
  f22 := Tryz.func71.trans (congrArg some (by kernel_rfl))
  f23 := Tryz.func72.trans (congrArg some (by kernel_rfl))
  f24 := Tryz.func73.trans (congrArg some (by kernel_rfl))
  f25 := Tryz.func88.trans (congrArg some (by kernel_rfl))
  f26 := Tryz.func89.trans (congrArg some (by kernel_rfl))
  f27 := Tryz.func49.trans (congrArg some (by kernel_rfl))
  f28 := Tryz.func74.trans (congrArg some (by kernel_rfl))
  f29 := Tryz.func51.trans (congrArg some (by kernel_rfl))
  f30 := Tryz.func75.trans (congrArg some (by kernel_rfl))
  f31 := Tryz.func76.trans (congrArg some (by kernel_rfl))
  f32 := Tryz.func77.trans (congrArg some (by kernel_rfl))
  f33 := Tryz.func78.trans (congrArg some (by kernel_rfl))
  f34 := Tryz.func90.trans (congrArg some (by kernel_rfl))
  f35 := Tryz.func91.trans (congrArg some (by kernel_rfl))
  f36 := Tryz.func92.trans (congrArg some (by kernel_rfl))
  f37 := Tryz.func93.trans (congrArg some (by kernel_rfl))
  f38 := Tryz.func94.trans (congrArg some (by kernel_rfl))
  f39 := Tryz.func103.trans (congrArg some (by kernel_rfl))
  f40 := Tryz.func104.trans (congrArg some (by kernel_rfl))
  t0 := Tryz.underlying0
  a0 := Tryz.isAgg0
  z0 := Tryz.sizeOf0
  v0 := Tryz.zeroValue0
  i0 := by kernel_rfl
  t2 := Tryz.underlying2
  a2 := Tryz.isAgg2
  z2 := Tryz.sizeOf2
  v2 := Tryz.zeroValue2
  i2 := by kernel_rfl
  t3 := Tryz.underlying3
  a3 := Tryz.isAgg3
  z3 := Tryz.sizeOf3
  v3 := Tryz.zeroValue3
  i3 := by kernel_rfl
  t4 := Tryz.underlying4
  a4 := Tryz.isAgg4
  z4 := Tryz.sizeOf4
  v4 := Tryz.zeroValue4
  i4 := by kernel_rfl
  t5 := Tryz.underlying5
  a5 := Tryz.isAgg5
  z5 := Tryz.sizeOf5
  v5 := Tryz.zeroValue5
  i5 := by kernel_rfl
  t9 := Tryz.underlying9
  a9 := Tryz.isAgg9
  z9 := Tryz.sizeOf9
  v9 := Tryz.zeroValue9
  i9 := by kernel_rfl
  t20 := Tryz.underlying20
  a20 := Tryz.isAgg20
  z20 := Tryz.sizeOf20
  v20 := Tryz.zeroValue20
  i20 := by kernel_rfl
  t21 := Tryz.underlying21
  a21 := Tryz.isAgg21
  z21 := Tryz.sizeOf21
  v21 := Tryz.zeroValue21
  i21 := by kernel_rfl
  t22 := Tryz.underlying67
  a22 := Tryz.isAgg67
  z22 := Tryz.sizeOf67
  v22 := Tryz.zeroValue67
  i22 := by kernel_rfl
  t24 := Tryz.underlying49
  a24 := Tryz.isAgg49
  z24 := Tryz.sizeOf49
  v24 := Tryz.zeroValue49
  i24 := by kernel_rfl
  t25 := Tryz.underlying90
  a25 := Tryz.isAgg90
  z25 := Tryz.sizeOf90
  v25 := Tryz.zeroValue90
  i25 := by kernel_rfl
  t34 := Tryz.underlying105
  a34 := Tryz.isAgg105
  z34 := Tryz.sizeOf105
  v34 := Tryz.zeroValue105
  i34 := by kernel_rfl
  c34 := by kernel_rfl
  t36 := Tryz.underlying75
  a36 := Tryz.isAgg75
  z36 := Tryz.sizeOf75
  v36 := Tryz.zeroValue75
  i36 := by kernel_rfl
  t37 := Tryz.underlying23
  a37 := Tryz.isAgg23
  z37 := Tryz.sizeOf23
  v37 := Tryz.zeroValue23
  i37 := by kernel_rfl
  t39 := Tryz.underlying106
  a39 := Tryz.isAgg106
  z39 := Tryz.sizeOf106
  v39 := Tryz.zeroValue106
  i39 := by kernel_rfl
  t44 := Tryz.underlying123
  a44 := Tryz.isAgg123
  z44 := Tryz.sizeOf123
  v44 := Tryz.zeroValue123
  i44 := by kernel_rfl
  t47 := Tryz.underlying119
  a47 := Tryz.isAgg119
  z47 := Tryz.sizeOf119
  v47 := Tryz.zeroValue119
  i47 := by kernel_rfl
  t48 := Tryz.underlying138
  a48 := Tryz.isAgg138
  z48 := Tryz.sizeOf138
  v48 := Tryz.zeroValue138
  i48 := by kernel_rfl
  t50 := Tryz.underlying140
  a50 := Tryz.isAgg140
  z50 := Tryz.sizeOf140
  v50 := Tryz.zeroValue140
  i50 := by kernel_rfl
  t52 := Tryz.underlying109
  a52 := Tryz.isAgg109
  z52 := Tryz.sizeOf109
  v52 := Tryz.zeroValue109
  i52 := by kernel_rfl
  t55 := Tryz.underlying112
  a55 := Tryz.isAgg112
  z55 := Tryz.sizeOf112
  v55 := Tryz.zeroValue112
  i55 := by kernel_rfl
  t59 := Tryz.underlying125
  a59 := Tryz.isAgg125
  z59 := Tryz.sizeOf125
  v59 := Tryz.zeroValue125
  i59 := by kernel_rfl
  t60 := Tryz.underlying114
  a60 := Tryz.isAgg114
  z60 := Tryz.sizeOf114
  v60 := Tryz.zeroValue114
  i60 := by kernel_rfl
  t61 := Tryz.underlying126
  a61 := Tryz.isAgg126
  z61 := Tryz.sizeOf126
  t65 := Tryz.underlying142
  a65 := Tryz.isAgg142
  z65 := Tryz.sizeOf142
  v65 := Tryz.zeroValue142
  i65 := by kernel_rfl
  t66 := Tryz.underlying143
  a66 := Tryz.isAgg143
  z66 := Tryz.sizeOf143
  v66 := Tryz.zeroValue143
  i66 := by kernel_rfl
  t67 := Tryz.underlying99
  a67 := Tryz.isAgg99
  z67 := Tryz.sizeOf99
  v67 := Tryz.zeroValue99
  i67 := by kernel_rfl
  g0 := by kernel_rfl
  m0 := by kernel_rfl
  g1 := by kernel_rfl
  m1 := by kernel_rfl
  g2 := by kernel_rfl
  m2 := by kernel_rfl
  g3 := by kernel_rfl
  m3 := by kernel_rfl
  g4 := by kernel_rfl
  m4 := by kernel_rfl }
theorem fnok55 : FnOK Tryz.prog 55 := ⟨Tryz.f55, _, Tryz.func55, by decide, rfl⟩
noncomputable def C32 (n : Nat) : Call2 E := moreT 55 [.str, (.int .i64), (.int .i64)] (.int .u64) (fun x => pu16O x.1 x.2.1 x.2.2.1) (C31 n)

/- clapperbridge/clapref2.Put -/
noncomputable def ref2_Put (n : Nat) (x0 : FixedField) (x1 : ApiValue) : Option (List UInt8 × Int) := F2 (E := E) tt gl H (C32 n) n 28 Tryz.f28 [.t (.nm 0), .t (.nm 1)] (x0, x1, ())
noncomputable def ref2_Put_l1 (n : Nat) (m0 : Nat) (w2 : FixedField) (w3 : ApiValue) : Option (List UInt8 × Int) := lp (E := E) (ps := [.t (.nm 0), .t (.nm 1)]) tt gl H (C32 n) n 28 Tryz.f28 [1, 0, 1, 0, 1, 0, 0] [] m0 ⟨mkT 121 0 [(2, .ptr 2 (.nm 0) []), (3, .ptr 3 (.nm 1) [])], mkB 484 0 [(2, .var (.nm 0) (.t (.nm 0) w2)), (3, .var (.nm 1) (.t (.nm 1) w3))]⟩
noncomputable def ref2_Put_l3 (n : Nat) (m0 : Nat) (v7 : List UInt8) (v8 : List UInt8) (v9 : Int) : Option (List UInt8 × Int) := lp (E := E) (ps := [.t (.nm 0), .t (.nm 1)]) tt gl H (C32 n) n 28 Tryz.f28 [1, 1, 1, 1, 1, 1, 1, 1, 0, 1, 0] [] m0 ⟨mkT 121 0 [(7, .t .str v7), (8, .t .str v8), (9, .t (.int .i64) v9)], mkB 484 0 []⟩
theorem ref2_Put_l3_eq (n : Nat) (m0 : Nat) (v7 : List UInt8) (v8 : List UInt8) (v9 : Int) : ref2_Put_l3 n (m0 + 1) v7 v8 v9 = (bif (decide (v9 < (List.length v7 : Int))) then (bif (decide (0 ≤ v9) && decide (v9 ≤ (IntKind.wrap .i64 (v9 + 2))) && decide ((IntKind.wrap .i64 (v9 + 2)) ≤ (List.length v7))) then (Option.bind (pu16O (List.drop (Int.toNat v9) (List.take (Int.toNat (IntKind.wrap .i64 (v9 + 2))) v7)) 16 8) fun r7 => (bif (decide (List.length v8 + List.length (byts [(IntKind.wrap .u8 r7)]) ≤ 4294967296)) then (ref2_Put_l3 n m0 v7 (v8 ++ (byts [(IntKind.wrap .u8 r7)])) (IntKind.wrap .i64 (v9 + 2))) else none)) else none) else (some (v8, 0))) := by kernel_rfl
theorem ref2_Put_l3_zero (n : Nat) (v7 : List UInt8) (v8 : List UInt8) (v9 : Int) : ref2_Put_l3 n 0 v7 v8 v9 = none := by kernel_rfl
theorem ref2_Put_l1_eq (n : Nat) (m0 : Nat) (w2 : FixedField) (w3 : ApiValue) : ref2_Put_l1 n (m0 + 1) w2 w3 = (bif (decide ((List.length w3.S : Int) < w2.Wide)) then (bif (decide (List.length w3.S + List.length (byts [w2.Pad]) ≤ 4294967296)) then (ref2_Put_l1 n m0 w2 (ApiValue.mk w3.Kind w3.N (w3.S ++ (byts [w2.Pad])) w3.Fields)) else none) else (some (w3.S, 0))) := by kernel_rfl
theorem ref2_Put_l1_zero (n : Nat) (w2 : FixedField) (w3 : ApiValue) : ref2_Put_l1 n 0 w2 w3 = none := by kernel_rfl
theorem ref2_Put_eq (n : Nat) (x0 : FixedField) (x1 : ApiValue) : ref2_Put n x0 x1 = (bif (decide (x0.Kind = 0)) then (bif (!decide (x1.Kind = 5)) then (some ([], 8)) else (bif (decide ((List.length x1.S : Int) > x0.Wide)) then (some ([], 2)) else (Option.bind (hasSufO x1.S (byts [x0.Pad])) fun r1 => (bif r1 then (some ([], 18)) else (ref2_Put_l1 n n x0 x1))))) else (bif (!decide (x1.Kind = 2)) then (some ([], 8)) else (bif (decide (x1.N < 0)) then (bif (!x0.Signed) then (some ([], 11)) else (Option.bind (itoaO x1.N) fun r2 => (Option.bind (ref2_Places n x0) fun r3 => (bif (decide ((List.length (Go.Lib.trimPrefix r2 ([45] : List UInt8)) : Int) > r3)) then (some ([], 11)) else (Option.bind (ref2_shown n x0 x1.N) fun r4 => (bif (decide (x0.Kind = 1)) then (bif x0.Signed then (Option.bind (ref2_bit n (decide (x1.N < 0))) fun r5 => (bif (decide (0 ≤ r5) && decide (r5 < List.length ([[43], [45]] : List (List UInt8)))) then (bif (decide (List.length (List.getD ([[43], [45]] : List (List UInt8)) (Int.toNat r5) []) + List.length r4 ≤ 4294967296)) then (some (((List.getD ([[43], [45]] : List (List UInt8)) (Int.toNat r5) []) ++ r4), 0)) else none) else none)) else (some (r4, 0))) else (Option.bind (ref2_bit n (decide (x1.N < 0))) fun r6 => (bif (decide (0 ≤ r6) && decide (r6 < List.length ([[99], [100]] : List (List UInt8)))) then (bif (decide (List.length r4 + List.length (List.getD ([[99], [100]] : List (List UInt8)) (Int.toNat r6) []) ≤ 4294967296)) then (ref2_Put_l3 n n (r4 ++ (List.getD ([[99], [100]] : List (List UInt8)) (Int.toNat r6) [])) [] 0) else none) else none)))))))) else (Option.bind (itoaO x1.N) fun r8 => (Option.bind (ref2_Places n x0) fun r9 => (bif (decide ((List.length (Go.Lib.trimPrefix r8 ([45] : List UInt8)) : Int) > r9)) then (some ([], 11)) else (Option.bind (ref2_shown n x0 x1.N) fun r10 => (bif (decide (x0.Kind = 1)) then (bif x0.Signed then (Option.bind (ref2_bit n (decide (x1.N < 0))) fun r11 => (bif (decide (0 ≤ r11) && decide (r11 < List.length ([[43], [45]] : List (List UInt8)))) then (bif (decide (List.length (List.getD ([[43], [45]] : List (List UInt8)) (Int.toNat r11) []) + List.length r10 ≤ 4294967296)) then (some (((List.getD ([[43], [45]] : List (List UInt8)) (Int.toNat r11) []) ++ r10), 0)) else none) else none)) else (some (r10, 0))) else (Option.bind (ref2_bit n (decide (x1.N < 0))) fun r12 => (bif (decide (0 ≤ r12) && decide (r12 < List.length ([[99], [100]] : List (List UInt8)))) then (bif (decide (List.length r10 + List.length (List.getD ([[99], [100]] : List (List UInt8)) (Int.toNat r12) []) ≤ 4294967296)) then (ref2_Put_l3 n n (r10 ++ (List.getD ([[99], [100]] : List (List UInt8)) (Int.toNat r12) [])) [] 0) else none) else none)))))))))) := by kernel_rfl
noncomputable def C33 (n : Nat) : Call2 E := more tt gl H (C32 n) n 28 Tryz.f28 [.t (.nm 0), .t (.nm 1)] (C32 n)

/- clapperbridge/clapref2.Unput -/
noncomputable def ref2_Unput (n : Nat) (x0 : FixedField) (x1 : List UInt8) : Option (ApiValue × Bool) := F2 (E := E) tt gl H (C33 n) n 13 Tryz.f13 [.t (.nm 0), .t .str] (x0, x1, ())
noncomputable def ref2_Unput_l0 (n : Nat) (m0 : Nat) (v1 : List UInt8) (w2 : FixedField) (w4 : ApiValue) : Option (ApiValue × Bool) := lp (E := E) (ps := [.t (.nm 0), .t .str]) tt gl H (C33 n) n 13 Tryz.f13 [1, 0, 1, 0, 0, 0] [] m0 ⟨mkT 87 0 [(1, .t .str v1), (2, .ptr 2 (.nm 0) []), (4, .ptr 4 (.nm 1) [])], mkB 348 0 [(2, .var (.nm 0) (.t (.nm 0) w2)), (4, .var (.nm 1) (.t (.nm 1) w4))]⟩
noncomputable def ref2_Unput_l2 (n : Nat) (m0 : Nat) (v1 : List UInt8) (v6 : List UInt8) (v35 : List Int) (v36 : Int) (v37 : Int) (w2 : FixedField) (w4 : ApiValue) : Option (ApiValue × Bool) := lp (E := E) (ps := [.t (.nm 0), .t .str]) tt gl H (C33 n) n 13 Tryz.f13 [1, 1, 1, 0, 1, 0, 1, 0, 1, 0] [] m0 ⟨mkT 87 0 [(1, .t .str v1), (2, .ptr 2 (.nm 0) []), (4, .ptr 4 (.nm 1) []), (6, .t .str v6), (35, .t (.sl (.int .u8)) v35), (36, .t (.int .i64) v36), (37, .t (.int .i64) v37)], mkB 348 0 [(2, .var (.nm 0) (.t (.nm 0) w2)), (4, .var (.nm 1) (.t (.nm 1) w4))]⟩
theorem ref2_Unput_l2_eq (n : Nat) (m0 : Nat) (v1 : List UInt8) (v6 : List UInt8) (v35 : List Int) (v36 : Int) (v37 : Int) (w2 : FixedField) (w4 : ApiValue) : ref2_Unput_l2 n (m0 + 1) v1 v6 v35 v36 v37 w2 w4 = (bif (decide (v37 < v36)) then (bif (decide (0 ≤ v37) && decide (v37 < List.length v35)) then (Option.bind (strconv_FormatInt n (IntKind.wrap .i64 ((256 : Int) + (IntKind.wrap .i64 (List.getD v35 (Int.toNat v37) (0 : Int))))) 16) fun r2 => (bif (decide (0 ≤ (1 : Int)) && decide ((1 : Int) ≤ (List.length r2))) then (bif (decide (List.length v6 + List.length (List.drop (Int.toNat (1 : Int)) r2) ≤ 4294967296)) then (ref2_Unput_l2 n m0 v1 (v6 ++ (List.drop (Int.toNat (1 : Int)) r2)) v35 v36 (IntKind.wrap .i64 (v37 + 1)) w2 w4) else none) else none)) else none) else (bif (decide (0 ≤ (IntKind.wrap .i64 ((List.length v6 : Int) - 1))) && decide ((IntKind.wrap .i64 ((List.length v6 : Int) - 1)) ≤ (List.length v6))) then (bif (decide (0 ≤ (IntKind.wrap .i64 ((List.length v6 : Int) - 1))) && decide ((IntKind.wrap .i64 ((List.length v6 : Int) - 1)) ≤ (List.length v6))) then (bif (decide (List.length (@id (List UInt8) (mgetD E .str .str (insS (V := E.D .str) [100] [45] (insS (V := E.D .str) [99] [43] [])) (List.drop (Int.toNat (IntKind.wrap .i64 ((List.length v6 : Int) - 1))) v6))) + List.length (List.take (Int.toNat (IntKind.wrap .i64 ((List.length v6 : Int) - 1))) v6) ≤ 4294967296)) then (Option.bind (parseO ((@id (List UInt8) (mgetD E .str .str (insS (V := E.D .str) [100] [45] (insS (V := E.D .str) [99] [43] [])) (List.drop (Int.toNat (IntKind.wrap .i64 ((List.length v6 : Int) - 1))) v6))) ++ (List.take (Int.toNat (IntKind.wrap .i64 ((List.length v6 : Int) - 1))) v6)) 10 64) fun r3 => (bif (!r3.2) then (some ((ApiValue.mk 0 0 [] []), false)) else (Option.bind (ref2_Put n w2 (ApiValue.mk 2 r3.1 [] [])) fun r4 => (bif (decide (r4.2 = 0)) then (some ((ApiValue.mk 2 r3.1 [] []), (r4.1 == v1))) else (some ((ApiValue.mk 2 r3.1 [] []), false)))))) else none) else none) else none)) := by kernel_rfl
theorem ref2_Unput_l2_zero (n : Nat) (v1 : List UInt8) (v6 : List UInt8) (v35 : List Int) (v36 : Int) (v37 : Int) (w2 : FixedField) (w4 : ApiValue) : ref2_Unput_l2 n 0 v1 v6 v35 v36 v37 w2 w4 = none := by kernel_rfl
theorem ref2_Unput_l2_fold (n : Nat) (v1 : List UInt8) (v35 : List Int) (w2 : FixedField) (w4 : ApiValue) (v6 : List UInt8) (hl : List.length v35 < 9223372036854775807) (m i : Nat) (hi : i ≤ List.length v35) (hm : List.length v35 - i < m) : ref2_Unput_l2 n m v1 v6 v35 (List.length v35 : Int) (i : Int) w2 w4 = foldK (S := (List UInt8)) (fun i (a : Int) s K => (Option.bind (strconv_FormatInt n (IntKind.wrap .i64 ((256 : Int) + (IntKind.wrap .i64 a))) 16) fun r2 => (bif (decide (0 ≤ (1 : Int)) && decide ((1 : Int) ≤ (List.length r2))) then (bif (decide (List.length s + List.length (List.drop (Int.toNat (1 : Int)) r2) ≤ 4294967296)) then (K (s ++ (List.drop (Int.toNat (1 : Int)) r2))) else none) else none))) (fun s => (bif (decide (0 ≤ (IntKind.wrap .i64 ((List.length s : Int) - 1))) && decide ((IntKind.wrap .i64 ((List.length s : Int) - 1)) ≤ (List.length s))) then (bif (decide (0 ≤ (IntKind.wrap .i64 ((List.length s : Int) - 1))) && decide ((IntKind.wrap .i64 ((List.length s : Int) - 1)) ≤ (List.length s))) then (bif (decide (List.length (@id (List UInt8) (mgetD E .str .str (insS (V := E.D .str) [100] [45] (insS (V := E.D .str) [99] [43] [])) (List.drop (Int.toNat (IntKind.wrap .i64 ((List.length s : Int) - 1))) s))) + List.length (List.take (Int.toNat (IntKind.wrap .i64 ((List.length s : Int) - 1))) s) ≤ 4294967296)) then (Option.bind (parseO ((@id (List UInt8) (mgetD E .str .str (insS (V := E.D .str) [100] [45] (insS (V := E.D .str) [99] [43] [])) (List.drop (Int.toNat (IntKind.wrap .i64 ((List.length s : Int) - 1))) s))) ++ (List.take (Int.toNat (IntKind.wrap .i64 ((List.length s : Int) - 1))) s)) 10 64) fun r3 => (bif (!r3.2) then (some ((ApiValue.mk 0 0 [] []), false)) else (Option.bind (ref2_Put n w2 (ApiValue.mk 2 r3.1 [] [])) fun r4 => (bif (decide (r4.2 = 0)) then (some ((ApiValue.mk 2 r3.1 [] []), (r4.1 == v1))) else (some ((ApiValue.mk 2 r3.1 [] []), false)))))) else none) else none) else none)) (List.drop i v35) i (v6) := range_loop v35 (0 : Int) hl (fun m (k : Int) (s : (List UInt8)) => ref2_Unput_l2 n m v1 s v35 (List.length v35 : Int) k w2 w4) _ _ (fun m i s => (ref2_Unput_l2_eq n m v1 s v35 (List.length v35 : Int) (i : Int) w2 w4).trans (by kernel_rfl)) m i hi hm (v6)
theorem ref2_Unput_l0_eq (n : Nat) (m0 : Nat) (v1 : List UInt8) (w2 : FixedField) (w4 : ApiValue) : ref2_Unput_l0 n (m0 + 1) v1 w2 w4 = (Option.bind (hasSufO v1 (byts [w2.Pad])) fun r1 => (bif r1 then (bif (decide (0 ≤ (IntKind.wrap .i64 ((List.length v1 : Int) - 1))) && decide ((IntKind.wrap .i64 ((List.length v1 : Int) - 1)) ≤ (List.length v1))) then (ref2_Unput_l0 n m0 (List.take (Int.toNat (IntKind.wrap .i64 ((List.length v1 : Int) - 1))) v1) w2 w4) else none) else (some ((ApiValue.mk 5 0 v1 []), true)))) := by kernel_rfl
theorem ref2_Unput_l0_zero (n : Nat) (v1 : List UInt8) (w2 : FixedField) (w4 : ApiValue) : ref2_Unput_l0 n 0 v1 w2 w4 = none := by kernel_rfl
theorem ref2_Unput_eq (n : Nat) (x0 : FixedField) (x1 : List UInt8) : ref2_Unput n x0 x1 = (bif (decide (x0.Kind = 0)) then (ref2_Unput_l0 n n x1 x0 (ApiValue.mk 0 0 [] [])) else (bif (decide (x0.Kind = 2)) then (ref2_Unput_l2 n n x1 [] (ints x1) (List.length (ints x1) : Int) 0 x0 (ApiValue.mk 0 0 [] [])) else (Option.bind (parseO x1 10 64) fun r5 => (bif (!r5.2) then (some ((ApiValue.mk 0 0 [] []), false)) else (Option.bind (ref2_Put n x0 (ApiValue.mk 2 r5.1 [] [])) fun r6 => (bif (decide (r6.2 = 0)) then (some ((ApiValue.mk 2 r5.1 [] []), (r6.1 == x1))) else (some ((ApiValue.mk 2 r5.1 [] []), false)))))))) := by kernel_rfl
noncomputable def C34 (n : Nat) : Call2 E := more tt gl H (C33 n) n 13 Tryz.f13 [.t (.nm 0), .t .str] (C33 n)

/- clapperbridge/clapref2.Unrecorded -/
noncomputable def ref2_Unrecorded (n : Nat) (x0 : List FixedField) (x1 : List Int) : Option (ApiValue × Int × Int) := F2 (E := E) tt gl H (C34 n) n 5 Tryz.f5 [.t (.sl (.nm 0)), .t (.sl (.int .u8))] (x0, x1, ())
noncomputable def ref2_Unrecorded_l0 (n : Nat) (m0 : Nat) (v1 : List Int) (v26 : List FixedField) (v27 : Int) (v28 : Int) (w4 : ApiValue) (w8_0 : Int) (w8_1 : Int) (w8_2 : List UInt8) (w8_3 : List ApiField) : Option (ApiValue × Int × Int) := lp (E := E) (ps := [.t (.sl (.nm 0)), .t (.sl (.int .u8))]) tt gl H (C34 n) n 5 Tryz.f5 [1, 1, 1, 1, 0, 1, 0] [] m0 ⟨mkT 63 0 [(1, .t (.sl (.int .u8)) v1), (4, .ptr 4 (.nm 1) []), (8, .ptr 8 (.nm 1) []), (26, .t (.sl (.nm 0)) v26), (27, .t (.int .i64) v27), (28, .t (.int .i64) v28)], mkB 252 0 [(4, .var (.nm 1) (.t (.nm 1) w4)), (8, .var (.nm 1) (.agg [.t (.int .i64) w8_0, .t (.int .i64) w8_1, .t .str w8_2, .sl 251 (.nm 2) w8_3])), (251, .grow (.nm 2) (List.length w8_3))]⟩
theorem ref2_Unrecorded_l0_eq (n : Nat) (m0 : Nat) (v1 : List Int) (v26 : List FixedField) (v27 : Int) (v28 : Int) (w4 : ApiValue) (w8_0 : Int) (w8_1 : Int) (w8_2 : List UInt8) (w8_3 : List ApiField) : ref2_Unrecorded_l0 n (m0 + 1) v1 v26 v27 v28 w4 w8_0 w8_1 w8_2 w8_3 = (bif (decide (v28 < v27)) then (bif (decide (0 ≤ v28) && decide (v28 < List.length v26)) then (bif (decide (0 ≤ ((List.getD v26 (Int.toNat v28) (FixedField.mk [] 0 0 0 0 false 0)).At)) && decide (((List.getD v26 (Int.toNat v28) (FixedField.mk [] 0 0 0 0 false 0)).At) ≤ (IntKind.wrap .i64 (((List.getD v26 (Int.toNat v28) (FixedField.mk [] 0 0 0 0 false 0)).At) + ((List.getD v26 (Int.toNat v28) (FixedField.mk [] 0 0 0 0 false 0)).Wide)))) && decide ((IntKind.wrap .i64 (((List.getD v26 (Int.toNat v28) (FixedField.mk [] 0 0 0 0 false 0)).At) + ((List.getD v26 (Int.toNat v28) (FixedField.mk [] 0 0 0 0 false 0)).Wide))) ≤ (List.length v1))) then (Option.bind (ref2_Unput n (List.getD v26 (Int.toNat v28) (FixedField.mk [] 0 0 0 0 false 0)) (byts (List.drop (Int.toNat ((List.getD v26 (Int.toNat v28) (FixedField.mk [] 0 0 0 0 false 0)).At)) (List.take (Int.toNat (IntKind.wrap .i64 (((List.getD v26 (Int.toNat v28) (FixedField.mk [] 0 0 0 0 false 0)).At) + ((List.getD v26 (Int.toNat v28) (FixedField.mk [] 0 0 0 0 false 0)).Wide)))) v1)))) fun r3 => (bif (!r3.2) then (some ((ApiValue.mk 0 0 [] []), v28, 14)) else (bif (decide ((List.length w8_3) = List.length w8_3) && decide (List.length w8_3 + List.length ([(ApiField.mk ((List.getD v26 (Int.toNat v28) (FixedField.mk [] 0 0 0 0 false 0)).Name) r3.1)] : List ApiField) ≤ 4294967296)) then (ref2_Unrecorded_l0 n m0 v1 v26 v27 (IntKind.wrap .i64 (v28 + 1)) w4 w8_0 w8_1 w8_2 (w8_3 ++ [(ApiField.mk ((List.getD v26 (Int.toNat v28) (FixedField.mk [] 0 0 0 0 false 0)).Name) r3.1)])) else none))) else none) else none) else (some ((ApiValue.mk w8_0 w8_1 w8_2 w8_3), 0, 0))) := by kernel_rfl
theorem ref2_Unrecorded_l0_zero (n : Nat) (v1 : List Int) (v26 : List FixedField) (v27 : Int) (v28 : Int) (w4 : ApiValue) (w8_0 : Int) (w8_1 : Int) (w8_2 : List UInt8) (w8_3 : List ApiField) : ref2_Unrecorded_l0 n 0 v1 v26 v27 v28 w4 w8_0 w8_1 w8_2 w8_3 = none := by kernel_rfl
theorem ref2_Unrecorded_l0_fold (n : Nat) (v1 : List Int) (v26 : List FixedField) (w4 : ApiValue) (w8_0 : Int) (w8_1 : Int) (w8_2 : List UInt8) (w8_3 : List ApiField) (hl : List.length v26 < 9223372036854775807) (m i : Nat) (hi : i ≤ List.length v26) (hm : List.length v26 - i < m) : ref2_Unrecorded_l0 n m v1 v26 (List.length v26 : Int) (i : Int) w4 w8_0 w8_1 w8_2 w8_3 = foldK (S := (List ApiField)) (fun i (a : FixedField) s K => (bif (decide (0 ≤ (a.At)) && decide ((a.At) ≤ (IntKind.wrap .i64 ((a.At) + (a.Wide)))) && decide ((IntKind.wrap .i64 ((a.At) + (a.Wide))) ≤ (List.length v1))) then (Option.bind (ref2_Unput n a (byts (List.drop (Int.toNat (a.At)) (List.take (Int.toNat (IntKind.wrap .i64 ((a.At) + (a.Wide)))) v1)))) fun r3 => (bif (!r3.2) then (some ((ApiValue.mk 0 0 [] []), (i : Int), 14)) else (bif (decide ((List.length s) = List.length s) && decide (List.length s + List.length ([(ApiField.mk (a.Name) r3.1)] : List ApiField) ≤ 4294967296)) then (K (s ++ [(ApiField.mk (a.Name) r3.1)])) else none))) else none)) (fun s => (some ((ApiValue.mk w8_0 w8_1 w8_2 s), 0, 0))) (List.drop i v26) i (w8_3) := range_loop v26 (FixedField.mk [] 0 0 0 0 false 0) hl (fun m (k : Int) (s : (List ApiField)) => ref2_Unrecorded_l0 n m v1 v26 (List.length v26 : Int) k w4 w8_0 w8_1 w8_2 s) _ _ (fun m i s => (ref2_Unrecorded_l0_eq n m v1 v26 (List.length v26 : Int) (i : Int) w4 w8_0 w8_1 w8_2 s).trans (by kernel_rfl)) m i hi hm (w8_3)
theorem ref2_Unrecorded_eq (n : Nat) (x0 : List FixedField) (x1 : List Int) : ref2_Unrecorded n x0 x1 = (Option.bind (ref2_FieldsErr n x0) fun r1 => (bif (!decide (r1 = 0)) then (some ((ApiValue.mk 0 0 [] []), 0, r1)) else (Option.bind (ref2_Breadth n x0) fun r2 => (bif (!decide ((List.length x1 : Int) = r2)) then (some ((ApiValue.mk 0 0 [] []), 0, 13)) else (ref2_Unrecorded_l0 n n x1 x0 (List.length x0 : Int) 0 (ApiValue.mk 0 0 [] []) 6 0 [] []))))) := by kernel_rfl
noncomputable def C35 (n : Nat) : Call2 E := more tt gl H (C34 n) n 5 Tryz.f5 [.t (.sl (.nm 0)), .t (.sl (.int .u8))] (C34 n)
/-! strconv.FormatUint at base 10. -/
section
open Go.Shelf Go.RowKit Go.Sort Go.Lib
def und56_ren : Go.Shelf.Ren := ⟨fun | 284 => 76 | 129 => 91 | 317 => 90 | 318 => 92 | n => n, fun | 53 => 67 | 3 => 3 | 212 => 125 | 0 => 0 | 4 => 4 | 46 => 75 | 5 => 5 | 9 => 9 | n => n, fun | 17 => 3 | n => n⟩
theorem und56 : Go.Proofs.LaysM.n284 Tryz.prog und56_ren := {
  mixed := by kernel_rfl
  f129 := Tryz.func91.trans (congrArg some (by kernel_rfl))
  f284 := Tryz.func76.trans (congrArg some (by kernel_rfl))
  f317 := Tryz.func90.trans (congrArg some (by kernel_rfl))
  f318 := Tryz.func92.trans (congrArg some (by kernel_rfl))
  t0 := Tryz.underlying0
  a0 := Tryz.isAgg0
  z0 := Tryz.sizeOf0
  v0 := Tryz.zeroValue0
  t3 := Tryz.underlying3
  a3 := Tryz.isAgg3
  z3 := Tryz.sizeOf3
  v3 := Tryz.zeroValue3
  t4 := Tryz.underlying4
  a4 := Tryz.isAgg4
  z4 := Tryz.sizeOf4
  v4 := Tryz.zeroValue4
  t5 := Tryz.underlying5
  a5 := Tryz.isAgg5
  z5 := Tryz.sizeOf5
  v5 := Tryz.zeroValue5
  t9 := Tryz.underlying9
  a9 := Tryz.isAgg9
  z9 := Tryz.sizeOf9
  v9 := Tryz.zeroValue9
  t46 := Tryz.underlying75
  a46 := Tryz.isAgg75
  z46 := Tryz.sizeOf75
  v46 := Tryz.zeroValue75
  t53 := Tryz.underlying67
  a53 := Tryz.isAgg67
  z53 := Tryz.sizeOf67
  v53 := Tryz.zeroValue67
  t212 := Tryz.underlying125
  a212 := Tryz.isAgg125
  z212 := Tryz.sizeOf125
  v212 := Tryz.zeroValue125
  g17 := by kernel_rfl
  i0 := by kernel_rfl
  i3 := by kernel_rfl
  i4 := by kernel_rfl
  i5 := by kernel_rfl
  i9 := by kernel_rfl
  i46 := by kernel_rfl
  i53 := by kernel_rfl
  i212 := by kernel_rfl
  m17 := by kernel_rfl }
def usm56_ren : Go.Shelf.Ren := ⟨fun | 283 => 75 | n => n, fun | 3 => 3 | 9 => 9 | 4 => 4 | n => n, fun | n => n⟩
theorem usm56 : Go.Proofs.Lays.n283 Tryz.prog usm56_ren := {
  mixed := by kernel_rfl
  f283 := Tryz.func75.trans (congrArg some (by kernel_rfl))
  t3 := Tryz.underlying3
  a3 := Tryz.isAgg3
  z3 := Tryz.sizeOf3
  v3 := Tryz.zeroValue3
  t4 := Tryz.underlying4
  a4 := Tryz.isAgg4
  z4 := Tryz.sizeOf4
  v4 := Tryz.zeroValue4
  t9 := Tryz.underlying9
  a9 := Tryz.isAgg9
  z9 := Tryz.sizeOf9
  v9 := Tryz.zeroValue9 }
def ufb56_ren : Go.Shelf.Ren := ⟨fun | 285 => 77 | n => n, fun | 37 => 23 | 53 => 67 | 3 => 3 | 4 => 4 | 51 => 114 | 9 => 9 | 5 => 5 | 0 => 0 | n => n, fun | n => n⟩
theorem ufb56 : Go.Proofs.Lays.n285 Tryz.prog ufb56_ren := {
  mixed := by kernel_rfl
  f285 := Tryz.func77.trans (congrArg some (by kernel_rfl))
  t0 := Tryz.underlying0
  a0 := Tryz.isAgg0
  z0 := Tryz.sizeOf0
  v0 := Tryz.zeroValue0
  t3 := Tryz.underlying3
  a3 := Tryz.isAgg3
  z3 := Tryz.sizeOf3
  v3 := Tryz.zeroValue3
  t4 := Tryz.underlying4
  a4 := Tryz.isAgg4
  z4 := Tryz.sizeOf4
  v4 := Tryz.zeroValue4
  t5 := Tryz.underlying5
  a5 := Tryz.isAgg5
  z5 := Tryz.sizeOf5
  v5 := Tryz.zeroValue5
  t9 := Tryz.underlying9
  a9 := Tryz.isAgg9
  z9 := Tryz.sizeOf9
  v9 := Tryz.zeroValue9
  t37 := Tryz.underlying23
  a37 := Tryz.isAgg23
  z37 := Tryz.sizeOf23
  v37 := Tryz.zeroValue23
  t51 := Tryz.underlying114
  a51 := Tryz.isAgg114
  z51 := Tryz.sizeOf114
  v51 := Tryz.zeroValue114
  t53 := Tryz.underlying67
  a53 := Tryz.isAgg67
  z53 := Tryz.sizeOf67
  v53 := Tryz.zeroValue67 }
theorem umix56 : Tryz.prog.follows .mixedOrders = true := by kernel_rfl
theorem uHold56 (w : World) (T : TypeId) (nd : Nat) (hs : nd ≤ 24) : Holds (fun (b : UInt8) => Value.int .u8 (b.toNat : Int)) (w.alloc (.cells Lib.zeros24 T)) w.heap.size 0 (Array.replicate nd (0 : UInt8)) := fun j hj => by
  have hj' : j < nd := by simpa using hj
  refine ⟨?_, World.frozen?_alloc_new _ _ _ _⟩
  rw [World.cell?_alloc_new, Nat.zero_add, Lib.zeros24_at _ (by omega), getElem!_pos _ j hj]
  simp
theorem uFin56 (w : World) (o : Obj) (dk : Array UInt8) (k : Nat) : ∃ os, (putRow (fun (b : UInt8) => Value.int .u8 (b.toNat : Int)) (w.alloc o) w.heap.size 0 dk).drewN k = grow (w.drewN k) os := by
  rw [alloc_eq_grow]
  obtain ⟨os', _, e⟩ := putRow_grow_new (fun (b : UInt8) => Value.int .u8 (b.toNat : Int)) w #[o] w.heap.size 0 dk (Nat.le_refl _)
  exact ⟨os', by rw [e]; rfl⟩
set_option maxHeartbeats 6400000 in
set_option maxRecDepth 100000 in
theorem fmtuI56 (u : Nat) (hu64 : u < 18446744073709551616) (w : World) (htab : Lib.TabIs Tryz.prog w "internal/strconv.uint64pow10" .u64 Lib.pow10Tab) :
    Calls Tryz.prog 56 #[.int .u64 u, .int .i64 10] w fun e w' => e = .returned (.string ⟨(Lib.decDigits u).toArray⟩) ∧ ∃ k os, w' = grow (w.drewN k) os := by
  have mixed := umix56
  by_cases hs : u < 100
  · have hwr : IntKind.i64.wrap (u : Int) = (u : Int) := by rw [IntKind.wrap_i64]; omega
    go_enter Tryz.func56, Tryz.ntmps56
    go_wp2_with (go_at_call 75; refine (Any.internal_strconv_small usm56 u hs _).mono ?_; rintro e w' ⟨rfl, rfl⟩)
    go_ret
    exact ⟨rfl, 0, #[], by simp [World.drewN_zero]⟩
  · have hu1 : 1 ≤ u := by omega
    have hnd20 : Lib.nDigits u ≤ 20 := by have := Lib.numDigits_eq u hu1 hu64; split at this <;> omega
    have hal : Tryz.prog.arrayLen 109 = 24 := by kernel_rfl
    have hsl1 : ∀ W, (Instr.sliceAt 109 (.pointer (some ⟨w.heap.size, 0, none⟩)) none (some (.int .i64 (Lib.nDigits u : Int))) none).run Tryz.prog W = .ok (.slice (some ⟨w.heap.size, 0, none⟩) (Lib.nDigits u) 24) W := fun W => by
      rw [run_sliceAt_array_h W 109 ⟨w.heap.size, 0, none⟩ (by simp [Program.arrayLen, Program.elem, Tryz.underlying109]) .i64 (Lib.nDigits u : Int) (by omega) (by rw [hal]; omega)]
      go_simp
    have hH0 := uHold56 w 109 (Lib.nDigits u) (by omega)
    have hfmt := Any.internal_strconv_formatBase10 ufb56 w.heap.size 0 24 u (Array.replicate (Lib.nDigits u) 0) (w.alloc (.cells Lib.zeros24 109)) hH0 (by rw [Array.size_replicate]; exact Lib.lt_pow_nDigits u) hu64 (by rw [Array.size_replicate]; omega)
    rw [Array.size_replicate] at hfmt
    have HH0 := Lib.hid hH0
    clear hH0 hal
    go_enter Tryz.func56, Tryz.ntmps56
    go_wp2_with (go_at_call 76; refine (Any.internal_strconv_numDigits und56 u hu1 hu64 _ (Lib.tabIs_alloc htab _)).mono ?_; rintro e w' ⟨rfl, rfl⟩)
    go_at_call 77
    refine hfmt.mono ?_
    rintro e w' ⟨rfl, k, v', dk, rfl, hF⟩
    have hcv : (convert 23 9 (.slice (some ⟨w.heap.size, 0, none⟩) (Lib.nDigits u) 24)).run Tryz.prog ((putRow (fun (b : UInt8) => Value.int .u8 (b.toNat : Int)) (w.alloc (.cells Lib.zeros24 109)) w.heap.size 0 dk).drewN k) = .ok (.string ⟨(Lib.decDigits u).toArray⟩) ((putRow (fun (b : UInt8) => Value.int .u8 (b.toNat : Int)) (w.alloc (.cells Lib.zeros24 109)) w.heap.size 0 dk).drewN k) := by
      have h := run_convert_bytes_back (P := Tryz.prog) ((putRow (fun (b : UInt8) => Value.int .u8 (b.toNat : Int)) (w.alloc (.cells Lib.zeros24 109)) w.heap.size 0 dk).drewN k) 23 9 5 ⟨w.heap.size, 0, none⟩ 24 (Lib.decDigits u) Tryz.underlying23 Tryz.underlying5 Tryz.underlying9 (fun j hj => by
        rw [Lib.row_is_numeral hF j hj, Lib.add_plain, World.cell?_drewN]
        exact cell?_putRow (fun (b : UInt8) => Value.int .u8 (b.toNat : Int)) _ w.heap.size 0 _ dk HH0.out (by rw [hF.size, Array.size_replicate]) j (by rw [hF.size]; rw [Lib.decDigits_length] at hj; exact hj))
      rw [Lib.decDigits_length] at h
      exact h
    go_wp2
    go_ret
    obtain ⟨os, eo⟩ := uFin56 w (.cells Lib.zeros24 109) dk k
    exact ⟨rfl, k, os, eo⟩
set_option maxRecDepth 100000 in
theorem fmtu29 (u : Nat) (hu64 : u < 18446744073709551616) (w : World) (htab : Lib.TabIs Tryz.prog w "internal/strconv.uint64pow10" .u64 Lib.pow10Tab) :
    Calls Tryz.prog 29 #[.int .u64 u, .int .i64 10] w fun e w' => e = .returned (.string ⟨(Lib.decDigits u).toArray⟩) ∧ ∃ k os, w' = grow (w.drewN k) os := by
  go_enter Tryz.func29, Tryz.ntmps29
  go_wp2_with (go_at_call 56; refine (fmtuI56 u hu64 _ htab).mono ?_; rintro e w' ⟨rfl, k, os, rfl⟩)
  go_ret
  exact ⟨rfl, k, os, rfl⟩
end

theorem fnok29 : FnOK Tryz.prog 29 := ⟨Tryz.f29, _, Tryz.func29, by decide, rfl⟩
noncomputable def C36 (n : Nat) : Call2 E := moreP 29 [(.int .u64), (.int .i64)] .str (fun x => fmtuO x.1 x.2.1) (C35 n)

/- clapperbridge/fixed.Shown -/
noncomputable def fixed_Shown (n : Nat) (x0 : Int) (x1 : Int) : Option (List UInt8) := F2 (E := E) tt gl H (C36 n) n 14 Tryz.f14 [.t (.int .i64), .t (.int .i64)] (x0, x1, ())
theorem fixed_Shown_eq (n : Nat) (x0 : Int) (x1 : Int) : fixed_Shown n x0 x1 = (Option.bind (fmtuO (IntKind.wrap .u64 (mxI x0 (IntKind.wrap .i64 (0 - x0)))) 10) fun r1 => (bif (decide ((List.length r1 : Int) ≤ (mxI (0 : Int) (mnI (15 : Int) x1)))) then (Option.bind (repO ([48] : List UInt8) (IntKind.wrap .i64 ((IntKind.wrap .i64 ((mxI (0 : Int) (mnI (15 : Int) x1)) + 1)) - (List.length r1 : Int)))) fun r2 => (bif (decide (List.length r2 + List.length r1 ≤ 4294967296)) then (bif (decide ((mxI (0 : Int) (mnI (15 : Int) x1)) > 0)) then (bif (decide (0 ≤ (IntKind.wrap .i64 ((List.length (r2 ++ r1) : Int) - (mxI (0 : Int) (mnI (15 : Int) x1))))) && decide ((IntKind.wrap .i64 ((List.length (r2 ++ r1) : Int) - (mxI (0 : Int) (mnI (15 : Int) x1)))) ≤ (List.length (r2 ++ r1)))) then (bif (decide (List.length (List.take (Int.toNat (IntKind.wrap .i64 ((List.length (r2 ++ r1) : Int) - (mxI (0 : Int) (mnI (15 : Int) x1))))) (r2 ++ r1)) + List.length [46] ≤ 4294967296)) then (bif (decide (0 ≤ (IntKind.wrap .i64 ((List.length (r2 ++ r1) : Int) - (mxI (0 : Int) (mnI (15 : Int) x1))))) && decide ((IntKind.wrap .i64 ((List.length (r2 ++ r1) : Int) - (mxI (0 : Int) (mnI (15 : Int) x1)))) ≤ (List.length (r2 ++ r1)))) then (bif (decide (List.length ((List.take (Int.toNat (IntKind.wrap .i64 ((List.length (r2 ++ r1) : Int) - (mxI (0 : Int) (mnI (15 : Int) x1))))) (r2 ++ r1)) ++ [46]) + List.length (List.drop (Int.toNat (IntKind.wrap .i64 ((List.length (r2 ++ r1) : Int) - (mxI (0 : Int) (mnI (15 : Int) x1))))) (r2 ++ r1)) ≤ 4294967296)) then (bif (decide (x0 < 0)) then (bif (decide (List.length ([45] : List UInt8) + List.length (((List.take (Int.toNat (IntKind.wrap .i64 ((List.length (r2 ++ r1) : Int) - (mxI (0 : Int) (mnI (15 : Int) x1))))) (r2 ++ r1)) ++ [46]) ++ (List.drop (Int.toNat (IntKind.wrap .i64 ((List.length (r2 ++ r1) : Int) - (mxI (0 : Int) (mnI (15 : Int) x1))))) (r2 ++ r1))) ≤ 4294967296)) then (some (([45] : List UInt8) ++ (((List.take (Int.toNat (IntKind.wrap .i64 ((List.length (r2 ++ r1) : Int) - (mxI (0 : Int) (mnI (15 : Int) x1))))) (r2 ++ r1)) ++ [46]) ++ (List.drop (Int.toNat (IntKind.wrap .i64 ((List.length (r2 ++ r1) : Int) - (mxI (0 : Int) (mnI (15 : Int) x1))))) (r2 ++ r1))))) else none) else (some (((List.take (Int.toNat (IntKind.wrap .i64 ((List.length (r2 ++ r1) : Int) - (mxI (0 : Int) (mnI (15 : Int) x1))))) (r2 ++ r1)) ++ [46]) ++ (List.drop (Int.toNat (IntKind.wrap .i64 ((List.length (r2 ++ r1) : Int) - (mxI (0 : Int) (mnI (15 : Int) x1))))) (r2 ++ r1))))) else none) else none) else none) else none) else (bif (decide (x0 < 0)) then (bif (decide (List.length ([45] : List UInt8) + List.length (r2 ++ r1) ≤ 4294967296)) then (some (([45] : List UInt8) ++ (r2 ++ r1))) else none) else (some (r2 ++ r1)))) else none)) else (bif (decide ((mxI (0 : Int) (mnI (15 : Int) x1)) > 0)) then (bif (decide (0 ≤ (IntKind.wrap .i64 ((List.length r1 : Int) - (mxI (0 : Int) (mnI (15 : Int) x1))))) && decide ((IntKind.wrap .i64 ((List.length r1 : Int) - (mxI (0 : Int) (mnI (15 : Int) x1)))) ≤ (List.length r1))) then (bif (decide (List.length (List.take (Int.toNat (IntKind.wrap .i64 ((List.length r1 : Int) - (mxI (0 : Int) (mnI (15 : Int) x1))))) r1) + List.length [46] ≤ 4294967296)) then (bif (decide (0 ≤ (IntKind.wrap .i64 ((List.length r1 : Int) - (mxI (0 : Int) (mnI (15 : Int) x1))))) && decide ((IntKind.wrap .i64 ((List.length r1 : Int) - (mxI (0 : Int) (mnI (15 : Int) x1)))) ≤ (List.length r1))) then (bif (decide (List.length ((List.take (Int.toNat (IntKind.wrap .i64 ((List.length r1 : Int) - (mxI (0 : Int) (mnI (15 : Int) x1))))) r1) ++ [46]) + List.length (List.drop (Int.toNat (IntKind.wrap .i64 ((List.length r1 : Int) - (mxI (0 : Int) (mnI (15 : Int) x1))))) r1) ≤ 4294967296)) then (bif (decide (x0 < 0)) then (bif (decide (List.length ([45] : List UInt8) + List.length (((List.take (Int.toNat (IntKind.wrap .i64 ((List.length r1 : Int) - (mxI (0 : Int) (mnI (15 : Int) x1))))) r1) ++ [46]) ++ (List.drop (Int.toNat (IntKind.wrap .i64 ((List.length r1 : Int) - (mxI (0 : Int) (mnI (15 : Int) x1))))) r1)) ≤ 4294967296)) then (some (([45] : List UInt8) ++ (((List.take (Int.toNat (IntKind.wrap .i64 ((List.length r1 : Int) - (mxI (0 : Int) (mnI (15 : Int) x1))))) r1) ++ [46]) ++ (List.drop (Int.toNat (IntKind.wrap .i64 ((List.length r1 : Int) - (mxI (0 : Int) (mnI (15 : Int) x1))))) r1)))) else none) else (some (((List.take (Int.toNat (IntKind.wrap .i64 ((List.length r1 : Int) - (mxI (0 : Int) (mnI (15 : Int) x1))))) r1) ++ [46]) ++ (List.drop (Int.toNat (IntKind.wrap .i64 ((List.length r1 : Int) - (mxI (0 : Int) (mnI (15 : Int) x1))))) r1)))) else none) else none) else none) else none) else (bif (decide (x0 < 0)) then (bif (decide (List.length ([45] : List UInt8) + List.length r1 ≤ 4294967296)) then (some (([45] : List UInt8) ++ r1)) else none) else (some r1))))) := by kernel_rfl
noncomputable def C37 (n : Nat) : Call2 E := more tt gl H (C36 n) n 14 Tryz.f14 [.t (.int .i64), .t (.int .i64)] (C36 n)

/- clapperbridge/claplaw2.widths -/
noncomputable def law2_widths (n : Nat) : Option Bool := F2 (E := E) tt gl H (C37 n) n 6 Tryz.f6 [] (())
theorem law2_widths_eq (n : Nat) : law2_widths n = (Option.bind (fixed_Shown n (-5) 2) fun r1 => (bif (r1 == [45, 48, 46, 48, 53]) then (Option.bind (fixed_Shown n 7 0) fun r2 => (some (r2 == [55]))) else (some false))) := by kernel_rfl
noncomputable def C38 (n : Nat) : Call2 E := more tt gl H (C37 n) n 6 Tryz.f6 [] (C37 n)

/- clapperbridge/value.order -/
noncomputable def value_order (n : Nat) (x0 : Int) : Option Int := F2 (E := E) tt gl H (C38 n) n 31 Tryz.f31 [.t (.int .i64)] (x0, ())
theorem value_order_eq (n : Nat) (x0 : Int) : value_order n x0 = (bif (decide (x0 < 0)) then (some (IntKind.wrap .i64 ((-1 : Int) - (Fv.bits .and .i64 x0 9223372036854775807)))) else (some x0)) := by kernel_rfl
noncomputable def C39 (n : Nat) : Call2 E := more tt gl H (C38 n) n 31 Tryz.f31 [.t (.int .i64)] (C38 n)

/- cmp.isNaN[int] -/
noncomputable def cmp_isNaN_int (n : Nat) (x0 : Int) : Option Bool := F2 (E := E) tt gl H (C39 n) n 63 Tryz.f63 [.t (.int .i64)] (x0, ())
theorem cmp_isNaN_int_eq (n : Nat) (x0 : Int) : cmp_isNaN_int n x0 = (some (!decide (x0 = x0))) := by kernel_rfl
noncomputable def C40 (n : Nat) : Call2 E := more tt gl H (C39 n) n 63 Tryz.f63 [.t (.int .i64)] (C39 n)

/- cmp.Compare[int] -/
noncomputable def cmp_Compare_int (n : Nat) (x0 : Int) (x1 : Int) : Option Int := F2 (E := E) tt gl H (C40 n) n 33 Tryz.f33 [.t (.int .i64), .t (.int .i64)] (x0, x1, ())
theorem cmp_Compare_int_eq (n : Nat) (x0 : Int) (x1 : Int) : cmp_Compare_int n x0 x1 = (Option.bind (cmp_isNaN_int n x0) fun r1 => (Option.bind (cmp_isNaN_int n x1) fun r2 => (bif r1 then (bif r2 then (some 0) else (some (-1))) else (bif r2 then (some 1) else (bif (decide (x0 < x1)) then (some (-1)) else (bif (decide (x0 > x1)) then (some 1) else (some 0))))))) := by kernel_rfl
noncomputable def C41 (n : Nat) : Call2 E := more tt gl H (C40 n) n 33 Tryz.f33 [.t (.int .i64), .t (.int .i64)] (C40 n)
def fun34_ren : Go.Shelf.Ren := ⟨fun | 106 => 34 | 213 => 64 | 265 => 84 | n => n, fun | 9 => 9 | 3 => 3 | n => n, fun | n => n⟩
theorem fun34 : Go.Proofs.Lays.n106 Tryz.prog fun34_ren := {
  mixed := by kernel_rfl
  f106 := Tryz.func34.trans (congrArg some (by kernel_rfl))
  f213 := Tryz.func64.trans (congrArg some (by kernel_rfl))
  f265 := Tryz.func84.trans (congrArg some (by kernel_rfl))
  t3 := Tryz.underlying3
  a3 := Tryz.isAgg3
  z3 := Tryz.sizeOf3
  v3 := Tryz.zeroValue3
  t9 := Tryz.underlying9
  a9 := Tryz.isAgg9
  z9 := Tryz.sizeOf9
  v9 := Tryz.zeroValue9 }
theorem fnok34 : FnOK Tryz.prog 34 := ⟨Tryz.f34, _, Tryz.func34, by decide, rfl⟩
theorem func34 : SSI Tryz.prog 34 Go.Lib.compareBytes := fun a b w => Go.Proofs.Any.strings_Compare fun34 a b w
noncomputable def C42 (n : Nat) : Call2 E := moreF 34 Go.Lib.compareBytes (C41 n)

/- cmp.Or[int] -/
noncomputable def cmp_Or_int (n : Nat) (x0 : List Int) : Option Int := F2 (E := E) tt gl H (C42 n) n 32 Tryz.f32 [.t (.sl (.int .i64))] (x0, ())
noncomputable def cmp_Or_int_l0 (n : Nat) (m0 : Nat) (v3 : Int) (v6 : List Int) (v7 : Int) (v8 : Int) : Option Int := lp (E := E) (ps := [.t (.sl (.int .i64))]) tt gl H (C42 n) n 32 Tryz.f32 [1, 1, 0, 1, 0] [] m0 ⟨mkT 18 0 [(3, .t (.int .i64) v3), (6, .t (.sl (.int .i64)) v6), (7, .t (.int .i64) v7), (8, .t (.int .i64) v8)], mkB 72 0 []⟩
theorem cmp_Or_int_l0_eq (n : Nat) (m0 : Nat) (v3 : Int) (v6 : List Int) (v7 : Int) (v8 : Int) : cmp_Or_int_l0 n (m0 + 1) v3 v6 v7 v8 = (bif (decide (v8 < v7)) then (bif (decide (0 ≤ v8) && decide (v8 < List.length v6)) then (bif (!decide ((List.getD v6 (Int.toNat v8) (0 : Int)) = v3)) then (some (List.getD v6 (Int.toNat v8) (0 : Int))) else (cmp_Or_int_l0 n m0 v3 v6 v7 (IntKind.wrap .i64 (v8 + 1)))) else none) else (some v3)) := by kernel_rfl
theorem cmp_Or_int_l0_zero (n : Nat) (v3 : Int) (v6 : List Int) (v7 : Int) (v8 : Int) : cmp_Or_int_l0 n 0 v3 v6 v7 v8 = none := by kernel_rfl
theorem cmp_Or_int_l0_fold (n : Nat) (v3 : Int) (v6 : List Int) (hl : List.length v6 < 9223372036854775807) (m i : Nat) (hi : i ≤ List.length v6) (hm : List.length v6 - i < m) : cmp_Or_int_l0 n m v3 v6 (List.length v6 : Int) (i : Int) = foldK (S := Unit) (fun i (a : Int) s K => (bif (!decide (a = v3)) then (some a) else (K ()))) (fun s => (some v3)) (List.drop i v6) i () := range_loop v6 (0 : Int) hl (fun m (k : Int) (s : Unit) => cmp_Or_int_l0 n m v3 v6 (List.length v6 : Int) k) _ _ (fun m i s => (cmp_Or_int_l0_eq n m v3 v6 (List.length v6 : Int) (i : Int)).trans (by kernel_rfl)) m i hi hm ()
theorem cmp_Or_int_eq (n : Nat) (x0 : List Int) : cmp_Or_int n x0 = (cmp_Or_int_l0 n n 0 x0 (List.length x0 : Int) 0) := by kernel_rfl
noncomputable def C43 (n : Nat) : Call2 E := more tt gl H (C42 n) n 32 Tryz.f32 [.t (.sl (.int .i64))] (C42 n)
noncomputable def Cr43 : Nat → Nat → Call2 E
  | 0, n => C43 n
  | d + 1, n => (more tt gl H (Cr43 d n) n 36 Tryz.f36 [.t (.nm 2), .t (.nm 2)] (more tt gl H (Cr43 d n) n 35 Tryz.f35 [.t (.sl (.nm 2)), .t (.sl (.nm 2)), .fn 36 []] (more tt gl H (Cr43 d n) n 15 Tryz.f15 [.t (.nm 1), .t (.nm 1)] (C43 n))))
noncomputable def C44 (n : Nat) : Call2 E := Cr43 (n + 1) n

/- clapperbridge/value.Cmp -/
noncomputable def value_Cmp (d : Nat) (n : Nat) (x0 : ApiValue) (x1 : ApiValue) : Option Int := F2 (E := E) tt gl H (Cr43 d n) n 15 Tryz.f15 [.t (.nm 1), .t (.nm 1)] (x0, x1, ())

/- slices.CompareFunc[[]clapperbridge/api.Field,[]clapperbridge/api.Field,clapperbridge/api.Field,clapperbridge/api.Field] -/
noncomputable def slices_CompareFunc_Field_by_value_Cmp_1 (d : Nat) (n : Nat) (x0 : List ApiField) (x1 : List ApiField) (x2 : (Unit)) : Option Int := F2 (E := E) tt gl H (Cr43 d n) n 35 Tryz.f35 [.t (.sl (.nm 2)), .t (.sl (.nm 2)), .fn 36 []] (x0, x1, x2, ())
noncomputable def slices_CompareFunc_Field_by_value_Cmp_1_l0 (d : Nat) (n : Nat) (m0 : Nat) (v0 : List ApiField) (v1 : List ApiField) (v11 : List ApiField) (v12 : Int) (v13 : Int) : Option Int := lp (E := E) (ps := [.t (.sl (.nm 2)), .t (.sl (.nm 2)), .fn 36 []]) tt gl H (Cr43 d n) n 35 Tryz.f35 [1, 0, 1, 0] [] m0 ⟨mkT 39 0 [(0, .t (.sl (.nm 2)) v0), (1, .t (.sl (.nm 2)) v1), (2, .func 36 []), (11, .t (.sl (.nm 2)) v11), (12, .t (.int .i64) v12), (13, .t (.int .i64) v13)], mkB 156 0 []⟩

/- clapperbridge/value.Cmp$1 -/
noncomputable def value_Cmp_1 (d : Nat) (n : Nat) (x0 : ApiField) (x1 : ApiField) : Option Int := F2 (E := E) tt gl H (Cr43 d n) n 36 Tryz.f36 [.t (.nm 2), .t (.nm 2)] (x0, x1, ())
theorem value_Cmp_eq (d : Nat) (n : Nat) (x0 : ApiValue) (x1 : ApiValue) : value_Cmp (d + 1) n x0 x1 = (bif (decide (x0.Kind = 3)) then (Option.bind (value_order n x0.N) fun r1 => (Option.bind (value_order n x1.N) fun r2 => (Option.bind (cmp_Compare_int n x0.Kind x1.Kind) fun r3 => (Option.bind (cmp_Compare_int n r1 r2) fun r4 => (Option.bind (cmp_Or_int n [r3, r4, (Go.Lib.compareBytes x0.S x1.S)]) fun r5 => (bif (!decide (r5 = 0)) then (some r5) else (Option.bind (slices_CompareFunc_Field_by_value_Cmp_1 d n x0.Fields x1.Fields (())) fun r6 => (some r6)))))))) else (Option.bind (cmp_Compare_int n x0.Kind x1.Kind) fun r7 => (Option.bind (cmp_Compare_int n x0.N x1.N) fun r8 => (Option.bind (cmp_Or_int n [r7, r8, (Go.Lib.compareBytes x0.S x1.S)]) fun r9 => (bif (!decide (r9 = 0)) then (some r9) else (Option.bind (slices_CompareFunc_Field_by_value_Cmp_1 d n x0.Fields x1.Fields (())) fun r10 => (some r10))))))) := by kernel_rfl
theorem slices_CompareFunc_Field_by_value_Cmp_1_l0_eq (d : Nat) (n : Nat) (m0 : Nat) (v0 : List ApiField) (v1 : List ApiField) (v11 : List ApiField) (v12 : Int) (v13 : Int) : slices_CompareFunc_Field_by_value_Cmp_1_l0 (d + 1) n (m0 + 1) v0 v1 v11 v12 v13 = (bif (decide (v13 < v12)) then (bif (decide (0 ≤ v13) && decide (v13 < List.length v11)) then (bif (decide (v13 ≥ (List.length v1 : Int))) then (some 1) else (bif (decide (0 ≤ v13) && decide (v13 < List.length v1)) then (Option.bind (value_Cmp_1 d n (List.getD v11 (Int.toNat v13) (ApiField.mk [] (ApiValue.mk 0 0 [] []))) (List.getD v1 (Int.toNat v13) (ApiField.mk [] (ApiValue.mk 0 0 [] [])))) fun r1 => (bif (!decide (r1 = 0)) then (some r1) else (slices_CompareFunc_Field_by_value_Cmp_1_l0 (d + 1) n m0 v0 v1 v11 v12 (IntKind.wrap .i64 (v13 + 1))))) else none)) else none) else (bif (decide ((List.length v0 : Int) < (List.length v1 : Int))) then (some (-1)) else (some 0))) := by kernel_rfl
theorem slices_CompareFunc_Field_by_value_Cmp_1_l0_zero (d : Nat) (n : Nat) (v0 : List ApiField) (v1 : List ApiField) (v11 : List ApiField) (v12 : Int) (v13 : Int) : slices_CompareFunc_Field_by_value_Cmp_1_l0 d n 0 v0 v1 v11 v12 v13 = none := by kernel_rfl
theorem slices_CompareFunc_Field_by_value_Cmp_1_l0_fold (d : Nat) (n : Nat) (v0 : List ApiField) (v1 : List ApiField) (v11 : List ApiField) (hl : List.length v11 < 9223372036854775807) (m i : Nat) (hi : i ≤ List.length v11) (hm : List.length v11 - i < m) : slices_CompareFunc_Field_by_value_Cmp_1_l0 (d + 1) n m v0 v1 v11 (List.length v11 : Int) (i : Int) = foldK (S := Unit) (fun i (a : ApiField) s K => (bif (decide ((i : Int) ≥ (List.length v1 : Int))) then (some 1) else (bif (decide (0 ≤ (i : Int)) && decide ((i : Int) < List.length v1)) then (Option.bind (value_Cmp_1 d n a (List.getD v1 (Int.toNat (i : Int)) (ApiField.mk [] (ApiValue.mk 0 0 [] [])))) fun r1 => (bif (!decide (r1 = 0)) then (some r1) else (K ()))) else none))) (fun s => (bif (decide ((List.length v0 : Int) < (List.length v1 : Int))) then (some (-1)) else (some 0))) (List.drop i v11) i () := range_loop v11 (ApiField.mk [] (ApiValue.mk 0 0 [] [])) hl (fun m (k : Int) (s : Unit) => slices_CompareFunc_Field_by_value_Cmp_1_l0 (d + 1) n m v0 v1 v11 (List.length v11 : Int) k) _ _ (fun m i s => (slices_CompareFunc_Field_by_value_Cmp_1_l0_eq d n m v0 v1 v11 (List.length v11 : Int) (i : Int)).trans (by kernel_rfl)) m i hi hm ()
theorem slices_CompareFunc_Field_by_value_Cmp_1_eq (d : Nat) (n : Nat) (x0 : List ApiField) (x1 : List ApiField) (x2 : (Unit)) : slices_CompareFunc_Field_by_value_Cmp_1 (d + 1) n x0 x1 x2 = (slices_CompareFunc_Field_by_value_Cmp_1_l0 (d + 1) n n x0 x1 x0 (List.length x0 : Int) 0) := by kernel_rfl
theorem value_Cmp_1_eq (d : Nat) (n : Nat) (x0 : ApiField) (x1 : ApiField) : value_Cmp_1 (d + 1) n x0 x1 = (Option.bind (value_Cmp d n x0.Val x1.Val) fun r1 => (Option.bind (cmp_Or_int n [(Go.Lib.compareBytes x0.Name x1.Name), r1]) fun r2 => (some r2))) := by kernel_rfl

/- clapperbridge/value.Same -/
noncomputable def value_Same (n : Nat) (x0 : ApiValue) (x1 : ApiValue) : Option Bool := F2 (E := E) tt gl H (C44 n) n 7 Tryz.f7 [.t (.nm 1), .t (.nm 1)] (x0, x1, ())
theorem value_Same_eq (n : Nat) (x0 : ApiValue) (x1 : ApiValue) : value_Same n x0 x1 = (Option.bind (value_Cmp n n x0 x1) fun r1 => (some (decide (r1 = 0)))) := by kernel_rfl
noncomputable def C45 (n : Nat) : Call2 E := more tt gl H (C44 n) n 7 Tryz.f7 [.t (.nm 1), .t (.nm 1)] (C44 n)

/- clapperbridge/claplaw2.FixedReads -/
noncomputable def law2_FixedReads (n : Nat) (x0 : List FixedField) (x1 : List Int) : Option Bool := F2 (E := E) tt gl H (C45 n) n 3 Tryz.f3 [.t (.sl (.nm 0)), .t (.sl (.int .u8))] (x0, x1, ())
theorem law2_FixedReads_eq (n : Nat) (x0 : List FixedField) (x1 : List Int) : law2_FixedReads n x0 x1 = (Option.bind (fixed_Read n x0 x1) fun r1 => (Option.bind (ref2_Unrecorded n x0 x1) fun r2 => (Option.bind (law2_widths n) fun r3 => (bif r3 then (bif (decide (r1.2.2 = r2.2.2)) then (bif (decide (r1.2.1 = r2.2.1)) then (Option.bind (value_Same n r1.1 r2.1) fun r4 => (some r4)) else (some false)) else (some false)) else (some false))))) := by kernel_rfl
noncomputable def C46 (n : Nat) : Call2 E := more tt gl H (C45 n) n 3 Tryz.f3 [.t (.sl (.nm 0)), .t (.sl (.int .u8))] (C45 n)

theorem ok0 [Quiet] (n : Nat) : CallOK Tryz.prog gl (callR (C0 n)) := none_ok
theorem ok1 [Quiet] (n : Nat) : CallOK Tryz.prog gl (callR (C1 n)) := more_ok envOK hz tok hmix (ok0 n) (ok0 n) Tryz.func23 (by decide)
theorem ok2 [Quiet] (n : Nat) : CallOK Tryz.prog gl (callR (C2 n)) := more_ok envOK hz tok hmix (ok1 n) (ok1 n) Tryz.func37 (by decide)
theorem ok3 [Quiet] (n : Nat) : CallOK Tryz.prog gl (callR (C3 n)) := more_ok envOK hz tok hmix (ok2 n) (ok2 n) Tryz.func16 (by decide)
theorem ok4 [Quiet] (n : Nat) : CallOK Tryz.prog gl (callR (C4 n)) := more_ok envOK hz tok hmix (ok3 n) (ok3 n) Tryz.func8 (by decide)
theorem ok5 [Quiet] (n : Nat) : CallOK Tryz.prog gl (callR (C5 n)) := more_ok envOK hz tok hmix (ok4 n) (ok4 n) Tryz.func9 (by decide)
theorem pc18 [Quiet] : PlainC (E := E) Tryz.prog gl 18 [.str, .str] .str (fun x => some (Go.Lib.trimPrefix x.1 x.2.1)) := plain_sss (F := fun a b => some (Go.Lib.trimPrefix a b)) fun a b w r h => by
  have h := Option.some.inj h
  subst h
  exact Go.Proofs.Any.strings_TrimPrefix lay18 a b w
theorem ok6 [Quiet] (n : Nat) : CallOK Tryz.prog gl (callR (C6 n)) := moreP_ok (ok5 n) rfl fnok18 pc18
theorem ok7 [Quiet] (n : Nat) : CallOK Tryz.prog gl (callR (C7 n)) := more_ok envOK hz tok hmix (ok6 n) (ok6 n) Tryz.func17 (by decide)
theorem pc19 : PlainC (E := E) Tryz.prog gl 19 [.str, .str] .str (fun x => trimO x.1 x.2.1) := plain_sssE (F := trimO) fun a b w r h => by
  obtain ⟨h1, h2, h3, rfl⟩ := trimO_some h
  refine (Go.Proofs.Any.strings_Trim_laid lay19 (by kernel_rfl) a b w (by rw [Array.length_toList] at h1; exact Nat.le_trans h1 (by decide)) (by rw [Array.length_toList] at h2; exact Nat.lt_of_le_of_lt h2 (by decide)) (Go.Proofs.ascii_of_all h3)).mono fun e w1 hw => ⟨hw.1, Ext.below (fun h => h) hw.2⟩
theorem ok8 (n : Nat) : CallOK Tryz.prog gl (callR (C8 n)) := moreP_ok (ok7 n) rfl fnok19 pc19
theorem pc20 : PlainE (E := E) Tryz.prog gl 20 [.str] (.int .i64) (fun x => atoiO x.1) := atoiP (gs := 1) (gr := 2) (fun h => h) ⟨fun s hs v h w => (Go.Proofs.Any.strconv_Atoi_ok lay20 s (Nat.le_trans hs (by decide)) v h w).mono fun e w1 hw => ⟨hw.1, hw.2.elim (fun h => h ▸ Go.RowKit.Below.refl _ _) (fun ⟨t, h⟩ => h ▸ Go.Lib.bytesWorld_below _ _ _)⟩, fun s hs h h2 w t x hc => (Go.Proofs.Any.strconv_Atoi_syntax lay20 s hs (third h h2 (fun _ e => by cases e) (fun e => by cases e)) _ w hc (.inr ⟨_, _, rfl⟩)).mono fun e w1 ⟨N, he, _, _, hb⟩ => ⟨⟨_, _, he⟩, hb⟩, fun s hs h w t x hc => (Go.Proofs.Any.strconv_Atoi_range lay20 s hs h _ w hc (.inr ⟨_, _, rfl⟩)).mono fun e w1 ⟨N, he, _, _, hb⟩ => ⟨⟨_, _, he⟩, hb⟩⟩ rfl rfl
theorem ok9 (n : Nat) : CallOK Tryz.prog gl (callR (C9 n)) := moreE_ok (ok8 n) rfl fnok20 pc20
theorem ok10 (n : Nat) : CallOK Tryz.prog gl (callR (C10 n)) := more_ok envOK hz tok hmix (ok9 n) (ok9 n) Tryz.func81 (by decide)
theorem ok11 (n : Nat) : CallOK Tryz.prog gl (callR (C11 n)) := more_ok envOK hz tok hmix (ok10 n) (ok10 n) Tryz.func57 (by decide)
theorem ok12 (n : Nat) : CallOK Tryz.prog gl (callR (C12 n)) := more_ok envOK hz tok hmix (ok11 n) (ok11 n) Tryz.func48 (by decide)
theorem pc49 : PlainC (E := E) Tryz.prog gl 49 [(.int .i64)] .str (fun x => itoaO x.1) := itoaP (name := "internal/strconv.uint64pow10") (gp := 3) (fun n h0 h1 w ht => Go.Proofs.Any.strconv_Itoa lay49 n h0 h1 w ht) (by kernel_rfl) rfl
theorem ok13 (n : Nat) : CallOK Tryz.prog gl (callR (C13 n)) := moreP_ok (ok12 n) rfl fnok49 pc49
theorem pc30 : PlainC (E := E) Tryz.prog gl 30 [.str, (.int .i64)] .str (fun x => repO x.1 x.2.1) := plain_sis (F := repO) fun a n w r h => by
  obtain ⟨h1, h2, h3, rfl⟩ := repO_some h
  obtain ⟨c, rfl⟩ : ∃ c : Nat, n = c := ⟨n.toNat, (Int.toNat_of_nonneg h1).symm⟩
  have hs : a.size ≤ 32768 := by rw [Array.length_toList] at h3; exact h3
  exact (Go.Proofs.Any.strings_Repeat lay30 ext30 a c w (by omega) (Nat.le_trans (Nat.mul_le_mul hs (show c ≤ 4294967296 by omega)) (by decide))).mono fun e w' ⟨he, hw⟩ => ⟨he, Ext.below (fun h => h) hw⟩
theorem ok14 (n : Nat) : CallOK Tryz.prog gl (callR (C14 n)) := moreP_ok (ok13 n) rfl fnok30 pc30
theorem ok15 (n : Nat) : CallOK Tryz.prog gl (callR (C15 n)) := more_ok envOK hz tok hmix (ok14 n) (ok14 n) Tryz.func22 (by decide)
theorem ok16 (n : Nat) : CallOK Tryz.prog gl (callR (C16 n)) := more_ok envOK hz tok hmix (ok15 n) (ok15 n) Tryz.func21 (by decide)
theorem ok17 (n : Nat) : CallOK Tryz.prog gl (callR (C17 n)) := more_ok envOK hz tok hmix (ok16 n) (ok16 n) Tryz.func10 (by decide)
theorem ok18 (n : Nat) : CallOK Tryz.prog gl (callR (C18 n)) := more_ok envOK hz tok hmix (ok17 n) (ok17 n) Tryz.func4 (by decide)
theorem ok19 (n : Nat) : CallOK Tryz.prog gl (callR (C19 n)) := more_ok envOK hz tok hmix (ok18 n) (ok18 n) Tryz.func24 (by decide)
theorem ok20 (n : Nat) : CallOK Tryz.prog gl (callR (C20 n)) := more_ok envOK hz tok hmix (ok19 n) (ok19 n) Tryz.func11 (by decide)
theorem ok21 (n : Nat) : CallOK Tryz.prog gl (callR (C21 n)) := more_ok envOK hz tok hmix (ok20 n) (ok20 n) Tryz.func12 (by decide)
theorem pc25 : PlainC (E := E) Tryz.prog gl 25 [.str, .str] .bool (fun x => hasSufO x.1 x.2.1) := plain_ssb (F := hasSufO) fun a b w r h => by
  obtain ⟨h1, rfl⟩ := hasSufO_some h
  exact Go.Proofs.Any.strings_HasSuffix lay25 a b w (by rw [Array.length_toList] at h1; exact Nat.le_trans h1 (by decide))
theorem ok22 (n : Nat) : CallOK Tryz.prog gl (callR (C22 n)) := moreP_ok (ok21 n) rfl fnok25 pc25
theorem ok23 (n : Nat) : CallOK Tryz.prog gl (callR (C23 n)) := more_ok envOK hz tok hmix (ok22 n) (ok22 n) Tryz.func93 (by decide)
theorem ok24 (n : Nat) : CallOK Tryz.prog gl (callR (C24 n)) := more_ok envOK hz tok hmix (ok23 n) (ok23 n) Tryz.func104 (by decide)
theorem ok25 (n : Nat) : CallOK Tryz.prog gl (callR (C25 n)) := more_ok envOK hz tok hmix (ok24 n) (ok24 n) Tryz.func94 (by decide)
theorem ok26 (n : Nat) : CallOK Tryz.prog gl (callR (C26 n)) := more_ok envOK hz tok hmix (ok25 n) (ok25 n) Tryz.func78 (by decide)
theorem ok27 (n : Nat) : CallOK Tryz.prog gl (callR (C27 n)) := more_ok envOK hz tok hmix (ok26 n) (ok26 n) Tryz.func51 (by decide)
theorem ok28 (n : Nat) : CallOK Tryz.prog gl (callR (C28 n)) := more_ok envOK hz tok hmix (ok27 n) (ok27 n) Tryz.func26 (by decide)
theorem pc27 : PlainE (E := E) Tryz.prog gl 27 [.str, (.int .i64), (.int .i64)] (.int .i64) (fun x => parseO x.1 x.2.1 x.2.2.1) := parseP (gs := 1) (gr := 2) (fun h => h) ⟨fun s hs v h w => (Go.Proofs.Any.strconv_ParseInt_10_at64_ok lay27 s (Nat.le_trans hs (by decide)) v h w).mono fun e w1 hw => ⟨hw.1, hw.2.elim (fun h => h ▸ Go.RowKit.Below.refl _ _) (fun ⟨t, h⟩ => h ▸ Go.Lib.bytesWorld_below _ _ _)⟩, fun s hs h h2 w t x hc => (Go.Proofs.Any.strconv_ParseInt_10_at64_syntax lay27 s hs (third h h2 (fun _ e => by cases e) (fun e => by cases e)) _ w hc (.inr ⟨_, _, rfl⟩)).mono fun e w1 ⟨N, he, _, _, hb⟩ => ⟨⟨_, _, he⟩, hb⟩, fun s hs h w t x hc => (Go.Proofs.Any.strconv_ParseInt_10_at64_range lay27 s hs h _ w hc (.inr ⟨_, _, rfl⟩)).mono fun e w1 ⟨N, he, _, _, hb⟩ => ⟨⟨_, _, he⟩, hb⟩⟩ rfl rfl
theorem ok29 (n : Nat) : CallOK Tryz.prog gl (callR (C29 n)) := moreE_ok (ok28 n) rfl fnok27 pc27
theorem ok30 (n : Nat) : CallOK Tryz.prog gl (callR (C30 n)) := more_ok envOK hz tok hmix (ok29 n) (ok29 n) Tryz.func53 (by decide)
theorem ok31 (n : Nat) : CallOK Tryz.prog gl (callR (C31 n)) := more_ok envOK hz tok hmix (ok30 n) (ok30 n) Tryz.func54 (by decide)
theorem pc55 : PlainT (E := E) Tryz.prog gl 55 [.str, (.int .i64), (.int .i64)] (.int .u64) (fun x => pu16O x.1 x.2.1 x.2.2.1) := pu16P fun s u h1 h2 h3 w => (pu16_ok lay55 s h1 h2 u h3 w).mono fun e w1 h => ⟨h.1, _, h.2⟩
theorem ok32 (n : Nat) : CallOK Tryz.prog gl (callR (C32 n)) := moreT_ok (ok31 n) rfl fnok55 pc55
theorem ok33 (n : Nat) : CallOK Tryz.prog gl (callR (C33 n)) := more_ok envOK hz tok hmix (ok32 n) (ok32 n) Tryz.func28 (by decide)
theorem ok34 (n : Nat) : CallOK Tryz.prog gl (callR (C34 n)) := more_ok envOK hz tok hmix (ok33 n) (ok33 n) Tryz.func13 (by decide)
theorem ok35 (n : Nat) : CallOK Tryz.prog gl (callR (C35 n)) := more_ok envOK hz tok hmix (ok34 n) (ok34 n) Tryz.func5 (by decide)
theorem pc29 : PlainC (E := E) Tryz.prog gl 29 [(.int .u64), (.int .i64)] .str (fun x => fmtuO x.1 x.2.1) := fmtuP (name := "internal/strconv.uint64pow10") (gp := 3) (fun u hu w ht => fmtu29 u hu w ht) (by kernel_rfl) rfl
theorem ok36 (n : Nat) : CallOK Tryz.prog gl (callR (C36 n)) := moreP_ok (ok35 n) rfl fnok29 pc29
theorem ok37 (n : Nat) : CallOK Tryz.prog gl (callR (C37 n)) := more_ok envOK hz tok hmix (ok36 n) (ok36 n) Tryz.func14 (by decide)
theorem ok38 (n : Nat) : CallOK Tryz.prog gl (callR (C38 n)) := more_ok envOK hz tok hmix (ok37 n) (ok37 n) Tryz.func6 (by decide)
theorem ok39 (n : Nat) : CallOK Tryz.prog gl (callR (C39 n)) := more_ok envOK hz tok hmix (ok38 n) (ok38 n) Tryz.func31 (by decide)
theorem ok40 (n : Nat) : CallOK Tryz.prog gl (callR (C40 n)) := more_ok envOK hz tok hmix (ok39 n) (ok39 n) Tryz.func63 (by decide)
theorem ok41 (n : Nat) : CallOK Tryz.prog gl (callR (C41 n)) := more_ok envOK hz tok hmix (ok40 n) (ok40 n) Tryz.func33 (by decide)
theorem ok42 (n : Nat) : CallOK Tryz.prog gl (callR (C42 n)) := moreF_ok (ok41 n) fnok34 func34
theorem ok43 (n : Nat) : CallOK Tryz.prog gl (callR (C43 n)) := more_ok envOK hz tok hmix (ok42 n) (ok42 n) Tryz.func32 (by decide)
theorem okr43 : ∀ d n : Nat, CallOK Tryz.prog gl (callR (Cr43 d n))
  | 0, n => ok43 n
  | d + 1, n => (more_ok envOK hz tok hmix (okr43 d n) (more_ok envOK hz tok hmix (okr43 d n) (more_ok envOK hz tok hmix (okr43 d n) (ok43 n) Tryz.func15 (by decide)) Tryz.func35 (by decide)) Tryz.func36 (by decide))
theorem ok44 (n : Nat) : CallOK Tryz.prog gl (callR (C44 n)) := okr43 (n + 1) n
theorem ok45 (n : Nat) : CallOK Tryz.prog gl (callR (C45 n)) := more_ok envOK hz tok hmix (ok44 n) (ok44 n) Tryz.func7 (by decide)
theorem ok46 (n : Nat) : CallOK Tryz.prog gl (callR (C46 n)) := more_ok envOK hz tok hmix (ok45 n) (ok45 n) Tryz.func3 (by decide)
theorem law_call (n : Nat) (x0 : List FixedField) (x1 : List Int) : callR (C46 n) 3 [.t (.sl (.nm 0)) x0, .t (.sl (.int .u8)) x1] [.none, .none] = (law2_FixedReads n x0 x1).map fun r => (.t .bool r, [.none, .none]) := by kernel_rfl
theorem law_full : ∀ t ∈ ([22, 23] : List Nat), ∃ x, tt t = some x ∧ x.ty.full = true := by
  intro t ht
  simp only [List.mem_cons, List.not_mem_nil, or_false] at ht
  rcases ht with rfl | rfl
  · exact ⟨⟨(.sl (.nm 0)), .slice 36⟩, by kernel_rfl, rfl⟩
  · exact ⟨⟨(.sl (.int .u8)), .slice 5⟩, by kernel_rfl, rfl⟩
theorem law_ins {aa : List (AV E)} (h : Ins E tt [22, 23] aa) {N : Nat} (hb : ∀ g, (aa.map (bulkA E g)).sum ≤ N) : ∃ (x0 : List FixedField) (x1 : List Int), aa = [.t (.sl (.nm 0)) x0, .t (.sl (.int .u8)) x1] ∧ (∀ g, Fv.Good E g (.sl (.nm 0)) x0) ∧ (∀ g, Fv.Good E g (.sl (.int .u8)) x1) ∧ ∀ g, Bulk E g (.sl (.nm 0)) x0 + Bulk E g (.sl (.int .u8)) x1 ≤ N := by
  cases h with
  | cons z0 e0 v0 g0 h => 
  have q0 := Option.some.inj (e0.symm.trans (show tt 22 = some ⟨(.sl (.nm 0)), .slice 36⟩ by kernel_rfl))
  subst q0
  cases h with
  | cons z1 e1 v1 g1 h => 
  have q1 := Option.some.inj (e1.symm.trans (show tt 23 = some ⟨(.sl (.int .u8)), .slice 5⟩ by kernel_rfl))
  subst q1
  cases h
  exact ⟨v0, v1, rfl, g0, g1, fun g => Nat.le_trans (Nat.le_of_eq (by simp [bulkA])) (hb g)⟩
theorem law_pure (ok : ∀ (x0 : List FixedField) (x1 : List Int) (h0 : ∀ g, Fv.Good E g (.sl (.nm 0)) x0) (h1 : ∀ g, Fv.Good E g (.sl (.int .u8)) x1) (hb : ∀ g, Bulk E g (.sl (.nm 0)) x0 + Bulk E g (.sl (.int .u8)) x1 ≤ 1048576), ∃ n, law2_FixedReads n x0 x1 = some true) (aa : List (AV E)) (h : Ins E tt [22, 23] aa) (hb : ∀ g, (aa.map (bulkA E g)).sum ≤ 1048576) : ∃ n outs, callR (C46 n) 3 aa (List.replicate ([22, 23] : List Nat).length .none) = some (.t .bool true, outs) := by
  obtain ⟨x0, x1, rfl, h0, h1, hk⟩ := law_ins h hb
  obtain ⟨n, hn⟩ := ok x0 x1 h0 h1 hk
  exact ⟨n, _, (law_call n x0 x1).trans (by rw [hn]; rfl)⟩
end Go.Proofs.YtoegcppcmgbkmaaGreatDoor.PFixedReads
