/- The functions that the law FixedChecks reaches, as the evaluator reckons them. No condition. -/
import Derived.Test.YtbmpjppfdeohnaaDoorFvG
import Derived.Ground.NamesProg
import Derived.Shelf.Strconv.Itoa4
import Derived.Shelf.Strings.Prefix
import Derived.Shelf.Strings.Repeat
import Derived.WalkKit
import Derived.Test.YtbmpjppfdeohnaaDoorChecked
set_option linter.unusedVariables false
set_option maxRecDepth 100000
namespace Go.Proofs.YtbmpjppfdeohnaaDoor.PFixedChecks
open Go Go.Proofs Go.Proofs.YtbmpjppfdeohnaaDoor.Fv
instance loud : Quiet := ⟨False⟩

structure FixedField where
  Name : List UInt8
  Kind : Int
  At : Int
  Wide : Int
  Pad : Int
  Signed : Bool
  Scale : Int

def R : Nat → Type
  | 0 => FixedField
  | _ => Bool
def body : Nat → Ty
  | 0 => (.pair .str (.pair (.int .i64) (.pair (.int .i64) (.pair (.int .i64) (.pair (.int .u8) (.pair .bool (.one (.int .i64))))))))
  | _ => .one .bool
def un : (n : Nat) → R n → den R (body n)
  | 0, (x : FixedField) => (x.Name, x.Kind, x.At, x.Wide, x.Pad, x.Signed, x.Scale)
  | _ + 1, x => x
def ro : (n : Nat) → den R (body n) → R n
  | 0, x => FixedField.mk x.1 x.2.1 x.2.2.1 x.2.2.2.1 x.2.2.2.2.1 x.2.2.2.2.2.1 x.2.2.2.2.2.2
  | _ + 1, x => x
def dfl0 : (n : Nat) → R n
  | 0 => (FixedField.mk [] 0 0 0 0 false 0)
  | _ + 1 => false
def sz0 : Nat → Nat
  | 0 => 7
  | _ => 1
def zc0 : Nat → List Value
  | 0 => [.string ByteArray.empty, .int .i64 0, .int .i64 0, .int .i64 0, .int .u8 0, .bool false, .int .i64 0]
  | _ => [.bool false]
def E : Env := { R := R, body := body, un := un, ro := ro, dfl := dfl0, sz := sz0, zc := zc0 }
theorem hun : ∀ n x, un n (ro n x) = x
  | 0, _ => rfl
  | _ + 1, _ => rfl
theorem hdf : ∀ n, un n (dfl0 n) = dfl E (body n)
  | 0 => rfl
  | _ + 1 => rfl
theorem hsz : ∀ n, sz0 n = size E (body n)
  | 0 => rfl
  | _ + 1 => rfl
theorem hzc : ∀ n, zc0 n = zcells E (body n)
  | 0 => rfl
  | _ + 1 => rfl
theorem hag : ∀ n, (∃ a, body n = .one a) ∨ ∃ a b, body n = .pair a b
  | 0 => .inr ⟨_, _, rfl⟩
  | _ + 1 => .inl ⟨_, rfl⟩
theorem envOK : EnvOK E := ⟨hun, hdf, hsz, hzc, hag⟩
theorem hz0 (M : Mem) : RC (E := E) M (.nm 0) (dfl0 0) (zc0 0) := RC.nm (E := E) (RC.pair (RC.str ByteArray.empty) (RC.pair (RC.int .i64 0) (RC.pair (RC.int .i64 0) (RC.pair (RC.int .i64 0) (RC.pair (RC.int .u8 0) (RC.pair (RC.bool false) (RC.one (RC.int .i64 0))))))))
theorem hz : ∀ (M : Mem) n, RC (E := E) M (.nm n) (E.dfl n) (E.zc n)
  | M, 0 => hz0 M
  | M, _ + 1 => RC.nm (E := E) (RC.one (RC.bool false))
def tl : List (Nat × TE) := [(3, ⟨(.int .i64), .int .i64⟩),
  (4, ⟨.bool, .bool⟩),
  (5, ⟨(.int .u8), .int .u8⟩),
  (9, ⟨.str, .str⟩),
  (25, ⟨(.int .i64), .int .i64⟩),
  (55, ⟨(.sl (.nm 0)), .slice 87⟩),
  (56, ⟨(.sl (.int .u8)), .slice 5⟩),
  (81, ⟨(.sl (.arr 2 (.int .i64))), .slice 90⟩),
  (87, ⟨(.nm 0), .struct [(9, 0), (3, 1), (3, 2), (3, 3), (5, 4), (4, 5), (3, 6)]⟩),
  (90, ⟨(.arr 2 (.int .i64)), .arr 2 3⟩),
  (98, ⟨(.sl (.int .i64)), .slice 3⟩),
  (131, ⟨(.mp (.int .i64) (.int .i64)), .map 3 3⟩),
  (132, ⟨(.mp .str (.int .i64)), .map 9 3⟩),
  (151, ⟨.any, .func⟩),
  (154, ⟨(.int .u64), .int .u64⟩),
  (157, ⟨.any, .func⟩)]
def tt : Nat → Option TE := look2 tl
theorem tf3 : TFact Tryd.prog E tt 3 ⟨(.int .i64), .int .i64⟩ := TFact.of (z := .int .i64 0) (bs := 8) Tryd.underlying3 ⟨rfl, rfl, rfl⟩ (by kernel_rfl) (by kernel_rfl) (fun h => nomatch h) (by kernel_rfl) (trivial) (fun _ cs h => nomatch h) (trivial)
theorem tf4 : TFact Tryd.prog E tt 4 ⟨.bool, .bool⟩ := TFact.of (z := .bool false) (bs := 1) Tryd.underlying4 ⟨rfl, rfl, rfl⟩ (by kernel_rfl) (by kernel_rfl) (fun h => nomatch h) (by kernel_rfl) (trivial) (fun _ cs h => nomatch h) (trivial)
theorem tf5 : TFact Tryd.prog E tt 5 ⟨(.int .u8), .int .u8⟩ := TFact.of (z := .int .u8 0) (bs := 1) Tryd.underlying5 ⟨rfl, rfl, rfl⟩ (by kernel_rfl) (by kernel_rfl) (fun h => nomatch h) (by kernel_rfl) (trivial) (fun _ cs h => nomatch h) (trivial)
theorem tf9 : TFact Tryd.prog E tt 9 ⟨.str, .str⟩ := TFact.of (z := .string ByteArray.empty) (bs := 16) Tryd.underlying9 ⟨rfl, rfl, rfl⟩ (by kernel_rfl) (by kernel_rfl) (fun h => nomatch h) (by kernel_rfl) (trivial) (fun _ cs h => nomatch h) (trivial)
theorem tf25 : TFact Tryd.prog E tt 25 ⟨(.int .i64), .int .i64⟩ := TFact.of (z := .int .i64 0) (bs := 8) Tryd.underlying25 ⟨rfl, rfl, rfl⟩ (by kernel_rfl) (by kernel_rfl) (fun h => nomatch h) (by kernel_rfl) (trivial) (fun _ cs h => nomatch h) (trivial)
theorem tf55 : TFact Tryd.prog E tt 55 ⟨(.sl (.nm 0)), .slice 87⟩ := TFact.of (z := .slice none 0 0) (bs := 24) Tryd.underlying55 ⟨rfl, rfl, .inr ⟨by kernel_rfl, by kernel_rfl, by kernel_rfl, of_decide_eq_true (by kernel_rfl), of_decide_eq_true (by kernel_rfl), of_decide_eq_true (by kernel_rfl)⟩⟩ (by kernel_rfl) (by kernel_rfl) (fun h => nomatch h) (by kernel_rfl) (trivial) (fun _ cs h => nomatch h) (trivial)
theorem tf56 : TFact Tryd.prog E tt 56 ⟨(.sl (.int .u8)), .slice 5⟩ := TFact.of (z := .slice none 0 0) (bs := 24) Tryd.underlying56 ⟨rfl, rfl, .inr ⟨by kernel_rfl, by kernel_rfl, by kernel_rfl, of_decide_eq_true (by kernel_rfl), of_decide_eq_true (by kernel_rfl), of_decide_eq_true (by kernel_rfl)⟩⟩ (by kernel_rfl) (by kernel_rfl) (fun h => nomatch h) (by kernel_rfl) (trivial) (fun _ cs h => nomatch h) (trivial)
theorem tf81 : TFact Tryd.prog E tt 81 ⟨(.sl (.arr 2 (.int .i64))), .slice 90⟩ := TFact.of (z := .slice none 0 0) (bs := 24) Tryd.underlying81 ⟨rfl, rfl, .inr ⟨by kernel_rfl, by kernel_rfl, by kernel_rfl, of_decide_eq_true (by kernel_rfl), of_decide_eq_true (by kernel_rfl), of_decide_eq_true (by kernel_rfl)⟩⟩ (by kernel_rfl) (by kernel_rfl) (fun h => nomatch h) (by kernel_rfl) (trivial) (fun _ cs h => nomatch h) (trivial)
theorem tf87 : TFact Tryd.prog E tt 87 ⟨(.nm 0), .struct [(9, 0), (3, 1), (3, 2), (3, 3), (5, 4), (4, 5), (3, 6)]⟩ := TFact.of (z := .agg #[.string ByteArray.empty, .int .i64 0, .int .i64 0, .int .i64 0, .int .u8 0, .bool false, .int .i64 0]) (bs := 56) Tryd.underlying87 ⟨by kernel_rfl, ⟨_, rfl, rfl⟩, by kernel_rfl, by kernel_rfl⟩ (by kernel_rfl) (by kernel_rfl) (fun _ => rfl) (by kernel_rfl) (show (Value.cells (.agg #[.string ByteArray.empty, .int .i64 0, .int .i64 0, .int .i64 0, .int .u8 0, .bool false, .int .i64 0])).toList = (List.map (fun f => zA (E := E) (zeroA tt 20 f.1)) [(9, 0), (3, 1), (3, 2), (3, 3), (5, 4), (4, 5), (3, 6)]).flatten from by kernel_rfl) (fun h => nomatch h) (fun _ => ⟨names_of Tryd.underlying87 (by kernel_rfl), by kernel_rfl, by kernel_rfl⟩)
theorem tf90 : TFact Tryd.prog E tt 90 ⟨(.arr 2 (.int .i64)), .arr 2 3⟩ := TFact.of (z := .agg #[.int .i64 0, .int .i64 0]) (bs := 16) Tryd.underlying90 ⟨rfl, rfl, by kernel_rfl, by kernel_rfl⟩ (by kernel_rfl) (by kernel_rfl) (fun _ => rfl) (by kernel_rfl) (trivial) (fun h => nomatch h) (fun _ => by kernel_rfl)
theorem tf98 : TFact Tryd.prog E tt 98 ⟨(.sl (.int .i64)), .slice 3⟩ := TFact.of (z := .slice none 0 0) (bs := 24) Tryd.underlying98 ⟨rfl, rfl, .inr ⟨by kernel_rfl, by kernel_rfl, by kernel_rfl, of_decide_eq_true (by kernel_rfl), of_decide_eq_true (by kernel_rfl), of_decide_eq_true (by kernel_rfl)⟩⟩ (by kernel_rfl) (by kernel_rfl) (fun h => nomatch h) (by kernel_rfl) (trivial) (fun _ cs h => nomatch h) (trivial)
theorem tf131 : TFact Tryd.prog E tt 131 ⟨(.mp (.int .i64) (.int .i64)), .map 3 3⟩ := TFact.of (z := .map none) (bs := 8) Tryd.underlying131 ⟨rfl, rfl, by kernel_rfl, by kernel_rfl, .inr rfl⟩ (by kernel_rfl) (by kernel_rfl) (fun h => nomatch h) (by kernel_rfl) (trivial) (fun _ cs h => nomatch h) (trivial)
theorem tf132 : TFact Tryd.prog E tt 132 ⟨(.mp .str (.int .i64)), .map 9 3⟩ := TFact.of (z := .map none) (bs := 8) Tryd.underlying132 ⟨rfl, rfl, by kernel_rfl, by kernel_rfl, .inr rfl⟩ (by kernel_rfl) (by kernel_rfl) (fun h => nomatch h) (by kernel_rfl) (trivial) (fun _ cs h => nomatch h) (trivial)
theorem tf151 : TFact Tryd.prog E tt 151 ⟨.any, .func⟩ := TFact.of (z := .nilFunc) (bs := 8) Tryd.underlying151 ⟨rfl, _, _, _, rfl⟩ (by kernel_rfl) (by kernel_rfl) (fun h => nomatch h) (by kernel_rfl) (trivial) (fun _ cs h => nomatch h) (trivial)
theorem tf154 : TFact Tryd.prog E tt 154 ⟨(.int .u64), .int .u64⟩ := TFact.of (z := .int .u64 0) (bs := 8) Tryd.underlying154 ⟨rfl, rfl, rfl⟩ (by kernel_rfl) (by kernel_rfl) (fun h => nomatch h) (by kernel_rfl) (trivial) (fun _ cs h => nomatch h) (trivial)
theorem tf157 : TFact Tryd.prog E tt 157 ⟨.any, .func⟩ := TFact.of (z := .nilFunc) (bs := 8) Tryd.underlying157 ⟨rfl, _, _, _, rfl⟩ (by kernel_rfl) (by kernel_rfl) (fun h => nomatch h) (by kernel_rfl) (trivial) (fun _ cs h => nomatch h) (trivial)
theorem tok : TOK Tryd.prog E tt := TOK.of (mem_cons2 tf3 (mem_cons2 tf4 (mem_cons2 tf5 (mem_cons2 tf9 (mem_cons2 tf25 (mem_cons2 tf55 (mem_cons2 tf56 (mem_cons2 tf81 (mem_cons2 tf87 (mem_cons2 tf90 (mem_cons2 tf98 (mem_cons2 tf131 (mem_cons2 tf132 (mem_cons2 tf151 (mem_cons2 tf154 (mem_cons2 tf157 mem_nil2))))))))))))))))
def tlr : List (Nat × TE) := [(3, ⟨(.int .i64), .int .i64⟩),
  (4, ⟨.bool, .bool⟩),
  (5, ⟨(.int .u8), .int .u8⟩),
  (9, ⟨.str, .str⟩),
  (55, ⟨(.sl (.nm 0)), .slice 87⟩),
  (87, ⟨(.nm 0), .struct [(9, 0), (3, 1), (3, 2), (3, 3), (5, 4), (4, 5), (3, 6)]⟩)]
def ttr : Nat → Option TE := look2 tlr
theorem tfr3 : TFact Tryd.prog E ttr 3 ⟨(.int .i64), .int .i64⟩ := TFact.of (z := .int .i64 0) (bs := 8) Tryd.underlying3 ⟨rfl, rfl, rfl⟩ (by kernel_rfl) (by kernel_rfl) (fun h => nomatch h) (by kernel_rfl) (trivial) (fun _ cs h => nomatch h) (trivial)
theorem tfr4 : TFact Tryd.prog E ttr 4 ⟨.bool, .bool⟩ := TFact.of (z := .bool false) (bs := 1) Tryd.underlying4 ⟨rfl, rfl, rfl⟩ (by kernel_rfl) (by kernel_rfl) (fun h => nomatch h) (by kernel_rfl) (trivial) (fun _ cs h => nomatch h) (trivial)
theorem tfr5 : TFact Tryd.prog E ttr 5 ⟨(.int .u8), .int .u8⟩ := TFact.of (z := .int .u8 0) (bs := 1) Tryd.underlying5 ⟨rfl, rfl, rfl⟩ (by kernel_rfl) (by kernel_rfl) (fun h => nomatch h) (by kernel_rfl) (trivial) (fun _ cs h => nomatch h) (trivial)
theorem tfr9 : TFact Tryd.prog E ttr 9 ⟨.str, .str⟩ := TFact.of (z := .string ByteArray.empty) (bs := 16) Tryd.underlying9 ⟨rfl, rfl, rfl⟩ (by kernel_rfl) (by kernel_rfl) (fun h => nomatch h) (by kernel_rfl) (trivial) (fun _ cs h => nomatch h) (trivial)
theorem tfr55 : TFact Tryd.prog E ttr 55 ⟨(.sl (.nm 0)), .slice 87⟩ := TFact.of (z := .slice none 0 0) (bs := 24) Tryd.underlying55 ⟨rfl, rfl, .inr ⟨by kernel_rfl, by kernel_rfl, by kernel_rfl, of_decide_eq_true (by kernel_rfl), of_decide_eq_true (by kernel_rfl), of_decide_eq_true (by kernel_rfl)⟩⟩ (by kernel_rfl) (by kernel_rfl) (fun h => nomatch h) (by kernel_rfl) (trivial) (fun _ cs h => nomatch h) (trivial)
theorem tfr87 : TFact Tryd.prog E ttr 87 ⟨(.nm 0), .struct [(9, 0), (3, 1), (3, 2), (3, 3), (5, 4), (4, 5), (3, 6)]⟩ := TFact.of (z := .agg #[.string ByteArray.empty, .int .i64 0, .int .i64 0, .int .i64 0, .int .u8 0, .bool false, .int .i64 0]) (bs := 56) Tryd.underlying87 ⟨by kernel_rfl, ⟨_, rfl, rfl⟩, by kernel_rfl, by kernel_rfl⟩ (by kernel_rfl) (by kernel_rfl) (fun _ => rfl) (by kernel_rfl) (show (Value.cells (.agg #[.string ByteArray.empty, .int .i64 0, .int .i64 0, .int .i64 0, .int .u8 0, .bool false, .int .i64 0])).toList = (List.map (fun f => zA (E := E) (zeroA ttr 20 f.1)) [(9, 0), (3, 1), (3, 2), (3, 3), (5, 4), (4, 5), (3, 6)]).flatten from by kernel_rfl) (fun h => nomatch h) (fun _ => ⟨names_of Tryd.underlying87 (by kernel_rfl), by kernel_rfl, by kernel_rfl⟩)
theorem tokr : TOK Tryd.prog E ttr := TOK.of (mem_cons2 tfr3 (mem_cons2 tfr4 (mem_cons2 tfr5 (mem_cons2 tfr9 (mem_cons2 tfr55 (mem_cons2 tfr87 mem_nil2))))))
theorem rdok : RdOK Tryd.prog E ttr := RdOK.of (by kernel_rfl)
theorem law_sub : ∀ t ∈ ([55, 3, 3] : List Nat), ttr t = tt t := by
  intro t ht
  simp only [List.mem_cons, List.not_mem_nil, or_false] at ht
  rcases ht with rfl | rfl | rfl
  · kernel_rfl
  · kernel_rfl
  · kernel_rfl
theorem hmix : Tryd.prog.follows .mixedOrders = true := by kernel_rfl
def hKeep (f b : Nat) : List (Nat × Nat) := bif Nat.beq f 9 then (bif Nat.beq b 0 then [(0, 0), (7, 0), (8, 0), (48, 0), (49, 0), (50, 0)] else []) else bif Nat.beq f 31 then (bif Nat.beq b 0 then [(0, 0), (3, 0), (4, 0), (21, 0), (22, 0), (23, 0)] else bif Nat.beq b 3 then [(0, 0), (3, 0), (4, 0), (5, 0), (6, 0), (8, 0), (9, 0), (12, 0), (21, 0), (22, 0), (23, 0)] else bif Nat.beq b 5 then [(0, 0), (3, 0), (4, 0), (5, 0), (6, 0), (15, 0), (21, 0), (22, 0), (23, 0)] else []) else bif Nat.beq f 48 then (bif Nat.beq b 0 then [(5, 1), (6, 0), (18, 0), (19, 0), (20, 0)] else []) else bif Nat.beq f 49 then (bif Nat.beq b 0 then [(0, 0), (11, 0), (12, 0), (13, 0)] else bif Nat.beq b 2 then [(0, 0), (4, 0), (11, 0), (12, 0), (13, 0), (25, 0), (26, 0), (27, 0)] else []) else bif Nat.beq f 51 then (bif Nat.beq b 0 then [(0, 0), (1, 0), (5, 0)] else []) else bif Nat.beq f 52 then (bif Nat.beq b 0 then [(3, 0), (6, 0), (7, 0), (8, 0)] else []) else bif Nat.beq f 53 then (bif Nat.beq b 0 then [(3, 0), (6, 0), (7, 0), (8, 0)] else []) else bif Nat.beq f 56 then (bif Nat.beq b 0 then [(0, 0), (1, 0), (12, 0), (13, 0)] else []) else bif Nat.beq f 57 then (bif Nat.beq b 0 then [(0, 0), (3, 1), (7, 0), (8, 0)] else []) else bif Nat.beq f 64 then (bif Nat.beq b 0 then [(23, 0), (24, 0), (25, 0)] else []) else bif Nat.beq f 152 then (bif Nat.beq b 0 then [(0, 0), (1, 0), (7, 0), (8, 0)] else []) else []
def hKeepB (f b : Nat) : List Nat := bif Nat.beq f 31 then (bif Nat.beq b 0 then [19, 20] else bif Nat.beq b 3 then [6, 19, 20] else bif Nat.beq b 5 then [6, 19, 20] else []) else bif Nat.beq f 48 then (bif Nat.beq b 0 then [15] else []) else bif Nat.beq f 49 then (bif Nat.beq b 2 then [4] else []) else []
def hRsh (f : Nat) : RSh := bif Nat.beq f 9 then (.t .bool) else bif Nat.beq f 31 then (.t (.int .i64)) else bif Nat.beq f 32 then (.t .bool) else bif Nat.beq f 48 then (.tup [(.t (.sl (.arr 2 (.int .i64)))), (.t (.int .i64))]) else bif Nat.beq f 49 then (.t (.int .i64)) else bif Nat.beq f 50 then (.t .str) else bif Nat.beq f 51 then (.t .str) else bif Nat.beq f 52 then (.t (.int .i64)) else bif Nat.beq f 53 then (.t (.int .i64)) else bif Nat.beq f 54 then (.t (.int .i64)) else bif Nat.beq f 55 then (.t (.int .i64)) else bif Nat.beq f 56 then (.t .bool) else bif Nat.beq f 57 then (.t (.sl (.arr 2 (.int .i64)))) else bif Nat.beq f 64 then (.t .bool) else bif Nat.beq f 68 then (.t .str) else bif Nat.beq f 92 then (.t .str) else bif Nat.beq f 95 then (.t .str) else bif Nat.beq f 105 then (.ownrow (.nm 0)) else bif Nat.beq f 106 then .unit else bif Nat.beq f 107 then (.t (.int .i64)) else bif Nat.beq f 108 then (.t (.int .i64)) else bif Nat.beq f 109 then (.t .str) else bif Nat.beq f 110 then (.t (.int .i64)) else bif Nat.beq f 111 then (.t .bool) else bif Nat.beq f 112 then (.t .bool) else bif Nat.beq f 152 then (.t (.int .i64)) else .asis
def hCons (f : Nat) : List Nat := []
def hRow (f : Nat) : List Nat := bif Nat.beq f 57 then [3] else bif Nat.beq f 105 then [2, 5] else []
def hSet (f d : Nat) : List (Nat × Nat) := []
def hPre (f d : Nat) : Nat := bif Nat.beq f 57 then (bif Nat.beq d 2 then 2 else 0) else 0
def hPreT (f d : Nat) : List (Nat × Nat) := []
def H : Hints := { keep := hKeep, keepB := hKeepB, rsh := hRsh, cons := hCons, asagg := hSet, asrow := hRow, mutcap := [], pre := hPre, preT := hPreT }
def gl : Nat → AV E := fun g => bif Nat.beq g 3 then .imm (.arr 20 (.int .u64)) Go.Lib.pow10Tab else .undef

theorem gl_ok {W : World} (h_pow10 : Go.Lib.TabIs Tryd.prog W "internal/strconv.uint64pow10" .u64 Go.Lib.pow10Tab) : GlOK (memOf W) gl := by
  intro g
  cases e_pow10 : Nat.beq g 3 with
  | true =>
    have e := Nat.eq_of_beq_eq_true e_pow10
    subst e
    obtain ⟨cells, h1, h2, h3⟩ := tabIs_gl (E := E) (show Tryd.prog.globalNamed "internal/strconv.uint64pow10" = some 3 by kernel_rfl) h_pow10
    exact .inr ⟨_, _, cells, rfl, h1, h2, h3⟩
  | false =>
  exact .inl (by simp [gl, e_pow10])
def C0 (_ : Nat) : Call2 E := fun _ _ _ => none

/- clapperbridge/fixed.Free$1 -/
noncomputable def fixed_Free_1 (n : Nat) (x0 : FixedField) (x1 : FixedField) : Option Int := F2 (E := E) tt gl H (C0 n) n 107 Tryd.f107 [.t (.nm 0), .t (.nm 0)] (x0, x1, ())
theorem fixed_Free_1_eq (n : Nat) (x0 : FixedField) (x1 : FixedField) : fixed_Free_1 n x0 x1 = (some (IntKind.wrap .i64 (x0.At - x1.At))) := by kernel_rfl
noncomputable def C1 (n : Nat) : Call2 E := more tt gl H (C0 n) n 107 Tryd.f107 [.t (.nm 0), .t (.nm 0)] (C0 n)

/- clapperbridge/value.Name -/
noncomputable def value_Name (n : Nat) (x0 : List UInt8) : Option Bool := F2 (E := E) tt gl H (C1 n) n 64 Tryd.f64 [.t .str] (x0, ())
noncomputable def value_Name_l0 (n : Nat) (m0 : Nat) (v23 : List Int) (v24 : Int) (v25 : Int) : Option Bool := lp (E := E) (ps := [.t .str]) tt gl H (C1 n) n 64 Tryd.f64 [1, 1, 0, 1, 0] [] m0 ⟨mkT 49 0 [(23, .t (.sl (.int .u8)) v23), (24, .t (.int .i64) v24), (25, .t (.int .i64) v25)], mkB 196 0 []⟩
theorem value_Name_l0_eq (n : Nat) (m0 : Nat) (v23 : List Int) (v24 : Int) (v25 : Int) : value_Name_l0 n (m0 + 1) v23 v24 v25 = (bif (decide (v25 < v24)) then (bif (decide (0 ≤ v25) && decide (v25 < List.length v23)) then (bif (decide ((List.getD v23 (Int.toNat v25) (0 : Int)) ≥ 97)) then (bif (decide ((List.getD v23 (Int.toNat v25) (0 : Int)) ≤ 122)) then (value_Name_l0 n m0 v23 v24 (IntKind.wrap .i64 (v25 + 1))) else (bif (decide ((List.getD v23 (Int.toNat v25) (0 : Int)) ≥ 48)) then (bif (decide ((List.getD v23 (Int.toNat v25) (0 : Int)) ≤ 57)) then (value_Name_l0 n m0 v23 v24 (IntKind.wrap .i64 (v25 + 1))) else (bif (!(decide ((List.getD v23 (Int.toNat v25) (0 : Int)) = 45))) then (some false) else (value_Name_l0 n m0 v23 v24 (IntKind.wrap .i64 (v25 + 1))))) else (bif (!(decide ((List.getD v23 (Int.toNat v25) (0 : Int)) = 45))) then (some false) else (value_Name_l0 n m0 v23 v24 (IntKind.wrap .i64 (v25 + 1)))))) else (bif (decide ((List.getD v23 (Int.toNat v25) (0 : Int)) ≥ 48)) then (bif (decide ((List.getD v23 (Int.toNat v25) (0 : Int)) ≤ 57)) then (value_Name_l0 n m0 v23 v24 (IntKind.wrap .i64 (v25 + 1))) else (bif (!(decide ((List.getD v23 (Int.toNat v25) (0 : Int)) = 45))) then (some false) else (value_Name_l0 n m0 v23 v24 (IntKind.wrap .i64 (v25 + 1))))) else (bif (!(decide ((List.getD v23 (Int.toNat v25) (0 : Int)) = 45))) then (some false) else (value_Name_l0 n m0 v23 v24 (IntKind.wrap .i64 (v25 + 1)))))) else none) else (some true)) := by kernel_rfl
theorem value_Name_l0_zero (n : Nat) (v23 : List Int) (v24 : Int) (v25 : Int) : value_Name_l0 n 0 v23 v24 v25 = none := by kernel_rfl
theorem value_Name_l0_fold (n : Nat) (v23 : List Int) (hl : List.length v23 < 9223372036854775807) (m i : Nat) (hi : i ≤ List.length v23) (hm : List.length v23 - i < m) : value_Name_l0 n m v23 (List.length v23 : Int) (i : Int) = foldK (S := Unit) (fun i (a : Int) s K => (bif (decide (a ≥ 97)) then (bif (decide (a ≤ 122)) then (K ()) else (bif (decide (a ≥ 48)) then (bif (decide (a ≤ 57)) then (K ()) else (bif (!(decide (a = 45))) then (some false) else (K ()))) else (bif (!(decide (a = 45))) then (some false) else (K ())))) else (bif (decide (a ≥ 48)) then (bif (decide (a ≤ 57)) then (K ()) else (bif (!(decide (a = 45))) then (some false) else (K ()))) else (bif (!(decide (a = 45))) then (some false) else (K ()))))) (fun s => (some true)) (List.drop i v23) i () := range_loop v23 (0 : Int) hl (fun m (k : Int) (s : Unit) => value_Name_l0 n m v23 (List.length v23 : Int) k) _ _ (fun m i s => (value_Name_l0_eq n m v23 (List.length v23 : Int) (i : Int)).trans (by kernel_rfl)) m i hi hm ()
theorem value_Name_eq (n : Nat) (x0 : List UInt8) : value_Name n x0 = (bif (x0 == []) then (some false) else (bif (decide ((List.length x0 : Int) > 16)) then (some false) else (bif (decide (0 ≤ (0 : Int)) && decide ((0 : Int) < List.length x0)) then (bif (decide (((UInt8.toNat (List.getD x0 (Int.toNat (0 : Int)) 0) : Nat) : Int) < 97)) then (some false) else (bif (decide (0 ≤ (0 : Int)) && decide ((0 : Int) < List.length x0)) then (bif (decide (((UInt8.toNat (List.getD x0 (Int.toNat (0 : Int)) 0) : Nat) : Int) > 122)) then (some false) else (value_Name_l0 n n (ints x0) (List.length (ints x0) : Int) 0)) else none)) else none))) := by kernel_rfl
noncomputable def C2 (n : Nat) : Call2 E := more tt gl H (C1 n) n 64 Tryd.f64 [.t .str] (C1 n)

/- clapperbridge/clapref2.Places -/
noncomputable def ref2_Places (n : Nat) (x0 : FixedField) : Option Int := F2 (E := E) tt gl H (C2 n) n 55 Tryd.f55 [.t (.nm 0)] (x0, ())
theorem ref2_Places_eq (n : Nat) (x0 : FixedField) : ref2_Places n x0 = (bif (decide (x0.Kind < 0)) then (some 0) else (bif (decide (x0.Kind > 2)) then (some 0) else (bif x0.Signed then (bif (decide (x0.Kind = 1)) then (bif (decide (0 ≤ x0.Kind) && decide (x0.Kind < List.length ([0, x0.Wide, (IntKind.wrap .i64 ((IntKind.wrap .i64 ((2 : Int) * x0.Wide)) - 1))] : List Int))) then (some (IntKind.wrap .i64 ((List.getD ([0, x0.Wide, (IntKind.wrap .i64 ((IntKind.wrap .i64 ((2 : Int) * x0.Wide)) - 1))] : List Int) (Int.toNat x0.Kind) (0 : Int)) - 1))) else none) else (bif (decide (0 ≤ x0.Kind) && decide (x0.Kind < List.length ([0, x0.Wide, (IntKind.wrap .i64 ((IntKind.wrap .i64 ((2 : Int) * x0.Wide)) - 1))] : List Int))) then (some (List.getD ([0, x0.Wide, (IntKind.wrap .i64 ((IntKind.wrap .i64 ((2 : Int) * x0.Wide)) - 1))] : List Int) (Int.toNat x0.Kind) (0 : Int))) else none)) else (bif (decide (0 ≤ x0.Kind) && decide (x0.Kind < List.length ([0, x0.Wide, (IntKind.wrap .i64 ((IntKind.wrap .i64 ((2 : Int) * x0.Wide)) - 1))] : List Int))) then (some (List.getD ([0, x0.Wide, (IntKind.wrap .i64 ((IntKind.wrap .i64 ((2 : Int) * x0.Wide)) - 1))] : List Int) (Int.toNat x0.Kind) (0 : Int))) else none)))) := by kernel_rfl
noncomputable def C3 (n : Nat) : Call2 E := more tt gl H (C2 n) n 55 Tryd.f55 [.t (.nm 0)] (C2 n)

/- clapperbridge/clapref2.FieldsErr -/
noncomputable def ref2_FieldsErr (n : Nat) (x0 : List FixedField) : Option Int := F2 (E := E) tt gl H (C3 n) n 31 Tryd.f31 [.t (.sl (.nm 0))] (x0, ())
noncomputable def ref2_FieldsErr_l0 (n : Nat) (m0 : Nat) (v0 : List FixedField) (v21 : List FixedField) (v22 : Int) (v23 : Int) (w19 : List (Int × Int)) (w20 : List ((List UInt8) × Int)) : Option Int := lp (E := E) (ps := [.t (.sl (.nm 0))]) tt gl H (C3 n) n 31 Tryd.f31 [1, 1, 1, 1, 0, 1, 0] [] m0 ⟨mkT 181 0 [(0, .t (.sl (.nm 0)) v0), (3, .mp 19 (.int .i64) (.int .i64)), (4, .mp 20 .str (.int .i64)), (21, .t (.sl (.nm 0)) v21), (22, .t (.int .i64) v22), (23, .t (.int .i64) v23)], mkB 724 0 [(19, .mp (.int .i64) (.int .i64) w19), (20, .mp .str (.int .i64) w20)]⟩
noncomputable def ref2_FieldsErr_l3 (n : Nat) (m0 : Nat) (m1 : Nat) (v0 : List FixedField) (v5 : Int) (v8 : Int) (v9 : Int) (v12 : Int) (v21 : List FixedField) (v22 : Int) (v23 : Int) (w6 : FixedField) (w19 : List (Int × Int)) (w20 : List ((List UInt8) × Int)) : Option Int := lp (E := E) (ps := [.t (.sl (.nm 0))]) tt gl H (C3 n) n 31 Tryd.f31 [1, 1, 1, 1, 0, 1, 0, 0, 1, 1, 0, 0, 1, 1, 1, 1, 1, 0, 1, 0] [m0] m1 ⟨mkT 181 0 [(0, .t (.sl (.nm 0)) v0), (3, .mp 19 (.int .i64) (.int .i64)), (4, .mp 20 .str (.int .i64)), (5, .t (.int .i64) v5), (6, .ptr 6 (.nm 0) []), (8, .t (.int .i64) v8), (9, .t (.int .i64) v9), (12, .t (.int .i64) v12), (21, .t (.sl (.nm 0)) v21), (22, .t (.int .i64) v22), (23, .t (.int .i64) v23)], mkB 724 0 [(6, .var (.nm 0) (.t (.nm 0) w6)), (19, .mp (.int .i64) (.int .i64) w19), (20, .mp .str (.int .i64) w20)]⟩
noncomputable def ref2_FieldsErr_l5 (n : Nat) (m0 : Nat) (m1 : Nat) (v0 : List FixedField) (v5 : Int) (v15 : Int) (v21 : List FixedField) (v22 : Int) (v23 : Int) (w6 : FixedField) (w19 : List (Int × Int)) (w20 : List ((List UInt8) × Int)) : Option Int := lp (E := E) (ps := [.t (.sl (.nm 0))]) tt gl H (C3 n) n 31 Tryd.f31 [1, 1, 1, 1, 0, 1, 0, 0, 1, 1, 0, 0, 1, 1, 1, 1, 1, 1, 1, 1, 1, 1, 0] [m0] m1 ⟨mkT 181 0 [(0, .t (.sl (.nm 0)) v0), (3, .mp 19 (.int .i64) (.int .i64)), (4, .mp 20 .str (.int .i64)), (5, .t (.int .i64) v5), (6, .ptr 6 (.nm 0) []), (15, .t (.int .i64) v15), (21, .t (.sl (.nm 0)) v21), (22, .t (.int .i64) v22), (23, .t (.int .i64) v23)], mkB 724 0 [(6, .var (.nm 0) (.t (.nm 0) w6)), (19, .mp (.int .i64) (.int .i64) w19), (20, .mp .str (.int .i64) w20)]⟩
theorem ref2_FieldsErr_l5_eq (n : Nat) (m0 : Nat) (m1 : Nat) (v0 : List FixedField) (v5 : Int) (v15 : Int) (v21 : List FixedField) (v22 : Int) (v23 : Int) (w6 : FixedField) (w19 : List (Int × Int)) (w20 : List ((List UInt8) × Int)) : ref2_FieldsErr_l5 n m0 (m1 + 1) v0 v5 v15 v21 v22 v23 w6 w19 w20 = (bif (decide (v15 < (IntKind.wrap .i64 (w6.At + w6.Wide)))) then (ref2_FieldsErr_l5 n m0 m1 v0 v5 (IntKind.wrap .i64 (v15 + 1)) v21 v22 v23 w6 (mset E (.int .i64) (.int .i64) v15 v5 w19) w20) else (ref2_FieldsErr_l0 n m0 v0 v21 v22 (IntKind.wrap .i64 (v23 + 1)) w19 w20)) := by kernel_rfl
theorem ref2_FieldsErr_l5_zero (n : Nat) (m0 : Nat) (v0 : List FixedField) (v5 : Int) (v15 : Int) (v21 : List FixedField) (v22 : Int) (v23 : Int) (w6 : FixedField) (w19 : List (Int × Int)) (w20 : List ((List UInt8) × Int)) : ref2_FieldsErr_l5 n m0 0 v0 v5 v15 v21 v22 v23 w6 w19 w20 = none := by kernel_rfl
theorem ref2_FieldsErr_l3_eq (n : Nat) (m0 : Nat) (m1 : Nat) (v0 : List FixedField) (v5 : Int) (v8 : Int) (v9 : Int) (v12 : Int) (v21 : List FixedField) (v22 : Int) (v23 : Int) (w6 : FixedField) (w19 : List (Int × Int)) (w20 : List ((List UInt8) × Int)) : ref2_FieldsErr_l3 n m0 (m1 + 1) v0 v5 v8 v9 v12 v21 v22 v23 w6 w19 w20 = (bif (decide (v12 < (IntKind.wrap .i64 (w6.At + w6.Wide)))) then (bif (Option.isSome (mget E (.int .i64) (.int .i64) w19 v12)) then (ref2_FieldsErr_l3 n m0 m1 v0 v5 v8 (mnI v9 (mgetD E (.int .i64) (.int .i64) w19 v12)) (IntKind.wrap .i64 (v12 + 1)) v21 v22 v23 w6 w19 w20) else (ref2_FieldsErr_l3 n m0 m1 v0 v5 v8 v9 (IntKind.wrap .i64 (v12 + 1)) v21 v22 v23 w6 w19 w20)) else (bif (decide (v8 < (List.length v0 : Int))) then (bif (decide (v8 ≤ v9)) then (some 5) else (bif (decide (v9 < (List.length v0 : Int))) then (some 17) else (ref2_FieldsErr_l5 n m0 n v0 v5 w6.At v21 v22 v23 w6 w19 (mset E .str (.int .i64) w6.Name v5 w20)))) else (bif (decide (v9 < (List.length v0 : Int))) then (some 17) else (ref2_FieldsErr_l5 n m0 n v0 v5 w6.At v21 v22 v23 w6 w19 (mset E .str (.int .i64) w6.Name v5 w20))))) := by kernel_rfl
theorem ref2_FieldsErr_l3_zero (n : Nat) (m0 : Nat) (v0 : List FixedField) (v5 : Int) (v8 : Int) (v9 : Int) (v12 : Int) (v21 : List FixedField) (v22 : Int) (v23 : Int) (w6 : FixedField) (w19 : List (Int × Int)) (w20 : List ((List UInt8) × Int)) : ref2_FieldsErr_l3 n m0 0 v0 v5 v8 v9 v12 v21 v22 v23 w6 w19 w20 = none := by kernel_rfl
theorem ref2_FieldsErr_l0_eq (n : Nat) (m0 : Nat) (v0 : List FixedField) (v21 : List FixedField) (v22 : Int) (v23 : Int) (w19 : List (Int × Int)) (w20 : List ((List UInt8) × Int)) : ref2_FieldsErr_l0 n (m0 + 1) v0 v21 v22 v23 w19 w20 = (bif (decide (v23 < v22)) then (bif (decide (0 ≤ v23) && decide (v23 < List.length v21)) then (Option.bind (value_Name n ((List.getD v21 (Int.toNat v23) (FixedField.mk [] 0 0 0 0 false 0)).Name)) fun r1 => (bif (!r1) then (some 15) else (bif (decide (((List.getD v21 (Int.toNat v23) (FixedField.mk [] 0 0 0 0 false 0)).Kind) < 0)) then (some 8) else (bif (decide (((List.getD v21 (Int.toNat v23) (FixedField.mk [] 0 0 0 0 false 0)).Kind) > 2)) then (some 8) else (bif (decide (((List.getD v21 (Int.toNat v23) (FixedField.mk [] 0 0 0 0 false 0)).At) < 0)) then (some 11) else (bif (decide (((List.getD v21 (Int.toNat v23) (FixedField.mk [] 0 0 0 0 false 0)).At) > 400)) then (some 11) else (bif (decide (((List.getD v21 (Int.toNat v23) (FixedField.mk [] 0 0 0 0 false 0)).Wide) < 1)) then (some 11) else (bif (decide (((List.getD v21 (Int.toNat v23) (FixedField.mk [] 0 0 0 0 false 0)).Wide) > 400)) then (some 11) else (bif (decide ((IntKind.wrap .i64 (((List.getD v21 (Int.toNat v23) (FixedField.mk [] 0 0 0 0 false 0)).At) + ((List.getD v21 (Int.toNat v23) (FixedField.mk [] 0 0 0 0 false 0)).Wide))) > 400)) then (some 11) else (bif (decide (((List.getD v21 (Int.toNat v23) (FixedField.mk [] 0 0 0 0 false 0)).Kind) = 0)) then (bif (List.getD v21 (Int.toNat v23) (FixedField.mk [] 0 0 0 0 false 0)).Signed then (some 3) else (bif (!decide (((List.getD v21 (Int.toNat v23) (FixedField.mk [] 0 0 0 0 false 0)).Scale) = 0)) then (bif (!decide (((List.getD v21 (Int.toNat v23) (FixedField.mk [] 0 0 0 0 false 0)).Scale) = 0)) then (some 3) else (bif (!(decide (((List.getD v21 (Int.toNat v23) (FixedField.mk [] 0 0 0 0 false 0)).Kind) = 0))) then (Option.bind (ref2_Places n (List.getD v21 (Int.toNat v23) (FixedField.mk [] 0 0 0 0 false 0))) fun r2 => (bif (decide (r2 < 1)) then (some 11) else (Option.bind (ref2_Places n (List.getD v21 (Int.toNat v23) (FixedField.mk [] 0 0 0 0 false 0))) fun r3 => (bif (decide (r3 > 15)) then (some 11) else (bif (decide (((List.getD v21 (Int.toNat v23) (FixedField.mk [] 0 0 0 0 false 0)).Scale) < 0)) then (some 11) else (Option.bind (ref2_Places n (List.getD v21 (Int.toNat v23) (FixedField.mk [] 0 0 0 0 false 0))) fun r4 => (bif (decide (((List.getD v21 (Int.toNat v23) (FixedField.mk [] 0 0 0 0 false 0)).Scale) > r4)) then (some 11) else (bif (Option.isSome (mget E .str (.int .i64) w20 ((List.getD v21 (Int.toNat v23) (FixedField.mk [] 0 0 0 0 false 0)).Name))) then (ref2_FieldsErr_l3 n m0 n v0 v23 (mgetD E .str (.int .i64) w20 ((List.getD v21 (Int.toNat v23) (FixedField.mk [] 0 0 0 0 false 0)).Name)) (List.length v0 : Int) ((List.getD v21 (Int.toNat v23) (FixedField.mk [] 0 0 0 0 false 0)).At) v21 v22 v23 (List.getD v21 (Int.toNat v23) (FixedField.mk [] 0 0 0 0 false 0)) w19 w20) else (ref2_FieldsErr_l3 n m0 n v0 v23 (List.length v0 : Int) (List.length v0 : Int) ((List.getD v21 (Int.toNat v23) (FixedField.mk [] 0 0 0 0 false 0)).At) v21 v22 v23 (List.getD v21 (Int.toNat v23) (FixedField.mk [] 0 0 0 0 false 0)) w19 w20))))))))) else (bif (Option.isSome (mget E .str (.int .i64) w20 ((List.getD v21 (Int.toNat v23) (FixedField.mk [] 0 0 0 0 false 0)).Name))) then (ref2_FieldsErr_l3 n m0 n v0 v23 (mgetD E .str (.int .i64) w20 ((List.getD v21 (Int.toNat v23) (FixedField.mk [] 0 0 0 0 false 0)).Name)) (List.length v0 : Int) ((List.getD v21 (Int.toNat v23) (FixedField.mk [] 0 0 0 0 false 0)).At) v21 v22 v23 (List.getD v21 (Int.toNat v23) (FixedField.mk [] 0 0 0 0 false 0)) w19 w20) else (ref2_FieldsErr_l3 n m0 n v0 v23 (List.length v0 : Int) (List.length v0 : Int) ((List.getD v21 (Int.toNat v23) (FixedField.mk [] 0 0 0 0 false 0)).At) v21 v22 v23 (List.getD v21 (Int.toNat v23) (FixedField.mk [] 0 0 0 0 false 0)) w19 w20)))) else (bif (!(decide (((List.getD v21 (Int.toNat v23) (FixedField.mk [] 0 0 0 0 false 0)).Kind) = 0))) then (bif (!decide (((List.getD v21 (Int.toNat v23) (FixedField.mk [] 0 0 0 0 false 0)).Pad) = 0)) then (some 3) else (bif (!(decide (((List.getD v21 (Int.toNat v23) (FixedField.mk [] 0 0 0 0 false 0)).Kind) = 0))) then (Option.bind (ref2_Places n (List.getD v21 (Int.toNat v23) (FixedField.mk [] 0 0 0 0 false 0))) fun r5 => (bif (decide (r5 < 1)) then (some 11) else (Option.bind (ref2_Places n (List.getD v21 (Int.toNat v23) (FixedField.mk [] 0 0 0 0 false 0))) fun r6 => (bif (decide (r6 > 15)) then (some 11) else (bif (decide (((List.getD v21 (Int.toNat v23) (FixedField.mk [] 0 0 0 0 false 0)).Scale) < 0)) then (some 11) else (Option.bind (ref2_Places n (List.getD v21 (Int.toNat v23) (FixedField.mk [] 0 0 0 0 false 0))) fun r7 => (bif (decide (((List.getD v21 (Int.toNat v23) (FixedField.mk [] 0 0 0 0 false 0)).Scale) > r7)) then (some 11) else (bif (Option.isSome (mget E .str (.int .i64) w20 ((List.getD v21 (Int.toNat v23) (FixedField.mk [] 0 0 0 0 false 0)).Name))) then (ref2_FieldsErr_l3 n m0 n v0 v23 (mgetD E .str (.int .i64) w20 ((List.getD v21 (Int.toNat v23) (FixedField.mk [] 0 0 0 0 false 0)).Name)) (List.length v0 : Int) ((List.getD v21 (Int.toNat v23) (FixedField.mk [] 0 0 0 0 false 0)).At) v21 v22 v23 (List.getD v21 (Int.toNat v23) (FixedField.mk [] 0 0 0 0 false 0)) w19 w20) else (ref2_FieldsErr_l3 n m0 n v0 v23 (List.length v0 : Int) (List.length v0 : Int) ((List.getD v21 (Int.toNat v23) (FixedField.mk [] 0 0 0 0 false 0)).At) v21 v22 v23 (List.getD v21 (Int.toNat v23) (FixedField.mk [] 0 0 0 0 false 0)) w19 w20))))))))) else (bif (Option.isSome (mget E .str (.int .i64) w20 ((List.getD v21 (Int.toNat v23) (FixedField.mk [] 0 0 0 0 false 0)).Name))) then (ref2_FieldsErr_l3 n m0 n v0 v23 (mgetD E .str (.int .i64) w20 ((List.getD v21 (Int.toNat v23) (FixedField.mk [] 0 0 0 0 false 0)).Name)) (List.length v0 : Int) ((List.getD v21 (Int.toNat v23) (FixedField.mk [] 0 0 0 0 false 0)).At) v21 v22 v23 (List.getD v21 (Int.toNat v23) (FixedField.mk [] 0 0 0 0 false 0)) w19 w20) else (ref2_FieldsErr_l3 n m0 n v0 v23 (List.length v0 : Int) (List.length v0 : Int) ((List.getD v21 (Int.toNat v23) (FixedField.mk [] 0 0 0 0 false 0)).At) v21 v22 v23 (List.getD v21 (Int.toNat v23) (FixedField.mk [] 0 0 0 0 false 0)) w19 w20)))) else (bif (!(decide (((List.getD v21 (Int.toNat v23) (FixedField.mk [] 0 0 0 0 false 0)).Kind) = 0))) then (Option.bind (ref2_Places n (List.getD v21 (Int.toNat v23) (FixedField.mk [] 0 0 0 0 false 0))) fun r8 => (bif (decide (r8 < 1)) then (some 11) else (Option.bind (ref2_Places n (List.getD v21 (Int.toNat v23) (FixedField.mk [] 0 0 0 0 false 0))) fun r9 => (bif (decide (r9 > 15)) then (some 11) else (bif (decide (((List.getD v21 (Int.toNat v23) (FixedField.mk [] 0 0 0 0 false 0)).Scale) < 0)) then (some 11) else (Option.bind (ref2_Places n (List.getD v21 (Int.toNat v23) (FixedField.mk [] 0 0 0 0 false 0))) fun r10 => (bif (decide (((List.getD v21 (Int.toNat v23) (FixedField.mk [] 0 0 0 0 false 0)).Scale) > r10)) then (some 11) else (bif (Option.isSome (mget E .str (.int .i64) w20 ((List.getD v21 (Int.toNat v23) (FixedField.mk [] 0 0 0 0 false 0)).Name))) then (ref2_FieldsErr_l3 n m0 n v0 v23 (mgetD E .str (.int .i64) w20 ((List.getD v21 (Int.toNat v23) (FixedField.mk [] 0 0 0 0 false 0)).Name)) (List.length v0 : Int) ((List.getD v21 (Int.toNat v23) (FixedField.mk [] 0 0 0 0 false 0)).At) v21 v22 v23 (List.getD v21 (Int.toNat v23) (FixedField.mk [] 0 0 0 0 false 0)) w19 w20) else (ref2_FieldsErr_l3 n m0 n v0 v23 (List.length v0 : Int) (List.length v0 : Int) ((List.getD v21 (Int.toNat v23) (FixedField.mk [] 0 0 0 0 false 0)).At) v21 v22 v23 (List.getD v21 (Int.toNat v23) (FixedField.mk [] 0 0 0 0 false 0)) w19 w20))))))))) else (bif (Option.isSome (mget E .str (.int .i64) w20 ((List.getD v21 (Int.toNat v23) (FixedField.mk [] 0 0 0 0 false 0)).Name))) then (ref2_FieldsErr_l3 n m0 n v0 v23 (mgetD E .str (.int .i64) w20 ((List.getD v21 (Int.toNat v23) (FixedField.mk [] 0 0 0 0 false 0)).Name)) (List.length v0 : Int) ((List.getD v21 (Int.toNat v23) (FixedField.mk [] 0 0 0 0 false 0)).At) v21 v22 v23 (List.getD v21 (Int.toNat v23) (FixedField.mk [] 0 0 0 0 false 0)) w19 w20) else (ref2_FieldsErr_l3 n m0 n v0 v23 (List.length v0 : Int) (List.length v0 : Int) ((List.getD v21 (Int.toNat v23) (FixedField.mk [] 0 0 0 0 false 0)).At) v21 v22 v23 (List.getD v21 (Int.toNat v23) (FixedField.mk [] 0 0 0 0 false 0)) w19 w20)))))) else (bif (!(decide (((List.getD v21 (Int.toNat v23) (FixedField.mk [] 0 0 0 0 false 0)).Kind) = 0))) then (bif (!decide (((List.getD v21 (Int.toNat v23) (FixedField.mk [] 0 0 0 0 false 0)).Pad) = 0)) then (some 3) else (bif (!(decide (((List.getD v21 (Int.toNat v23) (FixedField.mk [] 0 0 0 0 false 0)).Kind) = 0))) then (Option.bind (ref2_Places n (List.getD v21 (Int.toNat v23) (FixedField.mk [] 0 0 0 0 false 0))) fun r11 => (bif (decide (r11 < 1)) then (some 11) else (Option.bind (ref2_Places n (List.getD v21 (Int.toNat v23) (FixedField.mk [] 0 0 0 0 false 0))) fun r12 => (bif (decide (r12 > 15)) then (some 11) else (bif (decide (((List.getD v21 (Int.toNat v23) (FixedField.mk [] 0 0 0 0 false 0)).Scale) < 0)) then (some 11) else (Option.bind (ref2_Places n (List.getD v21 (Int.toNat v23) (FixedField.mk [] 0 0 0 0 false 0))) fun r13 => (bif (decide (((List.getD v21 (Int.toNat v23) (FixedField.mk [] 0 0 0 0 false 0)).Scale) > r13)) then (some 11) else (bif (Option.isSome (mget E .str (.int .i64) w20 ((List.getD v21 (Int.toNat v23) (FixedField.mk [] 0 0 0 0 false 0)).Name))) then (ref2_FieldsErr_l3 n m0 n v0 v23 (mgetD E .str (.int .i64) w20 ((List.getD v21 (Int.toNat v23) (FixedField.mk [] 0 0 0 0 false 0)).Name)) (List.length v0 : Int) ((List.getD v21 (Int.toNat v23) (FixedField.mk [] 0 0 0 0 false 0)).At) v21 v22 v23 (List.getD v21 (Int.toNat v23) (FixedField.mk [] 0 0 0 0 false 0)) w19 w20) else (ref2_FieldsErr_l3 n m0 n v0 v23 (List.length v0 : Int) (List.length v0 : Int) ((List.getD v21 (Int.toNat v23) (FixedField.mk [] 0 0 0 0 false 0)).At) v21 v22 v23 (List.getD v21 (Int.toNat v23) (FixedField.mk [] 0 0 0 0 false 0)) w19 w20))))))))) else (bif (Option.isSome (mget E .str (.int .i64) w20 ((List.getD v21 (Int.toNat v23) (FixedField.mk [] 0 0 0 0 false 0)).Name))) then (ref2_FieldsErr_l3 n m0 n v0 v23 (mgetD E .str (.int .i64) w20 ((List.getD v21 (Int.toNat v23) (FixedField.mk [] 0 0 0 0 false 0)).Name)) (List.length v0 : Int) ((List.getD v21 (Int.toNat v23) (FixedField.mk [] 0 0 0 0 false 0)).At) v21 v22 v23 (List.getD v21 (Int.toNat v23) (FixedField.mk [] 0 0 0 0 false 0)) w19 w20) else (ref2_FieldsErr_l3 n m0 n v0 v23 (List.length v0 : Int) (List.length v0 : Int) ((List.getD v21 (Int.toNat v23) (FixedField.mk [] 0 0 0 0 false 0)).At) v21 v22 v23 (List.getD v21 (Int.toNat v23) (FixedField.mk [] 0 0 0 0 false 0)) w19 w20)))) else (bif (!(decide (((List.getD v21 (Int.toNat v23) (FixedField.mk [] 0 0 0 0 false 0)).Kind) = 0))) then (Option.bind (ref2_Places n (List.getD v21 (Int.toNat v23) (FixedField.mk [] 0 0 0 0 false 0))) fun r14 => (bif (decide (r14 < 1)) then (some 11) else (Option.bind (ref2_Places n (List.getD v21 (Int.toNat v23) (FixedField.mk [] 0 0 0 0 false 0))) fun r15 => (bif (decide (r15 > 15)) then (some 11) else (bif (decide (((List.getD v21 (Int.toNat v23) (FixedField.mk [] 0 0 0 0 false 0)).Scale) < 0)) then (some 11) else (Option.bind (ref2_Places n (List.getD v21 (Int.toNat v23) (FixedField.mk [] 0 0 0 0 false 0))) fun r16 => (bif (decide (((List.getD v21 (Int.toNat v23) (FixedField.mk [] 0 0 0 0 false 0)).Scale) > r16)) then (some 11) else (bif (Option.isSome (mget E .str (.int .i64) w20 ((List.getD v21 (Int.toNat v23) (FixedField.mk [] 0 0 0 0 false 0)).Name))) then (ref2_FieldsErr_l3 n m0 n v0 v23 (mgetD E .str (.int .i64) w20 ((List.getD v21 (Int.toNat v23) (FixedField.mk [] 0 0 0 0 false 0)).Name)) (List.length v0 : Int) ((List.getD v21 (Int.toNat v23) (FixedField.mk [] 0 0 0 0 false 0)).At) v21 v22 v23 (List.getD v21 (Int.toNat v23) (FixedField.mk [] 0 0 0 0 false 0)) w19 w20) else (ref2_FieldsErr_l3 n m0 n v0 v23 (List.length v0 : Int) (List.length v0 : Int) ((List.getD v21 (Int.toNat v23) (FixedField.mk [] 0 0 0 0 false 0)).At) v21 v22 v23 (List.getD v21 (Int.toNat v23) (FixedField.mk [] 0 0 0 0 false 0)) w19 w20))))))))) else (bif (Option.isSome (mget E .str (.int .i64) w20 ((List.getD v21 (Int.toNat v23) (FixedField.mk [] 0 0 0 0 false 0)).Name))) then (ref2_FieldsErr_l3 n m0 n v0 v23 (mgetD E .str (.int .i64) w20 ((List.getD v21 (Int.toNat v23) (FixedField.mk [] 0 0 0 0 false 0)).Name)) (List.length v0 : Int) ((List.getD v21 (Int.toNat v23) (FixedField.mk [] 0 0 0 0 false 0)).At) v21 v22 v23 (List.getD v21 (Int.toNat v23) (FixedField.mk [] 0 0 0 0 false 0)) w19 w20) else (ref2_FieldsErr_l3 n m0 n v0 v23 (List.length v0 : Int) (List.length v0 : Int) ((List.getD v21 (Int.toNat v23) (FixedField.mk [] 0 0 0 0 false 0)).At) v21 v22 v23 (List.getD v21 (Int.toNat v23) (FixedField.mk [] 0 0 0 0 false 0)) w19 w20)))))))))))))) else none) else (some 0)) := by kernel_rfl
theorem ref2_FieldsErr_l0_zero (n : Nat) (v0 : List FixedField) (v21 : List FixedField) (v22 : Int) (v23 : Int) (w19 : List (Int × Int)) (w20 : List ((List UInt8) × Int)) : ref2_FieldsErr_l0 n 0 v0 v21 v22 v23 w19 w20 = none := by kernel_rfl
theorem ref2_FieldsErr_eq (n : Nat) (x0 : List FixedField) : ref2_FieldsErr n x0 = (bif (decide ((List.length x0 : Int) > 24)) then (some 2) else (ref2_FieldsErr_l0 n n x0 x0 (List.length x0 : Int) 0 [] [])) := by kernel_rfl
noncomputable def C4 (n : Nat) : Call2 E := more tt gl H (C3 n) n 31 Tryd.f31 [.t (.sl (.nm 0))] (C3 n)

/- clapperbridge/fixed.Digits -/
noncomputable def fixed_Digits (n : Nat) (x0 : FixedField) : Option Int := F2 (E := E) tt gl H (C4 n) n 54 Tryd.f54 [.t (.nm 0)] (x0, ())
theorem fixed_Digits_eq (n : Nat) (x0 : FixedField) : fixed_Digits n x0 = (bif (decide (x0.Kind = 1)) then (bif x0.Signed then (some (IntKind.wrap .i64 (x0.Wide - 1))) else (some x0.Wide)) else (bif (decide (x0.Kind = 2)) then (some (IntKind.wrap .i64 ((IntKind.wrap .i64 ((2 : Int) * x0.Wide)) - 1))) else (some 0))) := by kernel_rfl
noncomputable def C5 (n : Nat) : Call2 E := more tt gl H (C4 n) n 54 Tryd.f54 [.t (.nm 0)] (C4 n)

/- clapperbridge/fixed.one -/
noncomputable def fixed_one (n : Nat) (x0 : FixedField) : Option Int := F2 (E := E) tt gl H (C5 n) n 108 Tryd.f108 [.t (.nm 0)] (x0, ())
theorem fixed_one_eq (n : Nat) (x0 : FixedField) : fixed_one n x0 = (Option.bind (value_Name n x0.Name) fun r1 => (bif (!r1) then (some 15) else (bif (decide (x0.Kind < 0)) then (some 8) else (bif (decide (x0.Kind ≥ 3)) then (some 8) else (bif (decide (x0.At < 0)) then (some 11) else (bif (decide (x0.Wide < 1)) then (some 11) else (bif (decide (x0.At > 400)) then (some 11) else (bif (decide (x0.Wide > (IntKind.wrap .i64 ((400 : Int) - x0.At)))) then (some 11) else (bif (decide (x0.Kind = 0)) then (bif x0.Signed then (some 3) else (bif (!decide (x0.Scale = 0)) then (some 3) else (bif (!decide (x0.Kind = 0)) then (bif (!decide (x0.Pad = 0)) then (some 3) else (bif (!decide (x0.Kind = 0)) then (Option.bind (fixed_Digits n x0) fun r2 => (bif (decide (r2 < 1)) then (some 11) else (Option.bind (fixed_Digits n x0) fun r3 => (bif (decide (r3 > 15)) then (some 11) else (bif (decide (x0.Scale < 0)) then (some 11) else (Option.bind (fixed_Digits n x0) fun r4 => (bif (decide (x0.Scale > r4)) then (some 11) else (some 0)))))))) else (some 0))) else (bif (!decide (x0.Kind = 0)) then (Option.bind (fixed_Digits n x0) fun r5 => (bif (decide (r5 < 1)) then (some 11) else (Option.bind (fixed_Digits n x0) fun r6 => (bif (decide (r6 > 15)) then (some 11) else (bif (decide (x0.Scale < 0)) then (some 11) else (Option.bind (fixed_Digits n x0) fun r7 => (bif (decide (x0.Scale > r7)) then (some 11) else (some 0)))))))) else (some 0))))) else (bif (!decide (x0.Kind = 0)) then (bif (!decide (x0.Pad = 0)) then (some 3) else (bif (!decide (x0.Kind = 0)) then (Option.bind (fixed_Digits n x0) fun r8 => (bif (decide (r8 < 1)) then (some 11) else (Option.bind (fixed_Digits n x0) fun r9 => (bif (decide (r9 > 15)) then (some 11) else (bif (decide (x0.Scale < 0)) then (some 11) else (Option.bind (fixed_Digits n x0) fun r10 => (bif (decide (x0.Scale > r10)) then (some 11) else (some 0)))))))) else (some 0))) else (bif (!decide (x0.Kind = 0)) then (Option.bind (fixed_Digits n x0) fun r11 => (bif (decide (r11 < 1)) then (some 11) else (Option.bind (fixed_Digits n x0) fun r12 => (bif (decide (r12 > 15)) then (some 11) else (bif (decide (x0.Scale < 0)) then (some 11) else (Option.bind (fixed_Digits n x0) fun r13 => (bif (decide (x0.Scale > r13)) then (some 11) else (some 0)))))))) else (some 0)))))))))))) := by kernel_rfl
noncomputable def C6 (n : Nat) : Call2 E := more tt gl H (C5 n) n 108 Tryd.f108 [.t (.nm 0)] (C5 n)

/- clapperbridge/fixed.Check -/
noncomputable def fixed_Check (n : Nat) (x0 : List FixedField) : Option Int := F2 (E := E) tt gl H (C6 n) n 49 Tryd.f49 [.t (.sl (.nm 0))] (x0, ())
noncomputable def fixed_Check_l0 (n : Nat) (m0 : Nat) (v0 : List FixedField) (v11 : List FixedField) (v12 : Int) (v13 : Int) : Option Int := lp (E := E) (ps := [.t (.sl (.nm 0))]) tt gl H (C6 n) n 49 Tryd.f49 [1, 1, 0, 1, 0] [] m0 ⟨mkT 56 0 [(0, .t (.sl (.nm 0)) v0), (11, .t (.sl (.nm 0)) v11), (12, .t (.int .i64) v12), (13, .t (.int .i64) v13)], mkB 224 0 []⟩
noncomputable def fixed_Check_l2 (n : Nat) (m0 : Nat) (m1 : Nat) (v0 : List FixedField) (v11 : List FixedField) (v12 : Int) (v13 : Int) (v25 : List FixedField) (v26 : Int) (v27 : Int) (w4 : FixedField) : Option Int := lp (E := E) (ps := [.t (.sl (.nm 0))]) tt gl H (C6 n) n 49 Tryd.f49 [1, 1, 0, 1, 0, 0, 1, 1, 0, 0, 1, 1, 1, 0] [m0] m1 ⟨mkT 56 0 [(0, .t (.sl (.nm 0)) v0), (4, .ptr 4 (.nm 0) []), (11, .t (.sl (.nm 0)) v11), (12, .t (.int .i64) v12), (13, .t (.int .i64) v13), (25, .t (.sl (.nm 0)) v25), (26, .t (.int .i64) v26), (27, .t (.int .i64) v27)], mkB 224 0 [(4, .var (.nm 0) (.t (.nm 0) w4))]⟩
theorem fixed_Check_l2_eq (n : Nat) (m0 : Nat) (m1 : Nat) (v0 : List FixedField) (v11 : List FixedField) (v12 : Int) (v13 : Int) (v25 : List FixedField) (v26 : Int) (v27 : Int) (w4 : FixedField) : fixed_Check_l2 n m0 (m1 + 1) v0 v11 v12 v13 v25 v26 v27 w4 = (bif (decide (v27 < v26)) then (bif (decide (0 ≤ v27) && decide (v27 < List.length v25)) then (bif (((List.getD v25 (Int.toNat v27) (FixedField.mk [] 0 0 0 0 false 0)).Name) == w4.Name) then (some 5) else (bif (decide (w4.At < (IntKind.wrap .i64 (((List.getD v25 (Int.toNat v27) (FixedField.mk [] 0 0 0 0 false 0)).At) + ((List.getD v25 (Int.toNat v27) (FixedField.mk [] 0 0 0 0 false 0)).Wide))))) then (bif (decide (((List.getD v25 (Int.toNat v27) (FixedField.mk [] 0 0 0 0 false 0)).At) < (IntKind.wrap .i64 (w4.At + w4.Wide)))) then (some 17) else (fixed_Check_l2 n m0 m1 v0 v11 v12 v13 v25 v26 (IntKind.wrap .i64 (v27 + 1)) w4)) else (fixed_Check_l2 n m0 m1 v0 v11 v12 v13 v25 v26 (IntKind.wrap .i64 (v27 + 1)) w4))) else none) else (fixed_Check_l0 n m0 v0 v11 v12 (IntKind.wrap .i64 (v13 + 1)))) := by kernel_rfl
theorem fixed_Check_l2_zero (n : Nat) (m0 : Nat) (v0 : List FixedField) (v11 : List FixedField) (v12 : Int) (v13 : Int) (v25 : List FixedField) (v26 : Int) (v27 : Int) (w4 : FixedField) : fixed_Check_l2 n m0 0 v0 v11 v12 v13 v25 v26 v27 w4 = none := by kernel_rfl
theorem fixed_Check_l2_fold (n : Nat) (m0 : Nat) (v0 : List FixedField) (v11 : List FixedField) (v12 : Int) (v13 : Int) (v25 : List FixedField) (w4 : FixedField) (hl : List.length v25 < 9223372036854775807) (m i : Nat) (hi : i ≤ List.length v25) (hm : List.length v25 - i < m) : fixed_Check_l2 n m0 m v0 v11 v12 v13 v25 (List.length v25 : Int) (i : Int) w4 = foldK (S := Unit) (fun i (a : FixedField) s K => (bif ((a.Name) == w4.Name) then (some 5) else (bif (decide (w4.At < (IntKind.wrap .i64 ((a.At) + (a.Wide))))) then (bif (decide ((a.At) < (IntKind.wrap .i64 (w4.At + w4.Wide)))) then (some 17) else (K ())) else (K ())))) (fun s => (fixed_Check_l0 n m0 v0 v11 v12 (IntKind.wrap .i64 (v13 + 1)))) (List.drop i v25) i () := range_loop v25 (FixedField.mk [] 0 0 0 0 false 0) hl (fun m (k : Int) (s : Unit) => fixed_Check_l2 n m0 m v0 v11 v12 v13 v25 (List.length v25 : Int) k w4) _ _ (fun m i s => (fixed_Check_l2_eq n m0 m v0 v11 v12 v13 v25 (List.length v25 : Int) (i : Int) w4).trans (by kernel_rfl)) m i hi hm ()
theorem fixed_Check_l0_eq (n : Nat) (m0 : Nat) (v0 : List FixedField) (v11 : List FixedField) (v12 : Int) (v13 : Int) : fixed_Check_l0 n (m0 + 1) v0 v11 v12 v13 = (bif (decide (v13 < v12)) then (bif (decide (0 ≤ v13) && decide (v13 < List.length v11)) then (Option.bind (fixed_one n (List.getD v11 (Int.toNat v13) (FixedField.mk [] 0 0 0 0 false 0))) fun r1 => (bif (!decide (r1 = 0)) then (some r1) else (bif (decide (0 ≤ v13) && decide (v13 ≤ (List.length v0))) then (fixed_Check_l2 n m0 n v0 v11 v12 v13 (List.take (Int.toNat v13) v0) (List.length (List.take (Int.toNat v13) v0) : Int) 0 (List.getD v11 (Int.toNat v13) (FixedField.mk [] 0 0 0 0 false 0))) else none))) else none) else (some 0)) := by kernel_rfl
theorem fixed_Check_l0_zero (n : Nat) (v0 : List FixedField) (v11 : List FixedField) (v12 : Int) (v13 : Int) : fixed_Check_l0 n 0 v0 v11 v12 v13 = none := by kernel_rfl
theorem fixed_Check_eq (n : Nat) (x0 : List FixedField) : fixed_Check n x0 = (bif (decide ((List.length x0 : Int) > 24)) then (some 2) else (fixed_Check_l0 n n x0 x0 (List.length x0 : Int) 0)) := by kernel_rfl
noncomputable def C7 (n : Nat) : Call2 E := more tt gl H (C6 n) n 49 Tryd.f49 [.t (.sl (.nm 0))] (C6 n)

/- slices.Clone[[]clapperbridge/fixed.Field,clapperbridge/fixed.Field] -/
noncomputable def slices_Clone_Field_nil (n : Nat) (x0 : Unit) : Option (List FixedField) := F2 (E := E) tt gl H (C7 n) n 105 Tryd.f105 [.snil (.nm 0)] ((), ())
theorem slices_Clone_Field_nil_eq (n : Nat) (x0 : Unit) : slices_Clone_Field_nil n x0 = (some []) := by kernel_rfl
noncomputable def C8 (n : Nat) : Call2 E := more tt gl H (C7 n) n 105 Tryd.f105 [.snil (.nm 0)] (C7 n)

/- slices.Clone[[]clapperbridge/fixed.Field,clapperbridge/fixed.Field] -/
noncomputable def slices_Clone_Field_nn (n : Nat) (x0 : List FixedField) : Option (List FixedField) := F2 (E := E) tt gl H (C7 n) n 105 Tryd.f105 [.snn (.nm 0)] (x0, ())
theorem slices_Clone_Field_nn_eq (n : Nat) (x0 : List FixedField) : slices_Clone_Field_nn n x0 = (bif (decide (0 = List.length ([] : List FixedField)) && decide (List.length ([] : List FixedField) + List.length x0 ≤ 4294967296)) then (bif (decide ((List.length (([] : List FixedField) ++ x0)) = List.length (([] : List FixedField) ++ x0))) then (some (([] : List FixedField) ++ x0)) else none) else none) := by kernel_rfl
theorem slices_Clone_Field_nn_hq (n : Nat) : slices_Clone_Field_nil n () = slices_Clone_Field_nn n [] := (slices_Clone_Field_nil_eq n ()).trans (Eq.symm ((slices_Clone_Field_nn_eq n []).trans (by kernel_rfl)))
noncomputable def C9 (n : Nat) : Call2 E := moreN tt gl H (C7 n) n 105 Tryd.f105 (.nm 0) (C8 n)
def srt106_ren : Go.Shelf.Ren := ⟨fun | 6 => 106 | 15 => 150 | 14 => 149 | 28 => 180 | 29 => 181 | 20 => 172 | 21 => 173 | 22 => 174 | 23 => 175 | 24 => 176 | 25 => 177 | 26 => 178 | 27 => 179 | 46 => 198 | 47 => 199 | 48 => 200 | 49 => 201 | 50 => 202 | 57 => 208 | n => n, fun | 22 => 55 | 24 => 87 | 25 => 151 | 3 => 3 | 39 => 174 | 0 => 0 | 53 => 200 | 55 => 154 | 4 => 4 | 46 => 211 | 45 => 210 | 50 => 69 | 5 => 5 | 9 => 9 | 66 => 233 | 70 => 237 | 76 => 245 | 77 => 116 | n => n, fun | n => n⟩
theorem srt106 : Go.Proofs.SlLaysF0.n6 Tryd.prog srt106_ren := {
  mixed := by kernel_rfl
  f6 := ⟨"slices.SortFunc[[]clapperbridge/fixed.Field,clapperbridge/fixed.Field]", by decide, Tryd.func106.trans (congrArg some (by kernel_rfl))⟩
  f14 := ⟨"slices.pdqsortCmpFunc[clapperbridge/fixed.Field]", by decide, Tryd.func149.trans (congrArg some (by kernel_rfl))⟩
  f15 := Tryd.func150.trans (congrArg some (by kernel_rfl))
  f20 := ⟨"slices.insertionSortCmpFunc[clapperbridge/fixed.Field]", by decide, Tryd.func172.trans (congrArg some (by kernel_rfl))⟩
  f21 := ⟨"slices.heapSortCmpFunc[clapperbridge/fixed.Field]", by decide, Tryd.func173.trans (congrArg some (by kernel_rfl))⟩
  f22 := ⟨"slices.breakPatternsCmpFunc[clapperbridge/fixed.Field]", by decide, Tryd.func174.trans (congrArg some (by kernel_rfl))⟩
  f23 := ⟨"slices.choosePivotCmpFunc[clapperbridge/fixed.Field]", by decide, Tryd.func175.trans (congrArg some (by kernel_rfl))⟩
  f24 := ⟨"slices.reverseRangeCmpFunc[clapperbridge/fixed.Field]", by decide, Tryd.func176.trans (congrArg some (by kernel_rfl))⟩
  f25 := ⟨"slices.partialInsertionSortCmpFunc[clapperbridge/fixed.Field]", by decide, Tryd.func177.trans (congrArg some (by kernel_rfl))⟩
  f26 := ⟨"slices.partitionEqualCmpFunc[clapperbridge/fixed.Field]", by decide, Tryd.func178.trans (congrArg some (by kernel_rfl))⟩
  f27 := ⟨"slices.partitionCmpFunc[clapperbridge/fixed.Field]", by decide, Tryd.func179.trans (congrArg some (by kernel_rfl))⟩
  f28 := Tryd.func180.trans (congrArg some (by kernel_rfl))
  f29 := Tryd.func181.trans (congrArg some (by kernel_rfl))
  f46 := ⟨"slices.siftDownCmpFunc[clapperbridge/fixed.Field]", by decide, Tryd.func198.trans (congrArg some (by kernel_rfl))⟩
  f47 := Tryd.func199.trans (congrArg some (by kernel_rfl))
  f48 := Tryd.func200.trans (congrArg some (by kernel_rfl))
  f49 := ⟨"slices.medianAdjacentCmpFunc[clapperbridge/fixed.Field]", by decide, Tryd.func201.trans (congrArg some (by kernel_rfl))⟩
  f50 := ⟨"slices.medianCmpFunc[clapperbridge/fixed.Field]", by decide, Tryd.func202.trans (congrArg some (by kernel_rfl))⟩
  f57 := ⟨"slices.order2CmpFunc[clapperbridge/fixed.Field]", by decide, Tryd.func208.trans (congrArg some (by kernel_rfl))⟩
  t0 := Tryd.underlying0
  a0 := Tryd.isAgg0
  z0 := Tryd.sizeOf0
  v0 := Tryd.zeroValue0
  t3 := Tryd.underlying3
  a3 := Tryd.isAgg3
  z3 := Tryd.sizeOf3
  v3 := Tryd.zeroValue3
  t4 := Tryd.underlying4
  a4 := Tryd.isAgg4
  z4 := Tryd.sizeOf4
  v4 := Tryd.zeroValue4
  t5 := Tryd.underlying5
  a5 := Tryd.isAgg5
  z5 := Tryd.sizeOf5
  v5 := Tryd.zeroValue5
  t9 := Tryd.underlying9
  a9 := Tryd.isAgg9
  z9 := Tryd.sizeOf9
  v9 := Tryd.zeroValue9
  t22 := Tryd.underlying55
  a22 := Tryd.isAgg55
  z22 := Tryd.sizeOf55
  v22 := Tryd.zeroValue55
  t25 := Tryd.underlying151
  a25 := Tryd.isAgg151
  z25 := Tryd.sizeOf151
  v25 := Tryd.zeroValue151
  t39 := Tryd.underlying174
  a39 := Tryd.isAgg174
  z39 := Tryd.sizeOf174
  v39 := Tryd.zeroValue174
  t45 := Tryd.underlying210
  a45 := Tryd.isAgg210
  z45 := Tryd.sizeOf210
  v45 := Tryd.zeroValue210
  t46 := Tryd.underlying211
  a46 := Tryd.isAgg211
  z46 := Tryd.sizeOf211
  v46 := Tryd.zeroValue211
  t50 := Tryd.underlying69
  a50 := Tryd.isAgg69
  z50 := Tryd.sizeOf69
  v50 := Tryd.zeroValue69
  t53 := Tryd.underlying200
  a53 := Tryd.isAgg200
  z53 := Tryd.sizeOf200
  v53 := Tryd.zeroValue200
  t55 := Tryd.underlying154
  a55 := Tryd.isAgg154
  z55 := Tryd.sizeOf154
  v55 := Tryd.zeroValue154
  t66 := Tryd.underlying233
  a66 := Tryd.isAgg233
  z66 := Tryd.sizeOf233
  v66 := Tryd.zeroValue233
  t70 := Tryd.underlying237
  a70 := Tryd.isAgg237
  z70 := Tryd.sizeOf237
  v70 := Tryd.zeroValue237
  t76 := Tryd.underlying245
  a76 := Tryd.isAgg245
  z76 := Tryd.sizeOf245
  v76 := Tryd.zeroValue245
  t77 := Tryd.underlying116
  a77 := Tryd.isAgg116
  z77 := Tryd.sizeOf116
  v77 := Tryd.zeroValue116 }
theorem fnok106 : FnOK Tryd.prog 106 := ⟨Tryd.f106, _, Tryd.func106, by decide, rfl⟩
theorem sortc106 [Quiet] : SortC Tryd.prog 106 true (size E (.nm 0)) := sortCK srt106 (size E (.nm 0)) (fun w => Tryd.isAgg87 w) (fun w => Tryd.sizeOf87 w)
noncomputable def C10 (n : Nat) : Call2 E := moreS 106 (.nm 0) (C1 n) (C9 n)

/- clapperbridge/fixed.Free -/
noncomputable def fixed_Free (n : Nat) (x0 : List FixedField) : Option (List (List Int) × Int) := F2 (E := E) tt gl H (C10 n) n 48 Tryd.f48 [.t (.sl (.nm 0))] (x0, ())
noncomputable def fixed_Free_l0 (n : Nat) (m0 : Nat) (v5 : List (List Int)) (v6 : Int) (v18l : Nat) (v19 : Int) (v20 : Int) (w15 : List FixedField) : Option (List (List Int) × Int) := lp (E := E) (ps := [.t (.sl (.nm 0))]) tt gl H (C10 n) n 48 Tryd.f48 [1, 1, 1, 1, 1, 1, 0, 1, 0] [] m0 ⟨mkT 42 0 [(5, .sl 21 (.arr 2 (.int .i64)) v5), (6, .t (.int .i64) v6), (18, .fs 15 (.nm 0) 0 v18l), (19, .t (.int .i64) v19), (20, .t (.int .i64) v20)], mkB 168 0 [(15, .row (.nm 0) w15), (21, .grow (.arr 2 (.int .i64)) (List.length v5))]⟩
theorem fixed_Free_l0_eq (n : Nat) (m0 : Nat) (v5 : List (List Int)) (v6 : Int) (v18l : Nat) (v19 : Int) (v20 : Int) (w15 : List FixedField) : fixed_Free_l0 n (m0 + 1) v5 v6 v18l v19 v20 w15 = (bif (decide (v20 < v19)) then (bif (decide (0 ≤ v20) && decide (v20 < (v18l : Int))) then (bif (decide ((0 + (Int.toNat v20)) < List.length w15)) then (bif (decide (((List.getD w15 (0 + (Int.toNat v20)) (FixedField.mk [] 0 0 0 0 false 0)).At) > v6)) then (bif (decide ((List.length v5) = List.length v5) && decide (List.length v5 + List.length ([[v6, (List.getD w15 (0 + (Int.toNat v20)) (FixedField.mk [] 0 0 0 0 false 0)).At]] : List (List Int)) ≤ 4294967296)) then (fixed_Free_l0 n m0 (v5 ++ [[v6, (List.getD w15 (0 + (Int.toNat v20)) (FixedField.mk [] 0 0 0 0 false 0)).At]]) (IntKind.wrap .i64 (((List.getD w15 (0 + (Int.toNat v20)) (FixedField.mk [] 0 0 0 0 false 0)).At) + ((List.getD w15 (0 + (Int.toNat v20)) (FixedField.mk [] 0 0 0 0 false 0)).Wide))) v18l v19 (IntKind.wrap .i64 (v20 + 1)) w15) else none) else (fixed_Free_l0 n m0 v5 (IntKind.wrap .i64 (((List.getD w15 (0 + (Int.toNat v20)) (FixedField.mk [] 0 0 0 0 false 0)).At) + ((List.getD w15 (0 + (Int.toNat v20)) (FixedField.mk [] 0 0 0 0 false 0)).Wide))) v18l v19 (IntKind.wrap .i64 (v20 + 1)) w15)) else none) else none) else (some (v5, 0))) := by kernel_rfl
theorem fixed_Free_l0_zero (n : Nat) (v5 : List (List Int)) (v6 : Int) (v18l : Nat) (v19 : Int) (v20 : Int) (w15 : List FixedField) : fixed_Free_l0 n 0 v5 v6 v18l v19 v20 w15 = none := by kernel_rfl
theorem fixed_Free_l0_fold (n : Nat) (v18l : Nat) (w15 : List FixedField) (N : Nat) (v5 : List (List Int)) (v6 : Int) (hl : N < 9223372036854775807) (m i : Nat) (hi : i ≤ N) (hm : N - i < m) : fixed_Free_l0 n m v5 v6 v18l (N : Int) (i : Int) w15 = foldN (S := (List (List Int)) × Int) (fun i s K => (bif (decide (0 ≤ (i : Int)) && decide ((i : Int) < (v18l : Int))) then (bif (decide ((0 + (Int.toNat (i : Int))) < List.length w15)) then (bif (decide (((List.getD w15 (0 + (Int.toNat (i : Int))) (FixedField.mk [] 0 0 0 0 false 0)).At) > s.2)) then (bif (decide ((List.length s.1) = List.length s.1) && decide (List.length s.1 + List.length ([[s.2, (List.getD w15 (0 + (Int.toNat (i : Int))) (FixedField.mk [] 0 0 0 0 false 0)).At]] : List (List Int)) ≤ 4294967296)) then (K ((s.1 ++ [[s.2, (List.getD w15 (0 + (Int.toNat (i : Int))) (FixedField.mk [] 0 0 0 0 false 0)).At]]), (IntKind.wrap .i64 (((List.getD w15 (0 + (Int.toNat (i : Int))) (FixedField.mk [] 0 0 0 0 false 0)).At) + ((List.getD w15 (0 + (Int.toNat (i : Int))) (FixedField.mk [] 0 0 0 0 false 0)).Wide))))) else none) else (K (s.1, (IntKind.wrap .i64 (((List.getD w15 (0 + (Int.toNat (i : Int))) (FixedField.mk [] 0 0 0 0 false 0)).At) + ((List.getD w15 (0 + (Int.toNat (i : Int))) (FixedField.mk [] 0 0 0 0 false 0)).Wide)))))) else none) else none)) (fun s => (some (s.1, 0))) (N - i) i (v5, v6) := count_loop N hl (fun m (k : Int) (s : (List (List Int)) × Int) => fixed_Free_l0 n m s.1 s.2 v18l (N : Int) k w15) _ _ (fun m i s => (fixed_Free_l0_eq n m s.1 s.2 v18l (N : Int) (i : Int) w15).trans (by kernel_rfl)) m i hi hm (v5, v6)
theorem fixed_Free_eq (n : Nat) (x0 : List FixedField) : fixed_Free n x0 = (Option.bind (fixed_Check n x0) fun r1 => (bif (!decide (r1 = 0)) then (some ([], r1)) else (Option.bind (slices_Clone_Field_nn n x0) fun r2 => (Option.bind (sortO (fun a b => Option.bind (fixed_Free_1 n a b) fun r => some r) (List.take (List.length r2) r2)) fun r3 => (fixed_Free_l0 n n [] 0 (List.length r2) ((List.length r2) : Int) 0 (over r2 r3 0)))))) := by kernel_rfl
noncomputable def C11 (n : Nat) : Call2 E := more tt gl H (C10 n) n 48 Tryd.f48 [.t (.sl (.nm 0))] (C10 n)
/-! strconv.FormatUint at base 10. -/
section
open Go.Shelf Go.RowKit Go.Sort Go.Lib
def und151_ren : Go.Shelf.Ren := ⟨fun | 284 => 183 | 129 => 181 | 317 => 203 | 318 => 204 | n => n, fun | 53 => 154 | 3 => 3 | 212 => 239 | 0 => 0 | 4 => 4 | 46 => 174 | 5 => 5 | 9 => 9 | n => n, fun | 17 => 3 | n => n⟩
theorem und151 : Go.Proofs.LaysM.n284 Tryd.prog und151_ren := {
  mixed := by kernel_rfl
  f129 := Tryd.func181.trans (congrArg some (by kernel_rfl))
  f284 := Tryd.func183.trans (congrArg some (by kernel_rfl))
  f317 := Tryd.func203.trans (congrArg some (by kernel_rfl))
  f318 := Tryd.func204.trans (congrArg some (by kernel_rfl))
  t0 := Tryd.underlying0
  a0 := Tryd.isAgg0
  z0 := Tryd.sizeOf0
  v0 := Tryd.zeroValue0
  t3 := Tryd.underlying3
  a3 := Tryd.isAgg3
  z3 := Tryd.sizeOf3
  v3 := Tryd.zeroValue3
  t4 := Tryd.underlying4
  a4 := Tryd.isAgg4
  z4 := Tryd.sizeOf4
  v4 := Tryd.zeroValue4
  t5 := Tryd.underlying5
  a5 := Tryd.isAgg5
  z5 := Tryd.sizeOf5
  v5 := Tryd.zeroValue5
  t9 := Tryd.underlying9
  a9 := Tryd.isAgg9
  z9 := Tryd.sizeOf9
  v9 := Tryd.zeroValue9
  t46 := Tryd.underlying174
  a46 := Tryd.isAgg174
  z46 := Tryd.sizeOf174
  v46 := Tryd.zeroValue174
  t53 := Tryd.underlying154
  a53 := Tryd.isAgg154
  z53 := Tryd.sizeOf154
  v53 := Tryd.zeroValue154
  t212 := Tryd.underlying239
  a212 := Tryd.isAgg239
  z212 := Tryd.sizeOf239
  v212 := Tryd.zeroValue239
  g17 := by kernel_rfl
  i0 := by kernel_rfl
  i3 := by kernel_rfl
  i4 := by kernel_rfl
  i5 := by kernel_rfl
  i9 := by kernel_rfl
  i46 := by kernel_rfl
  i53 := by kernel_rfl
  i212 := by kernel_rfl
  m17 := by kernel_rfl }
def usm151_ren : Go.Shelf.Ren := ⟨fun | 283 => 182 | n => n, fun | 3 => 3 | 9 => 9 | 4 => 4 | n => n, fun | n => n⟩
theorem usm151 : Go.Proofs.Lays.n283 Tryd.prog usm151_ren := {
  mixed := by kernel_rfl
  f283 := Tryd.func182.trans (congrArg some (by kernel_rfl))
  t3 := Tryd.underlying3
  a3 := Tryd.isAgg3
  z3 := Tryd.sizeOf3
  v3 := Tryd.zeroValue3
  t4 := Tryd.underlying4
  a4 := Tryd.isAgg4
  z4 := Tryd.sizeOf4
  v4 := Tryd.zeroValue4
  t9 := Tryd.underlying9
  a9 := Tryd.isAgg9
  z9 := Tryd.sizeOf9
  v9 := Tryd.zeroValue9 }
def ufb151_ren : Go.Shelf.Ren := ⟨fun | 285 => 184 | n => n, fun | 37 => 56 | 53 => 154 | 3 => 3 | 4 => 4 | 51 => 200 | 9 => 9 | 5 => 5 | 0 => 0 | n => n, fun | n => n⟩
theorem ufb151 : Go.Proofs.Lays.n285 Tryd.prog ufb151_ren := {
  mixed := by kernel_rfl
  f285 := Tryd.func184.trans (congrArg some (by kernel_rfl))
  t0 := Tryd.underlying0
  a0 := Tryd.isAgg0
  z0 := Tryd.sizeOf0
  v0 := Tryd.zeroValue0
  t3 := Tryd.underlying3
  a3 := Tryd.isAgg3
  z3 := Tryd.sizeOf3
  v3 := Tryd.zeroValue3
  t4 := Tryd.underlying4
  a4 := Tryd.isAgg4
  z4 := Tryd.sizeOf4
  v4 := Tryd.zeroValue4
  t5 := Tryd.underlying5
  a5 := Tryd.isAgg5
  z5 := Tryd.sizeOf5
  v5 := Tryd.zeroValue5
  t9 := Tryd.underlying9
  a9 := Tryd.isAgg9
  z9 := Tryd.sizeOf9
  v9 := Tryd.zeroValue9
  t37 := Tryd.underlying56
  a37 := Tryd.isAgg56
  z37 := Tryd.sizeOf56
  v37 := Tryd.zeroValue56
  t51 := Tryd.underlying200
  a51 := Tryd.isAgg200
  z51 := Tryd.sizeOf200
  v51 := Tryd.zeroValue200
  t53 := Tryd.underlying154
  a53 := Tryd.isAgg154
  z53 := Tryd.sizeOf154
  v53 := Tryd.zeroValue154 }
theorem umix151 : Tryd.prog.follows .mixedOrders = true := by kernel_rfl
theorem uHold151 (w : World) (T : TypeId) (nd : Nat) (hs : nd ≤ 24) : Holds (fun (b : UInt8) => Value.int .u8 (b.toNat : Int)) (w.alloc (.cells Lib.zeros24 T)) w.heap.size 0 (Array.replicate nd (0 : UInt8)) := fun j hj => by
  have hj' : j < nd := by simpa using hj
  refine ⟨?_, World.frozen?_alloc_new _ _ _ _⟩
  rw [World.cell?_alloc_new, Nat.zero_add, Lib.zeros24_at _ (by omega), getElem!_pos _ j hj]
  simp
theorem uFin151 (w : World) (o : Obj) (dk : Array UInt8) (k : Nat) : ∃ os, (putRow (fun (b : UInt8) => Value.int .u8 (b.toNat : Int)) (w.alloc o) w.heap.size 0 dk).drewN k = grow (w.drewN k) os := by
  rw [alloc_eq_grow]
  obtain ⟨os', _, e⟩ := putRow_grow_new (fun (b : UInt8) => Value.int .u8 (b.toNat : Int)) w #[o] w.heap.size 0 dk (Nat.le_refl _)
  exact ⟨os', by rw [e]; rfl⟩
set_option maxHeartbeats 6400000 in
set_option maxRecDepth 100000 in
theorem fmtuI151 (u : Nat) (hu64 : u < 18446744073709551616) (w : World) (htab : Lib.TabIs Tryd.prog w "internal/strconv.uint64pow10" .u64 Lib.pow10Tab) :
    Calls Tryd.prog 151 #[.int .u64 u, .int .i64 10] w fun e w' => e = .returned (.string ⟨(Lib.decDigits u).toArray⟩) ∧ ∃ k os, w' = grow (w.drewN k) os := by
  have mixed := umix151
  by_cases hs : u < 100
  · have hwr : IntKind.i64.wrap (u : Int) = (u : Int) := by rw [IntKind.wrap_i64]; omega
    go_enter Tryd.func151, Tryd.ntmps151
    go_wp2_with (go_at_call 182; refine (Any.internal_strconv_small usm151 u hs _).mono ?_; rintro e w' ⟨rfl, rfl⟩)
    go_ret
    exact ⟨rfl, 0, #[], by simp [World.drewN_zero]⟩
  · have hu1 : 1 ≤ u := by omega
    have hnd20 : Lib.nDigits u ≤ 20 := by have := Lib.numDigits_eq u hu1 hu64; split at this <;> omega
    have hal : Tryd.prog.arrayLen 218 = 24 := by kernel_rfl
    have hsl1 : ∀ W, (Instr.sliceAt 218 (.pointer (some ⟨w.heap.size, 0, none⟩)) none (some (.int .i64 (Lib.nDigits u : Int))) none).run Tryd.prog W = .ok (.slice (some ⟨w.heap.size, 0, none⟩) (Lib.nDigits u) 24) W := fun W => by
      rw [run_sliceAt_array_h W 218 ⟨w.heap.size, 0, none⟩ (by simp [Program.arrayLen, Program.elem, Tryd.underlying218]) .i64 (Lib.nDigits u : Int) (by omega) (by rw [hal]; omega)]
      go_simp
    have hH0 := uHold151 w 218 (Lib.nDigits u) (by omega)
    have hfmt := Any.internal_strconv_formatBase10 ufb151 w.heap.size 0 24 u (Array.replicate (Lib.nDigits u) 0) (w.alloc (.cells Lib.zeros24 218)) hH0 (by rw [Array.size_replicate]; exact Lib.lt_pow_nDigits u) hu64 (by rw [Array.size_replicate]; omega)
    rw [Array.size_replicate] at hfmt
    have HH0 := Lib.hid hH0
    clear hH0 hal
    go_enter Tryd.func151, Tryd.ntmps151
    go_wp2_with (go_at_call 183; refine (Any.internal_strconv_numDigits und151 u hu1 hu64 _ (Lib.tabIs_alloc htab _)).mono ?_; rintro e w' ⟨rfl, rfl⟩)
    go_at_call 184
    refine hfmt.mono ?_
    rintro e w' ⟨rfl, k, v', dk, rfl, hF⟩
    have hcv : (convert 56 9 (.slice (some ⟨w.heap.size, 0, none⟩) (Lib.nDigits u) 24)).run Tryd.prog ((putRow (fun (b : UInt8) => Value.int .u8 (b.toNat : Int)) (w.alloc (.cells Lib.zeros24 218)) w.heap.size 0 dk).drewN k) = .ok (.string ⟨(Lib.decDigits u).toArray⟩) ((putRow (fun (b : UInt8) => Value.int .u8 (b.toNat : Int)) (w.alloc (.cells Lib.zeros24 218)) w.heap.size 0 dk).drewN k) := by
      have h := run_convert_bytes_back (P := Tryd.prog) ((putRow (fun (b : UInt8) => Value.int .u8 (b.toNat : Int)) (w.alloc (.cells Lib.zeros24 218)) w.heap.size 0 dk).drewN k) 56 9 5 ⟨w.heap.size, 0, none⟩ 24 (Lib.decDigits u) Tryd.underlying56 Tryd.underlying5 Tryd.underlying9 (fun j hj => by
        rw [Lib.row_is_numeral hF j hj, Lib.add_plain, World.cell?_drewN]
        exact cell?_putRow (fun (b : UInt8) => Value.int .u8 (b.toNat : Int)) _ w.heap.size 0 _ dk HH0.out (by rw [hF.size, Array.size_replicate]) j (by rw [hF.size]; rw [Lib.decDigits_length] at hj; exact hj))
      rw [Lib.decDigits_length] at h
      exact h
    go_wp2
    go_ret
    obtain ⟨os, eo⟩ := uFin151 w (.cells Lib.zeros24 218) dk k
    exact ⟨rfl, k, os, eo⟩
set_option maxRecDepth 100000 in
theorem fmtu109 (u : Nat) (hu64 : u < 18446744073709551616) (w : World) (htab : Lib.TabIs Tryd.prog w "internal/strconv.uint64pow10" .u64 Lib.pow10Tab) :
    Calls Tryd.prog 109 #[.int .u64 u, .int .i64 10] w fun e w' => e = .returned (.string ⟨(Lib.decDigits u).toArray⟩) ∧ ∃ k os, w' = grow (w.drewN k) os := by
  go_enter Tryd.func109, Tryd.ntmps109
  go_wp2_with (go_at_call 151; refine (fmtuI151 u hu64 _ htab).mono ?_; rintro e w' ⟨rfl, k, os, rfl⟩)
  go_ret
  exact ⟨rfl, k, os, rfl⟩
end

theorem fnok109 : FnOK Tryd.prog 109 := ⟨Tryd.f109, _, Tryd.func109, by decide, rfl⟩
noncomputable def C12 (n : Nat) : Call2 E := moreP 109 [(.int .u64), (.int .i64)] .str (fun x => fmtuO x.1 x.2.1) (C11 n)
def lay92_ren : Go.Shelf.Ren := ⟨fun | 105 => 92 | 212 => 129 | 99 => 131 | 165 => 132 | 166 => 133 | 170 => 123 | 169 => 124 | 263 => 159 | 264 => 160 | 206 => 161 | 240 => 162 | 241 => 163 | 276 => 191 | 277 => 192 | n => n, fun | 9 => 9 | 3 => 3 | 4 => 4 | 20 => 20 | 0 => 0 | 46 => 174 | 109 => 175 | 5 => 5 | 72 => 169 | 76 => 137 | 51 => 200 | 146 => 201 | 53 => 154 | 148 => 203 | 70 => 167 | 37 => 56 | 75 => 136 | 127 => 197 | 164 => 226 | 80 => 172 | n => n, fun | n => n⟩
theorem lay92 : Go.Proofs.Lays.n105 Tryd.prog lay92_ren := {
  mixed := by kernel_rfl
  f99 := Tryd.func131.trans (congrArg some (by kernel_rfl))
  f105 := Tryd.func92.trans (congrArg some (by kernel_rfl))
  f165 := Tryd.func132.trans (congrArg some (by kernel_rfl))
  f166 := Tryd.func133.trans (congrArg some (by kernel_rfl))
  f169 := Tryd.func124.trans (congrArg some (by kernel_rfl))
  f170 := Tryd.func123.trans (congrArg some (by kernel_rfl))
  f206 := Tryd.func161.trans (congrArg some (by kernel_rfl))
  f212 := Tryd.func129.trans (congrArg some (by kernel_rfl))
  f240 := Tryd.func162.trans (congrArg some (by kernel_rfl))
  f241 := Tryd.func163.trans (congrArg some (by kernel_rfl))
  f263 := Tryd.func159.trans (congrArg some (by kernel_rfl))
  f264 := Tryd.func160.trans (congrArg some (by kernel_rfl))
  f276 := Tryd.func191.trans (congrArg some (by kernel_rfl))
  f277 := Tryd.func192.trans (congrArg some (by kernel_rfl))
  t0 := Tryd.underlying0
  a0 := Tryd.isAgg0
  z0 := Tryd.sizeOf0
  v0 := Tryd.zeroValue0
  t3 := Tryd.underlying3
  a3 := Tryd.isAgg3
  z3 := Tryd.sizeOf3
  v3 := Tryd.zeroValue3
  t4 := Tryd.underlying4
  a4 := Tryd.isAgg4
  z4 := Tryd.sizeOf4
  v4 := Tryd.zeroValue4
  t5 := Tryd.underlying5
  a5 := Tryd.isAgg5
  z5 := Tryd.sizeOf5
  v5 := Tryd.zeroValue5
  t9 := Tryd.underlying9
  a9 := Tryd.isAgg9
  z9 := Tryd.sizeOf9
  v9 := Tryd.zeroValue9
  t20 := Tryd.underlying20
  a20 := Tryd.isAgg20
  z20 := Tryd.sizeOf20
  v20 := Tryd.zeroValue20
  t37 := Tryd.underlying56
  a37 := Tryd.isAgg56
  z37 := Tryd.sizeOf56
  v37 := Tryd.zeroValue56
  t46 := Tryd.underlying174
  a46 := Tryd.isAgg174
  z46 := Tryd.sizeOf174
  v46 := Tryd.zeroValue174
  t51 := Tryd.underlying200
  a51 := Tryd.isAgg200
  z51 := Tryd.sizeOf200
  v51 := Tryd.zeroValue200
  t53 := Tryd.underlying154
  a53 := Tryd.isAgg154
  z53 := Tryd.sizeOf154
  v53 := Tryd.zeroValue154
  t70 := Tryd.underlying167
  a70 := Tryd.isAgg167
  z70 := Tryd.sizeOf167
  v70 := Tryd.zeroValue167
  t72 := Tryd.underlying169
  a72 := Tryd.isAgg169
  z72 := Tryd.sizeOf169
  v72 := Tryd.zeroValue169
  t75 := Tryd.underlying136
  a75 := Tryd.isAgg136
  z75 := Tryd.sizeOf136
  v75 := Tryd.zeroValue136
  t76 := Tryd.underlying137
  a76 := Tryd.isAgg137
  z76 := Tryd.sizeOf137
  v76 := Tryd.zeroValue137
  t109 := Tryd.underlying175
  a109 := Tryd.isAgg175
  z109 := Tryd.sizeOf175
  v109 := Tryd.zeroValue175
  t127 := Tryd.underlying197
  a127 := Tryd.isAgg197
  z127 := Tryd.sizeOf197
  v127 := Tryd.zeroValue197
  t146 := Tryd.underlying201
  a146 := Tryd.isAgg201
  z146 := Tryd.sizeOf201
  v146 := Tryd.zeroValue201
  t148 := Tryd.underlying203
  a148 := Tryd.isAgg203
  z148 := Tryd.sizeOf203
  v148 := Tryd.zeroValue203
  t164 := Tryd.underlying226
  a164 := Tryd.isAgg226
  z164 := Tryd.sizeOf226
  v164 := Tryd.zeroValue226 }
theorem ext92 : Go.Proofs.Builder.Extra Tryd.prog lay92_ren where
  sizeBuilder := by kernel_rfl
  liesBuilder := by kernel_rfl
  t5 := Tryd.underlying5
  a5 := Tryd.isAgg5
  z5 := Tryd.sizeOf5
  v5 := Tryd.zeroValue5
  infoByte := by kernel_rfl
  cellsByte := by kernel_rfl
  sizeByte := by kernel_rfl
  neB5 := by decide
theorem fnok92 : FnOK Tryd.prog 92 := ⟨Tryd.f92, _, Tryd.func92, by decide, rfl⟩
noncomputable def C13 (n : Nat) : Call2 E := moreP 92 [.str, (.int .i64)] .str (fun x => repO x.1 x.2.1) (C12 n)

/- clapperbridge/fixed.Shown -/
noncomputable def fixed_Shown (n : Nat) (x0 : Int) (x1 : Int) : Option (List UInt8) := F2 (E := E) tt gl H (C13 n) n 50 Tryd.f50 [.t (.int .i64), .t (.int .i64)] (x0, x1, ())
theorem fixed_Shown_eq (n : Nat) (x0 : Int) (x1 : Int) : fixed_Shown n x0 x1 = (Option.bind (fmtuO (IntKind.wrap .u64 (mxI x0 (IntKind.wrap .i64 (0 - x0)))) 10) fun r1 => (bif (decide ((List.length r1 : Int) ≤ (mxI (0 : Int) (mnI (15 : Int) x1)))) then (Option.bind (repO ([48] : List UInt8) (IntKind.wrap .i64 ((IntKind.wrap .i64 ((mxI (0 : Int) (mnI (15 : Int) x1)) + 1)) - (List.length r1 : Int)))) fun r2 => (bif (decide (List.length r2 + List.length r1 ≤ 4294967296)) then (bif (decide ((mxI (0 : Int) (mnI (15 : Int) x1)) > 0)) then (bif (decide (0 ≤ (IntKind.wrap .i64 ((List.length (r2 ++ r1) : Int) - (mxI (0 : Int) (mnI (15 : Int) x1))))) && decide ((IntKind.wrap .i64 ((List.length (r2 ++ r1) : Int) - (mxI (0 : Int) (mnI (15 : Int) x1)))) ≤ (List.length (r2 ++ r1)))) then (bif (decide (List.length (List.take (Int.toNat (IntKind.wrap .i64 ((List.length (r2 ++ r1) : Int) - (mxI (0 : Int) (mnI (15 : Int) x1))))) (r2 ++ r1)) + List.length [46] ≤ 4294967296)) then (bif (decide (0 ≤ (IntKind.wrap .i64 ((List.length (r2 ++ r1) : Int) - (mxI (0 : Int) (mnI (15 : Int) x1))))) && decide ((IntKind.wrap .i64 ((List.length (r2 ++ r1) : Int) - (mxI (0 : Int) (mnI (15 : Int) x1)))) ≤ (List.length (r2 ++ r1)))) then (bif (decide (List.length ((List.take (Int.toNat (IntKind.wrap .i64 ((List.length (r2 ++ r1) : Int) - (mxI (0 : Int) (mnI (15 : Int) x1))))) (r2 ++ r1)) ++ [46]) + List.length (List.drop (Int.toNat (IntKind.wrap .i64 ((List.length (r2 ++ r1) : Int) - (mxI (0 : Int) (mnI (15 : Int) x1))))) (r2 ++ r1)) ≤ 4294967296)) then (bif (decide (x0 < 0)) then (bif (decide (List.length ([45] : List UInt8) + List.length (((List.take (Int.toNat (IntKind.wrap .i64 ((List.length (r2 ++ r1) : Int) - (mxI (0 : Int) (mnI (15 : Int) x1))))) (r2 ++ r1)) ++ [46]) ++ (List.drop (Int.toNat (IntKind.wrap .i64 ((List.length (r2 ++ r1) : Int) - (mxI (0 : Int) (mnI (15 : Int) x1))))) (r2 ++ r1))) ≤ 4294967296)) then (some (([45] : List UInt8) ++ (((List.take (Int.toNat (IntKind.wrap .i64 ((List.length (r2 ++ r1) : Int) - (mxI (0 : Int) (mnI (15 : Int) x1))))) (r2 ++ r1)) ++ [46]) ++ (List.drop (Int.toNat (IntKind.wrap .i64 ((List.length (r2 ++ r1) : Int) - (mxI (0 : Int) (mnI (15 : Int) x1))))) (r2 ++ r1))))) else none) else (some (((List.take (Int.toNat (IntKind.wrap .i64 ((List.length (r2 ++ r1) : Int) - (mxI (0 : Int) (mnI (15 : Int) x1))))) (r2 ++ r1)) ++ [46]) ++ (List.drop (Int.toNat (IntKind.wrap .i64 ((List.length (r2 ++ r1) : Int) - (mxI (0 : Int) (mnI (15 : Int) x1))))) (r2 ++ r1))))) else none) else none) else none) else none) else (bif (decide (x0 < 0)) then (bif (decide (List.length ([45] : List UInt8) + List.length (r2 ++ r1) ≤ 4294967296)) then (some (([45] : List UInt8) ++ (r2 ++ r1))) else none) else (some (r2 ++ r1)))) else none)) else (bif (decide ((mxI (0 : Int) (mnI (15 : Int) x1)) > 0)) then (bif (decide (0 ≤ (IntKind.wrap .i64 ((List.length r1 : Int) - (mxI (0 : Int) (mnI (15 : Int) x1))))) && decide ((IntKind.wrap .i64 ((List.length r1 : Int) - (mxI (0 : Int) (mnI (15 : Int) x1)))) ≤ (List.length r1))) then (bif (decide (List.length (List.take (Int.toNat (IntKind.wrap .i64 ((List.length r1 : Int) - (mxI (0 : Int) (mnI (15 : Int) x1))))) r1) + List.length [46] ≤ 4294967296)) then (bif (decide (0 ≤ (IntKind.wrap .i64 ((List.length r1 : Int) - (mxI (0 : Int) (mnI (15 : Int) x1))))) && decide ((IntKind.wrap .i64 ((List.length r1 : Int) - (mxI (0 : Int) (mnI (15 : Int) x1)))) ≤ (List.length r1))) then (bif (decide (List.length ((List.take (Int.toNat (IntKind.wrap .i64 ((List.length r1 : Int) - (mxI (0 : Int) (mnI (15 : Int) x1))))) r1) ++ [46]) + List.length (List.drop (Int.toNat (IntKind.wrap .i64 ((List.length r1 : Int) - (mxI (0 : Int) (mnI (15 : Int) x1))))) r1) ≤ 4294967296)) then (bif (decide (x0 < 0)) then (bif (decide (List.length ([45] : List UInt8) + List.length (((List.take (Int.toNat (IntKind.wrap .i64 ((List.length r1 : Int) - (mxI (0 : Int) (mnI (15 : Int) x1))))) r1) ++ [46]) ++ (List.drop (Int.toNat (IntKind.wrap .i64 ((List.length r1 : Int) - (mxI (0 : Int) (mnI (15 : Int) x1))))) r1)) ≤ 4294967296)) then (some (([45] : List UInt8) ++ (((List.take (Int.toNat (IntKind.wrap .i64 ((List.length r1 : Int) - (mxI (0 : Int) (mnI (15 : Int) x1))))) r1) ++ [46]) ++ (List.drop (Int.toNat (IntKind.wrap .i64 ((List.length r1 : Int) - (mxI (0 : Int) (mnI (15 : Int) x1))))) r1)))) else none) else (some (((List.take (Int.toNat (IntKind.wrap .i64 ((List.length r1 : Int) - (mxI (0 : Int) (mnI (15 : Int) x1))))) r1) ++ [46]) ++ (List.drop (Int.toNat (IntKind.wrap .i64 ((List.length r1 : Int) - (mxI (0 : Int) (mnI (15 : Int) x1))))) r1)))) else none) else none) else none) else none) else (bif (decide (x0 < 0)) then (bif (decide (List.length ([45] : List UInt8) + List.length r1 ≤ 4294967296)) then (some (([45] : List UInt8) ++ r1)) else none) else (some r1))))) := by kernel_rfl
noncomputable def C14 (n : Nat) : Call2 E := more tt gl H (C13 n) n 50 Tryd.f50 [.t (.int .i64), .t (.int .i64)] (C13 n)

/- clapperbridge/claplaw2.widths -/
noncomputable def law2_widths (n : Nat) : Option Bool := F2 (E := E) tt gl H (C14 n) n 32 Tryd.f32 [] (())
theorem law2_widths_eq (n : Nat) : law2_widths n = (Option.bind (fixed_Shown n (-5) 2) fun r1 => (bif (r1 == [45, 48, 46, 48, 53]) then (Option.bind (fixed_Shown n 7 0) fun r2 => (some (r2 == [55]))) else (some false))) := by kernel_rfl
noncomputable def C15 (n : Nat) : Call2 E := more tt gl H (C14 n) n 32 Tryd.f32 [] (C14 n)
def lay68_ren : Go.Shelf.Ren := ⟨fun | 171 => 68 | 243 => 116 | 246 => 153 | 283 => 182 | 284 => 183 | 285 => 184 | 286 => 185 | 129 => 181 | 317 => 203 | 318 => 204 | 319 => 205 | 320 => 206 | 337 => 209 | 338 => 210 | n => n, fun | 3 => 3 | 9 => 9 | 2 => 2 | 4 => 4 | 171 => 218 | 0 => 0 | 53 => 154 | 37 => 56 | 5 => 5 | 173 => 220 | 212 => 239 | 51 => 200 | 20 => 20 | 213 => 240 | 46 => 174 | 232 => 247 | 233 => 248 | n => n, fun | 17 => 3 | 18 => 4 | 19 => 5 | n => n⟩
theorem lay68 : Go.Proofs.LaysM.n171 Tryd.prog lay68_ren := {
  mixed := by kernel_rfl
  f129 := Tryd.func181.trans (congrArg some (by kernel_rfl))
  f171 := Tryd.func68.trans (congrArg some (by kernel_rfl))
  f243 := Tryd.func116.trans (congrArg some (by kernel_rfl))
  f246 := Tryd.func153.trans (congrArg some (by kernel_rfl))
  f283 := Tryd.func182.trans (congrArg some (by kernel_rfl))
  f284 := Tryd.func183.trans (congrArg some (by kernel_rfl))
  f285 := Tryd.func184.trans (congrArg some (by kernel_rfl))
  f286 := Tryd.func185.trans (congrArg some (by kernel_rfl))
  f317 := Tryd.func203.trans (congrArg some (by kernel_rfl))
  f318 := Tryd.func204.trans (congrArg some (by kernel_rfl))
  f319 := Tryd.func205.trans (congrArg some (by kernel_rfl))
  f320 := Tryd.func206.trans (congrArg some (by kernel_rfl))
  f337 := Tryd.func209.trans (congrArg some (by kernel_rfl))
  f338 := Tryd.func210.trans (congrArg some (by kernel_rfl))
  t0 := Tryd.underlying0
  a0 := Tryd.isAgg0
  z0 := Tryd.sizeOf0
  v0 := Tryd.zeroValue0
  t2 := Tryd.underlying2
  a2 := Tryd.isAgg2
  z2 := Tryd.sizeOf2
  v2 := Tryd.zeroValue2
  t3 := Tryd.underlying3
  a3 := Tryd.isAgg3
  z3 := Tryd.sizeOf3
  v3 := Tryd.zeroValue3
  t4 := Tryd.underlying4
  a4 := Tryd.isAgg4
  z4 := Tryd.sizeOf4
  v4 := Tryd.zeroValue4
  t5 := Tryd.underlying5
  a5 := Tryd.isAgg5
  z5 := Tryd.sizeOf5
  v5 := Tryd.zeroValue5
  t9 := Tryd.underlying9
  a9 := Tryd.isAgg9
  z9 := Tryd.sizeOf9
  v9 := Tryd.zeroValue9
  t20 := Tryd.underlying20
  a20 := Tryd.isAgg20
  z20 := Tryd.sizeOf20
  v20 := Tryd.zeroValue20
  t37 := Tryd.underlying56
  a37 := Tryd.isAgg56
  z37 := Tryd.sizeOf56
  v37 := Tryd.zeroValue56
  t46 := Tryd.underlying174
  a46 := Tryd.isAgg174
  z46 := Tryd.sizeOf174
  v46 := Tryd.zeroValue174
  t51 := Tryd.underlying200
  a51 := Tryd.isAgg200
  z51 := Tryd.sizeOf200
  v51 := Tryd.zeroValue200
  t53 := Tryd.underlying154
  a53 := Tryd.isAgg154
  z53 := Tryd.sizeOf154
  v53 := Tryd.zeroValue154
  t171 := Tryd.underlying218
  a171 := Tryd.isAgg218
  z171 := Tryd.sizeOf218
  v171 := Tryd.zeroValue218
  t173 := Tryd.underlying220
  a173 := Tryd.isAgg220
  z173 := Tryd.sizeOf220
  v173 := Tryd.zeroValue220
  t212 := Tryd.underlying239
  a212 := Tryd.isAgg239
  z212 := Tryd.sizeOf239
  v212 := Tryd.zeroValue239
  t213 := Tryd.underlying240
  a213 := Tryd.isAgg240
  z213 := Tryd.sizeOf240
  t232 := Tryd.underlying247
  a232 := Tryd.isAgg247
  z232 := Tryd.sizeOf247
  v232 := Tryd.zeroValue247
  t233 := Tryd.underlying248
  a233 := Tryd.isAgg248
  z233 := Tryd.sizeOf248
  v233 := Tryd.zeroValue248
  g17 := by kernel_rfl
  g18 := by kernel_rfl
  g19 := by kernel_rfl
  i0 := by kernel_rfl
  i2 := by kernel_rfl
  i3 := by kernel_rfl
  i4 := by kernel_rfl
  i5 := by kernel_rfl
  i9 := by kernel_rfl
  i20 := by kernel_rfl
  i37 := by kernel_rfl
  i46 := by kernel_rfl
  i51 := by kernel_rfl
  i53 := by kernel_rfl
  i171 := by kernel_rfl
  i173 := by kernel_rfl
  i212 := by kernel_rfl
  i232 := by kernel_rfl
  i233 := by kernel_rfl
  m17 := by kernel_rfl
  m18 := by kernel_rfl
  m19 := by kernel_rfl }
theorem fnok68 : FnOK Tryd.prog 68 := ⟨Tryd.f68, _, Tryd.func68, by decide, rfl⟩
noncomputable def C16 (n : Nat) : Call2 E := moreP 68 [(.int .i64)] .str (fun x => itoaO x.1) (C15 n)
def lay95_ren : Go.Shelf.Ren := ⟨fun | 101 => 95 | 208 => 139 | 206 => 161 | n => n, fun | 9 => 9 | 4 => 4 | 3 => 3 | n => n, fun | n => n⟩
theorem lay95 : Go.Proofs.Lays.n101 Tryd.prog lay95_ren := {
  mixed := by kernel_rfl
  f101 := Tryd.func95.trans (congrArg some (by kernel_rfl))
  f206 := Tryd.func161.trans (congrArg some (by kernel_rfl))
  f208 := Tryd.func139.trans (congrArg some (by kernel_rfl))
  t3 := Tryd.underlying3
  a3 := Tryd.isAgg3
  z3 := Tryd.sizeOf3
  v3 := Tryd.zeroValue3
  t4 := Tryd.underlying4
  a4 := Tryd.isAgg4
  z4 := Tryd.sizeOf4
  v4 := Tryd.zeroValue4
  t9 := Tryd.underlying9
  a9 := Tryd.isAgg9
  z9 := Tryd.sizeOf9
  v9 := Tryd.zeroValue9 }
theorem fnok95 : FnOK Tryd.prog 95 := ⟨Tryd.f95, _, Tryd.func95, by decide, rfl⟩
noncomputable def C17 (n : Nat) : Call2 E := moreP 95 [.str, .str] .str (fun x => some (Go.Lib.trimPrefix x.1 x.2.1)) (C16 n)

/- clapperbridge/clapref2.bit -/
noncomputable def ref2_bit (n : Nat) (x0 : Bool) : Option Int := F2 (E := E) tt gl H (C17 n) n 110 Tryd.f110 [.t .bool] (x0, ())
theorem ref2_bit_eq (n : Nat) (x0 : Bool) : ref2_bit n x0 = (bif x0 then (some 1) else (some 0)) := by kernel_rfl
noncomputable def C18 (n : Nat) : Call2 E := more tt gl H (C17 n) n 110 Tryd.f110 [.t .bool] (C17 n)

/- clapperbridge/clapref2.Pointed10 -/
noncomputable def ref2_Pointed10 (n : Nat) (x0 : Int) (x1 : Int) : Option (List UInt8) := F2 (E := E) tt gl H (C18 n) n 51 Tryd.f51 [.t (.int .i64), .t (.int .i64)] (x0, x1, ())
noncomputable def ref2_Pointed10_l0 (n : Nat) (m0 : Nat) (v0 : Int) (v1 : Int) (v5 : List UInt8) : Option (List UInt8) := lp (E := E) (ps := [.t (.int .i64), .t (.int .i64)]) tt gl H (C18 n) n 51 Tryd.f51 [1, 1, 1, 0, 0] [] m0 ⟨mkT 40 0 [(0, .t (.int .i64) v0), (1, .t (.int .i64) v1), (5, .t .str v5)], mkB 160 0 []⟩
theorem ref2_Pointed10_l0_eq (n : Nat) (m0 : Nat) (v0 : Int) (v1 : Int) (v5 : List UInt8) : ref2_Pointed10_l0 n (m0 + 1) v0 v1 v5 = (bif (decide ((List.length v5 : Int) < (IntKind.wrap .i64 (v1 + 1)))) then (bif (decide (List.length ([48] : List UInt8) + List.length v5 ≤ 4294967296)) then (ref2_Pointed10_l0 n m0 v0 v1 (([48] : List UInt8) ++ v5)) else none) else (bif (decide (v1 > 0)) then (bif (decide (0 ≤ (IntKind.wrap .i64 ((List.length v5 : Int) - v1))) && decide ((IntKind.wrap .i64 ((List.length v5 : Int) - v1)) ≤ (List.length v5))) then (bif (decide (List.length (List.take (Int.toNat (IntKind.wrap .i64 ((List.length v5 : Int) - v1))) v5) + List.length [46] ≤ 4294967296)) then (bif (decide (0 ≤ (IntKind.wrap .i64 ((List.length v5 : Int) - v1))) && decide ((IntKind.wrap .i64 ((List.length v5 : Int) - v1)) ≤ (List.length v5))) then (bif (decide (List.length ((List.take (Int.toNat (IntKind.wrap .i64 ((List.length v5 : Int) - v1))) v5) ++ [46]) + List.length (List.drop (Int.toNat (IntKind.wrap .i64 ((List.length v5 : Int) - v1))) v5) ≤ 4294967296)) then (Option.bind (ref2_bit n (decide (v0 < 0))) fun r2 => (Option.bind (repO ([45] : List UInt8) r2) fun r3 => (bif (decide (List.length r3 + List.length (((List.take (Int.toNat (IntKind.wrap .i64 ((List.length v5 : Int) - v1))) v5) ++ [46]) ++ (List.drop (Int.toNat (IntKind.wrap .i64 ((List.length v5 : Int) - v1))) v5)) ≤ 4294967296)) then (some (r3 ++ (((List.take (Int.toNat (IntKind.wrap .i64 ((List.length v5 : Int) - v1))) v5) ++ [46]) ++ (List.drop (Int.toNat (IntKind.wrap .i64 ((List.length v5 : Int) - v1))) v5)))) else none))) else none) else none) else none) else none) else (Option.bind (ref2_bit n (decide (v0 < 0))) fun r4 => (Option.bind (repO ([45] : List UInt8) r4) fun r5 => (bif (decide (List.length r5 + List.length v5 ≤ 4294967296)) then (some (r5 ++ v5)) else none))))) := by kernel_rfl
theorem ref2_Pointed10_l0_zero (n : Nat) (v0 : Int) (v1 : Int) (v5 : List UInt8) : ref2_Pointed10_l0 n 0 v0 v1 v5 = none := by kernel_rfl
theorem ref2_Pointed10_eq (n : Nat) (x0 : Int) (x1 : Int) : ref2_Pointed10 n x0 x1 = (Option.bind (itoaO x0) fun r1 => (ref2_Pointed10_l0 n n x0 (mxI (0 : Int) (mnI (15 : Int) x1)) (Go.Lib.trimPrefix r1 ([45] : List UInt8)))) := by kernel_rfl
noncomputable def C19 (n : Nat) : Call2 E := more tt gl H (C18 n) n 51 Tryd.f51 [.t (.int .i64), .t (.int .i64)] (C18 n)

/- clapperbridge/fixed.Wide -/
noncomputable def fixed_Wide (n : Nat) (x0 : List FixedField) : Option Int := F2 (E := E) tt gl H (C19 n) n 52 Tryd.f52 [.t (.sl (.nm 0))] (x0, ())
noncomputable def fixed_Wide_l0 (n : Nat) (m0 : Nat) (v3 : Int) (v6 : List FixedField) (v7 : Int) (v8 : Int) : Option Int := lp (E := E) (ps := [.t (.sl (.nm 0))]) tt gl H (C19 n) n 52 Tryd.f52 [1, 1, 0, 1, 0] [] m0 ⟨mkT 21 0 [(3, .t (.int .i64) v3), (6, .t (.sl (.nm 0)) v6), (7, .t (.int .i64) v7), (8, .t (.int .i64) v8)], mkB 84 0 []⟩
theorem fixed_Wide_l0_eq (n : Nat) (m0 : Nat) (v3 : Int) (v6 : List FixedField) (v7 : Int) (v8 : Int) : fixed_Wide_l0 n (m0 + 1) v3 v6 v7 v8 = (bif (decide (v8 < v7)) then (bif (decide (0 ≤ v8) && decide (v8 < List.length v6)) then (fixed_Wide_l0 n m0 (mxI v3 (IntKind.wrap .i64 (((List.getD v6 (Int.toNat v8) (FixedField.mk [] 0 0 0 0 false 0)).At) + ((List.getD v6 (Int.toNat v8) (FixedField.mk [] 0 0 0 0 false 0)).Wide)))) v6 v7 (IntKind.wrap .i64 (v8 + 1))) else none) else (some v3)) := by kernel_rfl
theorem fixed_Wide_l0_zero (n : Nat) (v3 : Int) (v6 : List FixedField) (v7 : Int) (v8 : Int) : fixed_Wide_l0 n 0 v3 v6 v7 v8 = none := by kernel_rfl
theorem fixed_Wide_l0_fold (n : Nat) (v6 : List FixedField) (v3 : Int) (hl : List.length v6 < 9223372036854775807) (m i : Nat) (hi : i ≤ List.length v6) (hm : List.length v6 - i < m) : fixed_Wide_l0 n m v3 v6 (List.length v6 : Int) (i : Int) = foldK (S := Int) (fun i (a : FixedField) s K => (K (mxI s (IntKind.wrap .i64 ((a.At) + (a.Wide)))))) (fun s => (some s)) (List.drop i v6) i (v3) := range_loop v6 (FixedField.mk [] 0 0 0 0 false 0) hl (fun m (k : Int) (s : Int) => fixed_Wide_l0 n m s v6 (List.length v6 : Int) k) _ _ (fun m i s => (fixed_Wide_l0_eq n m s v6 (List.length v6 : Int) (i : Int)).trans (by kernel_rfl)) m i hi hm (v3)
theorem fixed_Wide_eq (n : Nat) (x0 : List FixedField) : fixed_Wide n x0 = (fixed_Wide_l0 n n 0 x0 (List.length x0 : Int) 0) := by kernel_rfl
noncomputable def C20 (n : Nat) : Call2 E := more tt gl H (C19 n) n 52 Tryd.f52 [.t (.sl (.nm 0))] (C19 n)

/- clapperbridge/clapref2.Breadth -/
noncomputable def ref2_Breadth (n : Nat) (x0 : List FixedField) : Option Int := F2 (E := E) tt gl H (C20 n) n 53 Tryd.f53 [.t (.sl (.nm 0))] (x0, ())
noncomputable def ref2_Breadth_l0 (n : Nat) (m0 : Nat) (v3 : Int) (v6 : List FixedField) (v7 : Int) (v8 : Int) : Option Int := lp (E := E) (ps := [.t (.sl (.nm 0))]) tt gl H (C20 n) n 53 Tryd.f53 [1, 1, 0, 1, 0] [] m0 ⟨mkT 26 0 [(3, .t (.int .i64) v3), (6, .t (.sl (.nm 0)) v6), (7, .t (.int .i64) v7), (8, .t (.int .i64) v8)], mkB 104 0 []⟩
theorem ref2_Breadth_l0_eq (n : Nat) (m0 : Nat) (v3 : Int) (v6 : List FixedField) (v7 : Int) (v8 : Int) : ref2_Breadth_l0 n (m0 + 1) v3 v6 v7 v8 = (bif (decide (v8 < v7)) then (bif (decide (0 ≤ v8) && decide (v8 < List.length v6)) then (bif (decide ((IntKind.wrap .i64 (((List.getD v6 (Int.toNat v8) (FixedField.mk [] 0 0 0 0 false 0)).At) + ((List.getD v6 (Int.toNat v8) (FixedField.mk [] 0 0 0 0 false 0)).Wide))) > v3)) then (ref2_Breadth_l0 n m0 (IntKind.wrap .i64 (((List.getD v6 (Int.toNat v8) (FixedField.mk [] 0 0 0 0 false 0)).At) + ((List.getD v6 (Int.toNat v8) (FixedField.mk [] 0 0 0 0 false 0)).Wide))) v6 v7 (IntKind.wrap .i64 (v8 + 1))) else (ref2_Breadth_l0 n m0 v3 v6 v7 (IntKind.wrap .i64 (v8 + 1)))) else none) else (some v3)) := by kernel_rfl
theorem ref2_Breadth_l0_zero (n : Nat) (v3 : Int) (v6 : List FixedField) (v7 : Int) (v8 : Int) : ref2_Breadth_l0 n 0 v3 v6 v7 v8 = none := by kernel_rfl
theorem ref2_Breadth_l0_fold (n : Nat) (v6 : List FixedField) (v3 : Int) (hl : List.length v6 < 9223372036854775807) (m i : Nat) (hi : i ≤ List.length v6) (hm : List.length v6 - i < m) : ref2_Breadth_l0 n m v3 v6 (List.length v6 : Int) (i : Int) = foldK (S := Int) (fun i (a : FixedField) s K => (bif (decide ((IntKind.wrap .i64 ((a.At) + (a.Wide))) > s)) then (K (IntKind.wrap .i64 ((a.At) + (a.Wide)))) else (K s))) (fun s => (some s)) (List.drop i v6) i (v3) := range_loop v6 (FixedField.mk [] 0 0 0 0 false 0) hl (fun m (k : Int) (s : Int) => ref2_Breadth_l0 n m s v6 (List.length v6 : Int) k) _ _ (fun m i s => (ref2_Breadth_l0_eq n m s v6 (List.length v6 : Int) (i : Int)).trans (by kernel_rfl)) m i hi hm (v3)
theorem ref2_Breadth_eq (n : Nat) (x0 : List FixedField) : ref2_Breadth n x0 = (ref2_Breadth_l0 n n 0 x0 (List.length x0 : Int) 0) := by kernel_rfl
noncomputable def C21 (n : Nat) : Call2 E := more tt gl H (C20 n) n 53 Tryd.f53 [.t (.sl (.nm 0))] (C20 n)

/- clapperbridge/clapref2.Gaps$1 -/
noncomputable def ref2_Gaps_1 (n : Nat) (x0 : FixedField) (x1 : Int) : Option Bool := F2 (E := E) tt gl H (C21 n) n 112 Tryd.f112 [.t (.nm 0), .imm (.int .i64)] (x0, x1, ())
theorem ref2_Gaps_1_eq (n : Nat) (x0 : FixedField) (x1 : Int) : ref2_Gaps_1 n x0 x1 = (bif (decide (x0.At ≤ x1)) then (some (decide (x1 < (IntKind.wrap .i64 (x0.At + x0.Wide))))) else (some false)) := by kernel_rfl
noncomputable def C22 (n : Nat) : Call2 E := more tt gl H (C21 n) n 112 Tryd.f112 [.t (.nm 0), .imm (.int .i64)] (C21 n)

/- slices.IndexFunc[[]clapperbridge/fixed.Field,clapperbridge/fixed.Field] -/
noncomputable def slices_IndexFunc_Field_by_ref2_Gaps_1 (n : Nat) (x0 : List FixedField) (x1 : (Int × Unit)) : Option Int := F2 (E := E) tt gl H (C22 n) n 152 Tryd.f152 [.t (.sl (.nm 0)), .fn 112 [(.int .i64)]] (x0, x1, ())
noncomputable def slices_IndexFunc_Field_by_ref2_Gaps_1_l0 (n : Nat) (m0 : Nat) (v0 : List FixedField) (v1c0 : Int) (v7 : Int) (v8 : Int) : Option Int := lp (E := E) (ps := [.t (.sl (.nm 0)), .fn 112 [(.int .i64)]]) tt gl H (C22 n) n 152 Tryd.f152 [1, 0, 1, 0] [] m0 ⟨mkT 19 0 [(0, .t (.sl (.nm 0)) v0), (1, .func 112 [⟨(.int .i64), v1c0⟩]), (7, .t (.int .i64) v7), (8, .t (.int .i64) v8)], mkB 76 0 []⟩
theorem slices_IndexFunc_Field_by_ref2_Gaps_1_l0_eq (n : Nat) (m0 : Nat) (v0 : List FixedField) (v1c0 : Int) (v7 : Int) (v8 : Int) : slices_IndexFunc_Field_by_ref2_Gaps_1_l0 n (m0 + 1) v0 v1c0 v7 v8 = (bif (decide (v8 < v7)) then (bif (decide (0 ≤ v8) && decide (v8 < List.length v0)) then (Option.bind (ref2_Gaps_1 n (List.getD v0 (Int.toNat v8) (FixedField.mk [] 0 0 0 0 false 0)) v1c0) fun r1 => (bif r1 then (some v8) else (slices_IndexFunc_Field_by_ref2_Gaps_1_l0 n m0 v0 v1c0 v7 (IntKind.wrap .i64 (v8 + 1))))) else none) else (some (-1))) := by kernel_rfl
theorem slices_IndexFunc_Field_by_ref2_Gaps_1_l0_zero (n : Nat) (v0 : List FixedField) (v1c0 : Int) (v7 : Int) (v8 : Int) : slices_IndexFunc_Field_by_ref2_Gaps_1_l0 n 0 v0 v1c0 v7 v8 = none := by kernel_rfl
theorem slices_IndexFunc_Field_by_ref2_Gaps_1_l0_fold (n : Nat) (v0 : List FixedField) (v1c0 : Int) (hl : List.length v0 < 9223372036854775807) (m i : Nat) (hi : i ≤ List.length v0) (hm : List.length v0 - i < m) : slices_IndexFunc_Field_by_ref2_Gaps_1_l0 n m v0 v1c0 (List.length v0 : Int) (i : Int) = foldK (S := Unit) (fun i (a : FixedField) s K => (Option.bind (ref2_Gaps_1 n a v1c0) fun r1 => (bif r1 then (some (i : Int)) else (K ())))) (fun s => (some (-1))) (List.drop i v0) i () := range_loop v0 (FixedField.mk [] 0 0 0 0 false 0) hl (fun m (k : Int) (s : Unit) => slices_IndexFunc_Field_by_ref2_Gaps_1_l0 n m v0 v1c0 (List.length v0 : Int) k) _ _ (fun m i s => (slices_IndexFunc_Field_by_ref2_Gaps_1_l0_eq n m v0 v1c0 (List.length v0 : Int) (i : Int)).trans (by kernel_rfl)) m i hi hm ()
theorem slices_IndexFunc_Field_by_ref2_Gaps_1_eq (n : Nat) (x0 : List FixedField) (x1 : (Int × Unit)) : slices_IndexFunc_Field_by_ref2_Gaps_1 n x0 x1 = (slices_IndexFunc_Field_by_ref2_Gaps_1_l0 n n x0 x1.1 (List.length x0 : Int) 0) := by kernel_rfl
noncomputable def C23 (n : Nat) : Call2 E := more tt gl H (C22 n) n 152 Tryd.f152 [.t (.sl (.nm 0)), .fn 112 [(.int .i64)]] (C22 n)

/- slices.ContainsFunc[[]clapperbridge/fixed.Field,clapperbridge/fixed.Field] -/
noncomputable def slices_ContainsFunc_Field_by_ref2_Gaps_1 (n : Nat) (x0 : List FixedField) (x1 : (Int × Unit)) : Option Bool := F2 (E := E) tt gl H (C23 n) n 111 Tryd.f111 [.t (.sl (.nm 0)), .fn 112 [(.int .i64)]] (x0, x1, ())
theorem slices_ContainsFunc_Field_by_ref2_Gaps_1_eq (n : Nat) (x0 : List FixedField) (x1 : (Int × Unit)) : slices_ContainsFunc_Field_by_ref2_Gaps_1 n x0 x1 = (Option.bind (slices_IndexFunc_Field_by_ref2_Gaps_1 n x0 (x1.1, ())) fun r1 => (some (decide (r1 ≥ 0)))) := by kernel_rfl
noncomputable def C24 (n : Nat) : Call2 E := more tt gl H (C23 n) n 111 Tryd.f111 [.t (.sl (.nm 0)), .fn 112 [(.int .i64)]] (C23 n)

/- clapperbridge/clapref2.Gaps -/
noncomputable def ref2_Gaps (n : Nat) (x0 : List FixedField) : Option (List (List Int)) := F2 (E := E) tt gl H (C24 n) n 57 Tryd.f57 [.t (.sl (.nm 0))] (x0, ())
noncomputable def ref2_Gaps_l0 (n : Nat) (m0 : Nat) (v0 : List FixedField) (v3l : Nat) (v7 : Int) (v8 : Int) (w19 : List (List Int)) : Option (List (List Int)) := lp (E := E) (ps := [.t (.sl (.nm 0))]) tt gl H (C24 n) n 57 Tryd.f57 [1, 1, 0, 1, 0] [] m0 ⟨mkT 46 0 [(0, .t (.sl (.nm 0)) v0), (3, .fs 19 (.arr 2 (.int .i64)) 0 v3l), (7, .t (.int .i64) v7), (8, .t (.int .i64) v8)], mkB 184 0 [(19, .row (.arr 2 (.int .i64)) w19)]⟩
theorem ref2_Gaps_l0_eq (n : Nat) (m0 : Nat) (v0 : List FixedField) (v3l : Nat) (v7 : Int) (v8 : Int) (w19 : List (List Int)) : ref2_Gaps_l0 n (m0 + 1) v0 v3l v7 v8 w19 = (bif (decide (v8 < v7)) then (Option.bind (slices_ContainsFunc_Field_by_ref2_Gaps_1 n v0 (v8, ())) fun r2 => (bif r2 then (ref2_Gaps_l0 n m0 v0 v3l v7 (IntKind.wrap .i64 (v8 + 1)) w19) else (bif (decide ((v3l : Int) > 0)) then (bif (decide (0 ≤ (IntKind.wrap .i64 ((v3l : Int) - 1))) && decide ((IntKind.wrap .i64 ((v3l : Int) - 1)) < (v3l : Int))) then (bif (decide ((0 + (Int.toNat (IntKind.wrap .i64 ((v3l : Int) - 1)))) < List.length w19)) then (bif (decide ((List.getD (List.getD w19 (0 + (Int.toNat (IntKind.wrap .i64 ((v3l : Int) - 1)))) (List.replicate 2 0)) 1 (0 : Int)) = v8)) then (bif (decide (0 ≤ (IntKind.wrap .i64 ((v3l : Int) - 1))) && decide ((IntKind.wrap .i64 ((v3l : Int) - 1)) < (v3l : Int))) then (bif (decide ((0 + (Int.toNat (IntKind.wrap .i64 ((v3l : Int) - 1)))) < List.length w19)) then (bif (decide (0 ≤ (IntKind.wrap .i64 ((v3l : Int) - 1))) && decide ((IntKind.wrap .i64 ((v3l : Int) - 1)) < (v3l : Int))) then (bif (decide ((0 + (Int.toNat (IntKind.wrap .i64 ((v3l : Int) - 1)))) < List.length w19)) then (ref2_Gaps_l0 n m0 v0 v3l v7 (IntKind.wrap .i64 (v8 + 1)) (List.set w19 (0 + (Int.toNat (IntKind.wrap .i64 ((v3l : Int) - 1)))) (List.set (List.getD w19 (0 + (Int.toNat (IntKind.wrap .i64 ((v3l : Int) - 1)))) (List.replicate 2 0)) 1 (IntKind.wrap .i64 ((List.getD (List.getD w19 (0 + (Int.toNat (IntKind.wrap .i64 ((v3l : Int) - 1)))) (List.replicate 2 0)) 1 (0 : Int)) + 1))))) else none) else none) else none) else none) else (bif (decide (v3l = List.length w19) && decide (List.length w19 + List.length ([[v8, (IntKind.wrap .i64 (v8 + 1))]] : List (List Int)) ≤ 4294967296)) then (ref2_Gaps_l0 n m0 v0 (List.length (w19 ++ [[v8, (IntKind.wrap .i64 (v8 + 1))]])) v7 (IntKind.wrap .i64 (v8 + 1)) (w19 ++ [[v8, (IntKind.wrap .i64 (v8 + 1))]])) else none)) else none) else none) else (bif (decide (v3l = List.length w19) && decide (List.length w19 + List.length ([[v8, (IntKind.wrap .i64 (v8 + 1))]] : List (List Int)) ≤ 4294967296)) then (ref2_Gaps_l0 n m0 v0 (List.length (w19 ++ [[v8, (IntKind.wrap .i64 (v8 + 1))]])) v7 (IntKind.wrap .i64 (v8 + 1)) (w19 ++ [[v8, (IntKind.wrap .i64 (v8 + 1))]])) else none)))) else (bif ((decide (0 + v3l ≤ List.length w19)) && true) then (some (List.take v3l w19)) else none)) := by kernel_rfl
theorem ref2_Gaps_l0_zero (n : Nat) (v0 : List FixedField) (v3l : Nat) (v7 : Int) (v8 : Int) (w19 : List (List Int)) : ref2_Gaps_l0 n 0 v0 v3l v7 v8 w19 = none := by kernel_rfl
theorem ref2_Gaps_l0_fold (n : Nat) (v0 : List FixedField) (N : Nat) (v3l : Nat) (w19 : List (List Int)) (hl : N < 9223372036854775807) (m i : Nat) (hi : i ≤ N) (hm : N - i < m) : ref2_Gaps_l0 n m v0 v3l (N : Int) (i : Int) w19 = foldN (S := Nat × (List (List Int))) (fun i s K => (Option.bind (slices_ContainsFunc_Field_by_ref2_Gaps_1 n v0 ((i : Int), ())) fun r2 => (bif r2 then (K (s.1, s.2)) else (bif (decide ((s.1 : Int) > 0)) then (bif (decide (0 ≤ (IntKind.wrap .i64 ((s.1 : Int) - 1))) && decide ((IntKind.wrap .i64 ((s.1 : Int) - 1)) < (s.1 : Int))) then (bif (decide ((0 + (Int.toNat (IntKind.wrap .i64 ((s.1 : Int) - 1)))) < List.length s.2)) then (bif (decide ((List.getD (List.getD s.2 (0 + (Int.toNat (IntKind.wrap .i64 ((s.1 : Int) - 1)))) (List.replicate 2 0)) 1 (0 : Int)) = (i : Int))) then (bif (decide (0 ≤ (IntKind.wrap .i64 ((s.1 : Int) - 1))) && decide ((IntKind.wrap .i64 ((s.1 : Int) - 1)) < (s.1 : Int))) then (bif (decide ((0 + (Int.toNat (IntKind.wrap .i64 ((s.1 : Int) - 1)))) < List.length s.2)) then (bif (decide (0 ≤ (IntKind.wrap .i64 ((s.1 : Int) - 1))) && decide ((IntKind.wrap .i64 ((s.1 : Int) - 1)) < (s.1 : Int))) then (bif (decide ((0 + (Int.toNat (IntKind.wrap .i64 ((s.1 : Int) - 1)))) < List.length s.2)) then (K (s.1, (List.set s.2 (0 + (Int.toNat (IntKind.wrap .i64 ((s.1 : Int) - 1)))) (List.set (List.getD s.2 (0 + (Int.toNat (IntKind.wrap .i64 ((s.1 : Int) - 1)))) (List.replicate 2 0)) 1 (IntKind.wrap .i64 ((List.getD (List.getD s.2 (0 + (Int.toNat (IntKind.wrap .i64 ((s.1 : Int) - 1)))) (List.replicate 2 0)) 1 (0 : Int)) + 1)))))) else none) else none) else none) else none) else (bif (decide (s.1 = List.length s.2) && decide (List.length s.2 + List.length ([[(i : Int), (IntKind.wrap .i64 ((i : Int) + 1))]] : List (List Int)) ≤ 4294967296)) then (K ((List.length (s.2 ++ [[(i : Int), (IntKind.wrap .i64 ((i : Int) + 1))]])), (s.2 ++ [[(i : Int), (IntKind.wrap .i64 ((i : Int) + 1))]]))) else none)) else none) else none) else (bif (decide (s.1 = List.length s.2) && decide (List.length s.2 + List.length ([[(i : Int), (IntKind.wrap .i64 ((i : Int) + 1))]] : List (List Int)) ≤ 4294967296)) then (K ((List.length (s.2 ++ [[(i : Int), (IntKind.wrap .i64 ((i : Int) + 1))]])), (s.2 ++ [[(i : Int), (IntKind.wrap .i64 ((i : Int) + 1))]]))) else none))))) (fun s => (bif ((decide (0 + s.1 ≤ List.length s.2)) && true) then (some (List.take s.1 s.2)) else none)) (N - i) i (v3l, w19) := count_loop N hl (fun m (k : Int) (s : Nat × (List (List Int))) => ref2_Gaps_l0 n m v0 s.1 (N : Int) k s.2) _ _ (fun m i s => (ref2_Gaps_l0_eq n m v0 s.1 (N : Int) (i : Int) s.2).trans (by kernel_rfl)) m i hi hm (v3l, w19)
theorem ref2_Gaps_eq (n : Nat) (x0 : List FixedField) : ref2_Gaps n x0 = (Option.bind (ref2_Breadth n x0) fun r1 => (ref2_Gaps_l0 n n x0 0 r1 0 [])) := by kernel_rfl
noncomputable def C25 (n : Nat) : Call2 E := more tt gl H (C24 n) n 57 Tryd.f57 [.t (.sl (.nm 0))] (C24 n)

/- slices.Equal[[][2]int,[2]int] -/
noncomputable def slices_Equal_2int (n : Nat) (x0 : List (List Int)) (x1 : List (List Int)) : Option Bool := F2 (E := E) tt gl H (C25 n) n 56 Tryd.f56 [.t (.sl (.arr 2 (.int .i64))), .t (.sl (.arr 2 (.int .i64)))] (x0, x1, ())
noncomputable def slices_Equal_2int_l0 (n : Nat) (m0 : Nat) (v0 : List (List Int)) (v1 : List (List Int)) (v12 : Int) (v13 : Int) : Option Bool := lp (E := E) (ps := [.t (.sl (.arr 2 (.int .i64))), .t (.sl (.arr 2 (.int .i64)))]) tt gl H (C25 n) n 56 Tryd.f56 [1, 1, 0, 1, 0] [] m0 ⟨mkT 26 0 [(0, .t (.sl (.arr 2 (.int .i64))) v0), (1, .t (.sl (.arr 2 (.int .i64))) v1), (12, .t (.int .i64) v12), (13, .t (.int .i64) v13)], mkB 104 0 []⟩
theorem slices_Equal_2int_l0_eq (n : Nat) (m0 : Nat) (v0 : List (List Int)) (v1 : List (List Int)) (v12 : Int) (v13 : Int) : slices_Equal_2int_l0 n (m0 + 1) v0 v1 v12 v13 = (bif (decide (v13 < v12)) then (bif (decide (0 ≤ v13) && decide (v13 < List.length v0)) then (bif (decide (0 ≤ v13) && decide (v13 < List.length v1)) then (bif (!((List.getD v0 (Int.toNat v13) (List.replicate 2 0)) == (List.getD v1 (Int.toNat v13) (List.replicate 2 0)))) then (some false) else (slices_Equal_2int_l0 n m0 v0 v1 v12 (IntKind.wrap .i64 (v13 + 1)))) else none) else none) else (some true)) := by kernel_rfl
theorem slices_Equal_2int_l0_zero (n : Nat) (v0 : List (List Int)) (v1 : List (List Int)) (v12 : Int) (v13 : Int) : slices_Equal_2int_l0 n 0 v0 v1 v12 v13 = none := by kernel_rfl
theorem slices_Equal_2int_l0_fold (n : Nat) (v0 : List (List Int)) (v1 : List (List Int)) (hl : List.length v0 < 9223372036854775807) (m i : Nat) (hi : i ≤ List.length v0) (hm : List.length v0 - i < m) : slices_Equal_2int_l0 n m v0 v1 (List.length v0 : Int) (i : Int) = foldK (S := Unit) (fun i (a : (List Int)) s K => (bif (decide (0 ≤ (i : Int)) && decide ((i : Int) < List.length v1)) then (bif (!(a == (List.getD v1 (Int.toNat (i : Int)) (List.replicate 2 0)))) then (some false) else (K ())) else none)) (fun s => (some true)) (List.drop i v0) i () := range_loop v0 (List.replicate 2 0) hl (fun m (k : Int) (s : Unit) => slices_Equal_2int_l0 n m v0 v1 (List.length v0 : Int) k) _ _ (fun m i s => (slices_Equal_2int_l0_eq n m v0 v1 (List.length v0 : Int) (i : Int)).trans (by kernel_rfl)) m i hi hm ()
theorem slices_Equal_2int_eq (n : Nat) (x0 : List (List Int)) (x1 : List (List Int)) : slices_Equal_2int n x0 x1 = (bif (!decide ((List.length x0 : Int) = (List.length x1 : Int))) then (some false) else (slices_Equal_2int_l0 n n x0 x1 (List.length x0 : Int) 0)) := by kernel_rfl
noncomputable def C26 (n : Nat) : Call2 E := more tt gl H (C25 n) n 56 Tryd.f56 [.t (.sl (.arr 2 (.int .i64))), .t (.sl (.arr 2 (.int .i64)))] (C25 n)

/- clapperbridge/claplaw2.FixedChecks -/
noncomputable def law2_FixedChecks (n : Nat) (x0 : List FixedField) (x1 : Int) (x2 : Int) : Option Bool := F2 (E := E) tt gl H (C26 n) n 9 Tryd.f9 [.t (.sl (.nm 0)), .t (.int .i64), .t (.int .i64)] (x0, x1, x2, ())
noncomputable def law2_FixedChecks_l0 (n : Nat) (m0 : Nat) (v0 : List FixedField) (v7 : Int) (v8 : List (List Int)) (v48 : List FixedField) (v49 : Int) (v50 : Int) : Option Bool := lp (E := E) (ps := [.t (.sl (.nm 0)), .t (.int .i64), .t (.int .i64)]) tt gl H (C26 n) n 9 Tryd.f9 [1, 1, 1, 1, 0, 1, 0] [] m0 ⟨mkT 69 0 [(0, .t (.sl (.nm 0)) v0), (7, .t (.int .i64) v7), (8, .t (.sl (.arr 2 (.int .i64))) v8), (48, .t (.sl (.nm 0)) v48), (49, .t (.int .i64) v49), (50, .t (.int .i64) v50)], mkB 276 0 []⟩
theorem law2_FixedChecks_l0_eq (n : Nat) (m0 : Nat) (v0 : List FixedField) (v7 : Int) (v8 : List (List Int)) (v48 : List FixedField) (v49 : Int) (v50 : Int) : law2_FixedChecks_l0 n (m0 + 1) v0 v7 v8 v48 v49 v50 = (bif (decide (v50 < v49)) then (bif (decide (0 ≤ v50) && decide (v50 < List.length v48)) then (Option.bind (fixed_Digits n (List.getD v48 (Int.toNat v50) (FixedField.mk [] 0 0 0 0 false 0))) fun r9 => (Option.bind (ref2_Places n (List.getD v48 (Int.toNat v50) (FixedField.mk [] 0 0 0 0 false 0))) fun r10 => (bif (!decide (r9 = r10)) then (some false) else (law2_FixedChecks_l0 n m0 v0 v7 v8 v48 v49 (IntKind.wrap .i64 (v50 + 1)))))) else none) else (bif (!decide (v7 = 0)) then (some (decide ((List.length v8 : Int) = 0))) else (Option.bind (ref2_Gaps n v0) fun r11 => (Option.bind (slices_Equal_2int n v8 r11) fun r12 => (some r12))))) := by kernel_rfl
theorem law2_FixedChecks_l0_zero (n : Nat) (v0 : List FixedField) (v7 : Int) (v8 : List (List Int)) (v48 : List FixedField) (v49 : Int) (v50 : Int) : law2_FixedChecks_l0 n 0 v0 v7 v8 v48 v49 v50 = none := by kernel_rfl
theorem law2_FixedChecks_l0_fold (n : Nat) (v0 : List FixedField) (v7 : Int) (v8 : List (List Int)) (v48 : List FixedField) (hl : List.length v48 < 9223372036854775807) (m i : Nat) (hi : i ≤ List.length v48) (hm : List.length v48 - i < m) : law2_FixedChecks_l0 n m v0 v7 v8 v48 (List.length v48 : Int) (i : Int) = foldK (S := Unit) (fun i (a : FixedField) s K => (Option.bind (fixed_Digits n a) fun r9 => (Option.bind (ref2_Places n a) fun r10 => (bif (!decide (r9 = r10)) then (some false) else (K ()))))) (fun s => (bif (!decide (v7 = 0)) then (some (decide ((List.length v8 : Int) = 0))) else (Option.bind (ref2_Gaps n v0) fun r11 => (Option.bind (slices_Equal_2int n v8 r11) fun r12 => (some r12))))) (List.drop i v48) i () := range_loop v48 (FixedField.mk [] 0 0 0 0 false 0) hl (fun m (k : Int) (s : Unit) => law2_FixedChecks_l0 n m v0 v7 v8 v48 (List.length v48 : Int) k) _ _ (fun m i s => (law2_FixedChecks_l0_eq n m v0 v7 v8 v48 (List.length v48 : Int) (i : Int)).trans (by kernel_rfl)) m i hi hm ()
theorem law2_FixedChecks_eq (n : Nat) (x0 : List FixedField) (x1 : Int) (x2 : Int) : law2_FixedChecks n x0 x1 x2 = (Option.bind (ref2_FieldsErr n x0) fun r1 => (Option.bind (fixed_Free n x0) fun r2 => (Option.bind (law2_widths n) fun r3 => (bif (!r3) then (some false) else (Option.bind (fixed_Check n x0) fun r4 => (bif (!decide (r4 = r1)) then (some false) else (bif (!decide (r2.2 = r1)) then (some false) else (Option.bind (fixed_Shown n x1 x2) fun r5 => (Option.bind (ref2_Pointed10 n x1 x2) fun r6 => (bif (!(r5 == r6)) then (some false) else (Option.bind (fixed_Wide n x0) fun r7 => (Option.bind (ref2_Breadth n x0) fun r8 => (bif (!decide (r7 = r8)) then (some false) else (law2_FixedChecks_l0 n n x0 r1 r2.1 x0 (List.length x0 : Int) 0)))))))))))))) := by kernel_rfl
noncomputable def C27 (n : Nat) : Call2 E := more tt gl H (C26 n) n 9 Tryd.f9 [.t (.sl (.nm 0)), .t (.int .i64), .t (.int .i64)] (C26 n)

theorem ok0 [Quiet] (n : Nat) : CallOK Tryd.prog gl (callR (C0 n)) := none_ok
theorem ok1 [Quiet] (n : Nat) : CallOK Tryd.prog gl (callR (C1 n)) := more_ok envOK hz tok hmix (ok0 n) (ok0 n) Tryd.func107 (by decide)
theorem ok2 [Quiet] (n : Nat) : CallOK Tryd.prog gl (callR (C2 n)) := more_ok envOK hz tok hmix (ok1 n) (ok1 n) Tryd.func64 (by decide)
theorem ok3 [Quiet] (n : Nat) : CallOK Tryd.prog gl (callR (C3 n)) := more_ok envOK hz tok hmix (ok2 n) (ok2 n) Tryd.func55 (by decide)
theorem ok4 [Quiet] (n : Nat) : CallOK Tryd.prog gl (callR (C4 n)) := more_ok envOK hz tok hmix (ok3 n) (ok3 n) Tryd.func31 (by decide)
theorem ok5 [Quiet] (n : Nat) : CallOK Tryd.prog gl (callR (C5 n)) := more_ok envOK hz tok hmix (ok4 n) (ok4 n) Tryd.func54 (by decide)
theorem ok6 [Quiet] (n : Nat) : CallOK Tryd.prog gl (callR (C6 n)) := more_ok envOK hz tok hmix (ok5 n) (ok5 n) Tryd.func108 (by decide)
theorem ok7 [Quiet] (n : Nat) : CallOK Tryd.prog gl (callR (C7 n)) := more_ok envOK hz tok hmix (ok6 n) (ok6 n) Tryd.func49 (by decide)
theorem ok8 [Quiet] (n : Nat) : CallOK Tryd.prog gl (callR (C8 n)) := more_ok envOK hz tok hmix (ok7 n) (ok7 n) Tryd.func105 (by decide)
theorem ok9 [Quiet] (n : Nat) : CallOK Tryd.prog gl (callR (C9 n)) := moreN_ok envOK hz tok hmix (ok7 n) (ok8 n) Tryd.func105 (by decide) (slices_Clone_Field_nn_hq n)
theorem ok10 [Quiet] (n : Nat) : CallOK Tryd.prog gl (callR (C10 n)) := moreS_ok envOK (@ok1 ⟨True⟩ n) (ok9 n) fnok106 sortc106
theorem ok11 [Quiet] (n : Nat) : CallOK Tryd.prog gl (callR (C11 n)) := more_ok envOK hz tok hmix (ok10 n) (ok10 n) Tryd.func48 (by decide)
theorem pc109 [Quiet] : PlainC (E := E) Tryd.prog gl 109 [(.int .u64), (.int .i64)] .str (fun x => fmtuO x.1 x.2.1) := fmtuP (name := "internal/strconv.uint64pow10") (gp := 3) (fun u hu w ht => fmtu109 u hu w ht) (by kernel_rfl) rfl
theorem ok12 [Quiet] (n : Nat) : CallOK Tryd.prog gl (callR (C12 n)) := moreP_ok (ok11 n) rfl fnok109 pc109
theorem pc92 : PlainC (E := E) Tryd.prog gl 92 [.str, (.int .i64)] .str (fun x => repO x.1 x.2.1) := plain_sis (F := repO) fun a n w r h => by
  obtain ⟨h1, h2, h3, rfl⟩ := repO_some h
  obtain ⟨c, rfl⟩ : ∃ c : Nat, n = c := ⟨n.toNat, (Int.toNat_of_nonneg h1).symm⟩
  have hs : a.size ≤ 32768 := by rw [Array.length_toList] at h3; exact h3
  exact (Go.Proofs.Any.strings_Repeat lay92 ext92 a c w (by omega) (Nat.le_trans (Nat.mul_le_mul hs (show c ≤ 4294967296 by omega)) (by decide))).mono fun e w' ⟨he, hw⟩ => ⟨he, Ext.below (fun h => h) hw⟩
theorem ok13 (n : Nat) : CallOK Tryd.prog gl (callR (C13 n)) := moreP_ok (ok12 n) rfl fnok92 pc92
theorem ok14 (n : Nat) : CallOK Tryd.prog gl (callR (C14 n)) := more_ok envOK hz tok hmix (ok13 n) (ok13 n) Tryd.func50 (by decide)
theorem ok15 (n : Nat) : CallOK Tryd.prog gl (callR (C15 n)) := more_ok envOK hz tok hmix (ok14 n) (ok14 n) Tryd.func32 (by decide)
theorem pc68 : PlainC (E := E) Tryd.prog gl 68 [(.int .i64)] .str (fun x => itoaO x.1) := itoaP (name := "internal/strconv.uint64pow10") (gp := 3) (fun n h0 h1 w ht => Go.Proofs.Any.strconv_Itoa lay68 n h0 h1 w ht) (by kernel_rfl) rfl
theorem ok16 (n : Nat) : CallOK Tryd.prog gl (callR (C16 n)) := moreP_ok (ok15 n) rfl fnok68 pc68
theorem pc95 : PlainC (E := E) Tryd.prog gl 95 [.str, .str] .str (fun x => some (Go.Lib.trimPrefix x.1 x.2.1)) := plain_sss (F := fun a b => some (Go.Lib.trimPrefix a b)) fun a b w r h => by
  have h := Option.some.inj h
  subst h
  exact Go.Proofs.Any.strings_TrimPrefix lay95 a b w
theorem ok17 (n : Nat) : CallOK Tryd.prog gl (callR (C17 n)) := moreP_ok (ok16 n) rfl fnok95 pc95
theorem ok18 (n : Nat) : CallOK Tryd.prog gl (callR (C18 n)) := more_ok envOK hz tok hmix (ok17 n) (ok17 n) Tryd.func110 (by decide)
theorem ok19 (n : Nat) : CallOK Tryd.prog gl (callR (C19 n)) := more_ok envOK hz tok hmix (ok18 n) (ok18 n) Tryd.func51 (by decide)
theorem ok20 (n : Nat) : CallOK Tryd.prog gl (callR (C20 n)) := more_ok envOK hz tok hmix (ok19 n) (ok19 n) Tryd.func52 (by decide)
theorem ok21 (n : Nat) : CallOK Tryd.prog gl (callR (C21 n)) := more_ok envOK hz tok hmix (ok20 n) (ok20 n) Tryd.func53 (by decide)
theorem ok22 (n : Nat) : CallOK Tryd.prog gl (callR (C22 n)) := more_ok envOK hz tok hmix (ok21 n) (ok21 n) Tryd.func112 (by decide)
theorem ok23 (n : Nat) : CallOK Tryd.prog gl (callR (C23 n)) := more_ok envOK hz tok hmix (ok22 n) (ok22 n) Tryd.func152 (by decide)
theorem ok24 (n : Nat) : CallOK Tryd.prog gl (callR (C24 n)) := more_ok envOK hz tok hmix (ok23 n) (ok23 n) Tryd.func111 (by decide)
theorem ok25 (n : Nat) : CallOK Tryd.prog gl (callR (C25 n)) := more_ok envOK hz tok hmix (ok24 n) (ok24 n) Tryd.func57 (by decide)
theorem ok26 (n : Nat) : CallOK Tryd.prog gl (callR (C26 n)) := more_ok envOK hz tok hmix (ok25 n) (ok25 n) Tryd.func56 (by decide)
theorem ok27 (n : Nat) : CallOK Tryd.prog gl (callR (C27 n)) := more_ok envOK hz tok hmix (ok26 n) (ok26 n) Tryd.func9 (by decide)
theorem law_call (n : Nat) (x0 : List FixedField) (x1 : Int) (x2 : Int) : callR (C27 n) 9 [.t (.sl (.nm 0)) x0, .t (.int .i64) x1, .t (.int .i64) x2] [.none, .none, .none] = (law2_FixedChecks n x0 x1 x2).map fun r => (.t .bool r, [.none, .none, .none]) := by kernel_rfl
theorem law_full : ∀ t ∈ ([55, 3, 3] : List Nat), ∃ x, tt t = some x ∧ x.ty.full = true := by
  intro t ht
  simp only [List.mem_cons, List.not_mem_nil, or_false] at ht
  rcases ht with rfl | rfl | rfl
  · exact ⟨⟨(.sl (.nm 0)), .slice 87⟩, by kernel_rfl, rfl⟩
  · exact ⟨⟨(.int .i64), .int .i64⟩, by kernel_rfl, rfl⟩
  · exact ⟨⟨(.int .i64), .int .i64⟩, by kernel_rfl, rfl⟩
theorem law_ins {aa : List (AV E)} (h : Ins E tt [55, 3, 3] aa) {N : Nat} (hb : ∀ g, (aa.map (bulkA E g)).sum ≤ N) : ∃ (x0 : List FixedField) (x1 : Int) (x2 : Int), aa = [.t (.sl (.nm 0)) x0, .t (.int .i64) x1, .t (.int .i64) x2] ∧ (∀ g, Fv.Good E g (.sl (.nm 0)) x0) ∧ (∀ g, Fv.Good E g (.int .i64) x1) ∧ (∀ g, Fv.Good E g (.int .i64) x2) ∧ ∀ g, Bulk E g (.sl (.nm 0)) x0 + Bulk E g (.int .i64) x1 + Bulk E g (.int .i64) x2 ≤ N := by
  cases h with
  | cons z0 e0 v0 g0 h => 
  have q0 := Option.some.inj (e0.symm.trans (show tt 55 = some ⟨(.sl (.nm 0)), .slice 87⟩ by kernel_rfl))
  subst q0
  cases h with
  | cons z1 e1 v1 g1 h => 
  have q1 := Option.some.inj (e1.symm.trans (show tt 3 = some ⟨(.int .i64), .int .i64⟩ by kernel_rfl))
  subst q1
  cases h with
  | cons z2 e2 v2 g2 h => 
  have q2 := Option.some.inj (e2.symm.trans (show tt 3 = some ⟨(.int .i64), .int .i64⟩ by kernel_rfl))
  subst q2
  cases h
  exact ⟨v0, v1, v2, rfl, g0, g1, g2, fun g => Nat.le_trans (Nat.le_of_eq (by simp [bulkA, Nat.add_assoc])) (hb g)⟩
theorem law_pure (ok : ∀ (x0 : List FixedField) (x1 : Int) (x2 : Int) (h0 : ∀ g, Fv.Good E g (.sl (.nm 0)) x0) (h1 : ∀ g, Fv.Good E g (.int .i64) x1) (h2 : ∀ g, Fv.Good E g (.int .i64) x2) (hb : ∀ g, Bulk E g (.sl (.nm 0)) x0 + Bulk E g (.int .i64) x1 + Bulk E g (.int .i64) x2 ≤ 1048576), ∃ n, law2_FixedChecks n x0 x1 x2 = some true) (aa : List (AV E)) (h : Ins E tt [55, 3, 3] aa) (hb : ∀ g, (aa.map (bulkA E g)).sum ≤ 1048576) : ∃ n outs, callR (C27 n) 9 aa (List.replicate ([55, 3, 3] : List Nat).length .none) = some (.t .bool true, outs) := by
  obtain ⟨x0, x1, x2, rfl, h0, h1, h2, hk⟩ := law_ins h hb
  obtain ⟨n, hn⟩ := ok x0 x1 x2 h0 h1 h2 hk
  exact ⟨n, _, (law_call n x0 x1 x2).trans (by rw [hn]; rfl)⟩
end Go.Proofs.YtbmpjppfdeohnaaDoor.PFixedChecks
