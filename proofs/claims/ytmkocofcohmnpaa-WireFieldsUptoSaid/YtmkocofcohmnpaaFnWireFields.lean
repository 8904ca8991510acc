/- The functions that the law WireFields reaches, as the evaluator reckons them. No condition. -/
import Derived.Test.YtmkocofcohmnpaaFvD
import Derived.Test.YtmkocofcohmnpaaChecked
set_option linter.unusedVariables false
set_option maxRecDepth 100000
namespace Go.Proofs.Ytmkocofcohmnpaa.PWireFields
open Go Go.Proofs Go.Proofs.Ytmkocofcohmnpaa.Fv

structure WireField where
  Tag : Int
  Data : List Int

structure Spec where
  Tag : Int
  Name : List UInt8
  Kind : Int
  Many : Bool

mutual
structure ApiValue where
  Kind : Int
  N : Int
  S : List UInt8
  Fields : List ApiField
structure ApiField where
  Name : List UInt8
  Val : ApiValue
end

def R : Nat → Type
  | 0 => WireField
  | 1 => Spec
  | 2 => ApiValue
  | 3 => ApiField
  | _ => Bool
def body : Nat → Ty
  | 0 => (.pair (.int .i64) (.one (.sl (.int .u8))))
  | 1 => (.pair (.int .i64) (.pair .str (.pair (.int .i64) (.one .bool))))
  | 2 => (.pair (.int .i64) (.pair (.int .i64) (.pair .str (.one (.sl (.nm 3))))))
  | 3 => (.pair .str (.one (.nm 2)))
  | _ => .one .bool
def un : (n : Nat) → R n → den R (body n)
  | 0, (x : WireField) => (x.Tag, x.Data)
  | 1, (x : Spec) => (x.Tag, x.Name, x.Kind, x.Many)
  | 2, (x : ApiValue) => (x.Kind, x.N, x.S, x.Fields)
  | 3, (x : ApiField) => (x.Name, x.Val)
  | _ + 4, x => x
def ro : (n : Nat) → den R (body n) → R n
  | 0, x => WireField.mk x.1 x.2
  | 1, x => Spec.mk x.1 x.2.1 x.2.2.1 x.2.2.2
  | 2, x => ApiValue.mk x.1 x.2.1 x.2.2.1 x.2.2.2
  | 3, x => ApiField.mk x.1 x.2
  | _ + 4, x => x
def dfl0 : (n : Nat) → R n
  | 0 => (WireField.mk 0 [])
  | 1 => (Spec.mk 0 [] 0 false)
  | 2 => (ApiValue.mk 0 0 [] [])
  | 3 => (ApiField.mk [] (ApiValue.mk 0 0 [] []))
  | _ + 4 => false
def sz0 : Nat → Nat
  | 0 => 2
  | 1 => 4
  | 2 => 4
  | 3 => 5
  | _ => 1
def zc0 : Nat → List Value
  | 0 => [.int .i64 0, .slice none 0 0]
  | 1 => [.int .i64 0, .string ByteArray.empty, .int .i64 0, .bool false]
  | 2 => [.int .i64 0, .int .i64 0, .string ByteArray.empty, .slice none 0 0]
  | 3 => [.string ByteArray.empty, .int .i64 0, .int .i64 0, .string ByteArray.empty, .slice none 0 0]
  | _ => [.bool false]
def E : Env := { R := R, body := body, un := un, ro := ro, dfl := dfl0, sz := sz0, zc := zc0 }
theorem hun : ∀ n x, un n (ro n x) = x
  | 0, _ => rfl
  | 1, _ => rfl
  | 2, _ => rfl
  | 3, _ => rfl
  | _ + 4, _ => rfl
theorem hdf : ∀ n, un n (dfl0 n) = dfl E (body n)
  | 0 => rfl
  | 1 => rfl
  | 2 => rfl
  | 3 => rfl
  | _ + 4 => rfl
theorem hsz : ∀ n, sz0 n = size E (body n)
  | 0 => rfl
  | 1 => rfl
  | 2 => rfl
  | 3 => rfl
  | _ + 4 => rfl
theorem hzc : ∀ n, zc0 n = zcells E (body n)
  | 0 => rfl
  | 1 => rfl
  | 2 => rfl
  | 3 => rfl
  | _ + 4 => rfl
theorem hag : ∀ n, (∃ a, body n = .one a) ∨ ∃ a b, body n = .pair a b
  | 0 => .inr ⟨_, _, rfl⟩
  | 1 => .inr ⟨_, _, rfl⟩
  | 2 => .inr ⟨_, _, rfl⟩
  | 3 => .inr ⟨_, _, rfl⟩
  | _ + 4 => .inl ⟨_, rfl⟩
theorem envOK : EnvOK E := ⟨hun, hdf, hsz, hzc, hag⟩
theorem hz0 (M : Mem) : RC (E := E) M (.nm 0) (dfl0 0) (zc0 0) := RC.nm (E := E) (RC.pair (RC.int .i64 0) (RC.one (RC.sl (e := (.int .u8)) [] none 0 (fun _ => []) (Nat.le_refl _) (fun i hi => by simp at hi) (fun i hi => by simp at hi) (fun _ => rfl))))
theorem hz1 (M : Mem) : RC (E := E) M (.nm 1) (dfl0 1) (zc0 1) := RC.nm (E := E) (RC.pair (RC.int .i64 0) (RC.pair (RC.str ByteArray.empty) (RC.pair (RC.int .i64 0) (RC.one (RC.bool false)))))
theorem hz2 (M : Mem) : RC (E := E) M (.nm 2) (dfl0 2) (zc0 2) := RC.nm (E := E) (RC.pair (RC.int .i64 0) (RC.pair (RC.int .i64 0) (RC.pair (RC.str ByteArray.empty) (RC.one (RC.sl (e := (.nm 3)) [] none 0 (fun _ => []) (Nat.le_refl _) (fun i hi => by simp at hi) (fun i hi => by simp at hi) (fun _ => rfl))))))
theorem hz3 (M : Mem) : RC (E := E) M (.nm 3) (dfl0 3) (zc0 3) := RC.nm (E := E) (RC.pair (RC.str ByteArray.empty) (RC.one (hz2 M)))
theorem hz : ∀ (M : Mem) n, RC (E := E) M (.nm n) (E.dfl n) (E.zc n)
  | M, 0 => hz0 M
  | M, 1 => hz1 M
  | M, 2 => hz2 M
  | M, 3 => hz3 M
  | M, _ + 4 => RC.nm (E := E) (RC.one (RC.bool false))
def tl : List (Nat × TE) := [(3, ⟨(.int .i64), .int .i64⟩),
  (4, ⟨.bool, .bool⟩),
  (5, ⟨(.int .u8), .int .u8⟩),
  (9, ⟨.str, .str⟩),
  (22, ⟨(.sl (.nm 1)), .slice 26⟩),
  (23, ⟨(.int .i64), .int .i64⟩),
  (26, ⟨(.nm 1), .struct [(3, 0), (9, 1), (3, 2), (4, 3)]⟩),
  (30, ⟨(.sl (.nm 0)), .slice 70⟩),
  (31, ⟨(.sl (.int .u8)), .slice 5⟩),
  (32, ⟨(.sl (.nm 3)), .slice 124⟩),
  (34, ⟨(.nm 2), .struct [(3, 0), (3, 1), (9, 2), (32, 3)]⟩),
  (68, ⟨(.sl (.int .i64)), .slice 3⟩),
  (70, ⟨(.nm 0), .struct [(3, 0), (31, 1)]⟩),
  (80, ⟨.any, .func⟩),
  (82, ⟨.any, .func⟩),
  (83, ⟨(.int .u64), .int .u64⟩),
  (84, ⟨(.int .u64), .int .u64⟩),
  (105, ⟨(.sl (.sl (.int .u8))), .slice 31⟩),
  (124, ⟨(.nm 3), .struct [(9, 0), (34, 1)]⟩)]
def tt : Nat → Option TE := look2 tl
theorem tf3 : TFact Try.prog E tt 3 ⟨(.int .i64), .int .i64⟩ := TFact.of (z := .int .i64 0) (bs := 8) Try.underlying3 ⟨rfl, rfl, rfl⟩ (by kernel_rfl) (by kernel_rfl) (fun h => nomatch h) (by kernel_rfl) (trivial)
theorem tf4 : TFact Try.prog E tt 4 ⟨.bool, .bool⟩ := TFact.of (z := .bool false) (bs := 1) Try.underlying4 ⟨rfl, rfl, rfl⟩ (by kernel_rfl) (by kernel_rfl) (fun h => nomatch h) (by kernel_rfl) (trivial)
theorem tf5 : TFact Try.prog E tt 5 ⟨(.int .u8), .int .u8⟩ := TFact.of (z := .int .u8 0) (bs := 1) Try.underlying5 ⟨rfl, rfl, rfl⟩ (by kernel_rfl) (by kernel_rfl) (fun h => nomatch h) (by kernel_rfl) (trivial)
theorem tf9 : TFact Try.prog E tt 9 ⟨.str, .str⟩ := TFact.of (z := .string ByteArray.empty) (bs := 16) Try.underlying9 ⟨rfl, rfl, rfl⟩ (by kernel_rfl) (by kernel_rfl) (fun h => nomatch h) (by kernel_rfl) (trivial)
theorem tf22 : TFact Try.prog E tt 22 ⟨(.sl (.nm 1)), .slice 26⟩ := TFact.of (z := .slice none 0 0) (bs := 24) Try.underlying22 ⟨rfl, rfl, .inr ⟨by kernel_rfl, by kernel_rfl, by kernel_rfl, of_decide_eq_true (by kernel_rfl), of_decide_eq_true (by kernel_rfl), of_decide_eq_true (by kernel_rfl)⟩⟩ (by kernel_rfl) (by kernel_rfl) (fun h => nomatch h) (by kernel_rfl) (trivial)
theorem tf23 : TFact Try.prog E tt 23 ⟨(.int .i64), .int .i64⟩ := TFact.of (z := .int .i64 0) (bs := 8) Try.underlying23 ⟨rfl, rfl, rfl⟩ (by kernel_rfl) (by kernel_rfl) (fun h => nomatch h) (by kernel_rfl) (trivial)
theorem tf26 : TFact Try.prog E tt 26 ⟨(.nm 1), .struct [(3, 0), (9, 1), (3, 2), (4, 3)]⟩ := TFact.of (z := .agg #[.int .i64 0, .string ByteArray.empty, .int .i64 0, .bool false]) (bs := 40) Try.underlying26 ⟨by kernel_rfl, ⟨_, rfl, rfl⟩, by kernel_rfl, by kernel_rfl⟩ (by kernel_rfl) (by kernel_rfl) (fun _ => rfl) (by kernel_rfl) (show (Value.cells (.agg #[.int .i64 0, .string ByteArray.empty, .int .i64 0, .bool false])).toList = (List.map (fun f => zA (E := E) (zeroA tt 20 f.1)) [(3, 0), (9, 1), (3, 2), (4, 3)]).flatten from by kernel_rfl)
theorem tf30 : TFact Try.prog E tt 30 ⟨(.sl (.nm 0)), .slice 70⟩ := TFact.of (z := .slice none 0 0) (bs := 24) Try.underlying30 ⟨rfl, rfl, .inr ⟨by kernel_rfl, by kernel_rfl, by kernel_rfl, of_decide_eq_true (by kernel_rfl), of_decide_eq_true (by kernel_rfl), of_decide_eq_true (by kernel_rfl)⟩⟩ (by kernel_rfl) (by kernel_rfl) (fun h => nomatch h) (by kernel_rfl) (trivial)
theorem tf31 : TFact Try.prog E tt 31 ⟨(.sl (.int .u8)), .slice 5⟩ := TFact.of (z := .slice none 0 0) (bs := 24) Try.underlying31 ⟨rfl, rfl, .inr ⟨by kernel_rfl, by kernel_rfl, by kernel_rfl, of_decide_eq_true (by kernel_rfl), of_decide_eq_true (by kernel_rfl), of_decide_eq_true (by kernel_rfl)⟩⟩ (by kernel_rfl) (by kernel_rfl) (fun h => nomatch h) (by kernel_rfl) (trivial)
theorem tf32 : TFact Try.prog E tt 32 ⟨(.sl (.nm 3)), .slice 124⟩ := TFact.of (z := .slice none 0 0) (bs := 24) Try.underlying32 ⟨rfl, rfl, .inr ⟨by kernel_rfl, by kernel_rfl, by kernel_rfl, of_decide_eq_true (by kernel_rfl), of_decide_eq_true (by kernel_rfl), of_decide_eq_true (by kernel_rfl)⟩⟩ (by kernel_rfl) (by kernel_rfl) (fun h => nomatch h) (by kernel_rfl) (trivial)
theorem tf34 : TFact Try.prog E tt 34 ⟨(.nm 2), .struct [(3, 0), (3, 1), (9, 2), (32, 3)]⟩ := TFact.of (z := .agg #[.int .i64 0, .int .i64 0, .string ByteArray.empty, .slice none 0 0]) (bs := 56) Try.underlying34 ⟨by kernel_rfl, ⟨_, rfl, rfl⟩, by kernel_rfl, by kernel_rfl⟩ (by kernel_rfl) (by kernel_rfl) (fun _ => rfl) (by kernel_rfl) (show (Value.cells (.agg #[.int .i64 0, .int .i64 0, .string ByteArray.empty, .slice none 0 0])).toList = (List.map (fun f => zA (E := E) (zeroA tt 20 f.1)) [(3, 0), (3, 1), (9, 2), (32, 3)]).flatten from by kernel_rfl)
theorem tf68 : TFact Try.prog E tt 68 ⟨(.sl (.int .i64)), .slice 3⟩ := TFact.of (z := .slice none 0 0) (bs := 24) Try.underlying68 ⟨rfl, rfl, .inr ⟨by kernel_rfl, by kernel_rfl, by kernel_rfl, of_decide_eq_true (by kernel_rfl), of_decide_eq_true (by kernel_rfl), of_decide_eq_true (by kernel_rfl)⟩⟩ (by kernel_rfl) (by kernel_rfl) (fun h => nomatch h) (by kernel_rfl) (trivial)
theorem tf70 : TFact Try.prog E tt 70 ⟨(.nm 0), .struct [(3, 0), (31, 1)]⟩ := TFact.of (z := .agg #[.int .i64 0, .slice none 0 0]) (bs := 32) Try.underlying70 ⟨by kernel_rfl, ⟨_, rfl, rfl⟩, by kernel_rfl, by kernel_rfl⟩ (by kernel_rfl) (by kernel_rfl) (fun _ => rfl) (by kernel_rfl) (show (Value.cells (.agg #[.int .i64 0, .slice none 0 0])).toList = (List.map (fun f => zA (E := E) (zeroA tt 20 f.1)) [(3, 0), (31, 1)]).flatten from by kernel_rfl)
theorem tf80 : TFact Try.prog E tt 80 ⟨.any, .func⟩ := TFact.of (z := .nilFunc) (bs := 8) Try.underlying80 ⟨rfl, _, _, _, rfl⟩ (by kernel_rfl) (by kernel_rfl) (fun h => nomatch h) (by kernel_rfl) (trivial)
theorem tf82 : TFact Try.prog E tt 82 ⟨.any, .func⟩ := TFact.of (z := .nilFunc) (bs := 8) Try.underlying82 ⟨rfl, _, _, _, rfl⟩ (by kernel_rfl) (by kernel_rfl) (fun h => nomatch h) (by kernel_rfl) (trivial)
theorem tf83 : TFact Try.prog E tt 83 ⟨(.int .u64), .int .u64⟩ := TFact.of (z := .int .u64 0) (bs := 8) Try.underlying83 ⟨rfl, rfl, rfl⟩ (by kernel_rfl) (by kernel_rfl) (fun h => nomatch h) (by kernel_rfl) (trivial)
theorem tf84 : TFact Try.prog E tt 84 ⟨(.int .u64), .int .u64⟩ := TFact.of (z := .int .u64 0) (bs := 8) Try.underlying84 ⟨rfl, rfl, rfl⟩ (by kernel_rfl) (by kernel_rfl) (fun h => nomatch h) (by kernel_rfl) (trivial)
theorem tf105 : TFact Try.prog E tt 105 ⟨(.sl (.sl (.int .u8))), .slice 31⟩ := TFact.of (z := .slice none 0 0) (bs := 24) Try.underlying105 ⟨rfl, rfl, .inr ⟨by kernel_rfl, by kernel_rfl, by kernel_rfl, of_decide_eq_true (by kernel_rfl), of_decide_eq_true (by kernel_rfl), of_decide_eq_true (by kernel_rfl)⟩⟩ (by kernel_rfl) (by kernel_rfl) (fun h => nomatch h) (by kernel_rfl) (trivial)
theorem tf124 : TFact Try.prog E tt 124 ⟨(.nm 3), .struct [(9, 0), (34, 1)]⟩ := TFact.of (z := .agg #[.string ByteArray.empty, .int .i64 0, .int .i64 0, .string ByteArray.empty, .slice none 0 0]) (bs := 72) Try.underlying124 ⟨by kernel_rfl, ⟨_, rfl, rfl⟩, by kernel_rfl, by kernel_rfl⟩ (by kernel_rfl) (by kernel_rfl) (fun _ => rfl) (by kernel_rfl) (show (Value.cells (.agg #[.string ByteArray.empty, .int .i64 0, .int .i64 0, .string ByteArray.empty, .slice none 0 0])).toList = (List.map (fun f => zA (E := E) (zeroA tt 20 f.1)) [(9, 0), (34, 1)]).flatten from by kernel_rfl)
theorem tok : TOK Try.prog E tt := TOK.of (mem_cons2 tf3 (mem_cons2 tf4 (mem_cons2 tf5 (mem_cons2 tf9 (mem_cons2 tf22 (mem_cons2 tf23 (mem_cons2 tf26 (mem_cons2 tf30 (mem_cons2 tf31 (mem_cons2 tf32 (mem_cons2 tf34 (mem_cons2 tf68 (mem_cons2 tf70 (mem_cons2 tf80 (mem_cons2 tf82 (mem_cons2 tf83 (mem_cons2 tf84 (mem_cons2 tf105 (mem_cons2 tf124 mem_nil2)))))))))))))))))))
theorem rdok : RdOK Try.prog E tt := RdOK.of (by kernel_rfl)
theorem hmix : Try.prog.follows .mixedOrders = true := by kernel_rfl
def hKeep (f b : Nat) : List (Nat × Nat) := bif Nat.beq f 7 then (bif Nat.beq b 0 then [(0, 0), (3, 0), (12, 0), (13, 0), (14, 0)] else bif Nat.beq b 2 then [(0, 0), (3, 0), (5, 0), (6, 0), (12, 0), (13, 0), (14, 0), (21, 0), (22, 0), (23, 0)] else []) else bif Nat.beq f 10 then (bif Nat.beq b 0 then [(4, 1), (10, 0), (11, 0), (12, 0)] else []) else bif Nat.beq f 11 then (bif Nat.beq b 0 then [(4, 2), (10, 0), (11, 0), (12, 0)] else []) else bif Nat.beq f 12 then (bif Nat.beq b 0 then [(0, 0), (4, 1)] else []) else bif Nat.beq f 13 then (bif Nat.beq b 0 then [(0, 0), (4, 1)] else []) else bif Nat.beq f 14 then (bif Nat.beq b 0 then [(0, 0), (1, 0), (12, 0), (13, 0)] else []) else bif Nat.beq f 16 then (bif Nat.beq b 0 then [(0, 0), (8, 0), (9, 0), (10, 0)] else []) else bif Nat.beq f 17 then (bif Nat.beq b 0 then [(3, 0), (4, 1)] else []) else bif Nat.beq f 18 then (bif Nat.beq b 0 then [(3, 0), (4, 1), (5, 0)] else []) else bif Nat.beq f 36 then (bif Nat.beq b 0 then [(23, 0), (24, 0), (25, 0)] else []) else bif Nat.beq f 38 then (bif Nat.beq b 0 then [(0, 0), (1, 0)] else []) else bif Nat.beq f 39 then (bif Nat.beq b 0 then [(0, 0), (3, 0), (9, 0), (10, 0), (11, 0)] else bif Nat.beq b 2 then [(6, 1), (25, 0), (26, 0), (27, 0)] else []) else bif Nat.beq f 41 then (bif Nat.beq b 0 then [(4, 0), (11, 0), (12, 0), (13, 0)] else []) else bif Nat.beq f 43 then (bif Nat.beq b 0 then [(0, 0), (5, 0), (6, 0), (7, 0)] else []) else bif Nat.beq f 44 then (bif Nat.beq b 0 then [(1, 0), (2, 0), (15, 0), (16, 0), (17, 0)] else []) else bif Nat.beq f 48 then (bif Nat.beq b 0 then [(0, 0), (2, 0), (3, 0)] else []) else bif Nat.beq f 62 then (bif Nat.beq b 0 then [(0, 0), (1, 0), (7, 0), (8, 0)] else []) else bif Nat.beq f 64 then (bif Nat.beq b 0 then [(0, 0), (1, 0), (7, 0), (8, 0)] else []) else []
def hKeepB (f b : Nat) : List Nat := bif Nat.beq f 7 then (bif Nat.beq b 2 then [5] else []) else []
def hRsh (f : Nat) : RSh := bif Nat.beq f 4 then (.t .bool) else bif Nat.beq f 7 then (.t (.int .i64)) else bif Nat.beq f 8 then (.t .bool) else bif Nat.beq f 10 then (.tup [(.t (.sl (.int .u8))), (.t (.int .i64))]) else bif Nat.beq f 11 then (.tup [(.t (.sl (.int .u8))), (.t (.int .i64))]) else bif Nat.beq f 12 then (.tup [(.t (.sl (.nm 0))), (.t (.int .i64))]) else bif Nat.beq f 13 then (.tup [(.t (.sl (.nm 0))), (.t (.int .i64))]) else bif Nat.beq f 14 then (.t .bool) else bif Nat.beq f 15 then (.t .bool) else bif Nat.beq f 16 then (.t (.int .i64)) else bif Nat.beq f 17 then (.t (.sl (.int .u8))) else bif Nat.beq f 18 then (.t (.sl (.int .u8))) else bif Nat.beq f 36 then (.t .bool) else bif Nat.beq f 37 then (.t .bool) else bif Nat.beq f 38 then (.inp 0 (.int .u8)) else bif Nat.beq f 39 then (.t (.sl (.int .u8))) else bif Nat.beq f 40 then (.t (.sl (.int .u8))) else bif Nat.beq f 41 then (.tup [(.t (.int .i64)), (.t (.int .i64))]) else bif Nat.beq f 42 then (.t (.sl (.int .u8))) else bif Nat.beq f 43 then (.tup [(.t (.int .i64)), (.t (.sl (.int .u8))), (.t .bool)]) else bif Nat.beq f 44 then (.t .bool) else bif Nat.beq f 45 then (.t .bool) else bif Nat.beq f 46 then (.t .bool) else bif Nat.beq f 47 then (.t .bool) else bif Nat.beq f 48 then .unit else bif Nat.beq f 62 then (.t (.int .i64)) else bif Nat.beq f 63 then (.own (.int .u8)) else bif Nat.beq f 64 then (.t (.int .i64)) else .asis
def hCons (f : Nat) : List Nat := bif Nat.beq f 38 then [0] else []
def hRow (f : Nat) : List Nat := bif Nat.beq f 8 then [4] else bif Nat.beq f 18 then [4] else []
def hSet (f d : Nat) : List (Nat × Nat) := bif Nat.beq f 18 then (bif Nat.beq d 49 then [(0, 0)] else []) else []
def H : Hints := { keep := hKeep, keepB := hKeepB, rsh := hRsh, cons := hCons, asagg := hSet, asrow := hRow, mutcap := [] }
def gl : Nat → AV E := fun _ => .undef

def C0 (_ : Nat) : Call2 E := fun _ _ _ => none

/- clapperbridge/wire.put -/
noncomputable def wire_put (n : Nat) (x0 : List Int × Nat) (x1 : Int) : Option ((List Int) × Nat × Unit) := F2 (E := E) tt gl H (C0 n) n 38 Try.f38 [.gr (.int .u8), .t (.int .i64)] (x0, x1, ())
noncomputable def wire_put_l0 (n : Nat) (m0 : Nat) (v0 : List Int) (v1 : Int) (k0 : Nat) : Option ((List Int) × Nat × Unit) := lp (E := E) (ps := [.gr (.int .u8), .t (.int .i64)]) tt gl H (C0 n) n 38 Try.f38 [1, 0, 0] [] m0 ⟨mkT 20 0 [(0, .sl 0 (.int .u8) v0), (1, .t (.int .i64) v1)], mkB 80 0 [(0, .grow (.int .u8) k0)]⟩
theorem wire_put_l0_eq (n : Nat) (m0 : Nat) (v0 : List Int) (v1 : Int) (k0 : Nat) : wire_put_l0 n (m0 + 1) v0 v1 k0 = (bif (decide (v1 > 127)) then (bif (decide (k0 = List.length v0) && decide (List.length v0 + List.length ([(bits .or .u8 (IntKind.wrap .u8 v1) 128)] : List Int) ≤ 4294967296)) then (bif (decide (0 ≤ 7)) then (wire_put_l0 n m0 (v0 ++ [(bits .or .u8 (IntKind.wrap .u8 v1) 128)]) (shr .i64 v1 7) (List.length (v0 ++ [(bits .or .u8 (IntKind.wrap .u8 v1) 128)]))) else none) else none) else (bif (decide (k0 = List.length v0) && decide (List.length v0 + List.length ([(IntKind.wrap .u8 v1)] : List Int) ≤ 4294967296)) then (bif (decide ((List.length (v0 ++ [(IntKind.wrap .u8 v1)])) = List.length (v0 ++ [(IntKind.wrap .u8 v1)]))) then (some ((v0 ++ [(IntKind.wrap .u8 v1)]), (List.length (v0 ++ [(IntKind.wrap .u8 v1)])), ())) else none) else none)) := by kernel_rfl
theorem wire_put_l0_zero (n : Nat) (v0 : List Int) (v1 : Int) (k0 : Nat) : wire_put_l0 n 0 v0 v1 k0 = none := by kernel_rfl
theorem wire_put_eq (n : Nat) (x0 : List Int × Nat) (x1 : Int) : wire_put n x0 x1 = (wire_put_l0 n n x0.1 x1 x0.2) := by kernel_rfl
noncomputable def C1 (n : Nat) : Call2 E := more tt gl H (C0 n) n 38 Try.f38 [.gr (.int .u8), .t (.int .i64)] (C0 n)

/- clapperbridge/wire.Encode -/
noncomputable def wire_Encode (n : Nat) (x0 : List WireField) : Option (List Int × Int) := F2 (E := E) tt gl H (C1 n) n 10 Try.f10 [.t (.sl (.nm 0))] (x0, ())
noncomputable def wire_Encode_l0 (n : Nat) (m0 : Nat) (v4 : List Int) (v10 : List WireField) (v11 : Int) (v12 : Int) : Option (List Int × Int) := lp (E := E) (ps := [.t (.sl (.nm 0))]) tt gl H (C1 n) n 10 Try.f10 [1, 1, 1, 0, 1, 0] [] m0 ⟨mkT 40 0 [(4, .sl 20 (.int .u8) v4), (10, .t (.sl (.nm 0)) v10), (11, .t (.int .i64) v11), (12, .t (.int .i64) v12)], mkB 160 0 [(20, .grow (.int .u8) (List.length v4))]⟩
theorem wire_Encode_l0_eq (n : Nat) (m0 : Nat) (v4 : List Int) (v10 : List WireField) (v11 : Int) (v12 : Int) : wire_Encode_l0 n (m0 + 1) v4 v10 v11 v12 = (bif (decide (v12 < v11)) then (bif (decide (0 ≤ v12) && decide (v12 < List.length v10)) then (bif (decide (((List.getD v10 (Int.toNat v12) (WireField.mk 0 [])).Tag) < 1)) then (some ([], 11)) else (bif (decide (((List.getD v10 (Int.toNat v12) (WireField.mk 0 [])).Tag) > 1000)) then (some ([], 11)) else (bif (decide ((List.length v4) = List.length v4) && true) then (Option.bind (wire_put n (v4, (List.length v4)) ((List.getD v10 (Int.toNat v12) (WireField.mk 0 [])).Tag)) fun r1 => (bif (decide (r1.2.1 = List.length r1.1)) then (bif (decide (r1.2.1 = List.length r1.1) && true) then (Option.bind (wire_put n (r1.1, r1.2.1) (List.length ((List.getD v10 (Int.toNat v12) (WireField.mk 0 [])).Data) : Int)) fun r2 => (bif (decide (r2.2.1 = List.length r2.1)) then (bif (decide (r2.2.1 = List.length r2.1) && decide (List.length r2.1 + List.length ((List.getD v10 (Int.toNat v12) (WireField.mk 0 [])).Data) ≤ 4294967296)) then (bif (decide ((List.length (r2.1 ++ ((List.getD v10 (Int.toNat v12) (WireField.mk 0 [])).Data)) : Int) > 8000)) then (some ([], 2)) else (wire_Encode_l0 n m0 (r2.1 ++ ((List.getD v10 (Int.toNat v12) (WireField.mk 0 [])).Data)) v10 v11 (IntKind.wrap .i64 (v12 + 1)))) else none) else none)) else none) else none)) else none))) else none) else (some (v4, 0))) := by kernel_rfl
theorem wire_Encode_l0_zero (n : Nat) (v4 : List Int) (v10 : List WireField) (v11 : Int) (v12 : Int) : wire_Encode_l0 n 0 v4 v10 v11 v12 = none := by kernel_rfl
theorem wire_Encode_eq (n : Nat) (x0 : List WireField) : wire_Encode n x0 = (bif (decide ((List.length x0 : Int) > 100)) then (some ([], 2)) else (wire_Encode_l0 n n [] x0 (List.length x0 : Int) 0)) := by kernel_rfl
noncomputable def C2 (n : Nat) : Call2 E := more tt gl H (C1 n) n 10 Try.f10 [.t (.sl (.nm 0))] (C1 n)
noncomputable def Cr2 : Nat → Nat → Call2 E
  | 0, n => C2 n
  | d + 1, n => (more tt gl H (Cr2 d n) n 40 Try.f40 [.t (.int .i64)] (C2 n))
noncomputable def C3 (n : Nat) : Call2 E := Cr2 (n + 1) n

/- clapperbridge/clapref2.seven -/
noncomputable def ref2_seven (d : Nat) (n : Nat) (x0 : Int) : Option (List Int) := F2 (E := E) tt gl H (Cr2 d n) n 40 Try.f40 [.t (.int .i64)] (x0, ())
theorem ref2_seven_eq (d : Nat) (n : Nat) (x0 : Int) : ref2_seven (d + 1) n x0 = (bif (decide (x0 < 128)) then (some [(IntKind.wrap .u8 x0)]) else (Option.bind (ref2_seven d n (IntKind.wrap .i64 (Int.tdiv x0 128))) fun r1 => (bif (decide (List.length ([(IntKind.wrap .u8 (IntKind.wrap .i64 ((Int.tmod x0 128) + 128)))] : List Int) + List.length r1 ≤ 4294967296)) then (some ([(IntKind.wrap .u8 (IntKind.wrap .i64 ((Int.tmod x0 128) + 128)))] ++ r1)) else none))) := by kernel_rfl

/- slices.Grow[[]byte,byte] -/
noncomputable def slices_Grow (n : Nat) (x0 : Unit) (x1 : Int) : Option (List Int) := F2 (E := E) tt gl H (C3 n) n 63 Try.f63 [.snil (.int .u8), .t (.int .i64)] ((), x1, ())
theorem slices_Grow_eq (n : Nat) (x0 : Unit) (x1 : Int) : slices_Grow n x0 x1 = (bif (decide (x1 < 0)) then none else (bif (decide ((IntKind.wrap .i64 (x1 - (IntKind.wrap .i64 ((0 : Int) - (List.length ([] : List Int) : Int))))) > 0)) then (bif (decide ((0 : Int) = 0)) then (bif (decide (0 < (IntKind.wrap .i64 (x1 - (IntKind.wrap .i64 ((0 : Int) - (List.length ([] : List Int) : Int)))))) && decide ((IntKind.wrap .i64 (x1 - (IntKind.wrap .i64 ((0 : Int) - (List.length ([] : List Int) : Int))))) ≤ 4294967296)) then (bif (decide ((List.length ([] : List Int) : Int) = 0)) then (bif (decide (0 = List.length ([] : List Int))) then (some []) else none) else none) else none) else none) else (some []))) := by kernel_rfl
noncomputable def C4 (n : Nat) : Call2 E := more tt gl H (C3 n) n 63 Try.f63 [.snil (.int .u8), .t (.int .i64)] (C3 n)

/- slices.Concat[[]byte,byte] -/
noncomputable def slices_Concat (n : Nat) (x0 : List (List Int)) : Option (List Int) := F2 (E := E) tt gl H (C4 n) n 39 Try.f39 [.t (.sl (.sl (.int .u8)))] (x0, ())
noncomputable def slices_Concat_l0 (n : Nat) (m0 : Nat) (v0 : List (List Int)) (v3 : Int) (v9 : List (List Int)) (v10 : Int) (v11 : Int) : Option (List Int) := lp (E := E) (ps := [.t (.sl (.sl (.int .u8)))]) tt gl H (C4 n) n 39 Try.f39 [1, 1, 0, 1, 0] [] m0 ⟨mkT 36 0 [(0, .t (.sl (.sl (.int .u8))) v0), (3, .t (.int .i64) v3), (9, .t (.sl (.sl (.int .u8))) v9), (10, .t (.int .i64) v10), (11, .t (.int .i64) v11)], mkB 144 0 []⟩
noncomputable def slices_Concat_l2 (n : Nat) (m0 : Nat) (v6 : List Int) (v25 : List (List Int)) (v26 : Int) (v27 : Int) : Option (List Int) := lp (E := E) (ps := [.t (.sl (.sl (.int .u8)))]) tt gl H (C4 n) n 39 Try.f39 [1, 1, 1, 1, 0, 1, 0] [] m0 ⟨mkT 36 0 [(6, .sl 22 (.int .u8) v6), (25, .t (.sl (.sl (.int .u8))) v25), (26, .t (.int .i64) v26), (27, .t (.int .i64) v27)], mkB 144 0 [(22, .grow (.int .u8) (List.length v6))]⟩
theorem slices_Concat_l2_eq (n : Nat) (m0 : Nat) (v6 : List Int) (v25 : List (List Int)) (v26 : Int) (v27 : Int) : slices_Concat_l2 n (m0 + 1) v6 v25 v26 v27 = (bif (decide (v27 < v26)) then (bif (decide (0 ≤ v27) && decide (v27 < List.length v25)) then (bif (decide ((List.length v6) = List.length v6) && decide (List.length v6 + List.length (List.getD v25 (Int.toNat v27) []) ≤ 4294967296)) then (slices_Concat_l2 n m0 (v6 ++ (List.getD v25 (Int.toNat v27) [])) v25 v26 (IntKind.wrap .i64 (v27 + 1))) else none) else none) else (some v6)) := by kernel_rfl
theorem slices_Concat_l2_zero (n : Nat) (v6 : List Int) (v25 : List (List Int)) (v26 : Int) (v27 : Int) : slices_Concat_l2 n 0 v6 v25 v26 v27 = none := by kernel_rfl
theorem slices_Concat_l0_eq (n : Nat) (m0 : Nat) (v0 : List (List Int)) (v3 : Int) (v9 : List (List Int)) (v10 : Int) (v11 : Int) : slices_Concat_l0 n (m0 + 1) v0 v3 v9 v10 v11 = (bif (decide (v11 < v10)) then (bif (decide (0 ≤ v11) && decide (v11 < List.length v9)) then (bif (decide ((IntKind.wrap .i64 (v3 + (List.length (List.getD v9 (Int.toNat v11) []) : Int))) < 0)) then none else (slices_Concat_l0 n m0 v0 (IntKind.wrap .i64 (v3 + (List.length (List.getD v9 (Int.toNat v11) []) : Int))) v9 v10 (IntKind.wrap .i64 (v11 + 1)))) else none) else (Option.bind (slices_Grow n () v3) fun r1 => (slices_Concat_l2 n n r1 v0 (List.length v0 : Int) 0))) := by kernel_rfl
theorem slices_Concat_l0_zero (n : Nat) (v0 : List (List Int)) (v3 : Int) (v9 : List (List Int)) (v10 : Int) (v11 : Int) : slices_Concat_l0 n 0 v0 v3 v9 v10 v11 = none := by kernel_rfl
theorem slices_Concat_eq (n : Nat) (x0 : List (List Int)) : slices_Concat n x0 = (slices_Concat_l0 n n x0 0 x0 (List.length x0 : Int) 0) := by kernel_rfl
noncomputable def C5 (n : Nat) : Call2 E := more tt gl H (C4 n) n 39 Try.f39 [.t (.sl (.sl (.int .u8)))] (C4 n)

/- clapperbridge/clapref2.Sent -/
noncomputable def ref2_Sent (n : Nat) (x0 : List WireField) : Option (List Int × Int) := F2 (E := E) tt gl H (C5 n) n 11 Try.f11 [.t (.sl (.nm 0))] (x0, ())
noncomputable def ref2_Sent_l0 (n : Nat) (m0 : Nat) (v4 : List Int) (v10 : List WireField) (v11 : Int) (v12 : Int) : Option (List Int × Int) := lp (E := E) (ps := [.t (.sl (.nm 0))]) tt gl H (C5 n) n 11 Try.f11 [1, 1, 1, 0, 1, 0] [] m0 ⟨mkT 41 0 [(4, .t (.sl (.int .u8)) v4), (10, .t (.sl (.nm 0)) v10), (11, .t (.int .i64) v11), (12, .t (.int .i64) v12)], mkB 164 0 []⟩
theorem ref2_Sent_l0_eq (n : Nat) (m0 : Nat) (v4 : List Int) (v10 : List WireField) (v11 : Int) (v12 : Int) : ref2_Sent_l0 n (m0 + 1) v4 v10 v11 v12 = (bif (decide (v12 < v11)) then (bif (decide (0 ≤ v12) && decide (v12 < List.length v10)) then (bif (decide (((List.getD v10 (Int.toNat v12) (WireField.mk 0 [])).Tag) < 1)) then (some ([], 11)) else (bif (decide (((List.getD v10 (Int.toNat v12) (WireField.mk 0 [])).Tag) > 1000)) then (some ([], 11)) else (Option.bind (ref2_seven n n ((List.getD v10 (Int.toNat v12) (WireField.mk 0 [])).Tag)) fun r1 => (Option.bind (ref2_seven n n (List.length ((List.getD v10 (Int.toNat v12) (WireField.mk 0 [])).Data) : Int)) fun r2 => (Option.bind (slices_Concat n [v4, r1, r2, (List.getD v10 (Int.toNat v12) (WireField.mk 0 [])).Data]) fun r3 => (bif (decide ((List.length r3 : Int) > 8000)) then (some ([], 2)) else (ref2_Sent_l0 n m0 r3 v10 v11 (IntKind.wrap .i64 (v12 + 1))))))))) else none) else (some (v4, 0))) := by kernel_rfl
theorem ref2_Sent_l0_zero (n : Nat) (v4 : List Int) (v10 : List WireField) (v11 : Int) (v12 : Int) : ref2_Sent_l0 n 0 v4 v10 v11 v12 = none := by kernel_rfl
theorem ref2_Sent_eq (n : Nat) (x0 : List WireField) : ref2_Sent n x0 = (bif (decide ((List.length x0 : Int) > 100)) then (some ([], 2)) else (ref2_Sent_l0 n n [] x0 (List.length x0 : Int) 0)) := by kernel_rfl
noncomputable def C6 (n : Nat) : Call2 E := more tt gl H (C5 n) n 11 Try.f11 [.t (.sl (.nm 0))] (C5 n)

/- clapperbridge/wire.get -/
noncomputable def wire_get (n : Nat) (x0 : List Int) : Option (Int × Int) := F2 (E := E) tt gl H (C6 n) n 41 Try.f41 [.t (.sl (.int .u8))] (x0, ())
noncomputable def wire_get_l0 (n : Nat) (m0 : Nat) (v4 : Int) (v11 : List Int) (v12 : Int) (v13 : Int) : Option (Int × Int) := lp (E := E) (ps := [.t (.sl (.int .u8))]) tt gl H (C6 n) n 41 Try.f41 [1, 1, 0, 1, 0] [] m0 ⟨mkT 38 0 [(4, .t (.int .i64) v4), (11, .t (.sl (.int .u8)) v11), (12, .t (.int .i64) v12), (13, .t (.int .i64) v13)], mkB 152 0 []⟩
theorem wire_get_l0_eq (n : Nat) (m0 : Nat) (v4 : Int) (v11 : List Int) (v12 : Int) (v13 : Int) : wire_get_l0 n (m0 + 1) v4 v11 v12 v13 = (bif (decide (v13 < v12)) then (bif (decide (0 ≤ v13) && decide (v13 < List.length v11)) then (bif (decide (0 ≤ (IntKind.wrap .i64 ((7 : Int) * v13)))) then (bif (decide ((List.getD v11 (Int.toNat v13) (0 : Int)) < 128)) then (bif (decide ((List.getD v11 (Int.toNat v13) (0 : Int)) = 0)) then (bif (decide (v13 > 0)) then (some (0, 0)) else (some ((bits .or .i64 v4 (shl .i64 (IntKind.wrap .i64 (bits .and .u8 (List.getD v11 (Int.toNat v13) (0 : Int)) 127)) (IntKind.wrap .i64 ((7 : Int) * v13)))), (IntKind.wrap .i64 (v13 + 1))))) else (some ((bits .or .i64 v4 (shl .i64 (IntKind.wrap .i64 (bits .and .u8 (List.getD v11 (Int.toNat v13) (0 : Int)) 127)) (IntKind.wrap .i64 ((7 : Int) * v13)))), (IntKind.wrap .i64 (v13 + 1))))) else (wire_get_l0 n m0 (bits .or .i64 v4 (shl .i64 (IntKind.wrap .i64 (bits .and .u8 (List.getD v11 (Int.toNat v13) (0 : Int)) 127)) (IntKind.wrap .i64 ((7 : Int) * v13)))) v11 v12 (IntKind.wrap .i64 (v13 + 1)))) else none) else none) else (some (0, 0))) := by kernel_rfl
theorem wire_get_l0_zero (n : Nat) (v4 : Int) (v11 : List Int) (v12 : Int) (v13 : Int) : wire_get_l0 n 0 v4 v11 v12 v13 = none := by kernel_rfl
theorem wire_get_eq (n : Nat) (x0 : List Int) : wire_get n x0 = (bif (decide (0 ≤ (mnI (4 : Int) (List.length x0 : Int))) && decide ((mnI (4 : Int) (List.length x0 : Int)) ≤ (List.length x0))) then (wire_get_l0 n n 0 (List.take (Int.toNat (mnI (4 : Int) (List.length x0 : Int))) x0) (List.length (List.take (Int.toNat (mnI (4 : Int) (List.length x0 : Int))) x0) : Int) 0) else none) := by kernel_rfl
noncomputable def C7 (n : Nat) : Call2 E := more tt gl H (C6 n) n 41 Try.f41 [.t (.sl (.int .u8))] (C6 n)

/- slices.Clone[[]byte,byte] -/
noncomputable def slices_Clone (n : Nat) (x0 : Unit) : Option (List Int) := F2 (E := E) tt gl H (C7 n) n 42 Try.f42 [.snil (.int .u8)] ((), ())
theorem slices_Clone_eq (n : Nat) (x0 : Unit) : slices_Clone n x0 = (some []) := by kernel_rfl
noncomputable def C8 (n : Nat) : Call2 E := more tt gl H (C7 n) n 42 Try.f42 [.snil (.int .u8)] (C7 n)

/- slices.Clone[[]byte,byte] -/
noncomputable def slices_Clone_2 (n : Nat) (x0 : List Int) : Option (List Int) := F2 (E := E) tt gl H (C8 n) n 42 Try.f42 [.snn (.int .u8)] (x0, ())
theorem slices_Clone_2_eq (n : Nat) (x0 : List Int) : slices_Clone_2 n x0 = (bif (decide (List.length ([] : List Int) + List.length x0 ≤ 4294967296)) then (some ([] ++ x0)) else none) := by kernel_rfl
theorem slices_Clone_2_hq (n : Nat) : slices_Clone n () = slices_Clone_2 n [] := by kernel_rfl
noncomputable def C9 (n : Nat) : Call2 E := moreN tt gl H (C8 n) n 42 Try.f42 (.int .u8) (C8 n)

/- clapperbridge/wire.Decode -/
noncomputable def wire_Decode (n : Nat) (x0 : List Int) : Option (List WireField × Int) := F2 (E := E) tt gl H (C9 n) n 12 Try.f12 [.t (.sl (.int .u8))] (x0, ())
noncomputable def wire_Decode_l0 (n : Nat) (m0 : Nat) (v0 : List Int) (v4 : List WireField) : Option (List WireField × Int) := lp (E := E) (ps := [.t (.sl (.int .u8))]) tt gl H (C9 n) n 12 Try.f12 [1, 1, 1, 0, 0] [] m0 ⟨mkT 62 0 [(0, .t (.sl (.int .u8)) v0), (4, .sl 20 (.nm 0) v4)], mkB 248 0 [(20, .grow (.nm 0) (List.length v4))]⟩
theorem wire_Decode_l0_eq (n : Nat) (m0 : Nat) (v0 : List Int) (v4 : List WireField) : wire_Decode_l0 n (m0 + 1) v0 v4 = (bif (decide ((List.length v0 : Int) > 0)) then (Option.bind (wire_get n v0) fun r1 => (bif (decide (r1.2 = 0)) then (some ([], 3)) else (bif (decide (r1.1 < 1)) then (some ([], 3)) else (bif (decide (r1.1 > 1000)) then (some ([], 3)) else (bif (decide (0 ≤ r1.2) && decide (r1.2 ≤ (List.length v0))) then (Option.bind (wire_get n (List.drop (Int.toNat r1.2) v0)) fun r2 => (bif (decide (r2.2 = 0)) then (some ([], 3)) else (bif (decide (0 ≤ r2.2) && decide (r2.2 ≤ (List.length (List.drop (Int.toNat r1.2) v0)))) then (bif (decide (r2.1 > (List.length (List.drop (Int.toNat r2.2) (List.drop (Int.toNat r1.2) v0)) : Int))) then (some ([], 13)) else (bif (decide (0 ≤ r2.1) && decide (r2.1 ≤ (List.length (List.drop (Int.toNat r2.2) (List.drop (Int.toNat r1.2) v0))))) then (Option.bind (slices_Clone_2 n (List.take (Int.toNat r2.1) (List.drop (Int.toNat r2.2) (List.drop (Int.toNat r1.2) v0)))) fun r3 => (bif (decide ((List.length v4) = List.length v4) && decide (List.length v4 + List.length ([(WireField.mk r1.1 r3)] : List WireField) ≤ 4294967296)) then (bif (decide ((List.length (v4 ++ [(WireField.mk r1.1 r3)]) : Int) > 100)) then (some ([], 2)) else (bif (decide (0 ≤ r2.1) && decide (r2.1 ≤ (List.length (List.drop (Int.toNat r2.2) (List.drop (Int.toNat r1.2) v0))))) then (wire_Decode_l0 n m0 (List.drop (Int.toNat r2.1) (List.drop (Int.toNat r2.2) (List.drop (Int.toNat r1.2) v0))) (v4 ++ [(WireField.mk r1.1 r3)])) else none)) else none)) else none)) else none))) else none))))) else (some (v4, 0))) := by kernel_rfl
theorem wire_Decode_l0_zero (n : Nat) (v0 : List Int) (v4 : List WireField) : wire_Decode_l0 n 0 v0 v4 = none := by kernel_rfl
theorem wire_Decode_eq (n : Nat) (x0 : List Int) : wire_Decode n x0 = (bif (decide ((List.length x0 : Int) > 8000)) then (some ([], 2)) else (wire_Decode_l0 n n x0 [])) := by kernel_rfl
noncomputable def C10 (n : Nat) : Call2 E := more tt gl H (C9 n) n 12 Try.f12 [.t (.sl (.int .u8))] (C9 n)

/- clapperbridge/clapref2.unseven -/
noncomputable def ref2_unseven (n : Nat) (x0 : List Int) : Option (Int × List Int × Bool) := F2 (E := E) tt gl H (C10 n) n 43 Try.f43 [.t (.sl (.int .u8))] (x0, ())
noncomputable def ref2_unseven_l0 (n : Nat) (m0 : Nat) (v0 : List Int) (v5 : Int) (v6 : Int) (v7 : Int) : Option (Int × List Int × Bool) := lp (E := E) (ps := [.t (.sl (.int .u8))]) tt gl H (C10 n) n 43 Try.f43 [1, 1, 0, 1, 0] [] m0 ⟨mkT 49 0 [(0, .t (.sl (.int .u8)) v0), (5, .t (.int .i64) v5), (6, .t (.int .i64) v6), (7, .t (.int .i64) v7)], mkB 196 0 []⟩
theorem ref2_unseven_l0_eq (n : Nat) (m0 : Nat) (v0 : List Int) (v5 : Int) (v6 : Int) (v7 : Int) : ref2_unseven_l0 n (m0 + 1) v0 v5 v6 v7 = (bif (decide (v7 < (List.length v0 : Int))) then (bif (decide (v7 < 4)) then (bif (decide (0 ≤ v7) && decide (v7 < List.length v0)) then (bif (decide (0 ≤ v7) && decide (v7 < List.length v0)) then (bif (decide ((List.getD v0 (Int.toNat v7) (0 : Int)) < 128)) then (bif (decide (0 ≤ (IntKind.wrap .i64 (v7 + 1))) && decide ((IntKind.wrap .i64 (v7 + 1)) ≤ (List.length v0))) then (Option.bind (ref2_seven n n (IntKind.wrap .i64 (v5 + (IntKind.wrap .i64 ((Int.tmod (IntKind.wrap .i64 (List.getD v0 (Int.toNat v7) (0 : Int))) 128) * v6))))) fun r1 => (bif (decide (0 ≤ (IntKind.wrap .i64 (v7 + 1))) && decide ((IntKind.wrap .i64 (v7 + 1)) ≤ (List.length v0))) then (some ((IntKind.wrap .i64 (v5 + (IntKind.wrap .i64 ((Int.tmod (IntKind.wrap .i64 (List.getD v0 (Int.toNat v7) (0 : Int))) 128) * v6)))), (List.drop (Int.toNat (IntKind.wrap .i64 (v7 + 1))) v0), ((byts r1) == (byts (List.take (Int.toNat (IntKind.wrap .i64 (v7 + 1))) v0))))) else none)) else none) else (ref2_unseven_l0 n m0 v0 (IntKind.wrap .i64 (v5 + (IntKind.wrap .i64 ((Int.tmod (IntKind.wrap .i64 (List.getD v0 (Int.toNat v7) (0 : Int))) 128) * v6)))) (IntKind.wrap .i64 (v6 * 128)) (IntKind.wrap .i64 (v7 + 1)))) else none) else none) else (some (0, [], false))) else (some (0, [], false))) := by kernel_rfl
theorem ref2_unseven_l0_zero (n : Nat) (v0 : List Int) (v5 : Int) (v6 : Int) (v7 : Int) : ref2_unseven_l0 n 0 v0 v5 v6 v7 = none := by kernel_rfl
theorem ref2_unseven_eq (n : Nat) (x0 : List Int) : ref2_unseven n x0 = (ref2_unseven_l0 n n x0 0 1 0) := by kernel_rfl
noncomputable def C11 (n : Nat) : Call2 E := more tt gl H (C10 n) n 43 Try.f43 [.t (.sl (.int .u8))] (C10 n)

/- clapperbridge/clapref2.Got -/
noncomputable def ref2_Got (n : Nat) (x0 : List Int) : Option (List WireField × Int) := F2 (E := E) tt gl H (C11 n) n 13 Try.f13 [.t (.sl (.int .u8))] (x0, ())
noncomputable def ref2_Got_l0 (n : Nat) (m0 : Nat) (v0 : List Int) (v4 : List WireField) : Option (List WireField × Int) := lp (E := E) (ps := [.t (.sl (.int .u8))]) tt gl H (C11 n) n 13 Try.f13 [1, 1, 1, 0, 0] [] m0 ⟨mkT 58 0 [(0, .t (.sl (.int .u8)) v0), (4, .sl 20 (.nm 0) v4)], mkB 232 0 [(20, .grow (.nm 0) (List.length v4))]⟩
theorem ref2_Got_l0_eq (n : Nat) (m0 : Nat) (v0 : List Int) (v4 : List WireField) : ref2_Got_l0 n (m0 + 1) v0 v4 = (bif (decide ((List.length v0 : Int) > 0)) then (Option.bind (ref2_unseven n v0) fun r1 => (bif (!r1.2.2) then (some ([], 3)) else (bif (decide (r1.1 < 1)) then (some ([], 3)) else (bif (decide (r1.1 > 1000)) then (some ([], 3)) else (Option.bind (ref2_unseven n r1.2.1) fun r2 => (bif (!r2.2.2) then (some ([], 3)) else (bif (decide (r2.1 > (List.length r2.2.1 : Int))) then (some ([], 13)) else (bif (decide (0 ≤ r2.1) && decide (r2.1 ≤ (List.length r2.2.1))) then (bif (decide ((List.length v4) = List.length v4) && decide (List.length v4 + List.length ([(WireField.mk r1.1 (List.take (Int.toNat r2.1) r2.2.1))] : List WireField) ≤ 4294967296)) then (bif (decide ((List.length (v4 ++ [(WireField.mk r1.1 (List.take (Int.toNat r2.1) r2.2.1))]) : Int) > 100)) then (some ([], 2)) else (bif (decide (0 ≤ r2.1) && decide (r2.1 ≤ (List.length r2.2.1))) then (ref2_Got_l0 n m0 (List.drop (Int.toNat r2.1) r2.2.1) (v4 ++ [(WireField.mk r1.1 (List.take (Int.toNat r2.1) r2.2.1))])) else none)) else none) else none)))))))) else (some (v4, 0))) := by kernel_rfl
theorem ref2_Got_l0_zero (n : Nat) (v0 : List Int) (v4 : List WireField) : ref2_Got_l0 n 0 v0 v4 = none := by kernel_rfl
theorem ref2_Got_eq (n : Nat) (x0 : List Int) : ref2_Got n x0 = (bif (decide ((List.length x0 : Int) > 8000)) then (some ([], 2)) else (ref2_Got_l0 n n x0 [])) := by kernel_rfl
noncomputable def C12 (n : Nat) : Call2 E := more tt gl H (C11 n) n 13 Try.f13 [.t (.sl (.int .u8))] (C11 n)

/- slices.Equal[[]byte,byte] -/
noncomputable def slices_Equal (n : Nat) (x0 : List Int) (x1 : List Int) : Option Bool := F2 (E := E) tt gl H (C12 n) n 14 Try.f14 [.t (.sl (.int .u8)), .t (.sl (.int .u8))] (x0, x1, ())
noncomputable def slices_Equal_l0 (n : Nat) (m0 : Nat) (v0 : List Int) (v1 : List Int) (v12 : Int) (v13 : Int) : Option Bool := lp (E := E) (ps := [.t (.sl (.int .u8)), .t (.sl (.int .u8))]) tt gl H (C12 n) n 14 Try.f14 [1, 1, 0, 1, 0] [] m0 ⟨mkT 26 0 [(0, .t (.sl (.int .u8)) v0), (1, .t (.sl (.int .u8)) v1), (12, .t (.int .i64) v12), (13, .t (.int .i64) v13)], mkB 104 0 []⟩
theorem slices_Equal_l0_eq (n : Nat) (m0 : Nat) (v0 : List Int) (v1 : List Int) (v12 : Int) (v13 : Int) : slices_Equal_l0 n (m0 + 1) v0 v1 v12 v13 = (bif (decide (v13 < v12)) then (bif (decide (0 ≤ v13) && decide (v13 < List.length v0)) then (bif (decide (0 ≤ v13) && decide (v13 < List.length v1)) then (bif (!decide ((List.getD v0 (Int.toNat v13) (0 : Int)) = (List.getD v1 (Int.toNat v13) (0 : Int)))) then (some false) else (slices_Equal_l0 n m0 v0 v1 v12 (IntKind.wrap .i64 (v13 + 1)))) else none) else none) else (some true)) := by kernel_rfl
theorem slices_Equal_l0_zero (n : Nat) (v0 : List Int) (v1 : List Int) (v12 : Int) (v13 : Int) : slices_Equal_l0 n 0 v0 v1 v12 v13 = none := by kernel_rfl
theorem slices_Equal_eq (n : Nat) (x0 : List Int) (x1 : List Int) : slices_Equal n x0 x1 = (bif (!decide ((List.length x0 : Int) = (List.length x1 : Int))) then (some false) else (slices_Equal_l0 n n x0 x1 (List.length x0 : Int) 0)) := by kernel_rfl
noncomputable def C13 (n : Nat) : Call2 E := more tt gl H (C12 n) n 14 Try.f14 [.t (.sl (.int .u8)), .t (.sl (.int .u8))] (C12 n)

/- clapperbridge/claplaw2.wires -/
noncomputable def law2_wires (n : Nat) : Option Bool := F2 (E := E) tt gl H (C13 n) n 8 Try.f8 [] (())
theorem law2_wires_eq (n : Nat) : law2_wires n = (bif (decide (1 = List.length ([97] : List Int)) && decide (0 < 1)) then (Option.bind (wire_Encode n [(WireField.mk 1 [97])]) fun r1 => (bif (decide (r1.2 = 0)) then (Option.bind (slices_Equal n r1.1 [1, 1, 97]) fun r2 => (some r2)) else (some false))) else none) := by kernel_rfl
noncomputable def C14 (n : Nat) : Call2 E := more tt gl H (C13 n) n 8 Try.f8 [] (C13 n)

/- clapperbridge/clapref2.SameFields$1 -/
noncomputable def ref2_SameFields_1 (n : Nat) (x0 : WireField) (x1 : WireField) : Option Bool := F2 (E := E) tt gl H (C14 n) n 45 Try.f45 [.t (.nm 0), .t (.nm 0)] (x0, x1, ())
theorem ref2_SameFields_1_eq (n : Nat) (x0 : WireField) (x1 : WireField) : ref2_SameFields_1 n x0 x1 = (bif (decide (x0.Tag = x1.Tag)) then (some ((byts x0.Data) == (byts x1.Data))) else (some false)) := by kernel_rfl
noncomputable def C15 (n : Nat) : Call2 E := more tt gl H (C14 n) n 45 Try.f45 [.t (.nm 0), .t (.nm 0)] (C14 n)

/- slices.EqualFunc[[]clapperbridge/wire.Field,[]clapperbridge/wire.Field,clapperbridge/wire.Field,clapperbridge/wire.Field] -/
noncomputable def slices_EqualFunc (n : Nat) (x0 : List WireField) (x1 : List WireField) (x2 : (Unit)) : Option Bool := F2 (E := E) tt gl H (C15 n) n 44 Try.f44 [.t (.sl (.nm 0)), .t (.sl (.nm 0)), .fn 45 []] (x0, x1, x2, ())
noncomputable def slices_EqualFunc_l0 (n : Nat) (m0 : Nat) (v1 : List WireField) (v15 : List WireField) (v16 : Int) (v17 : Int) : Option Bool := lp (E := E) (ps := [.t (.sl (.nm 0)), .t (.sl (.nm 0)), .fn 45 []]) tt gl H (C15 n) n 44 Try.f44 [1, 1, 0, 1, 0] [] m0 ⟨mkT 32 0 [(1, .t (.sl (.nm 0)) v1), (2, .func 45 []), (15, .t (.sl (.nm 0)) v15), (16, .t (.int .i64) v16), (17, .t (.int .i64) v17)], mkB 128 0 []⟩
theorem slices_EqualFunc_l0_eq (n : Nat) (m0 : Nat) (v1 : List WireField) (v15 : List WireField) (v16 : Int) (v17 : Int) : slices_EqualFunc_l0 n (m0 + 1) v1 v15 v16 v17 = (bif (decide (v17 < v16)) then (bif (decide (0 ≤ v17) && decide (v17 < List.length v15)) then (bif (decide (0 ≤ v17) && decide (v17 < List.length v1)) then (Option.bind (ref2_SameFields_1 n (List.getD v15 (Int.toNat v17) (WireField.mk 0 [])) (List.getD v1 (Int.toNat v17) (WireField.mk 0 []))) fun r1 => (bif (!r1) then (some false) else (slices_EqualFunc_l0 n m0 v1 v15 v16 (IntKind.wrap .i64 (v17 + 1))))) else none) else none) else (some true)) := by kernel_rfl
theorem slices_EqualFunc_l0_zero (n : Nat) (v1 : List WireField) (v15 : List WireField) (v16 : Int) (v17 : Int) : slices_EqualFunc_l0 n 0 v1 v15 v16 v17 = none := by kernel_rfl
theorem slices_EqualFunc_eq (n : Nat) (x0 : List WireField) (x1 : List WireField) (x2 : (Unit)) : slices_EqualFunc n x0 x1 x2 = (bif (!decide ((List.length x0 : Int) = (List.length x1 : Int))) then (some false) else (slices_EqualFunc_l0 n n x1 x0 (List.length x0 : Int) 0)) := by kernel_rfl
noncomputable def C16 (n : Nat) : Call2 E := more tt gl H (C15 n) n 44 Try.f44 [.t (.sl (.nm 0)), .t (.sl (.nm 0)), .fn 45 []] (C15 n)

/- clapperbridge/clapref2.SameFields -/
noncomputable def ref2_SameFields (n : Nat) (x0 : List WireField) (x1 : List WireField) : Option Bool := F2 (E := E) tt gl H (C16 n) n 15 Try.f15 [.t (.sl (.nm 0)), .t (.sl (.nm 0))] (x0, x1, ())
theorem ref2_SameFields_eq (n : Nat) (x0 : List WireField) (x1 : List WireField) : ref2_SameFields n x0 x1 = (Option.bind (slices_EqualFunc n x0 x1 (())) fun r1 => (some r1)) := by kernel_rfl
noncomputable def C17 (n : Nat) : Call2 E := more tt gl H (C16 n) n 15 Try.f15 [.t (.sl (.nm 0)), .t (.sl (.nm 0))] (C16 n)

/- clapperbridge/value.Name -/
noncomputable def value_Name (n : Nat) (x0 : List UInt8) : Option Bool := F2 (E := E) tt gl H (C17 n) n 36 Try.f36 [.t .str] (x0, ())
noncomputable def value_Name_l0 (n : Nat) (m0 : Nat) (v23 : List Int) (v24 : Int) (v25 : Int) : Option Bool := lp (E := E) (ps := [.t .str]) tt gl H (C17 n) n 36 Try.f36 [1, 1, 0, 1, 0] [] m0 ⟨mkT 49 0 [(23, .t (.sl (.int .u8)) v23), (24, .t (.int .i64) v24), (25, .t (.int .i64) v25)], mkB 196 0 []⟩
theorem value_Name_l0_eq (n : Nat) (m0 : Nat) (v23 : List Int) (v24 : Int) (v25 : Int) : value_Name_l0 n (m0 + 1) v23 v24 v25 = (bif (decide (v25 < v24)) then (bif (decide (0 ≤ v25) && decide (v25 < List.length v23)) then (bif (decide ((List.getD v23 (Int.toNat v25) (0 : Int)) ≥ 97)) then (bif (decide ((List.getD v23 (Int.toNat v25) (0 : Int)) ≤ 122)) then (value_Name_l0 n m0 v23 v24 (IntKind.wrap .i64 (v25 + 1))) else (bif (decide ((List.getD v23 (Int.toNat v25) (0 : Int)) ≥ 48)) then (bif (decide ((List.getD v23 (Int.toNat v25) (0 : Int)) ≤ 57)) then (value_Name_l0 n m0 v23 v24 (IntKind.wrap .i64 (v25 + 1))) else (bif (!(decide ((List.getD v23 (Int.toNat v25) (0 : Int)) = 45))) then (some false) else (value_Name_l0 n m0 v23 v24 (IntKind.wrap .i64 (v25 + 1))))) else (bif (!(decide ((List.getD v23 (Int.toNat v25) (0 : Int)) = 45))) then (some false) else (value_Name_l0 n m0 v23 v24 (IntKind.wrap .i64 (v25 + 1)))))) else (bif (decide ((List.getD v23 (Int.toNat v25) (0 : Int)) ≥ 48)) then (bif (decide ((List.getD v23 (Int.toNat v25) (0 : Int)) ≤ 57)) then (value_Name_l0 n m0 v23 v24 (IntKind.wrap .i64 (v25 + 1))) else (bif (!(decide ((List.getD v23 (Int.toNat v25) (0 : Int)) = 45))) then (some false) else (value_Name_l0 n m0 v23 v24 (IntKind.wrap .i64 (v25 + 1))))) else (bif (!(decide ((List.getD v23 (Int.toNat v25) (0 : Int)) = 45))) then (some false) else (value_Name_l0 n m0 v23 v24 (IntKind.wrap .i64 (v25 + 1)))))) else none) else (some true)) := by kernel_rfl
theorem value_Name_l0_zero (n : Nat) (v23 : List Int) (v24 : Int) (v25 : Int) : value_Name_l0 n 0 v23 v24 v25 = none := by kernel_rfl
theorem value_Name_eq (n : Nat) (x0 : List UInt8) : value_Name n x0 = (bif (x0 == []) then (some false) else (bif (decide ((List.length x0 : Int) > 16)) then (some false) else (bif (decide (0 ≤ (0 : Int)) && decide ((0 : Int) < List.length x0)) then (bif (decide (((UInt8.toNat (List.getD x0 (Int.toNat (0 : Int)) 0) : Nat) : Int) < 97)) then (some false) else (bif (decide (0 ≤ (0 : Int)) && decide ((0 : Int) < List.length x0)) then (bif (decide (((UInt8.toNat (List.getD x0 (Int.toNat (0 : Int)) 0) : Nat) : Int) > 122)) then (some false) else (value_Name_l0 n n (ints x0) (List.length (ints x0) : Int) 0)) else none)) else none))) := by kernel_rfl
noncomputable def C18 (n : Nat) : Call2 E := more tt gl H (C17 n) n 36 Try.f36 [.t .str] (C17 n)

/- clapperbridge/wire.Check$1 -/
noncomputable def wire_Check_1 (n : Nat) (x0 : Spec) (x1 : Spec) : Option Bool := F2 (E := E) tt gl H (C18 n) n 47 Try.f47 [.t (.nm 1), .imm (.nm 1)] (x0, x1, ())
theorem wire_Check_1_eq (n : Nat) (x0 : Spec) (x1 : Spec) : wire_Check_1 n x0 x1 = (some (x0.Name == x1.Name)) := by kernel_rfl
noncomputable def C19 (n : Nat) : Call2 E := more tt gl H (C18 n) n 47 Try.f47 [.t (.nm 1), .imm (.nm 1)] (C18 n)

/- slices.IndexFunc[[]clapperbridge/wire.Spec,clapperbridge/wire.Spec] -/
noncomputable def slices_IndexFunc (n : Nat) (x0 : List Spec) (x1 : (Spec × Unit)) : Option Int := F2 (E := E) tt gl H (C19 n) n 64 Try.f64 [.t (.sl (.nm 1)), .fn 47 [(.nm 1)]] (x0, x1, ())
noncomputable def slices_IndexFunc_l0 (n : Nat) (m0 : Nat) (v0 : List Spec) (v1c0 : Spec) (v7 : Int) (v8 : Int) : Option Int := lp (E := E) (ps := [.t (.sl (.nm 1)), .fn 47 [(.nm 1)]]) tt gl H (C19 n) n 64 Try.f64 [1, 0, 1, 0] [] m0 ⟨mkT 19 0 [(0, .t (.sl (.nm 1)) v0), (1, .func 47 [⟨(.nm 1), v1c0⟩]), (7, .t (.int .i64) v7), (8, .t (.int .i64) v8)], mkB 76 0 []⟩
theorem slices_IndexFunc_l0_eq (n : Nat) (m0 : Nat) (v0 : List Spec) (v1c0 : Spec) (v7 : Int) (v8 : Int) : slices_IndexFunc_l0 n (m0 + 1) v0 v1c0 v7 v8 = (bif (decide (v8 < v7)) then (bif (decide (0 ≤ v8) && decide (v8 < List.length v0)) then (Option.bind (wire_Check_1 n (List.getD v0 (Int.toNat v8) (Spec.mk 0 [] 0 false)) v1c0) fun r1 => (bif r1 then (some v8) else (slices_IndexFunc_l0 n m0 v0 v1c0 v7 (IntKind.wrap .i64 (v8 + 1))))) else none) else (some (-1))) := by kernel_rfl
theorem slices_IndexFunc_l0_zero (n : Nat) (v0 : List Spec) (v1c0 : Spec) (v7 : Int) (v8 : Int) : slices_IndexFunc_l0 n 0 v0 v1c0 v7 v8 = none := by kernel_rfl
theorem slices_IndexFunc_eq (n : Nat) (x0 : List Spec) (x1 : (Spec × Unit)) : slices_IndexFunc n x0 x1 = (slices_IndexFunc_l0 n n x0 x1.1 (List.length x0 : Int) 0) := by kernel_rfl
noncomputable def C20 (n : Nat) : Call2 E := more tt gl H (C19 n) n 64 Try.f64 [.t (.sl (.nm 1)), .fn 47 [(.nm 1)]] (C19 n)

/- slices.ContainsFunc[[]clapperbridge/wire.Spec,clapperbridge/wire.Spec] -/
noncomputable def slices_ContainsFunc (n : Nat) (x0 : List Spec) (x1 : (Spec × Unit)) : Option Bool := F2 (E := E) tt gl H (C20 n) n 46 Try.f46 [.t (.sl (.nm 1)), .fn 47 [(.nm 1)]] (x0, x1, ())
theorem slices_ContainsFunc_eq (n : Nat) (x0 : List Spec) (x1 : (Spec × Unit)) : slices_ContainsFunc n x0 x1 = (Option.bind (slices_IndexFunc n x0 (x1.1, ())) fun r1 => (some (decide (r1 ≥ 0)))) := by kernel_rfl
noncomputable def C21 (n : Nat) : Call2 E := more tt gl H (C20 n) n 46 Try.f46 [.t (.sl (.nm 1)), .fn 47 [(.nm 1)]] (C20 n)

/- clapperbridge/wire.Check -/
noncomputable def wire_Check (n : Nat) (x0 : List Spec) : Option Int := F2 (E := E) tt gl H (C21 n) n 16 Try.f16 [.t (.sl (.nm 1))] (x0, ())
noncomputable def wire_Check_l0 (n : Nat) (m0 : Nat) (v0 : List Spec) (v8 : List Spec) (v9 : Int) (v10 : Int) : Option Int := lp (E := E) (ps := [.t (.sl (.nm 1))]) tt gl H (C21 n) n 16 Try.f16 [1, 1, 0, 1, 0] [] m0 ⟨mkT 64 0 [(0, .t (.sl (.nm 1)) v0), (8, .t (.sl (.nm 1)) v8), (9, .t (.int .i64) v9), (10, .t (.int .i64) v10)], mkB 256 0 []⟩
theorem wire_Check_l0_eq (n : Nat) (m0 : Nat) (v0 : List Spec) (v8 : List Spec) (v9 : Int) (v10 : Int) : wire_Check_l0 n (m0 + 1) v0 v8 v9 v10 = (bif (decide (v10 < v9)) then (bif (decide (0 ≤ v10) && decide (v10 < List.length v8)) then (bif (decide (((List.getD v8 (Int.toNat v10) (Spec.mk 0 [] 0 false)).Tag) < 1)) then (some 11) else (bif (decide (((List.getD v8 (Int.toNat v10) (Spec.mk 0 [] 0 false)).Tag) > 1000)) then (some 11) else (Option.bind (value_Name n ((List.getD v8 (Int.toNat v10) (Spec.mk 0 [] 0 false)).Name)) fun r1 => (bif (!r1) then (some 15) else (bif (!decide (((List.getD v8 (Int.toNat v10) (Spec.mk 0 [] 0 false)).Kind) = 1)) then (bif (!decide (((List.getD v8 (Int.toNat v10) (Spec.mk 0 [] 0 false)).Kind) = 2)) then (bif (!decide (((List.getD v8 (Int.toNat v10) (Spec.mk 0 [] 0 false)).Kind) = 5)) then (some 8) else (bif (decide (0 ≤ v10) && decide (v10 ≤ (List.length v0))) then (Option.bind (slices_ContainsFunc n (List.take (Int.toNat v10) v0) ((List.getD v8 (Int.toNat v10) (Spec.mk 0 [] 0 false)), ())) fun r2 => (bif r2 then (some 5) else (bif (decide (v10 > 0)) then (bif (decide (0 ≤ (IntKind.wrap .i64 (v10 - 1))) && decide ((IntKind.wrap .i64 (v10 - 1)) < List.length v0)) then (bif (decide (((List.getD v0 (Int.toNat (IntKind.wrap .i64 (v10 - 1))) (Spec.mk 0 [] 0 false)).Tag) ≥ ((List.getD v8 (Int.toNat v10) (Spec.mk 0 [] 0 false)).Tag))) then (some 9) else (wire_Check_l0 n m0 v0 v8 v9 (IntKind.wrap .i64 (v10 + 1)))) else none) else (wire_Check_l0 n m0 v0 v8 v9 (IntKind.wrap .i64 (v10 + 1)))))) else none)) else (bif (decide (0 ≤ v10) && decide (v10 ≤ (List.length v0))) then (Option.bind (slices_ContainsFunc n (List.take (Int.toNat v10) v0) ((List.getD v8 (Int.toNat v10) (Spec.mk 0 [] 0 false)), ())) fun r3 => (bif r3 then (some 5) else (bif (decide (v10 > 0)) then (bif (decide (0 ≤ (IntKind.wrap .i64 (v10 - 1))) && decide ((IntKind.wrap .i64 (v10 - 1)) < List.length v0)) then (bif (decide (((List.getD v0 (Int.toNat (IntKind.wrap .i64 (v10 - 1))) (Spec.mk 0 [] 0 false)).Tag) ≥ ((List.getD v8 (Int.toNat v10) (Spec.mk 0 [] 0 false)).Tag))) then (some 9) else (wire_Check_l0 n m0 v0 v8 v9 (IntKind.wrap .i64 (v10 + 1)))) else none) else (wire_Check_l0 n m0 v0 v8 v9 (IntKind.wrap .i64 (v10 + 1)))))) else none)) else (bif (decide (0 ≤ v10) && decide (v10 ≤ (List.length v0))) then (Option.bind (slices_ContainsFunc n (List.take (Int.toNat v10) v0) ((List.getD v8 (Int.toNat v10) (Spec.mk 0 [] 0 false)), ())) fun r4 => (bif r4 then (some 5) else (bif (decide (v10 > 0)) then (bif (decide (0 ≤ (IntKind.wrap .i64 (v10 - 1))) && decide ((IntKind.wrap .i64 (v10 - 1)) < List.length v0)) then (bif (decide (((List.getD v0 (Int.toNat (IntKind.wrap .i64 (v10 - 1))) (Spec.mk 0 [] 0 false)).Tag) ≥ ((List.getD v8 (Int.toNat v10) (Spec.mk 0 [] 0 false)).Tag))) then (some 9) else (wire_Check_l0 n m0 v0 v8 v9 (IntKind.wrap .i64 (v10 + 1)))) else none) else (wire_Check_l0 n m0 v0 v8 v9 (IntKind.wrap .i64 (v10 + 1)))))) else none)))))) else none) else (some 0)) := by kernel_rfl
theorem wire_Check_l0_zero (n : Nat) (v0 : List Spec) (v8 : List Spec) (v9 : Int) (v10 : Int) : wire_Check_l0 n 0 v0 v8 v9 v10 = none := by kernel_rfl
theorem wire_Check_eq (n : Nat) (x0 : List Spec) : wire_Check n x0 = (bif (decide ((List.length x0 : Int) > 24)) then (some 2) else (wire_Check_l0 n n x0 x0 (List.length x0 : Int) 0)) := by kernel_rfl
noncomputable def C22 (n : Nat) : Call2 E := more tt gl H (C21 n) n 16 Try.f16 [.t (.sl (.nm 1))] (C21 n)

/- slices.Index[[]int,int] -/
noncomputable def slices_Index (n : Nat) (x0 : List Int) (x1 : Int) : Option Int := F2 (E := E) tt gl H (C22 n) n 62 Try.f62 [.t (.sl (.int .i64)), .t (.int .i64)] (x0, x1, ())
noncomputable def slices_Index_l0 (n : Nat) (m0 : Nat) (v0 : List Int) (v1 : Int) (v7 : Int) (v8 : Int) : Option Int := lp (E := E) (ps := [.t (.sl (.int .i64)), .t (.int .i64)]) tt gl H (C22 n) n 62 Try.f62 [1, 0, 1, 0] [] m0 ⟨mkT 19 0 [(0, .t (.sl (.int .i64)) v0), (1, .t (.int .i64) v1), (7, .t (.int .i64) v7), (8, .t (.int .i64) v8)], mkB 76 0 []⟩
theorem slices_Index_l0_eq (n : Nat) (m0 : Nat) (v0 : List Int) (v1 : Int) (v7 : Int) (v8 : Int) : slices_Index_l0 n (m0 + 1) v0 v1 v7 v8 = (bif (decide (v8 < v7)) then (bif (decide (0 ≤ v8) && decide (v8 < List.length v0)) then (bif (decide (v1 = (List.getD v0 (Int.toNat v8) (0 : Int)))) then (some v8) else (slices_Index_l0 n m0 v0 v1 v7 (IntKind.wrap .i64 (v8 + 1)))) else none) else (some (-1))) := by kernel_rfl
theorem slices_Index_l0_zero (n : Nat) (v0 : List Int) (v1 : Int) (v7 : Int) (v8 : Int) : slices_Index_l0 n 0 v0 v1 v7 v8 = none := by kernel_rfl
theorem slices_Index_eq (n : Nat) (x0 : List Int) (x1 : Int) : slices_Index n x0 x1 = (slices_Index_l0 n n x0 x1 (List.length x0 : Int) 0) := by kernel_rfl
noncomputable def C23 (n : Nat) : Call2 E := more tt gl H (C22 n) n 62 Try.f62 [.t (.sl (.int .i64)), .t (.int .i64)] (C22 n)

/- slices.Contains[[]int,int] -/
noncomputable def slices_Contains (n : Nat) (x0 : List Int) (x1 : Int) : Option Bool := F2 (E := E) tt gl H (C23 n) n 37 Try.f37 [.t (.sl (.int .i64)), .t (.int .i64)] (x0, x1, ())
theorem slices_Contains_eq (n : Nat) (x0 : List Int) (x1 : Int) : slices_Contains n x0 x1 = (Option.bind (slices_Index n x0 x1) fun r1 => (some (decide (r1 ≥ 0)))) := by kernel_rfl
noncomputable def C24 (n : Nat) : Call2 E := more tt gl H (C23 n) n 37 Try.f37 [.t (.sl (.int .i64)), .t (.int .i64)] (C23 n)

/- clapperbridge/clapref2.SpecsErr -/
noncomputable def ref2_SpecsErr (n : Nat) (x0 : List Spec) : Option Int := F2 (E := E) tt gl H (C24 n) n 7 Try.f7 [.t (.sl (.nm 1))] (x0, ())
noncomputable def ref2_SpecsErr_l0 (n : Nat) (m0 : Nat) (v0 : List Spec) (v3 : Int) (v12 : List Spec) (v13 : Int) (v14 : Int) : Option Int := lp (E := E) (ps := [.t (.sl (.nm 1))]) tt gl H (C24 n) n 7 Try.f7 [1, 1, 1, 0, 1, 0] [] m0 ⟨mkT 66 0 [(0, .t (.sl (.nm 1)) v0), (3, .t (.int .i64) v3), (12, .t (.sl (.nm 1)) v12), (13, .t (.int .i64) v13), (14, .t (.int .i64) v14)], mkB 264 0 []⟩
noncomputable def ref2_SpecsErr_l2 (n : Nat) (m0 : Nat) (m1 : Nat) (v0 : List Spec) (v3 : Int) (v6 : Bool) (v12 : List Spec) (v13 : Int) (v14 : Int) (v21 : List Spec) (v22 : Int) (v23 : Int) (w5 : Spec) : Option Int := lp (E := E) (ps := [.t (.sl (.nm 1))]) tt gl H (C24 n) n 7 Try.f7 [1, 1, 1, 0, 1, 0, 0, 1, 1, 0, 0, 1, 1, 0, 1, 0] [m0] m1 ⟨mkT 66 0 [(0, .t (.sl (.nm 1)) v0), (3, .t (.int .i64) v3), (5, .ptr 5 (.nm 1) []), (6, .t .bool v6), (12, .t (.sl (.nm 1)) v12), (13, .t (.int .i64) v13), (14, .t (.int .i64) v14), (21, .t (.sl (.nm 1)) v21), (22, .t (.int .i64) v22), (23, .t (.int .i64) v23)], mkB 264 0 [(5, .var (.nm 1) (.t (.nm 1) w5))]⟩
theorem ref2_SpecsErr_l2_eq (n : Nat) (m0 : Nat) (m1 : Nat) (v0 : List Spec) (v3 : Int) (v6 : Bool) (v12 : List Spec) (v13 : Int) (v14 : Int) (v21 : List Spec) (v22 : Int) (v23 : Int) (w5 : Spec) : ref2_SpecsErr_l2 n m0 (m1 + 1) v0 v3 v6 v12 v13 v14 v21 v22 v23 w5 = (bif (decide (v23 < v22)) then (bif (decide (0 ≤ v23) && decide (v23 < List.length v21)) then (bif v6 then (ref2_SpecsErr_l2 n m0 m1 v0 v3 true v12 v13 v14 v21 v22 (IntKind.wrap .i64 (v23 + 1)) w5) else (ref2_SpecsErr_l2 n m0 m1 v0 v3 (((List.getD v21 (Int.toNat v23) (Spec.mk 0 [] 0 false)).Name) == w5.Name) v12 v13 v14 v21 v22 (IntKind.wrap .i64 (v23 + 1)) w5)) else none) else (bif (decide (w5.Tag ≤ 0)) then (some 11) else (bif (decide (w5.Tag > 1000)) then (some 11) else (Option.bind (value_Name n w5.Name) fun r1 => (bif (!r1) then (some 15) else (Option.bind (slices_Contains n [1, 2, 5] w5.Kind) fun r2 => (bif (!r2) then (some 8) else (bif v6 then (some 5) else (bif (decide (w5.Tag ≤ v3)) then (some 9) else (ref2_SpecsErr_l0 n m0 v0 w5.Tag v12 v13 (IntKind.wrap .i64 (v14 + 1)))))))))))) := by kernel_rfl
theorem ref2_SpecsErr_l2_zero (n : Nat) (m0 : Nat) (v0 : List Spec) (v3 : Int) (v6 : Bool) (v12 : List Spec) (v13 : Int) (v14 : Int) (v21 : List Spec) (v22 : Int) (v23 : Int) (w5 : Spec) : ref2_SpecsErr_l2 n m0 0 v0 v3 v6 v12 v13 v14 v21 v22 v23 w5 = none := by kernel_rfl
theorem ref2_SpecsErr_l0_eq (n : Nat) (m0 : Nat) (v0 : List Spec) (v3 : Int) (v12 : List Spec) (v13 : Int) (v14 : Int) : ref2_SpecsErr_l0 n (m0 + 1) v0 v3 v12 v13 v14 = (bif (decide (v14 < v13)) then (bif (decide (0 ≤ v14) && decide (v14 < List.length v12)) then (bif (decide (0 ≤ v14) && decide (v14 ≤ (List.length v0))) then (ref2_SpecsErr_l2 n m0 n v0 v3 false v12 v13 v14 (List.take (Int.toNat v14) v0) (List.length (List.take (Int.toNat v14) v0) : Int) 0 (List.getD v12 (Int.toNat v14) (Spec.mk 0 [] 0 false))) else none) else none) else (some 0)) := by kernel_rfl
theorem ref2_SpecsErr_l0_zero (n : Nat) (v0 : List Spec) (v3 : Int) (v12 : List Spec) (v13 : Int) (v14 : Int) : ref2_SpecsErr_l0 n 0 v0 v3 v12 v13 v14 = none := by kernel_rfl
theorem ref2_SpecsErr_eq (n : Nat) (x0 : List Spec) : ref2_SpecsErr n x0 = (bif (decide ((List.length x0 : Int) > 24)) then (some 2) else (ref2_SpecsErr_l0 n n x0 0 x0 (List.length x0 : Int) 0)) := by kernel_rfl
noncomputable def C25 (n : Nat) : Call2 E := more tt gl H (C24 n) n 7 Try.f7 [.t (.sl (.nm 1))] (C24 n)

/- clapperbridge/wire.Data -/
noncomputable def wire_Data (n : Nat) (x0 : ApiValue) : Option (List Int) := F2 (E := E) tt gl H (C25 n) n 17 Try.f17 [.t (.nm 2)] (x0, ())
noncomputable def wire_Data_l0 (n : Nat) (m0 : Nat) (v3 : Int) (v4 : List Int) : Option (List Int) := lp (E := E) (ps := [.t (.nm 2)]) tt gl H (C25 n) n 17 Try.f17 [1, 1, 1, 1, 1, 0, 0] [] m0 ⟨mkT 30 0 [(3, .t (.int .u64) v3), (4, .sl 20 (.int .u8) v4)], mkB 120 0 [(20, .grow (.int .u8) (List.length v4))]⟩
theorem wire_Data_l0_eq (n : Nat) (m0 : Nat) (v3 : Int) (v4 : List Int) : wire_Data_l0 n (m0 + 1) v3 v4 = (bif (decide (v3 > 0)) then (bif (decide ((List.length v4) = List.length v4) && decide (List.length v4 + List.length ([(IntKind.wrap .u8 v3)] : List Int) ≤ 4294967296)) then (bif (decide (0 ≤ 8)) then (wire_Data_l0 n m0 (shr .u64 v3 8) (v4 ++ [(IntKind.wrap .u8 v3)])) else none) else none) else (some v4)) := by kernel_rfl
theorem wire_Data_l0_zero (n : Nat) (v3 : Int) (v4 : List Int) : wire_Data_l0 n 0 v3 v4 = none := by kernel_rfl
theorem wire_Data_eq (n : Nat) (x0 : ApiValue) : wire_Data n x0 = (bif (decide (x0.Kind = 5)) then (some (ints x0.S)) else (bif (decide (0 ≤ 1)) then (bif (decide (x0.N < 0)) then (wire_Data_l0 n n (bits .xor .u64 (IntKind.max .u64) (shl .u64 (IntKind.wrap .u64 x0.N) 1)) []) else (wire_Data_l0 n n (shl .u64 (IntKind.wrap .u64 x0.N) 1) [])) else none)) := by kernel_rfl
noncomputable def C26 (n : Nat) : Call2 E := more tt gl H (C25 n) n 17 Try.f17 [.t (.nm 2)] (C25 n)

/- slices.Reverse[[]byte,byte] -/
noncomputable def slices_Reverse (n : Nat) (x0 : List Int × Nat × Nat) : Option (Unit × (List Int) × Unit) := F2 (E := E) tt gl H (C26 n) n 48 Try.f48 [.row (.int .u8)] (x0, ())
noncomputable def slices_Reverse_l0 (n : Nat) (m0 : Nat) (v0o : Nat) (v0l : Nat) (v2 : Int) (v3 : Int) (w0 : List Int) : Option (Unit × (List Int) × Unit) := lp (E := E) (ps := [.row (.int .u8)]) tt gl H (C26 n) n 48 Try.f48 [1, 0] [] m0 ⟨mkT 28 0 [(0, .fs 0 (.int .u8) v0o v0l), (2, .t (.int .i64) v2), (3, .t (.int .i64) v3)], mkB 112 0 [(0, .row (.int .u8) w0)]⟩
theorem slices_Reverse_l0_eq (n : Nat) (m0 : Nat) (v0o : Nat) (v0l : Nat) (v2 : Int) (v3 : Int) (w0 : List Int) : slices_Reverse_l0 n (m0 + 1) v0o v0l v2 v3 w0 = (bif (decide (v2 < v3)) then (bif (decide (0 ≤ v3) && decide (v3 < (v0l : Int))) then (bif (decide ((v0o + (Int.toNat v3)) < List.length w0)) then (bif (decide (0 ≤ v2) && decide (v2 < (v0l : Int))) then (bif (decide ((v0o + (Int.toNat v2)) < List.length w0)) then (bif (decide (0 ≤ v2) && decide (v2 < (v0l : Int))) then (bif (decide ((v0o + (Int.toNat v2)) < List.length w0)) then (bif (decide (0 ≤ v3) && decide (v3 < (v0l : Int))) then (bif (decide ((v0o + (Int.toNat v3)) < List.length (List.set w0 (v0o + (Int.toNat v2)) (List.getD w0 (v0o + (Int.toNat v3)) (0 : Int))))) then (slices_Reverse_l0 n m0 v0o v0l (IntKind.wrap .i64 (v2 + 1)) (IntKind.wrap .i64 (v3 - 1)) (List.set (List.set w0 (v0o + (Int.toNat v2)) (List.getD w0 (v0o + (Int.toNat v3)) (0 : Int))) (v0o + (Int.toNat v3)) (List.getD w0 (v0o + (Int.toNat v2)) (0 : Int)))) else none) else none) else none) else none) else none) else none) else none) else none) else (some ((), w0, ()))) := by kernel_rfl
theorem slices_Reverse_l0_zero (n : Nat) (v0o : Nat) (v0l : Nat) (v2 : Int) (v3 : Int) (w0 : List Int) : slices_Reverse_l0 n 0 v0o v0l v2 v3 w0 = none := by kernel_rfl
theorem slices_Reverse_eq (n : Nat) (x0 : List Int × Nat × Nat) : slices_Reverse n x0 = (slices_Reverse_l0 n n x0.2.1 x0.2.2 0 (IntKind.wrap .i64 ((x0.2.2 : Int) - 1)) x0.1) := by kernel_rfl
noncomputable def C27 (n : Nat) : Call2 E := more tt gl H (C26 n) n 48 Try.f48 [.row (.int .u8)] (C26 n)

/- clapperbridge/clapref2.Zigzag -/
noncomputable def ref2_Zigzag (n : Nat) (x0 : ApiValue) : Option (List Int) := F2 (E := E) tt gl H (C27 n) n 18 Try.f18 [.t (.nm 2)] (x0, ())
noncomputable def ref2_Zigzag_l0 (n : Nat) (m0 : Nat) (v3 : Int) (v5 : Int) (w20 : List Int) : Option (List Int) := lp (E := E) (ps := [.t (.nm 2)]) tt gl H (C27 n) n 18 Try.f18 [1, 1, 1, 1, 1, 0, 1, 0] [] m0 ⟨mkT 50 0 [(3, .t (.int .u64) v3), (4, .fs 20 (.int .u8) 0 (List.length w20)), (5, .t (.int .i64) v5)], mkB 200 0 [(20, .row (.int .u8) w20)]⟩
theorem ref2_Zigzag_l0_eq (n : Nat) (m0 : Nat) (v3 : Int) (v5 : Int) (w20 : List Int) : ref2_Zigzag_l0 n (m0 + 1) v3 v5 w20 = (bif (decide (v5 ≥ 0)) then (bif (decide (0 ≤ (IntKind.wrap .i64 ((8 : Int) * v5)))) then (bif (!decide ((IntKind.wrap .u8 (shr .u64 v3 (IntKind.wrap .i64 ((8 : Int) * v5)))) = 0)) then (bif (decide ((List.length w20) = List.length w20) && decide (List.length w20 + List.length ([(IntKind.wrap .u8 (shr .u64 v3 (IntKind.wrap .i64 ((8 : Int) * v5))))] : List Int) ≤ 4294967296)) then (ref2_Zigzag_l0 n m0 v3 (IntKind.wrap .i64 (v5 - 1)) (w20 ++ [(IntKind.wrap .u8 (shr .u64 v3 (IntKind.wrap .i64 ((8 : Int) * v5))))])) else none) else (bif (decide (((List.length w20) : Int) > 0)) then (bif (decide ((List.length w20) = List.length w20) && decide (List.length w20 + List.length ([(IntKind.wrap .u8 (shr .u64 v3 (IntKind.wrap .i64 ((8 : Int) * v5))))] : List Int) ≤ 4294967296)) then (ref2_Zigzag_l0 n m0 v3 (IntKind.wrap .i64 (v5 - 1)) (w20 ++ [(IntKind.wrap .u8 (shr .u64 v3 (IntKind.wrap .i64 ((8 : Int) * v5))))])) else none) else (ref2_Zigzag_l0 n m0 v3 (IntKind.wrap .i64 (v5 - 1)) w20))) else none) else (Option.bind (slices_Reverse n (w20, 0, (List.length w20))) fun r1 => (bif (decide ((List.length w20) = List.length r1.2.1)) then (some r1.2.1) else none))) := by kernel_rfl
theorem ref2_Zigzag_l0_zero (n : Nat) (v3 : Int) (v5 : Int) (w20 : List Int) : ref2_Zigzag_l0 n 0 v3 v5 w20 = none := by kernel_rfl
theorem ref2_Zigzag_eq (n : Nat) (x0 : ApiValue) : ref2_Zigzag n x0 = (bif (decide (x0.Kind = 5)) then (some (ints x0.S)) else (bif (decide (x0.N < 0)) then (ref2_Zigzag_l0 n n (IntKind.wrap .u64 ((IntKind.wrap .u64 ((2 : Int) * (IntKind.wrap .u64 (IntKind.wrap .i64 (0 - (IntKind.wrap .i64 (x0.N + 1))))))) + 1)) 7 []) else (ref2_Zigzag_l0 n n (IntKind.wrap .u64 ((2 : Int) * (IntKind.wrap .u64 x0.N))) 7 []))) := by kernel_rfl
noncomputable def C28 (n : Nat) : Call2 E := more tt gl H (C27 n) n 18 Try.f18 [.t (.nm 2)] (C27 n)

/- clapperbridge/claplaw2.WireFields -/
noncomputable def law2_WireFields (n : Nat) (x0 : List WireField) (x1 : List Int) (x2 : List Spec) (x3 : ApiValue) : Option Bool := F2 (E := E) tt gl H (C28 n) n 4 Try.f4 [.t (.sl (.nm 0)), .t (.sl (.int .u8)), .t (.sl (.nm 1)), .t (.nm 2)] (x0, x1, x2, x3, ())
theorem law2_WireFields_eq (n : Nat) (x0 : List WireField) (x1 : List Int) (x2 : List Spec) (x3 : ApiValue) : law2_WireFields n x0 x1 x2 x3 = (Option.bind (wire_Encode n x0) fun r1 => (Option.bind (ref2_Sent n x0) fun r2 => (Option.bind (wire_Decode n x1) fun r3 => (Option.bind (ref2_Got n x1) fun r4 => (Option.bind (law2_wires n) fun r5 => (bif r5 then (bif (decide (r1.2 = r2.2)) then (Option.bind (slices_Equal n r1.1 r2.1) fun r6 => (bif r6 then (bif (decide (r3.2 = r4.2)) then (Option.bind (ref2_SameFields n r3.1 r4.1) fun r7 => (bif r7 then (Option.bind (wire_Check n x2) fun r8 => (Option.bind (ref2_SpecsErr n x2) fun r9 => (bif (decide (r8 = r9)) then (Option.bind (wire_Data n x3) fun r10 => (Option.bind (ref2_Zigzag n x3) fun r11 => (Option.bind (slices_Equal n r10 r11) fun r12 => (some r12)))) else (some false)))) else (some false))) else (some false)) else (some false))) else (some false)) else (some false))))))) := by kernel_rfl
noncomputable def C29 (n : Nat) : Call2 E := more tt gl H (C28 n) n 4 Try.f4 [.t (.sl (.nm 0)), .t (.sl (.int .u8)), .t (.sl (.nm 1)), .t (.nm 2)] (C28 n)

theorem ok0 (n : Nat) : CallOK Try.prog gl (callR (C0 n)) := none_ok
theorem ok1 (n : Nat) : CallOK Try.prog gl (callR (C1 n)) := more_ok envOK hz tok hmix (ok0 n) (ok0 n) Try.func38 (by decide)
theorem ok2 (n : Nat) : CallOK Try.prog gl (callR (C2 n)) := more_ok envOK hz tok hmix (ok1 n) (ok1 n) Try.func10 (by decide)
theorem okr2 : ∀ d n : Nat, CallOK Try.prog gl (callR (Cr2 d n))
  | 0, n => ok2 n
  | d + 1, n => (more_ok envOK hz tok hmix (okr2 d n) (ok2 n) Try.func40 (by decide))
theorem ok3 (n : Nat) : CallOK Try.prog gl (callR (C3 n)) := okr2 (n + 1) n
theorem ok4 (n : Nat) : CallOK Try.prog gl (callR (C4 n)) := more_ok envOK hz tok hmix (ok3 n) (ok3 n) Try.func63 (by decide)
theorem ok5 (n : Nat) : CallOK Try.prog gl (callR (C5 n)) := more_ok envOK hz tok hmix (ok4 n) (ok4 n) Try.func39 (by decide)
theorem ok6 (n : Nat) : CallOK Try.prog gl (callR (C6 n)) := more_ok envOK hz tok hmix (ok5 n) (ok5 n) Try.func11 (by decide)
theorem ok7 (n : Nat) : CallOK Try.prog gl (callR (C7 n)) := more_ok envOK hz tok hmix (ok6 n) (ok6 n) Try.func41 (by decide)
theorem ok8 (n : Nat) : CallOK Try.prog gl (callR (C8 n)) := more_ok envOK hz tok hmix (ok7 n) (ok7 n) Try.func42 (by decide)
theorem ok9 (n : Nat) : CallOK Try.prog gl (callR (C9 n)) := moreN_ok envOK hz tok hmix (ok8 n) (ok8 n) Try.func42 (by decide) (slices_Clone_2_hq n)
theorem ok10 (n : Nat) : CallOK Try.prog gl (callR (C10 n)) := more_ok envOK hz tok hmix (ok9 n) (ok9 n) Try.func12 (by decide)
theorem ok11 (n : Nat) : CallOK Try.prog gl (callR (C11 n)) := more_ok envOK hz tok hmix (ok10 n) (ok10 n) Try.func43 (by decide)
theorem ok12 (n : Nat) : CallOK Try.prog gl (callR (C12 n)) := more_ok envOK hz tok hmix (ok11 n) (ok11 n) Try.func13 (by decide)
theorem ok13 (n : Nat) : CallOK Try.prog gl (callR (C13 n)) := more_ok envOK hz tok hmix (ok12 n) (ok12 n) Try.func14 (by decide)
theorem ok14 (n : Nat) : CallOK Try.prog gl (callR (C14 n)) := more_ok envOK hz tok hmix (ok13 n) (ok13 n) Try.func8 (by decide)
theorem ok15 (n : Nat) : CallOK Try.prog gl (callR (C15 n)) := more_ok envOK hz tok hmix (ok14 n) (ok14 n) Try.func45 (by decide)
theorem ok16 (n : Nat) : CallOK Try.prog gl (callR (C16 n)) := more_ok envOK hz tok hmix (ok15 n) (ok15 n) Try.func44 (by decide)
theorem ok17 (n : Nat) : CallOK Try.prog gl (callR (C17 n)) := more_ok envOK hz tok hmix (ok16 n) (ok16 n) Try.func15 (by decide)
theorem ok18 (n : Nat) : CallOK Try.prog gl (callR (C18 n)) := more_ok envOK hz tok hmix (ok17 n) (ok17 n) Try.func36 (by decide)
theorem ok19 (n : Nat) : CallOK Try.prog gl (callR (C19 n)) := more_ok envOK hz tok hmix (ok18 n) (ok18 n) Try.func47 (by decide)
theorem ok20 (n : Nat) : CallOK Try.prog gl (callR (C20 n)) := more_ok envOK hz tok hmix (ok19 n) (ok19 n) Try.func64 (by decide)
theorem ok21 (n : Nat) : CallOK Try.prog gl (callR (C21 n)) := more_ok envOK hz tok hmix (ok20 n) (ok20 n) Try.func46 (by decide)
theorem ok22 (n : Nat) : CallOK Try.prog gl (callR (C22 n)) := more_ok envOK hz tok hmix (ok21 n) (ok21 n) Try.func16 (by decide)
theorem ok23 (n : Nat) : CallOK Try.prog gl (callR (C23 n)) := more_ok envOK hz tok hmix (ok22 n) (ok22 n) Try.func62 (by decide)
theorem ok24 (n : Nat) : CallOK Try.prog gl (callR (C24 n)) := more_ok envOK hz tok hmix (ok23 n) (ok23 n) Try.func37 (by decide)
theorem ok25 (n : Nat) : CallOK Try.prog gl (callR (C25 n)) := more_ok envOK hz tok hmix (ok24 n) (ok24 n) Try.func7 (by decide)
theorem ok26 (n : Nat) : CallOK Try.prog gl (callR (C26 n)) := more_ok envOK hz tok hmix (ok25 n) (ok25 n) Try.func17 (by decide)
theorem ok27 (n : Nat) : CallOK Try.prog gl (callR (C27 n)) := more_ok envOK hz tok hmix (ok26 n) (ok26 n) Try.func48 (by decide)
theorem ok28 (n : Nat) : CallOK Try.prog gl (callR (C28 n)) := more_ok envOK hz tok hmix (ok27 n) (ok27 n) Try.func18 (by decide)
theorem ok29 (n : Nat) : CallOK Try.prog gl (callR (C29 n)) := more_ok envOK hz tok hmix (ok28 n) (ok28 n) Try.func4 (by decide)
theorem law_call (n : Nat) (x0 : List WireField) (x1 : List Int) (x2 : List Spec) (x3 : ApiValue) : callR (C29 n) 4 [.t (.sl (.nm 0)) x0, .t (.sl (.int .u8)) x1, .t (.sl (.nm 1)) x2, .t (.nm 2) x3] [.none, .none, .none, .none] = (law2_WireFields n x0 x1 x2 x3).map fun r => (.t .bool r, [.none, .none, .none, .none]) := by kernel_rfl
theorem law_full : ∀ t ∈ ([30, 31, 22, 34] : List Nat), ∃ x, tt t = some x ∧ x.ty.full = true := by
  intro t ht
  simp only [List.mem_cons, List.not_mem_nil, or_false] at ht
  rcases ht with rfl | rfl | rfl | rfl
  · exact ⟨⟨(.sl (.nm 0)), .slice 70⟩, by kernel_rfl, rfl⟩
  · exact ⟨⟨(.sl (.int .u8)), .slice 5⟩, by kernel_rfl, rfl⟩
  · exact ⟨⟨(.sl (.nm 1)), .slice 26⟩, by kernel_rfl, rfl⟩
  · exact ⟨⟨(.nm 2), .struct [(3, 0), (3, 1), (9, 2), (32, 3)]⟩, by kernel_rfl, rfl⟩
theorem law_ins {aa : List (AV E)} (h : Ins E tt [30, 31, 22, 34] aa) {N : Nat} (hb : ∀ g, (aa.map (bulkA E g)).sum ≤ N) : ∃ (x0 : List WireField) (x1 : List Int) (x2 : List Spec) (x3 : ApiValue), aa = [.t (.sl (.nm 0)) x0, .t (.sl (.int .u8)) x1, .t (.sl (.nm 1)) x2, .t (.nm 2) x3] ∧ (∀ g, Fv.Good E g (.sl (.nm 0)) x0) ∧ (∀ g, Fv.Good E g (.sl (.int .u8)) x1) ∧ (∀ g, Fv.Good E g (.sl (.nm 1)) x2) ∧ (∀ g, Fv.Good E g (.nm 2) x3) ∧ ∀ g, Bulk E g (.sl (.nm 0)) x0 + Bulk E g (.sl (.int .u8)) x1 + Bulk E g (.sl (.nm 1)) x2 + Bulk E g (.nm 2) x3 ≤ N := by
  cases h with
  | cons z0 e0 v0 g0 h => 
  have q0 := Option.some.inj (e0.symm.trans (show tt 30 = some ⟨(.sl (.nm 0)), .slice 70⟩ by kernel_rfl))
  subst q0
  cases h with
  | cons z1 e1 v1 g1 h => 
  have q1 := Option.some.inj (e1.symm.trans (show tt 31 = some ⟨(.sl (.int .u8)), .slice 5⟩ by kernel_rfl))
  subst q1
  cases h with
  | cons z2 e2 v2 g2 h => 
  have q2 := Option.some.inj (e2.symm.trans (show tt 22 = some ⟨(.sl (.nm 1)), .slice 26⟩ by kernel_rfl))
  subst q2
  cases h with
  | cons z3 e3 v3 g3 h => 
  have q3 := Option.some.inj (e3.symm.trans (show tt 34 = some ⟨(.nm 2), .struct [(3, 0), (3, 1), (9, 2), (32, 3)]⟩ by kernel_rfl))
  subst q3
  cases h
  exact ⟨v0, v1, v2, v3, rfl, g0, g1, g2, g3, fun g => Nat.le_trans (Nat.le_of_eq (by simp [bulkA, Nat.add_assoc])) (hb g)⟩
theorem law_pure (ok : ∀ (x0 : List WireField) (x1 : List Int) (x2 : List Spec) (x3 : ApiValue) (h0 : ∀ g, Fv.Good E g (.sl (.nm 0)) x0) (h1 : ∀ g, Fv.Good E g (.sl (.int .u8)) x1) (h2 : ∀ g, Fv.Good E g (.sl (.nm 1)) x2) (h3 : ∀ g, Fv.Good E g (.nm 2) x3) (hb : ∀ g, Bulk E g (.sl (.nm 0)) x0 + Bulk E g (.sl (.int .u8)) x1 + Bulk E g (.sl (.nm 1)) x2 + Bulk E g (.nm 2) x3 ≤ 1048576), ∃ n, law2_WireFields n x0 x1 x2 x3 = some true) (aa : List (AV E)) (h : Ins E tt [30, 31, 22, 34] aa) (hb : ∀ g, (aa.map (bulkA E g)).sum ≤ 1048576) : ∃ n outs, callR (C29 n) 4 aa (List.replicate ([30, 31, 22, 34] : List Nat).length .none) = some (.t .bool true, outs) := by
  obtain ⟨x0, x1, x2, x3, rfl, h0, h1, h2, h3, hk⟩ := law_ins h hb
  obtain ⟨n, hn⟩ := ok x0 x1 x2 x3 h0 h1 h2 h3 hk
  exact ⟨n, _, (law_call n x0 x1 x2 x3).trans (by rw [hn]; rfl)⟩
end Go.Proofs.Ytmkocofcohmnpaa.PWireFields
