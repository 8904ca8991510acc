/- The functions that the law WireAgrees reaches, as the evaluator reckons them. No condition. -/
import Derived.Test.YtmkocofcohmnpaaFvC
import Derived.Test.YtmkocofcohmnpaaChecked
set_option linter.unusedVariables false
set_option maxRecDepth 100000
namespace Go.Proofs.Ytmkocofcohmnpaa.PWireAgrees
open Go Go.Proofs Go.Proofs.Ytmkocofcohmnpaa.Fv

structure Spec where
  Tag : Int
  Name : List UInt8
  Kind : Int
  Many : Bool

structure Field where
  Tag : Int
  Data : List Int

def R : Nat → Type
  | 0 => Spec
  | 1 => Field
  | _ => Bool
def body : Nat → Ty
  | 0 => (.pair (.int .i64) (.pair .str (.pair (.int .i64) (.one .bool))))
  | 1 => (.pair (.int .i64) (.one (.sl (.int .u8))))
  | _ => .one .bool
def un : (n : Nat) → R n → den R (body n)
  | 0, (x : Spec) => (x.Tag, x.Name, x.Kind, x.Many)
  | 1, (x : Field) => (x.Tag, x.Data)
  | _ + 2, x => x
def ro : (n : Nat) → den R (body n) → R n
  | 0, x => Spec.mk x.1 x.2.1 x.2.2.1 x.2.2.2
  | 1, x => Field.mk x.1 x.2
  | _ + 2, x => x
def dfl0 : (n : Nat) → R n
  | 0 => (Spec.mk 0 [] 0 false)
  | 1 => (Field.mk 0 [])
  | _ + 2 => false
def sz0 : Nat → Nat
  | 0 => 4
  | 1 => 2
  | _ => 1
def zc0 : Nat → List Value
  | 0 => [.int .i64 0, .string ByteArray.empty, .int .i64 0, .bool false]
  | 1 => [.int .i64 0, .slice none 0 0]
  | _ => [.bool false]
def E : Env := { R := R, body := body, un := un, ro := ro, dfl := dfl0, sz := sz0, zc := zc0 }
theorem hun : ∀ n x, un n (ro n x) = x
  | 0, _ => rfl
  | 1, _ => rfl
  | _ + 2, _ => rfl
theorem hdf : ∀ n, un n (dfl0 n) = dfl E (body n)
  | 0 => rfl
  | 1 => rfl
  | _ + 2 => rfl
theorem hsz : ∀ n, sz0 n = size E (body n)
  | 0 => rfl
  | 1 => rfl
  | _ + 2 => rfl
theorem hzc : ∀ n, zc0 n = zcells E (body n)
  | 0 => rfl
  | 1 => rfl
  | _ + 2 => rfl
theorem hag : ∀ n, (∃ a, body n = .one a) ∨ ∃ a b, body n = .pair a b
  | 0 => .inr ⟨_, _, rfl⟩
  | 1 => .inr ⟨_, _, rfl⟩
  | _ + 2 => .inl ⟨_, rfl⟩
theorem envOK : EnvOK E := ⟨hun, hdf, hsz, hzc, hag⟩
theorem hz0 (M : Mem) : RC (E := E) M (.nm 0) (dfl0 0) (zc0 0) := RC.nm (E := E) (RC.pair (RC.int .i64 0) (RC.pair (RC.str ByteArray.empty) (RC.pair (RC.int .i64 0) (RC.one (RC.bool false)))))
theorem hz1 (M : Mem) : RC (E := E) M (.nm 1) (dfl0 1) (zc0 1) := RC.nm (E := E) (RC.pair (RC.int .i64 0) (RC.one (RC.sl (e := (.int .u8)) [] none 0 (fun _ => []) (Nat.le_refl _) (fun i hi => by simp at hi) (fun i hi => by simp at hi))))
theorem hz : ∀ (M : Mem) n, RC (E := E) M (.nm n) (E.dfl n) (E.zc n)
  | M, 0 => hz0 M
  | M, 1 => hz1 M
  | M, _ + 2 => RC.nm (E := E) (RC.one (RC.bool false))
def tl : List (Nat × TE) := [(3, ⟨(.int .i64), .int .i64⟩),
  (4, ⟨.bool, .bool⟩),
  (5, ⟨(.int .u8), .int .u8⟩),
  (9, ⟨.str, .str⟩),
  (22, ⟨(.sl (.nm 0)), .slice 26⟩),
  (23, ⟨(.int .i64), .int .i64⟩),
  (26, ⟨(.nm 0), .struct [(3, 0), (9, 1), (3, 2), (4, 3)]⟩),
  (30, ⟨(.sl (.nm 1)), .slice 70⟩),
  (31, ⟨(.sl (.int .u8)), .slice 5⟩),
  (68, ⟨(.sl (.int .i64)), .slice 3⟩),
  (70, ⟨(.nm 1), .struct [(3, 0), (31, 1)]⟩),
  (82, ⟨.any, .func⟩),
  (84, ⟨(.int .u64), .int .u64⟩)]
def tt : Nat → Option TE := look2 tl
theorem tf3 : TFact Try.prog E tt 3 ⟨(.int .i64), .int .i64⟩ := TFact.of (z := .int .i64 0) (bs := 8) Try.underlying3 ⟨rfl, rfl, rfl⟩ (by kernel_rfl) (by kernel_rfl) (fun h => nomatch h) (by kernel_rfl) (trivial)
theorem tf4 : TFact Try.prog E tt 4 ⟨.bool, .bool⟩ := TFact.of (z := .bool false) (bs := 1) Try.underlying4 ⟨rfl, rfl, rfl⟩ (by kernel_rfl) (by kernel_rfl) (fun h => nomatch h) (by kernel_rfl) (trivial)
theorem tf5 : TFact Try.prog E tt 5 ⟨(.int .u8), .int .u8⟩ := TFact.of (z := .int .u8 0) (bs := 1) Try.underlying5 ⟨rfl, rfl, rfl⟩ (by kernel_rfl) (by kernel_rfl) (fun h => nomatch h) (by kernel_rfl) (trivial)
theorem tf9 : TFact Try.prog E tt 9 ⟨.str, .str⟩ := TFact.of (z := .string ByteArray.empty) (bs := 16) Try.underlying9 ⟨rfl, rfl, rfl⟩ (by kernel_rfl) (by kernel_rfl) (fun h => nomatch h) (by kernel_rfl) (trivial)
theorem tf22 : TFact Try.prog E tt 22 ⟨(.sl (.nm 0)), .slice 26⟩ := TFact.of (z := .slice none 0 0) (bs := 24) Try.underlying22 ⟨rfl, rfl, .inr ⟨by kernel_rfl, by kernel_rfl, by kernel_rfl, of_decide_eq_true (by kernel_rfl), of_decide_eq_true (by kernel_rfl), of_decide_eq_true (by kernel_rfl)⟩⟩ (by kernel_rfl) (by kernel_rfl) (fun h => nomatch h) (by kernel_rfl) (trivial)
theorem tf23 : TFact Try.prog E tt 23 ⟨(.int .i64), .int .i64⟩ := TFact.of (z := .int .i64 0) (bs := 8) Try.underlying23 ⟨rfl, rfl, rfl⟩ (by kernel_rfl) (by kernel_rfl) (fun h => nomatch h) (by kernel_rfl) (trivial)
theorem tf26 : TFact Try.prog E tt 26 ⟨(.nm 0), .struct [(3, 0), (9, 1), (3, 2), (4, 3)]⟩ := TFact.of (z := .agg #[.int .i64 0, .string ByteArray.empty, .int .i64 0, .bool false]) (bs := 40) Try.underlying26 ⟨by kernel_rfl, ⟨_, rfl, rfl⟩, by kernel_rfl, by kernel_rfl⟩ (by kernel_rfl) (by kernel_rfl) (fun _ => rfl) (by kernel_rfl) (show (Value.cells (.agg #[.int .i64 0, .string ByteArray.empty, .int .i64 0, .bool false])).toList = (List.map (fun f => zA (E := E) (zeroA tt 20 f.1)) [(3, 0), (9, 1), (3, 2), (4, 3)]).flatten from by kernel_rfl)
theorem tf30 : TFact Try.prog E tt 30 ⟨(.sl (.nm 1)), .slice 70⟩ := TFact.of (z := .slice none 0 0) (bs := 24) Try.underlying30 ⟨rfl, rfl, .inr ⟨by kernel_rfl, by kernel_rfl, by kernel_rfl, of_decide_eq_true (by kernel_rfl), of_decide_eq_true (by kernel_rfl), of_decide_eq_true (by kernel_rfl)⟩⟩ (by kernel_rfl) (by kernel_rfl) (fun h => nomatch h) (by kernel_rfl) (trivial)
theorem tf31 : TFact Try.prog E tt 31 ⟨(.sl (.int .u8)), .slice 5⟩ := TFact.of (z := .slice none 0 0) (bs := 24) Try.underlying31 ⟨rfl, rfl, .inr ⟨by kernel_rfl, by kernel_rfl, by kernel_rfl, of_decide_eq_true (by kernel_rfl), of_decide_eq_true (by kernel_rfl), of_decide_eq_true (by kernel_rfl)⟩⟩ (by kernel_rfl) (by kernel_rfl) (fun h => nomatch h) (by kernel_rfl) (trivial)
theorem tf68 : TFact Try.prog E tt 68 ⟨(.sl (.int .i64)), .slice 3⟩ := TFact.of (z := .slice none 0 0) (bs := 24) Try.underlying68 ⟨rfl, rfl, .inr ⟨by kernel_rfl, by kernel_rfl, by kernel_rfl, of_decide_eq_true (by kernel_rfl), of_decide_eq_true (by kernel_rfl), of_decide_eq_true (by kernel_rfl)⟩⟩ (by kernel_rfl) (by kernel_rfl) (fun h => nomatch h) (by kernel_rfl) (trivial)
theorem tf70 : TFact Try.prog E tt 70 ⟨(.nm 1), .struct [(3, 0), (31, 1)]⟩ := TFact.of (z := .agg #[.int .i64 0, .slice none 0 0]) (bs := 32) Try.underlying70 ⟨by kernel_rfl, ⟨_, rfl, rfl⟩, by kernel_rfl, by kernel_rfl⟩ (by kernel_rfl) (by kernel_rfl) (fun _ => rfl) (by kernel_rfl) (show (Value.cells (.agg #[.int .i64 0, .slice none 0 0])).toList = (List.map (fun f => zA (E := E) (zeroA tt 20 f.1)) [(3, 0), (31, 1)]).flatten from by kernel_rfl)
theorem tf82 : TFact Try.prog E tt 82 ⟨.any, .func⟩ := TFact.of (z := .nilFunc) (bs := 8) Try.underlying82 ⟨rfl, _, _, _, rfl⟩ (by kernel_rfl) (by kernel_rfl) (fun h => nomatch h) (by kernel_rfl) (trivial)
theorem tf84 : TFact Try.prog E tt 84 ⟨(.int .u64), .int .u64⟩ := TFact.of (z := .int .u64 0) (bs := 8) Try.underlying84 ⟨rfl, rfl, rfl⟩ (by kernel_rfl) (by kernel_rfl) (fun h => nomatch h) (by kernel_rfl) (trivial)
theorem tok : TOK Try.prog E tt := TOK.of (mem_cons2 tf3 (mem_cons2 tf4 (mem_cons2 tf5 (mem_cons2 tf9 (mem_cons2 tf22 (mem_cons2 tf23 (mem_cons2 tf26 (mem_cons2 tf30 (mem_cons2 tf31 (mem_cons2 tf68 (mem_cons2 tf70 (mem_cons2 tf82 (mem_cons2 tf84 mem_nil2)))))))))))))
theorem rdok : RdOK Try.prog E tt := RdOK.of (by kernel_rfl)
theorem hmix : Try.prog.follows .mixedOrders = true := by kernel_rfl
def hKeep (f b : Nat) : List (Nat × Nat) := bif Nat.beq f 3 then (bif Nat.beq b 0 then [(0, 0), (1, 0), (5, 0), (16, 0), (17, 0), (18, 0)] else bif Nat.beq b 2 then [(0, 0), (1, 0), (5, 0), (7, 0), (16, 0), (17, 0), (18, 0), (22, 0), (23, 0), (24, 0)] else []) else bif Nat.beq f 7 then (bif Nat.beq b 0 then [(0, 0), (3, 0), (12, 0), (13, 0), (14, 0)] else bif Nat.beq b 2 then [(0, 0), (3, 0), (5, 0), (6, 0), (12, 0), (13, 0), (14, 0), (21, 0), (22, 0), (23, 0)] else []) else bif Nat.beq f 9 then (bif Nat.beq b 0 then [(1, 0), (21, 0), (22, 0), (23, 0)] else bif Nat.beq b 2 then [(1, 0), (8, 0), (21, 0), (22, 0), (23, 0), (27, 0), (28, 0), (29, 0)] else []) else bif Nat.beq f 10 then (bif Nat.beq b 0 then [(4, 1), (10, 0), (11, 0), (12, 0)] else []) else bif Nat.beq f 14 then (bif Nat.beq b 0 then [(0, 0), (1, 0), (12, 0), (13, 0)] else []) else bif Nat.beq f 16 then (bif Nat.beq b 0 then [(0, 0), (8, 0), (9, 0), (10, 0)] else []) else bif Nat.beq f 36 then (bif Nat.beq b 0 then [(23, 0), (24, 0), (25, 0)] else []) else bif Nat.beq f 38 then (bif Nat.beq b 0 then [(0, 1), (1, 0)] else []) else bif Nat.beq f 62 then (bif Nat.beq b 0 then [(0, 0), (1, 0), (7, 0), (8, 0)] else []) else bif Nat.beq f 64 then (bif Nat.beq b 0 then [(0, 0), (1, 0), (7, 0), (8, 0)] else []) else []
def hKeepB (f b : Nat) : List Nat := bif Nat.beq f 3 then (bif Nat.beq b 2 then [7] else []) else bif Nat.beq f 7 then (bif Nat.beq b 2 then [5] else []) else bif Nat.beq f 9 then (bif Nat.beq b 2 then [8] else []) else bif Nat.beq f 10 then (bif Nat.beq b 0 then [4] else []) else []
def hRsh (f : Nat) : RSh := bif Nat.beq f 3 then (.t .bool) else bif Nat.beq f 7 then (.t (.int .i64)) else bif Nat.beq f 8 then (.t .bool) else bif Nat.beq f 9 then (.t (.int .i64)) else bif Nat.beq f 10 then (.tup [(.t (.sl (.int .u8))), (.t (.int .i64))]) else bif Nat.beq f 14 then (.t .bool) else bif Nat.beq f 16 then (.t (.int .i64)) else bif Nat.beq f 36 then (.t .bool) else bif Nat.beq f 37 then (.t .bool) else bif Nat.beq f 38 then (.inp 0 (.int .u8)) else bif Nat.beq f 46 then (.t .bool) else bif Nat.beq f 47 then (.t .bool) else bif Nat.beq f 62 then (.t (.int .i64)) else bif Nat.beq f 64 then (.t (.int .i64)) else .asis
def hCons (f : Nat) : List Nat := bif Nat.beq f 38 then [0] else []
def hRow (f : Nat) : List Nat := bif Nat.beq f 8 then [4] else []
def H : Hints := { keep := hKeep, keepB := hKeepB, rsh := hRsh, cons := hCons, asagg := fun _ _ => [], asrow := hRow, mutcap := [] }
def gl : Nat → AV E := fun _ => .undef

def C0 (_ : Nat) : Call2 E := fun _ _ _ => none

/- clapperbridge/value.Name -/
noncomputable def value_Name (n : Nat) (x0 : List UInt8) : Option Bool := F2 (E := E) tt gl H (C0 n) n 36 Try.f36 [.t .str] (x0, ())
noncomputable def value_Name_l0 (n : Nat) (m0 : Nat) (v23 : List Int) (v24 : Int) (v25 : Int) : Option Bool := lp (E := E) (ps := [.t .str]) tt gl H (C0 n) n 36 Try.f36 [1, 1, 0, 1, 0] [] m0 ⟨mkT 49 0 [(23, .t (.sl (.int .u8)) v23), (24, .t (.int .i64) v24), (25, .t (.int .i64) v25)], mkB 196 0 []⟩
theorem value_Name_l0_eq (n : Nat) (m0 : Nat) (v23 : List Int) (v24 : Int) (v25 : Int) : value_Name_l0 n (m0 + 1) v23 v24 v25 = (bif (decide (v25 < v24)) then (bif (decide (0 ≤ v25) && decide (v25 < List.length v23)) then (bif (decide ((List.getD v23 (Int.toNat v25) (0 : Int)) ≥ 97)) then (bif (decide ((List.getD v23 (Int.toNat v25) (0 : Int)) ≤ 122)) then (value_Name_l0 n m0 v23 v24 (IntKind.wrap .i64 (v25 + 1))) else (bif (decide ((List.getD v23 (Int.toNat v25) (0 : Int)) ≥ 48)) then (bif (decide ((List.getD v23 (Int.toNat v25) (0 : Int)) ≤ 57)) then (value_Name_l0 n m0 v23 v24 (IntKind.wrap .i64 (v25 + 1))) else (bif (!(decide ((List.getD v23 (Int.toNat v25) (0 : Int)) = 45))) then (some false) else (value_Name_l0 n m0 v23 v24 (IntKind.wrap .i64 (v25 + 1))))) else (bif (!(decide ((List.getD v23 (Int.toNat v25) (0 : Int)) = 45))) then (some false) else (value_Name_l0 n m0 v23 v24 (IntKind.wrap .i64 (v25 + 1)))))) else (bif (decide ((List.getD v23 (Int.toNat v25) (0 : Int)) ≥ 48)) then (bif (decide ((List.getD v23 (Int.toNat v25) (0 : Int)) ≤ 57)) then (value_Name_l0 n m0 v23 v24 (IntKind.wrap .i64 (v25 + 1))) else (bif (!(decide ((List.getD v23 (Int.toNat v25) (0 : Int)) = 45))) then (some false) else (value_Name_l0 n m0 v23 v24 (IntKind.wrap .i64 (v25 + 1))))) else (bif (!(decide ((List.getD v23 (Int.toNat v25) (0 : Int)) = 45))) then (some false) else (value_Name_l0 n m0 v23 v24 (IntKind.wrap .i64 (v25 + 1)))))) else none) else (some true)) := by kernel_rfl
theorem value_Name_l0_zero (n : Nat) (v23 : List Int) (v24 : Int) (v25 : Int) : value_Name_l0 n 0 v23 v24 v25 = none := by kernel_rfl
theorem value_Name_eq (n : Nat) (x0 : List UInt8) : value_Name n x0 = (bif (x0 == []) then (some false) else (bif (decide ((List.length x0 : Int) > 16)) then (some false) else (bif (decide (0 ≤ (0 : Int)) && decide ((0 : Int) < List.length x0)) then (bif (decide (((UInt8.toNat (List.getD x0 (Int.toNat (0 : Int)) 0) : Nat) : Int) < 97)) then (some false) else (bif (decide (0 ≤ (0 : Int)) && decide ((0 : Int) < List.length x0)) then (bif (decide (((UInt8.toNat (List.getD x0 (Int.toNat (0 : Int)) 0) : Nat) : Int) > 122)) then (some false) else (value_Name_l0 n n (ints x0) (List.length (ints x0) : Int) 0)) else none)) else none))) := by kernel_rfl
noncomputable def C1 (n : Nat) : Call2 E := more tt gl H (C0 n) n 36 Try.f36 [.t .str] (C0 n)

/- slices.Index[[]int,int] -/
noncomputable def slices_Index (n : Nat) (x0 : List Int) (x1 : Int) : Option Int := F2 (E := E) tt gl H (C1 n) n 62 Try.f62 [.t (.sl (.int .i64)), .t (.int .i64)] (x0, x1, ())
noncomputable def slices_Index_l0 (n : Nat) (m0 : Nat) (v0 : List Int) (v1 : Int) (v7 : Int) (v8 : Int) : Option Int := lp (E := E) (ps := [.t (.sl (.int .i64)), .t (.int .i64)]) tt gl H (C1 n) n 62 Try.f62 [1, 0, 1, 0] [] m0 ⟨mkT 19 0 [(0, .t (.sl (.int .i64)) v0), (1, .t (.int .i64) v1), (7, .t (.int .i64) v7), (8, .t (.int .i64) v8)], mkB 76 0 []⟩
theorem slices_Index_l0_eq (n : Nat) (m0 : Nat) (v0 : List Int) (v1 : Int) (v7 : Int) (v8 : Int) : slices_Index_l0 n (m0 + 1) v0 v1 v7 v8 = (bif (decide (v8 < v7)) then (bif (decide (0 ≤ v8) && decide (v8 < List.length v0)) then (bif (decide (v1 = (List.getD v0 (Int.toNat v8) (0 : Int)))) then (some v8) else (slices_Index_l0 n m0 v0 v1 v7 (IntKind.wrap .i64 (v8 + 1)))) else none) else (some (-1))) := by kernel_rfl
theorem slices_Index_l0_zero (n : Nat) (v0 : List Int) (v1 : Int) (v7 : Int) (v8 : Int) : slices_Index_l0 n 0 v0 v1 v7 v8 = none := by kernel_rfl
theorem slices_Index_eq (n : Nat) (x0 : List Int) (x1 : Int) : slices_Index n x0 x1 = (slices_Index_l0 n n x0 x1 (List.length x0 : Int) 0) := by kernel_rfl
noncomputable def C2 (n : Nat) : Call2 E := more tt gl H (C1 n) n 62 Try.f62 [.t (.sl (.int .i64)), .t (.int .i64)] (C1 n)

/- slices.Contains[[]int,int] -/
noncomputable def slices_Contains (n : Nat) (x0 : List Int) (x1 : Int) : Option Bool := F2 (E := E) tt gl H (C2 n) n 37 Try.f37 [.t (.sl (.int .i64)), .t (.int .i64)] (x0, x1, ())
theorem slices_Contains_eq (n : Nat) (x0 : List Int) (x1 : Int) : slices_Contains n x0 x1 = (Option.bind (slices_Index n x0 x1) fun r1 => (some (decide (r1 ≥ 0)))) := by kernel_rfl
noncomputable def C3 (n : Nat) : Call2 E := more tt gl H (C2 n) n 37 Try.f37 [.t (.sl (.int .i64)), .t (.int .i64)] (C2 n)

/- clapperbridge/clapref2.SpecsErr -/
noncomputable def ref2_SpecsErr (n : Nat) (x0 : List Spec) : Option Int := F2 (E := E) tt gl H (C3 n) n 7 Try.f7 [.t (.sl (.nm 0))] (x0, ())
noncomputable def ref2_SpecsErr_l0 (n : Nat) (m0 : Nat) (v0 : List Spec) (v3 : Int) (v12 : List Spec) (v13 : Int) (v14 : Int) : Option Int := lp (E := E) (ps := [.t (.sl (.nm 0))]) tt gl H (C3 n) n 7 Try.f7 [1, 1, 1, 0, 1, 0] [] m0 ⟨mkT 66 0 [(0, .t (.sl (.nm 0)) v0), (3, .t (.int .i64) v3), (12, .t (.sl (.nm 0)) v12), (13, .t (.int .i64) v13), (14, .t (.int .i64) v14)], mkB 264 0 []⟩
noncomputable def ref2_SpecsErr_l2 (n : Nat) (m0 : Nat) (m1 : Nat) (v0 : List Spec) (v3 : Int) (v6 : Bool) (v12 : List Spec) (v13 : Int) (v14 : Int) (v21 : List Spec) (v22 : Int) (v23 : Int) (w5 : Spec) : Option Int := lp (E := E) (ps := [.t (.sl (.nm 0))]) tt gl H (C3 n) n 7 Try.f7 [1, 1, 1, 0, 1, 0, 0, 1, 1, 0, 0, 1, 1, 0, 1, 0] [m0] m1 ⟨mkT 66 0 [(0, .t (.sl (.nm 0)) v0), (3, .t (.int .i64) v3), (5, .ptr 5 (.nm 0) []), (6, .t .bool v6), (12, .t (.sl (.nm 0)) v12), (13, .t (.int .i64) v13), (14, .t (.int .i64) v14), (21, .t (.sl (.nm 0)) v21), (22, .t (.int .i64) v22), (23, .t (.int .i64) v23)], mkB 264 0 [(5, .var (.nm 0) (.t (.nm 0) w5))]⟩
theorem ref2_SpecsErr_l2_eq (n : Nat) (m0 : Nat) (m1 : Nat) (v0 : List Spec) (v3 : Int) (v6 : Bool) (v12 : List Spec) (v13 : Int) (v14 : Int) (v21 : List Spec) (v22 : Int) (v23 : Int) (w5 : Spec) : ref2_SpecsErr_l2 n m0 (m1 + 1) v0 v3 v6 v12 v13 v14 v21 v22 v23 w5 = (bif (decide (v23 < v22)) then (bif (decide (0 ≤ v23) && decide (v23 < List.length v21)) then (bif v6 then (ref2_SpecsErr_l2 n m0 m1 v0 v3 true v12 v13 v14 v21 v22 (IntKind.wrap .i64 (v23 + 1)) w5) else (ref2_SpecsErr_l2 n m0 m1 v0 v3 (((List.getD v21 (Int.toNat v23) (Spec.mk 0 [] 0 false)).Name) == w5.Name) v12 v13 v14 v21 v22 (IntKind.wrap .i64 (v23 + 1)) w5)) else none) else (bif (decide (w5.Tag ≤ 0)) then (some 11) else (bif (decide (w5.Tag > 1000)) then (some 11) else (Option.bind (value_Name n w5.Name) fun r1 => (bif (!r1) then (some 15) else (Option.bind (slices_Contains n [1, 2, 5] w5.Kind) fun r2 => (bif (!r2) then (some 8) else (bif v6 then (some 5) else (bif (decide (w5.Tag ≤ v3)) then (some 9) else (ref2_SpecsErr_l0 n m0 v0 w5.Tag v12 v13 (IntKind.wrap .i64 (v14 + 1)))))))))))) := by kernel_rfl
theorem ref2_SpecsErr_l2_zero (n : Nat) (m0 : Nat) (v0 : List Spec) (v3 : Int) (v6 : Bool) (v12 : List Spec) (v13 : Int) (v14 : Int) (v21 : List Spec) (v22 : Int) (v23 : Int) (w5 : Spec) : ref2_SpecsErr_l2 n m0 0 v0 v3 v6 v12 v13 v14 v21 v22 v23 w5 = none := by kernel_rfl
theorem ref2_SpecsErr_l0_eq (n : Nat) (m0 : Nat) (v0 : List Spec) (v3 : Int) (v12 : List Spec) (v13 : Int) (v14 : Int) : ref2_SpecsErr_l0 n (m0 + 1) v0 v3 v12 v13 v14 = (bif (decide (v14 < v13)) then (bif (decide (0 ≤ v14) && decide (v14 < List.length v12)) then (bif (decide (0 ≤ v14) && decide (v14 ≤ (List.length v0))) then (ref2_SpecsErr_l2 n m0 n v0 v3 false v12 v13 v14 (List.take (Int.toNat v14) v0) (List.length (List.take (Int.toNat v14) v0) : Int) 0 (List.getD v12 (Int.toNat v14) (Spec.mk 0 [] 0 false))) else none) else none) else (some 0)) := by kernel_rfl
theorem ref2_SpecsErr_l0_zero (n : Nat) (v0 : List Spec) (v3 : Int) (v12 : List Spec) (v13 : Int) (v14 : Int) : ref2_SpecsErr_l0 n 0 v0 v3 v12 v13 v14 = none := by kernel_rfl
theorem ref2_SpecsErr_eq (n : Nat) (x0 : List Spec) : ref2_SpecsErr n x0 = (bif (decide ((List.length x0 : Int) > 24)) then (some 2) else (ref2_SpecsErr_l0 n n x0 0 x0 (List.length x0 : Int) 0)) := by kernel_rfl
noncomputable def C4 (n : Nat) : Call2 E := more tt gl H (C3 n) n 7 Try.f7 [.t (.sl (.nm 0))] (C3 n)

/- clapperbridge/wire.put -/
noncomputable def wire_put (n : Nat) (x0 : List Int × Nat) (x1 : Int) : Option ((List Int) × Nat × Unit) := F2 (E := E) tt gl H (C4 n) n 38 Try.f38 [.gr (.int .u8), .t (.int .i64)] (x0, x1, ())
noncomputable def wire_put_l0 (n : Nat) (m0 : Nat) (v0 : List Int) (v1 : Int) (k0 : Nat) : Option ((List Int) × Nat × Unit) := lp (E := E) (ps := [.gr (.int .u8), .t (.int .i64)]) tt gl H (C4 n) n 38 Try.f38 [1, 0, 0] [] m0 ⟨mkT 20 0 [(0, .sl 0 (.int .u8) v0), (1, .t (.int .i64) v1)], mkB 80 0 [(0, .grow (.int .u8) k0)]⟩
theorem wire_put_l0_eq (n : Nat) (m0 : Nat) (v0 : List Int) (v1 : Int) (k0 : Nat) : wire_put_l0 n (m0 + 1) v0 v1 k0 = (bif (decide (v1 > 127)) then (bif (decide (k0 = List.length v0) && decide (List.length v0 + List.length ([(bits .or .u8 (IntKind.wrap .u8 v1) 128)] : List Int) ≤ 4294967296)) then (bif (decide (0 ≤ 7)) then (wire_put_l0 n m0 (v0 ++ [(bits .or .u8 (IntKind.wrap .u8 v1) 128)]) (shr .i64 v1 7) (List.length (v0 ++ [(bits .or .u8 (IntKind.wrap .u8 v1) 128)]))) else none) else none) else (bif (decide (k0 = List.length v0) && decide (List.length v0 + List.length ([(IntKind.wrap .u8 v1)] : List Int) ≤ 4294967296)) then (bif (decide ((List.length (v0 ++ [(IntKind.wrap .u8 v1)])) = List.length (v0 ++ [(IntKind.wrap .u8 v1)]))) then (some ((v0 ++ [(IntKind.wrap .u8 v1)]), (List.length (v0 ++ [(IntKind.wrap .u8 v1)])), ())) else none) else none)) := by kernel_rfl
theorem wire_put_l0_zero (n : Nat) (v0 : List Int) (v1 : Int) (k0 : Nat) : wire_put_l0 n 0 v0 v1 k0 = none := by kernel_rfl
theorem wire_put_eq (n : Nat) (x0 : List Int × Nat) (x1 : Int) : wire_put n x0 x1 = (wire_put_l0 n n x0.1 x1 x0.2) := by kernel_rfl
noncomputable def C5 (n : Nat) : Call2 E := more tt gl H (C4 n) n 38 Try.f38 [.gr (.int .u8), .t (.int .i64)] (C4 n)

/- clapperbridge/wire.Encode -/
noncomputable def wire_Encode (n : Nat) (x0 : List Field) : Option (List Int × Int) := F2 (E := E) tt gl H (C5 n) n 10 Try.f10 [.t (.sl (.nm 1))] (x0, ())
noncomputable def wire_Encode_l0 (n : Nat) (m0 : Nat) (v4 : List Int) (v10 : List Field) (v11 : Int) (v12 : Int) : Option (List Int × Int) := lp (E := E) (ps := [.t (.sl (.nm 1))]) tt gl H (C5 n) n 10 Try.f10 [1, 1, 1, 0, 1, 0] [] m0 ⟨mkT 40 0 [(4, .sl 4 (.int .u8) v4), (10, .t (.sl (.nm 1)) v10), (11, .t (.int .i64) v11), (12, .t (.int .i64) v12)], mkB 160 0 [(4, .grow (.int .u8) (List.length v4))]⟩
theorem wire_Encode_l0_eq (n : Nat) (m0 : Nat) (v4 : List Int) (v10 : List Field) (v11 : Int) (v12 : Int) : wire_Encode_l0 n (m0 + 1) v4 v10 v11 v12 = (bif (decide (v12 < v11)) then (bif (decide (0 ≤ v12) && decide (v12 < List.length v10)) then (bif (decide (((List.getD v10 (Int.toNat v12) (Field.mk 0 [])).Tag) < 1)) then (some ([], 11)) else (bif (decide (((List.getD v10 (Int.toNat v12) (Field.mk 0 [])).Tag) > 1000)) then (some ([], 11)) else (bif (decide ((List.length v4) = List.length v4) && true) then (Option.bind (wire_put n (v4, (List.length v4)) ((List.getD v10 (Int.toNat v12) (Field.mk 0 [])).Tag)) fun r1 => (bif (decide (r1.2.1 = List.length r1.1)) then (bif (decide (r1.2.1 = List.length r1.1) && true) then (Option.bind (wire_put n (r1.1, r1.2.1) (List.length ((List.getD v10 (Int.toNat v12) (Field.mk 0 [])).Data) : Int)) fun r2 => (bif (decide (r2.2.1 = List.length r2.1)) then (bif (decide (r2.2.1 = List.length r2.1) && decide (List.length r2.1 + List.length ((List.getD v10 (Int.toNat v12) (Field.mk 0 [])).Data) ≤ 4294967296)) then (bif (decide ((List.length (r2.1 ++ ((List.getD v10 (Int.toNat v12) (Field.mk 0 [])).Data)) : Int) > 8000)) then (some ([], 2)) else (wire_Encode_l0 n m0 (r2.1 ++ ((List.getD v10 (Int.toNat v12) (Field.mk 0 [])).Data)) v10 v11 (IntKind.wrap .i64 (v12 + 1)))) else none) else none)) else none) else none)) else none))) else none) else (some (v4, 0))) := by kernel_rfl
theorem wire_Encode_l0_zero (n : Nat) (v4 : List Int) (v10 : List Field) (v11 : Int) (v12 : Int) : wire_Encode_l0 n 0 v4 v10 v11 v12 = none := by kernel_rfl
theorem wire_Encode_eq (n : Nat) (x0 : List Field) : wire_Encode n x0 = (bif (decide ((List.length x0 : Int) > 100)) then (some ([], 2)) else (wire_Encode_l0 n n [] x0 (List.length x0 : Int) 0)) := by kernel_rfl
noncomputable def C6 (n : Nat) : Call2 E := more tt gl H (C5 n) n 10 Try.f10 [.t (.sl (.nm 1))] (C5 n)

/- slices.Equal[[]byte,byte] -/
noncomputable def slices_Equal (n : Nat) (x0 : List Int) (x1 : List Int) : Option Bool := F2 (E := E) tt gl H (C6 n) n 14 Try.f14 [.t (.sl (.int .u8)), .t (.sl (.int .u8))] (x0, x1, ())
noncomputable def slices_Equal_l0 (n : Nat) (m0 : Nat) (v0 : List Int) (v1 : List Int) (v12 : Int) (v13 : Int) : Option Bool := lp (E := E) (ps := [.t (.sl (.int .u8)), .t (.sl (.int .u8))]) tt gl H (C6 n) n 14 Try.f14 [1, 1, 0, 1, 0] [] m0 ⟨mkT 26 0 [(0, .t (.sl (.int .u8)) v0), (1, .t (.sl (.int .u8)) v1), (12, .t (.int .i64) v12), (13, .t (.int .i64) v13)], mkB 104 0 []⟩
theorem slices_Equal_l0_eq (n : Nat) (m0 : Nat) (v0 : List Int) (v1 : List Int) (v12 : Int) (v13 : Int) : slices_Equal_l0 n (m0 + 1) v0 v1 v12 v13 = (bif (decide (v13 < v12)) then (bif (decide (0 ≤ v13) && decide (v13 < List.length v0)) then (bif (decide (0 ≤ v13) && decide (v13 < List.length v1)) then (bif (!decide ((List.getD v0 (Int.toNat v13) (0 : Int)) = (List.getD v1 (Int.toNat v13) (0 : Int)))) then (some false) else (slices_Equal_l0 n m0 v0 v1 v12 (IntKind.wrap .i64 (v13 + 1)))) else none) else none) else (some true)) := by kernel_rfl
theorem slices_Equal_l0_zero (n : Nat) (v0 : List Int) (v1 : List Int) (v12 : Int) (v13 : Int) : slices_Equal_l0 n 0 v0 v1 v12 v13 = none := by kernel_rfl
theorem slices_Equal_eq (n : Nat) (x0 : List Int) (x1 : List Int) : slices_Equal n x0 x1 = (bif (!decide ((List.length x0 : Int) = (List.length x1 : Int))) then (some false) else (slices_Equal_l0 n n x0 x1 (List.length x0 : Int) 0)) := by kernel_rfl
noncomputable def C7 (n : Nat) : Call2 E := more tt gl H (C6 n) n 14 Try.f14 [.t (.sl (.int .u8)), .t (.sl (.int .u8))] (C6 n)

/- clapperbridge/claplaw2.wires -/
noncomputable def law2_wires (n : Nat) : Option Bool := F2 (E := E) tt gl H (C7 n) n 8 Try.f8 [] (())
theorem law2_wires_eq (n : Nat) : law2_wires n = (bif (decide (1 = List.length ([97] : List Int)) && decide (0 < 1)) then (Option.bind (wire_Encode n [(Field.mk 1 [97])]) fun r1 => (bif (decide (r1.2 = 0)) then (Option.bind (slices_Equal n r1.1 [1, 1, 97]) fun r2 => (some r2)) else (some false))) else none) := by kernel_rfl
noncomputable def C8 (n : Nat) : Call2 E := more tt gl H (C7 n) n 8 Try.f8 [] (C7 n)

/- clapperbridge/wire.Check$1 -/
noncomputable def wire_Check_1 (n : Nat) (x0 : Spec) (x1 : Spec) : Option Bool := F2 (E := E) tt gl H (C8 n) n 47 Try.f47 [.t (.nm 0), .imm (.nm 0)] (x0, x1, ())
theorem wire_Check_1_eq (n : Nat) (x0 : Spec) (x1 : Spec) : wire_Check_1 n x0 x1 = (some (x0.Name == x1.Name)) := by kernel_rfl
noncomputable def C9 (n : Nat) : Call2 E := more tt gl H (C8 n) n 47 Try.f47 [.t (.nm 0), .imm (.nm 0)] (C8 n)

/- slices.IndexFunc[[]clapperbridge/wire.Spec,clapperbridge/wire.Spec] -/
noncomputable def slices_IndexFunc (n : Nat) (x0 : List Spec) (x1 : (Spec × Unit)) : Option Int := F2 (E := E) tt gl H (C9 n) n 64 Try.f64 [.t (.sl (.nm 0)), .fn 47 [(.nm 0)]] (x0, x1, ())
noncomputable def slices_IndexFunc_l0 (n : Nat) (m0 : Nat) (v0 : List Spec) (v1c0 : Spec) (v7 : Int) (v8 : Int) : Option Int := lp (E := E) (ps := [.t (.sl (.nm 0)), .fn 47 [(.nm 0)]]) tt gl H (C9 n) n 64 Try.f64 [1, 0, 1, 0] [] m0 ⟨mkT 19 0 [(0, .t (.sl (.nm 0)) v0), (1, .func 47 [⟨(.nm 0), v1c0⟩]), (7, .t (.int .i64) v7), (8, .t (.int .i64) v8)], mkB 76 0 []⟩
theorem slices_IndexFunc_l0_eq (n : Nat) (m0 : Nat) (v0 : List Spec) (v1c0 : Spec) (v7 : Int) (v8 : Int) : slices_IndexFunc_l0 n (m0 + 1) v0 v1c0 v7 v8 = (bif (decide (v8 < v7)) then (bif (decide (0 ≤ v8) && decide (v8 < List.length v0)) then (Option.bind (wire_Check_1 n (List.getD v0 (Int.toNat v8) (Spec.mk 0 [] 0 false)) v1c0) fun r1 => (bif r1 then (some v8) else (slices_IndexFunc_l0 n m0 v0 v1c0 v7 (IntKind.wrap .i64 (v8 + 1))))) else none) else (some (-1))) := by kernel_rfl
theorem slices_IndexFunc_l0_zero (n : Nat) (v0 : List Spec) (v1c0 : Spec) (v7 : Int) (v8 : Int) : slices_IndexFunc_l0 n 0 v0 v1c0 v7 v8 = none := by kernel_rfl
theorem slices_IndexFunc_eq (n : Nat) (x0 : List Spec) (x1 : (Spec × Unit)) : slices_IndexFunc n x0 x1 = (slices_IndexFunc_l0 n n x0 x1.1 (List.length x0 : Int) 0) := by kernel_rfl
noncomputable def C10 (n : Nat) : Call2 E := more tt gl H (C9 n) n 64 Try.f64 [.t (.sl (.nm 0)), .fn 47 [(.nm 0)]] (C9 n)

/- slices.ContainsFunc[[]clapperbridge/wire.Spec,clapperbridge/wire.Spec] -/
noncomputable def slices_ContainsFunc (n : Nat) (x0 : List Spec) (x1 : (Spec × Unit)) : Option Bool := F2 (E := E) tt gl H (C10 n) n 46 Try.f46 [.t (.sl (.nm 0)), .fn 47 [(.nm 0)]] (x0, x1, ())
theorem slices_ContainsFunc_eq (n : Nat) (x0 : List Spec) (x1 : (Spec × Unit)) : slices_ContainsFunc n x0 x1 = (Option.bind (slices_IndexFunc n x0 (x1.1, ())) fun r1 => (some (decide (r1 ≥ 0)))) := by kernel_rfl
noncomputable def C11 (n : Nat) : Call2 E := more tt gl H (C10 n) n 46 Try.f46 [.t (.sl (.nm 0)), .fn 47 [(.nm 0)]] (C10 n)

/- clapperbridge/wire.Check -/
noncomputable def wire_Check (n : Nat) (x0 : List Spec) : Option Int := F2 (E := E) tt gl H (C11 n) n 16 Try.f16 [.t (.sl (.nm 0))] (x0, ())
noncomputable def wire_Check_l0 (n : Nat) (m0 : Nat) (v0 : List Spec) (v8 : List Spec) (v9 : Int) (v10 : Int) : Option Int := lp (E := E) (ps := [.t (.sl (.nm 0))]) tt gl H (C11 n) n 16 Try.f16 [1, 1, 0, 1, 0] [] m0 ⟨mkT 64 0 [(0, .t (.sl (.nm 0)) v0), (8, .t (.sl (.nm 0)) v8), (9, .t (.int .i64) v9), (10, .t (.int .i64) v10)], mkB 256 0 []⟩
theorem wire_Check_l0_eq (n : Nat) (m0 : Nat) (v0 : List Spec) (v8 : List Spec) (v9 : Int) (v10 : Int) : wire_Check_l0 n (m0 + 1) v0 v8 v9 v10 = (bif (decide (v10 < v9)) then (bif (decide (0 ≤ v10) && decide (v10 < List.length v8)) then (bif (decide (((List.getD v8 (Int.toNat v10) (Spec.mk 0 [] 0 false)).Tag) < 1)) then (some 11) else (bif (decide (((List.getD v8 (Int.toNat v10) (Spec.mk 0 [] 0 false)).Tag) > 1000)) then (some 11) else (Option.bind (value_Name n ((List.getD v8 (Int.toNat v10) (Spec.mk 0 [] 0 false)).Name)) fun r1 => (bif (!r1) then (some 15) else (bif (!decide (((List.getD v8 (Int.toNat v10) (Spec.mk 0 [] 0 false)).Kind) = 1)) then (bif (!decide (((List.getD v8 (Int.toNat v10) (Spec.mk 0 [] 0 false)).Kind) = 2)) then (bif (!decide (((List.getD v8 (Int.toNat v10) (Spec.mk 0 [] 0 false)).Kind) = 5)) then (some 8) else (bif (decide (0 ≤ v10) && decide (v10 ≤ (List.length v0))) then (Option.bind (slices_ContainsFunc n (List.take (Int.toNat v10) v0) ((List.getD v8 (Int.toNat v10) (Spec.mk 0 [] 0 false)), ())) fun r2 => (bif r2 then (some 5) else (bif (decide (v10 > 0)) then (bif (decide (0 ≤ (IntKind.wrap .i64 (v10 - 1))) && decide ((IntKind.wrap .i64 (v10 - 1)) < List.length v0)) then (bif (decide (((List.getD v0 (Int.toNat (IntKind.wrap .i64 (v10 - 1))) (Spec.mk 0 [] 0 false)).Tag) ≥ ((List.getD v8 (Int.toNat v10) (Spec.mk 0 [] 0 false)).Tag))) then (some 9) else (wire_Check_l0 n m0 v0 v8 v9 (IntKind.wrap .i64 (v10 + 1)))) else none) else (wire_Check_l0 n m0 v0 v8 v9 (IntKind.wrap .i64 (v10 + 1)))))) else none)) else (bif (decide (0 ≤ v10) && decide (v10 ≤ (List.length v0))) then (Option.bind (slices_ContainsFunc n (List.take (Int.toNat v10) v0) ((List.getD v8 (Int.toNat v10) (Spec.mk 0 [] 0 false)), ())) fun r3 => (bif r3 then (some 5) else (bif (decide (v10 > 0)) then (bif (decide (0 ≤ (IntKind.wrap .i64 (v10 - 1))) && decide ((IntKind.wrap .i64 (v10 - 1)) < List.length v0)) then (bif (decide (((List.getD v0 (Int.toNat (IntKind.wrap .i64 (v10 - 1))) (Spec.mk 0 [] 0 false)).Tag) ≥ ((List.getD v8 (Int.toNat v10) (Spec.mk 0 [] 0 false)).Tag))) then (some 9) else (wire_Check_l0 n m0 v0 v8 v9 (IntKind.wrap .i64 (v10 + 1)))) else none) else (wire_Check_l0 n m0 v0 v8 v9 (IntKind.wrap .i64 (v10 + 1)))))) else none)) else (bif (decide (0 ≤ v10) && decide (v10 ≤ (List.length v0))) then (Option.bind (slices_ContainsFunc n (List.take (Int.toNat v10) v0) ((List.getD v8 (Int.toNat v10) (Spec.mk 0 [] 0 false)), ())) fun r4 => (bif r4 then (some 5) else (bif (decide (v10 > 0)) then (bif (decide (0 ≤ (IntKind.wrap .i64 (v10 - 1))) && decide ((IntKind.wrap .i64 (v10 - 1)) < List.length v0)) then (bif (decide (((List.getD v0 (Int.toNat (IntKind.wrap .i64 (v10 - 1))) (Spec.mk 0 [] 0 false)).Tag) ≥ ((List.getD v8 (Int.toNat v10) (Spec.mk 0 [] 0 false)).Tag))) then (some 9) else (wire_Check_l0 n m0 v0 v8 v9 (IntKind.wrap .i64 (v10 + 1)))) else none) else (wire_Check_l0 n m0 v0 v8 v9 (IntKind.wrap .i64 (v10 + 1)))))) else none)))))) else none) else (some 0)) := by kernel_rfl
theorem wire_Check_l0_zero (n : Nat) (v0 : List Spec) (v8 : List Spec) (v9 : Int) (v10 : Int) : wire_Check_l0 n 0 v0 v8 v9 v10 = none := by kernel_rfl
theorem wire_Check_eq (n : Nat) (x0 : List Spec) : wire_Check n x0 = (bif (decide ((List.length x0 : Int) > 24)) then (some 2) else (wire_Check_l0 n n x0 x0 (List.length x0 : Int) 0)) := by kernel_rfl
noncomputable def C12 (n : Nat) : Call2 E := more tt gl H (C11 n) n 16 Try.f16 [.t (.sl (.nm 0))] (C11 n)

/- clapperbridge/wire.Agree -/
noncomputable def wire_Agree (n : Nat) (x0 : List Spec) (x1 : List Spec) : Option Int := F2 (E := E) tt gl H (C12 n) n 9 Try.f9 [.t (.sl (.nm 0)), .t (.sl (.nm 0))] (x0, x1, ())
noncomputable def wire_Agree_l0 (n : Nat) (m0 : Nat) (v1 : List Spec) (v21 : List Spec) (v22 : Int) (v23 : Int) : Option Int := lp (E := E) (ps := [.t (.sl (.nm 0)), .t (.sl (.nm 0))]) tt gl H (C12 n) n 9 Try.f9 [1, 1, 1, 0, 1, 0] [] m0 ⟨mkT 66 0 [(1, .t (.sl (.nm 0)) v1), (21, .t (.sl (.nm 0)) v21), (22, .t (.int .i64) v22), (23, .t (.int .i64) v23)], mkB 264 0 []⟩
noncomputable def wire_Agree_l2 (n : Nat) (m0 : Nat) (m1 : Nat) (v1 : List Spec) (v21 : List Spec) (v22 : Int) (v23 : Int) (v27 : List Spec) (v28 : Int) (v29 : Int) (w8 : Spec) : Option Int := lp (E := E) (ps := [.t (.sl (.nm 0)), .t (.sl (.nm 0))]) tt gl H (C12 n) n 9 Try.f9 [1, 1, 1, 0, 1, 0, 0, 1, 1, 0, 0, 1, 1, 0] [m0] m1 ⟨mkT 66 0 [(1, .t (.sl (.nm 0)) v1), (8, .ptr 8 (.nm 0) []), (21, .t (.sl (.nm 0)) v21), (22, .t (.int .i64) v22), (23, .t (.int .i64) v23), (27, .t (.sl (.nm 0)) v27), (28, .t (.int .i64) v28), (29, .t (.int .i64) v29)], mkB 264 0 [(8, .var (.nm 0) (.t (.nm 0) w8))]⟩
theorem wire_Agree_l2_eq (n : Nat) (m0 : Nat) (m1 : Nat) (v1 : List Spec) (v21 : List Spec) (v22 : Int) (v23 : Int) (v27 : List Spec) (v28 : Int) (v29 : Int) (w8 : Spec) : wire_Agree_l2 n m0 (m1 + 1) v1 v21 v22 v23 v27 v28 v29 w8 = (bif (decide (v29 < v28)) then (bif (decide (0 ≤ v29) && decide (v29 < List.length v27)) then (bif (decide (w8.Tag = ((List.getD v27 (Int.toNat v29) (Spec.mk 0 [] 0 false)).Tag))) then (bif (!decide (w8.Kind = ((List.getD v27 (Int.toNat v29) (Spec.mk 0 [] 0 false)).Kind))) then (some 8) else (bif (!(w8.Many == (List.getD v27 (Int.toNat v29) (Spec.mk 0 [] 0 false)).Many)) then (some 8) else (bif (w8.Name == ((List.getD v27 (Int.toNat v29) (Spec.mk 0 [] 0 false)).Name)) then (bif (!decide (w8.Tag = ((List.getD v27 (Int.toNat v29) (Spec.mk 0 [] 0 false)).Tag))) then (some 17) else (wire_Agree_l2 n m0 m1 v1 v21 v22 v23 v27 v28 (IntKind.wrap .i64 (v29 + 1)) w8)) else (wire_Agree_l2 n m0 m1 v1 v21 v22 v23 v27 v28 (IntKind.wrap .i64 (v29 + 1)) w8)))) else (bif (w8.Name == ((List.getD v27 (Int.toNat v29) (Spec.mk 0 [] 0 false)).Name)) then (bif (!decide (w8.Tag = ((List.getD v27 (Int.toNat v29) (Spec.mk 0 [] 0 false)).Tag))) then (some 17) else (wire_Agree_l2 n m0 m1 v1 v21 v22 v23 v27 v28 (IntKind.wrap .i64 (v29 + 1)) w8)) else (wire_Agree_l2 n m0 m1 v1 v21 v22 v23 v27 v28 (IntKind.wrap .i64 (v29 + 1)) w8))) else none) else (wire_Agree_l0 n m0 v1 v21 v22 (IntKind.wrap .i64 (v23 + 1)))) := by kernel_rfl
theorem wire_Agree_l2_zero (n : Nat) (m0 : Nat) (v1 : List Spec) (v21 : List Spec) (v22 : Int) (v23 : Int) (v27 : List Spec) (v28 : Int) (v29 : Int) (w8 : Spec) : wire_Agree_l2 n m0 0 v1 v21 v22 v23 v27 v28 v29 w8 = none := by kernel_rfl
theorem wire_Agree_l0_eq (n : Nat) (m0 : Nat) (v1 : List Spec) (v21 : List Spec) (v22 : Int) (v23 : Int) : wire_Agree_l0 n (m0 + 1) v1 v21 v22 v23 = (bif (decide (v23 < v22)) then (bif (decide (0 ≤ v23) && decide (v23 < List.length v21)) then (wire_Agree_l2 n m0 n v1 v21 v22 v23 v1 (List.length v1 : Int) 0 (List.getD v21 (Int.toNat v23) (Spec.mk 0 [] 0 false))) else none) else (some 0)) := by kernel_rfl
theorem wire_Agree_l0_zero (n : Nat) (v1 : List Spec) (v21 : List Spec) (v22 : Int) (v23 : Int) : wire_Agree_l0 n 0 v1 v21 v22 v23 = none := by kernel_rfl
theorem wire_Agree_eq (n : Nat) (x0 : List Spec) (x1 : List Spec) : wire_Agree n x0 x1 = (Option.bind (wire_Check n x0) fun r1 => (bif (!decide (r1 = 0)) then (some r1) else (Option.bind (wire_Check n x1) fun r2 => (bif (!decide (r2 = 0)) then (some r2) else (wire_Agree_l0 n n x1 x0 (List.length x0 : Int) 0))))) := by kernel_rfl
noncomputable def C13 (n : Nat) : Call2 E := more tt gl H (C12 n) n 9 Try.f9 [.t (.sl (.nm 0)), .t (.sl (.nm 0))] (C12 n)

/- clapperbridge/claplaw2.WireAgrees -/
noncomputable def law2_WireAgrees (n : Nat) (x0 : List Spec) (x1 : List Spec) : Option Bool := F2 (E := E) tt gl H (C13 n) n 3 Try.f3 [.t (.sl (.nm 0)), .t (.sl (.nm 0))] (x0, x1, ())
noncomputable def law2_WireAgrees_l0 (n : Nat) (m0 : Nat) (v0 : List Spec) (v1 : List Spec) (v5 : Int) (v16 : List Spec) (v17 : Int) (v18 : Int) : Option Bool := lp (E := E) (ps := [.t (.sl (.nm 0)), .t (.sl (.nm 0))]) tt gl H (C13 n) n 3 Try.f3 [1, 1, 1, 0, 1, 0] [] m0 ⟨mkT 75 0 [(0, .t (.sl (.nm 0)) v0), (1, .t (.sl (.nm 0)) v1), (5, .t (.int .i64) v5), (16, .t (.sl (.nm 0)) v16), (17, .t (.int .i64) v17), (18, .t (.int .i64) v18)], mkB 300 0 []⟩
noncomputable def law2_WireAgrees_l2 (n : Nat) (m0 : Nat) (m1 : Nat) (v0 : List Spec) (v1 : List Spec) (v5 : Int) (v16 : List Spec) (v17 : Int) (v18 : Int) (v22 : List Spec) (v23 : Int) (v24 : Int) (w7 : Spec) : Option Bool := lp (E := E) (ps := [.t (.sl (.nm 0)), .t (.sl (.nm 0))]) tt gl H (C13 n) n 3 Try.f3 [1, 1, 1, 0, 1, 0, 0, 1, 1, 0, 0, 1, 1, 0] [m0] m1 ⟨mkT 75 0 [(0, .t (.sl (.nm 0)) v0), (1, .t (.sl (.nm 0)) v1), (5, .t (.int .i64) v5), (7, .ptr 7 (.nm 0) []), (16, .t (.sl (.nm 0)) v16), (17, .t (.int .i64) v17), (18, .t (.int .i64) v18), (22, .t (.sl (.nm 0)) v22), (23, .t (.int .i64) v23), (24, .t (.int .i64) v24)], mkB 300 0 [(7, .var (.nm 0) (.t (.nm 0) w7))]⟩
theorem law2_WireAgrees_l2_eq (n : Nat) (m0 : Nat) (m1 : Nat) (v0 : List Spec) (v1 : List Spec) (v5 : Int) (v16 : List Spec) (v17 : Int) (v18 : Int) (v22 : List Spec) (v23 : Int) (v24 : Int) (w7 : Spec) : law2_WireAgrees_l2 n m0 (m1 + 1) v0 v1 v5 v16 v17 v18 v22 v23 v24 w7 = (bif (decide (v24 < v23)) then (bif (decide (0 ≤ v24) && decide (v24 < List.length v22)) then (bif (!decide (v5 = 0)) then (law2_WireAgrees_l2 n m0 m1 v0 v1 v5 v16 v17 v18 v22 v23 (IntKind.wrap .i64 (v24 + 1)) w7) else (bif (decide (w7.Tag = ((List.getD v22 (Int.toNat v24) (Spec.mk 0 [] 0 false)).Tag))) then (bif (decide (w7.Kind = ((List.getD v22 (Int.toNat v24) (Spec.mk 0 [] 0 false)).Kind))) then (bif (!(w7.Many == (List.getD v22 (Int.toNat v24) (Spec.mk 0 [] 0 false)).Many)) then (law2_WireAgrees_l2 n m0 m1 v0 v1 8 v16 v17 v18 v22 v23 (IntKind.wrap .i64 (v24 + 1)) w7) else (bif (!decide (w7.Tag = ((List.getD v22 (Int.toNat v24) (Spec.mk 0 [] 0 false)).Tag))) then (bif (w7.Name == ((List.getD v22 (Int.toNat v24) (Spec.mk 0 [] 0 false)).Name)) then (law2_WireAgrees_l2 n m0 m1 v0 v1 17 v16 v17 v18 v22 v23 (IntKind.wrap .i64 (v24 + 1)) w7) else (law2_WireAgrees_l2 n m0 m1 v0 v1 v5 v16 v17 v18 v22 v23 (IntKind.wrap .i64 (v24 + 1)) w7)) else (law2_WireAgrees_l2 n m0 m1 v0 v1 v5 v16 v17 v18 v22 v23 (IntKind.wrap .i64 (v24 + 1)) w7))) else (law2_WireAgrees_l2 n m0 m1 v0 v1 8 v16 v17 v18 v22 v23 (IntKind.wrap .i64 (v24 + 1)) w7)) else (bif (!decide (w7.Tag = ((List.getD v22 (Int.toNat v24) (Spec.mk 0 [] 0 false)).Tag))) then (bif (w7.Name == ((List.getD v22 (Int.toNat v24) (Spec.mk 0 [] 0 false)).Name)) then (law2_WireAgrees_l2 n m0 m1 v0 v1 17 v16 v17 v18 v22 v23 (IntKind.wrap .i64 (v24 + 1)) w7) else (law2_WireAgrees_l2 n m0 m1 v0 v1 v5 v16 v17 v18 v22 v23 (IntKind.wrap .i64 (v24 + 1)) w7)) else (law2_WireAgrees_l2 n m0 m1 v0 v1 v5 v16 v17 v18 v22 v23 (IntKind.wrap .i64 (v24 + 1)) w7)))) else none) else (law2_WireAgrees_l0 n m0 v0 v1 v5 v16 v17 (IntKind.wrap .i64 (v18 + 1)))) := by kernel_rfl
theorem law2_WireAgrees_l2_zero (n : Nat) (m0 : Nat) (v0 : List Spec) (v1 : List Spec) (v5 : Int) (v16 : List Spec) (v17 : Int) (v18 : Int) (v22 : List Spec) (v23 : Int) (v24 : Int) (w7 : Spec) : law2_WireAgrees_l2 n m0 0 v0 v1 v5 v16 v17 v18 v22 v23 v24 w7 = none := by kernel_rfl
theorem law2_WireAgrees_l0_eq (n : Nat) (m0 : Nat) (v0 : List Spec) (v1 : List Spec) (v5 : Int) (v16 : List Spec) (v17 : Int) (v18 : Int) : law2_WireAgrees_l0 n (m0 + 1) v0 v1 v5 v16 v17 v18 = (bif (decide (v18 < v17)) then (bif (decide (0 ≤ v18) && decide (v18 < List.length v16)) then (law2_WireAgrees_l2 n m0 n v0 v1 v5 v16 v17 v18 v1 (List.length v1 : Int) 0 (List.getD v16 (Int.toNat v18) (Spec.mk 0 [] 0 false))) else none) else (Option.bind (law2_wires n) fun r3 => (bif r3 then (Option.bind (wire_Agree n v0 v1) fun r4 => (some (decide (r4 = v5)))) else (some false)))) := by kernel_rfl
theorem law2_WireAgrees_l0_zero (n : Nat) (v0 : List Spec) (v1 : List Spec) (v5 : Int) (v16 : List Spec) (v17 : Int) (v18 : Int) : law2_WireAgrees_l0 n 0 v0 v1 v5 v16 v17 v18 = none := by kernel_rfl
theorem law2_WireAgrees_eq (n : Nat) (x0 : List Spec) (x1 : List Spec) : law2_WireAgrees n x0 x1 = (Option.bind (ref2_SpecsErr n x0) fun r1 => (bif (decide (r1 = 0)) then (Option.bind (ref2_SpecsErr n x1) fun r2 => (law2_WireAgrees_l0 n n x0 x1 r2 x0 (List.length x0 : Int) 0)) else (law2_WireAgrees_l0 n n x0 x1 r1 x0 (List.length x0 : Int) 0))) := by kernel_rfl
noncomputable def C14 (n : Nat) : Call2 E := more tt gl H (C13 n) n 3 Try.f3 [.t (.sl (.nm 0)), .t (.sl (.nm 0))] (C13 n)

theorem ok0 (n : Nat) : CallOK Try.prog gl (callR (C0 n)) := none_ok
theorem ok1 (n : Nat) : CallOK Try.prog gl (callR (C1 n)) := more_ok envOK hz tok hmix (ok0 n) (ok0 n) Try.func36 (by decide)
theorem ok2 (n : Nat) : CallOK Try.prog gl (callR (C2 n)) := more_ok envOK hz tok hmix (ok1 n) (ok1 n) Try.func62 (by decide)
theorem ok3 (n : Nat) : CallOK Try.prog gl (callR (C3 n)) := more_ok envOK hz tok hmix (ok2 n) (ok2 n) Try.func37 (by decide)
theorem ok4 (n : Nat) : CallOK Try.prog gl (callR (C4 n)) := more_ok envOK hz tok hmix (ok3 n) (ok3 n) Try.func7 (by decide)
theorem ok5 (n : Nat) : CallOK Try.prog gl (callR (C5 n)) := more_ok envOK hz tok hmix (ok4 n) (ok4 n) Try.func38 (by decide)
theorem ok6 (n : Nat) : CallOK Try.prog gl (callR (C6 n)) := more_ok envOK hz tok hmix (ok5 n) (ok5 n) Try.func10 (by decide)
theorem ok7 (n : Nat) : CallOK Try.prog gl (callR (C7 n)) := more_ok envOK hz tok hmix (ok6 n) (ok6 n) Try.func14 (by decide)
theorem ok8 (n : Nat) : CallOK Try.prog gl (callR (C8 n)) := more_ok envOK hz tok hmix (ok7 n) (ok7 n) Try.func8 (by decide)
theorem ok9 (n : Nat) : CallOK Try.prog gl (callR (C9 n)) := more_ok envOK hz tok hmix (ok8 n) (ok8 n) Try.func47 (by decide)
theorem ok10 (n : Nat) : CallOK Try.prog gl (callR (C10 n)) := more_ok envOK hz tok hmix (ok9 n) (ok9 n) Try.func64 (by decide)
theorem ok11 (n : Nat) : CallOK Try.prog gl (callR (C11 n)) := more_ok envOK hz tok hmix (ok10 n) (ok10 n) Try.func46 (by decide)
theorem ok12 (n : Nat) : CallOK Try.prog gl (callR (C12 n)) := more_ok envOK hz tok hmix (ok11 n) (ok11 n) Try.func16 (by decide)
theorem ok13 (n : Nat) : CallOK Try.prog gl (callR (C13 n)) := more_ok envOK hz tok hmix (ok12 n) (ok12 n) Try.func9 (by decide)
theorem ok14 (n : Nat) : CallOK Try.prog gl (callR (C14 n)) := more_ok envOK hz tok hmix (ok13 n) (ok13 n) Try.func3 (by decide)
theorem law_call (n : Nat) (x0 : List Spec) (x1 : List Spec) : callR (C14 n) 3 [.t (.sl (.nm 0)) x0, .t (.sl (.nm 0)) x1] [.none, .none] = (law2_WireAgrees n x0 x1).map fun r => (.t .bool r, [.none, .none]) := by kernel_rfl
end Go.Proofs.Ytmkocofcohmnpaa.PWireAgrees
