/- The functions that the law LoadScalars reaches, as the evaluator reckons them. No condition. -/
import Derived.Test.YtbmpjppfdeohnaaDoorFvI
import Derived.Ground.NamesProg
import Derived.Shelf.Strconv.AtoiAll
import Derived.Shelf.Strconv.Itoa4
import Derived.Shelf.Strconv.ParseIntPublic10
import Derived.Shelf.Strings.Prefix
import Derived.Test.YtbmpjppfdeohnaaDoorChecked
set_option linter.unusedVariables false
set_option maxRecDepth 100000
namespace Go.Proofs.YtbmpjppfdeohnaaDoor.PLoadScalars
open Go Go.Proofs Go.Proofs.YtbmpjppfdeohnaaDoor.Fv
instance loud : Quiet := ⟨False⟩

mutual
structure ApiValue where
  Kind : Int
  N : Int
  S : List UInt8
  Fields : List ApiField
structure ApiField where
  Name : List UInt8
  Val : ApiValue
end

def R : Nat → Type
  | 0 => ApiValue
  | 1 => ApiField
  | _ => Bool
def body : Nat → Ty
  | 0 => (.pair (.int .i64) (.pair (.int .i64) (.pair .str (.one (.sl (.nm 1))))))
  | 1 => (.pair .str (.one (.nm 0)))
  | _ => .one .bool
def un : (n : Nat) → R n → den R (body n)
  | 0, (x : ApiValue) => (x.Kind, x.N, x.S, x.Fields)
  | 1, (x : ApiField) => (x.Name, x.Val)
  | _ + 2, x => x
def ro : (n : Nat) → den R (body n) → R n
  | 0, x => ApiValue.mk x.1 x.2.1 x.2.2.1 x.2.2.2
  | 1, x => ApiField.mk x.1 x.2
  | _ + 2, x => x
def dfl0 : (n : Nat) → R n
  | 0 => (ApiValue.mk 0 0 [] [])
  | 1 => (ApiField.mk [] (ApiValue.mk 0 0 [] []))
  | _ + 2 => false
def sz0 : Nat → Nat
  | 0 => 4
  | 1 => 5
  | _ => 1
def zc0 : Nat → List Value
  | 0 => [.int .i64 0, .int .i64 0, .string ByteArray.empty, .slice none 0 0]
  | 1 => [.string ByteArray.empty, .int .i64 0, .int .i64 0, .string ByteArray.empty, .slice none 0 0]
  | _ => [.bool false]
def E : Env := { R := R, body := body, un := un, ro := ro, dfl := dfl0, sz := sz0, zc := zc0 }
theorem hun : ∀ n x, un n (ro n x) = x
  | 0, _ => rfl
  | 1, _ => rfl
  | _ + 2, _ => rfl
theorem hdf : ∀ n, un n (dfl0 n) = dfl E (body n)
  | 0 => rfl
  | 1 => rfl
  | _ + 2 => rfl
theorem hsz : ∀ n, sz0 n = size E (body n)
  | 0 => rfl
  | 1 => rfl
  | _ + 2 => rfl
theorem hzc : ∀ n, zc0 n = zcells E (body n)
  | 0 => rfl
  | 1 => rfl
  | _ + 2 => rfl
theorem hag : ∀ n, (∃ a, body n = .one a) ∨ ∃ a b, body n = .pair a b
  | 0 => .inr ⟨_, _, rfl⟩
  | 1 => .inr ⟨_, _, rfl⟩
  | _ + 2 => .inl ⟨_, rfl⟩
theorem envOK : EnvOK E := ⟨hun, hdf, hsz, hzc, hag⟩
theorem hz0 (M : Mem) : RC (E := E) M (.nm 0) (dfl0 0) (zc0 0) := RC.nm (E := E) (RC.pair (RC.int .i64 0) (RC.pair (RC.int .i64 0) (RC.pair (RC.str ByteArray.empty) (RC.one (RC.sl (e := (.nm 1)) [] none 0 (fun _ => []) (Nat.le_refl _) (fun i hi => by simp at hi) (fun i hi => by simp at hi) (fun _ => rfl))))))
theorem hz1 (M : Mem) : RC (E := E) M (.nm 1) (dfl0 1) (zc0 1) := RC.nm (E := E) (RC.pair (RC.str ByteArray.empty) (RC.one (hz0 M)))
theorem hz : ∀ (M : Mem) n, RC (E := E) M (.nm n) (E.dfl n) (E.zc n)
  | M, 0 => hz0 M
  | M, 1 => hz1 M
  | M, _ + 2 => RC.nm (E := E) (RC.one (RC.bool false))
def tl : List (Nat × TE) := [(3, ⟨(.int .i64), .int .i64⟩),
  (4, ⟨.bool, .bool⟩),
  (5, ⟨(.int .u8), .int .u8⟩),
  (9, ⟨.str, .str⟩),
  (22, ⟨(.sl .str), .slice 9⟩),
  (25, ⟨(.int .i64), .int .i64⟩),
  (44, ⟨(.sl (.nm 1)), .slice 73⟩),
  (46, ⟨(.nm 0), .struct [(3, 0), (3, 1), (9, 2), (44, 3)]⟩),
  (56, ⟨(.sl (.int .u8)), .slice 5⟩),
  (66, ⟨.any, .func⟩),
  (73, ⟨(.nm 1), .struct [(9, 0), (46, 1)]⟩),
  (98, ⟨(.sl (.int .i64)), .slice 3⟩),
  (136, ⟨.any, .iface⟩),
  (145, ⟨.any, .func⟩),
  (189, ⟨.any, .func⟩)]
def tt : Nat → Option TE := look2 tl
theorem tf3 : TFact Tryd.prog E tt 3 ⟨(.int .i64), .int .i64⟩ := TFact.of (z := .int .i64 0) (bs := 8) Tryd.underlying3 ⟨rfl, rfl, rfl⟩ (by kernel_rfl) (by kernel_rfl) (fun h => nomatch h) (by kernel_rfl) (trivial) (fun _ cs h => nomatch h) (trivial)
theorem tf4 : TFact Tryd.prog E tt 4 ⟨.bool, .bool⟩ := TFact.of (z := .bool false) (bs := 1) Tryd.underlying4 ⟨rfl, rfl, rfl⟩ (by kernel_rfl) (by kernel_rfl) (fun h => nomatch h) (by kernel_rfl) (trivial) (fun _ cs h => nomatch h) (trivial)
theorem tf5 : TFact Tryd.prog E tt 5 ⟨(.int .u8), .int .u8⟩ := TFact.of (z := .int .u8 0) (bs := 1) Tryd.underlying5 ⟨rfl, rfl, rfl⟩ (by kernel_rfl) (by kernel_rfl) (fun h => nomatch h) (by kernel_rfl) (trivial) (fun _ cs h => nomatch h) (trivial)
theorem tf9 : TFact Tryd.prog E tt 9 ⟨.str, .str⟩ := TFact.of (z := .string ByteArray.empty) (bs := 16) Tryd.underlying9 ⟨rfl, rfl, rfl⟩ (by kernel_rfl) (by kernel_rfl) (fun h => nomatch h) (by kernel_rfl) (trivial) (fun _ cs h => nomatch h) (trivial)
theorem tf22 : TFact Tryd.prog E tt 22 ⟨(.sl .str), .slice 9⟩ := TFact.of (z := .slice none 0 0) (bs := 24) Tryd.underlying22 ⟨rfl, rfl, .inr ⟨by kernel_rfl, by kernel_rfl, by kernel_rfl, of_decide_eq_true (by kernel_rfl), of_decide_eq_true (by kernel_rfl), of_decide_eq_true (by kernel_rfl)⟩⟩ (by kernel_rfl) (by kernel_rfl) (fun h => nomatch h) (by kernel_rfl) (trivial) (fun _ cs h => nomatch h) (trivial)
theorem tf25 : TFact Tryd.prog E tt 25 ⟨(.int .i64), .int .i64⟩ := TFact.of (z := .int .i64 0) (bs := 8) Tryd.underlying25 ⟨rfl, rfl, rfl⟩ (by kernel_rfl) (by kernel_rfl) (fun h => nomatch h) (by kernel_rfl) (trivial) (fun _ cs h => nomatch h) (trivial)
theorem tf44 : TFact Tryd.prog E tt 44 ⟨(.sl (.nm 1)), .slice 73⟩ := TFact.of (z := .slice none 0 0) (bs := 24) Tryd.underlying44 ⟨rfl, rfl, .inr ⟨by kernel_rfl, by kernel_rfl, by kernel_rfl, of_decide_eq_true (by kernel_rfl), of_decide_eq_true (by kernel_rfl), of_decide_eq_true (by kernel_rfl)⟩⟩ (by kernel_rfl) (by kernel_rfl) (fun h => nomatch h) (by kernel_rfl) (trivial) (fun _ cs h => nomatch h) (trivial)
theorem tf46 : TFact Tryd.prog E tt 46 ⟨(.nm 0), .struct [(3, 0), (3, 1), (9, 2), (44, 3)]⟩ := TFact.of (z := .agg #[.int .i64 0, .int .i64 0, .string ByteArray.empty, .slice none 0 0]) (bs := 56) Tryd.underlying46 ⟨by kernel_rfl, ⟨_, rfl, rfl⟩, by kernel_rfl, by kernel_rfl⟩ (by kernel_rfl) (by kernel_rfl) (fun _ => rfl) (by kernel_rfl) (show (Value.cells (.agg #[.int .i64 0, .int .i64 0, .string ByteArray.empty, .slice none 0 0])).toList = (List.map (fun f => zA (E := E) (zeroA tt 20 f.1)) [(3, 0), (3, 1), (9, 2), (44, 3)]).flatten from by kernel_rfl) (fun h => nomatch h) (fun h => absurd (h.symm.trans (show eqC tt (bodyOf E (.nm 0)) 0 [(3, 0), (3, 1), (9, 2), (44, 3)] = false from by kernel_rfl)) (by decide))
theorem tf56 : TFact Tryd.prog E tt 56 ⟨(.sl (.int .u8)), .slice 5⟩ := TFact.of (z := .slice none 0 0) (bs := 24) Tryd.underlying56 ⟨rfl, rfl, .inr ⟨by kernel_rfl, by kernel_rfl, by kernel_rfl, of_decide_eq_true (by kernel_rfl), of_decide_eq_true (by kernel_rfl), of_decide_eq_true (by kernel_rfl)⟩⟩ (by kernel_rfl) (by kernel_rfl) (fun h => nomatch h) (by kernel_rfl) (trivial) (fun _ cs h => nomatch h) (trivial)
theorem tf66 : TFact Tryd.prog E tt 66 ⟨.any, .func⟩ := TFact.of (z := .nilFunc) (bs := 8) Tryd.underlying66 ⟨rfl, _, _, _, rfl⟩ (by kernel_rfl) (by kernel_rfl) (fun h => nomatch h) (by kernel_rfl) (trivial) (fun _ cs h => nomatch h) (trivial)
theorem tf73 : TFact Tryd.prog E tt 73 ⟨(.nm 1), .struct [(9, 0), (46, 1)]⟩ := TFact.of (z := .agg #[.string ByteArray.empty, .int .i64 0, .int .i64 0, .string ByteArray.empty, .slice none 0 0]) (bs := 72) Tryd.underlying73 ⟨by kernel_rfl, ⟨_, rfl, rfl⟩, by kernel_rfl, by kernel_rfl⟩ (by kernel_rfl) (by kernel_rfl) (fun _ => rfl) (by kernel_rfl) (show (Value.cells (.agg #[.string ByteArray.empty, .int .i64 0, .int .i64 0, .string ByteArray.empty, .slice none 0 0])).toList = (List.map (fun f => zA (E := E) (zeroA tt 20 f.1)) [(9, 0), (46, 1)]).flatten from by kernel_rfl) (fun h => nomatch h) (fun h => absurd (h.symm.trans (show eqC tt (bodyOf E (.nm 1)) 0 [(9, 0), (46, 1)] = false from by kernel_rfl)) (by decide))
theorem tf98 : TFact Tryd.prog E tt 98 ⟨(.sl (.int .i64)), .slice 3⟩ := TFact.of (z := .slice none 0 0) (bs := 24) Tryd.underlying98 ⟨rfl, rfl, .inr ⟨by kernel_rfl, by kernel_rfl, by kernel_rfl, of_decide_eq_true (by kernel_rfl), of_decide_eq_true (by kernel_rfl), of_decide_eq_true (by kernel_rfl)⟩⟩ (by kernel_rfl) (by kernel_rfl) (fun h => nomatch h) (by kernel_rfl) (trivial) (fun _ cs h => nomatch h) (trivial)
theorem tf136 : TFact Tryd.prog E tt 136 ⟨.any, .iface⟩ := TFact.of (z := .nilIface) (bs := 16) Tryd.underlying136 ⟨rfl, _, rfl⟩ (by kernel_rfl) (by kernel_rfl) (fun h => nomatch h) (by kernel_rfl) (trivial) (fun _ cs h => nomatch h) (trivial)
theorem tf145 : TFact Tryd.prog E tt 145 ⟨.any, .func⟩ := TFact.of (z := .nilFunc) (bs := 8) Tryd.underlying145 ⟨rfl, _, _, _, rfl⟩ (by kernel_rfl) (by kernel_rfl) (fun h => nomatch h) (by kernel_rfl) (trivial) (fun _ cs h => nomatch h) (trivial)
theorem tf189 : TFact Tryd.prog E tt 189 ⟨.any, .func⟩ := TFact.of (z := .nilFunc) (bs := 8) Tryd.underlying189 ⟨rfl, _, _, _, rfl⟩ (by kernel_rfl) (by kernel_rfl) (fun h => nomatch h) (by kernel_rfl) (trivial) (fun _ cs h => nomatch h) (trivial)
theorem tok : TOK Tryd.prog E tt := TOK.of (mem_cons2 tf3 (mem_cons2 tf4 (mem_cons2 tf5 (mem_cons2 tf9 (mem_cons2 tf22 (mem_cons2 tf25 (mem_cons2 tf44 (mem_cons2 tf46 (mem_cons2 tf56 (mem_cons2 tf66 (mem_cons2 tf73 (mem_cons2 tf98 (mem_cons2 tf136 (mem_cons2 tf145 (mem_cons2 tf189 mem_nil2)))))))))))))))
def ttr : Nat → Option TE := tt
theorem tokr : TOK Tryd.prog E ttr := tok
theorem rdok : RdOK Tryd.prog E ttr := RdOK.of (l := tl) (by kernel_rfl)
theorem law_sub : ∀ t ∈ ([3, 9, 46, 4] : List Nat), ttr t = tt t := by
  intro t ht
  simp only [List.mem_cons, List.not_mem_nil, or_false] at ht
  rcases ht with rfl | rfl | rfl | rfl
  · kernel_rfl
  · kernel_rfl
  · kernel_rfl
  · kernel_rfl
theorem hmix : Tryd.prog.follows .mixedOrders = true := by kernel_rfl
def hKeep (f b : Nat) : List (Nat × Nat) := bif Nat.beq f 64 then (bif Nat.beq b 0 then [(23, 0), (24, 0), (25, 0)] else []) else bif Nat.beq f 71 then (bif Nat.beq b 0 then [(0, 0), (1, 0), (7, 0), (8, 0)] else []) else bif Nat.beq f 80 then (bif Nat.beq b 0 then [(3, 0), (7, 0), (8, 0), (9, 0)] else []) else bif Nat.beq f 81 then (bif Nat.beq b 0 then [(3, 0), (7, 0), (8, 0), (9, 0)] else []) else bif Nat.beq f 82 then (bif Nat.beq b 1 then [(46, 0), (47, 0), (48, 0)] else []) else bif Nat.beq f 98 then (bif Nat.beq b 0 then [(1, 0), (2, 0), (10, 0), (11, 0)] else []) else bif Nat.beq f 100 then (bif Nat.beq b 0 then [(0, 0), (1, 0), (7, 0), (8, 0)] else []) else bif Nat.beq f 143 then (bif Nat.beq b 0 then [(3, 0), (6, 0), (7, 0), (8, 0)] else []) else bif Nat.beq f 146 then (bif Nat.beq b 0 then [(0, 0), (1, 0), (2, 0), (11, 0), (12, 0), (13, 0)] else []) else bif Nat.beq f 157 then (bif Nat.beq b 0 then [(0, 0), (5, 0), (6, 0), (7, 0)] else []) else bif Nat.beq f 158 then (bif Nat.beq b 0 then [(1, 0), (6, 0), (7, 0), (8, 0)] else []) else []
def hKeepB (f b : Nat) : List Nat := bif Nat.beq f 98 then (bif Nat.beq b 0 then [1, 2, 6] else []) else bif Nat.beq f 158 then (bif Nat.beq b 0 then [1] else []) else []
def hRsh (f : Nat) : RSh := bif Nat.beq f 7 then (.t .bool) else bif Nat.beq f 20 then (.t (.int .i64)) else bif Nat.beq f 35 then (.tup [(.t (.nm 0)), (.t (.int .i64))]) else bif Nat.beq f 36 then (.tup [(.t (.nm 0)), (.t (.int .i64))]) else bif Nat.beq f 37 then (.tup [(.t (.nm 0)), (.t .bool)]) else bif Nat.beq f 38 then (.t (.nm 0)) else bif Nat.beq f 39 then (.t .bool) else bif Nat.beq f 40 then (.t .bool) else bif Nat.beq f 64 then (.t .bool) else bif Nat.beq f 68 then (.t .str) else bif Nat.beq f 71 then (.t (.int .i64)) else bif Nat.beq f 80 then (.t (.int .i64)) else bif Nat.beq f 81 then (.t (.int .i64)) else bif Nat.beq f 82 then (.t (.int .i64)) else bif Nat.beq f 94 then (.tup [(.t (.int .i64)), .asis]) else bif Nat.beq f 95 then (.t .str) else bif Nat.beq f 96 then (.tup [(.t (.int .i64)), .asis]) else bif Nat.beq f 98 then (.t (.nm 0)) else bif Nat.beq f 99 then (.t (.int .i64)) else bif Nat.beq f 100 then (.t (.int .i64)) else bif Nat.beq f 126 then (.t .bool) else bif Nat.beq f 127 then (.t .bool) else bif Nat.beq f 128 then (.t (.int .i64)) else bif Nat.beq f 141 then (.ownrow (.nm 1)) else bif Nat.beq f 142 then (.t (.int .i64)) else bif Nat.beq f 143 then (.t (.int .i64)) else bif Nat.beq f 144 then (.t (.int .i64)) else bif Nat.beq f 145 then (.t (.int .i64)) else bif Nat.beq f 146 then (.t (.int .i64)) else bif Nat.beq f 147 then (.t (.int .i64)) else bif Nat.beq f 156 then (.t .bool) else bif Nat.beq f 157 then (.t (.int .i64)) else bif Nat.beq f 158 then (.t (.int .i64)) else bif Nat.beq f 170 then (.t .bool) else bif Nat.beq f 189 then (.t .bool) else bif Nat.beq f 190 then (.t .bool) else .asis
def hCons (f : Nat) : List Nat := []
def hRow (f : Nat) : List Nat := bif Nat.beq f 141 then [2, 5] else []
def hSet (f d : Nat) : List (Nat × Nat) := []
def hPre (f d : Nat) : Nat := bif Nat.beq f 98 then (bif Nat.beq d 1002 then 2 else 0) else 0
def hPreT (f d : Nat) : List (Nat × Nat) := []
def H : Hints := { keep := hKeep, keepB := hKeepB, rsh := hRsh, cons := hCons, asagg := hSet, asrow := hRow, mutcap := [], pre := hPre, preT := hPreT }
def gl : Nat → AV E := fun g => bif Nat.beq g 0 then .err false else bif Nat.beq g 1 then .err false else bif Nat.beq g 3 then .imm (.arr 20 (.int .u64)) Go.Lib.pow10Tab else .undef

theorem gl_ok {W : World} (h_errsyn : ∃ u v, W.var? Tryd.prog "strconv.ErrSyntax" = some #[.iface u v]) (h_errrng : ∃ u v, W.var? Tryd.prog "strconv.ErrRange" = some #[.iface u v]) (h_pow10 : Go.Lib.TabIs Tryd.prog W "internal/strconv.uint64pow10" .u64 Go.Lib.pow10Tab) : GlOK (memOf W) gl := by
  intro g
  cases e_errsyn : Nat.beq g 0 with
  | true =>
    have e := Nat.eq_of_beq_eq_true e_errsyn
    subst e
    exact .inr (.inr ⟨rfl, errAt_gl (show Tryd.prog.globalNamed "strconv.ErrSyntax" = some 0 by kernel_rfl) h_errsyn⟩)
  | false =>
  cases e_errrng : Nat.beq g 1 with
  | true =>
    have e := Nat.eq_of_beq_eq_true e_errrng
    subst e
    exact .inr (.inr ⟨rfl, errAt_gl (show Tryd.prog.globalNamed "strconv.ErrRange" = some 1 by kernel_rfl) h_errrng⟩)
  | false =>
  cases e_pow10 : Nat.beq g 3 with
  | true =>
    have e := Nat.eq_of_beq_eq_true e_pow10
    subst e
    obtain ⟨cells, h1, h2, h3⟩ := tabIs_gl (E := E) (show Tryd.prog.globalNamed "internal/strconv.uint64pow10" = some 3 by kernel_rfl) h_pow10
    exact .inr (.inl ⟨_, _, cells, rfl, h1, h2, h3⟩)
  | false =>
  exact .inl (by simp [gl, e_errsyn, e_errrng, e_pow10])
def C0 (_ : Nat) : Call2 E := fun _ _ _ => none

/- slices.Index[[]string,string] -/
noncomputable def slices_Index_string (n : Nat) (x0 : List (List UInt8)) (x1 : List UInt8) : Option Int := F2 (E := E) tt gl H (C0 n) n 71 Tryd.f71 [.t (.sl .str), .t .str] (x0, x1, ())
noncomputable def slices_Index_string_l0 (n : Nat) (m0 : Nat) (v0 : List (List UInt8)) (v1 : List UInt8) (v7 : Int) (v8 : Int) : Option Int := lp (E := E) (ps := [.t (.sl .str), .t .str]) tt gl H (C0 n) n 71 Tryd.f71 [1, 0, 1, 0] [] m0 ⟨mkT 19 0 [(0, .t (.sl .str) v0), (1, .t .str v1), (7, .t (.int .i64) v7), (8, .t (.int .i64) v8)], mkB 76 0 []⟩
theorem slices_Index_string_l0_eq (n : Nat) (m0 : Nat) (v0 : List (List UInt8)) (v1 : List UInt8) (v7 : Int) (v8 : Int) : slices_Index_string_l0 n (m0 + 1) v0 v1 v7 v8 = (bif (decide (v8 < v7)) then (bif (decide (0 ≤ v8) && decide (v8 < List.length v0)) then (bif (v1 == (List.getD v0 (Int.toNat v8) [])) then (some v8) else (slices_Index_string_l0 n m0 v0 v1 v7 (IntKind.wrap .i64 (v8 + 1)))) else none) else (some (-1))) := by kernel_rfl
theorem slices_Index_string_l0_zero (n : Nat) (v0 : List (List UInt8)) (v1 : List UInt8) (v7 : Int) (v8 : Int) : slices_Index_string_l0 n 0 v0 v1 v7 v8 = none := by kernel_rfl
theorem slices_Index_string_l0_fold (n : Nat) (v0 : List (List UInt8)) (v1 : List UInt8) (hl : List.length v0 < 9223372036854775807) (m i : Nat) (hi : i ≤ List.length v0) (hm : List.length v0 - i < m) : slices_Index_string_l0 n m v0 v1 (List.length v0 : Int) (i : Int) = foldK (S := Unit) (fun i (a : (List UInt8)) s K => (bif (v1 == a) then (some (i : Int)) else (K ()))) (fun s => (some (-1))) (List.drop i v0) i () := range_loop v0 [] hl (fun m (k : Int) (s : Unit) => slices_Index_string_l0 n m v0 v1 (List.length v0 : Int) k) _ _ (fun m i s => (slices_Index_string_l0_eq n m v0 v1 (List.length v0 : Int) (i : Int)).trans (by kernel_rfl)) m i hi hm ()
theorem slices_Index_string_eq (n : Nat) (x0 : List (List UInt8)) (x1 : List UInt8) : slices_Index_string n x0 x1 = (slices_Index_string_l0 n n x0 x1 (List.length x0 : Int) 0) := by kernel_rfl
noncomputable def C1 (n : Nat) : Call2 E := more tt gl H (C0 n) n 71 Tryd.f71 [.t (.sl .str), .t .str] (C0 n)
noncomputable def Cr1 : Nat → Nat → Call2 E
  | 0, n => C1 n
  | d + 1, n => (more tt gl H (Cr1 d n) n 80 Tryd.f80 [.t (.nm 0)] (C1 n))
noncomputable def C2 (n : Nat) : Call2 E := Cr1 (n + 1) n

/- clapperbridge/value.Size -/
noncomputable def value_Size (d : Nat) (n : Nat) (x0 : ApiValue) : Option Int := F2 (E := E) tt gl H (Cr1 d n) n 80 Tryd.f80 [.t (.nm 0)] (x0, ())
noncomputable def value_Size_l0 (d : Nat) (n : Nat) (m0 : Nat) (v3 : Int) (v7 : List ApiField) (v8 : Int) (v9 : Int) : Option Int := lp (E := E) (ps := [.t (.nm 0)]) tt gl H (Cr1 d n) n 80 Tryd.f80 [1, 1, 0, 1, 0] [] m0 ⟨mkT 20 0 [(3, .t (.int .i64) v3), (7, .t (.sl (.nm 1)) v7), (8, .t (.int .i64) v8), (9, .t (.int .i64) v9)], mkB 80 0 []⟩
theorem value_Size_l0_eq (d : Nat) (n : Nat) (m0 : Nat) (v3 : Int) (v7 : List ApiField) (v8 : Int) (v9 : Int) : value_Size_l0 (d + 1) n (m0 + 1) v3 v7 v8 v9 = (bif (decide (v9 < v8)) then (bif (decide (0 ≤ v9) && decide (v9 < List.length v7)) then (Option.bind (value_Size d n ((List.getD v7 (Int.toNat v9) (ApiField.mk [] (ApiValue.mk 0 0 [] []))).Val)) fun r1 => (value_Size_l0 (d + 1) n m0 (IntKind.wrap .i64 (v3 + r1)) v7 v8 (IntKind.wrap .i64 (v9 + 1)))) else none) else (some v3)) := by kernel_rfl
theorem value_Size_l0_zero (d : Nat) (n : Nat) (v3 : Int) (v7 : List ApiField) (v8 : Int) (v9 : Int) : value_Size_l0 d n 0 v3 v7 v8 v9 = none := by kernel_rfl
theorem value_Size_l0_fold (d : Nat) (n : Nat) (v7 : List ApiField) (v3 : Int) (hl : List.length v7 < 9223372036854775807) (m i : Nat) (hi : i ≤ List.length v7) (hm : List.length v7 - i < m) : value_Size_l0 (d + 1) n m v3 v7 (List.length v7 : Int) (i : Int) = foldK (S := Int) (fun i (a : ApiField) s K => (Option.bind (value_Size d n (a.Val)) fun r1 => (K (IntKind.wrap .i64 (s + r1))))) (fun s => (some s)) (List.drop i v7) i (v3) := range_loop v7 (ApiField.mk [] (ApiValue.mk 0 0 [] [])) hl (fun m (k : Int) (s : Int) => value_Size_l0 (d + 1) n m s v7 (List.length v7 : Int) k) _ _ (fun m i s => (value_Size_l0_eq d n m s v7 (List.length v7 : Int) (i : Int)).trans (by kernel_rfl)) m i hi hm (v3)
theorem value_Size_eq (d : Nat) (n : Nat) (x0 : ApiValue) : value_Size (d + 1) n x0 = (value_Size_l0 (d + 1) n n 1 x0.Fields (List.length x0.Fields : Int) 0) := by kernel_rfl
noncomputable def Cr2 : Nat → Nat → Call2 E
  | 0, n => C2 n
  | d + 1, n => (more tt gl H (Cr2 d n) n 81 Tryd.f81 [.t (.nm 0)] (C2 n))
noncomputable def C3 (n : Nat) : Call2 E := Cr2 (n + 1) n

/- clapperbridge/value.Deep -/
noncomputable def value_Deep (d : Nat) (n : Nat) (x0 : ApiValue) : Option Int := F2 (E := E) tt gl H (Cr2 d n) n 81 Tryd.f81 [.t (.nm 0)] (x0, ())
noncomputable def value_Deep_l0 (d : Nat) (n : Nat) (m0 : Nat) (v3 : Int) (v7 : List ApiField) (v8 : Int) (v9 : Int) : Option Int := lp (E := E) (ps := [.t (.nm 0)]) tt gl H (Cr2 d n) n 81 Tryd.f81 [1, 1, 0, 1, 0] [] m0 ⟨mkT 21 0 [(3, .t (.int .i64) v3), (7, .t (.sl (.nm 1)) v7), (8, .t (.int .i64) v8), (9, .t (.int .i64) v9)], mkB 84 0 []⟩
theorem value_Deep_l0_eq (d : Nat) (n : Nat) (m0 : Nat) (v3 : Int) (v7 : List ApiField) (v8 : Int) (v9 : Int) : value_Deep_l0 (d + 1) n (m0 + 1) v3 v7 v8 v9 = (bif (decide (v9 < v8)) then (bif (decide (0 ≤ v9) && decide (v9 < List.length v7)) then (Option.bind (value_Deep d n ((List.getD v7 (Int.toNat v9) (ApiField.mk [] (ApiValue.mk 0 0 [] []))).Val)) fun r1 => (value_Deep_l0 (d + 1) n m0 (mxI v3 r1) v7 v8 (IntKind.wrap .i64 (v9 + 1)))) else none) else (some (IntKind.wrap .i64 (v3 + 1)))) := by kernel_rfl
theorem value_Deep_l0_zero (d : Nat) (n : Nat) (v3 : Int) (v7 : List ApiField) (v8 : Int) (v9 : Int) : value_Deep_l0 d n 0 v3 v7 v8 v9 = none := by kernel_rfl
theorem value_Deep_l0_fold (d : Nat) (n : Nat) (v7 : List ApiField) (v3 : Int) (hl : List.length v7 < 9223372036854775807) (m i : Nat) (hi : i ≤ List.length v7) (hm : List.length v7 - i < m) : value_Deep_l0 (d + 1) n m v3 v7 (List.length v7 : Int) (i : Int) = foldK (S := Int) (fun i (a : ApiField) s K => (Option.bind (value_Deep d n (a.Val)) fun r1 => (K (mxI s r1)))) (fun s => (some (IntKind.wrap .i64 (s + 1)))) (List.drop i v7) i (v3) := range_loop v7 (ApiField.mk [] (ApiValue.mk 0 0 [] [])) hl (fun m (k : Int) (s : Int) => value_Deep_l0 (d + 1) n m s v7 (List.length v7 : Int) k) _ _ (fun m i s => (value_Deep_l0_eq d n m s v7 (List.length v7 : Int) (i : Int)).trans (by kernel_rfl)) m i hi hm (v3)
theorem value_Deep_eq (d : Nat) (n : Nat) (x0 : ApiValue) : value_Deep (d + 1) n x0 = (value_Deep_l0 (d + 1) n n 0 x0.Fields (List.length x0.Fields : Int) 0) := by kernel_rfl

/- clapperbridge/value.Scalar -/
noncomputable def value_Scalar (n : Nat) (x0 : Int) : Option Bool := F2 (E := E) tt gl H (C3 n) n 156 Tryd.f156 [.t (.int .i64)] (x0, ())
theorem value_Scalar_eq (n : Nat) (x0 : Int) : value_Scalar n x0 = (bif (decide (x0 ≥ 0)) then (bif (decide (x0 ≤ 5)) then (some true) else (some (decide (x0 = 11)))) else (some (decide (x0 = 11)))) := by kernel_rfl
noncomputable def C4 (n : Nat) : Call2 E := more tt gl H (C3 n) n 156 Tryd.f156 [.t (.int .i64)] (C3 n)

/- clapperbridge/value.unused -/
noncomputable def value_unused (n : Nat) (x0 : ApiValue) : Option Bool := F2 (E := E) tt gl H (C4 n) n 126 Tryd.f126 [.t (.nm 0)] (x0, ())
theorem value_unused_eq (n : Nat) (x0 : ApiValue) : value_unused n x0 = (bif (decide (x0.Kind ≥ 1)) then (bif (decide (x0.Kind ≤ 4)) then (bif (!decide (x0.Kind = 5)) then (bif (!(x0.S == [])) then (some true) else (Option.bind (value_Scalar n x0.Kind) fun r1 => (bif r1 then (some (decide ((List.length x0.Fields : Int) > 0))) else (some false)))) else (Option.bind (value_Scalar n x0.Kind) fun r2 => (bif r2 then (some (decide ((List.length x0.Fields : Int) > 0))) else (some false)))) else (bif (!(decide (x0.Kind = 11))) then (bif (!decide (x0.N = 0)) then (some true) else (bif (!decide (x0.Kind = 5)) then (bif (!(x0.S == [])) then (some true) else (Option.bind (value_Scalar n x0.Kind) fun r3 => (bif r3 then (some (decide ((List.length x0.Fields : Int) > 0))) else (some false)))) else (Option.bind (value_Scalar n x0.Kind) fun r4 => (bif r4 then (some (decide ((List.length x0.Fields : Int) > 0))) else (some false))))) else (bif (!decide (x0.Kind = 5)) then (bif (!(x0.S == [])) then (some true) else (Option.bind (value_Scalar n x0.Kind) fun r5 => (bif r5 then (some (decide ((List.length x0.Fields : Int) > 0))) else (some false)))) else (Option.bind (value_Scalar n x0.Kind) fun r6 => (bif r6 then (some (decide ((List.length x0.Fields : Int) > 0))) else (some false)))))) else (bif (!(decide (x0.Kind = 11))) then (bif (!decide (x0.N = 0)) then (some true) else (bif (!decide (x0.Kind = 5)) then (bif (!(x0.S == [])) then (some true) else (Option.bind (value_Scalar n x0.Kind) fun r7 => (bif r7 then (some (decide ((List.length x0.Fields : Int) > 0))) else (some false)))) else (Option.bind (value_Scalar n x0.Kind) fun r8 => (bif r8 then (some (decide ((List.length x0.Fields : Int) > 0))) else (some false))))) else (bif (!decide (x0.Kind = 5)) then (bif (!(x0.S == [])) then (some true) else (Option.bind (value_Scalar n x0.Kind) fun r9 => (bif r9 then (some (decide ((List.length x0.Fields : Int) > 0))) else (some false)))) else (Option.bind (value_Scalar n x0.Kind) fun r10 => (bif r10 then (some (decide ((List.length x0.Fields : Int) > 0))) else (some false)))))) := by kernel_rfl
noncomputable def C5 (n : Nat) : Call2 E := more tt gl H (C4 n) n 126 Tryd.f126 [.t (.nm 0)] (C4 n)

/- clapperbridge/value.number -/
noncomputable def value_number (n : Nat) (x0 : ApiValue) : Option Bool := F2 (E := E) tt gl H (C5 n) n 127 Tryd.f127 [.t (.nm 0)] (x0, ())
theorem value_number_eq (n : Nat) (x0 : ApiValue) : value_number n x0 = (bif (decide (x0.Kind = 1)) then (bif (decide (x0.N = 0)) then (some true) else (some (decide (x0.N = 1)))) else (bif (decide (x0.Kind = 2)) then (bif (decide (x0.N ≥ (-9007199254740992))) then (some (decide (x0.N ≤ 9007199254740992))) else (some false)) else (bif (decide (x0.Kind = 4)) then (bif (decide (x0.N ≥ 0)) then (some (decide (x0.N ≤ 4194304))) else (some false)) else (bif (decide (x0.Kind = 11)) then (bif (decide (x0.N ≥ 0)) then (some (decide (x0.N ≤ 9007199254740992))) else (some false)) else (some true))))) := by kernel_rfl
noncomputable def C6 (n : Nat) : Call2 E := more tt gl H (C5 n) n 127 Tryd.f127 [.t (.nm 0)] (C5 n)

/- clapperbridge/value.Name -/
noncomputable def value_Name (n : Nat) (x0 : List UInt8) : Option Bool := F2 (E := E) tt gl H (C6 n) n 64 Tryd.f64 [.t .str] (x0, ())
noncomputable def value_Name_l0 (n : Nat) (m0 : Nat) (v23 : List Int) (v24 : Int) (v25 : Int) : Option Bool := lp (E := E) (ps := [.t .str]) tt gl H (C6 n) n 64 Tryd.f64 [1, 1, 0, 1, 0] [] m0 ⟨mkT 49 0 [(23, .t (.sl (.int .u8)) v23), (24, .t (.int .i64) v24), (25, .t (.int .i64) v25)], mkB 196 0 []⟩
theorem value_Name_l0_eq (n : Nat) (m0 : Nat) (v23 : List Int) (v24 : Int) (v25 : Int) : value_Name_l0 n (m0 + 1) v23 v24 v25 = (bif (decide (v25 < v24)) then (bif (decide (0 ≤ v25) && decide (v25 < List.length v23)) then (bif (decide ((List.getD v23 (Int.toNat v25) (0 : Int)) ≥ 97)) then (bif (decide ((List.getD v23 (Int.toNat v25) (0 : Int)) ≤ 122)) then (value_Name_l0 n m0 v23 v24 (IntKind.wrap .i64 (v25 + 1))) else (bif (decide ((List.getD v23 (Int.toNat v25) (0 : Int)) ≥ 48)) then (bif (decide ((List.getD v23 (Int.toNat v25) (0 : Int)) ≤ 57)) then (value_Name_l0 n m0 v23 v24 (IntKind.wrap .i64 (v25 + 1))) else (bif (!(decide ((List.getD v23 (Int.toNat v25) (0 : Int)) = 45))) then (some false) else (value_Name_l0 n m0 v23 v24 (IntKind.wrap .i64 (v25 + 1))))) else (bif (!(decide ((List.getD v23 (Int.toNat v25) (0 : Int)) = 45))) then (some false) else (value_Name_l0 n m0 v23 v24 (IntKind.wrap .i64 (v25 + 1)))))) else (bif (decide ((List.getD v23 (Int.toNat v25) (0 : Int)) ≥ 48)) then (bif (decide ((List.getD v23 (Int.toNat v25) (0 : Int)) ≤ 57)) then (value_Name_l0 n m0 v23 v24 (IntKind.wrap .i64 (v25 + 1))) else (bif (!(decide ((List.getD v23 (Int.toNat v25) (0 : Int)) = 45))) then (some false) else (value_Name_l0 n m0 v23 v24 (IntKind.wrap .i64 (v25 + 1))))) else (bif (!(decide ((List.getD v23 (Int.toNat v25) (0 : Int)) = 45))) then (some false) else (value_Name_l0 n m0 v23 v24 (IntKind.wrap .i64 (v25 + 1)))))) else none) else (some true)) := by kernel_rfl
theorem value_Name_l0_zero (n : Nat) (v23 : List Int) (v24 : Int) (v25 : Int) : value_Name_l0 n 0 v23 v24 v25 = none := by kernel_rfl
theorem value_Name_l0_fold (n : Nat) (v23 : List Int) (hl : List.length v23 < 9223372036854775807) (m i : Nat) (hi : i ≤ List.length v23) (hm : List.length v23 - i < m) : value_Name_l0 n m v23 (List.length v23 : Int) (i : Int) = foldK (S := Unit) (fun i (a : Int) s K => (bif (decide (a ≥ 97)) then (bif (decide (a ≤ 122)) then (K ()) else (bif (decide (a ≥ 48)) then (bif (decide (a ≤ 57)) then (K ()) else (bif (!(decide (a = 45))) then (some false) else (K ()))) else (bif (!(decide (a = 45))) then (some false) else (K ())))) else (bif (decide (a ≥ 48)) then (bif (decide (a ≤ 57)) then (K ()) else (bif (!(decide (a = 45))) then (some false) else (K ()))) else (bif (!(decide (a = 45))) then (some false) else (K ()))))) (fun s => (some true)) (List.drop i v23) i () := range_loop v23 (0 : Int) hl (fun m (k : Int) (s : Unit) => value_Name_l0 n m v23 (List.length v23 : Int) k) _ _ (fun m i s => (value_Name_l0_eq n m v23 (List.length v23 : Int) (i : Int)).trans (by kernel_rfl)) m i hi hm ()
theorem value_Name_eq (n : Nat) (x0 : List UInt8) : value_Name n x0 = (bif (x0 == []) then (some false) else (bif (decide ((List.length x0 : Int) > 16)) then (some false) else (bif (decide (0 ≤ (0 : Int)) && decide ((0 : Int) < List.length x0)) then (bif (decide (((UInt8.toNat (List.getD x0 (Int.toNat (0 : Int)) 0) : Nat) : Int) < 97)) then (some false) else (bif (decide (0 ≤ (0 : Int)) && decide ((0 : Int) < List.length x0)) then (bif (decide (((UInt8.toNat (List.getD x0 (Int.toNat (0 : Int)) 0) : Nat) : Int) > 122)) then (some false) else (value_Name_l0 n n (ints x0) (List.length (ints x0) : Int) 0)) else none)) else none))) := by kernel_rfl
noncomputable def C7 (n : Nat) : Call2 E := more tt gl H (C6 n) n 64 Tryd.f64 [.t .str] (C6 n)

/- clapperbridge/value.names$1 -/
noncomputable def value_names_1 (n : Nat) (x0 : ApiField) (x1 : ApiField) : Option Bool := F2 (E := E) tt gl H (C7 n) n 190 Tryd.f190 [.t (.nm 1), .imm (.nm 1)] (x0, x1, ())
theorem value_names_1_eq (n : Nat) (x0 : ApiField) (x1 : ApiField) : value_names_1 n x0 x1 = (some (x0.Name == x1.Name)) := by kernel_rfl
noncomputable def C8 (n : Nat) : Call2 E := more tt gl H (C7 n) n 190 Tryd.f190 [.t (.nm 1), .imm (.nm 1)] (C7 n)

/- slices.IndexFunc[[]clapperbridge/api.Field,clapperbridge/api.Field] -/
noncomputable def slices_IndexFunc_Field_by_value_names_1 (n : Nat) (x0 : List ApiField) (x1 : (ApiField × Unit)) : Option Int := F2 (E := E) tt gl H (C8 n) n 100 Tryd.f100 [.t (.sl (.nm 1)), .fn 190 [(.nm 1)]] (x0, x1, ())
noncomputable def slices_IndexFunc_Field_by_value_names_1_l0 (n : Nat) (m0 : Nat) (v0 : List ApiField) (v1c0 : ApiField) (v7 : Int) (v8 : Int) : Option Int := lp (E := E) (ps := [.t (.sl (.nm 1)), .fn 190 [(.nm 1)]]) tt gl H (C8 n) n 100 Tryd.f100 [1, 0, 1, 0] [] m0 ⟨mkT 19 0 [(0, .t (.sl (.nm 1)) v0), (1, .func 190 [⟨(.nm 1), v1c0⟩]), (7, .t (.int .i64) v7), (8, .t (.int .i64) v8)], mkB 76 0 []⟩
theorem slices_IndexFunc_Field_by_value_names_1_l0_eq (n : Nat) (m0 : Nat) (v0 : List ApiField) (v1c0 : ApiField) (v7 : Int) (v8 : Int) : slices_IndexFunc_Field_by_value_names_1_l0 n (m0 + 1) v0 v1c0 v7 v8 = (bif (decide (v8 < v7)) then (bif (decide (0 ≤ v8) && decide (v8 < List.length v0)) then (Option.bind (value_names_1 n (List.getD v0 (Int.toNat v8) (ApiField.mk [] (ApiValue.mk 0 0 [] []))) v1c0) fun r1 => (bif r1 then (some v8) else (slices_IndexFunc_Field_by_value_names_1_l0 n m0 v0 v1c0 v7 (IntKind.wrap .i64 (v8 + 1))))) else none) else (some (-1))) := by kernel_rfl
theorem slices_IndexFunc_Field_by_value_names_1_l0_zero (n : Nat) (v0 : List ApiField) (v1c0 : ApiField) (v7 : Int) (v8 : Int) : slices_IndexFunc_Field_by_value_names_1_l0 n 0 v0 v1c0 v7 v8 = none := by kernel_rfl
theorem slices_IndexFunc_Field_by_value_names_1_l0_fold (n : Nat) (v0 : List ApiField) (v1c0 : ApiField) (hl : List.length v0 < 9223372036854775807) (m i : Nat) (hi : i ≤ List.length v0) (hm : List.length v0 - i < m) : slices_IndexFunc_Field_by_value_names_1_l0 n m v0 v1c0 (List.length v0 : Int) (i : Int) = foldK (S := Unit) (fun i (a : ApiField) s K => (Option.bind (value_names_1 n a v1c0) fun r1 => (bif r1 then (some (i : Int)) else (K ())))) (fun s => (some (-1))) (List.drop i v0) i () := range_loop v0 (ApiField.mk [] (ApiValue.mk 0 0 [] [])) hl (fun m (k : Int) (s : Unit) => slices_IndexFunc_Field_by_value_names_1_l0 n m v0 v1c0 (List.length v0 : Int) k) _ _ (fun m i s => (slices_IndexFunc_Field_by_value_names_1_l0_eq n m v0 v1c0 (List.length v0 : Int) (i : Int)).trans (by kernel_rfl)) m i hi hm ()
theorem slices_IndexFunc_Field_by_value_names_1_eq (n : Nat) (x0 : List ApiField) (x1 : (ApiField × Unit)) : slices_IndexFunc_Field_by_value_names_1 n x0 x1 = (slices_IndexFunc_Field_by_value_names_1_l0 n n x0 x1.1 (List.length x0 : Int) 0) := by kernel_rfl
noncomputable def C9 (n : Nat) : Call2 E := more tt gl H (C8 n) n 100 Tryd.f100 [.t (.sl (.nm 1)), .fn 190 [(.nm 1)]] (C8 n)

/- slices.ContainsFunc[[]clapperbridge/api.Field,clapperbridge/api.Field] -/
noncomputable def slices_ContainsFunc_Field_by_value_names_1 (n : Nat) (x0 : List ApiField) (x1 : (ApiField × Unit)) : Option Bool := F2 (E := E) tt gl H (C9 n) n 189 Tryd.f189 [.t (.sl (.nm 1)), .fn 190 [(.nm 1)]] (x0, x1, ())
theorem slices_ContainsFunc_Field_by_value_names_1_eq (n : Nat) (x0 : List ApiField) (x1 : (ApiField × Unit)) : slices_ContainsFunc_Field_by_value_names_1 n x0 x1 = (Option.bind (slices_IndexFunc_Field_by_value_names_1 n x0 (x1.1, ())) fun r1 => (some (decide (r1 ≥ 0)))) := by kernel_rfl
noncomputable def C10 (n : Nat) : Call2 E := more tt gl H (C9 n) n 189 Tryd.f189 [.t (.sl (.nm 1)), .fn 190 [(.nm 1)]] (C9 n)

/- clapperbridge/value.names -/
noncomputable def value_names (n : Nat) (x0 : List ApiField) : Option Int := F2 (E := E) tt gl H (C10 n) n 157 Tryd.f157 [.t (.sl (.nm 1))] (x0, ())
noncomputable def value_names_l0 (n : Nat) (m0 : Nat) (v0 : List ApiField) (v5 : List ApiField) (v6 : Int) (v7 : Int) : Option Int := lp (E := E) (ps := [.t (.sl (.nm 1))]) tt gl H (C10 n) n 157 Tryd.f157 [1, 0, 1, 0] [] m0 ⟨mkT 22 0 [(0, .t (.sl (.nm 1)) v0), (5, .t (.sl (.nm 1)) v5), (6, .t (.int .i64) v6), (7, .t (.int .i64) v7)], mkB 88 0 []⟩
theorem value_names_l0_eq (n : Nat) (m0 : Nat) (v0 : List ApiField) (v5 : List ApiField) (v6 : Int) (v7 : Int) : value_names_l0 n (m0 + 1) v0 v5 v6 v7 = (bif (decide (v7 < v6)) then (bif (decide (0 ≤ v7) && decide (v7 < List.length v5)) then (Option.bind (value_Name n ((List.getD v5 (Int.toNat v7) (ApiField.mk [] (ApiValue.mk 0 0 [] []))).Name)) fun r1 => (bif (!r1) then (some 15) else (bif (decide (0 ≤ v7) && decide (v7 ≤ (List.length v0))) then (Option.bind (slices_ContainsFunc_Field_by_value_names_1 n (List.take (Int.toNat v7) v0) ((List.getD v5 (Int.toNat v7) (ApiField.mk [] (ApiValue.mk 0 0 [] []))), ())) fun r2 => (bif r2 then (some 5) else (value_names_l0 n m0 v0 v5 v6 (IntKind.wrap .i64 (v7 + 1))))) else none))) else none) else (some 0)) := by kernel_rfl
theorem value_names_l0_zero (n : Nat) (v0 : List ApiField) (v5 : List ApiField) (v6 : Int) (v7 : Int) : value_names_l0 n 0 v0 v5 v6 v7 = none := by kernel_rfl
theorem value_names_l0_fold (n : Nat) (v0 : List ApiField) (v5 : List ApiField) (hl : List.length v5 < 9223372036854775807) (m i : Nat) (hi : i ≤ List.length v5) (hm : List.length v5 - i < m) : value_names_l0 n m v0 v5 (List.length v5 : Int) (i : Int) = foldK (S := Unit) (fun i (a : ApiField) s K => (Option.bind (value_Name n (a.Name)) fun r1 => (bif (!r1) then (some 15) else (bif (decide (0 ≤ (i : Int)) && decide ((i : Int) ≤ (List.length v0))) then (Option.bind (slices_ContainsFunc_Field_by_value_names_1 n (List.take (Int.toNat (i : Int)) v0) (a, ())) fun r2 => (bif r2 then (some 5) else (K ()))) else none)))) (fun s => (some 0)) (List.drop i v5) i () := range_loop v5 (ApiField.mk [] (ApiValue.mk 0 0 [] [])) hl (fun m (k : Int) (s : Unit) => value_names_l0 n m v0 v5 (List.length v5 : Int) k) _ _ (fun m i s => (value_names_l0_eq n m v0 v5 (List.length v5 : Int) (i : Int)).trans (by kernel_rfl)) m i hi hm ()
theorem value_names_eq (n : Nat) (x0 : List ApiField) : value_names n x0 = (value_names_l0 n n x0 x0 (List.length x0 : Int) 0) := by kernel_rfl
noncomputable def C11 (n : Nat) : Call2 E := more tt gl H (C10 n) n 157 Tryd.f157 [.t (.sl (.nm 1))] (C10 n)

/- clapperbridge/value.keys -/
noncomputable def value_keys (n : Nat) (x0 : ApiValue) : Option Int := F2 (E := E) tt gl H (C11 n) n 158 Tryd.f158 [.t (.nm 0)] (x0, ())
noncomputable def value_keys_l0 (n : Nat) (m0 : Nat) (v6 : List ApiField) (v7 : Int) (v8 : Int) (w1 : ApiValue) : Option Int := lp (E := E) (ps := [.t (.nm 0)]) tt gl H (C11 n) n 158 Tryd.f158 [1, 0, 1, 0] [] m0 ⟨mkT 47 0 [(1, .ptr 1 (.nm 0) []), (6, .t (.sl (.nm 1)) v6), (7, .t (.int .i64) v7), (8, .t (.int .i64) v8)], mkB 188 0 [(1, .var (.nm 0) (.t (.nm 0) w1))]⟩
theorem value_keys_l0_eq (n : Nat) (m0 : Nat) (v6 : List ApiField) (v7 : Int) (v8 : Int) (w1 : ApiValue) : value_keys_l0 n (m0 + 1) v6 v7 v8 w1 = (bif (decide (v8 < v7)) then (bif (decide (0 ≤ v8) && decide (v8 < List.length v6)) then (bif (decide (w1.Kind = 8)) then (bif (!(((List.getD v6 (Int.toNat v8) (ApiField.mk [] (ApiValue.mk 0 0 [] []))).Name) == [])) then (some 3) else (bif (decide (w1.Kind = 8)) then (value_keys_l0 n m0 v6 v7 (IntKind.wrap .i64 (v8 + 1)) w1) else (bif (decide ((List.length ((List.getD v6 (Int.toNat v8) (ApiField.mk [] (ApiValue.mk 0 0 [] []))).Name) : Int) > 4000)) then (some 2) else (bif (decide (v8 > 0)) then (bif (decide (0 ≤ (IntKind.wrap .i64 (v8 - 1))) && decide ((IntKind.wrap .i64 (v8 - 1)) < List.length w1.Fields)) then (bif (bytesLess ((List.getD v6 (Int.toNat v8) (ApiField.mk [] (ApiValue.mk 0 0 [] []))).Name) ((List.getD w1.Fields (Int.toNat (IntKind.wrap .i64 (v8 - 1))) (ApiField.mk [] (ApiValue.mk 0 0 [] []))).Name) || (((List.getD v6 (Int.toNat v8) (ApiField.mk [] (ApiValue.mk 0 0 [] []))).Name) == ((List.getD w1.Fields (Int.toNat (IntKind.wrap .i64 (v8 - 1))) (ApiField.mk [] (ApiValue.mk 0 0 [] []))).Name))) then (some 9) else (value_keys_l0 n m0 v6 v7 (IntKind.wrap .i64 (v8 + 1)) w1)) else none) else (value_keys_l0 n m0 v6 v7 (IntKind.wrap .i64 (v8 + 1)) w1))))) else (bif (decide (w1.Kind = 8)) then (value_keys_l0 n m0 v6 v7 (IntKind.wrap .i64 (v8 + 1)) w1) else (bif (decide ((List.length ((List.getD v6 (Int.toNat v8) (ApiField.mk [] (ApiValue.mk 0 0 [] []))).Name) : Int) > 4000)) then (some 2) else (bif (decide (v8 > 0)) then (bif (decide (0 ≤ (IntKind.wrap .i64 (v8 - 1))) && decide ((IntKind.wrap .i64 (v8 - 1)) < List.length w1.Fields)) then (bif (bytesLess ((List.getD v6 (Int.toNat v8) (ApiField.mk [] (ApiValue.mk 0 0 [] []))).Name) ((List.getD w1.Fields (Int.toNat (IntKind.wrap .i64 (v8 - 1))) (ApiField.mk [] (ApiValue.mk 0 0 [] []))).Name) || (((List.getD v6 (Int.toNat v8) (ApiField.mk [] (ApiValue.mk 0 0 [] []))).Name) == ((List.getD w1.Fields (Int.toNat (IntKind.wrap .i64 (v8 - 1))) (ApiField.mk [] (ApiValue.mk 0 0 [] []))).Name))) then (some 9) else (value_keys_l0 n m0 v6 v7 (IntKind.wrap .i64 (v8 + 1)) w1)) else none) else (value_keys_l0 n m0 v6 v7 (IntKind.wrap .i64 (v8 + 1)) w1))))) else none) else (some 0)) := by kernel_rfl
theorem value_keys_l0_zero (n : Nat) (v6 : List ApiField) (v7 : Int) (v8 : Int) (w1 : ApiValue) : value_keys_l0 n 0 v6 v7 v8 w1 = none := by kernel_rfl
theorem value_keys_l0_fold (n : Nat) (v6 : List ApiField) (w1 : ApiValue) (hl : List.length v6 < 9223372036854775807) (m i : Nat) (hi : i ≤ List.length v6) (hm : List.length v6 - i < m) : value_keys_l0 n m v6 (List.length v6 : Int) (i : Int) w1 = foldK (S := Unit) (fun i (a : ApiField) s K => (bif (decide (w1.Kind = 8)) then (bif (!((a.Name) == [])) then (some 3) else (bif (decide (w1.Kind = 8)) then (K ()) else (bif (decide ((List.length (a.Name) : Int) > 4000)) then (some 2) else (bif (decide ((i : Int) > 0)) then (bif (decide (0 ≤ (IntKind.wrap .i64 ((i : Int) - 1))) && decide ((IntKind.wrap .i64 ((i : Int) - 1)) < List.length w1.Fields)) then (bif (bytesLess (a.Name) ((List.getD w1.Fields (Int.toNat (IntKind.wrap .i64 ((i : Int) - 1))) (ApiField.mk [] (ApiValue.mk 0 0 [] []))).Name) || ((a.Name) == ((List.getD w1.Fields (Int.toNat (IntKind.wrap .i64 ((i : Int) - 1))) (ApiField.mk [] (ApiValue.mk 0 0 [] []))).Name))) then (some 9) else (K ())) else none) else (K ()))))) else (bif (decide (w1.Kind = 8)) then (K ()) else (bif (decide ((List.length (a.Name) : Int) > 4000)) then (some 2) else (bif (decide ((i : Int) > 0)) then (bif (decide (0 ≤ (IntKind.wrap .i64 ((i : Int) - 1))) && decide ((IntKind.wrap .i64 ((i : Int) - 1)) < List.length w1.Fields)) then (bif (bytesLess (a.Name) ((List.getD w1.Fields (Int.toNat (IntKind.wrap .i64 ((i : Int) - 1))) (ApiField.mk [] (ApiValue.mk 0 0 [] []))).Name) || ((a.Name) == ((List.getD w1.Fields (Int.toNat (IntKind.wrap .i64 ((i : Int) - 1))) (ApiField.mk [] (ApiValue.mk 0 0 [] []))).Name))) then (some 9) else (K ())) else none) else (K ())))))) (fun s => (some 0)) (List.drop i v6) i () := range_loop v6 (ApiField.mk [] (ApiValue.mk 0 0 [] [])) hl (fun m (k : Int) (s : Unit) => value_keys_l0 n m v6 (List.length v6 : Int) k w1) _ _ (fun m i s => (value_keys_l0_eq n m v6 (List.length v6 : Int) (i : Int) w1).trans (by kernel_rfl)) m i hi hm ()
theorem value_keys_eq (n : Nat) (x0 : ApiValue) : value_keys n x0 = (value_keys_l0 n n x0.Fields (List.length x0.Fields : Int) 0 x0) := by kernel_rfl
noncomputable def C12 (n : Nat) : Call2 E := more tt gl H (C11 n) n 158 Tryd.f158 [.t (.nm 0)] (C11 n)

/- clapperbridge/value.fields -/
noncomputable def value_fields (n : Nat) (x0 : ApiValue) : Option Int := F2 (E := E) tt gl H (C12 n) n 128 Tryd.f128 [.t (.nm 0)] (x0, ())
theorem value_fields_eq (n : Nat) (x0 : ApiValue) : value_fields n x0 = (bif (decide (x0.Kind = 5)) then (bif (decide ((List.length x0.S : Int) > 4000)) then (some 2) else (some 0)) else (bif (decide (x0.Kind = 6)) then (bif (decide ((List.length x0.Fields : Int) > 24)) then (some 2) else (Option.bind (value_names n x0.Fields) fun r1 => (some r1))) else (bif (decide (x0.Kind = 7)) then (bif (!decide ((List.length x0.Fields : Int) = 1)) then (some 3) else (Option.bind (value_names n x0.Fields) fun r2 => (some r2))) else (bif (decide (x0.Kind = 8)) then (bif (decide (x0.Kind = 8)) then (bif (decide ((List.length x0.Fields : Int) > 200)) then (some 2) else (Option.bind (value_keys n x0) fun r3 => (some r3))) else (some 0)) else (bif (decide (x0.Kind = 9)) then (bif (decide ((List.length x0.Fields : Int) > 200)) then (some 2) else (Option.bind (value_keys n x0) fun r4 => (some r4))) else (some 0)))))) := by kernel_rfl
noncomputable def C13 (n : Nat) : Call2 E := more tt gl H (C12 n) n 128 Tryd.f128 [.t (.nm 0)] (C12 n)
noncomputable def Cr13 : Nat → Nat → Call2 E
  | 0, n => C13 n
  | d + 1, n => (more tt gl H (Cr13 d n) n 82 Tryd.f82 [.t (.nm 0), .t .bool] (C13 n))
noncomputable def C14 (n : Nat) : Call2 E := Cr13 (n + 1) n

/- clapperbridge/value.node -/
noncomputable def value_node (d : Nat) (n : Nat) (x0 : ApiValue) (x1 : Bool) : Option Int := F2 (E := E) tt gl H (Cr13 d n) n 82 Tryd.f82 [.t (.nm 0), .t .bool] (x0, x1, ())
noncomputable def value_node_l1 (d : Nat) (n : Nat) (m0 : Nat) (v46 : List ApiField) (v47 : Int) (v48 : Int) : Option Int := lp (E := E) (ps := [.t (.nm 0), .t .bool]) tt gl H (Cr13 d n) n 82 Tryd.f82 [1, 1, 1, 0, 1, 0] [] m0 ⟨mkT 59 0 [(46, .t (.sl (.nm 1)) v46), (47, .t (.int .i64) v47), (48, .t (.int .i64) v48)], mkB 236 0 []⟩
theorem value_node_l1_eq (d : Nat) (n : Nat) (m0 : Nat) (v46 : List ApiField) (v47 : Int) (v48 : Int) : value_node_l1 (d + 1) n (m0 + 1) v46 v47 v48 = (bif (decide (v48 < v47)) then (bif (decide (0 ≤ v48) && decide (v48 < List.length v46)) then (Option.bind (value_node d n ((List.getD v46 (Int.toNat v48) (ApiField.mk [] (ApiValue.mk 0 0 [] []))).Val) false) fun r4 => (bif (!decide (r4 = 0)) then (some r4) else (value_node_l1 (d + 1) n m0 v46 v47 (IntKind.wrap .i64 (v48 + 1))))) else none) else (some 0)) := by kernel_rfl
theorem value_node_l1_zero (d : Nat) (n : Nat) (v46 : List ApiField) (v47 : Int) (v48 : Int) : value_node_l1 d n 0 v46 v47 v48 = none := by kernel_rfl
theorem value_node_l1_fold (d : Nat) (n : Nat) (v46 : List ApiField) (hl : List.length v46 < 9223372036854775807) (m i : Nat) (hi : i ≤ List.length v46) (hm : List.length v46 - i < m) : value_node_l1 (d + 1) n m v46 (List.length v46 : Int) (i : Int) = foldK (S := Unit) (fun i (a : ApiField) s K => (Option.bind (value_node d n (a.Val) false) fun r4 => (bif (!decide (r4 = 0)) then (some r4) else (K ())))) (fun s => (some 0)) (List.drop i v46) i () := range_loop v46 (ApiField.mk [] (ApiValue.mk 0 0 [] [])) hl (fun m (k : Int) (s : Unit) => value_node_l1 (d + 1) n m v46 (List.length v46 : Int) k) _ _ (fun m i s => (value_node_l1_eq d n m v46 (List.length v46 : Int) (i : Int)).trans (by kernel_rfl)) m i hi hm ()
theorem value_node_eq (d : Nat) (n : Nat) (x0 : ApiValue) (x1 : Bool) : value_node (d + 1) n x0 x1 = (bif (decide (x0.Kind < 0)) then (some 3) else (bif (decide (x0.Kind ≥ 12)) then (some 3) else (bif (decide (x0.Kind = 10)) then (some 3) else (bif (decide (x0.Kind = 11)) then (bif (!x1) then (some 3) else (Option.bind (value_unused n x0) fun r1 => (bif r1 then (some 3) else (Option.bind (value_number n x0) fun r2 => (bif (!r2) then (some 11) else (Option.bind (value_fields n x0) fun r3 => (bif (!decide (r3 = 0)) then (some r3) else (value_node_l1 (d + 1) n n x0.Fields (List.length x0.Fields : Int) 0)))))))) else (Option.bind (value_unused n x0) fun r5 => (bif r5 then (some 3) else (Option.bind (value_number n x0) fun r6 => (bif (!r6) then (some 11) else (Option.bind (value_fields n x0) fun r7 => (bif (!decide (r7 = 0)) then (some r7) else (value_node_l1 (d + 1) n n x0.Fields (List.length x0.Fields : Int) 0))))))))))) := by kernel_rfl

/- clapperbridge/value.Check -/
noncomputable def value_Check (n : Nat) (x0 : ApiValue) : Option Int := F2 (E := E) tt gl H (C14 n) n 20 Tryd.f20 [.t (.nm 0)] (x0, ())
theorem value_Check_eq (n : Nat) (x0 : ApiValue) : value_Check n x0 = (Option.bind (value_Size n n x0) fun r1 => (bif (decide (r1 > 2000)) then (some 2) else (Option.bind (value_Deep n n x0) fun r2 => (bif (decide (r2 > 40)) then (some 2) else (Option.bind (value_node n n x0 true) fun r3 => (some r3)))))) := by kernel_rfl
noncomputable def C15 (n : Nat) : Call2 E := more tt gl H (C14 n) n 20 Tryd.f20 [.t (.nm 0)] (C14 n)
def lay94_ren : Go.Shelf.Ren := ⟨fun | 172 => 94 | 244 => 137 | 245 => 138 | 247 => 140 | 279 => 166 | 280 => 167 | 281 => 168 | 282 => 169 | 287 => 165 | 316 => 195 | 171 => 68 | 205 => 196 | 321 => 193 | 322 => 194 | 243 => 116 | 246 => 153 | 283 => 182 | 284 => 183 | 285 => 184 | 286 => 185 | 129 => 181 | 317 => 203 | 318 => 204 | 319 => 205 | 320 => 206 | 337 => 209 | 338 => 210 | n => n, fun | 9 => 9 | 3 => 3 | 75 => 136 | 76 => 137 | 4 => 4 | 5 => 5 | 167 => 205 | 37 => 56 | 0 => 0 | 85 => 140 | 2 => 2 | 168 => 206 | 53 => 154 | 175 => 181 | 46 => 174 | 210 => 231 | 127 => 197 | 145 => 244 | 143 => 242 | 21 => 21 | 171 => 218 | 173 => 220 | 212 => 239 | 51 => 200 | 20 => 20 | 213 => 240 | 232 => 247 | 233 => 248 | 80 => 172 | n => n, fun | 15 => 0 | 16 => 1 | 17 => 3 | 18 => 4 | 19 => 5 | n => n⟩
theorem lay94 : Go.Proofs.LaysC.n172 Tryd.prog lay94_ren := {
  mixed := by kernel_rfl
  f129 := Tryd.func181.trans (congrArg some (by kernel_rfl))
  f171 := Tryd.func68.trans (congrArg some (by kernel_rfl))
  f172 := Tryd.func94.trans (congrArg some (by kernel_rfl))
  f205 := Tryd.func196.trans (congrArg some (by kernel_rfl))
  f243 := Tryd.func116.trans (congrArg some (by kernel_rfl))
  f244 := Tryd.func137.trans (congrArg some (by kernel_rfl))
  f245 := Tryd.func138.trans (congrArg some (by kernel_rfl))
  f246 := Tryd.func153.trans (congrArg some (by kernel_rfl))
  f247 := Tryd.func140.trans (congrArg some (by kernel_rfl))
  f279 := Tryd.func166.trans (congrArg some (by kernel_rfl))
  f280 := Tryd.func167.trans (congrArg some (by kernel_rfl))
  f281 := Tryd.func168.trans (congrArg some (by kernel_rfl))
  f282 := Tryd.func169.trans (congrArg some (by kernel_rfl))
  f283 := Tryd.func182.trans (congrArg some (by kernel_rfl))
  f284 := Tryd.func183.trans (congrArg some (by kernel_rfl))
  f285 := Tryd.func184.trans (congrArg some (by kernel_rfl))
  f286 := Tryd.func185.trans (congrArg some (by kernel_rfl))
  f287 := Tryd.func165.trans (congrArg some (by kernel_rfl))
  f316 := Tryd.func195.trans (congrArg some (by kernel_rfl))
  f317 := Tryd.func203.trans (congrArg some (by kernel_rfl))
  f318 := Tryd.func204.trans (congrArg some (by kernel_rfl))
  f319 := Tryd.func205.trans (congrArg some (by kernel_rfl))
  f320 := Tryd.func206.trans (congrArg some (by kernel_rfl))
  f321 := Tryd.func193.trans (congrArg some (by kernel_rfl))
  f322 := Tryd.func194.trans (congrArg some (by kernel_rfl))
  f337 := Tryd.func209.trans (congrArg some (by kernel_rfl))
  f338 := Tryd.func210.trans (congrArg some (by kernel_rfl))
  t0 := Tryd.underlying0
  a0 := Tryd.isAgg0
  z0 := Tryd.sizeOf0
  v0 := Tryd.zeroValue0
  t2 := Tryd.underlying2
  a2 := Tryd.isAgg2
  z2 := Tryd.sizeOf2
  v2 := Tryd.zeroValue2
  t3 := Tryd.underlying3
  a3 := Tryd.isAgg3
  z3 := Tryd.sizeOf3
  v3 := Tryd.zeroValue3
  t4 := Tryd.underlying4
  a4 := Tryd.isAgg4
  z4 := Tryd.sizeOf4
  v4 := Tryd.zeroValue4
  t5 := Tryd.underlying5
  a5 := Tryd.isAgg5
  z5 := Tryd.sizeOf5
  v5 := Tryd.zeroValue5
  t9 := Tryd.underlying9
  a9 := Tryd.isAgg9
  z9 := Tryd.sizeOf9
  v9 := Tryd.zeroValue9
  t20 := Tryd.underlying20
  a20 := Tryd.isAgg20
  z20 := Tryd.sizeOf20
  v20 := Tryd.zeroValue20
  t21 := Tryd.underlying21
  a21 := Tryd.isAgg21
  z21 := Tryd.sizeOf21
  v21 := Tryd.zeroValue21
  t37 := Tryd.underlying56
  a37 := Tryd.isAgg56
  z37 := Tryd.sizeOf56
  v37 := Tryd.zeroValue56
  t46 := Tryd.underlying174
  a46 := Tryd.isAgg174
  z46 := Tryd.sizeOf174
  v46 := Tryd.zeroValue174
  t51 := Tryd.underlying200
  a51 := Tryd.isAgg200
  z51 := Tryd.sizeOf200
  v51 := Tryd.zeroValue200
  t53 := Tryd.underlying154
  a53 := Tryd.isAgg154
  z53 := Tryd.sizeOf154
  v53 := Tryd.zeroValue154
  t75 := Tryd.underlying136
  a75 := Tryd.isAgg136
  z75 := Tryd.sizeOf136
  v75 := Tryd.zeroValue136
  t76 := Tryd.underlying137
  a76 := Tryd.isAgg137
  z76 := Tryd.sizeOf137
  v76 := Tryd.zeroValue137
  t85 := Tryd.underlying140
  a85 := Tryd.isAgg140
  z85 := Tryd.sizeOf140
  v85 := Tryd.zeroValue140
  t127 := Tryd.underlying197
  a127 := Tryd.isAgg197
  z127 := Tryd.sizeOf197
  v127 := Tryd.zeroValue197
  t143 := Tryd.underlying242
  a143 := Tryd.isAgg242
  z143 := Tryd.sizeOf242
  v143 := Tryd.zeroValue242
  t145 := Tryd.underlying244
  a145 := Tryd.isAgg244
  z145 := Tryd.sizeOf244
  v145 := Tryd.zeroValue244
  t167 := Tryd.underlying205
  a167 := Tryd.isAgg205
  z167 := Tryd.sizeOf205
  v167 := Tryd.zeroValue205
  t168 := Tryd.underlying206
  a168 := Tryd.isAgg206
  z168 := Tryd.sizeOf206
  v168 := Tryd.zeroValue206
  t171 := Tryd.underlying218
  a171 := Tryd.isAgg218
  z171 := Tryd.sizeOf218
  v171 := Tryd.zeroValue218
  t173 := Tryd.underlying220
  a173 := Tryd.isAgg220
  z173 := Tryd.sizeOf220
  v173 := Tryd.zeroValue220
  t175 := Tryd.underlying181
  a175 := Tryd.isAgg181
  z175 := Tryd.sizeOf181
  v175 := Tryd.zeroValue181
  t210 := Tryd.underlying231
  a210 := Tryd.isAgg231
  z210 := Tryd.sizeOf231
  v210 := Tryd.zeroValue231
  t212 := Tryd.underlying239
  a212 := Tryd.isAgg239
  z212 := Tryd.sizeOf239
  v212 := Tryd.zeroValue239
  t213 := Tryd.underlying240
  a213 := Tryd.isAgg240
  z213 := Tryd.sizeOf240
  t232 := Tryd.underlying247
  a232 := Tryd.isAgg247
  z232 := Tryd.sizeOf247
  v232 := Tryd.zeroValue247
  t233 := Tryd.underlying248
  a233 := Tryd.isAgg248
  z233 := Tryd.sizeOf248
  v233 := Tryd.zeroValue248
  g15 := by kernel_rfl
  g16 := by kernel_rfl
  g17 := by kernel_rfl
  g18 := by kernel_rfl
  g19 := by kernel_rfl
  t80 := Tryd.underlying172
  a80 := Tryd.isAgg172
  z80 := Tryd.sizeOf172
  v80 := Tryd.zeroValue172
  i0 := by kernel_rfl
  i2 := by kernel_rfl
  i3 := by kernel_rfl
  i4 := by kernel_rfl
  i5 := by kernel_rfl
  i9 := by kernel_rfl
  i20 := by kernel_rfl
  i21 := by kernel_rfl
  i37 := by kernel_rfl
  i46 := by kernel_rfl
  i51 := by kernel_rfl
  i53 := by kernel_rfl
  i75 := by kernel_rfl
  i76 := by kernel_rfl
  i80 := by kernel_rfl
  i85 := by kernel_rfl
  i127 := by kernel_rfl
  i143 := by kernel_rfl
  i145 := by kernel_rfl
  i167 := by kernel_rfl
  i168 := by kernel_rfl
  i171 := by kernel_rfl
  i173 := by kernel_rfl
  i175 := by kernel_rfl
  i210 := by kernel_rfl
  i212 := by kernel_rfl
  i232 := by kernel_rfl
  i233 := by kernel_rfl
  m15 := by kernel_rfl
  m16 := by kernel_rfl
  m17 := by kernel_rfl
  m18 := by kernel_rfl
  m19 := by kernel_rfl
  c0 := by kernel_rfl
  c2 := by kernel_rfl
  c3 := by kernel_rfl
  c4 := by kernel_rfl
  c5 := by kernel_rfl
  c9 := by kernel_rfl
  c20 := by kernel_rfl
  c21 := by kernel_rfl
  c37 := by kernel_rfl
  c46 := by kernel_rfl
  c51 := by kernel_rfl
  c53 := by kernel_rfl
  c75 := by kernel_rfl
  c76 := by kernel_rfl
  c80 := by kernel_rfl
  c85 := by kernel_rfl
  c127 := by kernel_rfl
  c143 := by kernel_rfl
  c145 := by kernel_rfl
  c167 := by kernel_rfl
  c168 := by kernel_rfl
  c171 := by kernel_rfl
  c173 := by kernel_rfl
  c175 := by kernel_rfl
  c210 := by kernel_rfl
  c212 := by kernel_rfl
  c213 := by kernel_rfl
  c232 := by kernel_rfl
  c233 := by kernel_rfl }
theorem fnok94 : FnOK Tryd.prog 94 := ⟨Tryd.f94, _, Tryd.func94, by decide, rfl⟩
noncomputable def C16 (n : Nat) : Call2 E := moreE 94 [.str] (.int .i64) (fun x => atoiO x.1) (C15 n)
def lay68_ren : Go.Shelf.Ren := ⟨fun | 171 => 68 | 243 => 116 | 246 => 153 | 283 => 182 | 284 => 183 | 285 => 184 | 286 => 185 | 129 => 181 | 317 => 203 | 318 => 204 | 319 => 205 | 320 => 206 | 337 => 209 | 338 => 210 | n => n, fun | 3 => 3 | 9 => 9 | 2 => 2 | 4 => 4 | 171 => 218 | 0 => 0 | 53 => 154 | 37 => 56 | 5 => 5 | 173 => 220 | 212 => 239 | 51 => 200 | 20 => 20 | 213 => 240 | 46 => 174 | 232 => 247 | 233 => 248 | n => n, fun | 17 => 3 | 18 => 4 | 19 => 5 | n => n⟩
theorem lay68 : Go.Proofs.LaysM.n171 Tryd.prog lay68_ren := {
  mixed := by kernel_rfl
  f129 := Tryd.func181.trans (congrArg some (by kernel_rfl))
  f171 := Tryd.func68.trans (congrArg some (by kernel_rfl))
  f243 := Tryd.func116.trans (congrArg some (by kernel_rfl))
  f246 := Tryd.func153.trans (congrArg some (by kernel_rfl))
  f283 := Tryd.func182.trans (congrArg some (by kernel_rfl))
  f284 := Tryd.func183.trans (congrArg some (by kernel_rfl))
  f285 := Tryd.func184.trans (congrArg some (by kernel_rfl))
  f286 := Tryd.func185.trans (congrArg some (by kernel_rfl))
  f317 := Tryd.func203.trans (congrArg some (by kernel_rfl))
  f318 := Tryd.func204.trans (congrArg some (by kernel_rfl))
  f319 := Tryd.func205.trans (congrArg some (by kernel_rfl))
  f320 := Tryd.func206.trans (congrArg some (by kernel_rfl))
  f337 := Tryd.func209.trans (congrArg some (by kernel_rfl))
  f338 := Tryd.func210.trans (congrArg some (by kernel_rfl))
  t0 := Tryd.underlying0
  a0 := Tryd.isAgg0
  z0 := Tryd.sizeOf0
  v0 := Tryd.zeroValue0
  t2 := Tryd.underlying2
  a2 := Tryd.isAgg2
  z2 := Tryd.sizeOf2
  v2 := Tryd.zeroValue2
  t3 := Tryd.underlying3
  a3 := Tryd.isAgg3
  z3 := Tryd.sizeOf3
  v3 := Tryd.zeroValue3
  t4 := Tryd.underlying4
  a4 := Tryd.isAgg4
  z4 := Tryd.sizeOf4
  v4 := Tryd.zeroValue4
  t5 := Tryd.underlying5
  a5 := Tryd.isAgg5
  z5 := Tryd.sizeOf5
  v5 := Tryd.zeroValue5
  t9 := Tryd.underlying9
  a9 := Tryd.isAgg9
  z9 := Tryd.sizeOf9
  v9 := Tryd.zeroValue9
  t20 := Tryd.underlying20
  a20 := Tryd.isAgg20
  z20 := Tryd.sizeOf20
  v20 := Tryd.zeroValue20
  t37 := Tryd.underlying56
  a37 := Tryd.isAgg56
  z37 := Tryd.sizeOf56
  v37 := Tryd.zeroValue56
  t46 := Tryd.underlying174
  a46 := Tryd.isAgg174
  z46 := Tryd.sizeOf174
  v46 := Tryd.zeroValue174
  t51 := Tryd.underlying200
  a51 := Tryd.isAgg200
  z51 := Tryd.sizeOf200
  v51 := Tryd.zeroValue200
  t53 := Tryd.underlying154
  a53 := Tryd.isAgg154
  z53 := Tryd.sizeOf154
  v53 := Tryd.zeroValue154
  t171 := Tryd.underlying218
  a171 := Tryd.isAgg218
  z171 := Tryd.sizeOf218
  v171 := Tryd.zeroValue218
  t173 := Tryd.underlying220
  a173 := Tryd.isAgg220
  z173 := Tryd.sizeOf220
  v173 := Tryd.zeroValue220
  t212 := Tryd.underlying239
  a212 := Tryd.isAgg239
  z212 := Tryd.sizeOf239
  v212 := Tryd.zeroValue239
  t213 := Tryd.underlying240
  a213 := Tryd.isAgg240
  z213 := Tryd.sizeOf240
  t232 := Tryd.underlying247
  a232 := Tryd.isAgg247
  z232 := Tryd.sizeOf247
  v232 := Tryd.zeroValue247
  t233 := Tryd.underlying248
  a233 := Tryd.isAgg248
  z233 := Tryd.sizeOf248
  v233 := Tryd.zeroValue248
  g17 := by kernel_rfl
  g18 := by kernel_rfl
  g19 := by kernel_rfl
  i0 := by kernel_rfl
  i2 := by kernel_rfl
  i3 := by kernel_rfl
  i4 := by kernel_rfl
  i5 := by kernel_rfl
  i9 := by kernel_rfl
  i20 := by kernel_rfl
  i37 := by kernel_rfl
  i46 := by kernel_rfl
  i51 := by kernel_rfl
  i53 := by kernel_rfl
  i171 := by kernel_rfl
  i173 := by kernel_rfl
  i212 := by kernel_rfl
  i232 := by kernel_rfl
  i233 := by kernel_rfl
  m17 := by kernel_rfl
  m18 := by kernel_rfl
  m19 := by kernel_rfl }
theorem fnok68 : FnOK Tryd.prog 68 := ⟨Tryd.f68, _, Tryd.func68, by decide, rfl⟩
noncomputable def C17 (n : Nat) : Call2 E := moreP 68 [(.int .i64)] .str (fun x => itoaO x.1) (C16 n)

/- clapperbridge/load.Scalar -/
noncomputable def load_Scalar (n : Nat) (x0 : Int) (x1 : List UInt8) : Option (ApiValue × Int) := F2 (E := E) tt gl H (C17 n) n 35 Tryd.f35 [.t (.int .i64), .t .str] (x0, x1, ())
theorem load_Scalar_eq (n : Nat) (x0 : Int) (x1 : List UInt8) : load_Scalar n x0 x1 = (bif (decide (x0 = 1)) then (Option.bind (slices_Index_string n [[102, 97, 108, 115, 101], [116, 114, 117, 101]] x1) fun r1 => (bif (decide (r1 < 0)) then (some ((ApiValue.mk 0 0 [] []), 14)) else (Option.bind (value_Check n (ApiValue.mk x0 r1 [] [])) fun r2 => (bif (!decide (r2 = 0)) then (some ((ApiValue.mk 0 0 [] []), r2)) else (some ((ApiValue.mk x0 r1 [] []), 0)))))) else (bif (decide (x0 = 2)) then (bif (decide (x0 = 2)) then (Option.bind (atoiO x1) fun r3 => (bif (!r3.2) then (some ((ApiValue.mk 0 0 [] []), 14)) else (Option.bind (itoaO r3.1) fun r4 => (bif (!(r4 == x1)) then (some ((ApiValue.mk 0 0 [] []), 14)) else (Option.bind (value_Check n (ApiValue.mk x0 r3.1 [] [])) fun r5 => (bif (!decide (r5 = 0)) then (some ((ApiValue.mk 0 0 [] []), r5)) else (some ((ApiValue.mk x0 r3.1 [] []), 0)))))))) else (bif (decide (x0 = 5)) then (Option.bind (value_Check n (ApiValue.mk x0 0 x1 [])) fun r6 => (bif (!decide (r6 = 0)) then (some ((ApiValue.mk 0 0 [] []), r6)) else (some ((ApiValue.mk x0 0 x1 []), 0)))) else (some ((ApiValue.mk 0 0 [] []), 8)))) else (bif (decide (x0 = 4)) then (Option.bind (atoiO x1) fun r7 => (bif (!r7.2) then (some ((ApiValue.mk 0 0 [] []), 14)) else (Option.bind (itoaO r7.1) fun r8 => (bif (!(r8 == x1)) then (some ((ApiValue.mk 0 0 [] []), 14)) else (Option.bind (value_Check n (ApiValue.mk x0 r7.1 [] [])) fun r9 => (bif (!decide (r9 = 0)) then (some ((ApiValue.mk 0 0 [] []), r9)) else (some ((ApiValue.mk x0 r7.1 [] []), 0)))))))) else (bif (decide (x0 = 5)) then (Option.bind (value_Check n (ApiValue.mk x0 0 x1 [])) fun r10 => (bif (!decide (r10 = 0)) then (some ((ApiValue.mk 0 0 [] []), r10)) else (some ((ApiValue.mk x0 0 x1 []), 0)))) else (some ((ApiValue.mk 0 0 [] []), 8)))))) := by kernel_rfl
noncomputable def C18 (n : Nat) : Call2 E := more tt gl H (C17 n) n 35 Tryd.f35 [.t (.int .i64), .t .str] (C17 n)
def lay95_ren : Go.Shelf.Ren := ⟨fun | 101 => 95 | 208 => 139 | 206 => 161 | n => n, fun | 9 => 9 | 4 => 4 | 3 => 3 | n => n, fun | n => n⟩
theorem lay95 : Go.Proofs.Lays.n101 Tryd.prog lay95_ren := {
  mixed := by kernel_rfl
  f101 := Tryd.func95.trans (congrArg some (by kernel_rfl))
  f206 := Tryd.func161.trans (congrArg some (by kernel_rfl))
  f208 := Tryd.func139.trans (congrArg some (by kernel_rfl))
  t3 := Tryd.underlying3
  a3 := Tryd.isAgg3
  z3 := Tryd.sizeOf3
  v3 := Tryd.zeroValue3
  t4 := Tryd.underlying4
  a4 := Tryd.isAgg4
  z4 := Tryd.sizeOf4
  v4 := Tryd.zeroValue4
  t9 := Tryd.underlying9
  a9 := Tryd.isAgg9
  z9 := Tryd.sizeOf9
  v9 := Tryd.zeroValue9 }
theorem fnok95 : FnOK Tryd.prog 95 := ⟨Tryd.f95, _, Tryd.func95, by decide, rfl⟩
noncomputable def C19 (n : Nat) : Call2 E := moreP 95 [.str, .str] .str (fun x => some (Go.Lib.trimPrefix x.1 x.2.1)) (C18 n)
def lay96_ren : Go.Shelf.Ren := ⟨fun | 174 => 96 | 247 => 140 | 245 => 138 | 287 => 165 | 279 => 166 | 280 => 167 | 281 => 168 | 282 => 169 | 321 => 193 | 322 => 194 | 316 => 195 | 171 => 68 | 205 => 196 | 243 => 116 | 246 => 153 | 283 => 182 | 284 => 183 | 285 => 184 | 286 => 185 | 129 => 181 | 317 => 203 | 318 => 204 | 319 => 205 | 320 => 206 | 337 => 209 | 338 => 210 | n => n, fun | 9 => 9 | 3 => 3 | 2 => 2 | 75 => 136 | 85 => 140 | 4 => 4 | 167 => 205 | 5 => 5 | 53 => 154 | 175 => 181 | 46 => 174 | 168 => 206 | 37 => 56 | 0 => 0 | 210 => 231 | 21 => 21 | 127 => 197 | 145 => 244 | 143 => 242 | 171 => 218 | 173 => 220 | 212 => 239 | 51 => 200 | 20 => 20 | 213 => 240 | 232 => 247 | 233 => 248 | 80 => 172 | n => n, fun | 15 => 0 | 16 => 1 | 17 => 3 | 18 => 4 | 19 => 5 | n => n⟩
theorem lay96 : Go.Proofs.LaysC.n174 Tryd.prog lay96_ren := {
  mixed := by kernel_rfl
  f129 := Tryd.func181.trans (congrArg some (by kernel_rfl))
  f171 := Tryd.func68.trans (congrArg some (by kernel_rfl))
  f174 := Tryd.func96.trans (congrArg some (by kernel_rfl))
  f205 := Tryd.func196.trans (congrArg some (by kernel_rfl))
  f243 := Tryd.func116.trans (congrArg some (by kernel_rfl))
  f245 := Tryd.func138.trans (congrArg some (by kernel_rfl))
  f246 := Tryd.func153.trans (congrArg some (by kernel_rfl))
  f247 := Tryd.func140.trans (congrArg some (by kernel_rfl))
  f279 := Tryd.func166.trans (congrArg some (by kernel_rfl))
  f280 := Tryd.func167.trans (congrArg some (by kernel_rfl))
  f281 := Tryd.func168.trans (congrArg some (by kernel_rfl))
  f282 := Tryd.func169.trans (congrArg some (by kernel_rfl))
  f283 := Tryd.func182.trans (congrArg some (by kernel_rfl))
  f284 := Tryd.func183.trans (congrArg some (by kernel_rfl))
  f285 := Tryd.func184.trans (congrArg some (by kernel_rfl))
  f286 := Tryd.func185.trans (congrArg some (by kernel_rfl))
  f287 := Tryd.func165.trans (congrArg some (by kernel_rfl))
  f316 := Tryd.func195.trans (congrArg some (by kernel_rfl))
  f317 := Tryd.func203.trans (congrArg some (by kernel_rfl))
  f318 := Tryd.func204.trans (congrArg some (by kernel_rfl))
  f319 := Tryd.func205.trans (congrArg some (by kernel_rfl))
  f320 := Tryd.func206.trans (congrArg some (by kernel_rfl))
  f321 := Tryd.func193.trans (congrArg some (by kernel_rfl))
  f322 := Tryd.func194.trans (congrArg some (by kernel_rfl))
  f337 := Tryd.func209.trans (congrArg some (by kernel_rfl))
  f338 := Tryd.func210.trans (congrArg some (by kernel_rfl))
  t0 := Tryd.underlying0
  a0 := Tryd.isAgg0
  z0 := Tryd.sizeOf0
  v0 := Tryd.zeroValue0
  t2 := Tryd.underlying2
  a2 := Tryd.isAgg2
  z2 := Tryd.sizeOf2
  v2 := Tryd.zeroValue2
  t3 := Tryd.underlying3
  a3 := Tryd.isAgg3
  z3 := Tryd.sizeOf3
  v3 := Tryd.zeroValue3
  t4 := Tryd.underlying4
  a4 := Tryd.isAgg4
  z4 := Tryd.sizeOf4
  v4 := Tryd.zeroValue4
  t5 := Tryd.underlying5
  a5 := Tryd.isAgg5
  z5 := Tryd.sizeOf5
  v5 := Tryd.zeroValue5
  t9 := Tryd.underlying9
  a9 := Tryd.isAgg9
  z9 := Tryd.sizeOf9
  v9 := Tryd.zeroValue9
  t20 := Tryd.underlying20
  a20 := Tryd.isAgg20
  z20 := Tryd.sizeOf20
  v20 := Tryd.zeroValue20
  t21 := Tryd.underlying21
  a21 := Tryd.isAgg21
  z21 := Tryd.sizeOf21
  v21 := Tryd.zeroValue21
  t37 := Tryd.underlying56
  a37 := Tryd.isAgg56
  z37 := Tryd.sizeOf56
  v37 := Tryd.zeroValue56
  t46 := Tryd.underlying174
  a46 := Tryd.isAgg174
  z46 := Tryd.sizeOf174
  v46 := Tryd.zeroValue174
  t51 := Tryd.underlying200
  a51 := Tryd.isAgg200
  z51 := Tryd.sizeOf200
  v51 := Tryd.zeroValue200
  t53 := Tryd.underlying154
  a53 := Tryd.isAgg154
  z53 := Tryd.sizeOf154
  v53 := Tryd.zeroValue154
  t75 := Tryd.underlying136
  a75 := Tryd.isAgg136
  z75 := Tryd.sizeOf136
  v75 := Tryd.zeroValue136
  t85 := Tryd.underlying140
  a85 := Tryd.isAgg140
  z85 := Tryd.sizeOf140
  v85 := Tryd.zeroValue140
  t127 := Tryd.underlying197
  a127 := Tryd.isAgg197
  z127 := Tryd.sizeOf197
  v127 := Tryd.zeroValue197
  t143 := Tryd.underlying242
  a143 := Tryd.isAgg242
  z143 := Tryd.sizeOf242
  v143 := Tryd.zeroValue242
  t145 := Tryd.underlying244
  a145 := Tryd.isAgg244
  z145 := Tryd.sizeOf244
  v145 := Tryd.zeroValue244
  t167 := Tryd.underlying205
  a167 := Tryd.isAgg205
  z167 := Tryd.sizeOf205
  v167 := Tryd.zeroValue205
  t168 := Tryd.underlying206
  a168 := Tryd.isAgg206
  z168 := Tryd.sizeOf206
  v168 := Tryd.zeroValue206
  t171 := Tryd.underlying218
  a171 := Tryd.isAgg218
  z171 := Tryd.sizeOf218
  v171 := Tryd.zeroValue218
  t173 := Tryd.underlying220
  a173 := Tryd.isAgg220
  z173 := Tryd.sizeOf220
  v173 := Tryd.zeroValue220
  t175 := Tryd.underlying181
  a175 := Tryd.isAgg181
  z175 := Tryd.sizeOf181
  v175 := Tryd.zeroValue181
  t210 := Tryd.underlying231
  a210 := Tryd.isAgg231
  z210 := Tryd.sizeOf231
  v210 := Tryd.zeroValue231
  t212 := Tryd.underlying239
  a212 := Tryd.isAgg239
  z212 := Tryd.sizeOf239
  v212 := Tryd.zeroValue239
  t213 := Tryd.underlying240
  a213 := Tryd.isAgg240
  z213 := Tryd.sizeOf240
  t232 := Tryd.underlying247
  a232 := Tryd.isAgg247
  z232 := Tryd.sizeOf247
  v232 := Tryd.zeroValue247
  t233 := Tryd.underlying248
  a233 := Tryd.isAgg248
  z233 := Tryd.sizeOf248
  v233 := Tryd.zeroValue248
  g15 := by kernel_rfl
  g16 := by kernel_rfl
  g17 := by kernel_rfl
  g18 := by kernel_rfl
  g19 := by kernel_rfl
  t80 := Tryd.underlying172
  a80 := Tryd.isAgg172
  z80 := Tryd.sizeOf172
  v80 := Tryd.zeroValue172
  i0 := by kernel_rfl
  i2 := by kernel_rfl
  i3 := by kernel_rfl
  i4 := by kernel_rfl
  i5 := by kernel_rfl
  i9 := by kernel_rfl
  i20 := by kernel_rfl
  i21 := by kernel_rfl
  i37 := by kernel_rfl
  i46 := by kernel_rfl
  i51 := by kernel_rfl
  i53 := by kernel_rfl
  i75 := by kernel_rfl
  i80 := by kernel_rfl
  i85 := by kernel_rfl
  i127 := by kernel_rfl
  i143 := by kernel_rfl
  i145 := by kernel_rfl
  i167 := by kernel_rfl
  i168 := by kernel_rfl
  i171 := by kernel_rfl
  i173 := by kernel_rfl
  i175 := by kernel_rfl
  i210 := by kernel_rfl
  i212 := by kernel_rfl
  i232 := by kernel_rfl
  i233 := by kernel_rfl
  m15 := by kernel_rfl
  m16 := by kernel_rfl
  m17 := by kernel_rfl
  m18 := by kernel_rfl
  m19 := by kernel_rfl
  c0 := by kernel_rfl
  c2 := by kernel_rfl
  c3 := by kernel_rfl
  c4 := by kernel_rfl
  c5 := by kernel_rfl
  c9 := by kernel_rfl
  c20 := by kernel_rfl
  c21 := by kernel_rfl
  c37 := by kernel_rfl
  c46 := by kernel_rfl
  c51 := by kernel_rfl
  c53 := by kernel_rfl
  c75 := by kernel_rfl
  c80 := by kernel_rfl
  c85 := by kernel_rfl
  c127 := by kernel_rfl
  c143 := by kernel_rfl
  c145 := by kernel_rfl
  c167 := by kernel_rfl
  c168 := by kernel_rfl
  c171 := by kernel_rfl
  c173 := by kernel_rfl
  c175 := by kernel_rfl
  c210 := by kernel_rfl
  c212 := by kernel_rfl
  c213 := by kernel_rfl
  c232 := by kernel_rfl
  c233 := by kernel_rfl }
theorem fnok96 : FnOK Tryd.prog 96 := ⟨Tryd.f96, _, Tryd.func96, by decide, rfl⟩
noncomputable def C20 (n : Nat) : Call2 E := moreE 96 [.str, (.int .i64), (.int .i64)] (.int .i64) (fun x => parseO x.1 x.2.1 x.2.2.1) (C19 n)

/- clapperbridge/clapref2.Told -/
noncomputable def ref2_Told (n : Nat) (x0 : Int) (x1 : List UInt8) : Option (ApiValue × Int) := F2 (E := E) tt gl H (C20 n) n 36 Tryd.f36 [.t (.int .i64), .t .str] (x0, x1, ())
theorem ref2_Told_eq (n : Nat) (x0 : Int) (x1 : List UInt8) : ref2_Told n x0 x1 = (bif (decide (x0 = 1)) then (bif (x1 == [116, 114, 117, 101]) then (some ((ApiValue.mk x0 (IntKind.wrap .i64 ((5 : Int) - (List.length x1 : Int))) [] []), 0)) else (bif (x1 == [102, 97, 108, 115, 101]) then (some ((ApiValue.mk x0 (IntKind.wrap .i64 ((5 : Int) - (List.length x1 : Int))) [] []), 0)) else (some ((ApiValue.mk 0 0 [] []), 14)))) else (bif (decide (x0 = 2)) then (bif (decide (x0 = 2)) then (Option.bind (parseO x1 10 64) fun r1 => (bif (!r1.2) then (some ((ApiValue.mk 0 0 [] []), 14)) else (bif (decide (0 ≤ (0 : Int)) && decide ((0 : Int) < List.length (Go.Lib.trimPrefix x1 ([45] : List UInt8)))) then (bif (decide (((UInt8.toNat (List.getD (Go.Lib.trimPrefix x1 ([45] : List UInt8)) (Int.toNat (0 : Int)) 0) : Nat) : Int) = 48)) then (bif (!(x1 == [48])) then (some ((ApiValue.mk 0 0 [] []), 14)) else (bif (decide (0 ≤ (0 : Int)) && decide ((0 : Int) < List.length (Go.Lib.trimPrefix x1 ([45] : List UInt8)))) then (bif (decide (((UInt8.toNat (List.getD (Go.Lib.trimPrefix x1 ([45] : List UInt8)) (Int.toNat (0 : Int)) 0) : Nat) : Int) = 43)) then (some ((ApiValue.mk 0 0 [] []), 14)) else (Option.bind (value_Check n (ApiValue.mk x0 r1.1 [] [])) fun r2 => (bif (!decide (r2 = 0)) then (some ((ApiValue.mk 0 0 [] []), r2)) else (some ((ApiValue.mk x0 r1.1 [] []), 0))))) else none)) else (bif (decide (0 ≤ (0 : Int)) && decide ((0 : Int) < List.length (Go.Lib.trimPrefix x1 ([45] : List UInt8)))) then (bif (decide (((UInt8.toNat (List.getD (Go.Lib.trimPrefix x1 ([45] : List UInt8)) (Int.toNat (0 : Int)) 0) : Nat) : Int) = 43)) then (some ((ApiValue.mk 0 0 [] []), 14)) else (Option.bind (value_Check n (ApiValue.mk x0 r1.1 [] [])) fun r3 => (bif (!decide (r3 = 0)) then (some ((ApiValue.mk 0 0 [] []), r3)) else (some ((ApiValue.mk x0 r1.1 [] []), 0))))) else none)) else none))) else (bif (decide (x0 = 5)) then (bif (decide ((List.length x1 : Int) > 4000)) then (some ((ApiValue.mk 0 0 [] []), 2)) else (some ((ApiValue.mk x0 0 x1 []), 0))) else (some ((ApiValue.mk 0 0 [] []), 8)))) else (bif (decide (x0 = 4)) then (Option.bind (parseO x1 10 64) fun r4 => (bif (!r4.2) then (some ((ApiValue.mk 0 0 [] []), 14)) else (bif (decide (0 ≤ (0 : Int)) && decide ((0 : Int) < List.length (Go.Lib.trimPrefix x1 ([45] : List UInt8)))) then (bif (decide (((UInt8.toNat (List.getD (Go.Lib.trimPrefix x1 ([45] : List UInt8)) (Int.toNat (0 : Int)) 0) : Nat) : Int) = 48)) then (bif (!(x1 == [48])) then (some ((ApiValue.mk 0 0 [] []), 14)) else (bif (decide (0 ≤ (0 : Int)) && decide ((0 : Int) < List.length (Go.Lib.trimPrefix x1 ([45] : List UInt8)))) then (bif (decide (((UInt8.toNat (List.getD (Go.Lib.trimPrefix x1 ([45] : List UInt8)) (Int.toNat (0 : Int)) 0) : Nat) : Int) = 43)) then (some ((ApiValue.mk 0 0 [] []), 14)) else (Option.bind (value_Check n (ApiValue.mk x0 r4.1 [] [])) fun r5 => (bif (!decide (r5 = 0)) then (some ((ApiValue.mk 0 0 [] []), r5)) else (some ((ApiValue.mk x0 r4.1 [] []), 0))))) else none)) else (bif (decide (0 ≤ (0 : Int)) && decide ((0 : Int) < List.length (Go.Lib.trimPrefix x1 ([45] : List UInt8)))) then (bif (decide (((UInt8.toNat (List.getD (Go.Lib.trimPrefix x1 ([45] : List UInt8)) (Int.toNat (0 : Int)) 0) : Nat) : Int) = 43)) then (some ((ApiValue.mk 0 0 [] []), 14)) else (Option.bind (value_Check n (ApiValue.mk x0 r4.1 [] [])) fun r6 => (bif (!decide (r6 = 0)) then (some ((ApiValue.mk 0 0 [] []), r6)) else (some ((ApiValue.mk x0 r4.1 [] []), 0))))) else none)) else none))) else (bif (decide (x0 = 5)) then (bif (decide ((List.length x1 : Int) > 4000)) then (some ((ApiValue.mk 0 0 [] []), 2)) else (some ((ApiValue.mk x0 0 x1 []), 0))) else (some ((ApiValue.mk 0 0 [] []), 8)))))) := by kernel_rfl
noncomputable def C21 (n : Nat) : Call2 E := more tt gl H (C20 n) n 36 Tryd.f36 [.t (.int .i64), .t .str] (C20 n)

/- clapperbridge/claplaw2.LoadScalars$1 -/
noncomputable def law2_LoadScalars_1 (n : Nat) (x0 : List UInt8) (x1 : Bool) (x2 : List UInt8) (x3 : ApiValue) : Option ApiValue := F2 (E := E) tt gl H (C21 n) n 38 Tryd.f38 [.t .str, .imm .bool, .imm .str, .imm (.nm 0)] (x0, x1, x2, x3, ())
theorem law2_LoadScalars_1_eq (n : Nat) (x0 : List UInt8) (x1 : Bool) (x2 : List UInt8) (x3 : ApiValue) : law2_LoadScalars_1 n x0 x1 x2 x3 = (bif x1 then none else (bif (!(x0 == x2)) then none else (some x3))) := by kernel_rfl
noncomputable def C22 (n : Nat) : Call2 E := more tt gl H (C21 n) n 38 Tryd.f38 [.t .str, .imm .bool, .imm .str, .imm (.nm 0)] (C21 n)

/- slices.Clone[[]clapperbridge/api.Field,clapperbridge/api.Field] -/
noncomputable def slices_Clone_Field_nil (n : Nat) (x0 : Unit) : Option (List ApiField) := F2 (E := E) tt gl H (C22 n) n 141 Tryd.f141 [.snil (.nm 1)] ((), ())
theorem slices_Clone_Field_nil_eq (n : Nat) (x0 : Unit) : slices_Clone_Field_nil n x0 = (some []) := by kernel_rfl
noncomputable def C23 (n : Nat) : Call2 E := more tt gl H (C22 n) n 141 Tryd.f141 [.snil (.nm 1)] (C22 n)

/- slices.Clone[[]clapperbridge/api.Field,clapperbridge/api.Field] -/
noncomputable def slices_Clone_Field_nn (n : Nat) (x0 : List ApiField) : Option (List ApiField) := F2 (E := E) tt gl H (C22 n) n 141 Tryd.f141 [.snn (.nm 1)] (x0, ())
theorem slices_Clone_Field_nn_eq (n : Nat) (x0 : List ApiField) : slices_Clone_Field_nn n x0 = (bif (decide (0 = List.length ([] : List ApiField)) && decide (List.length ([] : List ApiField) + List.length x0 ≤ 4294967296)) then (bif (decide ((List.length (([] : List ApiField) ++ x0)) = List.length (([] : List ApiField) ++ x0))) then (some (([] : List ApiField) ++ x0)) else none) else none) := by kernel_rfl
theorem slices_Clone_Field_nn_hq (n : Nat) : slices_Clone_Field_nil n () = slices_Clone_Field_nn n [] := (slices_Clone_Field_nil_eq n ()).trans (Eq.symm ((slices_Clone_Field_nn_eq n []).trans (by kernel_rfl)))
noncomputable def C24 (n : Nat) : Call2 E := moreN tt gl H (C22 n) n 141 Tryd.f141 (.nm 1) (C23 n)
noncomputable def Cr24 : Nat → Nat → Call2 E
  | 0, n => C24 n
  | d + 1, n => (more tt gl H (Cr24 d n) n 98 Tryd.f98 [.t (.nm 0)] (C24 n))
noncomputable def C25 (n : Nat) : Call2 E := Cr24 (n + 1) n

/- clapperbridge/value.Copy -/
noncomputable def value_Copy (d : Nat) (n : Nat) (x0 : ApiValue) : Option ApiValue := F2 (E := E) tt gl H (Cr24 d n) n 98 Tryd.f98 [.t (.nm 0)] (x0, ())
noncomputable def value_Copy_l0 (d : Nat) (n : Nat) (m0 : Nat) (v10 : Int) (v11 : Int) (w1_0 : Int) (w1_1 : Int) (w1_2 : List UInt8) (w1_3l : Nat) (w2 : ApiValue) (w6 : List ApiField) : Option ApiValue := lp (E := E) (ps := [.t (.nm 0)]) tt gl H (Cr24 d n) n 98 Tryd.f98 [1, 1, 0, 1, 0] [] m0 ⟨mkT 28 0 [(1, .ptr 1 (.nm 0) []), (2, .ptr 2 (.nm 0) []), (10, .t (.int .i64) v10), (11, .t (.int .i64) v11)], mkB 112 0 [(1, .var (.nm 0) (.agg [.t (.int .i64) w1_0, .t (.int .i64) w1_1, .t .str w1_2, .fs 6 (.nm 1) 0 w1_3l])), (2, .var (.nm 0) (.t (.nm 0) w2)), (6, .row (.nm 1) w6)]⟩
theorem value_Copy_l0_eq (d : Nat) (n : Nat) (m0 : Nat) (v10 : Int) (v11 : Int) (w1_0 : Int) (w1_1 : Int) (w1_2 : List UInt8) (w1_3l : Nat) (w2 : ApiValue) (w6 : List ApiField) : value_Copy_l0 (d + 1) n (m0 + 1) v10 v11 w1_0 w1_1 w1_2 w1_3l w2 w6 = (bif (decide (v11 < v10)) then (bif (decide (0 ≤ v11) && decide (v11 < (w1_3l : Int))) then (bif (decide ((0 + (Int.toNat v11)) < List.length w6)) then (Option.bind (value_Copy d n ((List.getD w6 (0 + (Int.toNat v11)) (ApiField.mk [] (ApiValue.mk 0 0 [] []))).Val)) fun r2 => (bif (decide (0 ≤ v11) && decide (v11 < (w1_3l : Int))) then (bif (decide ((0 + (Int.toNat v11)) < List.length w6)) then (value_Copy_l0 (d + 1) n m0 v10 (IntKind.wrap .i64 (v11 + 1)) w1_0 w1_1 w1_2 w1_3l w2 (List.set w6 (0 + (Int.toNat v11)) (ApiField.mk ((List.getD w6 (0 + (Int.toNat v11)) (ApiField.mk [] (ApiValue.mk 0 0 [] []))).Name) r2))) else none) else none)) else none) else none) else (bif (((decide (0 + w1_3l ≤ List.length w6)) && true) && true) then (some (ApiValue.mk w1_0 w1_1 w1_2 (List.take w1_3l w6))) else none)) := by kernel_rfl
theorem value_Copy_l0_zero (d : Nat) (n : Nat) (v10 : Int) (v11 : Int) (w1_0 : Int) (w1_1 : Int) (w1_2 : List UInt8) (w1_3l : Nat) (w2 : ApiValue) (w6 : List ApiField) : value_Copy_l0 d n 0 v10 v11 w1_0 w1_1 w1_2 w1_3l w2 w6 = none := by kernel_rfl
theorem value_Copy_l0_fold (d : Nat) (n : Nat) (w1_0 : Int) (w1_1 : Int) (w1_2 : List UInt8) (w1_3l : Nat) (w2 : ApiValue) (N : Nat) (w6 : List ApiField) (hl : N < 9223372036854775807) (m i : Nat) (hi : i ≤ N) (hm : N - i < m) : value_Copy_l0 (d + 1) n m (N : Int) (i : Int) w1_0 w1_1 w1_2 w1_3l w2 w6 = foldN (S := (List ApiField)) (fun i s K => (bif (decide (0 ≤ (i : Int)) && decide ((i : Int) < (w1_3l : Int))) then (bif (decide ((0 + (Int.toNat (i : Int))) < List.length s)) then (Option.bind (value_Copy d n ((List.getD s (0 + (Int.toNat (i : Int))) (ApiField.mk [] (ApiValue.mk 0 0 [] []))).Val)) fun r2 => (bif (decide (0 ≤ (i : Int)) && decide ((i : Int) < (w1_3l : Int))) then (bif (decide ((0 + (Int.toNat (i : Int))) < List.length s)) then (K (List.set s (0 + (Int.toNat (i : Int))) (ApiField.mk ((List.getD s (0 + (Int.toNat (i : Int))) (ApiField.mk [] (ApiValue.mk 0 0 [] []))).Name) r2))) else none) else none)) else none) else none)) (fun s => (bif (((decide (0 + w1_3l ≤ List.length s)) && true) && true) then (some (ApiValue.mk w1_0 w1_1 w1_2 (List.take w1_3l s))) else none)) (N - i) i (w6) := count_loop N hl (fun m (k : Int) (s : (List ApiField)) => value_Copy_l0 (d + 1) n m (N : Int) k w1_0 w1_1 w1_2 w1_3l w2 s) _ _ (fun m i s => (value_Copy_l0_eq d n m (N : Int) (i : Int) w1_0 w1_1 w1_2 w1_3l w2 s).trans (by kernel_rfl)) m i hi hm (w6)
theorem value_Copy_eq (d : Nat) (n : Nat) (x0 : ApiValue) : value_Copy (d + 1) n x0 = (Option.bind (slices_Clone_Field_nn n x0.Fields) fun r1 => (value_Copy_l0 (d + 1) n n ((List.length r1) : Int) 0 x0.Kind x0.N x0.S (List.length r1) (ApiValue.mk 0 0 [] []) r1)) := by kernel_rfl
noncomputable def grest37 : Code := restOf Tryd.f37
noncomputable def load_Guard (n : Nat) (x0 : (Bool × (List UInt8) × ApiValue × Unit)) (x1 : List UInt8) : Option (ApiValue × Bool) := FG (E := E) tt gl H (C25 n) n 37 grest37 16 4 5 (.nm 0) 38 [.bool, .str, (.nm 0)] x0 x1
theorem load_Guard_eq (n : Nat) (x0 : (Bool × (List UInt8) × ApiValue × Unit)) (x1 : List UInt8) : load_Guard n x0 x1 = (Option.bind (law2_LoadScalars_1 n x1 x0.1 x0.2.1 x0.2.2.1) fun r1 => (Option.bind (value_Copy n n r1) fun r2 => (Option.bind (value_Check n r2) fun r3 => (bif (!decide (r3 = 0)) then (some ((ApiValue.mk 0 0 [] []), false)) else (some (r2, true)))))) := by kernel_rfl
theorem g_body : Tryd.f37.body = some (.seq (r0Of Tryd.f37) (.seq (r1Of Tryd.f37) (restOf Tryd.f37))) := by kernel_rfl
theorem g_r0 (n : Nat) (x : capD E [.bool, .str, .nm 0]) (s : List UInt8) : exec tt gl H 2 (callR (C25 n)) n 37 (r0Of Tryd.f37) 0 stK (Fv.start Tryd.f37 [.func 38 (encCap [.bool, .str, .nm 0] x), .t .str s] [.none, .none]) = stK .normal (stG 16 4 5 (.nm 0) 38 (encCap [.bool, .str, .nm 0] x) s) := by kernel_rfl
theorem g_r1 (t0 t1 t2 t3 p q t6 t7 t8 t9 t10 t11 t12 t13 t14 t15 : Value) (w : World) (Q : Exit → Act → World → Prop)
    (h : Q .normal { tmps := #[t0, t1, t2, t3, p, q, .func (.func 97) #[] #[p, q], t7, t8, t9, t10, t11, t12, t13, t14, t15], defers := [{ target := .fn (.func 97) #[p, q], args := #[] }] } w) : (r1Of Tryd.f37).wp Tryd.prog Q { tmps := #[t0, t1, t2, t3, p, q, t6, t7, t8, t9, t10, t11, t12, t13, t14, t15], defers := [] } w := by
  refine wp_region ?_
  have hmf : ∀ (fn : Fn) (first cap : Array Value) (w : World), (Instr.makeFunc fn first cap).run Tryd.prog w = .ok (.func fn first cap) w := fun _ _ _ _ => rfl
  simp [wpOps, Region.wanted, Oper.wp, execOp, hmf, Oper.upon, resolve, Act.eval, Act.put, List.range, List.range.loop, Deferred.ofValue]
  exact .inl (.inl h)
theorem g_pan (vs : Array Value) (s : ByteArray) (t2 t3 p q t6 t7 t8 t9 t10 t11 t12 t13 t14 t15 : Value) (ds : List Deferred) (w : World) (Q : Exit → Act → World → Prop) (K : TypeId → Value → World → Prop)
    (hc : Calls Tryd.prog 38 (#[.string s] ++ vs) w fun e w' => ∃ u pv, e = .panicked [{ v := .iface u pv, recovered := false }] ∧ K u pv w')
    (h : ∀ u pv w', K u pv w' → Q (.panic [{ v := .iface u pv, recovered := false }]) { tmps := #[.func (.func 38) #[] vs, .string s, t2, t3, p, q, t6, .func (.func 38) #[] vs, .string s, t9, t10, t11, t12, t13, t14, t15], defers := ds } w') :
    (restOf Tryd.f37).wp Tryd.prog Q { tmps := #[.func (.func 38) #[] vs, .string s, t2, t3, p, q, t6, t7, t8, t9, t10, t11, t12, t13, t14, t15], defers := ds } w := by
  have hf : FnOK Tryd.prog 38 := ⟨Tryd.f38, _, Tryd.func38, by decide, rfl⟩
  refine wp_seq ?_
  refine wp_region ?_
  have e0 : ∀ (ops : Array Oper) (Q : Exit → Act → World → Prop) (i : Nat) (l : List Nat) (a : Act) (w : World) (o : Oper), ops[i]? = some o → o.guard = none → o.wp Tryd.prog a w (wpOps Tryd.prog ops Q l) Q → wpOps Tryd.prog ops Q (i :: l) a w := by
    intro ops Q i l a w o h1 h2 h3
    simp only [wpOps, h1, Region.wanted, h2, if_true]
    exact .inl h3
  have em : ∀ (o : Oper) (x : Operand) (a : Act) (w : World) (K : Act → World → Prop) (Q : Exit → Act → World → Prop), o.op = .move x → K (a.put o.dst (a.eval x)) w → o.wp Tryd.prog a w K Q := by
    intro o x a w K Q h1 h2
    unfold Oper.wp
    simp only [execOp, h1]
    exact h2
  refine e0 _ _ 0 [1, 2, 3, 4] _ _ _ rfl rfl (em _ (.tmp 0) _ _ _ _ rfl ?_)
  refine e0 _ _ 1 [2, 3, 4] _ _ _ rfl rfl (em _ (.tmp 1) _ _ _ _ rfl ?_)
  refine e0 _ _ 2 [3, 4] _ _ _ rfl rfl ?_
  unfold Oper.wp
  rw [run_enter (g := 38) (caps := vs) rfl rfl rfl hf]
  rw [List.map_toArray, List.map_cons, List.map_nil]
  change Calls Tryd.prog 38 (#[Value.string s] ++ vs) w _
  refine Calls.mono hc ?_
  rintro e w' ⟨u, pv, rfl, hk⟩
  exact h u pv w' hk
theorem gc_body : ∃ id o1 o2 o3, Tryd.f38.body = some (.seq (r0Of Tryd.f38) (.seq (.seq (seqA (r1Of Tryd.f38)) (.cond (.tmp 11) (.region id #[o1, o2, o3] false) .skip)) (restOf Tryd.f38))) ∧
    o1.op = .move (.tmp 0) ∧ o1.dst = some 12 ∧ o1.guard = none ∧ o2.op = .makeInterface 9 (.tmp 12) ∧ o2.dst = some 13 ∧ o2.guard = none ∧ o3.op = .panic (.tmp 13) ∧ o3.guard = none :=
  ⟨_, _, _, _, rfl, rfl, rfl, rfl, rfl, rfl, rfl, rfl, rfl⟩
/-- What the condition comes to. -/
def kP : Ex → St E → Out E
  | .normal, s => bif Nat.beq s.t.length 15 then some (.tup [s.t.getD 0 .undef, s.t.getD 11 .undef], []) else none
  | _, _ => none
theorem gc_r1t (n : Nat) (v : E.D (.nm 0)) (s0 s : List UInt8) : exec tt gl H 4 (callR (C25 n)) n 38 (.seq (r0Of Tryd.f38) (seqA (r1Of Tryd.f38))) 0 kP (Fv.start Tryd.f38 [.t .str s, .imm .bool true, .imm .str s0, .imm (.nm 0) v] [.none, .none, .none, .none]) = some (.tup [.t .str s, .t .bool true], []) := by kernel_rfl
theorem gc_r1f (n : Nat) (v : E.D (.nm 0)) (s0 s : List UInt8) : exec tt gl H 4 (callR (C25 n)) n 38 (.seq (r0Of Tryd.f38) (seqA (r1Of Tryd.f38))) 0 kP (Fv.start Tryd.f38 [.t .str s, .imm .bool false, .imm .str s0, .imm (.nm 0) v] [.none, .none, .none, .none]) = some (.tup [.t .str s, .t .bool (!(s == s0))], []) := by kernel_rfl
theorem gc_pan (n : Nat) (hC : CallOK Tryd.prog gl (callR (C25 n))) {M : Mem} {μ : Mu} {w : World} {args : Array Value} (f : Bool) (s0 s : List UInt8) (v : E.D (.nm 0)) (hgl : GlOK M gl) (hw : WR M μ ([.none, .none, .none, .none] : List (Blk E)) w)
    (hl : RSL (E := E) M μ [.t .str s, .imm .bool f, .imm .str s0, .imm (.nm 0) v] args.toList) (hp : (f || !(s == s0)) = true) :
    Calls Tryd.prog 38 args w fun e w' => ∃ u pv, e = .panicked [{ v := .iface u pv, recovered := false }] ∧ ∃ M' μ' b', Tr 4 M μ (Fv.start Tryd.f38 [.t .str s, .imm .bool f, .imm .str s0, .imm (.nm 0) v] [.none, .none, .none, .none]).b w M' μ' b' w' := by
  obtain ⟨id, o1, o2, o3, hb, a1, a2, a3, b1, b2, b3, c1, c2⟩ := gc_body
  refine calls_of_wp Tryd.func38 hb ?_
  have hr : exec tt gl H 4 (callR (C25 n)) n 38 (.seq (r0Of Tryd.f38) (seqA (r1Of Tryd.f38))) 0 kP (Fv.start Tryd.f38 [.t .str s, .imm .bool f, .imm .str s0, .imm (.nm 0) v] [.none, .none, .none, .none]) = some (.tup [.t .str s, .t .bool true], []) := by
    cases f with
    | true => exact gc_r1t n v s0 s
    | false =>
      simp only [Bool.false_or] at hp
      rw [gc_r1f n v s0 s, hp]
  have hok : ∀ a ∈ ([.t .str s, .imm .bool f, .imm .str s0, .imm (.nm 0) v] : List (AV E)), OKA ([.none, .none, .none, .none] : List (Blk E)) a := by
    intro a ha
    simp only [List.mem_cons, List.not_mem_nil, or_false] at ha
    rcases ha with rfl | rfl | rfl | rfl
    · exact .t _ _ _
    · exact .imm _ _ _
    · exact .imm _ _ _
    · exact .imm _ _ _
  have hI := inv_start (gl := gl) (fn := Tryd.f38) hw hl hok
  have hL : (4 : Nat) ≤ (Fv.start Tryd.f38 ([.t .str s, .imm .bool f, .imm .str s0, .imm (.nm 0) v] : List (AV E)) [.none, .none, .none, .none]).b.length := by simp [Fv.start]
  have hS : ∀ i, 4 ≤ i ∨ 16 ≤ i → blk (Fv.start Tryd.f38 ([.t .str s, .imm .bool f, .imm .str s0, .imm (.nm 0) v] : List (AV E)) [.none, .none, .none, .none]).b i = .none := fun i hi => by
    have hi : 4 ≤ i := by rcases hi with hi | hi; exact hi; omega
    rw [show blk (Fv.start Tryd.f38 ([.t .str s, .imm .bool f, .imm .str s0, .imm (.nm 0) v] : List (AV E)) [.none, .none, .none, .none]).b i = blk ([.none, .none, .none, .none] : List (Blk E)) i from blk_pad _ _ i, blk_ge hi]
  have snd : ∀ (c : Code) (k : Ex → St E → Out E) (st : St E) (act : Act) (w' : World) (res : AV E × List (Blk E)), exec tt gl H 4 (callR (C25 n)) n 38 c 0 k st = some res → Inv gl ⟨4, M, μ, (Fv.start Tryd.f38 ([.t .str s, .imm .bool f, .imm .str s0, .imm (.nm 0) v] : List (AV E)) [.none, .none, .none, .none]).b, w⟩ st act w' →
      c.wp Tryd.prog (Post gl ⟨4, M, μ, (Fv.start Tryd.f38 ([.t .str s, .imm .bool f, .imm .str s0, .imm (.nm 0) v] : List (AV E)) [.none, .none, .none, .none]).b, w⟩ k res) act w' :=
    fun c k st act w' res h hi => exec_sound envOK hz tok hmix hC hL hS hgl (any_ok envOK hz tok hC 38 _ hL hgl) n c 0 k st act w' h hi
  refine wp_seq (wp_mono (snd _ (kSeq (exec tt gl H 4 (callR (C25 n)) n 38 (seqA (r1Of Tryd.f38)) 0) kP) _ _ w _ hr hI) ?_)
  rintro e act0 w0 hp0
  have hp0 : e = .normal ∧ ∃ s', exec tt gl H 4 (callR (C25 n)) n 38 (seqA (r1Of Tryd.f38)) 0 kP s' = some (.tup [.t .str s, .t .bool true], []) ∧ Inv gl ⟨4, M, μ, (Fv.start Tryd.f38 ([.t .str s, .imm .bool f, .imm .str s0, .imm (.nm 0) v] : List (AV E)) [.none, .none, .none, .none]).b, w⟩ s' act0 w0 := by
    cases e with
    | normal => exact ⟨rfl, hp0⟩
    | exit id => obtain ⟨s', h, _⟩ := hp0; cases h
    | ret => obtain ⟨s', h, _⟩ := hp0; cases h
    | _ => exact hp0.elim
  obtain ⟨rfl, s', h1, hI0⟩ := hp0
  refine wp_seq (wp_seq (wp_mono (snd _ kP s' act0 w0 _ h1 hI0) ?_))
  rintro e act1 w1 hpst
  have hpst : e = .normal ∧ ∃ s', kP .normal s' = some (.tup [.t .str s, .t .bool true], []) ∧ Inv gl ⟨4, M, μ, (Fv.start Tryd.f38 ([.t .str s, .imm .bool f, .imm .str s0, .imm (.nm 0) v] : List (AV E)) [.none, .none, .none, .none]).b, w⟩ s' act1 w1 := by
    cases e with
    | normal => exact ⟨rfl, hpst⟩
    | exit id => obtain ⟨s', h, _⟩ := hpst; cases h
    | ret => obtain ⟨s', h, _⟩ := hpst; cases h
    | _ => exact hpst.elim
  obtain ⟨rfl, s2, hk, M', μ', tr, hs⟩ := hpst
  obtain ⟨hlen, hk⟩ := bif_some hk
  have hlen := Nat.eq_of_beq_eq_true hlen
  injection hk with hk
  injection hk with hk _
  injection hk with hk
  injection hk with k1 hk
  injection hk with k2 _
  have t0 := hs.tmps 0
  have t11 := hs.tmps 11
  rw [k1] at t0
  rw [k2] at t11
  have hc11 : act1.eval (.tmp 11) = .bool true := t11.bool_inv
  obtain ⟨sv, hsv⟩ : ∃ sv, act1.tmps.getD 0 undef = .string sv := by
    generalize act1.tmps.getD 0 undef = v0 at t0
    cases t0 with
    | v t0 => cases t0 with
      | t t0 => cases t0; exact ⟨_, rfl⟩
  refine wp_cond (t := true) hc11 ?_
  simp only [if_true]
  refine wp_region ?_
  have sz : act1.tmps.size = 15 := by rw [hs.size, hlen]
  have e0 : ∀ (ops : Array Oper) (Q : Exit → Act → World → Prop) (i : Nat) (l : List Nat) (a : Act) (w : World) (o : Oper), ops[i]? = some o → o.guard = none → o.wp Tryd.prog a w (wpOps Tryd.prog ops Q l) Q → wpOps Tryd.prog ops Q (i :: l) a w := by
    intro ops Q i l a w o h1 h2 h3
    simp only [wpOps, h1, Region.wanted, h2, if_true]
    exact .inl h3
  refine e0 _ _ 0 [1, 2] _ _ o1 rfl a3 ?_
  unfold Oper.wp
  simp only [execOp, a1, Sem.run_pure, Oper.upon_value, a2]
  refine e0 _ _ 1 [2] _ _ o2 rfl b3 ?_
  unfold Oper.wp
  simp only [execOp, b1]
  have e12 : (act1.put (some 12) (act1.eval (.tmp 0))).eval (.tmp 12) = .string sv := by
    simp [Act.put, Act.eval, sz, hsv]
  rw [e12]
  have hmi : (Instr.makeInterface 9 (.string sv)).run Tryd.prog w1 = .ok (.iface 9 (.string sv)) w1 := by
    simp [Instr.makeInterface, run_underlying Tryd.underlying9]
  simp only [Sem.run_bind, hmi, Result.andThen_ok, Sem.run_pure, Oper.upon_value, b2]
  refine e0 _ _ 2 [] _ _ o3 rfl c2 ?_
  unfold Oper.wp
  simp only [execOp, c1]
  have e13 : ((act1.put (some 12) (act1.eval (.tmp 0))).put (some 13) (.iface 9 (.string sv))).eval (.tmp 13) = .iface 9 (.string sv) := by
    simp [Act.put, Act.eval, sz]
  rw [e13]
  have hpn : (Instr.panic (.iface 9 (.string sv))).run Tryd.prog w1 = .halt (.panic (.iface 9 (.string sv))) w1 := rfl
  simp only [Sem.run_bind, hpn]
  exact ⟨hs.defers, 9, .string sv, rfl, M', μ', s2.b, tr⟩
def condThen : Code → Code
  | .seq _ (.cond _ a _) => a
  | c => c
def bodyOf (f : Func) : Code := match f.body with
  | some c => c
  | none => .skip
theorem gd_r (n : Nat) : exec tt gl H 6 (callR (C25 n)) n 97 (condThen (bodyOf Tryd.f97)) 0 stK ⟨[.ptr 4 (.nm 0) [], .ptr 5 .bool [], .undef, .undef, .undef], mkB 64 0 [(4, .var (.nm 0) (.t (.nm 0) (dfl E (.nm 0)))), (5, .var .bool (.t .bool false))]⟩ =
    stK .normal ⟨[.ptr 4 (.nm 0) [], .ptr 5 .bool [], .undef, .undef, .t (.nm 0) (dfl E (.nm 0))], mkB 64 0 [(4, .var (.nm 0) (.t (.nm 0) (dfl E (.nm 0)))), (5, .var .bool (.t .bool false))]⟩ := by kernel_rfl
theorem gcatch_idle (p q : Value) (w : World) :
    CallsD Tryd.prog 97 #[p, q] .returning w fun e u' w' => e = .returned (.tuple #[]) ∧ u' = .returning ∧ w' = w := by
  refine callsD_of_wpS Tryd.func97 rfl fun c₀ cs hu => ?_
  apply wpS_seq
  apply wpS_region
  simp [wpOpsS, go_sem, recoverD, hu, Tryd.ntmps97, Exit.thenS]
  refine wpS_cond (t := false) (by simp [Act.eval, Array.replicate]) ?_
  simp only [Bool.false_eq_true, if_false]
  refine wpS_of_wp (wp_skip ?_)
  cases c₀
  simp_all [bodyPostS, results, Tryd.results97]
theorem gcatch_pan (n : Nat) (hC : CallOK Tryd.prog gl (callR (C25 n))) {aa : List (AV E)} {M : Mem} {μ : Mu} {w0 : World} (hgl : GlOK M gl) {M' : Mem} {μ' : Mu} {w : World} {p q : Value} (u : TypeId) (pv : Value) (older : List PanicEntry)
    (tr : Tr 2 M μ (Fv.start Tryd.f37 aa ([.none, .none] : List (Blk E))).b w0 M' μ' (mkB 64 0 [(4, .var (.nm 0) (.t (.nm 0) (dfl E (.nm 0)))), (5, .var .bool (.t .bool false))]) w)
    (hp : RS (E := E) M' μ' (.ptr 4 (.nm 0) []) p) (hq : RS (E := E) M' μ' (.ptr 5 .bool []) q) :
    CallsD Tryd.prog 97 #[p, q] (.panicking ({ v := .iface u pv, recovered := false } :: older)) w fun e u' w' =>
      e = .returned (.tuple #[]) ∧ u' = .panicking ({ v := .iface u pv, recovered := true } :: older) ∧ ∃ M' μ', Tr 2 M μ (Fv.start Tryd.f37 aa ([.none, .none] : List (Blk E))).b w0 M' μ' (mkB 64 0 [(4, .var (.nm 0) (.t (.nm 0) (dfl E (.nm 0)))), (5, .var .bool (.t .bool false))]) w' ∧ RS (E := E) M' μ' (.ptr 4 (.nm 0) []) p ∧ RS (E := E) M' μ' (.ptr 5 .bool []) q := by
  refine callsD_of_wpS Tryd.func97 rfl fun c₀ cs hu => ?_
  apply wpS_seq
  apply wpS_region
  simp [wpOpsS, go_sem, recoverD, hu, Tryd.ntmps97, Exit.thenS]
  refine wpS_cond (t := true) (by simp [Act.eval, Array.replicate]) ?_
  simp only [if_true]
  refine wpS_of_wp ?_
  have hL : (6 : Nat) ≤ (mkB 64 0 [(4, (.var (.nm 0) (.t (.nm 0) (dfl E (.nm 0))) : Blk E)), (5, .var .bool (.t .bool false))]).length := by decide
  have hS : ∀ i, 6 ≤ i ∨ 16 ≤ i → blk (mkB 64 0 [(4, (.var (.nm 0) (.t (.nm 0) (dfl E (.nm 0))) : Blk E)), (5, .var .bool (.t .bool false))]) i = .none := fun i hi => by
    have hi : 6 ≤ i := by rcases hi with hi | hi; exact hi; omega
    obtain ⟨j, rfl⟩ : ∃ j, i = j + 6 := ⟨i - 6, by omega⟩
    show List.getD (List.replicate 58 (.none : Blk E)) j .none = .none
    simp only [List.getD_eq_getElem?_getD, List.getElem?_replicate]
    split <;> rfl
  have hI : Fv.Inv gl ⟨6, M', μ', mkB 64 0 [(4, .var (.nm 0) (.t (.nm 0) (dfl E (.nm 0)))), (5, .var .bool (.t .bool false))], w⟩ ⟨[.ptr 4 (.nm 0) [], .ptr 5 .bool [], .undef, .undef, .undef], mkB 64 0 [(4, .var (.nm 0) (.t (.nm 0) (dfl E (.nm 0)))), (5, .var .bool (.t .bool false))]⟩ { tmps := #[p, q, .iface u pv, .bool true, undef], defers := [] } w := by
    refine ⟨M', μ', Tr.refl tr.wr _, ⟨rfl, rfl, fun i => ?_, fun i => ?_, tr.wr⟩⟩
    · match i with
      | 0 => exact hp
      | 1 => exact hq
      | 2 => exact .undef _
      | 3 => exact .undef _
      | 4 => exact .undef _
      | i + 5 => simp; exact .undef _
    · match i with
      | 0 => exact .plain (a := .ptr 4 (.nm 0) []) (.inl ⟨_, rfl⟩) (by simp) (by simp) (by simp)
      | 1 => exact .plain (a := .ptr 5 .bool []) (.inl ⟨_, rfl⟩) (by simp) (by simp) (by simp)
      | 2 => exact .undef _
      | 3 => exact .undef _
      | 4 => exact .undef _
      | i + 5 => simp; exact .undef _
  have hgl' := hgl.mono tr.le
  have hwp := exec_sound (S := ⟨6, M', μ', mkB 64 0 [(4, .var (.nm 0) (.t (.nm 0) (dfl E (.nm 0)))), (5, .var .bool (.t .bool false))], w⟩) envOK hz tok hmix hC hL hS hgl' (any_ok envOK hz tok hC 97 _ hL hgl') n (condThen (bodyOf Tryd.f97)) 0 stK _ _ w (gd_r n) hI
  refine wp_mono hwp ?_
  rintro e act1 w1 hp1
  have hp1 : e = .normal ∧ ∃ s', stK .normal s' = some (.tup [.ptr 4 (.nm 0) [], .ptr 5 .bool [], .undef, .undef, .t (.nm 0) (dfl E (.nm 0))], mkB 64 0 [(4, .var (.nm 0) (.t (.nm 0) (dfl E (.nm 0)))), (5, .var .bool (.t .bool false))]) ∧ Fv.Inv gl ⟨6, M', μ', mkB 64 0 [(4, .var (.nm 0) (.t (.nm 0) (dfl E (.nm 0)))), (5, .var .bool (.t .bool false))], w⟩ s' act1 w1 := by
    cases e with
    | normal => exact ⟨rfl, hp1⟩
    | exit id => obtain ⟨s', h, _⟩ := hp1; cases h
    | ret => obtain ⟨s', h, _⟩ := hp1; cases h
    | _ => exact hp1.elim
  obtain ⟨rfl, s', hk, M2, μ2, tr2, hs⟩ := hp1
  obtain ⟨_, rfl⟩ := stK_eq hk
  have l4 : (μ2 4).g = (μ' 4).g := (tr2.lives 4 (show 4 < 6 by decide)).2
  have l5 : (μ2 5).g = (μ' 5).g := (tr2.lives 5 (show 5 < 6 by decide)).2
  have hp2 : RS (E := E) M2 μ2 (.ptr 4 (.nm 0) []) p := by
    cases hp with
    | v hp => cases hp; rw [← l4]; exact RS.v (.ptr 4 (.nm 0) [])
  have hq2 : RS (E := E) M2 μ2 (.ptr 5 .bool []) q := by
    cases hq with
    | v hq => cases hq; rw [← l5]; exact RS.v (.ptr 5 .bool [])
  have htr := tr.trans (tr2.mono (show 2 ≤ 6 by decide))
  have hds : act1.defers = [] := hs.defers
  simp [bodyPostS, results, Tryd.results97, hds]
  exact ⟨M2, μ2, htr, hp2, hq2⟩
theorem gfn_res : Tryd.f37.results = #[.cell 4 46, .cell 5 4] := rfl
theorem guard_37 (n : Nat) (hC : CallOK Tryd.prog gl (callR (C25 n))) : GuardC (E := E) Tryd.prog gl 37 38 [.bool, .str, (.nm 0)] (.nm 0) (fun x s => x.1 || !(s == x.2.1)) (fun x s => load_Guard n x s) := by
  intro M μ w args x s r hgl hw hl h
  have hok : ∀ a ∈ ([.func 38 (encCap [.bool, .str, .nm 0] x), .t .str s] : List (AV E)), OKA ([.none, .none] : List (Blk E)) a := by
    intro a ha
    simp only [List.mem_cons, List.not_mem_nil, or_false] at ha
    rcases ha with rfl | rfl
    · exact .plain (a := .func 38 _) trivial (by simp) (by simp) (by simp)
    · exact .t _ _ _
  refine calls_of_wp_defers Tryd.func37 g_body ?_
  have hI := inv_start (gl := gl) (fn := Tryd.f37) hw hl hok
  generalize haa : ([.func 38 (encCap [.bool, .str, .nm 0] x), .t .str s] : List (AV E)) = aa at hI
  have hL : (2 : Nat) ≤ (Fv.start Tryd.f37 aa ([.none, .none] : List (Blk E))).b.length := by simp [Fv.start]
  have hS : ∀ i, 2 ≤ i ∨ 16 ≤ i → blk (Fv.start Tryd.f37 aa ([.none, .none] : List (Blk E))).b i = .none := fun i hi => by
    have hi : 2 ≤ i := by rcases hi with hi | hi; exact hi; omega
    rw [show blk (Fv.start Tryd.f37 aa ([.none, .none] : List (Blk E))).b i = blk ([.none, .none] : List (Blk E)) i from blk_pad _ _ i, blk_ge hi]
  have hr0 := (g_r0 n x s).trans (show stK .normal (stG 16 4 5 (.nm 0) 38 (encCap [.bool, .str, .nm 0] x) s) = some (.tup (stG 16 4 5 (.nm 0) 38 (encCap [.bool, .str, .nm 0] x) s).t, (stG (E := E) 16 4 5 (.nm 0) 38 (encCap [.bool, .str, .nm 0] x) s).b) from rfl)
  rw [haa] at hr0
  refine wp_seq (wp_mono (exec_sound (S := ⟨2, M, μ, (Fv.start Tryd.f37 aa ([.none, .none] : List (Blk E))).b, w⟩) envOK hz tok hmix hC hL hS hgl (any_ok envOK hz tok hC 37 _ hL hgl) n (r0Of Tryd.f37) 0 stK _ _ w hr0 hI) ?_)
  rintro e act0 w0 hp0
  have hp0 : e = .normal ∧ ∃ s', stK .normal s' = some (.tup (stG 16 4 5 (.nm 0) 38 (encCap [.bool, .str, .nm 0] x) s).t, (stG (E := E) 16 4 5 (.nm 0) 38 (encCap [.bool, .str, .nm 0] x) s).b) ∧ Fv.Inv gl ⟨2, M, μ, (Fv.start Tryd.f37 aa ([.none, .none] : List (Blk E))).b, w⟩ s' act0 w0 := by
    cases e with
    | normal => exact ⟨rfl, hp0⟩
    | exit id => obtain ⟨s', h, _⟩ := hp0; cases h
    | ret => obtain ⟨s', h, _⟩ := hp0; cases h
    | _ => exact hp0.elim
  obtain ⟨rfl, s', hk, M1, μ1, tr1, hs1⟩ := hp0
  obtain ⟨_, rfl⟩ := stK_eq hk
  clear hk
  obtain ⟨⟨tl⟩, ds⟩ := act0
  have hds : ds = [] := hs1.defers
  subst hds
  have hsz : tl.length = 16 := by have := hs1.size; simpa [stG, mkT] using this
  match tl, hsz with
  | [t0, t1, t2, t3, p, q, t6, t7, t8, t9, t10, t11, t12, t13, t14, t15], _ =>
  have r0 : RS (E := E) M1 μ1 (.func 38 (encCap [.bool, .str, .nm 0] x)) t0 := hs1.tmps 0
  have r1 : RS (E := E) M1 μ1 (.t .str s) t1 := hs1.tmps 1
  have rp : RS (E := E) M1 μ1 (.ptr 4 (.nm 0) []) p := hs1.tmps 4
  have rq : RS (E := E) M1 μ1 (.ptr 5 .bool []) q := hs1.tmps 5
  refine wp_seq (g_r1 _ _ _ _ _ _ _ _ _ _ _ _ _ _ _ _ _ _ ?_)
  obtain ⟨vs, hv0, hvl, hcap⟩ := r0.func_inv
  obtain ⟨sv, hsv, hss⟩ : ∃ sv : ByteArray, t1 = .string sv ∧ sv.data.toList = s := by
    cases r1 with
    | v r1 => cases r1 with
      | t r1 => cases r1; exact ⟨_, rfl, rfl⟩
  subst hv0 hsv
  have und : ∀ i, i ≠ 4 → i ≠ 5 → (mkT (E := E) 16 0 [(4, .ptr 4 (.nm 0) []), (5, .ptr 5 .bool [])]).getD i .undef = .undef := by
    intro i h4 h5
    match i with
    | 4 => exact absurd rfl h4
    | 5 => exact absurd rfl h5
    | 0 | 1 | 2 | 3 | 6 | 7 | 8 | 9 | 10 | 11 | 12 | 13 | 14 | 15 => rfl
    | i + 16 => rfl
  have h : (bif (x.1 || !(s == x.2.1)) then some (dfl E (.nm 0), false) else load_Guard n x s) = some r := h
  have fin : ∀ (tmps : Array Value) (w2 : World) (M2 : Mem) (μ2 : Mu) (b2 : List (Blk E)) (v : E.D (.nm 0)) (c : Bool), tmps.size = 16 → Tr 2 M μ (Fv.start Tryd.f37 aa ([.none, .none] : List (Blk E))).b w M2 μ2 b2 w2 → RS (E := E) M2 μ2 (.ptr 4 (.nm 0) []) (tmps.getD 4 undef) → RS (E := E) M2 μ2 (.ptr 5 .bool []) (tmps.getD 5 undef) →
      blk b2 4 = .var (.nm 0) (.t (.nm 0) v) → blk b2 5 = .var .bool (.t .bool c) → blk b2 0 = .none → blk b2 1 = .none →
      ∃ v0, (results Tryd.f37 tmps).run Tryd.prog w2 = .ok v0 w2 ∧ ∃ M' μ', Tr 2 M μ ([.none, .none] : List (Blk E)) w M' μ' [.none, .none] w2 ∧ RetA (Taken μ ([.none, .none] : List (Blk E)) [.none, .none]) M' μ' [.none, .none] w w2 (.tup [.t (.nm 0) v, .t .bool c]) v0 := by
    intro tmps w2 M2 μ2 b2 v c hts htr hp4 hq5 hb4 hb5 hb0 hb1
    refine guard_done (g := 37) (gl := gl) (aa := aa) envOK tok gfn_res (by kernel_rfl) (by kernel_rfl) (by kernel_rfl) (by kernel_rfl) (s := ⟨mkT 16 0 [(4, .ptr 4 (.nm 0) []), (5, .ptr 5 .bool [])], b2⟩) (tmps := tmps) ⟨M2, μ2, htr, rfl, hts, fun i => ?_, fun i => ?_, htr.wr⟩ rfl rfl hb4 hb5 hb0 hb1
    · rcases (show i = 4 ∨ i = 5 ∨ (i ≠ 4 ∧ i ≠ 5) by omega) with rfl | rfl | ⟨h4, h5⟩
      · exact hp4
      · exact hq5
      · rw [und i h4 h5]; exact .undef _
    · rcases (show i = 4 ∨ i = 5 ∨ (i ≠ 4 ∧ i ≠ 5) by omega) with rfl | rfl | ⟨h4, h5⟩
      · exact .plain (a := .ptr 4 (.nm 0) []) (.inl ⟨_, hb4⟩) (by simp) (by simp) (by simp)
      · exact .plain (a := .ptr 5 .bool []) (.inl ⟨_, hb5⟩) (by simp) (by simp) (by simp)
      · rw [und i h4 h5]; exact .undef _
  cases hpn : (x.1 || !(s == x.2.1)) with
  | true =>
    rw [hpn] at h
    have h := Option.some.inj h
    subst h
    have hgl1 := hgl.mono tr1.le
    have hw4 : WR M1 μ1 ([.none, .none, .none, .none] : List (Blk E)) w0 := by
      have hbn : ∀ i, blk ([.none, .none, .none, .none] : List (Blk E)) i = .none := fun i => blk_rep 4 i
      refine ⟨tr1.wr.holds, fun p => ?_, fun i j g' h1 h2 => ?_, fun i ly a h1 => ?_⟩
      · rw [hbn]; trivial
      · rw [hbn] at h1; cases h1
      · rw [hbn] at h1; cases h1
    have hrl : RSL (E := E) M1 μ1 [.t .str s, .imm .bool x.1, .imm .str x.2.1, .imm (.nm 0) x.2.2.1] (#[Value.string sv] ++ vs.toArray).toList := by
      have h1 : RSL (E := E) M1 μ1 [AV.t .str s] [.string sv] := .cons r1 .nil
      have h2 : RSL (E := E) M1 μ1 [.t .str s, .imm .bool x.1, .imm .str x.2.1, .imm (.nm 0) x.2.2.1] (.string sv :: vs) := h1.append (caps_rsl (encCap [.bool, .str, .nm 0] x) vs hvl hcap μ1)
      simpa using h2
    have hcl := gc_pan n hC x.1 x.2.1 s x.2.2.1 hgl1 hw4 hrl hpn
    refine g_pan vs.toArray sv _ _ _ _ _ _ _ _ _ _ _ _ _ _ _ _ _ (fun u pv w' => Tr 2 M μ (Fv.start Tryd.f37 aa ([.none, .none] : List (Blk E))).b w M1 μ1 (stG (E := E) 16 4 5 (.nm 0) 38 (encCap [.bool, .str, .nm 0] x) s).b w') (hcl.mono ?_) ?_
    · rintro e w' ⟨u, pv, rfl, M', μ', b', tr'⟩
      refine ⟨u, pv, rfl, tr1.trans (Tr.mono (L := (stG (E := E) 16 4 5 (.nm 0) 38 (encCap [.bool, .str, .nm 0] x) s).b.length) ?_ (show 2 ≤ 64 by decide))⟩
      refine Tr.make tr1.wr (fun _ => False) (.refl M1) (tr'.wr.holds.less tr'.le) rfl (fun i _ => ⟨rfl, rfl⟩) (fun i h => h.elim) (fun _ i h => h.elim) (fun i j g h => h.elim) tr'.size (fun g hg _ => tr'.frame g hg fun i h => ?_) (fun g o h1 h2 => absurd h1 h2) (fun i g h => h.elim) (fun _ i ly a h => h.elim) tr'.os tr'.tape tr'.output
      rw [show blk (Fv.start Tryd.f38 _ ([.none, .none, .none, .none] : List (Blk E))).b i = blk ([.none, .none, .none, .none] : List (Blk E)) i from blk_pad _ _ i, show blk ([.none, .none, .none, .none] : List (Blk E)) i = .none from blk_rep 4 i] at h
      cases h
    · intro u pv w' htr
      refine leaves_cons (f := 97) (args := #[p, q]) (by simp) (by simp [go_sem]) ?_
      refine (gcatch_pan n hC hgl u pv [] htr rp rq).mono ?_
      rintro e u' w'' ⟨rfl, rfl, M2, μ2, tr2, hp2, hq2⟩
      obtain ⟨v0, k1, M3, μ3, k2, k3⟩ := fin #[.func (.func 38) #[] vs.toArray, .string sv, t2, t3, p, q, .func (.func 97) #[] #[p, q], .func (.func 38) #[] vs.toArray, .string sv, t9, t10, t11, t12, t13, t14, t15] _ _ _ _ _ _ rfl tr2 hp2 hq2 rfl rfl rfl rfl
      exact ⟨v0, k1, v0, M3, μ3, rfl, k2, k3⟩
  | false =>
    rw [hpn] at h
    have h : load_Guard n x s = some r := h
    have s_ok := hs1.ok
    have s_tm := hs1.tmps
    letI D1 : Dfr := ⟨[{ target := .fn (.func 97) #[p, q], args := #[] }]⟩
    have hIr : @Fv.Inv _ D1 E gl ⟨2, M, μ, (Fv.start Tryd.f37 aa ([.none, .none] : List (Blk E))).b, w⟩ (stG 16 4 5 (.nm 0) 38 (encCap [.bool, .str, .nm 0] x) s) { tmps := #[.func (.func 38) #[] vs.toArray, .string sv, t2, t3, p, q, .func (.func 97) #[] #[p, q], t7, t8, t9, t10, t11, t12, t13, t14, t15], defers := [{ target := .fn (.func 97) #[p, q], args := #[] }] } w0 := by
      refine ⟨M1, μ1, tr1, rfl, rfl, fun i => ?_, s_ok, tr1.wr⟩
      match i with
      | 6 => exact .undef _
      | 0 => exact s_tm 0
      | 1 => exact s_tm 1
      | 2 => exact .undef _
      | 3 => exact .undef _
      | 4 => exact s_tm 4
      | 5 => exact s_tm 5
      | 7 | 8 | 9 | 10 | 11 | 12 | 13 | 14 | 15 => exact .undef _
      | i + 16 => exact .undef _
    have hex : exec tt gl H 2 (callR (C25 n)) n 37 (restOf Tryd.f37) 0 (finGk 4 5 (.nm 0)) (stG (E := E) 16 4 5 (.nm 0) 38 (encCap [.bool, .str, .nm 0] x) s) = some (.tup [.t (.nm 0) r.1, .t .bool r.2], [.none, .none]) := by
      rw [← exec2_eq]
      exact exec2_mono (w := fun r : E.D (.nm 0) × Bool => ((.tup [.t (.nm 0) r.1, .t .bool r.2], [.none, .none]) : AV E × List (Blk E))) (fun e s r h => by unfold finGk; rw [h]; rfl) (show exec2 tt gl H 2 (C25 n) n 37 (restOf Tryd.f37) 0 (finG 4 5 (.nm 0)) (stG (E := E) 16 4 5 (.nm 0) 38 (encCap [.bool, .str, .nm 0] x) s) = some r from h)
    refine wp_mono (@exec_sound _ D1 _ _ _ _ _ envOK hz tok hmix _ hC ⟨2, M, μ, (Fv.start Tryd.f37 aa ([.none, .none] : List (Blk E))).b, w⟩ hL hS hgl 37 (@any_ok _ D1 _ _ _ _ _ envOK hz tok _ hC 37 _ hL hgl) n _ (restOf Tryd.f37) 0 (finGk 4 5 (.nm 0)) _ _ w0 hex hIr) ?_
    rintro e act2 w2 hp2
    have fk : ∀ (e : Ex) (s' : St E), finGk 4 5 (.nm 0) e s' = some (.tup [.t (.nm 0) r.1, .t .bool r.2], [.none, .none]) → ∃ r', finG 4 5 (.nm 0) e s' = some r' ∧ r' = r := by
      intro e s' h
      unfold finGk at h
      obtain ⟨r', h1, h2⟩ := Option.map_eq_some_iff.1 h
      refine ⟨r', h1, ?_⟩
      injection h2 with h2 _
      injection h2 with h2
      injection h2 with h3 h2
      injection h2 with h4 _
      have e1 : r'.1 = r.1 := by injection h3
      have e2 : r'.2 = r.2 := by injection h4
      exact Prod.ext e1 e2
    have last : ∀ (e : Ex) (s' : St E), finGk 4 5 (.nm 0) e s' = some (.tup [.t (.nm 0) r.1, .t .bool r.2], [.none, .none]) → @Fv.Inv _ D1 E gl ⟨2, M, μ, (Fv.start Tryd.f37 aa ([.none, .none] : List (Blk E))).b, w⟩ s' act2 w2 →
        Leaves Tryd.prog Tryd.f37 act2.tmps (fun e w' => ∃ v M' μ', e = .returned v ∧ Tr 2 M μ ([.none, .none] : List (Blk E)) w M' μ' [.none, .none] w' ∧ RetA (Taken μ ([.none, .none] : List (Blk E)) [.none, .none]) M' μ' [.none, .none] w w' (.tup [.t (.nm 0) r.1, .t .bool r.2]) v) act2.defers .returning w2 := by
      intro e s' h1 h2
      obtain ⟨r', h3, rfl⟩ := fk e s' h1
      obtain ⟨_, f1, f2, f3, f4, f5, f6⟩ := finG_eq h3
      obtain ⟨M2, μ2, tr2, hs2⟩ := h2
      have hd2 : act2.defers = [{ target := .fn (.func 97) #[p, q], args := #[] }] := hs2.defers
      rw [hd2]
      refine leaves_cons (f := 97) (args := #[p, q]) (by simp) (by simp [go_sem]) ?_
      refine (gcatch_idle p q w2).mono ?_
      rintro e u' w'' ⟨rfl, rfl, rfl⟩
      obtain ⟨v0, k1, M3, μ3, k2, k3⟩ := guard_done (g := 37) (gl := gl) (aa := aa) envOK tok gfn_res (by kernel_rfl) (by kernel_rfl) (by kernel_rfl) (by kernel_rfl) (s := s') (tmps := act2.tmps) ⟨M2, μ2, tr2, hs2.undefer⟩ f1 f2 f3 f4 f5 f6
      exact ⟨v0, k1, v0, M3, μ3, rfl, k2, k3⟩
    cases e with
    | normal => obtain ⟨s', h1, h2⟩ := hp2; exact last _ s' h1 h2
    | ret => obtain ⟨s', h1, h2⟩ := hp2; exact last _ s' h1 h2
    | exit id => obtain ⟨s', h1, h2⟩ := hp2; cases h1
    | _ => exact hp2.elim

theorem fnok37 : FnOK Tryd.prog 37 := ⟨Tryd.f37, _, Tryd.func37, by decide, rfl⟩
noncomputable def C26 (n : Nat) : Call2 E := moreG 37 38 [.bool, .str, (.nm 0)] (.nm 0) (fun x s => x.1 || !(s == x.2.1)) (fun x s => load_Guard n x s) (C25 n)

/- clapperbridge/claplaw2.loads -/
noncomputable def law2_loads (n : Nat) : Option Bool := F2 (E := E) tt gl H (C26 n) n 39 Tryd.f39 [] (())
theorem law2_loads_eq (n : Nat) : law2_loads n = (Option.bind (load_Scalar n 2 [45, 53]) fun r1 => (bif (decide (r1.2 = 0)) then (bif (decide (r1.1.N = (-5))) then (some (decide (r1.1.Kind = 2))) else (some false)) else (some false))) := by kernel_rfl
noncomputable def C27 (n : Nat) : Call2 E := more tt gl H (C26 n) n 39 Tryd.f39 [] (C26 n)

/- clapperbridge/value.order -/
noncomputable def value_order (n : Nat) (x0 : Int) : Option Int := F2 (E := E) tt gl H (C27 n) n 142 Tryd.f142 [.t (.int .i64)] (x0, ())
theorem value_order_eq (n : Nat) (x0 : Int) : value_order n x0 = (bif (decide (x0 < 0)) then (some (IntKind.wrap .i64 ((-1 : Int) - (Fv.bits .and .i64 x0 9223372036854775807)))) else (some x0)) := by kernel_rfl
noncomputable def C28 (n : Nat) : Call2 E := more tt gl H (C27 n) n 142 Tryd.f142 [.t (.int .i64)] (C27 n)

/- cmp.isNaN[int] -/
noncomputable def cmp_isNaN_int (n : Nat) (x0 : Int) : Option Bool := F2 (E := E) tt gl H (C28 n) n 170 Tryd.f170 [.t (.int .i64)] (x0, ())
theorem cmp_isNaN_int_eq (n : Nat) (x0 : Int) : cmp_isNaN_int n x0 = (some (!decide (x0 = x0))) := by kernel_rfl
noncomputable def C29 (n : Nat) : Call2 E := more tt gl H (C28 n) n 170 Tryd.f170 [.t (.int .i64)] (C28 n)

/- cmp.Compare[int] -/
noncomputable def cmp_Compare_int (n : Nat) (x0 : Int) (x1 : Int) : Option Int := F2 (E := E) tt gl H (C29 n) n 144 Tryd.f144 [.t (.int .i64), .t (.int .i64)] (x0, x1, ())
theorem cmp_Compare_int_eq (n : Nat) (x0 : Int) (x1 : Int) : cmp_Compare_int n x0 x1 = (Option.bind (cmp_isNaN_int n x0) fun r1 => (Option.bind (cmp_isNaN_int n x1) fun r2 => (bif r1 then (bif r2 then (some 0) else (some (-1))) else (bif r2 then (some 1) else (bif (decide (x0 < x1)) then (some (-1)) else (bif (decide (x0 > x1)) then (some 1) else (some 0))))))) := by kernel_rfl
noncomputable def C30 (n : Nat) : Call2 E := more tt gl H (C29 n) n 144 Tryd.f144 [.t (.int .i64), .t (.int .i64)] (C29 n)
def fun145_ren : Go.Shelf.Ren := ⟨fun | 106 => 145 | 213 => 171 | 265 => 197 | n => n, fun | 9 => 9 | 3 => 3 | n => n, fun | n => n⟩
theorem fun145 : Go.Proofs.Lays.n106 Tryd.prog fun145_ren := {
  mixed := by kernel_rfl
  f106 := Tryd.func145.trans (congrArg some (by kernel_rfl))
  f213 := Tryd.func171.trans (congrArg some (by kernel_rfl))
  f265 := Tryd.func197.trans (congrArg some (by kernel_rfl))
  t3 := Tryd.underlying3
  a3 := Tryd.isAgg3
  z3 := Tryd.sizeOf3
  v3 := Tryd.zeroValue3
  t9 := Tryd.underlying9
  a9 := Tryd.isAgg9
  z9 := Tryd.sizeOf9
  v9 := Tryd.zeroValue9 }
theorem fnok145 : FnOK Tryd.prog 145 := ⟨Tryd.f145, _, Tryd.func145, by decide, rfl⟩
theorem func145 : SSI Tryd.prog 145 Go.Lib.compareBytes := fun a b w => Go.Proofs.Any.strings_Compare fun145 a b w
noncomputable def C31 (n : Nat) : Call2 E := moreF 145 Go.Lib.compareBytes (C30 n)

/- cmp.Or[int] -/
noncomputable def cmp_Or_int (n : Nat) (x0 : List Int) : Option Int := F2 (E := E) tt gl H (C31 n) n 143 Tryd.f143 [.t (.sl (.int .i64))] (x0, ())
noncomputable def cmp_Or_int_l0 (n : Nat) (m0 : Nat) (v3 : Int) (v6 : List Int) (v7 : Int) (v8 : Int) : Option Int := lp (E := E) (ps := [.t (.sl (.int .i64))]) tt gl H (C31 n) n 143 Tryd.f143 [1, 1, 0, 1, 0] [] m0 ⟨mkT 18 0 [(3, .t (.int .i64) v3), (6, .t (.sl (.int .i64)) v6), (7, .t (.int .i64) v7), (8, .t (.int .i64) v8)], mkB 72 0 []⟩
theorem cmp_Or_int_l0_eq (n : Nat) (m0 : Nat) (v3 : Int) (v6 : List Int) (v7 : Int) (v8 : Int) : cmp_Or_int_l0 n (m0 + 1) v3 v6 v7 v8 = (bif (decide (v8 < v7)) then (bif (decide (0 ≤ v8) && decide (v8 < List.length v6)) then (bif (!decide ((List.getD v6 (Int.toNat v8) (0 : Int)) = v3)) then (some (List.getD v6 (Int.toNat v8) (0 : Int))) else (cmp_Or_int_l0 n m0 v3 v6 v7 (IntKind.wrap .i64 (v8 + 1)))) else none) else (some v3)) := by kernel_rfl
theorem cmp_Or_int_l0_zero (n : Nat) (v3 : Int) (v6 : List Int) (v7 : Int) (v8 : Int) : cmp_Or_int_l0 n 0 v3 v6 v7 v8 = none := by kernel_rfl
theorem cmp_Or_int_l0_fold (n : Nat) (v3 : Int) (v6 : List Int) (hl : List.length v6 < 9223372036854775807) (m i : Nat) (hi : i ≤ List.length v6) (hm : List.length v6 - i < m) : cmp_Or_int_l0 n m v3 v6 (List.length v6 : Int) (i : Int) = foldK (S := Unit) (fun i (a : Int) s K => (bif (!decide (a = v3)) then (some a) else (K ()))) (fun s => (some v3)) (List.drop i v6) i () := range_loop v6 (0 : Int) hl (fun m (k : Int) (s : Unit) => cmp_Or_int_l0 n m v3 v6 (List.length v6 : Int) k) _ _ (fun m i s => (cmp_Or_int_l0_eq n m v3 v6 (List.length v6 : Int) (i : Int)).trans (by kernel_rfl)) m i hi hm ()
theorem cmp_Or_int_eq (n : Nat) (x0 : List Int) : cmp_Or_int n x0 = (cmp_Or_int_l0 n n 0 x0 (List.length x0 : Int) 0) := by kernel_rfl
noncomputable def C32 (n : Nat) : Call2 E := more tt gl H (C31 n) n 143 Tryd.f143 [.t (.sl (.int .i64))] (C31 n)
noncomputable def Cr32 : Nat → Nat → Call2 E
  | 0, n => C32 n
  | d + 1, n => (more tt gl H (Cr32 d n) n 147 Tryd.f147 [.t (.nm 1), .t (.nm 1)] (more tt gl H (Cr32 d n) n 146 Tryd.f146 [.t (.sl (.nm 1)), .t (.sl (.nm 1)), .fn 147 []] (more tt gl H (Cr32 d n) n 99 Tryd.f99 [.t (.nm 0), .t (.nm 0)] (C32 n))))
noncomputable def C33 (n : Nat) : Call2 E := Cr32 (n + 1) n

/- clapperbridge/value.Cmp -/
noncomputable def value_Cmp (d : Nat) (n : Nat) (x0 : ApiValue) (x1 : ApiValue) : Option Int := F2 (E := E) tt gl H (Cr32 d n) n 99 Tryd.f99 [.t (.nm 0), .t (.nm 0)] (x0, x1, ())

/- slices.CompareFunc[[]clapperbridge/api.Field,[]clapperbridge/api.Field,clapperbridge/api.Field,clapperbridge/api.Field] -/
noncomputable def slices_CompareFunc_Field_by_value_Cmp_1 (d : Nat) (n : Nat) (x0 : List ApiField) (x1 : List ApiField) (x2 : (Unit)) : Option Int := F2 (E := E) tt gl H (Cr32 d n) n 146 Tryd.f146 [.t (.sl (.nm 1)), .t (.sl (.nm 1)), .fn 147 []] (x0, x1, x2, ())
noncomputable def slices_CompareFunc_Field_by_value_Cmp_1_l0 (d : Nat) (n : Nat) (m0 : Nat) (v0 : List ApiField) (v1 : List ApiField) (v11 : List ApiField) (v12 : Int) (v13 : Int) : Option Int := lp (E := E) (ps := [.t (.sl (.nm 1)), .t (.sl (.nm 1)), .fn 147 []]) tt gl H (Cr32 d n) n 146 Tryd.f146 [1, 0, 1, 0] [] m0 ⟨mkT 39 0 [(0, .t (.sl (.nm 1)) v0), (1, .t (.sl (.nm 1)) v1), (2, .func 147 []), (11, .t (.sl (.nm 1)) v11), (12, .t (.int .i64) v12), (13, .t (.int .i64) v13)], mkB 156 0 []⟩

/- clapperbridge/value.Cmp$1 -/
noncomputable def value_Cmp_1 (d : Nat) (n : Nat) (x0 : ApiField) (x1 : ApiField) : Option Int := F2 (E := E) tt gl H (Cr32 d n) n 147 Tryd.f147 [.t (.nm 1), .t (.nm 1)] (x0, x1, ())
theorem value_Cmp_eq (d : Nat) (n : Nat) (x0 : ApiValue) (x1 : ApiValue) : value_Cmp (d + 1) n x0 x1 = (bif (decide (x0.Kind = 3)) then (Option.bind (value_order n x0.N) fun r1 => (Option.bind (value_order n x1.N) fun r2 => (Option.bind (cmp_Compare_int n x0.Kind x1.Kind) fun r3 => (Option.bind (cmp_Compare_int n r1 r2) fun r4 => (Option.bind (cmp_Or_int n [r3, r4, (Go.Lib.compareBytes x0.S x1.S)]) fun r5 => (bif (!decide (r5 = 0)) then (some r5) else (Option.bind (slices_CompareFunc_Field_by_value_Cmp_1 d n x0.Fields x1.Fields (())) fun r6 => (some r6)))))))) else (Option.bind (cmp_Compare_int n x0.Kind x1.Kind) fun r7 => (Option.bind (cmp_Compare_int n x0.N x1.N) fun r8 => (Option.bind (cmp_Or_int n [r7, r8, (Go.Lib.compareBytes x0.S x1.S)]) fun r9 => (bif (!decide (r9 = 0)) then (some r9) else (Option.bind (slices_CompareFunc_Field_by_value_Cmp_1 d n x0.Fields x1.Fields (())) fun r10 => (some r10))))))) := by kernel_rfl
theorem slices_CompareFunc_Field_by_value_Cmp_1_l0_eq (d : Nat) (n : Nat) (m0 : Nat) (v0 : List ApiField) (v1 : List ApiField) (v11 : List ApiField) (v12 : Int) (v13 : Int) : slices_CompareFunc_Field_by_value_Cmp_1_l0 (d + 1) n (m0 + 1) v0 v1 v11 v12 v13 = (bif (decide (v13 < v12)) then (bif (decide (0 ≤ v13) && decide (v13 < List.length v11)) then (bif (decide (v13 ≥ (List.length v1 : Int))) then (some 1) else (bif (decide (0 ≤ v13) && decide (v13 < List.length v1)) then (Option.bind (value_Cmp_1 d n (List.getD v11 (Int.toNat v13) (ApiField.mk [] (ApiValue.mk 0 0 [] []))) (List.getD v1 (Int.toNat v13) (ApiField.mk [] (ApiValue.mk 0 0 [] [])))) fun r1 => (bif (!decide (r1 = 0)) then (some r1) else (slices_CompareFunc_Field_by_value_Cmp_1_l0 (d + 1) n m0 v0 v1 v11 v12 (IntKind.wrap .i64 (v13 + 1))))) else none)) else none) else (bif (decide ((List.length v0 : Int) < (List.length v1 : Int))) then (some (-1)) else (some 0))) := by kernel_rfl
theorem slices_CompareFunc_Field_by_value_Cmp_1_l0_zero (d : Nat) (n : Nat) (v0 : List ApiField) (v1 : List ApiField) (v11 : List ApiField) (v12 : Int) (v13 : Int) : slices_CompareFunc_Field_by_value_Cmp_1_l0 d n 0 v0 v1 v11 v12 v13 = none := by kernel_rfl
theorem slices_CompareFunc_Field_by_value_Cmp_1_l0_fold (d : Nat) (n : Nat) (v0 : List ApiField) (v1 : List ApiField) (v11 : List ApiField) (hl : List.length v11 < 9223372036854775807) (m i : Nat) (hi : i ≤ List.length v11) (hm : List.length v11 - i < m) : slices_CompareFunc_Field_by_value_Cmp_1_l0 (d + 1) n m v0 v1 v11 (List.length v11 : Int) (i : Int) = foldK (S := Unit) (fun i (a : ApiField) s K => (bif (decide ((i : Int) ≥ (List.length v1 : Int))) then (some 1) else (bif (decide (0 ≤ (i : Int)) && decide ((i : Int) < List.length v1)) then (Option.bind (value_Cmp_1 d n a (List.getD v1 (Int.toNat (i : Int)) (ApiField.mk [] (ApiValue.mk 0 0 [] [])))) fun r1 => (bif (!decide (r1 = 0)) then (some r1) else (K ()))) else none))) (fun s => (bif (decide ((List.length v0 : Int) < (List.length v1 : Int))) then (some (-1)) else (some 0))) (List.drop i v11) i () := range_loop v11 (ApiField.mk [] (ApiValue.mk 0 0 [] [])) hl (fun m (k : Int) (s : Unit) => slices_CompareFunc_Field_by_value_Cmp_1_l0 (d + 1) n m v0 v1 v11 (List.length v11 : Int) k) _ _ (fun m i s => (slices_CompareFunc_Field_by_value_Cmp_1_l0_eq d n m v0 v1 v11 (List.length v11 : Int) (i : Int)).trans (by kernel_rfl)) m i hi hm ()
theorem slices_CompareFunc_Field_by_value_Cmp_1_eq (d : Nat) (n : Nat) (x0 : List ApiField) (x1 : List ApiField) (x2 : (Unit)) : slices_CompareFunc_Field_by_value_Cmp_1 (d + 1) n x0 x1 x2 = (slices_CompareFunc_Field_by_value_Cmp_1_l0 (d + 1) n n x0 x1 x0 (List.length x0 : Int) 0) := by kernel_rfl
theorem value_Cmp_1_eq (d : Nat) (n : Nat) (x0 : ApiField) (x1 : ApiField) : value_Cmp_1 (d + 1) n x0 x1 = (Option.bind (value_Cmp d n x0.Val x1.Val) fun r1 => (Option.bind (cmp_Or_int n [(Go.Lib.compareBytes x0.Name x1.Name), r1]) fun r2 => (some r2))) := by kernel_rfl

/- clapperbridge/value.Same -/
noncomputable def value_Same (n : Nat) (x0 : ApiValue) (x1 : ApiValue) : Option Bool := F2 (E := E) tt gl H (C33 n) n 40 Tryd.f40 [.t (.nm 0), .t (.nm 0)] (x0, x1, ())
theorem value_Same_eq (n : Nat) (x0 : ApiValue) (x1 : ApiValue) : value_Same n x0 x1 = (Option.bind (value_Cmp n n x0 x1) fun r1 => (some (decide (r1 = 0)))) := by kernel_rfl
noncomputable def C34 (n : Nat) : Call2 E := more tt gl H (C33 n) n 40 Tryd.f40 [.t (.nm 0), .t (.nm 0)] (C33 n)

/- clapperbridge/claplaw2.LoadScalars -/
noncomputable def law2_LoadScalars (n : Nat) (x0 : Int) (x1 : List UInt8) (x2 : ApiValue) (x3 : Bool) : Option Bool := F2 (E := E) tt gl H (C34 n) n 7 Tryd.f7 [.t (.int .i64), .t .str, .t (.nm 0), .t .bool] (x0, x1, x2, x3, ())
theorem law2_LoadScalars_eq (n : Nat) (x0 : Int) (x1 : List UInt8) (x2 : ApiValue) (x3 : Bool) : law2_LoadScalars n x0 x1 x2 x3 = (Option.bind (load_Scalar n x0 x1) fun r1 => (Option.bind (ref2_Told n x0 x1) fun r2 => (Option.bind (bif (x3 || (!(x1 == x1))) then some ((ApiValue.mk 0 0 [] []), false) else load_Guard n (x3, x1, x2, ()) x1) fun r3 => (bif (!x3) then (Option.bind (value_Check n x2) fun r4 => (Option.bind (law2_loads n) fun r5 => (bif r5 then (bif (decide (r1.2 = r2.2)) then (Option.bind (value_Same n r1.1 r2.1) fun r6 => (bif r6 then (bif (r3.2 == (decide (r4 = 0))) then (bif r3.2 then (Option.bind (value_Same n r3.1 x2) fun r7 => (bif r7 then (some true) else (bif (!r3.2) then (Option.bind (value_Same n r3.1 (ApiValue.mk 0 0 [] [])) fun r8 => (some r8)) else (some false)))) else (bif (!r3.2) then (Option.bind (value_Same n r3.1 (ApiValue.mk 0 0 [] [])) fun r9 => (some r9)) else (some false))) else (some false)) else (some false))) else (some false)) else (some false)))) else (Option.bind (law2_loads n) fun r10 => (bif r10 then (bif (decide (r1.2 = r2.2)) then (Option.bind (value_Same n r1.1 r2.1) fun r11 => (bif r11 then (bif (r3.2 == false) then (bif r3.2 then (Option.bind (value_Same n r3.1 x2) fun r12 => (bif r12 then (some true) else (bif (!r3.2) then (Option.bind (value_Same n r3.1 (ApiValue.mk 0 0 [] [])) fun r13 => (some r13)) else (some false)))) else (bif (!r3.2) then (Option.bind (value_Same n r3.1 (ApiValue.mk 0 0 [] [])) fun r14 => (some r14)) else (some false))) else (some false)) else (some false))) else (some false)) else (some false))))))) := by kernel_rfl
noncomputable def C35 (n : Nat) : Call2 E := more tt gl H (C34 n) n 7 Tryd.f7 [.t (.int .i64), .t .str, .t (.nm 0), .t .bool] (C34 n)

theorem ok0 [Quiet] (n : Nat) : CallOK Tryd.prog gl (callR (C0 n)) := none_ok
theorem ok1 [Quiet] (n : Nat) : CallOK Tryd.prog gl (callR (C1 n)) := more_ok envOK hz tok hmix (ok0 n) (ok0 n) Tryd.func71 (by decide)
theorem okr1 [Quiet] : ∀ d n : Nat, CallOK Tryd.prog gl (callR (Cr1 d n))
  | 0, n => ok1 n
  | d + 1, n => (more_ok envOK hz tok hmix (okr1 d n) (ok1 n) Tryd.func80 (by decide))
theorem ok2 [Quiet] (n : Nat) : CallOK Tryd.prog gl (callR (C2 n)) := okr1 (n + 1) n
theorem okr2 [Quiet] : ∀ d n : Nat, CallOK Tryd.prog gl (callR (Cr2 d n))
  | 0, n => ok2 n
  | d + 1, n => (more_ok envOK hz tok hmix (okr2 d n) (ok2 n) Tryd.func81 (by decide))
theorem ok3 [Quiet] (n : Nat) : CallOK Tryd.prog gl (callR (C3 n)) := okr2 (n + 1) n
theorem ok4 [Quiet] (n : Nat) : CallOK Tryd.prog gl (callR (C4 n)) := more_ok envOK hz tok hmix (ok3 n) (ok3 n) Tryd.func156 (by decide)
theorem ok5 [Quiet] (n : Nat) : CallOK Tryd.prog gl (callR (C5 n)) := more_ok envOK hz tok hmix (ok4 n) (ok4 n) Tryd.func126 (by decide)
theorem ok6 [Quiet] (n : Nat) : CallOK Tryd.prog gl (callR (C6 n)) := more_ok envOK hz tok hmix (ok5 n) (ok5 n) Tryd.func127 (by decide)
theorem ok7 [Quiet] (n : Nat) : CallOK Tryd.prog gl (callR (C7 n)) := more_ok envOK hz tok hmix (ok6 n) (ok6 n) Tryd.func64 (by decide)
theorem ok8 [Quiet] (n : Nat) : CallOK Tryd.prog gl (callR (C8 n)) := more_ok envOK hz tok hmix (ok7 n) (ok7 n) Tryd.func190 (by decide)
theorem ok9 [Quiet] (n : Nat) : CallOK Tryd.prog gl (callR (C9 n)) := more_ok envOK hz tok hmix (ok8 n) (ok8 n) Tryd.func100 (by decide)
theorem ok10 [Quiet] (n : Nat) : CallOK Tryd.prog gl (callR (C10 n)) := more_ok envOK hz tok hmix (ok9 n) (ok9 n) Tryd.func189 (by decide)
theorem ok11 [Quiet] (n : Nat) : CallOK Tryd.prog gl (callR (C11 n)) := more_ok envOK hz tok hmix (ok10 n) (ok10 n) Tryd.func157 (by decide)
theorem ok12 [Quiet] (n : Nat) : CallOK Tryd.prog gl (callR (C12 n)) := more_ok envOK hz tok hmix (ok11 n) (ok11 n) Tryd.func158 (by decide)
theorem ok13 [Quiet] (n : Nat) : CallOK Tryd.prog gl (callR (C13 n)) := more_ok envOK hz tok hmix (ok12 n) (ok12 n) Tryd.func128 (by decide)
theorem okr13 [Quiet] : ∀ d n : Nat, CallOK Tryd.prog gl (callR (Cr13 d n))
  | 0, n => ok13 n
  | d + 1, n => (more_ok envOK hz tok hmix (okr13 d n) (ok13 n) Tryd.func82 (by decide))
theorem ok14 [Quiet] (n : Nat) : CallOK Tryd.prog gl (callR (C14 n)) := okr13 (n + 1) n
theorem ok15 [Quiet] (n : Nat) : CallOK Tryd.prog gl (callR (C15 n)) := more_ok envOK hz tok hmix (ok14 n) (ok14 n) Tryd.func20 (by decide)
theorem pc94 : PlainE (E := E) Tryd.prog gl 94 [.str] (.int .i64) (fun x => atoiO x.1) := atoiP (gs := 0) (gr := 1) (fun h => h) ⟨fun s hs v h w => (Go.Proofs.Any.strconv_Atoi_ok lay94 s (Nat.le_trans hs (by decide)) v h w).mono fun e w1 hw => ⟨hw.1, hw.2.elim (fun h => h ▸ Go.RowKit.Below.refl _ _) (fun ⟨t, h⟩ => h ▸ Go.Lib.bytesWorld_below _ _ _)⟩, fun s hs h h2 w t x hc => (Go.Proofs.Any.strconv_Atoi_syntax lay94 s hs (third h h2 (fun _ e => by cases e) (fun e => by cases e)) _ w hc (.inr ⟨_, _, rfl⟩)).mono fun e w1 ⟨N, he, _, _, hb⟩ => ⟨⟨_, _, he⟩, hb⟩, fun s hs h w t x hc => (Go.Proofs.Any.strconv_Atoi_range lay94 s hs h _ w hc (.inr ⟨_, _, rfl⟩)).mono fun e w1 ⟨N, he, _, _, hb⟩ => ⟨⟨_, _, he⟩, hb⟩⟩ rfl rfl
theorem ok16 (n : Nat) : CallOK Tryd.prog gl (callR (C16 n)) := moreE_ok (ok15 n) rfl fnok94 pc94
theorem pc68 : PlainC (E := E) Tryd.prog gl 68 [(.int .i64)] .str (fun x => itoaO x.1) := itoaP (name := "internal/strconv.uint64pow10") (gp := 3) (fun n h0 h1 w ht => Go.Proofs.Any.strconv_Itoa lay68 n h0 h1 w ht) (by kernel_rfl) rfl
theorem ok17 (n : Nat) : CallOK Tryd.prog gl (callR (C17 n)) := moreP_ok (ok16 n) rfl fnok68 pc68
theorem ok18 (n : Nat) : CallOK Tryd.prog gl (callR (C18 n)) := more_ok envOK hz tok hmix (ok17 n) (ok17 n) Tryd.func35 (by decide)
theorem pc95 : PlainC (E := E) Tryd.prog gl 95 [.str, .str] .str (fun x => some (Go.Lib.trimPrefix x.1 x.2.1)) := plain_sss (F := fun a b => some (Go.Lib.trimPrefix a b)) fun a b w r h => by
  have h := Option.some.inj h
  subst h
  exact Go.Proofs.Any.strings_TrimPrefix lay95 a b w
theorem ok19 (n : Nat) : CallOK Tryd.prog gl (callR (C19 n)) := moreP_ok (ok18 n) rfl fnok95 pc95
theorem pc96 : PlainE (E := E) Tryd.prog gl 96 [.str, (.int .i64), (.int .i64)] (.int .i64) (fun x => parseO x.1 x.2.1 x.2.2.1) := parseP (gs := 0) (gr := 1) (fun h => h) ⟨fun s hs v h w => (Go.Proofs.Any.strconv_ParseInt_10_at64_ok lay96 s (Nat.le_trans hs (by decide)) v h w).mono fun e w1 hw => ⟨hw.1, hw.2.elim (fun h => h ▸ Go.RowKit.Below.refl _ _) (fun ⟨t, h⟩ => h ▸ Go.Lib.bytesWorld_below _ _ _)⟩, fun s hs h h2 w t x hc => (Go.Proofs.Any.strconv_ParseInt_10_at64_syntax lay96 s hs (third h h2 (fun _ e => by cases e) (fun e => by cases e)) _ w hc (.inr ⟨_, _, rfl⟩)).mono fun e w1 ⟨N, he, _, _, hb⟩ => ⟨⟨_, _, he⟩, hb⟩, fun s hs h w t x hc => (Go.Proofs.Any.strconv_ParseInt_10_at64_range lay96 s hs h _ w hc (.inr ⟨_, _, rfl⟩)).mono fun e w1 ⟨N, he, _, _, hb⟩ => ⟨⟨_, _, he⟩, hb⟩⟩ rfl rfl
theorem ok20 (n : Nat) : CallOK Tryd.prog gl (callR (C20 n)) := moreE_ok (ok19 n) rfl fnok96 pc96
theorem ok21 (n : Nat) : CallOK Tryd.prog gl (callR (C21 n)) := more_ok envOK hz tok hmix (ok20 n) (ok20 n) Tryd.func36 (by decide)
theorem ok22 (n : Nat) : CallOK Tryd.prog gl (callR (C22 n)) := more_ok envOK hz tok hmix (ok21 n) (ok21 n) Tryd.func38 (by decide)
theorem ok23 (n : Nat) : CallOK Tryd.prog gl (callR (C23 n)) := more_ok envOK hz tok hmix (ok22 n) (ok22 n) Tryd.func141 (by decide)
theorem ok24 (n : Nat) : CallOK Tryd.prog gl (callR (C24 n)) := moreN_ok envOK hz tok hmix (ok22 n) (ok23 n) Tryd.func141 (by decide) (slices_Clone_Field_nn_hq n)
theorem okr24 : ∀ d n : Nat, CallOK Tryd.prog gl (callR (Cr24 d n))
  | 0, n => ok24 n
  | d + 1, n => (more_ok envOK hz tok hmix (okr24 d n) (ok24 n) Tryd.func98 (by decide))
theorem ok25 (n : Nat) : CallOK Tryd.prog gl (callR (C25 n)) := okr24 (n + 1) n
theorem guardc37 (n : Nat) : GuardC (E := E) Tryd.prog gl 37 38 [.bool, .str, (.nm 0)] (.nm 0) (fun x s => x.1 || !(s == x.2.1)) (fun x s => load_Guard n x s) := guard_37 n (ok25 n)
theorem ok26 (n : Nat) : CallOK Tryd.prog gl (callR (C26 n)) := moreG_ok (ok25 n) fnok37 (guardc37 n)
theorem ok27 (n : Nat) : CallOK Tryd.prog gl (callR (C27 n)) := more_ok envOK hz tok hmix (ok26 n) (ok26 n) Tryd.func39 (by decide)
theorem ok28 (n : Nat) : CallOK Tryd.prog gl (callR (C28 n)) := more_ok envOK hz tok hmix (ok27 n) (ok27 n) Tryd.func142 (by decide)
theorem ok29 (n : Nat) : CallOK Tryd.prog gl (callR (C29 n)) := more_ok envOK hz tok hmix (ok28 n) (ok28 n) Tryd.func170 (by decide)
theorem ok30 (n : Nat) : CallOK Tryd.prog gl (callR (C30 n)) := more_ok envOK hz tok hmix (ok29 n) (ok29 n) Tryd.func144 (by decide)
theorem ok31 (n : Nat) : CallOK Tryd.prog gl (callR (C31 n)) := moreF_ok (ok30 n) fnok145 func145
theorem ok32 (n : Nat) : CallOK Tryd.prog gl (callR (C32 n)) := more_ok envOK hz tok hmix (ok31 n) (ok31 n) Tryd.func143 (by decide)
theorem okr32 : ∀ d n : Nat, CallOK Tryd.prog gl (callR (Cr32 d n))
  | 0, n => ok32 n
  | d + 1, n => (more_ok envOK hz tok hmix (okr32 d n) (more_ok envOK hz tok hmix (okr32 d n) (more_ok envOK hz tok hmix (okr32 d n) (ok32 n) Tryd.func99 (by decide)) Tryd.func146 (by decide)) Tryd.func147 (by decide))
theorem ok33 (n : Nat) : CallOK Tryd.prog gl (callR (C33 n)) := okr32 (n + 1) n
theorem ok34 (n : Nat) : CallOK Tryd.prog gl (callR (C34 n)) := more_ok envOK hz tok hmix (ok33 n) (ok33 n) Tryd.func40 (by decide)
theorem ok35 (n : Nat) : CallOK Tryd.prog gl (callR (C35 n)) := more_ok envOK hz tok hmix (ok34 n) (ok34 n) Tryd.func7 (by decide)
theorem law_call (n : Nat) (x0 : Int) (x1 : List UInt8) (x2 : ApiValue) (x3 : Bool) : callR (C35 n) 7 [.t (.int .i64) x0, .t .str x1, .t (.nm 0) x2, .t .bool x3] [.none, .none, .none, .none] = (law2_LoadScalars n x0 x1 x2 x3).map fun r => (.t .bool r, [.none, .none, .none, .none]) := by kernel_rfl
theorem law_full : ∀ t ∈ ([3, 9, 46, 4] : List Nat), ∃ x, tt t = some x ∧ x.ty.full = true := by
  intro t ht
  simp only [List.mem_cons, List.not_mem_nil, or_false] at ht
  rcases ht with rfl | rfl | rfl | rfl
  · exact ⟨⟨(.int .i64), .int .i64⟩, by kernel_rfl, rfl⟩
  · exact ⟨⟨.str, .str⟩, by kernel_rfl, rfl⟩
  · exact ⟨⟨(.nm 0), .struct [(3, 0), (3, 1), (9, 2), (44, 3)]⟩, by kernel_rfl, rfl⟩
  · exact ⟨⟨.bool, .bool⟩, by kernel_rfl, rfl⟩
theorem law_ins {aa : List (AV E)} (h : Ins E tt [3, 9, 46, 4] aa) {N : Nat} (hb : ∀ g, (aa.map (bulkA E g)).sum ≤ N) : ∃ (x0 : Int) (x1 : List UInt8) (x2 : ApiValue) (x3 : Bool), aa = [.t (.int .i64) x0, .t .str x1, .t (.nm 0) x2, .t .bool x3] ∧ (∀ g, Fv.Good E g (.int .i64) x0) ∧ (∀ g, Fv.Good E g .str x1) ∧ (∀ g, Fv.Good E g (.nm 0) x2) ∧ (∀ g, Fv.Good E g .bool x3) ∧ ∀ g, Bulk E g (.int .i64) x0 + Bulk E g .str x1 + Bulk E g (.nm 0) x2 + Bulk E g .bool x3 ≤ N := by
  cases h with
  | cons z0 e0 v0 g0 h => 
  have q0 := Option.some.inj (e0.symm.trans (show tt 3 = some ⟨(.int .i64), .int .i64⟩ by kernel_rfl))
  subst q0
  cases h with
  | cons z1 e1 v1 g1 h => 
  have q1 := Option.some.inj (e1.symm.trans (show tt 9 = some ⟨.str, .str⟩ by kernel_rfl))
  subst q1
  cases h with
  | cons z2 e2 v2 g2 h => 
  have q2 := Option.some.inj (e2.symm.trans (show tt 46 = some ⟨(.nm 0), .struct [(3, 0), (3, 1), (9, 2), (44, 3)]⟩ by kernel_rfl))
  subst q2
  cases h with
  | cons z3 e3 v3 g3 h => 
  have q3 := Option.some.inj (e3.symm.trans (show tt 4 = some ⟨.bool, .bool⟩ by kernel_rfl))
  subst q3
  cases h
  exact ⟨v0, v1, v2, v3, rfl, g0, g1, g2, g3, fun g => Nat.le_trans (Nat.le_of_eq (by simp [bulkA, Nat.add_assoc])) (hb g)⟩
theorem law_pure (ok : ∀ (x0 : Int) (x1 : List UInt8) (x2 : ApiValue) (x3 : Bool) (h0 : ∀ g, Fv.Good E g (.int .i64) x0) (h1 : ∀ g, Fv.Good E g .str x1) (h2 : ∀ g, Fv.Good E g (.nm 0) x2) (h3 : ∀ g, Fv.Good E g .bool x3) (hb : ∀ g, Bulk E g (.int .i64) x0 + Bulk E g .str x1 + Bulk E g (.nm 0) x2 + Bulk E g .bool x3 ≤ 1048576), ∃ n, law2_LoadScalars n x0 x1 x2 x3 = some true) (aa : List (AV E)) (h : Ins E tt [3, 9, 46, 4] aa) (hb : ∀ g, (aa.map (bulkA E g)).sum ≤ 1048576) : ∃ n outs, callR (C35 n) 7 aa (List.replicate ([3, 9, 46, 4] : List Nat).length .none) = some (.t .bool true, outs) := by
  obtain ⟨x0, x1, x2, x3, rfl, h0, h1, h2, h3, hk⟩ := law_ins h hb
  obtain ⟨n, hn⟩ := ok x0 x1 x2 x3 h0 h1 h2 h3 hk
  exact ⟨n, _, (law_call n x0 x1 x2 x3).trans (by rw [hn]; rfl)⟩
end Go.Proofs.YtbmpjppfdeohnaaDoor.PLoadScalars
