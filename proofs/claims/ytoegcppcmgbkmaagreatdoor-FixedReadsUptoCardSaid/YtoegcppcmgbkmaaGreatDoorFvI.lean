/- An evaluator of the model's code, part 9: Two hexadecimal digits as a number: a contract of ParseUint. Under the layouts that it names. No condition. -/
import Derived.Test.YtoegcppcmgbkmaaGreatDoorFvH
import Derived.Shelf.Pu.Lays
import Derived.Shelf.Pu.Lower
import Derived.Lib.Strings
import Derived.Lib.Walk
import Derived.Lib.ConvBytes
import Derived.Lib.ParseIntBMem
import Derived.Lib.Hide
import Derived.Laws.Strings3
import Derived.Laws.Closers25
import Derived.Laws.Closers25b
import Derived.WalkKit
import Derived.BigCall
import Derived.BigGuard
set_option linter.unusedVariables false
set_option linter.unusedSectionVars false
set_option linter.unusedSimpArgs false
/-! Two hexadecimal digits as a number: a contract of ParseUint. Under the layouts that it names. -/
namespace Go.Proofs.YtoegcppcmgbkmaaGreatDoor.Fv
open Go.Shelf Go.RowKit Go.Proofs
section
variable {P : Program} {ρ : Ren}
def hexD (c : UInt8) : Option Nat := if 48 ≤ c.toNat ∧ c.toNat ≤ 57 then some (c.toNat - 48) else if 97 ≤ c.toNat ∧ c.toNat ≤ 102 then some (c.toNat - 87) else none
def hexL : Nat → List UInt8 → Option Nat
  | acc, [] => some acc
  | acc, c :: r => match hexD c with
    | some d => if acc * 16 + d ≤ 255 then hexL (acc * 16 + d) r else none
    | none => none
theorem low32 : ∀ k : Nat, 97 ≤ k → k ≤ 102 → Go.bits .or .u8 (k : Int) 32 = (k : Int) := by
  intro k h1 h2
  have : k = 97 ∨ k = 98 ∨ k = 99 ∨ k = 100 ∨ k = 101 ∨ k = 102 := by omega
  rcases this with rfl | rfl | rfl | rfl | rfl | rfl <;> decide +kernel

set_option maxHeartbeats 32000000 in
set_option maxRecDepth 100000 in
theorem pu16_inner (L : LaysPu.n16 P ρ) (t : ByteArray) (hne : t.size ≠ 0) (hmax : t.size ≤ 9223372036854775806) (u : Nat) (hu : hexL 0 t.data.toList = some u) (w : World) :
    Calls P (ρ.f 16) #[.string t, .int .i64 16, .int .i64 8] w fun e w' => e = .returned (.tuple #[.int .u64 u, .nilIface]) ∧ w' = Lib.bytesWorld w (ρ.t 5) t := by
  have mixed := L.mixed
  have t9 := L.t9; have a9 := L.a9; have z9 := L.z9; have v9 := L.v9
  have t3 := L.t3; have a3 := L.a3; have z3 := L.z3; have v3 := L.v3
  have t22 := L.t22; have a22 := L.a22; have z22 := L.z22; have v22 := L.v22
  have t24 := L.t24; have a24 := L.a24; have z24 := L.z24; have v24 := L.v24
  have t4 := L.t4; have a4 := L.a4; have z4 := L.z4; have v4 := L.v4
  have t34 := L.t34; have a34 := L.a34; have z34 := L.z34; have v34 := L.v34
  have t5 := L.t5; have a5 := L.a5; have z5 := L.z5; have v5 := L.v5
  have t36 := L.t36; have a36 := L.a36; have z36 := L.z36; have v36 := L.v36
  have t37 := L.t37; have a37 := L.a37; have z37 := L.z37; have v37 := L.v37
  have t0 := L.t0; have a0 := L.a0; have z0 := L.z0; have v0 := L.v0
  have e19 : ∀ args w, (callFunc (ρ.f 19) args).run P w = .ok (.enter (ρ.f 19) args) w := enters_of L.f19 (by kernel_rfl) rfl
  have hemp : t.toList.isEmpty = false := by
    rw [← decide_eq_emptyBytes]
    exact decide_eq_false (fun h => hne (by rw [h]; rfl))
  have hcv := Lib.run_convert_string_bytes (P := P) w (ρ.t 9) (ρ.t 37) (ρ.t 5) t (u := .string) L.t9 L.t37 L.t5
  have hB : ∀ j, j < t.size → (Lib.bytesWorld w (ρ.t 5) t).cell? ⟨w.heap.size, j, none⟩ = some (.int .u8 (t.data.toList.getD j 0).toNat) := fun j hj => Lib.bytesWorld_cell w (ρ.t 5) t j hj
  obtain ⟨W1, hW1⟩ : ∃ W1, W1 = Lib.bytesWorld w (ρ.t 5) t := ⟨_, rfl⟩
  rw [← hW1] at hcv hB ⊢
  clear hW1
  obtain ⟨bs, hL⟩ : ∃ bs, bs = t.data.toList := ⟨_, rfl⟩
  have hLn : bs.length = t.size := by rw [hL, Lib.size_eq]
  rw [← hL] at hB hu
  clear hL
  have hmv : IntKind.u64.wrap (IntKind.u64.wrap 256 - 1) = 255 := by
    rw [IntKind.wrap_u64, IntKind.wrap_u64]
    decide
  go_enter L.f16, BodyPu.n16_ntmps ρ
  go_wp2
  go_loop [12, 13, 101] (fun vu vn vi => ∃ (k acc : Nat) (a : Int), vu = .bool false ∧ vn = .int .u64 a ∧ vi = .int .i64 k ∧ k ≤ t.size ∧ Hid (a = (acc : Int) ∧ acc ≤ 255 ∧ hexL acc (bs.drop k) = some u))
    (fun _ _ vi => t.size - (intOf vi).toNat)
  case atStart => exact ⟨0, 0, 0, rfl, rfl, rfl, by omega, rfl, by omega, hu⟩
  case round =>
    obtain ⟨k, acc, a, rfl, rfl, rfl, hk, hh⟩ := hrel
    obtain ⟨ha, hacc, hdec⟩ := hh.out
    clear hh
    have a0 : 0 ≤ a := by omega
    have a1 : a ≤ 255 := by omega
    by_cases hkn : k < t.size
    · have hc := hB k hkn
      have hdrop : bs.drop k = bs[k]'(by omega) :: bs.drop (k + 1) := List.drop_eq_getElem_cons (by omega)
      have hget : bs.getD k 0 = bs[k]'(by omega) := by simp [List.getD, List.getElem?_eq_getElem (show k < bs.length by omega)]
      rw [hdrop] at hdec
      rw [hget] at hc
      generalize bs[k]'(by omega) = c at hc hdec
      have hc256 : c.toNat < 256 := c.toNat_lt
      clear hB hdrop hget
      by_cases hdig : 48 ≤ c.toNat ∧ c.toNat ≤ 57
      · obtain ⟨hd0, hd1⟩ := hdig
        have hD : hexD c = some (c.toNat - 48) := by unfold hexD; rw [if_pos ⟨hd0, hd1⟩]
        unfold hexL at hdec
        rw [hD] at hdec
        simp only at hdec
        split at hdec
        · rename_i hle
          have HN : Hid (a * 16 + ((c.toNat : Int) - 48) = ((acc * 16 + (c.toNat - 48) : Nat) : Int) ∧ acc * 16 + (c.toNat - 48) ≤ 255 ∧ hexL (acc * 16 + (c.toNat - 48)) (bs.drop (k + 1)) = some u) := ⟨by omega, hle, hdec⟩
          have iov : a * 16 + ((c.toNat : Int) - 48) ≤ 255 := by omega
          clear hacc hdec ha hD hle
          go_wp2
          refine ⟨⟨k + 1, acc * 16 + (c.toNat - 48), a * 16 + ((c.toNat : Int) - 48), rfl, (by first | rfl | (congr 1; omega)), (by first | rfl | (congr 1; omega)), by omega, HN⟩, by simp [intOf]; omega⟩
        · cases hdec
      · by_cases hlet : 97 ≤ c.toNat ∧ c.toNat ≤ 102
        · obtain ⟨hd0, hd1⟩ := hlet
          have hD : hexD c = some (c.toNat - 87) := by unfold hexD; rw [if_neg hdig, if_pos ⟨hd0, hd1⟩]
          unfold hexL at hdec
          rw [hD] at hdec
          simp only at hdec
          split at hdec
          · rename_i hle
            have HN : Hid (a * 16 + ((c.toNat : Int) - 87) = ((acc * 16 + (c.toNat - 87) : Nat) : Int) ∧ acc * 16 + (c.toNat - 87) ≤ 255 ∧ hexL (acc * 16 + (c.toNat - 87)) (bs.drop (k + 1)) = some u) := ⟨by omega, hle, hdec⟩
            have iov : a * 16 + ((c.toNat : Int) - 87) ≤ 255 := by omega
            have hlw : ∀ w1 : World, Calls P (ρ.f 19) #[.int .u8 (c.toNat : Int)] w1 fun e w' => e = .returned (.int .u8 (c.toNat : Int)) ∧ w' = w1 := fun w1 => by
              have := AnyPu.internal_strconv_lower { L with } (c.toNat : Int) w1
              rwa [low32 c.toNat hd0 hd1] at this
            clear hacc hdec ha hD hle hdig
            go_wp2_with (go_at_fn (ρ.f 19); refine (hlw _).mono ?_; rintro e w' ⟨rfl, rfl⟩)
            refine ⟨⟨k + 1, acc * 16 + (c.toNat - 87), a * 16 + ((c.toNat : Int) - 87), rfl, (by first | rfl | (congr 1; omega)), (by first | rfl | (congr 1; omega)), by omega, HN⟩, by simp [intOf]; omega⟩
          · cases hdec
        · have hD : hexD c = none := by unfold hexD; rw [if_neg hdig, if_neg hlet]
          unfold hexL at hdec
          rw [hD] at hdec
          cases hdec
    · have hkk : k = t.size := by omega
      subst hkk
      rw [List.drop_eq_nil_of_le (by omega)] at hdec
      have hdec : some acc = some u := hdec
      cases hdec
      subst ha
      clear hacc a0 a1
      go_wp2
      go_ret2
      exact ⟨rfl, rfl⟩

set_option maxHeartbeats 4000000 in
set_option maxRecDepth 100000 in
theorem pu16_ok (L : LaysPu.n14 P ρ) (s : ByteArray) (hne : s.size ≠ 0) (hmax : s.size ≤ 9223372036854775806) (u : Nat) (h : hexL 0 s.data.toList = some u) (w : World) :
    Calls P (ρ.f 14) #[.string s, .int .i64 16, .int .i64 8] w fun e w' => e = .returned (.tuple #[.int .u64 u, .nilIface]) ∧ w' = Lib.bytesWorld w (ρ.t 5) s := by
  have mixed := L.mixed
  have t9 := L.t9; have a9 := L.a9; have z9 := L.z9; have v9 := L.v9
  have t3 := L.t3; have a3 := L.a3; have z3 := L.z3; have v3 := L.v3
  have t22 := L.t22; have a22 := L.a22; have z22 := L.z22; have v22 := L.v22
  have t24 := L.t24; have a24 := L.a24; have z24 := L.z24; have v24 := L.v24
  have t25 := L.t25; have a25 := L.a25; have z25 := L.z25; have v25 := L.v25
  have t4 := L.t4; have a4 := L.a4; have z4 := L.z4; have v4 := L.v4
  have e16 : ∀ args w, (callFunc (ρ.f 16) args).run P w = .ok (.enter (ρ.f 16) args) w := enters_of L.f16 (by kernel_rfl) rfl
  have hI := pu16_inner { L with } s hne hmax u h w
  clear h
  go_enter L.f14, BodyPu.n14_ntmps ρ
  go_wp2_with (go_at_fn (ρ.f 16); refine hI.mono ?_; rintro e W1 ⟨rfl, hW⟩)
  go_wp2
  go_ret2
  exact ⟨rfl, rfl⟩
end
section
variable [Quiet]
variable {E : Env} {P : Program} {gl : Nat → AV E}
theorem Ext.bytes (w : World) (e : Nat) (s : ByteArray) : Ext w (Lib.bytesWorld w e s) := by
  obtain ⟨r1, r2, r3⟩ := freeze_rest (w.drew.alloc (.cells (Lib.bytesCells w e s) e)) ⟨w.heap.size, (Lib.bytesCells w e s).size, none⟩ 1
  have h := (Ext.drew w).trans (Ext.alloc w.drew (.cells (Lib.bytesCells w e s) e))
  exact ⟨by rw [Lib.bytesWorld_size]; omega, fun g hg => Lib.bytesWorld_at_old w e s g hg, r1.trans h.os, r2.trans h.tape, r3.trans h.output⟩
/-- ParseUint at base 16, 8 bits, of one or two small hexadecimal digits. -/
def pu16O (s : List UInt8) (b k : Int) : Option Int := bif decide (b = 16) && decide (k = 8) && decide (1 ≤ List.length s) && decide (List.length s ≤ 2) then (hexL 0 s).map fun n => (n : Int) else none
def Pu16C (P : Program) (f : FuncId) : Prop := ∀ (s : ByteArray) (u : Nat), s.size ≠ 0 → s.size ≤ 9223372036854775806 → hexL 0 s.data.toList = some u → ∀ w, Calls P f #[.string s, .int .i64 16, .int .i64 8] w fun e w' => e = .returned (.tuple #[.int .u64 u, .nilIface]) ∧ ∃ t, w' = Lib.bytesWorld w t s
theorem pu16P {g : FuncId} (sc : Pu16C P g) : PlainT (E := E) P gl g [.str, .int .i64, .int .i64] (.int .u64) (fun x => pu16O x.1 x.2.1 x.2.2.1) := by
  intro M μ w x r args hF hgl hh hl
  obtain ⟨l⟩ := args
  simp only at hl
  cases hl with
  | cons h1 hl => cases hl with
    | cons h2 hl => cases hl with
      | cons h3 hl =>
        cases hl
        obtain ⟨b, rfl, e1⟩ := rs_str h1
        have e2 := rs_int h2
        have e3 := rs_int h3
        subst e2 e3
        have hF : pu16O x.1 x.2.1 x.2.2.1 = some r := hF
        unfold pu16O at hF
        obtain ⟨hc, hF⟩ := bif_some hF
        simp only [Bool.and_eq_true, decide_eq_true_eq] at hc
        obtain ⟨⟨⟨c1, c2⟩, c3⟩, c4⟩ := hc
        rw [e1] at hF c3 c4
        obtain ⟨u, hu, hr⟩ : ∃ u : Nat, hexL 0 b.data.toList = some u ∧ (u : Int) = r := by
          cases hx : hexL 0 b.data.toList with
          | none => rw [hx] at hF; cases hF
          | some u => rw [hx] at hF; exact ⟨u, rfl, Option.some.inj hF⟩
        have hr : r = (u : Int) := hr.symm
        subst hr
        have hsz : b.data.toList.length = b.size := by simp
        rw [c1, c2]
        refine Calls.mono (sc b u (by omega) (by omega) hu w) ?_
        rintro e w' ⟨rfl, t, rfl⟩
        refine ⟨_, _, M, rfl, Ext.bytes w t b, .refl M, (Ext.bytes w t b).holds hh, fun b o h1 h2 => absurd h1 h2, RS.int _ _⟩
end
end Go.Proofs.YtoegcppcmgbkmaaGreatDoor.Fv
