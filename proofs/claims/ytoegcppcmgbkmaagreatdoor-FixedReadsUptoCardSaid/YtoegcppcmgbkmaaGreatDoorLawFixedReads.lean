/- The law FixedReads: whatever it is handed of bulk at most 1048576, it returns true and leaves all as it was. No other condition. -/
import Derived.Test.YtoegcppcmgbkmaaGreatDoorRows
import Derived.Test.YtoegcppcmgbkmaaGreatDoorCards
import Derived.Test.YtoegcppcmgbkmaaGreatDoorTie
import Derived.Test.YtoegcppcmgbkmaaGreatDoorPlFixedReads
import Derived.WalkKit
import Derived.ProofKit
import Derived.OpenShut
import Derived.ShutString
import Derived.ChangeOld
import Derived.Below
import Derived.SizedLaws
import Derived.JoinedCond
import Derived.Deep.CondSized
import Derived.Deep.DeepHandedRow
import Derived.Deep.DeepWitnessRowRef
import Derived.Lib.LaidTab
import Derived.Lay
import Derived.MakeChecks
namespace Go.Proofs.YtoegcppcmgbkmaaGreatDoor.fixedReads
open Go.ChangeShapes Go.WideShapes Go.ChangeAt Go.RowKit
open Go.Proofs.YtoegcppcmgbkmaaGreatDoor.Fv Go.Proofs.YtoegcppcmgbkmaaGreatDoor.PFixedReads
set_option linter.unusedVariables false
theorem own : ownKnob Tryz.prog.godebug = none := by kernel_rfl
theorem laidOut : laidOutB Tryz.prog = true := by kernel_rfl
theorem rbulk (H : Type) : IsBulk (Rows.uptoBulk (H := H)) Rows.uptoBulkAll where
  str b := by simp [Rows.uptoBulk]
  lit l := by cases l <;> simp [Rows.uptoBulk]
  nil := by simp [Rows.uptoBulk]
  sl e s := by simp [Rows.uptoBulk]
  agg p := by simp [Rows.uptoBulk]
  ni := by simp [Rows.uptoBulkAll]
  co d r := by simp [Rows.uptoBulkAll]
theorem table_errsyn {W : World} (h : laidMetH Tryz.prog Rows.fixedReadsUptoRow.laid W) : ∃ u v, W.var? Tryz.prog "strconv.ErrSyntax" = some #[.iface u v] := by
  rw [MakeChecks.laidMetH_plain _ _ _ (by kernel_rfl)] at h
  have e : Rows.fixedReadsUptoRow.laid = Rows.fixedReadsUptoRow.laid.take 5 ++ ("strconv.ErrSyntax", .iface "*errors.errorString" (.ptr (.agg [.lit (.string [105, 110, 118, 97, 108, 105, 100, 32, 115, 121, 110, 116, 97, 120])]))) :: Rows.fixedReadsUptoRow.laid.drop 6 := by kernel_rfl
  rw [e] at h
  exact errAt_laid (g := 1) (t := 49) (by kernel_rfl) (by kernel_rfl) Tryz.underlying49 _ h
theorem table_errrng {W : World} (h : laidMetH Tryz.prog Rows.fixedReadsUptoRow.laid W) : ∃ u v, W.var? Tryz.prog "strconv.ErrRange" = some #[.iface u v] := by
  rw [MakeChecks.laidMetH_plain _ _ _ (by kernel_rfl)] at h
  have e : Rows.fixedReadsUptoRow.laid = Rows.fixedReadsUptoRow.laid.take 4 ++ ("strconv.ErrRange", .iface "*errors.errorString" (.ptr (.agg [.lit (.string [118, 97, 108, 117, 101, 32, 111, 117, 116, 32, 111, 102, 32, 114, 97, 110, 103, 101])]))) :: Rows.fixedReadsUptoRow.laid.drop 5 := by kernel_rfl
  rw [e] at h
  exact errAt_laid (g := 2) (t := 49) (by kernel_rfl) (by kernel_rfl) Tryz.underlying49 _ h
theorem table_pow10 {W : World} (h : laidMetH Tryz.prog Rows.fixedReadsUptoRow.laid W) : Lib.TabIs Tryz.prog W "internal/strconv.uint64pow10" .u64 Lib.pow10Tab := by
  rw [MakeChecks.laidMetH_plain _ _ _ (by kernel_rfl)] at h
  have e : Rows.fixedReadsUptoRow.laid = Rows.fixedReadsUptoRow.laid.take 2 ++ ("internal/strconv.uint64pow10", Lib.tabData .u64 Lib.pow10Tab) :: Rows.fixedReadsUptoRow.laid.drop 3 := by kernel_rfl
  rw [e] at h
  exact tabIs_laid (g := 3) (t := 125) (e := 67) (n := 20) (by kernel_rfl) (by kernel_rfl) (by kernel_rfl) (by kernel_rfl) (by kernel_rfl) (by kernel_rfl) _ h
theorem table_db64 {W : World} (h : laidMetH Tryz.prog Rows.fixedReadsUptoRow.laid W) : Lib.TabIs Tryz.prog W "math/bits.deBruijn64tab" .u8 db64 := by
  rw [MakeChecks.laidMetH_plain _ _ _ (by kernel_rfl)] at h
  have e : Rows.fixedReadsUptoRow.laid = Rows.fixedReadsUptoRow.laid.take 1 ++ ("math/bits.deBruijn64tab", Lib.tabData .u8 db64) :: Rows.fixedReadsUptoRow.laid.drop 2 := by kernel_rfl
  rw [e] at h
  exact tabIs_laid (g := 7) (t := 143) (e := 5) (n := 64) (by kernel_rfl) (by kernel_rfl) (by kernel_rfl) (by kernel_rfl) (by kernel_rfl) (by kernel_rfl) _ h
set_option maxRecDepth 100000 in
theorem contract (H : Type) (enc : TypeId × Value → H) (W : World) (base : Nat) (args : Array Value) (ds gs : List (DataW H)) (before : List MemPlace)
    (hval0 : ∀ (j : Nat) t v, Tryz.f3.params[j]? = some t → args[j]? = some v → Value.okWide Tryz.prog W .any base t v)
    (hW : DataW.Whole enc Tryz.prog Tryz.f3.params.toList Rows.fixedReadsSpec.vars false W args.toList ds gs before) (hk : Rows.uptoSmall H (ds ++ gs) = true)
    (hsz0 : (DataW.weightsEach Tryz.prog (Tryz.f3.params.toList ++ Rows.fixedReadsSpec.plain.varTypes Tryz.prog) (ds ++ gs)).all (· ≤ reachBytes) = true) (hL : laidMetH Tryz.prog Rows.fixedReadsUptoRow.laid W) :
    Calls Tryz.prog 3 args W fun e W' => ∃ v, e = .returned v ∧ Rows.fixedReadsSpec.post enc Tryz.prog Tryz.f3 false true false false W args v W' := by
  have hsz : (DataW.weightsEach Tryz.prog (Tryz.f3.params.toList ++ Rows.fixedReadsSpec.plain.varTypes Tryz.prog) (ds ++ gs)).all (· ≤ reachBytes) = true := hsz0
  have hval : ∀ (j : Nat) t v, Tryz.f3.params[j]? = some t → args[j]? = some v → Value.okWide Tryz.prog W .any base t v := hval0
  have hW' := hW
  obtain ⟨p, q, hA0, hV, rfl, hfz, hnd⟩ := hW
  have hA : DataW.TrodAll enc Tryz.prog W 0 (fun _ => true) true Tryz.f3.params.toList args.toList ds p := hA0
  rw [Tryz.params3] at hA hval hsz
  obtain ⟨v0, vs0, d0, ds0, p0, q0, hargs, rfl, rfl, h0, r0⟩ := trodAll_cons hA
  obtain ⟨v1, vs1, d1, ds1, p1, q1, rfl, rfl, rfl, h1, r1⟩ := trodAll_cons r0
  obtain ⟨rfl, rfl, rfl⟩ := trodAll_nil r1
  obtain rfl : args = #[v0, v1] := by cases args; simp_all
  obtain ⟨rfl, rfl⟩ := trodVars_none hV
  have hA3 : DataW.TrodAll enc Tryz.prog W 0 (fun _ => true) true [22, 23] #[v0, v1].toList [d0, d1] _ := (trodAll_cons_mk h0 (trodAll_cons_mk h1 trodAll_mk0))
  have hsz3 : (DataW.weightsEach Tryz.prog [22, 23] [d0, d1]).all (· ≤ reachBytes) = true := hsz
  have hval3 : ∀ (j : Nat) t v, ([22, 23] : List Nat)[j]? = some t → (#[v0, v1] : Array Value)[j]? = some v → Value.okWide Tryz.prog W .any base t v := fun j t v a b => hval j t v (by simpa using a) b
  have hk3 : Rows.uptoBulkAll [d0, d1] ≤ 1048576 := of_decide_eq_true hk
  clear hA0 hval0 hsz0 hsz hA hval
  refine (law_calls3 (rbulk H) envOK tokr rdok ok46 law_sub (gl_ok (table_errsyn hL) (table_errrng hL) (table_pow10 hL) (table_db64 hL)) hA3 hsz3 hval3 law_full hk3 (law_pure law_ok)).mono fun e W' ⟨he, bel⟩ => ?_
  subst he
  exact ⟨_, rfl, _, _, _, [], _, [], hW', trodAll_mk1 (shut_bool Tryz.underlying4 _), args_back laidOut bel (by kernel_rfl) hA3, rfl, bel.frame _, fun h => by cases h⟩
theorem laid_met (os : Os) : laidMetH Tryz.prog Rows.fixedReadsUptoRow.laid ((World.laidAll Tryz.prog os Rows.fixedReadsUptoRow.laid).forCall (fun _ _ => 0) ⟨#[], #[.slice none 0 0, .slice none 0 0], []⟩).memory := by
  rw [MakeChecks.laidMetH_plain _ _ _ (by kernel_rfl)]
  exact laidMet_laidAll _ (by kernel_rfl) (by kernel_rfl)
theorem reads (os : Os) {H : Type} (enc : TypeId × Value → H) : ∃ places, DataW.whole enc Tryz.prog ((World.laidAll Tryz.prog os Rows.fixedReadsUptoRow.laid).forCall (fun _ _ => 0) ⟨#[], #[.slice none 0 0, .slice none 0 0], []⟩).memory Tryz.f3.params.toList Rows.fixedReadsSpec.vars false (#[.slice none 0 0, .slice none 0 0]).toList 8 = some ([.nil, .nil], [], places) :=
  ⟨[], by kernel_rfl⟩
set_option maxRecDepth 100000 in
theorem lifted (os : Os) (started : os.Started) (H : Type) (enc : TypeId × Value → H) (F : Stop.Interp) :
    ReturnsInHanded {} Tryz.checked os 3 .any ((Rows.OpenSpec.upto Rows.fixedReadsSpec).preRow enc Tryz.prog Tryz.f3 Rows.fixedReadsUptoRow.domain false Rows.fixedReadsUptoRow.laid) (((Rows.OpenSpec.upto Rows.fixedReadsSpec).at F).post enc Tryz.prog Tryz.f3 false true false false) := by
  obtain ⟨places, hx⟩ := reads os enc
  refine returnsInHanded_of_row (C := Tryz.checked) (s := (Rows.OpenSpec.upto Rows.fixedReadsSpec)) own started (by kernel_rfl) Tryz.func3
    (witness_row_atRef (enc := enc) (C := Tryz.checked) false (World.laidAll Tryz.prog os Rows.fixedReadsUptoRow.laid) #[.slice none 0 0, .slice none 0 0] (World.laidAll_os _ _ _) (by kernel_rfl) (by kernel_rfl) (by kernel_rfl)
      (OpenSpec.preRow_of_cond 8 hx (by kernel_rfl) (fun k hk => by cases hk; kernel_rfl) (by kernel_rfl) (laid_met os))) ?_
  intro W base args ds gs before hval hW _ hcond hsz hL _ _
  exact contract H enc W base args ds gs before hval hW (hcond _ rfl) hsz hL
theorem over : Rows.fixedReadsUptoRow.holds Tryz.pinned (Rows.OpenSpec.upto Rows.fixedReadsSpec) :=
  OpenClaim.holds_of_cond 3 Tryz.f3 rfl rfl rfl rfl rfl rfl rfl ⟨rfl, rfl, rfl, rfl, rfl⟩ rfl rfl rfl rfl rfl (by kernel_rfl) Tryz.func3 (by kernel_rfl)
    (of_decide_eq_true (by kernel_rfl)) (by unfold Func.isWrapper; first | (rw [if_pos (by decide +kernel)]; kernel_rfl) | (rw [if_neg (by decide +kernel)]; exact ⟨rfl, rfl⟩))
    (fun os started H enc _ F => by rw [OpenClaim.pre_eq_preRow]; exact lifted os started H enc F)
theorem saidUpto : Rows.FixedReadsUptoSaid := over
/-- No parameter wants a stand-in; the program's own looks are off. -/
theorem plain (f : FuncId) (fn : Func) (hf : Tryz.pinned.checked.prog.funcNamed "clapperbridge/claplaw2.FixedReads" = some f) (hfn : Tryz.pinned.checked.prog.funcs[f]? = some fn) :
    true = Tryz.pinned.checked.prog.looks [] ∧ ∀ (j : Nat) t, fn.params[j]? = some t → Tryz.pinned.checked.prog.wantsStandIn t = false := by
  obtain rfl : f = 3 := Option.some.inj ((show Tryz.prog.funcNamed "clapperbridge/claplaw2.FixedReads" = some 3 by kernel_rfl).symm.trans hf) |>.symm
  obtain rfl : fn = Tryz.f3 := (Option.some.inj (Tryz.func3.symm.trans hfn)).symm
  refine ⟨by kernel_rfl, fun j t ht => ?_⟩
  rw [Tryz.params3] at ht
  have hm := Array.mem_of_getElem? ht
  have ha : (#[22, 23] : Array Nat).all (fun t => !Tryz.prog.wantsStandIn t) = true := by kernel_rfl
  have hw : Tryz.prog.wantsStandIn t = false := by simpa using Array.all_eq_true_iff_forall_mem.1 ha t hm
  exact hw
theorem cardUpto : Rows.FixedReadsUptoCardSaid :=
  Claim7.holds_tied_plain_at .later [] _ _ _ _ saidUpto (fun _ h => by cases h) (by kernel_rfl) (fun _ h => by cases h) fixedReadsUpto_row_tie rfl ⟨rfl, rfl⟩ (by kernel_rfl) rfl plain (by kernel_rfl)
#print axioms cardUpto
end Go.Proofs.YtoegcppcmgbkmaaGreatDoor.fixedReads
namespace Go.Proofs.YtoegcppcmgbkmaaGreatDoor
/-- The card, under a short name, for the claim. -/
theorem fixedReads_holds : Rows.FixedReadsUptoCardSaid := fixedReads.cardUpto
end Go.Proofs.YtoegcppcmgbkmaaGreatDoor
