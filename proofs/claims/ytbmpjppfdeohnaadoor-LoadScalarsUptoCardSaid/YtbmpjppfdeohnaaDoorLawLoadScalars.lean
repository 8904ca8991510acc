/- The law LoadScalars: whatever it is handed of bulk at most 1048576, it returns true and leaves all as it was. No other condition. -/
import Derived.Test.YtbmpjppfdeohnaaDoorRows
import Derived.Test.YtbmpjppfdeohnaaDoorCards
import Derived.Test.YtbmpjppfdeohnaaDoorTie
import Derived.Test.YtbmpjppfdeohnaaDoorPlLoadScalars
import Derived.WalkKit
import Derived.ProofKit
import Derived.OpenShut
import Derived.ShutString
import Derived.ChangeOld
import Derived.Below
import Derived.SizedLaws
import Derived.JoinedCond
import Derived.Deep.CondSized
import Derived.Deep.DeepHandedRow
import Derived.Deep.DeepWitnessRowRef
import Derived.Lib.LaidTab
import Derived.Lay
import Derived.MakeChecks
namespace Go.Proofs.YtbmpjppfdeohnaaDoor.loadScalars
open Go.ChangeShapes Go.WideShapes Go.ChangeAt Go.RowKit
open Go.Proofs.YtbmpjppfdeohnaaDoor.Fv Go.Proofs.YtbmpjppfdeohnaaDoor.PLoadScalars
set_option linter.unusedVariables false
theorem own : ownKnob Tryd.prog.godebug = none := by kernel_rfl
theorem laidOut : laidOutB Tryd.prog = true := by kernel_rfl
theorem rbulk (H : Type) : IsBulk (Rows.uptoBulk (H := H)) Rows.uptoBulkAll where
  str b := by simp [Rows.uptoBulk]
  lit l := by cases l <;> simp [Rows.uptoBulk]
  nil := by simp [Rows.uptoBulk]
  sl e s := by simp [Rows.uptoBulk]
  agg p := by simp [Rows.uptoBulk]
  ni := by simp [Rows.uptoBulkAll]
  co d r := by simp [Rows.uptoBulkAll]
theorem table_errsyn {W : World} (h : laidMetH Tryd.prog Rows.loadScalarsUptoRow.laid W) : ∃ u v, W.var? Tryd.prog "strconv.ErrSyntax" = some #[.iface u v] := by
  rw [MakeChecks.laidMetH_plain _ _ _ (by kernel_rfl)] at h
  have e : Rows.loadScalarsUptoRow.laid = Rows.loadScalarsUptoRow.laid.take 4 ++ ("strconv.ErrSyntax", .iface "*errors.errorString" (.ptr (.agg [.lit (.string [105, 110, 118, 97, 108, 105, 100, 32, 115, 121, 110, 116, 97, 120])]))) :: Rows.loadScalarsUptoRow.laid.drop 5 := by kernel_rfl
  rw [e] at h
  exact errAt_laid (g := 0) (t := 136) (by kernel_rfl) (by kernel_rfl) Tryd.underlying136 _ h
theorem table_errrng {W : World} (h : laidMetH Tryd.prog Rows.loadScalarsUptoRow.laid W) : ∃ u v, W.var? Tryd.prog "strconv.ErrRange" = some #[.iface u v] := by
  rw [MakeChecks.laidMetH_plain _ _ _ (by kernel_rfl)] at h
  have e : Rows.loadScalarsUptoRow.laid = Rows.loadScalarsUptoRow.laid.take 3 ++ ("strconv.ErrRange", .iface "*errors.errorString" (.ptr (.agg [.lit (.string [118, 97, 108, 117, 101, 32, 111, 117, 116, 32, 111, 102, 32, 114, 97, 110, 103, 101])]))) :: Rows.loadScalarsUptoRow.laid.drop 4 := by kernel_rfl
  rw [e] at h
  exact errAt_laid (g := 1) (t := 136) (by kernel_rfl) (by kernel_rfl) Tryd.underlying136 _ h
theorem table_pow10 {W : World} (h : laidMetH Tryd.prog Rows.loadScalarsUptoRow.laid W) : Lib.TabIs Tryd.prog W "internal/strconv.uint64pow10" .u64 Lib.pow10Tab := by
  rw [MakeChecks.laidMetH_plain _ _ _ (by kernel_rfl)] at h
  have e : Rows.loadScalarsUptoRow.laid = Rows.loadScalarsUptoRow.laid.take 2 ++ ("internal/strconv.uint64pow10", Lib.tabData .u64 Lib.pow10Tab) :: Rows.loadScalarsUptoRow.laid.drop 3 := by kernel_rfl
  rw [e] at h
  exact tabIs_laid (g := 3) (t := 239) (e := 154) (n := 20) (by kernel_rfl) (by kernel_rfl) (by kernel_rfl) (by kernel_rfl) (by kernel_rfl) (by kernel_rfl) _ h
set_option maxRecDepth 100000 in
theorem contract (H : Type) (enc : TypeId × Value → H) (W : World) (base : Nat) (args : Array Value) (ds gs : List (DataW H)) (before : List MemPlace)
    (hval0 : ∀ (j : Nat) t v, Tryd.f7.params[j]? = some t → args[j]? = some v → Value.okWide Tryd.prog W .any base t v)
    (hW : DataW.Whole enc Tryd.prog Tryd.f7.params.toList Rows.loadScalarsSpec.vars false W args.toList ds gs before) (hk : Rows.uptoSmall H (ds ++ gs) = true)
    (hsz0 : (DataW.weightsEach Tryd.prog (Tryd.f7.params.toList ++ Rows.loadScalarsSpec.plain.varTypes Tryd.prog) (ds ++ gs)).all (· ≤ reachBytes) = true) (hL : laidMetH Tryd.prog Rows.loadScalarsUptoRow.laid W) :
    Calls Tryd.prog 7 args W fun e W' => ∃ v, e = .returned v ∧ Rows.loadScalarsSpec.post enc Tryd.prog Tryd.f7 false true false false W args v W' := by
  have hsz : (DataW.weightsEach Tryd.prog (Tryd.f7.params.toList ++ Rows.loadScalarsSpec.plain.varTypes Tryd.prog) (ds ++ gs)).all (· ≤ reachBytes) = true := hsz0
  have hval : ∀ (j : Nat) t v, Tryd.f7.params[j]? = some t → args[j]? = some v → Value.okWide Tryd.prog W .any base t v := hval0
  have hW' := hW
  obtain ⟨p, q, hA0, hV, rfl, hfz, hnd⟩ := hW
  have hA : DataW.TrodAll enc Tryd.prog W 0 (fun _ => true) true Tryd.f7.params.toList args.toList ds p := hA0
  rw [Tryd.params7] at hA hval hsz
  obtain ⟨v0, vs0, d0, ds0, p0, q0, hargs, rfl, rfl, h0, r0⟩ := trodAll_cons hA
  obtain ⟨v1, vs1, d1, ds1, p1, q1, rfl, rfl, rfl, h1, r1⟩ := trodAll_cons r0
  obtain ⟨v2, vs2, d2, ds2, p2, q2, rfl, rfl, rfl, h2, r2⟩ := trodAll_cons r1
  obtain ⟨v3, vs3, d3, ds3, p3, q3, rfl, rfl, rfl, h3, r3⟩ := trodAll_cons r2
  obtain ⟨rfl, rfl, rfl⟩ := trodAll_nil r3
  obtain rfl : args = #[v0, v1, v2, v3] := by cases args; simp_all
  obtain ⟨rfl, rfl⟩ := trodVars_none hV
  have hA3 : DataW.TrodAll enc Tryd.prog W 0 (fun _ => true) true [3, 9, 46, 4] #[v0, v1, v2, v3].toList [d0, d1, d2, d3] _ := (trodAll_cons_mk h0 (trodAll_cons_mk h1 (trodAll_cons_mk h2 (trodAll_cons_mk h3 trodAll_mk0))))
  have hsz3 : (DataW.weightsEach Tryd.prog [3, 9, 46, 4] [d0, d1, d2, d3]).all (· ≤ reachBytes) = true := hsz
  have hval3 : ∀ (j : Nat) t v, ([3, 9, 46, 4] : List Nat)[j]? = some t → (#[v0, v1, v2, v3] : Array Value)[j]? = some v → Value.okWide Tryd.prog W .any base t v := fun j t v a b => hval j t v (by simpa using a) b
  have hk3 : Rows.uptoBulkAll [d0, d1, d2, d3] ≤ 1048576 := of_decide_eq_true hk
  clear hA0 hval0 hsz0 hsz hA hval
  refine (law_calls3 (rbulk H) envOK tokr rdok ok35 law_sub (gl_ok (table_errsyn hL) (table_errrng hL) (table_pow10 hL)) hA3 hsz3 hval3 law_full hk3 (law_pure law_ok)).mono fun e W' ⟨he, bel⟩ => ?_
  subst he
  exact ⟨_, rfl, _, _, _, [], _, [], hW', trodAll_mk1 (shut_bool Tryd.underlying4 _), args_back laidOut bel (by kernel_rfl) hA3, rfl, bel.frame _, fun h => by cases h⟩
theorem laid_met (os : Os) : laidMetH Tryd.prog Rows.loadScalarsUptoRow.laid ((World.laidAll Tryd.prog os Rows.loadScalarsUptoRow.laid).forCall (fun _ _ => 0) ⟨#[], #[.int .i64 0, .string ByteArray.empty, .agg #[.int .i64 0, .int .i64 0, .string ByteArray.empty, .slice none 0 0], .bool false], []⟩).memory := by
  rw [MakeChecks.laidMetH_plain _ _ _ (by kernel_rfl)]
  exact laidMet_laidAll _ (by kernel_rfl) (by kernel_rfl)
theorem reads (os : Os) {H : Type} (enc : TypeId × Value → H) : ∃ places, DataW.whole enc Tryd.prog ((World.laidAll Tryd.prog os Rows.loadScalarsUptoRow.laid).forCall (fun _ _ => 0) ⟨#[], #[.int .i64 0, .string ByteArray.empty, .agg #[.int .i64 0, .int .i64 0, .string ByteArray.empty, .slice none 0 0], .bool false], []⟩).memory Tryd.f7.params.toList Rows.loadScalarsSpec.vars false (#[.int .i64 0, .string ByteArray.empty, .agg #[.int .i64 0, .int .i64 0, .string ByteArray.empty, .slice none 0 0], .bool false]).toList 8 = some ([.lit (.int .i64 0), .lit (.string []), .agg [.lit (.int .i64 0), .lit (.int .i64 0), .lit (.string []), .nil], .lit (.bool false)], [], places) :=
  ⟨[], by kernel_rfl⟩
set_option maxRecDepth 100000 in
theorem lifted (os : Os) (started : os.Started) (H : Type) (enc : TypeId × Value → H) (F : Stop.Interp) :
    ReturnsInHanded {} Tryd.checked os 7 .any ((Rows.OpenSpec.upto Rows.loadScalarsSpec).preRow enc Tryd.prog Tryd.f7 Rows.loadScalarsUptoRow.domain false Rows.loadScalarsUptoRow.laid) (((Rows.OpenSpec.upto Rows.loadScalarsSpec).at F).post enc Tryd.prog Tryd.f7 false true false false) := by
  obtain ⟨places, hx⟩ := reads os enc
  refine returnsInHanded_of_row (C := Tryd.checked) (s := (Rows.OpenSpec.upto Rows.loadScalarsSpec)) own started (by kernel_rfl) Tryd.func7
    (witness_row_atRef (enc := enc) (C := Tryd.checked) false (World.laidAll Tryd.prog os Rows.loadScalarsUptoRow.laid) #[.int .i64 0, .string ByteArray.empty, .agg #[.int .i64 0, .int .i64 0, .string ByteArray.empty, .slice none 0 0], .bool false] (World.laidAll_os _ _ _) (by kernel_rfl) (by kernel_rfl) (by kernel_rfl)
      (OpenSpec.preRow_of_cond 8 hx (by kernel_rfl) (fun k hk => by cases hk; kernel_rfl) (by kernel_rfl) (laid_met os))) ?_
  intro W base args ds gs before hval hW _ hcond hsz hL _ _
  exact contract H enc W base args ds gs before hval hW (hcond _ rfl) hsz hL
theorem over : Rows.loadScalarsUptoRow.holds Tryd.pinned (Rows.OpenSpec.upto Rows.loadScalarsSpec) :=
  OpenClaim.holds_of_cond 7 Tryd.f7 rfl rfl rfl rfl rfl rfl rfl ⟨rfl, rfl, rfl, rfl, rfl⟩ rfl rfl rfl rfl rfl (by kernel_rfl) Tryd.func7 (by kernel_rfl)
    (of_decide_eq_true (by kernel_rfl)) (by unfold Func.isWrapper; first | (rw [if_pos (by decide +kernel)]; kernel_rfl) | (rw [if_neg (by decide +kernel)]; exact ⟨rfl, rfl⟩))
    (fun os started H enc _ F => by rw [OpenClaim.pre_eq_preRow]; exact lifted os started H enc F)
theorem saidUpto : Rows.LoadScalarsUptoSaid := over
/-- No parameter wants a stand-in; the program's own looks are off. -/
theorem plain (f : FuncId) (fn : Func) (hf : Tryd.pinned.checked.prog.funcNamed "clapperbridge/claplaw2.LoadScalars" = some f) (hfn : Tryd.pinned.checked.prog.funcs[f]? = some fn) :
    true = Tryd.pinned.checked.prog.looks [] ∧ ∀ (j : Nat) t, fn.params[j]? = some t → Tryd.pinned.checked.prog.wantsStandIn t = false := by
  obtain rfl : f = 7 := Option.some.inj ((show Tryd.prog.funcNamed "clapperbridge/claplaw2.LoadScalars" = some 7 by kernel_rfl).symm.trans hf) |>.symm
  obtain rfl : fn = Tryd.f7 := (Option.some.inj (Tryd.func7.symm.trans hfn)).symm
  refine ⟨by kernel_rfl, fun j t ht => ?_⟩
  rw [Tryd.params7] at ht
  have hm := Array.mem_of_getElem? ht
  have ha : (#[3, 9, 46, 4] : Array Nat).all (fun t => !Tryd.prog.wantsStandIn t) = true := by kernel_rfl
  have hw : Tryd.prog.wantsStandIn t = false := by simpa using Array.all_eq_true_iff_forall_mem.1 ha t hm
  exact hw
theorem cardUpto : Rows.LoadScalarsUptoCardSaid :=
  Claim7.holds_tied_plain_at .later [] _ _ _ _ saidUpto (fun _ h => by cases h) (by kernel_rfl) (fun _ h => by cases h) loadScalarsUpto_row_tie rfl ⟨rfl, rfl⟩ (by kernel_rfl) rfl plain (by kernel_rfl)
#print axioms cardUpto
end Go.Proofs.YtbmpjppfdeohnaaDoor.loadScalars
namespace Go.Proofs.YtbmpjppfdeohnaaDoor
/-- The card, under a short name, for the claim. -/
theorem loadScalars_holds : Rows.LoadScalarsUptoCardSaid := loadScalars.cardUpto
end Go.Proofs.YtbmpjppfdeohnaaDoor
