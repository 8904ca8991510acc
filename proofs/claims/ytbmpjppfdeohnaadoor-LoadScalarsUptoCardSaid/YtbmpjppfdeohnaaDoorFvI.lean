/- An evaluator of the model's code, part 9: Functions of plain data that answer with an error: nil or not. Under these contracts. No condition. -/
import Derived.Test.YtbmpjppfdeohnaaDoorFvH
import Derived.Lib.AtoiAll
import Derived.Lib.ParseIntB
import Derived.Lib.SlTrimSet
set_option linter.unusedVariables false
set_option linter.unusedSectionVars false
set_option linter.unusedSimpArgs false
/-! Functions of plain data that answer with an error: nil or not. Under these contracts. -/
namespace Go.Proofs.YtbmpjppfdeohnaaDoor.Fv
variable [Quiet]
variable {E : Env} {P : Program} {gl : Nat → AV E}

/-- An error's value: is it nil? -/
def ErrV (c : Bool) (v : Value) : Prop := (c = true ∧ v = .nilIface) ∨ (c = false ∧ ∃ t x, v = .iface t x)
/-- A function of data that answers with a thing and an error. -/
def PlainE (P : Program) (gl : Nat → AV E) (g : FuncId) (ps : List Ty) (ty : Ty) (F : DT E ps → Option (E.D ty × Bool)) : Prop :=
  ∀ (M : Mem) (μ : Mu) (w : World) (x : DT E ps) (r : E.D ty × Bool) (args : Array Value), F x = some r → GlOK M gl → Holds M w → RSL M μ (encs 0 (ps.map PK.t) x) args.toList →
    Calls P g args w fun e w' => ∃ v u M', e = .returned (.tuple #[v, u]) ∧ Ext w w' ∧ M.le M' ∧ Holds M' w' ∧ (∀ b o, M b o = none → M' b o ≠ none → w.heap.size ≤ b) ∧ RS M' μ (.t ty r.1 : AV E) v ∧ ErrV r.2 u
def moreE (g : FuncId) (ps : List Ty) (ty : Ty) (F : DT E ps → Option (E.D ty × Bool)) (prev : Call2 E) : Call2 E := fun f aa ins => bif Nat.beq f g then (match decs 0 (ps.map PK.t) aa ins with
  | some x => some ⟨E.D ty × Bool, F x, fun r => (.tup [.t ty r.1, .err r.2], ps.map fun _ => .none)⟩
  | none => prev f aa ins) else prev f aa ins
theorem plain_retE {M M' : Mem} {μ : Mu} {w w' : World} {ins : List (Blk E)} {ty : Ty} {x : E.D ty} {v u : Value} {c : Bool} {ex : Nat → Prop} (hw : WR M μ ins w) (hx : Ext w w') (hle : M.le M') (hh : Holds M' w') (hf : ∀ b o, M b o = none → M' b o ≠ none → w.heap.size ≤ b) (hn : ∀ i, blk ins i = .none) (hv : RS M' μ (.t ty x : AV E) v) (hu : ErrV c u) :
    ∃ v0 M' μ', Ending.returned (.tuple #[v, u]) = .returned v0 ∧ Tr ins.length M μ ins w M' μ' ins w' ∧ RetA ex M' μ' ins w w' (.tup [.t ty x, .err c] : AV E) v0 := by
  have he : ∀ i, Exc (μ i) (blk ins i) = none := fun i => by rw [hn i]; rfl
  refine ⟨.tuple #[v, u], M', μ, rfl, ⟨hle, ?_, ⟨hh, ?_, ?_, ?_⟩, rfl, hx.size, ?_, fun g o h1 h2 => .inl (hf g o h1 h2), ?_, hx.os, hx.tape, hx.output⟩, [v, u], rfl, rfl, fun _ => none, fun i hi => ?_, fun i j n hi hj h => by cases h⟩
  · intro i _
    rw [hn i]; trivial
  · intro i
    rw [hn i]; trivial
  · intro i j g h
    rw [he i] at h; cases h
  · intro i ly a h
    rw [hn i] at h; cases h
  · intro g hg _
    exact hx.old g hg
  · intro i g h
    rw [he i] at h; cases h
  · refine ⟨?_, fun n h => by cases h⟩
    match i, hi with
    | 0, _ => exact ⟨hv, rfl⟩
    | 1, _ =>
      refine ⟨?_, rfl⟩
      rcases hu with ⟨rfl, rfl⟩ | ⟨rfl, t, x, rfl⟩
      · exact RS.v (a := .err true) .errn
      · exact RS.v (a := .err false) (.errs t x)
theorem moreE_ok {prev : Call2 E} (ok : CallOK P gl (callR prev)) {g : FuncId} {ps : List Ty} {ty : Ty} {F : DT E ps → Option (E.D ty × Bool)} (h16 : Nat.ble ps.length 16 = true) (hfn : FnOK P g) (sc : PlainE P gl g ps ty F) : CallOK P gl (callR (moreE g ps ty F prev)) := by
  intro f aa ins r outs h
  by_cases hf : f = g
  · subst hf
    unfold callR moreE at h
    rw [show Nat.beq f f = true from Nat.beq_refl f] at h
    simp only [cond_true] at h
    cases hd : decs 0 (ps.map PK.t) aa ins with
    | none =>
      rw [hd] at h
      exact ok f aa ins r outs h
    | some x =>
      rw [hd] at h
      obtain ⟨y, hy, h2⟩ := Option.map_eq_some_iff.1 h
      obtain ⟨e1, e2⟩ := decs_spec hd
      rw [encBs_t] at e2
      subst e1 e2
      cases h2
      refine ⟨⟨hfn, by rw [List.length_map]; exact Nat.le_of_ble_eq_true h16⟩, fun M μ w args hgl hw hl hok => ?_⟩
      refine Calls.mono (sc M μ w x y args hy hgl hw.holds hl) ?_
      rintro e w' ⟨v, u, M', rfl, h1, h2, h3, h4, h5, h6⟩
      exact plain_retE hw h1 h2 h3 h4 (blk_nones ps) h5 h6
  · refine ok f aa ins r outs ?_
    rw [← h]
    unfold callR moreE
    have : Nat.beq f g = false := by
      cases hb : Nat.beq f g with
      | false => rfl
      | true => exact absurd (Nat.eq_of_beq_eq_true hb) hf
    rw [this]
    rfl

/-! ### Globals that hold errors -/
theorem err_cell {M : Mem} {w : World} (hgl : GlOK M gl) (hw : Holds M w) {g : Nat} (h : gl g = .err false) : ∃ t x, w.cell? ⟨g, 0, none⟩ = some (.iface t x) := by
  rcases hgl g with h1 | ⟨_, _, _, h1, _⟩ | ⟨_, t, x, h2⟩
  · rw [h] at h1; cases h1
  · rw [h] at h1; cases h1
  · exact ⟨t, x, (hw _ _ _ h2).cell trivial⟩
theorem cells_of_iface {H : Type} {enc : TypeId × Value → H} {w : World} {base : Nat} {sp : Nat → Bool} {fuel : Nat} {t : TypeId} {ms} {cs : List Value} {nm : String} {d : DataW H} {p : List MemPlace}
    (ht : P.underlying t = some (.interface ms)) (h : DataW.trod enc P w base sp false fuel t cs = some (.iface nm d, p)) : ∃ u v, cs = [.iface u v] := by
  cases fuel with
  | zero => simp [DataW.trod] at h
  | succ fuel =>
    unfold DataW.trod at h
    rw [ht] at h
    split at h <;> first | (rename_i h1 _ ; cases h1; done) | (rename_i h1; cases h1; done) | (rename_i h1 _; cases h1; cases h; done) | (rename_i h1; cases h1; cases h; done) | exact ⟨_, _, rfl⟩ | cases h
theorem errAt_laidV {P : Program} {W : World} {name : String} {nm : String} {d : DataW Unit} {rest : List (String × DataW Unit)} {g : Nat} {t : TypeId} {ms}
    (hg : P.globalNamed name = some g) (hty : (P.globals[g]?).map (·.type) = some t) (ht : P.underlying t = some (.interface ms)) :
    ∀ (pre : List (String × DataW Unit)) (ps : List MemPlace), DataW.LaidVars P W (pre ++ (name, .iface nm d) :: rest) ps → ∃ u v, W.var? P name = some #[.iface u v]
  | [], ps, h => by
    obtain ⟨g', t', cs, fuel, p, q, hg', ht', hvar, hd, _, _⟩ := h
    obtain rfl := Option.some.inj (hg.symm.trans hg')
    obtain rfl := Option.some.inj (hty.symm.trans ht')
    obtain ⟨u, v, hc⟩ := cells_of_iface ht hd
    refine ⟨u, v, hvar.trans ?_⟩
    congr 1
    apply Array.ext'
    rw [hc]
  | x :: pre, ps, h => by
    obtain ⟨g', t', cs, fuel, p, q, hg', ht', hvar, hd, h', _⟩ := h
    exact errAt_laidV hg hty ht pre q h'
theorem errAt_laid {P : Program} {W : World} {name : String} {nm : String} {d : DataW Unit} {rest : List (String × DataW Unit)} {g : Nat} {t : TypeId} {ms}
    (hg : P.globalNamed name = some g) (hty : (P.globals[g]?).map (·.type) = some t) (ht : P.underlying t = some (.interface ms))
    (pre : List (String × DataW Unit)) (h : laidMet P (pre ++ (name, .iface nm d) :: rest) W) : ∃ u v, W.var? P name = some #[.iface u v] := by
  obtain ⟨ps, h, _⟩ := h
  exact errAt_laidV hg hty ht pre ps h
theorem errAt_gl {W : World} {g : Nat} {name : String} (hn : P.globalNamed name = some g) (h : ∃ u v, W.var? P name = some #[.iface u v]) : ∃ t x, memOf W g 0 = some (.iface t x) := by
  obtain ⟨u, v, h⟩ := h
  unfold World.var? at h
  rw [hn, Option.bind_some] at h
  split at h
  · rename_i cs T fr hh
    injection h with h
    subst h
    refine ⟨u, v, memOf_cell ?_ trivial⟩
    rw [World.cell?, hh]
    rfl
  · cases h

/-! ### Numbers out of texts -/
/-- Neither a number nor one too large: there is one such end. -/
theorem third {x y : Go.Lib.NumEnd Int} (h1 : ∀ v, x ≠ .ok v) (h2 : x ≠ .range) (h3 : ∀ v, y ≠ .ok v) (h4 : y ≠ .range) : x = y := by
  cases x with
  | ok v => exact absurd rfl (h1 v)
  | range => exact absurd rfl h2
  | _ =>
    cases y with
    | ok v => exact absurd rfl (h3 v)
    | range => exact absurd rfl h4
    | _ => rfl
/-- What Atoi and ParseInt tell: a number; or an error, and a number beside it. -/
structure NumC (P : Program) (g : FuncId) (mk : ByteArray → Array Value) (R : List UInt8 → Go.Lib.NumEnd Int) (sat : List UInt8 → Int) (gs gr : Nat) : Prop where
  ok : ∀ (s : ByteArray), s.size ≤ 281474976710656 → ∀ v, R s.data.toList = .ok v → ∀ w, Calls P g (mk s) w fun e w' => e = .returned (.tuple #[.int .i64 v, .nilIface]) ∧ Go.RowKit.Below w.heap.size w w'
  syn : ∀ (s : ByteArray), s.size ≤ 281474976710656 → (∀ v, R s.data.toList ≠ .ok v) → R s.data.toList ≠ .range → ∀ (w : World) t x, w.cell? ⟨gs, 0, none⟩ = some (.iface t x) → Calls P g (mk s) w fun e w' => (∃ t x, e = .returned (.tuple #[.int .i64 0, .iface t x])) ∧ Go.RowKit.Below w.heap.size w w'
  rng : ∀ (s : ByteArray), s.size ≤ 281474976710656 → R s.data.toList = .range → ∀ (w : World) t x, w.cell? ⟨gr, 0, none⟩ = some (.iface t x) → Calls P g (mk s) w fun e w' => (∃ t x, e = .returned (.tuple #[.int .i64 (sat s.data.toList), .iface t x])) ∧ Go.RowKit.Below w.heap.size w w'
def numR (sat : List UInt8 → Int) (s : List UInt8) : Go.Lib.NumEnd Int → Int × Bool
  | .ok v => (v, true)
  | .range => (sat s, false)
  | _ => (0, false)
def numO (R : List UInt8 → Go.Lib.NumEnd Int) (sat : List UInt8 → Int) (s : List UInt8) : Option (Int × Bool) := bif decide (List.length s ≤ 281474976710656) then some (numR sat s (R s)) else none
theorem num_calls (hq : ¬ Quiet.q) {g : FuncId} {mk : ByteArray → Array Value} {R : List UInt8 → Go.Lib.NumEnd Int} {sat : List UInt8 → Int} {gs gr : Nat} (sc : NumC P g mk R sat gs gr) (h1 : gl gs = .err false) (h2 : gl gr = .err false)
    {M : Mem} {μ : Mu} {w : World} (hgl : GlOK M gl) (hh : Holds M w) (s : ByteArray) (r : Int × Bool) (hr : numO R sat s.data.toList = some r) :
    Calls P g (mk s) w fun e w' => ∃ v u M', e = .returned (.tuple #[v, u]) ∧ Ext w w' ∧ M.le M' ∧ Holds M' w' ∧ (∀ b o, M b o = none → M' b o ≠ none → w.heap.size ≤ b) ∧ RS M' μ (.t (.int .i64) r.1 : AV E) v ∧ ErrV r.2 u := by
  unfold numO at hr
  obtain ⟨k1, k2⟩ := bif_some hr
  have k1 := of_decide_eq_true k1
  have hs : s.size ≤ 281474976710656 := by rw [Array.length_toList] at k1; exact k1
  have k2 := (Option.some.inj k2).symm
  subst k2
  cases he : R s.data.toList with
  | ok v =>
    refine Calls.mono (sc.ok s hs v he w) ?_
    rintro e w' ⟨rfl, hb⟩
    have hx := Ext.below hq hb
    exact ⟨_, _, M, rfl, hx, .refl M, hx.holds hh, fun b o h1 h2 => absurd h1 h2, .v (.t (.int _ _)), .inl ⟨rfl, rfl⟩⟩
  | range =>
    obtain ⟨t, x, hc⟩ := err_cell hgl hh h2
    refine Calls.mono (sc.rng s hs he w t x hc) ?_
    rintro e w' ⟨⟨t', x', rfl⟩, hb⟩
    have hx := Ext.below hq hb
    exact ⟨_, _, M, rfl, hx, .refl M, hx.holds hh, fun b o h1 h2 => absurd h1 h2, .v (.t (.int _ _)), .inr ⟨rfl, _, _, rfl⟩⟩
  | _ =>
    obtain ⟨t, x, hc⟩ := err_cell hgl hh h1
    refine Calls.mono (sc.syn s hs (fun _ e => by rw [he] at e; cases e) (fun e => by rw [he] at e; cases e) w t x hc) ?_
    rintro e w' ⟨⟨t', x', rfl⟩, hb⟩
    have hx := Ext.below hq hb
    exact ⟨_, _, M, rfl, hx, .refl M, hx.holds hh, fun b o h1 h2 => absurd h1 h2, .v (.t (.int _ _)), .inr ⟨rfl, _, _, rfl⟩⟩
def atoiO (s : List UInt8) : Option (Int × Bool) := numO Go.Lib.atoiAll Go.Lib.atoiSat s
def parseO (s : List UInt8) (b n : Int) : Option (Int × Bool) := bif decide (b = 10) && decide (n = 64) then numO (Go.Lib.parseIntB 64) (Go.Lib.intSat 64) s else none
theorem atoiP (hq : ¬ Quiet.q) {g gs gr : Nat} (sc : NumC P g (fun s => #[.string s]) Go.Lib.atoiAll Go.Lib.atoiSat gs gr) (h1 : gl gs = .err false) (h2 : gl gr = .err false) :
    PlainE (E := E) P gl g [.str] (.int .i64) (fun x => atoiO x.1) := by
  intro M μ w x r args hF hgl hh hl
  obtain ⟨v, rfl, k1⟩ := rsl1 (a := .t .str x.1) hl
  obtain ⟨s, rfl, e1⟩ := rs_str k1
  have hF : atoiO x.1 = some r := hF
  rw [e1] at hF
  exact num_calls hq sc h1 h2 hgl hh s r hF
theorem rsl3 {M : Mem} {μ : Mu} {a b c : AV E} {args : Array Value} (h : RSL M μ [a, b, c] args.toList) : ∃ v u t, args = #[v, u, t] ∧ RS M μ a v ∧ RS M μ b u ∧ RS M μ c t := by
  obtain ⟨l⟩ := args
  simp only at h
  cases h with
  | cons h1 h => cases h with
    | cons h2 h => cases h with
      | cons h3 h => cases h; exact ⟨_, _, _, rfl, h1, h2, h3⟩
theorem parseP (hq : ¬ Quiet.q) {g gs gr : Nat} (sc : NumC P g (fun s => #[.string s, .int .i64 10, .int .i64 64]) (Go.Lib.parseIntB 64) (Go.Lib.intSat 64) gs gr) (h1 : gl gs = .err false) (h2 : gl gr = .err false) :
    PlainE (E := E) P gl g [.str, .int .i64, .int .i64] (.int .i64) (fun x => parseO x.1 x.2.1 x.2.2.1) := by
  intro M μ w x r args hF hgl hh hl
  obtain ⟨v, u, t, rfl, k1, k2, k3⟩ := rsl3 (a := .t .str x.1) (b := .t (.int .i64) x.2.1) (c := .t (.int .i64) x.2.2.1) hl
  obtain ⟨s, rfl, e1⟩ := rs_str k1
  have e2 := rs_int k2
  have e3 := rs_int k3
  subst e2 e3
  have hF : parseO x.1 x.2.1 x.2.2.1 = some r := hF
  unfold parseO at hF
  obtain ⟨k1, k2⟩ := bif_some hF
  simp only [Bool.and_eq_true, decide_eq_true_eq] at k1
  rw [k1.1, k1.2]
  rw [e1] at k2
  exact num_calls hq sc h1 h2 hgl hh s r k2

/-! ### Texts cut at both ends -/
/-- Two texts to a text, while memory grows. -/
theorem plain_sssE {g : FuncId} {F : List UInt8 → List UInt8 → Option (List UInt8)} (h : ∀ (a b : ByteArray) (w : World) r, F a.data.toList b.data.toList = some r → Calls P g #[.string a, .string b] w fun e w' => e = .returned (.string ⟨r.toArray⟩) ∧ Ext w w') :
    PlainC (E := E) P gl g [.str, .str] .str (fun x => F x.1 x.2.1) := by
  intro M μ w x r args hF hgl hh hl
  obtain ⟨v, u, rfl, h1, h2⟩ := rsl2 (a := .t .str x.1) (b := .t .str x.2.1) hl
  obtain ⟨a, rfl, e1⟩ := rs_str h1
  obtain ⟨b, rfl, e2⟩ := rs_str h2
  have hF : F x.1 x.2.1 = some r := hF
  rw [e1, e2] at hF
  refine Calls.mono (h a b w r hF) ?_
  rintro e w' ⟨rfl, hx⟩
  exact plain_ext hh hx (.str_mk _)
def trimO (s c : List UInt8) : Option (List UInt8) := bif decide (List.length s ≤ 4294967296) && decide (List.length c ≤ 1000) && c.all (fun b => decide (b.toNat < 128)) then some (Go.Lib.trimS s c) else none
theorem trimO_some {s c r : List UInt8} (h : trimO s c = some r) : List.length s ≤ 4294967296 ∧ List.length c ≤ 1000 ∧ c.all (fun b => decide (b.toNat < 128)) = true ∧ r = Go.Lib.trimS s c := by
  unfold trimO at h
  obtain ⟨h1, h2⟩ := bif_some h
  simp only [Bool.and_eq_true, decide_eq_true_eq] at h1
  exact ⟨h1.1.1, h1.1.2, h1.2, (Option.some.inj h2).symm⟩
end Go.Proofs.YtbmpjppfdeohnaaDoor.Fv
