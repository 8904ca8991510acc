/- An evaluator of the model's code, part 4: A call's step. No condition. -/
import Derived.Test.YtbmpjppfdeohnaaDoorFvC
import Derived.LoopN
set_option linter.unusedVariables false
set_option linter.unusedSectionVars false
set_option linter.unusedSimpArgs false
/-! A call's step. -/
namespace Go.Proofs.YtbmpjppfdeohnaaDoor.Fv
variable [Quiet]
variable {ex : Nat → Prop} {E : Env} {P : Program} {tt : Nat → Option TE} {gl : Nat → AV E} {H : Hints} {M M' : Mem} {μ μ' : Mu} {b b' : List (Blk E)} {w w' : World}

/-- A slot's value, or nothing told. -/
def RE (M : Mem) (μ : Mu) (a : AV E) (v : Value) : Prop := a = .undef ∨ ∃ cs, RV M μ a cs ∧ v = mkV a.isAgg cs
theorem RE.rs {a : AV E} {v : Value} (h : RE M μ a v) : RS M μ a v := by
  rcases h with rfl | ⟨cs, h, rfl⟩
  · exact .undef _
  · exact .v h

/-- All that was received, and its homes. -/
structure RecvsOK (M : Mem) (w : World) (b outs : List (Blk E)) (back : List (Nat × Nat)) (μo : Mu) (gs : Nat → Option Nat) (n : Nat) (u : Upd E) (hs : List (Home E)) : Prop where
  u : u = hs.map fun h => (h.id, h.x)
  home : ∀ h ∈ hs, free b h.id = true ∧ (∀ μ, BW M μ w h.c h.x) ∧ (∀ ly a, h.x ≠ .var ly a)
  src : ∀ h ∈ hs, ∀ m, Exc h.c h.x = some m → ∃ i, i < n ∧ gs i = some m
  one : ∀ h ∈ hs, ∀ h' ∈ hs, ∀ m, Exc h.c h.x = some m → Exc h'.c h'.x = some m → (∀ i j m, i < n → j < n → gs i = some m → gs j = some m → i = j) → h.id = h'.id

theorem recvs1_spec {outs : List (Blk E)} {back : List (Nat × Nat)} {μo : Mu} {step : Nat} : ∀ (shs : List RSh) (id : Nat) (as : List (AV E)) (vs : List Value) (gs : Nat → Option Nat) (l : List (AV E)) (u : Upd E),
    recvs1 outs b back step id shs as = some (l, u) → shs.length = as.length → (∀ i (hi : i < as.length), Ret1 M μo outs w as[i] (vs.getD i undef) (gs i)) →
    ∃ hs, RecvsOK M w b outs back μo gs as.length u hs ∧ (∀ h ∈ hs, ∃ i, i < as.length ∧ h.id = id + i * step ∧ ∀ m, Exc h.c h.x = some m → gs i = some m) ∧ l.length = as.length ∧
      ∀ (μ : Mu) (b' : List (Blk E)), (∀ h ∈ hs, μ h.id = h.c ∧ blk b' h.id = h.x) → (∀ p id, back.lookup p = some id → μ id = μo p ∧ SameB (blk b' id) (blk outs p)) → ∀ i (hi : i < l.length), RE M μ l[i] (vs.getD i undef) ∧ OKA b' l[i]
  | [], id, as, vs, gs, l, u, h, hlen, hr => by
    have h : some (([] : List (AV E)), ([] : Upd E)) = some (l, u) := h
    cases h
    have : as = [] := List.length_eq_zero_iff.1 hlen.symm
    subst this
    exact ⟨[], ⟨rfl, by simp, by simp, by simp⟩, by simp, rfl, fun μ b' _ _ i hi => by simp at hi⟩
  | sh :: shs, id, [], vs, gs, l, u, h, hlen, hr => by simp at hlen
  | sh :: shs, id, r :: as, vs, gs, l, u, h, hlen, hr => by
    rw [recvs1_cons] at h
    obtain ⟨⟨a, u1⟩, h1, h⟩ := Option.bind_eq_some_iff.1 h
    obtain ⟨⟨l2, u2⟩, h2, h⟩ := Option.bind_eq_some_iff.1 h
    cases h
    obtain ⟨hs1, k1⟩ := recv1_spec h1 (hr 0 (by simp))
    obtain ⟨hs2, k2, k3, k4, k5⟩ := recvs1_spec shs (id + step) as vs.tail (fun i => gs (i + 1)) l2 u2 h2 (by simpa using hlen) (fun i hi => by
      have := hr (i + 1) (by simpa using hi)
      have e : vs.tail.getD i undef = vs.getD (i + 1) undef := by cases vs <;> simp
      rw [e]
      exact this)
    have hsl : ∀ h ∈ hs1 ++ hs2, ∃ i, i < (r :: as).length ∧ h.id = id + i * step ∧ ∀ m, Exc h.c h.x = some m → gs i = some m := by
      intro h hh
      rcases List.mem_append.1 hh with hh | hh
      · exact ⟨0, by simp, by rw [k1.slot h hh]; simp, (k1.home h hh).2.2.1⟩
      · obtain ⟨i, h3, h4, h5⟩ := k3 h hh
        exact ⟨i + 1, by simpa using h3, by rw [h4, Nat.succ_mul]; omega, h5⟩
    refine ⟨hs1 ++ hs2, ⟨by rw [k1.u, k2.u, List.map_append], ?_, ?_, ?_⟩, hsl, by simp [k4], ?_⟩
    · intro h hh
      rcases List.mem_append.1 hh with hh | hh
      · exact ⟨(k1.home h hh).1, (k1.home h hh).2.1, (k1.home h hh).2.2.2⟩
      · exact k2.home h hh
    · intro h hh m hm
      obtain ⟨i, h3, _, h5⟩ := hsl h hh
      exact ⟨i, h3, h5 m hm⟩
    · intro h hh h' hh' m hm hm' hd
      obtain ⟨i, h3, h4, h5⟩ := hsl h hh
      obtain ⟨j, h6, h7, h8⟩ := hsl h' hh'
      have := hd i j m h3 h6 (h5 m hm) (h8 m hm')
      subst this
      rw [h4, h7]
    · intro μ b' hh hb i hi
      match i, hi with
      | 0, _ =>
        exact k1.rv μ b' (fun h hm => hh h (List.mem_append_left _ hm)) hb
      | i + 1, hi =>
        have := k5 μ b' (fun h hm => hh h (List.mem_append_right _ hm)) hb i (by simpa using hi)
        have e : vs.tail.getD i undef = vs.getD (i + 1) undef := by cases vs <;> simp
        rw [e] at this
        exact this

theorem recv1_tup {outs : List (Blk E)} {back : List (Nat × Nat)} {id : Nat} {sh : RSh} {l : List (AV E)} {a : AV E} {u : Upd E} (hs : sh ≠ .unit) (h : recv1 outs b back id sh (.tup l) = some (a, u)) : False := by
  unfold recv1 at h
  cases sh with
  | unit => exact hs rfl
  | t ty =>
    simp only [recvK] at h
    obtain ⟨y, hy, _⟩ := Option.bind_eq_some_iff.1 h
    cases castT_eq hy
  | asis =>
    simp only [recvK] at h
    obtain ⟨y, hy, _⟩ := Option.bind_eq_some_iff.1 h
    cases castE_eq hy
  | own e =>
    simp only [recvK] at h
    obtain ⟨y, hy, _⟩ := Option.bind_eq_some_iff.1 h
    cases castO_eq hy
  | ownrow e =>
    simp only [recvK] at h
    obtain ⟨y, hy, _⟩ := Option.bind_eq_some_iff.1 h
    cases castR_eq hy
  | ag l e =>
    simp only [recvK] at h
    obtain ⟨y, hy, _⟩ := Option.bind_eq_some_iff.1 h
    cases castA_eq hy
  | inp p e =>
    simp only [recvK] at h
    obtain ⟨y, hy, _⟩ := Option.bind_eq_some_iff.1 h
    cases (castS_eq hy).1
  | inrow p e =>
    simp only [recvK] at h
    obtain ⟨y, hy, _⟩ := Option.bind_eq_some_iff.1 h
    cases (castW_eq hy).1
  | _ => cases h

/-- What a call hands back, as the caller has it. -/
def RecvAOK (ex : Nat → Prop) (M : Mem) (w0 w : World) (b outs : List (Blk E)) (back : List (Nat × Nat)) (μo : Mu) (v : Value) (a : AV E) (u : Upd E) (hs : List (Home E)) : Prop :=
  u = (hs.map fun h => (h.id, h.x)) ∧ (∀ h ∈ hs, free b h.id = true ∧ (∀ μ, BW M μ w h.c h.x) ∧ (∀ ly a, h.x ≠ .var ly a) ∧ Own ex μo outs w0 (Exc h.c h.x)) ∧
    (∀ h ∈ hs, ∀ h' ∈ hs, ∀ m, Exc h.c h.x = some m → Exc h'.c h'.x = some m → h.id = h'.id) ∧
    ∀ (μ : Mu) (b' : List (Blk E)), (∀ h ∈ hs, μ h.id = h.c ∧ blk b' h.id = h.x) → (∀ p id, back.lookup p = some id → μ id = μo p ∧ SameB (blk b' id) (blk outs p)) → RS M μ a v ∧ OKA b' a

theorem recvA_spec {outs : List (Blk E)} {back : List (Nat × Nat)} {μo : Mu} {w0 : World} {step d : Nat} {sh : RSh} {r a : AV E} {u : Upd E} {v : Value} (h : recvA1 outs b back step d sh r = some (a, u)) (hr : RetA ex M μo outs w0 w r v) :
    ∃ hs : List (Home E), RecvAOK ex M w0 w b outs back μo v a u hs := by
  have single : (∀ l, r ≠ .tup l) → recv1 outs b back d sh r = some (a, u) → ∃ hs : List (Home E), RecvAOK ex M w0 w b outs back μo v a u hs := by
    intro hnt h1
    have hr' : ∃ g, Ret1 M μo outs w r v g ∧ Own ex μo outs w0 g := by
      cases r <;> first | exact absurd rfl (hnt _) | exact hr
    obtain ⟨g, h2, h3⟩ := hr'
    obtain ⟨hs, k⟩ := recv1_spec h1 h2
    refine ⟨hs, k.u, ?_, ?_, ?_⟩
    · intro h hh
      obtain ⟨k1, k2, k3, k4⟩ := k.home h hh
      exact ⟨k1, k2, k4, fun n hn => h3 n (k3 n hn)⟩
    · intro h hh h' hh' m _ _
      rw [k.slot h hh, k.slot h' hh']
    · intro μ b' hh hb
      obtain ⟨k1, k2⟩ := k.rv μ b' hh hb
      exact ⟨RE.rs k1, k2⟩
  cases sh with
  | tup shs =>
    rw [recvA1_tup] at h
    obtain ⟨hl, h9⟩ := bif_some h
    clear h
    simp only [Bool.and_eq_true, decide_eq_true_eq] at hl
    obtain ⟨hl0, hl⟩ := hl
    obtain ⟨⟨l, u'⟩, h1, h⟩ := Option.map_eq_some_iff.1 h9
    injection h with h3 h4
    subst h3 h4
    have hrt : (∃ l, r = .tup l) ∨ asTup r = [] := by
      cases r <;> first | exact .inl ⟨_, rfl⟩ | exact .inr rfl
    rcases hrt with ⟨l0, rfl⟩ | he
    · obtain ⟨vs, rfl, hvl, gs, hg, hd⟩ := hr
      obtain ⟨hs, k1, k2, k3, k4⟩ := recvs1_spec shs (d + step) l0 vs gs l _ h1 hl (fun i hi => (hg i hi).1)
      refine ⟨hs, k1.u, ?_, ?_, ?_⟩
      · intro h hh
        obtain ⟨m1, m2, m3⟩ := k1.home h hh
        refine ⟨m1, m2, m3, fun n hn => ?_⟩
        obtain ⟨i, m4, m5⟩ := k1.src h hh n hn
        exact (hg i m4).2 n m5
      · intro h hh h' hh' m hm hm'
        exact k1.one h hh h' hh' m hm hm' hd
      · intro μ b' hh hb
        have k5 := k4 μ b' hh hb
        refine ⟨.tup l vs (by omega) fun i hi => (k5 i hi).1, .tup l fun c hc => ?_⟩
        obtain ⟨i, hi, rfl⟩ := List.mem_iff_getElem.1 hc
        exact (k5 i hi).2
    · rw [he] at hl
      simp only [List.length_nil] at hl
      omega
  | unit =>
    cases h
    exact ⟨[], rfl, by simp, by simp, fun _ _ _ _ => ⟨.undef _, .undef _⟩⟩
  | t ty =>
    have h' : recv1 outs b back d (.t ty) r = some (a, u) := h
    exact single (fun l hl => recv1_tup (sh := .t ty) (by simp) (hl ▸ h')) h'
  | own e =>
    have h' : recv1 outs b back d (.own e) r = some (a, u) := h
    exact single (fun l hl => recv1_tup (sh := .own e) (by simp) (hl ▸ h')) h'
  | ownrow e =>
    have h' : recv1 outs b back d (.ownrow e) r = some (a, u) := h
    exact single (fun l hl => recv1_tup (sh := .ownrow e) (by simp) (hl ▸ h')) h'
  | ag l e =>
    have h' : recv1 outs b back d (.ag l e) r = some (a, u) := h
    exact single (fun l' hl => recv1_tup (sh := .ag l e) (by simp) (hl ▸ h')) h'
  | inp p e =>
    have h' : recv1 outs b back d (.inp p e) r = some (a, u) := h
    exact single (fun l hl => recv1_tup (sh := .inp p e) (by simp) (hl ▸ h')) h'
  | inrow p e =>
    have h' : recv1 outs b back d (.inrow p e) r = some (a, u) := h
    exact single (fun l hl => recv1_tup (sh := .inrow p e) (by simp) (hl ▸ h')) h'
  | asis =>
    have h' : recv1 outs b back d .asis r = some (a, u) := h
    exact single (fun l hl => recv1_tup (sh := .asis) (by simp) (hl ▸ h')) h'

/-! ### The call -/
theorem nodup_inj {α : Type} (f : α → Nat) : ∀ (l : List α), nodup (l.map f) = true → ∀ x ∈ l, ∀ y ∈ l, f x = f y → x = y
  | [], _, x, hx, _, _, _ => by simp at hx
  | a :: l, h, x, hx, y, hy, he => by
    simp only [List.map_cons, nodup, Bool.and_eq_true, Bool.not_eq_true', List.contains_eq_mem, decide_eq_false_iff_not, List.mem_map, not_exists, not_and] at h
    rcases List.mem_cons.1 hx with hx | hx <;> rcases List.mem_cons.1 hy with hy | hy
    · rw [hx, hy]
    · exact absurd (by rw [← he, hx]) (h.1 y hy)
    · exact absurd (by rw [he, hy]) (h.1 x hx)
    · exact nodup_inj f l h.2 x hx y hy he
theorem nodup_append {l l' : List Nat} (h : nodup (l ++ l') = true) : nodup l = true ∧ nodup l' = true ∧ ∀ x ∈ l, x ∉ l' := by
  induction l with
  | nil => exact ⟨rfl, h, by simp⟩
  | cons a l ih =>
    simp only [List.cons_append, nodup, Bool.and_eq_true, Bool.not_eq_true', List.contains_eq_mem, decide_eq_false_iff_not, List.mem_append, not_or] at h ⊢
    obtain ⟨⟨h1, h2⟩, h3⟩ := h
    obtain ⟨k1, k2, k3⟩ := ih h3
    refine ⟨⟨h1, k1⟩, k2, fun x hx => ?_⟩
    rcases List.mem_cons.1 hx with rfl | hx
    · exact h2
    · exact k3 x hx

open Classical in
/-- Where the homes lie behind a call. -/
noncomputable def muB (μ μo : Mu) (back : List (Nat × Nat)) (hs : List (Home E)) : Mu := fun i =>
  if h : ∃ x ∈ hs, x.id = i then (Classical.choose h).c else if h : ∃ q ∈ back, q.2 = i then μo (Classical.choose h).1 else μ i
theorem muB_home {μ μo : Mu} {back : List (Nat × Nat)} {hs : List (Home E)} (hn : nodup (hs.map (·.id)) = true) {h : Home E} (hh : h ∈ hs) : muB μ μo back hs h.id = h.c := by
  have hex : ∃ x ∈ hs, x.id = h.id := ⟨h, hh, rfl⟩
  unfold muB
  rw [dif_pos hex]
  have := Classical.choose_spec hex
  rw [nodup_inj (·.id) hs hn _ this.1 h hh this.2]
theorem muB_back {μ μo : Mu} {back : List (Nat × Nat)} {hs : List (Home E)} (hn : nodup (back.map (·.2)) = true) {q : Nat × Nat} (hq : q ∈ back) (hno : ∀ h ∈ hs, h.id ≠ q.2) : muB μ μo back hs q.2 = μo q.1 := by
  have hex : ∃ x ∈ back, x.2 = q.2 := ⟨q, hq, rfl⟩
  unfold muB
  rw [dif_neg (by rintro ⟨x, hx, he⟩; exact hno x hx he), dif_pos hex]
  have := Classical.choose_spec hex
  rw [nodup_inj (·.2) back hn _ this.1 q hq this.2]
theorem muB_else {μ μo : Mu} {back : List (Nat × Nat)} {hs : List (Home E)} {i : Nat} (h1 : ∀ h ∈ hs, h.id ≠ i) (h2 : ∀ q ∈ back, q.2 ≠ i) : muB μ μo back hs i = μ i := by
  unfold muB
  rw [dif_neg (by rintro ⟨x, hx, he⟩; exact h1 x hx he), dif_neg (by rintro ⟨x, hx, he⟩; exact h2 x hx he)]

theorem RSL.append {l l' : List (AV E)} {vs vs' : List Value} (h : RSL M μ l vs) (h' : RSL M μ l' vs') : RSL M μ (l ++ l') (vs ++ vs') := by
  induction h with
  | nil => exact h'
  | cons h _ ih => exact .cons h ih
theorem blk_append (l l' : List (Blk E)) (i : Nat) : blk (l ++ l') i = if i < l.length then blk l i else blk l' (i - l.length) := by
  simp only [blk, List.getD_eq_getElem?_getD]
  split
  · rw [List.getElem?_append_left (by assumption)]
  · rw [List.getElem?_append_right (by omega)]
theorem blk_none {α : Type} (l : List α) (i : Nat) : blk (l.map fun _ => (Blk.none : Blk E)) i = .none := by
  simp only [blk, List.getD_eq_getElem?_getD, List.getElem?_map]
  cases l[i]? <;> rfl

theorem call_step0 (hE : EnvOK E) {call : CallF E} (hC : CallOK P gl call) (hgl : GlOK M gl) (hw : WR M μ b w) {f : FuncId} {cs : List (Cap E)} {sh : RSh} {args : List (Nat × AV E)} {step d : Nat} {cl : Cl} {a : AV E} {u : Upd E} {vs vc : List Value}
    (h : call10 tt H call b step f cs sh args d = some (cl, a, u)) (hl : RSL M μ (args.map (·.2)) vs) (hok : ∀ x ∈ args, OKA b x.2)
    (hcs : ∀ μ, RSL (E := E) M μ (cs.map fun c => .imm c.ty c.v) vc) :
    FnOK P f ∧ Calls P f (vs ++ vc).toArray w fun e w' => ∃ v M' μ', e = .returned v ∧ Tr b.length M μ b w M' μ' (upds b u) w' ∧ RS M' μ' a v ∧ OKA (upds b u) a := by
  unfold call10 callK0 at h
  split at h
  · rename_i as ins back hp
    obtain ⟨hnd, h9⟩ := bif_some h
    clear h
    obtain ⟨⟨r, outs⟩, hcall, h8⟩ := Option.bind_eq_some_iff.1 h9
    clear h9
    rw [recvAll_nat] at h8
    obtain ⟨⟨a', u'⟩, hrecv, h7⟩ := Option.bind_eq_some_iff.1 h8
    clear h8
    rw [backK_nat] at h7
    obtain ⟨v', hback, h6⟩ := Option.bind_eq_some_iff.1 h7
    clear h7
    obtain ⟨hnu, h5⟩ := bif_some h6
    clear h6
    cases h5
    simp only at hrecv hback hnu
    obtain ⟨hv', hlent⟩ := backK_spec outs b back v' hback
    have hP := passL_spec hE hw (H.cons f) args 0 vs as ins back hp hl hok
    have hkey := hP.key
    -- the callee's blocks
    have hins : ∀ p, blk (ins ++ cs.map fun _ => (Blk.none : Blk E)) p = match back.lookup p with | some id => blk b id | none => .none := by
      intro p
      rw [blk_append]
      split
      · rename_i hp'
        have := hP.blks p (by rw [← hP.lb]; exact hp')
        rw [Nat.zero_add] at this
        rcases this with ⟨h1, h2⟩ | ⟨id, h1, h2, _⟩
        · rw [h1, h2]
        · rw [h1, h2]
      · rename_i hp'
        rw [blk_none]
        have : back.lookup p = none := by
          rw [List.lookup_eq_none_iff]
          intro q hq
          have := (hkey q.1 q.2 hq).2.2
          have hlb := hP.lb
          have : q.1 < p := by omega
          simp; omega
        rw [this]
    have hlentb : ∀ p id, back.lookup p = some id → Lent (blk b id) := by
      intro p id h1
      have hm := lookup_mem' back p id h1
      have h2 := hkey p id hm
      have := hP.blks p (by omega)
      rw [Nat.zero_add] at this
      rcases this with ⟨h3, _⟩ | ⟨id', h3, _, h4⟩
      · rw [h1] at h3; cases h3
      · rw [h1] at h3; cases h3; exact h4
    have hmuC : ∀ p id, back.lookup p = some id → muC μ back p = μ id := fun p id h1 => by simp [muC, h1]
    have hinj : ∀ p p' id, back.lookup p = some id → back.lookup p' = some id → p = p' := by
      intro p p' id h1 h2
      have := nodup_inj (·.2) back hnd _ (lookup_mem' back p id h1) _ (lookup_mem' back p' id h2) rfl
      cases this
      rfl
    have hExcC : ∀ p g, Exc (muC μ back p) (blk (ins ++ cs.map fun _ => (Blk.none : Blk E)) p) = some g → ∃ id, back.lookup p = some id ∧ Exc (μ id) (blk b id) = some g := by
      intro p g h1
      rw [hins p] at h1
      cases hlk : back.lookup p with
      | none => rw [hlk] at h1; cases h1
      | some id => rw [hlk, hmuC p id hlk] at h1; exact ⟨id, rfl, h1⟩
    have hWR : WR M (muC μ back) (ins ++ cs.map fun _ => (Blk.none : Blk E)) w := by
      refine ⟨hw.holds, fun p => ?_, fun i j g h1 h2 => ?_, fun i ly a h1 => ?_⟩
      · rw [hins p]
        cases hlk : back.lookup p with
        | none => trivial
        | some id => rw [hmuC p id hlk]; exact (hw.bw id).lent (hlentb p id hlk) _
      · obtain ⟨id, k1, k2⟩ := hExcC i g h1
        obtain ⟨id', k3, k4⟩ := hExcC j g h2
        have := hw.exc id id' g k2 k4
        subst this
        exact hinj i j id k1 k3
      · rw [hins i] at h1
        cases hlk : back.lookup i with
        | none => rw [hlk] at h1; cases h1
        | some id =>
          rw [hlk] at h1
          have := hlentb i id hlk
          simp only at h1
          rw [h1] at this
          cases a with
          | t ty v => exact .t _ _ _
          | _ => exact this.elim
    obtain ⟨⟨hfn, h16⟩, hcalls⟩ := hC f _ _ r outs hcall
    refine ⟨hfn, ?_⟩
    have hlenI : (ins ++ cs.map fun _ => (Blk.none : Blk E)).length = args.length + cs.length := by simp [hP.lb]
    have hargs : RSL M (muC μ back) (as ++ cs.map fun c => .imm c.ty c.v) (vs ++ vc).toArray.toList := by
      have := (hP.rs (muC μ back) hmuC).append (hcs (muC μ back))
      simpa using this
    have hoks : ∀ a ∈ as ++ cs.map fun c => (AV.imm c.ty c.v : AV E), OKA (ins ++ cs.map fun _ => (Blk.none : Blk E)) a := by
      intro a ha
      rcases List.mem_append.1 ha with ha | ha
      · refine hP.ok _ (fun k hk => ?_) a ha
        rw [Nat.zero_add, blk_append, if_pos (by rw [hP.lb]; exact hk)]
      · obtain ⟨c, _, rfl⟩ := List.mem_map.1 ha
        exact .imm _ _ _
    refine Calls.mono (hcalls M (muC μ back) w _ hgl hWR hargs hoks) ?_
    rintro e w' ⟨v, M', μo, rfl, hTr, hret⟩
    refine ⟨v, M', ?_⟩
    obtain ⟨hs, hu, hhome, hone, hrv⟩ := recvA_spec (back := back) hrecv hret
    rw [hu, hv', List.map_append, List.map_map, List.map_map] at hnu
    obtain ⟨hn1, hn2, hn3⟩ := nodup_append hnu
    have hn1 : nodup (hs.map (·.id)) = true := hn1
    have hno : ∀ q ∈ back, ∀ h ∈ hs, h.id ≠ q.2 := by
      intro q hq h hh he
      exact hn3 q.2 (List.mem_map.2 ⟨h, hh, he⟩) (List.mem_map.2 ⟨q, hq, rfl⟩)
    have hnp : ∀ p id, back.lookup p = some id → p < (ins ++ cs.map fun _ => (Blk.none : Blk E)).length := by
      intro p id h1
      have := (hkey p id (lookup_mem' back p id h1)).2.2
      omega
    have hidlt : ∀ p id, back.lookup p = some id → id < b.length := by
      intro p id h1
      have := hlentb p id h1
      refine blk_lt (fun h2 => ?_)
      rw [h2] at this
      exact this
    have hmuH : ∀ h ∈ hs, muB μ μo back hs h.id = h.c := fun h hh => muB_home hn1 hh
    have hmuQ : ∀ p id, back.lookup p = some id → muB μ μo back hs id = μo p := fun p id h1 => by
      have hm := lookup_mem' back p id h1
      exact muB_back (q := (p, id)) hnd hm (hno _ hm)
    have hbH : ∀ h ∈ hs, blk (upds b (u' ++ v')) h.id = h.x := by
      intro h hh
      refine upds_in _ b h.id h.x ?_ ⟨(h.id, h.x), ?_, rfl⟩ (free_spec (hhome h hh).1).1
      · intro q hq he
        rcases List.mem_append.1 hq with hq | hq
        · rw [hu] at hq
          obtain ⟨h', hh', rfl⟩ := List.mem_map.1 hq
          rw [nodup_inj (·.id) hs hn1 h' hh' h hh he]
        · rw [hv'] at hq
          obtain ⟨q', hq', rfl⟩ := List.mem_map.1 hq
          exact absurd he.symm (hno q' hq' h hh)
      · exact List.mem_append_left _ (by rw [hu]; exact List.mem_map.2 ⟨h, hh, rfl⟩)
    have hbQ : ∀ p id, back.lookup p = some id → blk (upds b (u' ++ v')) id = blk outs p := by
      intro p id h1
      have hm := lookup_mem' back p id h1
      refine upds_in _ b id (blk outs p) ?_ ⟨(id, blk outs p), ?_, rfl⟩ (hidlt p id h1)
      · intro q hq he
        rcases List.mem_append.1 hq with hq | hq
        · rw [hu] at hq
          obtain ⟨h', hh', rfl⟩ := List.mem_map.1 hq
          exact absurd he (hno _ hm h' hh')
        · rw [hv'] at hq
          obtain ⟨q', hq', rfl⟩ := List.mem_map.1 hq
          have := nodup_inj (·.2) back hnd q' hq' (p, id) hm he
          rw [this]
      · exact List.mem_append_right _ (by rw [hv']; exact List.mem_map.2 ⟨(p, id), hm, rfl⟩)
    obtain ⟨hRS, hOK⟩ := hrv (muB μ μo back hs) (upds b (u' ++ v')) (fun h hh => ⟨hmuH h hh, hbH h hh⟩) (fun p id h1 => ⟨hmuQ p id h1, .inl (hbQ p id h1)⟩)
    refine ⟨muB μ μo back hs, rfl, ?_, hRS, hOK⟩
    refine Tr.make hw (fun i => (∃ h ∈ hs, h.id = i) ∨ ∃ p, back.lookup p = some i) hTr.le hTr.wr.holds (upds_len _ b) ?_ ?_ ?_ ?_ hTr.size ?_ ?_ ?_ ?_ hTr.os hTr.tape hTr.output
    · intro i hi
      have h1 : ∀ h ∈ hs, h.id ≠ i := fun h hh he => hi (.inl ⟨h, hh, he⟩)
      have h2 : ∀ q ∈ back, q.2 ≠ i := fun q hq he => hi (.inr ⟨q.1, by have := (hkey q.1 q.2 hq).1; rw [he] at this; exact this⟩)
      refine ⟨upds_out _ b i fun q hq => ?_, muB_else h1 h2⟩
      rcases List.mem_append.1 hq with hq | hq
      · rw [hu] at hq
        obtain ⟨h', hh', rfl⟩ := List.mem_map.1 hq
        exact h1 h' hh'
      · rw [hv'] at hq
        obtain ⟨q', hq', rfl⟩ := List.mem_map.1 hq
        exact h2 q' hq'
    · rintro i (⟨h, hh, rfl⟩ | ⟨p, h1⟩)
      · rw [(free_spec (hhome h hh).1).2]; trivial
      · have := hTr.lives p (hnp p i h1)
        rw [hins p, h1, hmuC p i h1] at this
        rw [hbQ p i h1, hmuQ p i h1]
        exact this
    · rintro _ i (⟨h, hh, rfl⟩ | ⟨p, h1⟩)
      · rw [hbH h hh, hmuH h hh]; exact (hhome h hh).2.1 _
      · rw [hbQ p i h1, hmuQ p i h1]
        rcases hlent _ (lookup_mem' back p i h1) with k0 | ⟨e0, k0⟩
        · exact (hTr.wr.bw p).lent k0 _
        · simp only at k0
          rw [k0]; trivial
    · rintro i j g (⟨h, hh, rfl⟩ | ⟨p, h1⟩) (⟨h', hh', rfl⟩ | ⟨p', h1'⟩) k1 k2
      · rw [hbH h hh, hmuH h hh] at k1
        rw [hbH h' hh', hmuH h' hh'] at k2
        exact hone h hh h' hh' g k1 k2
      · rw [hbH h hh, hmuH h hh] at k1
        rw [hbQ p' j h1', hmuQ p' j h1'] at k2
        exact absurd k2 (((hhome h hh).2.2.2 g k1).2 p')
      · rw [hbH h' hh', hmuH h' hh'] at k2
        rw [hbQ p i h1, hmuQ p i h1] at k1
        exact absurd k1 (((hhome h' hh').2.2.2 g k2).2 p)
      · rw [hbQ p i h1, hmuQ p i h1] at k1
        rw [hbQ p' j h1', hmuQ p' j h1'] at k2
        have := hTr.wr.exc p p' g k1 k2
        subst this
        rw [h1] at h1'
        exact Option.some.inj h1'
    · intro g hg hn
      refine hTr.frame g hg fun p hp' => ?_
      obtain ⟨id, k1, k2⟩ := hExcC p g hp'
      exact hn id (.inr ⟨p, k1⟩) k2
    · intro g o k1 k2
      rcases hTr.fresh g o k1 k2 with k3 | ⟨p, k3⟩
      · exact .inl k3
      · obtain ⟨id, k4, k5⟩ := hExcC p g k3
        exact .inr ⟨id, .inr ⟨p, k4⟩, k5⟩
    · rintro i g (⟨h, hh, rfl⟩ | ⟨p, h1⟩) k1
      · rw [hbH h hh, hmuH h hh] at k1
        rcases ((hhome h hh).2.2.2 g k1).1 with k2 | ⟨p, k2⟩
        · exact .inl k2
        · obtain ⟨id, k4, k5⟩ := hExcC p g k2
          exact .inr ⟨id, .inr ⟨p, k4⟩, k5⟩
      · rw [hbQ p i h1, hmuQ p i h1] at k1
        rcases hTr.exf p g k1 with k2 | ⟨p', k2⟩
        · exact .inl k2
        · obtain ⟨id, k3, k4⟩ := hExcC p' g k2
          exact .inr ⟨id, .inr ⟨p', k3⟩, k4⟩
    · rintro _ i ly a (⟨h, hh, rfl⟩ | ⟨p, h1⟩) k1
      · rw [hbH h hh] at k1
        exact absurd k1 ((hhome h hh).2.2.1 ly a)
      · rw [hbQ p i h1] at k1
        rcases hlent _ (lookup_mem' back p i h1) with this | ⟨e0, this⟩
        · simp only at this
          rw [k1] at this
          cases a with
          | t ty v => exact .t _ _ _
          | _ => exact this.elim
        · simp only at this
          rw [k1] at this
          cases this
  · cases h

/-! ### A row that is only read -/
theorem GlOK.mono' (h : GlOK M gl) (le : M.le M') : GlOK M' gl := fun g => by
  rcases h g with h | ⟨ty, v, cells, h1, h2, h3, h4⟩ | ⟨h1, t, x, h2⟩
  · exact .inl h
  · exact .inr (.inl ⟨ty, v, cells, h1, h2.mono le, h3.mono le, le _ _ _ h4⟩)
  · exact .inr (.inr ⟨h1, t, x, le _ _ _ h2⟩)
theorem lend_part (hE : EnvOK E) (hw : WR M μ b w) {id off n : Nat} {e : Ty} {xs : List (E.D e)} {cs : List Value} {gs : Nat → Prop} (hle : M.le (settle M w gs)) (hgs : Exc (μ id) (blk b id) = some (μ id).g → gs (μ id).g) (hb : blk b id = .row e xs) (hx : RV (E := E) M μ (.fs id e off n) cs) (hn : off + n ≤ xs.length) :
    RV (settle M w gs) μ (.t (.sl e) ((xs.drop off).take n)) cs := by
  have hbw := hw.bw id
  rw [hb] at hbw
  have hlen : ((xs.drop off).take n).length = n := by rw [List.length_take, List.length_drop]; omega
  cases hx with
  | fs _ _ _ _ cap base hbase hcap =>
    by_cases h0 : n = 0
    · subst h0
      have e0 : (xs.drop off).take 0 = [] := by simp
      rw [e0]
      exact .t (.sl [] base cap (fun _ => []) hcap (fun i hi => by simp at hi) (fun i hi => by simp at hi) (fun h => by rcases hbase with ⟨rfl, _⟩ | ⟨h', _⟩ <;> first | exact h' | cases h))
    · obtain ⟨hv0, cells, T, fr, css, g1, g2, ⟨rest, g3⟩, g4, _⟩ := hbw.resolve_left fun h => by rw [h.2, List.length_nil] at hn; omega
      have hE1 : Exc (μ id) (blk b id) = some (μ id).g := by rw [hb]; simp [Exc, hv0]
      have hat : CellsAt (settle M w gs) (μ id).g 0 css := settle_at (hgs hE1) g1 g3 g2.noT
      obtain ⟨l, j1, j2, j3, j4⟩ := g2.arr_part hE off n hn
      rcases hbase with ⟨rfl, _⟩ | ⟨h, _⟩
      · refine .t ?_
        have := RC.sl (M := settle M w gs) ((xs.drop off).take n) (some ⟨(μ id).g, off * size E e, none⟩) cap (fun i => l.getD i []) (by rw [hlen]; exact hcap) (fun i hi => (j2 i hi).mono hle) (fun i hi => ⟨_, rfl, rfl, ?_⟩) (fun h => nomatch h)
        · rw [hlen] at this
          exact this
        · rw [hlen] at hi
          obtain ⟨pre, post, m1, m2⟩ := j3 n (Nat.le_refl _)
          have hlt : l.take n = l := by rw [List.take_of_length_le (by omega)]
          rw [hlt] at m1
          have hp := flatten_piece l i (size E e) (by omega) (fun j hj => (j2 j (by rw [hlen]; omega)).len hE)
          have h1 : CellsAt (settle M w gs) (μ id).g (off * size E e) l.flatten := by
            intro j hj
            have h5 := hat (off * size E e + j) (by rw [m1]; simp only [List.length_append]; omega)
            have e5 : css[off * size E e + j]'(by rw [m1]; simp only [List.length_append]; omega) = l.flatten[j] := by
              simp only [m1]
              rw [List.getElem_append_left (by simp only [List.length_append]; omega), List.getElem_append_right (by omega)]
              simp [m2]
            rw [e5, Nat.zero_add] at h5
            exact h5
          exact h1.piece hp
      · omega

/-- Every row as data. -/
def rowG (μ : Mu) (b : List (Blk E)) (g : Nat) : Prop := (∃ id e xs, blk b id = .row e xs ∧ Exc (μ id) (blk b id) = some (μ id).g ∧ (μ id).g = g) ∨ ∃ id ly a, blk b id = .var ly a ∧ (μ id).g = g
theorem rowG_le (hw : WR M μ b w) : M.le (settle M w (rowG μ b)) := settle_le fun g hg o => by
  rcases hg with ⟨id, e, xs, h1, h2, rfl⟩ | ⟨id, ly, a, h1, rfl⟩
  case inr =>
    have hbw := hw.bw id
    rw [h1] at hbw
    obtain ⟨cs, T, _, _, _, h4⟩ := hbw
    exact h4 o
  have hbw := hw.bw id
  rw [h1] at hbw h2
  rcases hbw with ⟨h0, _⟩ | ⟨_, cells, T, fr, css, _, _, _, g4, _⟩
  · simp [Exc, h0] at h2
  · exact g4 o

theorem lendC_ok (hw : WR M μ b w) : ∀ (ps : List (CP E)) (cs : List (Cap E)) (is : List Nat) (vs : List Value), lendC b ps = some (cs, is) → vs.length = ps.length → (∀ i (hi : i < ps.length), CPV M μ ps[i] (vs.getD i undef)) →
    cs.length = ps.length ∧ ∀ i (hi : i < cs.length), ∃ b' o cells, vs.getD i undef = .pointer (some ⟨b', o, none⟩) ∧ RC (settle M w (rowG μ b)) cs[i].ty cs[i].v cells ∧ CellsAt (settle M w (rowG μ b)) b' o cells
  | [], cs, is, vs, h, hl, hv => by
    cases h
    exact ⟨rfl, fun i hi => by simp at hi⟩
  | p :: ps, cs, is, [], h, hl, hv => by simp at hl
  | p :: ps, cs, is, v0 :: vs, h, hl, hv => by
    have hle := rowG_le hw
    have h0 : CPV M μ p v0 := hv 0 (by simp)
    have ht : ∀ i (hi : i < ps.length), CPV M μ ps[i] (vs.getD i undef) := fun i hi => by
      have := hv (i + 1) (by simpa using hi)
      simpa using this
    have fin : ∀ (c : Cap E) (y : List (Cap E)) (j : List Nat), lendC b ps = some (y, j) → (∃ b' o cells, v0 = .pointer (some ⟨b', o, none⟩) ∧ RC (settle M w (rowG μ b)) c.ty c.v cells ∧ CellsAt (settle M w (rowG μ b)) b' o cells) →
        (c :: y).length = (p :: ps).length ∧ ∀ i (hi : i < (c :: y).length), ∃ b' o cells, (v0 :: vs).getD i undef = .pointer (some ⟨b', o, none⟩) ∧ RC (settle M w (rowG μ b)) (c :: y)[i].ty (c :: y)[i].v cells ∧ CellsAt (settle M w (rowG μ b)) b' o cells := by
      intro c y j hy hc
      obtain ⟨k1, k2⟩ := lendC_ok hw ps y j vs hy (by simpa using hl) ht
      refine ⟨by simp [k1], fun i hi => ?_⟩
      match i, hi with
      | 0, _ => exact hc
      | i + 1, hi =>
        have := k2 i (by simpa using hi)
        simpa using this
    cases p with
    | im c =>
      simp only [lendC] at h
      split at h
      · rename_i x i hx
        cases h
        obtain ⟨b', o, cells, h1, h2, h3⟩ := h0
        exact fin c x is hx ⟨b', o, cells, h1, h2.mono hle, h3.mono hle⟩
      · cases h
    | pt id ly =>
      simp only [lendC] at h
      split at h
      · rename_i ly' ty v x i hb hx
        cases hd : (decide (ly' = ly) && decide (ty = ly)) with
        | false => rw [hd] at h; cases h
        | true =>
          rw [hd] at h
          cases h
          refine fin ⟨ty, v⟩ x i hx ?_
          have hB := hw.bw id
          rw [hb] at hB
          obtain ⟨cells, T, g1, g2, g3, g4⟩ := hB
          cases g2 with
          | t g2 =>
            exact ⟨(μ id).g, 0, cells.toList, h0, g2.mono hle, settle_at (.inr ⟨id, _, _, hb, rfl⟩) g1 (List.append_nil _).symm g2.noT⟩
      · cases h
theorem lend0_rv (hE : EnvOK E) (hw : WR M μ b w) {m : Option Nat} {x y : AV E} {i : List Nat} {cs : List Value} (h : lend0 b m x = some (true, y, i)) (hx : RV M μ x cs) : RV (settle M w (rowG μ b)) μ y cs ∧ y.isAgg = x.isAgg ∧ OKA ([] : List (Blk E)) y := by
  have hle := rowG_le hw
  cases x with
  | fs id e off n =>
    simp only [lend0] at h
    split at h
    · cases h
    · split at h
      · rename_i e' xs hb
        obtain ⟨hd, h9⟩ := bif_some h
        clear h
        have hd : e' = e := of_decide_eq_true hd
        subst hd
        have hg : Exc (μ id) (blk b id) = some (μ id).g → rowG μ b (μ id).g := fun h => .inl ⟨id, _, _, hb, h, rfl⟩
        split at h9
        · obtain ⟨h0, h8⟩ := bif_some h9
          clear h9
          have h0 : off = 0 := of_decide_eq_true h0
          subst h0
          injection h8 with h8; injection h8 with hn h8; injection h8 with h1 h2
          subst h1 h2
          have hn := of_decide_eq_true hn
          have := lend_part hE hw hle hg hb hx (by omega)
          rw [hn, List.drop_zero, List.take_length] at this
          exact ⟨this, rfl, .t _ _ _⟩
        · injection h9 with h8; injection h8 with hn h8; injection h8 with h1 h2
          subst h1 h2
          exact ⟨lend_part hE hw hle hg hb hx (of_decide_eq_true hn), rfl, .t _ _ _⟩
      · cases h
  | sl id e xs =>
    cases h
    cases hx with
    | sl _ _ _ h => exact ⟨.t (h.mono hle), rfl, .t _ _ _⟩
  | t a z =>
    cases h
    cases hx with
    | t h => exact ⟨.t (h.mono hle), rfl, .t _ _ _⟩
  | c z => cases hx
  | imm ty z =>
    cases h
    cases hx with
    | imm b' o h hc => exact ⟨.imm b' o (h.mono hle) (hc.mono hle), rfl, .imm _ _ _⟩
  | func g cs =>
    cases h
    cases hx with
    | func _ _ vs hl h => exact ⟨.func g cs vs hl fun j hj => by
        obtain ⟨b', o, cells, h1, h2, h3⟩ := h j hj
        exact ⟨b', o, cells, h1, h2.mono hle, h3.mono hle⟩, rfl, .plain trivial (by simp) (by simp) (by simp)⟩
  | funp g ps =>
    simp only [lend0] at h
    split at h
    · rename_i cs' i' hc
      cases h
      cases hx with
      | funp _ _ vs hl hh =>
        obtain ⟨k1, k2⟩ := lendC_ok hw ps cs' i vs hc hl hh
        exact ⟨.func g cs' vs (by omega) k2, rfl, .plain trivial (by simp) (by simp) (by simp)⟩
    · cases h
  | nilfn => cases h; cases hx; exact ⟨.nilfn, rfl, .plain trivial (by simp) (by simp) (by simp)⟩
  | snil e => cases h; cases hx; exact ⟨.snil e, rfl, .plain trivial (by simp) (by simp) (by simp)⟩
  | _ => cases h
theorem lendFs_ok (hE : EnvOK E) (hw : WR M μ b w) : ∀ (cs : List (AV E)) {l : List (AV E)} {is : List Nat} {css : List (List Value)}, lendFs b cs = some (true, l, is) → css.length = cs.length → (∀ i (hi : i < cs.length), RV M μ cs[i] (css.getD i [])) →
    l.length = cs.length ∧ (∀ i (hi : i < l.length), RV (settle M w (rowG μ b)) μ l[i] (css.getD i [])) ∧ ∀ x ∈ l, OKA ([] : List (Blk E)) x
  | [], l, is, css, h, hl, hv => by
    cases h
    exact ⟨rfl, fun i hi => by simp at hi, by simp⟩
  | a :: cs, l, is, [], h, hl, hv => by simp at hl
  | a :: cs, l, is, d :: css, h, hl, hv => by
    unfold lendFs at h
    split at h
    · rename_i c x i c' l' is' h1 h2
      injection h with h; injection h with hc h; injection h with h3 h4
      subst h3
      simp only [Bool.and_eq_true] at hc
      obtain ⟨rfl, rfl⟩ := hc
      obtain ⟨k1, _, k3⟩ := lend0_rv hE hw h1 (hv 0 (by simp))
      obtain ⟨j1, j2, j3⟩ := lendFs_ok hE hw cs (css := css) h2 (by simpa using hl) (fun i hi => by
        have := hv (i + 1) (by simpa using hi)
        simpa using this)
      refine ⟨by simp [j1], fun i hi => ?_, fun z hz => ?_⟩
      · match i, hi with
        | 0, _ => exact k1
        | i + 1, hi => exact j2 i (by simpa using hi)
      · rcases List.mem_cons.1 hz with rfl | hz
        · exact k3
        · exact j3 z hz
    · cases h
theorem lend1_ok (hE : EnvOK E) (hw : WR M μ b w) {m : Option Nat} {x y : AV E} {i : List Nat} {v : Value} (h : lend1 b m x = some (true, y, i)) (hx : RS M μ x v) : RS (settle M w (rowG μ b)) μ y v ∧ OKA ([] : List (Blk E)) y := by
  unfold lend1 at h
  split at h
  · rename_i cs
    split at h
    · cases h
    · split at h
      · rename_i c l is hl
        cases h
        cases hx with
        | v hx => cases hx with
          | agg _ css hlen hv =>
            obtain ⟨k1, k2, k3⟩ := lendFs_ok hE hw cs hl hlen hv
            exact ⟨RS.v (a := .agg l) (.agg l css (by omega) k2), .agg l k3⟩
      · cases h
  · cases hx with
    | undef => cases h
    | c z => cases h; exact ⟨.c _, .plain trivial (by simp) (by simp) (by simp)⟩
    | tup => cases h
    | v hx =>
      obtain ⟨k1, k2, k3⟩ := lend0_rv hE hw h hx
      rw [← k2]
      exact ⟨.v k1, k3⟩
theorem lendL_ok (hE : EnvOK E) (hw : WR M μ b w) {lp : List (Nat × Nat)} : ∀ (args : List (Nat × AV E)) (p : Nat) (vs : List Value) (args' : List (Nat × AV E)) (is : List Nat), lendL b lp p args = some (true, args', is) → RSL M μ (args.map (·.2)) vs →
    RSL (settle M w (rowG μ b)) μ (args'.map (·.2)) vs ∧ ∀ x ∈ args', OKA ([] : List (Blk E)) x.2
  | [], p, vs, args', is, h, hl => by
    cases h
    cases hl
    exact ⟨.nil, fun x hx => by simp at hx⟩
  | (t, x) :: l, p, vs, args', is, h, hl => by
    unfold lendL at h
    split at h
    · rename_i c y i c' l' is' h1 h2
      injection h with h; injection h with hc h; injection h with h3 h4
      subst h3
      simp only [Bool.and_eq_true] at hc
      obtain ⟨rfl, rfl⟩ := hc
      cases hl with
      | cons hx hl =>
        obtain ⟨k1, k2⟩ := lend1_ok hE hw h1 hx
        obtain ⟨k3, k4⟩ := lendL_ok hE hw l (p + 1) _ l' is' h2 hl
        refine ⟨.cons k1 k3, fun z hz => ?_⟩
        rcases List.mem_cons.1 hz with rfl | hz
        · exact k2
        · exact k4 z hz
    · cases h
theorem scal1_rv {a : AV E} {cs : List Value} (hs : scal1 a = true) (h : RV M μ a cs) : RV M' μ' a cs ∧ ∀ b : List (Blk E), OKA b a := by
  unfold scal1 at hs
  split at hs
  · cases h with
    | t h => cases h; exact ⟨.t (.bool _), fun b => .t _ _ _⟩
  · cases h with
    | t h => cases h; exact ⟨.t (.int _ _), fun b => .t _ _ _⟩
  · cases h with
    | t h => cases h; exact ⟨.t (.str _), fun b => .t _ _ _⟩
  · cases h
  · cases hs
theorem scal1_rs {a : AV E} {v : Value} (hs : scal1 a = true) (h : RS M μ a v) : RS M' μ' a v ∧ ∀ b : List (Blk E), OKA b a := by
  cases h with
  | undef => exact ⟨.undef _, fun b => .undef _⟩
  | c => cases hs
  | tup => cases hs
  | v h => exact ⟨.v (scal1_rv (M' := M') (μ' := μ') hs h).1, (scal1_rv (M' := M') (μ' := μ') hs h).2⟩
theorem scal_rs {a : AV E} {v : Value} (hs : scal a = true) (h : RS M μ a v) : RS M' μ' a v ∧ ∀ b : List (Blk E), OKA b a := by
  by_cases ht : ∃ l, a = .tup l
  · obtain ⟨l, rfl⟩ := ht
    have hs : l.all scal1 = true := hs
    rw [List.all_eq_true] at hs
    cases h with
    | tup _ vs hl h =>
      refine ⟨.tup l vs hl fun i hi => ?_, fun b => .tup l fun x hx => ?_⟩
      · rcases h i hi with h | ⟨cs, h1, h2⟩
        · exact .inl h
        · exact .inr ⟨cs, (scal1_rv (hs _ (List.getElem_mem _)) h1).1, h2⟩
      · obtain ⟨i, hi, rfl⟩ := List.getElem_of_mem hx
        rcases h i hi with h | ⟨cs, h1, h2⟩
        · rw [h]; exact .undef _
        · exact (scal1_rv (M' := M) (μ' := μ) (hs _ (List.getElem_mem _)) h1).2 b
    | v h => cases h
  · have : scal1 a = true := by
      cases a <;> first | exact absurd ⟨_, rfl⟩ ht | exact hs
    exact scal1_rs this h
theorem Holds.less (h : Holds M' w) (le : M.le M') : Holds M w := fun g o v hm => h g o v (le g o v hm)

theorem call_stepL (hE : EnvOK E) {call : CallF E} (hC : CallOK P gl call) (hgl : GlOK M gl) (hw : WR M μ b w) {f : FuncId} {cs : List (Cap E)} {sh : RSh} {args : List (Nat × AV E)} {step d : Nat} {cl : Cl} {a : AV E} {u : Upd E} {vs vc : List Value}
    (h : call1L tt H call b step f cs sh args d = some (cl, a, u)) (hl : RSL M μ (args.map (·.2)) vs) (hok : ∀ x ∈ args, OKA b x.2)
    (hcs : ∀ (M' : Mem), M.le M' → ∀ μ, RSL (E := E) M' μ (cs.map fun c => .imm c.ty c.v) vc) :
    FnOK P f ∧ Calls P f (vs ++ vc).toArray w fun e w' => ∃ v M' μ', e = .returned v ∧ Tr b.length M μ b w M' μ' (upds b u) w' ∧ RS M' μ' a v ∧ OKA (upds b u) a := by
  rcases call1L_two h with ⟨_, h1⟩ | ⟨_, args', is, c0, h1, h2, h3, rfl, rfl⟩
  · exact call_step0 hE hC hgl hw h1 hl hok (hcs M (.refl M))
  · have hle := rowG_le hw
    obtain ⟨k1, k2⟩ := lendL_ok hE hw args 0 vs args' is h1 hl
    have hWR : WR (settle M w (rowG μ b)) μ ([] : List (Blk E)) w := by
      refine ⟨settle_holds hw.holds, fun p => ?_, fun i j g h1 h2 => ?_, fun i ly a h1 => ?_⟩
      · rw [blk_ge (Nat.zero_le _)]; trivial
      · rw [blk_ge (Nat.zero_le _)] at h1; cases h1
      · rw [blk_ge (Nat.zero_le _)] at h1; cases h1
    obtain ⟨k3, k4⟩ := call_step0 hE hC (GlOK.mono' hgl hle) hWR h2 k1 k2 (hcs _ hle)
    refine ⟨k3, Calls.mono k4 ?_⟩
    rintro e w' ⟨v, M', μ', rfl, hTr, hr, _⟩
    obtain ⟨j1, j2⟩ := scal_rs (M' := M) (μ' := μ) h3 hr
    refine ⟨v, M, μ, rfl, ?_, j1, j2 _⟩
    exact Tr.make hw (fun _ => False) (.refl M) (hTr.wr.holds.less (hle.trans hTr.le)) rfl (fun i _ => ⟨rfl, rfl⟩) (fun i h => h.elim) (fun _ i h => h.elim) (fun i j g h => h.elim) hTr.size
      (fun g hg _ => hTr.frame g hg fun i h => by rw [blk_ge (Nat.zero_le _)] at h; cases h) (fun g o h1 h2 => absurd h1 h2) (fun i g h => h.elim) (fun _ i ly a h => h.elim) hTr.os hTr.tape hTr.output
end Go.Proofs.YtbmpjppfdeohnaaDoor.Fv

/-! Calls that take open variables along: homes by other names. -/
namespace Go.Proofs.YtbmpjppfdeohnaaDoor.Fv
variable [Quiet]
variable {E : Env} {P : Program} {tt : Nat → Option TE} {gl : Nat → AV E} {H : Hints} {M M' : Mem} {μ μ' μc : Mu} {b b' ins : List (Blk E)} {w w' : World} {r : Nat → Nat}

theorem idsL_mem {l : List (AV E)} {a : AV E} (h : a ∈ l) : ∀ i ∈ ids a, i ∈ idsL l := by
  induction l with
  | nil => simp at h
  | cons x l ih =>
    intro i hi
    simp only [idsL, List.mem_append]
    rcases List.mem_cons.1 h with rfl | h
    · exact .inl hi
    · exact .inr (ih h i hi)

theorem cpIds_mem : ∀ (ps : List (CP E)) (id : Nat) (ly : Ty), CP.pt id ly ∈ ps → id ∈ cpIds ps
  | [], id, ly, h => by simp at h
  | .im c :: l, id, ly, h => by
    rcases List.mem_cons.1 h with h | h
    · cases h
    · exact cpIds_mem l id ly h
  | .pt i y :: l, id, ly, h => by
    rcases List.mem_cons.1 h with h | h
    · cases h; simp [cpIds]
    · exact List.mem_cons_of_mem _ (cpIds_mem l id ly h)
theorem renL_eq (r : Nat → Nat) : ∀ l : List (AV E), renL r l = l.map (renA r)
  | [] => rfl
  | a :: l => by simp only [renL, List.map_cons, renL_eq r l]
theorem isAgg_ren (r : Nat → Nat) (a : AV E) : (renA r a).isAgg = a.isAgg := by cases a <;> rfl
mutual
theorem fit_ren (r : Nat → Nat) : ∀ (a : AV E) (ly : Ty), fit ly (renA r a) = fit ly a
  | .agg cs, ly => by
    have h := fits_ren r cs
    cases ly <;> simp only [renA, fit, h]
  | .undef, ly => by cases ly <;> rfl
  | .c _, ly => by cases ly <;> rfl
  | .t _ _, ly => by cases ly <;> rfl
  | .nilp, ly => by cases ly <;> rfl
  | .nilfn, ly => by cases ly <;> rfl
  | .niliface, ly => by cases ly <;> rfl
  | .nilmap, ly => by cases ly <;> rfl
  | .ptr _ _ _, ly => by cases ly <;> rfl
  | .eptr _ _ _ _, ly => by cases ly <;> rfl
  | .imm _ _, ly => by cases ly <;> rfl
  | .sl _ _ _, ly => by cases ly <;> rfl
  | .exact _ _, ly => by cases ly <;> rfl
  | .fs _ _ _ _, ly => by cases ly <;> rfl
  | .own _ _, ly => by cases ly <;> rfl
  | .ownrow _ _, ly => by cases ly <;> rfl
  | .func _ _, ly => by cases ly <;> rfl
  | .funp _ _, ly => by cases ly <;> rfl
  | .iface _ _, ly => by cases ly <;> rfl
  | .mp _ _ _, ly => by cases ly <;> rfl
  | .snil _, ly => by cases ly <;> rfl
  | .snn _ _, ly => by cases ly <;> rfl
  | .rsv _ _ _, ly => by cases ly <;> rfl
  | .err _, ly => by cases ly <;> rfl
  | .tup _, ly => by cases ly <;> rfl
theorem fits_ren (r : Nat → Nat) : ∀ (cs : List (AV E)) (ly : Ty), fits ly (renL r cs) = fits ly cs
  | [], ly => by cases ly <;> rfl
  | [c], ly => by
    have h := fit_ren r c
    cases ly <;> simp only [renL, fits, h]
  | c :: d :: cs, ly => by
    have h := fit_ren r c
    have h2 := fits_ren r (d :: cs)
    cases ly <;> simp only [renL, fits, h]
    simp only [renL] at h2
    rw [h2]
end
theorem ren_funp {ps : List (CP E)} {vs : List Value} (h : ∀ i (hi : i < ps.length), CPV M μ ps[i] (vs.getD i undef)) (hr : ∀ id ∈ cpIds ps, μc (r id) = μ id) : ∀ i (hi : i < (ps.map (renC r)).length), CPV M μc (ps.map (renC r))[i] (vs.getD i undef) := by
  intro i hi
  have hi0 : i < ps.length := by simpa using hi
  have hi' := h i hi0
  simp only [List.getElem_map]
  cases hp : ps[i] with
  | im c => rw [hp] at hi'; exact hi'
  | pt id ly =>
    rw [hp] at hi'
    have : μc (r id) = μ id := hr id (cpIds_mem ps id ly (by rw [← hp]; exact List.getElem_mem hi0))
    show vs.getD i undef = .pointer (some ⟨(μc (r id)).g, 0, none⟩)
    rw [this]
    exact hi'
theorem RV.ren {a : AV E} {cs : List Value} (h : RV M μ a cs) (ha : ∀ i ∈ ids a, μc (r i) = μ i) : RV M μc (renA r a) cs := by
  induction h with
  | t h => exact .t h
  | nilp => exact .nilp
  | nilfn => exact .nilfn
  | niliface => exact .niliface
  | nilmap => exact .nilmap
  | ptr id ly p => rw [← ha id (by simp [ids])]; exact .ptr (r id) ly p
  | eptr id e i p => rw [← ha id (by simp [ids])]; exact .eptr (r id) e i p
  | imm b o h hc => exact .imm b o h hc
  | sl id e xs h => rw [← ha id (by simp [ids])] at h ⊢; exact .sl (r id) e xs h
  | mp id k v => rw [← ha id (by simp [ids])]; exact .mp (r id) k v
  | exact e xs base h => exact .exact e xs base h
  | snil e => exact .snil e
  | errn => exact .errn
  | errs t x => exact .errs t x
  | snn e xs a cap h => exact .snn e xs a cap h
  | rsv id e n hc hbn =>
    have e1 := ha id (by simp [ids])
    rw [← e1]
    exact .rsv (r id) e n (by rw [e1]; exact hc) (by rw [e1]; exact hbn)
  | fs id e off len cap base h hc => exact .fs (r id) e off len cap base (by rw [ha id (by simp [ids])]; exact h) hc
  | func f cs vs hl h => exact .func f cs vs hl h
  | funp f ps vs hl h => exact .funp f (ps.map (renC r)) vs (by simpa using hl) (ren_funp h fun id hi => ha id hi)
  | agg cs css hl h ih =>
    have e : renA r (.agg cs) = .agg (cs.map (renA r)) := by simp only [renA, renL_eq]
    rw [e]
    refine .agg _ css (by simpa using hl) fun i hi => ?_
    simp only [List.getElem_map]
    have hi0 : i < cs.length := by simpa using hi
    exact ih i hi0 fun j hj => ha j (by simp only [ids]; exact idsL_mem (List.getElem_mem hi0) j hj)
  | iface tid a cs v h hv ih => exact .iface tid (renA r a) cs v (ih fun j hj => ha j (by simp only [ids]; exact hj)) (by rw [isAgg_ren]; exact hv)
theorem RS.ren {a : AV E} {v : Value} (h : RS M μ a v) (ha : ∀ i ∈ ids a, μc (r i) = μ i) : RS M μc (renA r a) v := by
  cases h with
  | undef => exact .undef _
  | c => exact .c _
  | v h => rw [← isAgg_ren r]; exact .v (h.ren ha)
  | tup l vs hl h =>
    have e : renA r (.tup l) = .tup (l.map (renA r)) := by simp only [renA, renL_eq]
    rw [e]
    refine .tup _ vs (by simpa using hl) fun i hi => ?_
    have hi0 : i < l.length := by simpa using hi
    simp only [List.getElem_map]
    rcases h i hi0 with h | ⟨cs, h1, h2⟩
    · rw [h]; exact .inl rfl
    · exact .inr ⟨cs, h1.ren fun j hj => ha j (by simp only [ids]; exact idsL_mem (List.getElem_mem hi0) j hj), by rw [isAgg_ren]; exact h2⟩
theorem OKA.ren {a : AV E} (h : OKA b a) (ha : ∀ i ∈ ids a, blk ins (r i) = renB r (blk b i)) : OKA ins (renA r a) := by
  induction h with
  | plain h hn ht hi =>
    rename_i a
    cases a with
    | agg cs => exact absurd rfl (hn cs)
    | tup l => exact absurd rfl (ht l)
    | iface t x => exact absurd rfl (hi t x)
    | funp f ps =>
      refine .plain (a := .funp f (ps.map (renC r))) ?_ (by simp) (by simp) (by simp)
      intro id ly hp
      obtain ⟨c, h1, h2⟩ := List.mem_map.1 hp
      cases c with
      | im c => cases h2
      | pt id0 ly0 =>
        cases h2
        have e1 := ha id0 (by simp only [ids]; exact cpIds_mem ps id0 ly h1)
        rcases h id0 ly h1 with ⟨a, h3⟩ | ⟨v, h3⟩
        · rw [e1, h3]; exact .inl ⟨_, rfl⟩
        · rw [e1, h3]; exact .inr ⟨_, rfl⟩
    | ptr id ly p =>
      refine .plain (a := .ptr (r id) ly p) ?_ (by simp) (by simp) (by simp)
      have e1 := ha id (by simp [ids])
      have h : (∃ a, blk b id = .var ly a) ∨ ∃ v, blk b id = .frz ly v := h
      rcases h with ⟨a, h3⟩ | ⟨v, h3⟩
      · exact .inl ⟨renA r a, by rw [e1, h3]; rfl⟩
      · exact .inr ⟨v, by rw [e1, h3]; rfl⟩
    | eptr id e i p =>
      refine .plain (a := .eptr (r id) e i p) ?_ (by simp) (by simp) (by simp)
      have e1 := ha id (by simp [ids])
      have h : (∃ xs, blk b id = .row e xs) ∨ blk b id = .rowz e := h
      rcases h with ⟨xs, h3⟩ | h3
      · exact .inl ⟨xs, by rw [e1, h3]; rfl⟩
      · exact .inr (by rw [e1, h3]; rfl)
    | sl id e xs =>
      refine .plain (a := .sl (r id) e xs) ?_ (by simp) (by simp) (by simp)
      have e1 := ha id (by simp [ids])
      obtain ⟨n, h1, h2⟩ : ∃ n, blk b id = .grow e n ∧ xs.length ≤ n := h
      exact ⟨n, by rw [e1, h1]; rfl, h2⟩
    | rsv id e n =>
      refine .plain (a := .rsv (r id) e n) ?_ (by simp) (by simp) (by simp)
      have e1 := ha id (by simp [ids])
      obtain ⟨m, h1⟩ : ∃ n, blk b id = .grow e n := h
      exact ⟨m, by rw [e1, h1]; rfl⟩
    | fs id e off len =>
      refine .plain (a := .fs (r id) e off len) ?_ (by simp) (by simp) (by simp)
      have e1 := ha id (by simp [ids])
      have h : (∃ xs, blk b id = .row e xs ∧ off + len ≤ xs.length) ∨ blk b id = .rowz e := h
      rcases h with ⟨xs, h3, h4⟩ | h3
      · exact .inl ⟨xs, by rw [e1, h3]; rfl, h4⟩
      · exact .inr (by rw [e1, h3]; rfl)
    | mp id k v =>
      refine .plain (a := .mp (r id) k v) ?_ (by simp) (by simp) (by simp)
      have e1 := ha id (by simp [ids])
      have h : (∃ es, blk b id = .mp k v es) ∨ blk b id = .mpz := h
      rcases h with ⟨xs, h3⟩ | h3
      · exact .inl ⟨xs, by rw [e1, h3]; rfl⟩
      · exact .inr (by rw [e1, h3]; rfl)
    | _ => exact .plain trivial (by simp [renA]) (by simp [renA]) (by simp [renA])
  | agg cs _ ih =>
    have e : renA r (.agg cs) = .agg (cs.map (renA r)) := by simp only [renA, renL_eq]
    rw [e]
    refine .agg _ fun c hc => ?_
    obtain ⟨x, h1, rfl⟩ := List.mem_map.1 hc
    exact ih x h1 fun j hj => ha j (by simp only [ids]; exact idsL_mem h1 j hj)
  | tup l _ ih =>
    have e : renA r (.tup l) = .tup (l.map (renA r)) := by simp only [renA, renL_eq]
    rw [e]
    refine .tup _ fun c hc => ?_
    obtain ⟨x, h1, rfl⟩ := List.mem_map.1 hc
    exact ih x h1 fun j hj => ha j (by simp only [ids]; exact idsL_mem h1 j hj)
  | iface t x _ ih => exact .iface t (renA r x) (ih fun j hj => ha j (by simp only [ids]; exact hj))
theorem BW.ren {c : Conc} {x : Blk E} (h : BW M μ w c x) (hr : ∀ i ∈ idsB x, μc (r i) = μ i) : BW M μc w c (renB r x) := by
  cases x with
  | var ly a =>
    obtain ⟨cs, T, h1, h2, h3, h4⟩ := h
    exact ⟨cs, T, h1, h2.ren hr, by rw [fit_ren]; exact h3, h4⟩
  | _ => exact h
theorem Exc_ren (c : Conc) (x : Blk E) : Exc c (renB r x) = Exc c x := by cases x <;> rfl
theorem Lives_ren {c c' : Conc} {x y : Blk E} {r' : Nat → Nat} (h : Lives c c' (renB r x) y) : Lives c c' x (renB r' y) := by
  cases x <;> cases y <;> exact h

/-! ### The homes that go along -/
theorem posOf_lt : ∀ {l : List Nat} {id : Nat}, id ∈ l → posOf l id < l.length ∧ l.getD (posOf l id) 0 = id
  | i :: l, id, h => by
    simp only [posOf]
    cases hb : Nat.beq i id with
    | true => exact ⟨by simp, by simpa using Nat.eq_of_beq_eq_true hb⟩
    | false =>
      have hne : id ≠ i := by rintro rfl; simp at hb
      obtain ⟨h1, h2⟩ := posOf_lt ((List.mem_cons.1 h).resolve_left hne)
      simp only [cond_false]
      exact ⟨by simpa using h1, by simpa using h2⟩
theorem backL_lookup : ∀ (l : List Nat) (p q : Nat), (backL p l).lookup q = if p ≤ q ∧ q - p < l.length then some (l.getD (q - p) 0) else none
  | [], p, q => by simp [backL]
  | id :: l, p, q => by
    simp only [backL, List.lookup_cons]
    cases hq : (q == p) with
    | true =>
      have hq : q = p := by simpa using hq
      subst hq
      simp
    | false =>
      have hq : q ≠ p := by simpa using hq
      simp only []
      rw [backL_lookup l (p + 1) q]
      by_cases h : p + 1 ≤ q ∧ q - (p + 1) < l.length
      · rw [if_pos h, if_pos ⟨by omega, by simp; omega⟩]
        rw [show q - p = (q - (p + 1)) + 1 by omega]
        simp
      · rw [if_neg h, if_neg (by simp; omega)]
theorem backL_mem : ∀ (l : List Nat) (p : Nat) (q : Nat × Nat), q ∈ backL p l → p ≤ q.1 ∧ q.1 - p < l.length ∧ q.2 = l.getD (q.1 - p) 0
  | [], p, q, h => by simp [backL] at h
  | id :: l, p, q, h => by
    rcases List.mem_cons.1 h with rfl | h
    · simp
    · obtain ⟨h1, h2, h3⟩ := backL_mem l (p + 1) q h
      refine ⟨by omega, by simp; omega, ?_⟩
      rw [h3, show q.1 - p = (q.1 - (p + 1)) + 1 by omega]
      simp
theorem backL_snd : ∀ (l : List Nat) (p : Nat), (backL p l).map (·.2) = l
  | [], p => rfl
  | id :: l, p => by simp only [backL, List.map_cons, backL_snd l (p + 1)]
theorem blk_rep (n i : Nat) : blk (List.replicate n (.none : Blk E)) i = .none := by
  simp only [blk, List.getD_eq_getElem?_getD, List.getElem?_replicate]
  split <;> rfl
theorem insP_blk (b : List (Blk E)) (base : Nat) (L : List Nat) (p : Nat) : blk (insP b base L) p = match (backL base L).lookup p with | some id => renB (posR base L) (blk b id) | none => .none := by
  unfold insP
  rw [blk_append, backL_lookup]
  simp only [List.length_replicate]
  by_cases h : p < base
  · rw [if_pos h, if_neg (by omega), blk_rep]
  · rw [if_neg h]
    by_cases h2 : p - base < L.length
    · rw [if_pos ⟨by omega, h2⟩]
      simp [blk, List.getD_eq_getElem?_getD, h2]
    · rw [if_neg (by omega)]
      simp [blk, List.getD_eq_getElem?_getD, h2]
theorem backP_spec (outs : List (Blk E)) (base : Nat) (L : List Nat) : ∀ (l : List Nat) (p : Nat) (v : Upd E), backP outs base L p l = some v → v = (backL p l).map (fun q => (q.2, renB (backR base L) (blk outs q.1))) ∧ ∀ q ∈ backL p l, okBk base L.length q.2 (blk outs q.1) = true
  | [], p, v, h => by
    have h : some ([] : Upd E) = some v := h
    cases h
    exact ⟨rfl, fun q hq => by simp [backL] at hq⟩
  | id :: l, p, v, h => by
    simp only [backP] at h
    obtain ⟨h1, h2⟩ := bif_some h
    obtain ⟨u, h3, h4⟩ := Option.map_eq_some_iff.1 h2
    subst h4
    obtain ⟨k1, k2⟩ := backP_spec outs base L l (p + 1) u h3
    refine ⟨by simp only [backL, List.map_cons, k1], fun q hq => ?_⟩
    rcases List.mem_cons.1 hq with rfl | hq
    · exact h1
    · exact k2 q hq
end Go.Proofs.YtbmpjppfdeohnaaDoor.Fv

/-! A call that takes open variables along. -/
namespace Go.Proofs.YtbmpjppfdeohnaaDoor.Fv
variable [Quiet]
variable {E : Env} {P : Program} {tt : Nat → Option TE} {gl : Nat → AV E} {H : Hints} {M M' : Mem} {μ μ' μc : Mu} {b b' ins : List (Blk E)} {w w' : World} {r : Nat → Nat}

theorem passP_spec (hE : EnvOK E) (hw : WR M μ b w) {ty : Ty} {a x : AV E} {v : Value} (h : passP r b ty a = some x) (ha : RS M μ a v) (ok : OKA b a) (h0 : blk ins 0 = .none) (hr : ∀ id ∈ idsP b a, μc (r id) = μ id ∧ blk ins (r id) = renB r (blk b id)) : RS M μc x v ∧ OKA ins x := by
  have go : ∀ y : AV E, renA r y = x → a = y → (∀ id ∈ ids y, id ∈ idsP b a) → RS M μc x v ∧ OKA ins x := by
    rintro y rfl rfl hi
    exact ⟨ha.ren fun id h => (hr id (hi id h)).1, ok.ren fun id h => (hr id (hi id h)).2⟩
  have old : (match pass1 b false 0 ty a with | some (x, _, none) => some x | _ => none) = some x → RS M μc x v ∧ OKA ins x := by
    intro h
    split at h
    · rename_i y B hp
      cases h
      have k := pass1_spec hE hw hp ha ok
      have hB := k.none rfl
      subst hB
      exact ⟨k.rs μc (fun id h => by cases h), k.ok ins h0⟩
    · cases h
  cases a with
  | ptr id ly p =>
    simp only [passP] at h
    cases hb : blk b id with
    | frz ly' y =>
      rw [hb] at h
      cases p with
      | cons _ _ => cases h
      | nil =>
        simp only at h
        obtain ⟨hd, h9⟩ := bif_some h
        have hd : ly' = ly := by simpa using hd
        subst hd
        cases h9
        have hB := hw.bw id
        rw [hb] at hB
        obtain ⟨cs, m1, m2⟩ := hB
        have e0 : offTy E ly' [] = 0 := by cases ly' <;> rfl
        cases ha with
        | v ha =>
          cases ha
          refine ⟨?_, .imm _ _ _⟩
          rw [e0]
          exact RS.v (RV.imm _ _ m2 m1)
    | none => rw [hb] at h; exact go (.ptr id ly p) (Option.some.inj h) rfl fun i hi => by simpa [idsP, hb, ids] using hi
    | var _ _ => rw [hb] at h; exact go (.ptr id ly p) (Option.some.inj h) rfl fun i hi => by simpa [idsP, hb, ids] using hi
    | grow _ _ => rw [hb] at h; exact go (.ptr id ly p) (Option.some.inj h) rfl fun i hi => by simpa [idsP, hb, ids] using hi
    | row _ _ => rw [hb] at h; exact go (.ptr id ly p) (Option.some.inj h) rfl fun i hi => by simpa [idsP, hb, ids] using hi
    | rowz _ => rw [hb] at h; exact go (.ptr id ly p) (Option.some.inj h) rfl fun i hi => by simpa [idsP, hb, ids] using hi
    | mp _ _ _ => rw [hb] at h; exact go (.ptr id ly p) (Option.some.inj h) rfl fun i hi => by simpa [idsP, hb, ids] using hi
    | mpz => rw [hb] at h; exact go (.ptr id ly p) (Option.some.inj h) rfl fun i hi => by simpa [idsP, hb, ids] using hi
  | fs id e off len => exact go (.fs id e off len) (Option.some.inj h) rfl fun i hi => by simpa [idsP, ids] using hi
  | mp id k v => exact go (.mp id k v) (Option.some.inj h) rfl fun i hi => by simpa [idsP, ids] using hi
  | funp g ps => exact go (.funp g ps) (Option.some.inj h) rfl fun i hi => by simpa [idsP, ids] using hi
  | _ => exact old h
theorem passPs_spec (hE : EnvOK E) (hw : WR M μ b w) (h0 : blk ins 0 = .none) : ∀ (args : List (Nat × AV E)) (as : List (AV E)) (vs : List Value), passPs tt r b args = some as → RSL M μ (args.map (·.2)) vs → (∀ x ∈ args, OKA b x.2) →
    (∀ id ∈ idsPs b args, μc (r id) = μ id ∧ blk ins (r id) = renB r (blk b id)) → (∀ x ∈ args, ∀ t, idsP b (caN tt t x.2) = idsP b x.2) → RSL M μc as vs ∧ ∀ x ∈ as, OKA ins x
  | [], as, vs, h, hl, hok, hr, hc => by
    cases h
    cases hl
    exact ⟨.nil, by simp⟩
  | (t, x) :: l, as, vs, h, hl, hok, hr, hc => by
    unfold passPs at h
    split at h
    · rename_i y ys h1 h2
      cases h
      cases hl with
      | cons hx hl =>
        obtain ⟨k1, k2⟩ := passP_spec (ins := ins) (μc := μc) hE hw h1 (caN_sound hx) (.caN _ (hok (t, x) (by simp))) h0 (fun id hi => hr id (by
          rw [hc (t, x) (by simp)] at hi
          simp only [idsPs, List.mem_append]
          exact .inl hi))
        obtain ⟨k3, k4⟩ := passPs_spec hE hw h0 l ys _ h2 hl (fun x hx => hok x (List.mem_cons_of_mem _ hx)) (fun id hi => hr id (by simp only [idsPs, List.mem_append]; exact .inr hi)) (fun x hx => hc x (List.mem_cons_of_mem _ hx))
        refine ⟨.cons k1 k3, fun z hz => ?_⟩
        rcases List.mem_cons.1 hz with rfl | hz
        · exact k2
        · exact k4 z hz
    · cases h
theorem idsP_caN (b : List (Blk E)) (t : Nat) (a : AV E) : idsP b (caN tt t a) = idsP b a := by
  unfold caN
  split
  · split <;> rfl
  · unfold ca
    split
    · unfold cv
      split <;> first | rfl | (split <;> rfl)
    · rfl

theorem RSL.ren {l : List (AV E)} {vs : List Value} (h : RSL M μ l vs) (hr : ∀ a ∈ l, ∀ i ∈ ids a, μc (r i) = μ i) : RSL M μc (l.map (renA r)) vs := by
  induction h with
  | nil => exact .nil
  | cons h _ ih => exact .cons (h.ren (hr _ (by simp))) (ih fun a ha => hr a (List.mem_cons_of_mem _ ha))
theorem ids_capA : ∀ (cs : List (CP E)) (c : CP E), c ∈ cs → ∀ i ∈ ids (capA c), i ∈ cpIds cs
  | c' :: l, c, h, i, hi => by
    rcases List.mem_cons.1 h with rfl | h
    · cases c with
      | im c => simp [capA, ids] at hi
      | pt id ly =>
        simp only [capA, ids, List.mem_singleton] at hi
        subst hi
        simp [cpIds]
    · have := ids_capA l c h i hi
      cases c' with
      | im _ => exact this
      | pt _ _ => exact List.mem_cons_of_mem _ this
theorem idsBs_mem : ∀ (L : List Nat) (id : Nat), id ∈ L → ∀ i ∈ idsB (blk b id), i ∈ idsBs b L
  | j :: L, id, h, i, hi => by
    simp only [idsBs, List.mem_append]
    rcases List.mem_cons.1 h with rfl | h
    · left
      cases hb : blk b id with
      | var ly a => rw [hb] at hi; exact hi
      | _ => rw [hb] at hi; simp [idsB] at hi
    · exact .inr (idsBs_mem L id h i hi)

theorem call_stepP (hE : EnvOK E) {call : CallF E} (hC : CallOK P gl call) (hgl : GlOK M gl) (hw : WR M μ b w) {nx base step d : Nat} {f : FuncId} {cs : List (CP E)} {sh : RSh} {args : List (Nat × AV E)} {cl : Cl} {a : AV E} {u : Upd E} {vs vc : List Value}
    (h : callP1 tt nx call b base step f cs sh args d = some (cl, a, u)) (hl : RSL M μ (args.map (·.2)) vs) (hok : ∀ x ∈ args, OKA b x.2)
    (hcs : RSL M μ (cs.map capA) vc) (hco : ∀ c ∈ cs, OKA b (capA c)) :
    FnOK P f ∧ Calls P f (vs ++ vc).toArray w fun e w' => ∃ v M' μ', e = .returned v ∧ Tr b.length M μ b w M' μ' (upds b u) w' ∧ RS M' μ' a v ∧ OKA (upds b u) a := by
  unfold callP1 callPK at h
  generalize hLdef : homesP b step nx args cs = L at h
  split at h
  · rename_i as hp
    obtain ⟨hok1, h9⟩ := bif_some h
    clear h
    obtain ⟨⟨rr, outs⟩, hcall, h8⟩ := Option.bind_eq_some_iff.1 h9
    clear h9
    rw [recvAll_nat] at h8
    obtain ⟨⟨a', u'⟩, hrecv, h7⟩ := Option.bind_eq_some_iff.1 h8
    clear h8
    obtain ⟨v', hback, h6⟩ := Option.bind_eq_some_iff.1 h7
    clear h7
    obtain ⟨hnu, h5⟩ := bif_some h6
    clear h6
    cases h5
    simp only at hrecv hback hnu
    simp only [okPs, Bool.and_eq_true] at hok1
    obtain ⟨⟨⟨⟨hnd, hb1⟩, hbl⟩, hlt⟩, hclosed⟩ := hok1
    have hb1 := Nat.le_of_ble_eq_true hb1
    have hbl := Nat.le_of_ble_eq_true hbl
    rw [List.all_eq_true] at hlt hclosed
    have hcl : ∀ i, i ∈ idsPs b args ∨ i ∈ cpIds cs ∨ i ∈ idsBs b L → i ∈ L := by
      intro i hi
      have := hclosed i (by simp only [List.mem_append]; rcases hi with h | h | h; exact .inl (.inl h); exact .inl (.inr h); exact .inr h)
      simpa using this
    generalize hbk : backL base L = back at hrecv
    have hlook : ∀ p, back.lookup p = if base ≤ p ∧ p - base < L.length then some (L.getD (p - base) 0) else none := fun p => by rw [← hbk]; exact backL_lookup L base p
    have hmem : ∀ p id, back.lookup p = some id → id ∈ L ∧ base ≤ p ∧ p - base < L.length ∧ id = L.getD (p - base) 0 := by
      intro p id h1
      rw [hlook] at h1
      split at h1
      · rename_i hh
        have h1 := Option.some.inj h1
        refine ⟨?_, hh.1, hh.2, h1.symm⟩
        rw [← h1, List.getD_eq_getElem?_getD, List.getElem?_eq_getElem hh.2]
        exact List.getElem_mem hh.2
      · cases h1
    have hposL : ∀ id ∈ L, back.lookup (posR base L id) = some id := by
      intro id hi
      obtain ⟨h1, h2⟩ := posOf_lt hi
      rw [hlook, if_pos (by unfold posR; omega)]
      rw [show posR base L id - base = posOf L id by unfold posR; omega, h2]
    have hndb : nodup (back.map (·.2)) = true := by rw [← hbk, backL_snd]; exact hnd
    have hins : ∀ p, blk (insP b base L) p = match back.lookup p with | some id => renB (posR base L) (blk b id) | none => .none := fun p => by first | (rw [insP_blk, hbk]; done) | (rw [insP_blk, hbk]; cases back.lookup p <;> rfl)
    have hmuC : ∀ p id, back.lookup p = some id → muC μ back p = μ id := fun p id h1 => by simp [muC, h1]
    have hr : ∀ id ∈ L, muC μ back (posR base L id) = μ id ∧ blk (insP b base L) (posR base L id) = renB (posR base L) (blk b id) := fun id hi => by
      have h1 := hposL id hi
      exact ⟨hmuC _ _ h1, by rw [hins, h1]⟩
    have hinj : ∀ p p' id, back.lookup p = some id → back.lookup p' = some id → p = p' := by
      intro p p' id h1 h2
      have := nodup_inj (·.2) back hndb _ (lookup_mem' back p id h1) _ (lookup_mem' back p' id h2) rfl
      cases this
      rfl
    have hExcC : ∀ p g, Exc (muC μ back p) (blk (insP b base L) p) = some g → ∃ id, back.lookup p = some id ∧ Exc (μ id) (blk b id) = some g := by
      intro p g h1
      rw [hins p] at h1
      cases hlk : back.lookup p with
      | none => rw [hlk] at h1; cases h1
      | some id => rw [hlk, hmuC p id hlk] at h1; simp only [Exc_ren] at h1; exact ⟨id, rfl, h1⟩
    have hWR : WR M (muC μ back) (insP b base L) w := by
      refine ⟨hw.holds, fun p => ?_, fun i j g h1 h2 => ?_, fun i ly a h1 => ?_⟩
      · rw [hins p]
        cases hlk : back.lookup p with
        | none => trivial
        | some id =>
          rw [hmuC p id hlk]
          exact (hw.bw id).ren fun i hi => (hr i (hcl i (.inr (.inr (idsBs_mem L id (hmem p id hlk).1 i hi))))).1
      · obtain ⟨id, k1, k2⟩ := hExcC i g h1
        obtain ⟨id', k3, k4⟩ := hExcC j g h2
        have := hw.exc id id' g k2 k4
        subst this
        exact hinj i j id k1 k3
      · rw [hins i] at h1
        cases hlk : back.lookup i with
        | none => rw [hlk] at h1; cases h1
        | some id =>
          rw [hlk] at h1
          simp only at h1
          cases hb : blk b id with
          | var ly0 a0 =>
            rw [hb] at h1
            injection h1 with h2 h3
            subst h3
            exact (hw.oks id ly0 a0 hb).ren fun j hj => (hr j (hcl j (.inr (.inr (idsBs_mem L id (hmem i id hlk).1 j (by rw [hb]; exact hj)))))).2
          | _ => rw [hb] at h1; cases h1
    obtain ⟨⟨hfn, h16⟩, hcalls⟩ := hC f _ _ rr outs hcall
    refine ⟨hfn, ?_⟩
    have hlenI : (insP b base L).length = base + L.length := by simp [insP]
    have hi0 : blk (insP b base L) 0 = .none := by
      rw [hins, hlook, if_neg (by omega)]
    obtain ⟨q1, q2⟩ := passPs_spec (ins := insP b base L) (μc := muC μ back) hE hw hi0 args as vs hp hl hok (fun id hi => hr id (hcl id (.inl hi))) (fun x _ t => idsP_caN b t x.2)
    have hcap : RSL M (muC μ back) ((cs.map capA).map (renA (posR base L))) vc := hcs.ren fun a ha i hi => by
      obtain ⟨c, hc, rfl⟩ := List.mem_map.1 ha
      exact (hr i (hcl i (.inr (.inl (ids_capA cs c hc i hi))))).1
    have hargs : RSL M (muC μ back) (argsP base L as cs) (vs ++ vc).toArray.toList := by
      have := q1.append hcap
      rw [List.map_map] at this
      simpa [argsP, Function.comp_def] using this
    have hoks : ∀ a ∈ argsP base L as cs, OKA (insP b base L) a := by
      intro a ha
      rcases List.mem_append.1 ha with ha | ha
      · exact q2 a ha
      · obtain ⟨c, hc, rfl⟩ := List.mem_map.1 ha
        exact (hco c hc).ren fun i hi => (hr i (hcl i (.inr (.inl (ids_capA cs c hc i hi))))).2
    refine Calls.mono (hcalls M (muC μ back) w _ hgl hWR hargs hoks) ?_
    rintro e w' ⟨v, M', μo, rfl, hTr, hret⟩
    refine ⟨v, M', ?_⟩
    obtain ⟨hv', hlent⟩ := backP_spec outs base L L base v' hback
    rw [hbk] at hv' hlent
    obtain ⟨hs, hu, hhome, hone, hrv⟩ := recvA_spec (back := back) hrecv hret
    rw [hu, hv', List.map_append, List.map_map, List.map_map] at hnu
    obtain ⟨hn1, hn2, hn3⟩ := nodup_append hnu
    have hn1 : nodup (hs.map (·.id)) = true := hn1
    have hno : ∀ q ∈ back, ∀ h ∈ hs, h.id ≠ q.2 := by
      intro q hq h hh he
      exact hn3 q.2 (List.mem_map.2 ⟨h, hh, he⟩) (List.mem_map.2 ⟨q, hq, rfl⟩)
    have hnp : ∀ p id, back.lookup p = some id → p < (insP b base L).length := by
      intro p id h1
      obtain ⟨_, h2, h3, _⟩ := hmem p id h1
      omega
    have hidlt : ∀ p id, back.lookup p = some id → id < b.length := by
      intro p id h1
      have := hlt id (hmem p id h1).1
      exact Nat.le_of_ble_eq_true this
    have hmuH : ∀ h ∈ hs, muB μ μo back hs h.id = h.c := fun h hh => muB_home hn1 hh
    have hmuQ : ∀ p id, back.lookup p = some id → muB μ μo back hs id = μo p := fun p id h1 => by
      have hm := lookup_mem' back p id h1
      exact muB_back (q := (p, id)) hndb hm (hno _ hm)
    have hbH : ∀ h ∈ hs, blk (upds b (u' ++ v')) h.id = h.x := by
      intro h hh
      refine upds_in _ b h.id h.x ?_ ⟨(h.id, h.x), ?_, rfl⟩ (free_spec (hhome h hh).1).1
      · intro q hq he
        rcases List.mem_append.1 hq with hq | hq
        · rw [hu] at hq
          obtain ⟨h', hh', rfl⟩ := List.mem_map.1 hq
          rw [nodup_inj (·.id) hs hn1 h' hh' h hh he]
        · rw [hv'] at hq
          obtain ⟨q', hq', rfl⟩ := List.mem_map.1 hq
          exact absurd he.symm (hno q' hq' h hh)
      · exact List.mem_append_left _ (by rw [hu]; exact List.mem_map.2 ⟨h, hh, rfl⟩)
    have hbQ : ∀ p id, back.lookup p = some id → blk (upds b (u' ++ v')) id = renB (backR base L) (blk outs p) := by
      intro p id h1
      have hm := lookup_mem' back p id h1
      refine upds_in _ b id (renB (backR base L) (blk outs p)) ?_ ⟨(id, renB (backR base L) (blk outs p)), ?_, rfl⟩ (hidlt p id h1)
      · intro q hq he
        rcases List.mem_append.1 hq with hq | hq
        · rw [hu] at hq
          obtain ⟨h', hh', rfl⟩ := List.mem_map.1 hq
          exact absurd he (hno _ hm h' hh')
        · rw [hv'] at hq
          obtain ⟨q', hq', rfl⟩ := List.mem_map.1 hq
          have := nodup_inj (·.2) back hndb q' hq' (p, id) hm he
          rw [this]
      · exact List.mem_append_right _ (by rw [hv']; exact List.mem_map.2 ⟨(p, id), hm, rfl⟩)
    have hsame : ∀ p id, back.lookup p = some id → SameB (blk (upds b (u' ++ v')) id) (blk outs p) := by
      intro p id h1
      rw [hbQ p id h1]
      cases hb : blk outs p with
      | var ly a => exact .inr ⟨ly, a, rfl⟩
      | _ => exact .inl rfl
    have hbackR : ∀ q, base ≤ q → q - base < L.length → back.lookup q = some (backR base L q) := by
      intro q h1 h2
      rw [hlook, if_pos ⟨h1, h2⟩]
      rfl
    have hout : ∀ p id ly a, back.lookup p = some id → blk outs p = .var ly a → ∀ q ∈ ids a, base ≤ q ∧ q - base < L.length := by
      intro p id ly a h1 h2 q hq
      have := hlent _ (lookup_mem' back p id h1)
      rw [h2] at this
      simp only [okBk, List.all_eq_true] at this
      have := this q hq
      simp only [Bool.and_eq_true] at this
      have k1 := Nat.le_of_ble_eq_true this.1
      have k2 := Nat.le_of_ble_eq_true this.2
      omega
    obtain ⟨hRS, hOK⟩ := hrv (muB μ μo back hs) (upds b (u' ++ v')) (fun h hh => ⟨hmuH h hh, hbH h hh⟩) (fun p id h1 => ⟨hmuQ p id h1, hsame p id h1⟩)
    refine ⟨muB μ μo back hs, rfl, ?_, hRS, hOK⟩
    refine Tr.make hw (fun i => (∃ h ∈ hs, h.id = i) ∨ ∃ p, back.lookup p = some i) hTr.le hTr.wr.holds (upds_len _ b) ?_ ?_ ?_ ?_ hTr.size ?_ ?_ ?_ ?_ hTr.os hTr.tape hTr.output
    · intro i hi
      have h1 : ∀ h ∈ hs, h.id ≠ i := fun h hh he => hi (.inl ⟨h, hh, he⟩)
      have h2 : ∀ q ∈ back, q.2 ≠ i := fun q hq he => hi (.inr ⟨posR base L i, hposL i (by
        have := backL_mem L base q (by rw [hbk]; exact hq)
        rw [← he, this.2.2, List.getD_eq_getElem?_getD, List.getElem?_eq_getElem this.2.1]
        exact List.getElem_mem this.2.1)⟩)
      refine ⟨upds_out _ b i fun q hq => ?_, muB_else h1 h2⟩
      rcases List.mem_append.1 hq with hq | hq
      · rw [hu] at hq
        obtain ⟨h', hh', rfl⟩ := List.mem_map.1 hq
        exact h1 h' hh'
      · rw [hv'] at hq
        obtain ⟨q', hq', rfl⟩ := List.mem_map.1 hq
        exact h2 q' hq'
    · rintro i (⟨h, hh, rfl⟩ | ⟨p, h1⟩)
      · rw [(free_spec (hhome h hh).1).2]; trivial
      · have := hTr.lives p (hnp p i h1)
        rw [hins p, h1, hmuC p i h1] at this
        rw [hbQ p i h1, hmuQ p i h1]
        exact Lives_ren this
    · rintro _ i (⟨h, hh, rfl⟩ | ⟨p, h1⟩)
      · rw [hbH h hh, hmuH h hh]; exact (hhome h hh).2.1 _
      · rw [hbQ p i h1, hmuQ p i h1]
        refine (hTr.wr.bw p).ren fun q hq => ?_
        cases hb : blk outs p with
        | var ly a =>
          rw [hb] at hq
          obtain ⟨k1, k2⟩ := hout p i ly a h1 hb q hq
          exact hmuQ q _ (hbackR q k1 k2)
        | _ => rw [hb] at hq; simp [idsB] at hq
    · rintro i j g (⟨h, hh, rfl⟩ | ⟨p, h1⟩) (⟨h', hh', rfl⟩ | ⟨p', h1'⟩) k1 k2
      · rw [hbH h hh, hmuH h hh] at k1
        rw [hbH h' hh', hmuH h' hh'] at k2
        exact hone h hh h' hh' g k1 k2
      · rw [hbH h hh, hmuH h hh] at k1
        rw [hbQ p' j h1', hmuQ p' j h1', Exc_ren] at k2
        exact absurd k2 (((hhome h hh).2.2.2 g k1).2 p')
      · rw [hbH h' hh', hmuH h' hh'] at k2
        rw [hbQ p i h1, hmuQ p i h1, Exc_ren] at k1
        exact absurd k1 (((hhome h' hh').2.2.2 g k2).2 p)
      · rw [hbQ p i h1, hmuQ p i h1, Exc_ren] at k1
        rw [hbQ p' j h1', hmuQ p' j h1', Exc_ren] at k2
        have := hTr.wr.exc p p' g k1 k2
        subst this
        rw [h1] at h1'
        exact Option.some.inj h1'
    · intro g hg hn
      refine hTr.frame g hg fun p hp' => ?_
      obtain ⟨id, k1, k2⟩ := hExcC p g hp'
      exact hn id (.inr ⟨p, k1⟩) k2
    · intro g o k1 k2
      rcases hTr.fresh g o k1 k2 with k3 | ⟨p, k3⟩
      · exact .inl k3
      · obtain ⟨id, k4, k5⟩ := hExcC p g k3
        exact .inr ⟨id, .inr ⟨p, k4⟩, k5⟩
    · rintro i g (⟨h, hh, rfl⟩ | ⟨p, h1⟩) k1
      · rw [hbH h hh, hmuH h hh] at k1
        rcases ((hhome h hh).2.2.2 g k1).1 with k2 | ⟨p, k2⟩
        · exact .inl k2
        · obtain ⟨id, k4, k5⟩ := hExcC p g k2
          exact .inr ⟨id, .inr ⟨p, k4⟩, k5⟩
      · rw [hbQ p i h1, hmuQ p i h1, Exc_ren] at k1
        rcases hTr.exf p g k1 with k2 | ⟨p', k2⟩
        · exact .inl k2
        · obtain ⟨id, k3, k4⟩ := hExcC p' g k2
          exact .inr ⟨id, .inr ⟨p', k3⟩, k4⟩
    · rintro _ i ly a (⟨h, hh, rfl⟩ | ⟨p, h1⟩) k1
      · rw [hbH h hh] at k1
        exact absurd k1 ((hhome h hh).2.2.1 ly a)
      · rw [hbQ p i h1] at k1
        cases hb : blk outs p with
        | var ly0 a0 =>
          rw [hb] at k1
          injection k1 with k2 k3
          subst k3
          refine (hTr.wr.oks p ly0 a0 hb).ren fun q hq => ?_
          obtain ⟨k4, k5⟩ := hout p i ly0 a0 h1 hb q hq
          exact hbQ q _ (hbackR q k4 k5)
        | _ => rw [hb] at k1; cases k1
  · cases h

theorem call_step (hE : EnvOK E) {call : CallF E} (hC : CallOK P gl call) (hgl : GlOK M gl) (hw : WR M μ b w) {f : FuncId} {cs : List (Cap E)} {sh : RSh} {args : List (Nat × AV E)} {step d : Nat} {cl : Cl} {a : AV E} {u : Upd E} {vs vc : List Value}
    (h : call1 tt H call b step f cs sh args d = some (cl, a, u)) (hl : RSL M μ (args.map (·.2)) vs) (hok : ∀ x ∈ args, OKA b x.2)
    (hcs : ∀ (M' : Mem), M.le M' → ∀ μ, RSL (E := E) M' μ (cs.map fun c => .imm c.ty c.v) vc) :
    FnOK P f ∧ Calls P f (vs ++ vc).toArray w fun e w' => ∃ v M' μ', e = .returned v ∧ Tr b.length M μ b w M' μ' (upds b u) w' ∧ RS M' μ' a v ∧ OKA (upds b u) a := by
  rw [call1_eq] at h
  split at h
  · exact call_stepL hE hC hgl hw h hl hok hcs
  · refine call_stepP hE hC hgl hw h hl hok ?_ ?_
    · have := hcs M (.refl M) μ
      rw [List.map_map]
      exact this
    · intro c hc
      obtain ⟨c0, _, rfl⟩ := List.mem_map.1 hc
      exact .imm _ _ _
end Go.Proofs.YtbmpjppfdeohnaaDoor.Fv

/-! One operation. -/
namespace Go.Proofs.YtbmpjppfdeohnaaDoor.Fv
variable [Quiet]
variable {E : Env} {P : Program} {tt : Nat → Option TE} {gl : Nat → AV E} {H : Hints} {M M' : Mem} {μ μ' : Mu} {b b' : List (Blk E)} {w w' : World}

/-- What a frame has deferred: the same all the time. -/
class Dfr where
  ds : List Deferred
variable [Dfr]
/-- How the evaluator's state stands to the frame and the memory. -/
structure SR (M : Mem) (μ : Mu) (s : St E) (a : Act) (w : World) : Prop where
  defers : a.defers = Dfr.ds
  size : a.tmps.size = s.t.length
  tmps : ∀ i, RS M μ (s.t.getD i .undef) (a.tmps.getD i undef)
  ok : ∀ i, OKA s.b (s.t.getD i .undef)
  wr : WR M μ s.b w

theorem GlOK.mono (h : GlOK M gl) (le : M.le M') : GlOK M' gl := fun g => by
  rcases h g with h | ⟨ty, v, cells, h1, h2, h3, h4⟩ | ⟨h1, t, x, h2⟩
  · exact .inl h
  · exact .inr (.inl ⟨ty, v, cells, h1, h2.mono le, h3.mono le, le _ _ _ h4⟩)
  · exact .inr (.inr ⟨h1, t, x, le _ _ _ h2⟩)

theorem evo_sound (hgl : GlOK M gl) {s : St E} {a : Act} (h : SR M μ s a w) (x : Operand) : RS M μ (evo gl s.t x) (a.eval x) ∧ OKA s.b (evo gl s.t x) := by
  cases x with
  | tmp t => exact ⟨h.tmps t, h.ok t⟩
  | const v => exact ⟨.c v, show OKA s.b (.c v) from .plain trivial (by simp) (by simp) (by simp)⟩
  | func f => exact ⟨RS.v (a := .func f []) (.func f [] [] rfl fun i hi => by simp at hi), show OKA s.b (.func f []) from .plain trivial (by simp) (by simp) (by simp)⟩
  | global g =>
    show RS M μ (glE (gl g)) _ ∧ OKA s.b (glE (gl g))
    rcases hgl g with h | ⟨ty, v, cells, h1, h2, h3, h4⟩ | ⟨h1, _⟩
    · rw [h]; exact ⟨.undef _, .undef _⟩
    · rw [h1]; exact ⟨RS.v (.imm g 0 h2 h3), .imm _ _ _⟩
    · rw [h1]; exact ⟨.undef _, .undef _⟩
theorem evos_sound (hgl : GlOK M gl) {s : St E} {a : Act} (h : SR M μ s a w) : ∀ (l : List Operand), RSL M μ (l.map (evo gl s.t)) (l.map a.eval) ∧ ∀ x ∈ l.map (evo gl s.t), OKA s.b x
  | [] => ⟨.nil, by simp⟩
  | x :: l => by
    obtain ⟨h1, h2⟩ := evo_sound hgl h x
    obtain ⟨h3, h4⟩ := evos_sound hgl h l
    refine ⟨.cons h1 h3, ?_⟩
    intro y hy
    rcases List.mem_cons.1 hy with rfl | hy
    · exact h2
    · exact h4 y hy

theorem RS.func_inv {g : FuncId} {cs : List (Cap E)} {v : Value} (h : RS M μ (.func g cs) v) : ∃ vs : List Value, v = .func (.func g) #[] vs.toArray ∧ vs.length = cs.length ∧
    ∀ i (hi : i < cs.length), ∃ b o cells, vs.getD i Go.undef = .pointer (some ⟨b, o, none⟩) ∧ RC M cs[i].ty cs[i].v cells ∧ CellsAt M b o cells := by
  cases h with
  | v h => cases h with
    | func _ _ vs hl h => exact ⟨vs, rfl, hl, h⟩
theorem caps_rsl : ∀ (cs : List (Cap E)) (vs : List Value), vs.length = cs.length → (∀ i (hi : i < cs.length), ∃ b o cells, vs.getD i Go.undef = .pointer (some ⟨b, o, none⟩) ∧ RC M cs[i].ty cs[i].v cells ∧ CellsAt M b o cells) →
    ∀ μ, RSL (E := E) M μ (cs.map fun c => .imm c.ty c.v) vs
  | [], vs, hl, h, μ => by
    have : vs = [] := List.length_eq_zero_iff.1 hl
    subst this
    exact .nil
  | c :: cs, [], hl, h, μ => by simp at hl
  | c :: cs, v :: vs, hl, h, μ => by
    obtain ⟨b, o, cells, h1, h2, h3⟩ := h 0 (by simp)
    simp only [List.getD_cons_zero] at h1
    subst h1
    refine .cons (RS.v (.imm b o h2 h3)) (caps_rsl cs vs (by simpa using hl) (fun i hi => ?_) μ)
    have := h (i + 1) (by simpa using hi)
    simpa using this

theorem RS.funp_inv {g : FuncId} {ps : List (CP E)} {v : Value} (h : RS M μ (.funp g ps) v) : ∃ vs : List Value, v = .func (.func g) #[] vs.toArray ∧ vs.length = ps.length ∧ ∀ i (hi : i < ps.length), CPV M μ ps[i] (vs.getD i Go.undef) := by
  cases h with
  | v h => cases h with
    | funp _ _ vs hl h => exact ⟨vs, rfl, hl, h⟩
theorem cps_rsl : ∀ (ps : List (CP E)) (vs : List Value), vs.length = ps.length → (∀ i (hi : i < ps.length), CPV M μ ps[i] (vs.getD i undef)) → RSL M μ (ps.map capA) vs
  | [], [], _, _ => .nil
  | [], _ :: _, hl, _ => by simp at hl
  | _ :: _, [], hl, _ => by simp at hl
  | c :: ps, v :: vs, hl, h => by
    have h1 := h 0 (by simp)
    have h2 := cps_rsl ps vs (by simpa using hl) (fun i hi => by
      have := h (i + 1) (by simpa using hi)
      simpa using this)
    refine .cons ?_ h2
    cases c with
    | im c =>
      obtain ⟨b, o, cells, k1, k2, k3⟩ := h1
      simp only [List.getD_cons_zero] at k1
      subst k1
      exact RS.v (.imm b o k2 k3)
    | pt id ly =>
      have k1 : v = .pointer (some ⟨(μ id).g, 0, none⟩) := h1
      subst k1
      have := RV.ptr (E := E) (M := M) (μ := μ) id ly []
      rw [show offTy E ly [] = 0 by cases ly <;> rfl] at this
      exact RS.v this
/-- An operation's step, or a call that is one. -/
def OpDoes (P : Program) (M : Mem) (μ : Mu) (b : List (Blk E)) (w : World) (s : Sem Next) (a : AV E) (u : Upd E) : Prop :=
  OpStep P M μ b w s a u ∨ ∃ f args, s.run P w = .ok (.enter f args) w ∧
    Calls P f args w fun e w' => ∃ v M' μ', e = .returned v ∧ Tr b.length M μ b w M' μ' (upds b u) w' ∧ RS M' μ' a v ∧ OKA (upds b u) a

theorem run_enter {ρ : Operand → Value} {o : Oper} {c : Call} {fo : Operand} {g : FuncId} {caps : Array Value} (hop : o.op = .call c) (hcal : c.callee = .value fo) (hv : ρ fo = .func (.func g) #[] caps) (hf : FnOK P g) :
    (execOp ρ o).run P w = .ok (.enter g (c.args.map ρ ++ caps)) w := by
  obtain ⟨fn, cd, h1, h2, h3⟩ := hf
  have h2' : (fn.name == "runtime.NumGoroutine") = false := by simpa using h2
  simp only [execOp, hop, resolve, hcal, hv, Deferred.ofValue, Sem.run_bind, Sem.run_pure, Result.andThen_ok, invoke, callFunc, run_program, h1, h2', h3, Option.isNone_some, Bool.false_eq_true, if_false, Array.empty_append]

theorem step_sound0 (hE : EnvOK E) (hz : ∀ (M : Mem) n, RC M (.nm n) (E.dfl n) (E.zc n)) (hT : TOK P E tt) {call : CallF E} (hC : CallOK P gl call) (hgl : GlOK M gl) {f : FuncId} {s : St E} {o : Oper} {act : Act} (hs : SR M μ s act w) {cl : Cl} {a : AV E} {u : Upd E}
    (h : step10 tt gl H call f s o = some (cl, a, u)) : OpDoes P M μ s.b w (execOp act.eval o) a u := by
  obtain ⟨hl, hok⟩ := evos_sound hgl hs o.op.operands.toList
  have hρ : ∀ v, act.eval (.const v) = v := fun _ => rfl
  unfold step10 stepK0 at h
  simp only at h
  split at h
  · rename_i c hop
    have hlc := hl
    split at h
    · rename_i bi hcal
      split at h
      · rename_i c0 a0 hp
        obtain ⟨hc, h9⟩ := bif_some h
        clear h
        cases h9
        subst hc
        exact .inl ((pure_sound hE (hz M) hT hρ hp hl).step hs.wr (pure_ok hp rfl s.b hok))
      · split at h
        · rename_i c0 a0 u0 hp
          obtain ⟨hc, h9⟩ := bif_some h
          clear h
          cases h9
          subst hc
          exact .inl (wA_sound hE hz hT hs.wr hp hl hok)
        · cases h
    · rename_i g x l hcal heq
      obtain ⟨hlen, h9⟩ := bif_some h
      clear h
      have hlen := of_decide_eq_true hlen
      have e1 : o.op.operands.toList = .func g :: c.args.toList := by simp [hop, Op.operands, Call.operands, hcal]
      rw [e1] at heq hl hok
      simp only [List.map_cons, List.cons.injEq] at heq
      obtain ⟨_, hl'⟩ := heq
      simp only [List.map_cons] at hl hok
      rw [hl'] at hl hok
      cases hl with
      | cons _ hl =>
        have hlv := hl.length
        have e2 : (c.argTypes.toList.zip l).map (·.2) = l := List.map_snd_zip (by simp [hlen])
        obtain ⟨hfn, hcalls⟩ := call_step (vs := c.args.toList.map act.eval) (vc := []) hE hC hgl hs.wr (show call1 tt H call s.b s.t.length g [] (H.rsh g) (c.argTypes.toList.zip l) (o.dst.getD 100000) = some (cl, a, u) from h9) (by rw [e2]; exact hl) (fun x hx => hok _ (List.mem_cons_of_mem _ (by rw [← e2]; exact List.mem_map.2 ⟨x, hx, rfl⟩))) (fun _ _ _ => .nil)
        refine .inr ⟨g, _, run_enter hop hcal rfl hfn, ?_⟩
        have e3 : c.args.map act.eval ++ #[] = (c.args.toList.map act.eval ++ []).toArray := by apply Array.ext'; simp
        rw [e3]
        exact hcalls
    · rename_i fo g cs l hnf hcal heq
      obtain ⟨hlen, h9⟩ := bif_some h
      clear h
      have hlen := of_decide_eq_true hlen
      have e1 : o.op.operands.toList = fo :: c.args.toList := by simp [hop, Op.operands, Call.operands, hcal]
      rw [e1] at heq hl hok
      simp only [List.map_cons, List.cons.injEq] at heq
      obtain ⟨hfo, hl'⟩ := heq
      simp only [List.map_cons] at hl hok
      rw [hl', hfo] at hl
      rw [hl'] at hok
      cases hl with
      | cons hf hl =>
        have hlv := hl.length
        have e2 : (c.argTypes.toList.zip l).map (·.2) = l := List.map_snd_zip (by simp [hlen])
        obtain ⟨vs, hv, hvl, hcap⟩ := hf.func_inv
        obtain ⟨hfn, hcalls⟩ := call_step (H := { H with cons := fun _ => [], lend := fun _ => [] }) (vs := c.args.toList.map act.eval) (vc := vs) hE hC hgl hs.wr (show call1 tt { H with cons := fun _ => [], lend := fun _ => [] } call s.b s.t.length g cs (.t (tyOf tt o.type)) (c.argTypes.toList.zip l) (o.dst.getD 100000) = some (cl, a, u) from h9) (by rw [e2]; exact hl) (fun x hx => hok _ (List.mem_cons_of_mem _ (by rw [← e2]; exact List.mem_map.2 ⟨x, hx, rfl⟩))) (fun M' hle => caps_rsl cs vs hvl fun i hi => by
          obtain ⟨b, o, cells, h1, h2, h3⟩ := hcap i hi
          exact ⟨b, o, cells, h1, h2.mono hle, h3.mono hle⟩)
        refine .inr ⟨g, _, run_enter hop hcal hv hfn, ?_⟩
        have e3 : c.args.map act.eval ++ vs.toArray = (c.args.toList.map act.eval ++ vs).toArray := by apply Array.ext'; simp
        rw [e3]
        exact hcalls
    · cases h
  · rename_i hnc
    split at h
    · rename_i c0 a0 hp
      obtain ⟨hc, h9⟩ := bif_some h
      clear h
      cases h9
      subst hc
      split at hp
      · exact .inl ((pure_sound hE (hz M) hT hρ hp hl).step hs.wr (pure_ok hp rfl s.b hok))
      · cases hp
    · split at h
      · rename_i t y x hop heq
        rw [hop] at heq hl hok
        simp only [Op.operands, List.map_cons, List.map_nil, List.cons.injEq, and_true] at heq
        have e1 : (Op.load t y).operands.toList = [y] := rfl
        rw [e1] at hl hok
        simp only [List.map_cons, List.map_nil] at hl hok
        rw [heq] at hl hok
        cases hl with
        | cons hx _ =>
          split at h
          · rename_i id hid
            split at h
            · rename_i c0 a0 hlk
              obtain ⟨hc, h9⟩ := bif_some h
              clear h
              cases h9
              subst hc
              obtain ⟨⟨v', h1, h2⟩, h3⟩ := look_sound hE hT hs.wr hid hlk hx
              exact .inl (.same hs.wr (by simp [execOp, hop, h1]) h2 h3)
            · cases h
          · cases h
      · split at h
        · rename_i c0 a0 u0 hp
          obtain ⟨hc, h9⟩ := bif_some h
          clear h
          cases h9
          subst hc
          exact .inl (wA_sound hE hz hT hs.wr hp hl hok)
        · cases h
theorem step_sound (hE : EnvOK E) (hz : ∀ (M : Mem) n, RC M (.nm n) (E.dfl n) (E.zc n)) (hT : TOK P E tt) {call : CallF E} (hC : CallOK P gl call) (hgl : GlOK M gl) {f : FuncId} {s : St E} {o : Oper} {act : Act} (hs : SR M μ s act w) {cl : Cl} {a : AV E} {u : Upd E}
    (h : step1 tt gl H call f s o = some (cl, a, u)) : OpDoes P M μ s.b w (execOp act.eval o) a u := by
  rw [step1_eq] at h
  split at h
  · rename_i g ps args hf
    obtain ⟨hl, hok⟩ := evos_sound hgl hs o.op.operands.toList
    unfold funpOf at hf
    split at hf
    · rename_i c g' ps' l hop heq
      split at hf
      · rename_i fo hcal
        obtain ⟨hlen, h9⟩ := bif_some hf
        clear hf
        cases h9
        have hlen := of_decide_eq_true hlen
        have e1 : o.op.operands.toList = fo :: c.args.toList := by simp [hop, Op.operands, Call.operands, hcal]
        rw [e1] at heq hl hok
        simp only [List.map_cons, List.cons.injEq] at heq
        obtain ⟨hfo, hl'⟩ := heq
        simp only [List.map_cons] at hl hok
        rw [hl', hfo] at hl hok
        cases hl with
        | cons hf hl =>
          have e2 : (c.argTypes.toList.zip l).map (·.2) = l := List.map_snd_zip (by simp [hlen])
          obtain ⟨vs, hv, hvl, hcap⟩ := hf.funp_inv
          have hfo := (hok _ (by simp : AV.funp g ps ∈ _)).plain' (by simp)
          obtain ⟨hfn, hcalls⟩ := call_stepP (vs := c.args.toList.map act.eval) (vc := vs) hE hC hgl hs.wr h (by rw [e2]; exact hl) (fun x hx => hok _ (List.mem_cons_of_mem _ (by rw [← e2]; exact List.mem_map.2 ⟨x, hx, rfl⟩))) (cps_rsl ps vs hvl hcap) (fun c hc => by
            cases c with
            | im c => exact .imm _ _ _
            | pt id ly => exact .plain (a := .ptr id ly []) (hfo id ly hc) (by simp) (by simp) (by simp))
          refine .inr ⟨g, _, run_enter hop hcal hv hfn, ?_⟩
          have e3 : c.args.map act.eval ++ vs.toArray = (c.args.toList.map act.eval ++ vs).toArray := by apply Array.ext'; simp
          rw [e3]
          exact hcalls
      · cases hf
    · cases hf
  · exact step_sound0 hE hz hT hC hgl hs h
end Go.Proofs.YtbmpjppfdeohnaaDoor.Fv

/-! Regions that are run in the order of the text. -/
namespace Go.Proofs.YtbmpjppfdeohnaaDoor.Fv
variable [Quiet] [Dfr]
variable {E : Env} {P : Program} {tt : Nat → Option TE} {gl : Nat → AV E} {H : Hints} {M M' : Mem} {μ μ' : Mu} {b b' : List (Blk E)} {w w' : World}

theorem SR.did {s : St E} {act : Act} (hs : SR M μ s act w) {u : Upd E} {a : AV E} {v : Value} (tr : Tr s.b.length M μ s.b w M' μ' (upds s.b u) w') (hr : RS M' μ' a v) (ok : OKA (upds s.b u) a) (d : Option Nat) : SR M' μ' (s.did d a u) (act.put d v) w' := by
  have lv := tr.all (Nat.le_refl _)
  have old : ∀ i, RS M' μ' (s.t.getD i .undef) (act.tmps.getD i undef) ∧ OKA (upds s.b u) (s.t.getD i .undef) := fun i => ⟨(hs.tmps i).tr (hs.ok i) tr.le lv, (hs.ok i).tr lv⟩
  cases d with
  | none => exact ⟨hs.defers, hs.size, fun i => (old i).1, fun i => (old i).2, tr.wr⟩
  | some d =>
    have key : ∀ i, ((s.t.set d a).getD i .undef = s.t.getD i .undef ∧ (act.tmps.setIfInBounds d v).getD i undef = act.tmps.getD i undef) ∨ ((s.t.set d a).getD i .undef = a ∧ (act.tmps.setIfInBounds d v).getD i undef = v) := by
      intro i
      simp only [List.getD_eq_getElem?_getD, Array.getD_eq_getD_getElem?]
      by_cases hi : d = i
      · subst hi
        by_cases hd : d < s.t.length
        · right
          have hd' : d < act.tmps.size := by rw [hs.size]; exact hd
          rw [List.getElem?_set_self hd]
          simp [hd']
        · left
          have hd' : ¬ d < act.tmps.size := by rw [hs.size]; exact hd
          rw [List.set_eq_of_length_le (by omega), Array.setIfInBounds_eq_of_size_le (by omega)]
          exact ⟨rfl, rfl⟩
      · left
        rw [List.getElem?_set_ne hi, Array.getElem?_setIfInBounds_ne hi]
        exact ⟨rfl, rfl⟩
    refine ⟨hs.defers, ?_, fun i => ?_, fun i => ?_, tr.wr⟩
    · show (act.tmps.setIfInBounds d v).size = (s.t.set d a).length
      simp [hs.size]
    · show RS M' μ' ((s.t.set d a).getD i .undef) ((act.tmps.setIfInBounds d v).getD i undef)
      rcases key i with ⟨h1, h2⟩ | ⟨h1, h2⟩
      · rw [h1, h2]; exact (old i).1
      · rw [h1, h2]; exact hr
    · show OKA (upds s.b u) ((s.t.set d a).getD i .undef)
      rcases key i with ⟨h1, h2⟩ | ⟨h1, h2⟩
      · rw [h1]; exact (old i).2
      · rw [h1]; exact ok

/-- What is true since the call began. -/
structure Since (E : Env) where
  L : Nat
  M : Mem
  μ : Mu
  b : List (Blk E)
  w : World
def Inv (gl : Nat → AV E) (S : Since E) (s : St E) (act : Act) (w : World) : Prop :=
  ∃ M μ, Tr S.L S.M S.μ S.b S.w M μ s.b w ∧ SR M μ s act w
theorem Inv.step {S : Since E} (hL : S.L ≤ S.b.length) {s : St E} {act : Act} {M : Mem} {μ : Mu} (h : Tr S.L S.M S.μ S.b S.w M μ s.b w) (hs : SR M μ s act w) {u : Upd E} {a : AV E} {v : Value} (tr : Tr s.b.length M μ s.b w M' μ' (upds s.b u) w') (hr : RS M' μ' a v) (ok : OKA (upds s.b u) a) (d : Option Nat) :
    Inv gl S (s.did d a u) (act.put d v) w' :=
  ⟨M', μ', h.trans (tr.mono (by rw [h.len]; exact hL)), hs.did tr hr ok d⟩

def eqb (x y : Bool) : Bool := bif x then y else !y
/-- One of a region's operations, its guard heard. -/
def act1 (tt : Nat → Option TE) (gl : Nat → AV E) (H : Hints) (call : CallF E) (f : FuncId) (all : List Oper) (s : St E) (o : Oper) : Option (Res E) :=
  match o.guard with
  | none => step1 tt gl H call f s o
  | some (j, want) => match dstOf all j with
    | none => none
    | some d => match s.t.getD d .undef with
      | .t .bool b => bif eqb b want then step1 tt gl H call f s o else some (.p, .c (.tuple #[]), [])
      | .c v => bif noB v then some (.p, .c (.tuple #[]), []) else none
      | _ => none

theorem set_same {s : St E} {d : Nat} {x : AV E} (h : s.t.getD d .undef = x) (hx : x ≠ .undef) : { s with t := s.t.set d x } = s := by
  have hd : d < s.t.length := by
    rcases Nat.lt_or_ge d s.t.length with h' | h'
    · exact h'
    · rw [List.getD_eq_getElem?_getD, List.getElem?_eq_none h'] at h
      exact absurd h.symm hx
  cases s with
  | mk t b =>
    simp only at h hd ⊢
    congr 1
    rw [List.getD_of_lt _ _ _ hd] at h
    rw [← h]
    exact List.set_getElem_self hd

theorem opsK_cons {α : Type} (call : CallF E) (f : FuncId) (all : List Oper) (o : Oper) (r : List Oper) (acc : List Cl) (s : St E) (k : List Cl → St E → Option α) :
    opsK tt gl H call f all (o :: r) acc s k = (act1 tt gl H call f all s o).bind fun x => opsK tt gl H call f all r (x.1 :: acc) (s.did o.dst x.2.1 x.2.2) k := by
  conv => lhs; unfold opsK
  unfold act1
  simp only
  cases o.guard with
  | none => exact stepK_nat ..
  | some g =>
    obtain ⟨j, want⟩ := g
    simp only
    cases dstOf all j with
    | none => rfl
    | some d =>
      simp only
      split
      · rename_i bb hb
        have hs : ∀ c : Bool, bb = c → ({ s with t := s.t.set d (bl c) } : St E) = s := by
          rintro c rfl
          exact set_same (x := bl bb) hb (by simp [bl])
        cases bb with
        | true =>
          rw [hs true rfl, hb]
          cases want with
          | true => simp only [cond_true, eqb]; exact stepK_nat call f s o _
          | false => rfl
        | false =>
          rw [hs false rfl, hb]
          cases want with
          | true => rfl
          | false => simp only [cond_true, cond_false, eqb, Bool.not_false]; exact stepK_nat call f s o _
      · rename_i v hb
        rw [hb]
        simp only
        cases noB v <;> rfl
      · rename_i hn hn2
        cases hx : s.t.getD d .undef with
        | t ty v => cases ty <;> first | rfl | exact absurd hx (hn _)
        | c v => exact absurd hx (hn2 _)
        | _ => rfl

theorem wpOp_of (hE : EnvOK E) (hz : ∀ (M : Mem) n, RC M (.nm n) (E.dfl n) (E.zc n)) (hT : TOK P E tt) {call : CallF E} (hC : CallOK P gl call) {S : Since E} (hL : S.L ≤ S.b.length) (hgl : GlOK S.M gl) {f : FuncId} {all : List Oper} {s : St E} {o : Oper} {act : Act}
    (hI : Inv gl S s act w) {cl : Cl} {a : AV E} {u : Upd E} (h : act1 tt gl H call f all s o = some (cl, a, u)) {i : Nat} (ho : all.toArray[i]? = some o) {Q : Exit → Act → World → Prop} {K : Act → World → Prop}
    (hK : ∀ act' w', Inv gl S (s.did o.dst a u) act' w' → K act' w') : wpOp P all.toArray Q i K act w := by
  obtain ⟨M, μ, htr, hs⟩ := hI
  have hgl' := hgl.mono htr.le
  have run : step1 tt gl H call f s o = some (cl, a, u) → o.wp P act w K Q := by
    intro h1
    unfold Oper.wp
    rcases step_sound hE hz hT hC hgl' hs h1 with ⟨v, w', M', μ', hr, h2, h3, h4⟩ | ⟨g, args, hr, hcalls⟩
    · have := hK _ _ (Inv.step (gl := gl) hL htr hs h2 h3 h4 o.dst)
      rcases hr with hr | ⟨hr, rfl⟩
      · rw [hr]; exact this
      · rw [hr]; exact this
    · rw [hr]
      refine Calls.mono hcalls ?_
      rintro e w'' ⟨v, M', μ', rfl, h2, h3, h4⟩
      exact hK _ _ (Inv.step (gl := gl) hL htr hs h2 h3 h4 o.dst)
  have fin : (Region.wanted o (yielded all.toArray act.tmps) = true ∧ step1 tt gl H call f s o = some (cl, a, u)) ∨ (Region.wanted o (yielded all.toArray act.tmps) = false ∧ a = .c (.tuple #[]) ∧ u = []) := by
    unfold act1 at h
    unfold Region.wanted
    cases hg : o.guard with
    | none =>
      rw [hg] at h
      exact .inl ⟨rfl, h⟩
    | some g =>
      obtain ⟨j, want⟩ := g
      rw [hg] at h
      simp only at h ⊢
      cases hd : dstOf all j with
      | none => rw [hd] at h; cases h
      | some d =>
        rw [hd] at h
        simp only at h
        split at h
        · rename_i bb hb
          have hyl : yielded all.toArray act.tmps j = some (show Bool from bb) := by
            have hrs := hs.tmps d
            rw [hb] at hrs
            have hv := hrs.bool_inv
            have hdl : d < act.tmps.size := by
              rw [hs.size]
              rcases Nat.lt_or_ge d s.t.length with h' | h'
              · exact h'
              · rw [List.getD_eq_getElem?_getD, List.getElem?_eq_none h'] at hb; cases hb
            have e1 : (all.toArray[j]?).bind (·.dst) = some d := by simpa [dstOf] using hd
            have e2 : act.tmps[d]? = some (.bool bb) := by
              rw [Array.getElem?_eq_getElem hdl]
              rw [Array.getD_eq_getD_getElem?, Array.getElem?_eq_getElem hdl] at hv
              exact congrArg some hv
            unfold yielded
            rw [e1, Option.bind_some, e2]
          rw [hyl]
          have hx : ∀ x y : Bool, (some x == some y) = eqb x y := by decide
          rw [hx]
          cases hbw : eqb bb want with
          | true =>
            rw [hbw] at h
            exact .inl ⟨rfl, h⟩
          | false =>
            rw [hbw] at h
            cases h
            exact .inr ⟨rfl, rfl, rfl⟩
        · rename_i vv hb
          cases hnb : noB vv with
          | false => rw [hnb] at h; cases h
          | true =>
            rw [hnb] at h
            cases h
            have hyl : yielded all.toArray act.tmps j = none := by
              have hrs := hs.tmps d
              rw [hb] at hrs
              have hdl : d < act.tmps.size := by
                rw [hs.size]
                rcases Nat.lt_or_ge d s.t.length with h' | h'
                · exact h'
                · rw [List.getD_eq_getElem?_getD, List.getElem?_eq_none h'] at hb; cases hb
              have e1 : (all.toArray[j]?).bind (·.dst) = some d := by simpa [dstOf] using hd
              have e2 : act.tmps[d]? = some vv := by
                rw [Array.getElem?_eq_getElem hdl]
                rw [Array.getD_eq_getD_getElem?, Array.getElem?_eq_getElem hdl] at hrs
                exact congrArg some hrs.c_inv
              unfold yielded
              rw [e1, Option.bind_some, e2]
              cases vv <;> first | rfl | simp [noB] at hnb
            exact .inr ⟨by rw [hyl]; rfl, rfl, rfl⟩
        · cases h
  unfold wpOp
  rw [ho]
  simp only
  rcases fin with ⟨h1, h2⟩ | ⟨h1, rfl, rfl⟩
  · rw [if_pos h1]
    exact .inl (run h2)
  · rw [if_neg (by rw [h1]; simp)]
    exact hK _ _ (Inv.step (gl := gl) hL htr hs (u := []) (Tr.refl hs.wr _) (.c _) (.plain trivial (fun _ h => nomatch h) (fun _ h => nomatch h) (fun _ _ h => nomatch h)) o.dst)

theorem ops_seq (hE : EnvOK E) (hz : ∀ (M : Mem) n, RC M (.nm n) (E.dfl n) (E.zc n)) (hT : TOK P E tt) {call : CallF E} (hC : CallOK P gl call) {S : Since E} (hL : S.L ≤ S.b.length) (hgl : GlOK S.M gl) {f : FuncId} {α : Type} {k : List Cl → St E → Option α} {res : α} {Q : Exit → Act → World → Prop} :
    ∀ (r pre : List Oper) (acc : List Cl) (s : St E) (act : Act) (w : World), opsK tt gl H call f (pre ++ r) r acc s k = some res → Inv gl S s act w →
      (∀ cls s' act' w', k cls s' = some res → Inv gl S s' act' w' → Q .normal act' w') → wpOps P (pre ++ r).toArray Q (List.range' pre.length r.length) act w
  | [], pre, acc, s, act, w, h, hI, hQ => hQ _ _ _ _ h hI
  | o :: r, pre, acc, s, act, w, h, hI, hQ => by
    rw [opsK_cons] at h
    obtain ⟨⟨cl, a, u⟩, h1, h2⟩ := Option.bind_eq_some_iff.1 h
    simp only [List.length_cons, List.range'_succ]
    rw [wpOps_cons]
    refine wpOp_of hE hz hT hC hL hgl hI h1 (by simp) ?_
    intro act' w' hI'
    have := ops_seq hE hz hT hC hL hgl r (pre ++ [o]) (cl :: acc) _ act' w' (by simpa using h2) hI' hQ
    simpa using this

/-! ### Data from here on -/
theorem settle_tmp (hE : EnvOK E) {s : St E} {act : Act} {m i : Nat} {a : AV E} {u : Upd E} (hs : SR M μ s act w) (h : settleA m s.b (s.t.getD i .undef) = some (true, a, u)) :
    ∃ M', Tr s.b.length M μ s.b w M' μ (upds s.b u) w ∧ SR M' μ { t := s.t.set i a, b := upds s.b u } act w := by
  have key : ∃ M', Tr s.b.length M μ s.b w M' μ (upds s.b u) w ∧ RS M' μ a (act.tmps.getD i Go.undef) ∧ OKA (upds s.b u) a := by
    have hr := hs.tmps i
    have hok := hs.ok i
    generalize s.t.getD i .undef = x at h hr hok
    generalize act.tmps.getD i Go.undef = v at hr
    cases hr with
    | undef v => cases h; exact ⟨M, Tr.refl hs.wr _, .undef _, hok⟩
    | c v => cases h; exact ⟨M, Tr.refl hs.wr _, .c _, hok⟩
    | tup l vs hl hv => cases h; exact ⟨M, Tr.refl hs.wr _, .tup l vs hl hv, hok⟩
    | v hv =>
      obtain ⟨M', h1, h2, h3, h4⟩ := settleA_sound hE x s.b hs.wr hv hok h
      refine ⟨M', h1, ?_, h4⟩
      rw [← h3]
      exact RS.v h2
  obtain ⟨M', h1, h2, h3⟩ := key
  have lv := h1.all (Nat.le_refl _)
  refine ⟨M', h1, hs.defers, by simpa using hs.size, fun j => ?_, fun j => ?_, h1.wr⟩
  · show RS M' μ ((s.t.set i a).getD j .undef) _
    by_cases hj : i = j
    · subst hj
      by_cases hi : i < s.t.length
      · rw [List.getD_of_lt _ _ _ (by simpa using hi), List.getElem_set_self]
        exact h2
      · rw [List.getD_eq_getElem?_getD, List.getElem?_eq_none (by simpa using hi)]
        exact .undef _
    · rw [List.getD_eq_getElem?_getD, List.getElem?_set_ne hj, ← List.getD_eq_getElem?_getD]
      exact (hs.tmps j).tr (hs.ok j) h1.le lv
  · show OKA _ ((s.t.set i a).getD j .undef)
    by_cases hj : i = j
    · subst hj
      by_cases hi : i < s.t.length
      · rw [List.getD_of_lt _ _ _ (by simpa using hi), List.getElem_set_self]
        exact h3
      · rw [List.getD_eq_getElem?_getD, List.getElem?_eq_none (by simpa using hi)]
        exact .undef _
    · rw [List.getD_eq_getElem?_getD, List.getElem?_set_ne hj, ← List.getD_eq_getElem?_getD]
      exact (hs.ok j).tr lv
theorem settleT_inv (hE : EnvOK E) {S : Since E} (hL : S.L ≤ S.b.length) {act : Act} : ∀ (l : List (Nat × Nat)) {s s' : St E}, Inv gl S s act w → settleT l s = some (true, s') → Inv gl S s' act w
  | [], s, s', hI, h => by cases h; exact hI
  | (i, m) :: r, s, s', hI, h => by
    unfold settleT at h
    split at h
    · rename_i c a u h1
      split at h
      · rename_i c' s1 h2
        injection h with h; injection h with hc h
        subst h
        simp only [Bool.and_eq_true] at hc
        obtain ⟨rfl, rfl⟩ := hc
        obtain ⟨M, μ, htr, hs⟩ := hI
        obtain ⟨M', k1, k2⟩ := settle_tmp hE hs h1
        exact settleT_inv hE hL r ⟨M', μ, htr.trans (k1.mono (by rw [htr.len]; exact hL)), k2⟩ h2
      · cases h
    · cases h
theorem preK_inv (hE : EnvOK E) {α : Type} {S : Since E} (hL : S.L ≤ S.b.length) {act : Act} {l : List (Nat × Nat)} {s : St E} {k : St E → Option α} {res : α} (h : preK l s k = some res) (hI : Inv gl S s act w) : ∃ s', k s' = some res ∧ Inv gl S s' act w := by
  unfold preK at h
  split at h
  · exact ⟨s, h, hI⟩
  · split at h
    · rename_i c s' h1
      obtain ⟨hc, h2⟩ := bif_some h
      subst hc
      exact ⟨s', h2, settleT_inv hE hL _ hI h1⟩
    · cases h

theorem ops_seqP (hE : EnvOK E) (hz : ∀ (M : Mem) n, RC M (.nm n) (E.dfl n) (E.zc n)) (hT : TOK P E tt) {call : CallF E} (hC : CallOK P gl call) {S : Since E} (hL : S.L ≤ S.b.length) (hgl : GlOK S.M gl) {f : FuncId} {α : Type} {k : St E → Option α} {res : α} {Q : Exit → Act → World → Prop} :
    ∀ (r pre : List Oper) (s : St E) (act : Act) (w : World), opsP tt gl H call f (pre ++ r) r s k = some res → Inv gl S s act w →
      (∀ s' act' w', k s' = some res → Inv gl S s' act' w' → Q .normal act' w') → wpOps P (pre ++ r).toArray Q (List.range' pre.length r.length) act w
  | [], pre, s, act, w, h, hI, hQ => hQ _ _ _ h hI
  | o :: r, pre, s, act, w, h, hI, hQ => by
    obtain ⟨s1, h1, hI1⟩ := preK_inv hE hL (show preK (preO H f o) s (fun s => opsK tt gl H call f (pre ++ o :: r) [o] [] s fun _ s => opsP tt gl H call f (pre ++ o :: r) r s k) = some res from h) hI
    rw [opsK_cons] at h1
    obtain ⟨⟨cl, a, u⟩, h2, h3⟩ := Option.bind_eq_some_iff.1 h1
    have h3 : opsP tt gl H call f (pre ++ o :: r) r (s1.did o.dst a u) k = some res := h3
    simp only [List.length_cons, List.range'_succ]
    rw [wpOps_cons]
    refine wpOp_of hE hz hT hC hL hgl hI1 h2 (by simp) ?_
    intro act' w' hI'
    have := ops_seqP hE hz hT hC hL hgl r (pre ++ [o]) _ act' w' (by simpa using h3) hI' hQ
    simpa using this

end Go.Proofs.YtbmpjppfdeohnaaDoor.Fv

/-! A row that changes its home. -/
namespace Go.Proofs.YtbmpjppfdeohnaaDoor.Fv
variable [Quiet] [Dfr]
variable {E : Env} {P : Program} {tt : Nat → Option TE} {gl : Nat → AV E} {H : Hints} {M M' : Mem} {μ μ' : Mu} {b b' : List (Blk E)} {w w' : World}

theorem blk_map_ren (r : Nat → Nat) (b : List (Blk E)) (i : Nat) : blk (b.map (renB r)) i = renB r (blk b i) := by
  rcases Nat.lt_or_ge i b.length with h | h
  · simp [blk, List.getD_eq_getElem?_getD, h]
  · simp [blk, List.getD_eq_getElem?_getD, h, renB]
theorem Lives_renR {c c' : Conc} {x y : Blk E} {r : Nat → Nat} (h : Lives c c' x y) : Lives c c' x (renB r y) := by
  cases x <;> cases y <;> exact h
theorem getD_map_mvT (h x : Nat) (t : List (AV E)) (i : Nat) : (t.map (mvT h x)).getD i .undef = mvT h x (t.getD i .undef) := by
  rcases Nat.lt_or_ge i t.length with hi | hi
  · simp [List.getD_eq_getElem?_getD, hi]
  · have : mvT h x (.undef : AV E) = .undef := by simp [mvT, ids, renA]
    simp [List.getD_eq_getElem?_getD, hi, this]

theorem OKA.agree {a : AV E} (h : OKA b a) (ha : ∀ i ∈ ids a, blk b' i = blk b i) : OKA b' a := by
  induction h with
  | plain h hn ht hi =>
    refine .plain ?_ hn ht hi
    rename_i a
    cases a with
    | funp f ps => intro id ly hp; have h := h id ly hp; rw [← ha id (by simp only [ids]; exact cpIds_mem ps id ly hp)] at h; exact h
    | ptr id ly p => have h : (∃ a, blk b id = .var ly a) ∨ ∃ v, blk b id = .frz ly v := h; rw [← ha id (by simp [ids])] at h; exact h
    | eptr id e i p => have h : (∃ xs, blk b id = .row e xs) ∨ blk b id = .rowz e := h; rw [← ha id (by simp [ids])] at h; exact h
    | sl id e xs => have h : ∃ n, blk b id = .grow e n ∧ xs.length ≤ n := h; rw [← ha id (by simp [ids])] at h; exact h
    | rsv id e n => have h : ∃ n, blk b id = .grow e n := h; rw [← ha id (by simp [ids])] at h; exact h
    | fs id e off len => have h : (∃ xs, blk b id = .row e xs ∧ off + len ≤ xs.length) ∨ blk b id = .rowz e := h; rw [← ha id (by simp [ids])] at h; exact h
    | mp id k v => have h : (∃ es, blk b id = .mp k v es) ∨ blk b id = .mpz := h; rw [← ha id (by simp [ids])] at h; exact h
    | _ => trivial
  | agg cs _ ih => exact .agg cs fun c hc => ih c hc fun j hj => ha j (by simp only [ids]; exact idsL_mem hc j hj)
  | tup l _ ih => exact .tup l fun c hc => ih c hc fun j hj => ha j (by simp only [ids]; exact idsL_mem hc j hj)
  | iface t x _ ih => exact .iface t x (ih fun j hj => ha j (by simp only [ids]; exact hj))

theorem mv1_sound {S : Since E} {s s' : St E} {act : Act} {v c x : Nat} (h : mv1 S.L v c x s = some s') (hI : Inv gl S s act w) : Inv gl S s' act w := by
  unfold mv1 at h
  split at h
  case h_2 => cases h
  split at h
  case h_2 => cases h
  rename_i ly0 a0 hv h0 hh0
  cases hhx : Nat.beq h0 x with
  | true => rw [hhx] at h; cases h; exact hI
  | false =>
  rw [hhx] at h
  simp only [cond_false] at h
  split at h
  case h_2 => cases h
  rename_i e xs hrow
  obtain ⟨hc, h9⟩ := bif_some h
  clear h
  cases h9
  simp only [Bool.and_eq_true, List.all_eq_true, Bool.not_eq_true'] at hc
  obtain ⟨⟨c1, c2⟩, c3⟩ := hc
  have c1 : S.L ≤ x := Nat.le_of_ble_eq_true c1
  have c2 : x < s.b.length := Nat.le_of_ble_eq_true c2
  have hne : h0 ≠ x := by rintro rfl; simp at hhx
  have hlt : h0 < s.b.length := blk_lt (by rw [hrow]; simp)
  obtain ⟨M, μ, tr, hs⟩ := hI
  have hw := hs.wr
  have nox : ∀ i, x ∉ idsB (blk s.b i) := fun i hi => by
    have hb : i < s.b.length := blk_lt (fun h => by rw [h] at hi; simp [idsB] at hi)
    have e1 : blk s.b i = s.b[i] := by rw [blk, List.getD_of_lt _ _ _ hb]
    rw [e1] at hi
    have := c3 _ (List.getElem_mem hb)
    simp only [List.contains_eq_mem, decide_eq_false_iff_not] at this
    exact this hi
  have bx : blk (((s.b.map (renB (mvN h0 x))).set h0 (.rowz e)).set x (.row e xs)) x = .row e xs := blk_set_self (by simpa using c2) _
  have bh : blk (((s.b.map (renB (mvN h0 x))).set h0 (.rowz e)).set x (.row e xs)) h0 = .rowz e := by
    rw [blk_set_ne hne, blk_set_self (by simpa using hlt)]
  have bo : ∀ i, i ≠ h0 → i ≠ x → blk (((s.b.map (renB (mvN h0 x))).set h0 (.rowz e)).set x (.row e xs)) i = renB (mvN h0 x) (blk s.b i) := fun i h1 h2 => by
    rw [blk_set_ne h2, blk_set_ne h1, blk_map_ren]
  generalize hB : ((s.b.map (renB (mvN h0 x))).set h0 (.rowz e)).set x (.row e xs) = B at bx bh bo
  have hBl : B.length = s.b.length := by rw [← hB]; simp
  have hr : ∀ i, i ≠ x → upd μ x (μ h0) (mvN h0 x i) = μ i := fun i hi => by
    unfold mvN
    cases hb : Nat.beq i h0 with
    | true => have := Nat.eq_of_beq_eq_true hb; subst this; exact upd_self _ _ _
    | false => exact upd_ne _ _ hi
  have hrb : ∀ i, i ≠ x → blk B (mvN h0 x i) = renB (mvN h0 x) (blk s.b i) := fun i hi => by
    unfold mvN
    cases hb : Nat.beq i h0 with
    | true => have := Nat.eq_of_beq_eq_true hb; subst this; simp only [cond_true]; rw [bx, hrow]; rfl
    | false => exact bo i (by rintro rfl; simp at hb) hi
  have exB : ∀ i g, Exc (upd μ x (μ h0) i) (blk B i) = some g → ∃ j, Exc (μ j) (blk s.b j) = some g ∧ mvN h0 x j = i ∧ j ≠ x := by
    intro i g hg
    by_cases hix : i = x
    · subst hix
      rw [bx, upd_self] at hg
      exact ⟨h0, by rw [hrow]; exact hg, by simp [mvN], hne⟩
    · by_cases hih : i = h0
      · subst hih; rw [bh] at hg; cases hg
      · rw [bo i hih hix, upd_ne _ _ hix, Exc_ren] at hg
        have hb : Nat.beq i h0 = false := by
          cases hb : Nat.beq i h0 with
          | true => exact absurd (Nat.eq_of_beq_eq_true hb) hih
          | false => rfl
        exact ⟨i, hg, by simp only [mvN, hb, cond_false], hix⟩
  have hWR : WR M (upd μ x (μ h0)) B w := by
    refine ⟨hw.holds, fun i => ?_, fun i j g h1 h2 => ?_, fun i ly a hb => ?_⟩
    · by_cases hix : i = x
      · subst hix
        rw [bx, upd_self]
        have := hw.bw h0
        rw [hrow] at this
        exact this
      · by_cases hih : i = h0
        · subst hih; rw [bh]; trivial
        · rw [bo i hih hix, upd_ne _ _ hix]
          exact (hw.bw i).ren fun j hj => hr j (by rintro rfl; exact nox i hj)
    · obtain ⟨i', e1, e2, _⟩ := exB i g h1
      obtain ⟨j', e3, e4, _⟩ := exB j g h2
      have := hw.exc i' j' g e1 e3
      subst this
      rw [← e2, ← e4]
    · by_cases hix : i = x
      · subst hix; rw [bx] at hb; cases hb
      · by_cases hih : i = h0
        · subst hih; rw [bh] at hb; cases hb
        · rw [bo i hih hix] at hb
          cases hbi : blk s.b i with
          | var ly' a' =>
            rw [hbi] at hb
            have hb : Blk.var ly' (renA (mvN h0 x) a') = .var ly a := hb
            cases hb
            refine (hw.oks i _ a' hbi).ren fun j hj => hrb j ?_
            rintro rfl
            exact nox i (by rw [hbi]; exact hj)
          | _ => rw [hbi] at hb; cases hb
  have hval : ∀ (a : AV E) (v : Value), RS M μ a v → RS M (upd μ x (μ h0)) (mvT h0 x a) v := by
    intro a v ha
    unfold mvT
    cases hcx : (ids a).contains x with
    | true => exact .undef _
    | false => exact ha.ren fun j hj => hr j (by rintro rfl; simp [List.contains_eq_mem, hj] at hcx)
  have hoka : ∀ (a : AV E), OKA s.b a → OKA B (mvT h0 x a) := by
    intro a ha
    unfold mvT
    cases hcx : (ids a).contains x with
    | true => exact .undef _
    | false => exact ha.ren fun j hj => hrb j (by rintro rfl; simp [List.contains_eq_mem, hj] at hcx)
  refine ⟨M, upd μ x (μ h0), ⟨tr.le, fun i hi => ?_, hWR, hBl.trans tr.len, tr.size, tr.frame, tr.fresh, fun i g h1 => ?_, tr.os, tr.tape, tr.output⟩, ⟨hs.defers, by simpa using hs.size, fun i => ?_, fun i => ?_, hWR⟩⟩
  · have hix : i ≠ x := by omega
    rw [upd_ne _ _ hix]
    have hl := tr.lives i hi
    by_cases hih : i = h0
    · subst hih
      rw [bh]
      rw [hrow] at hl
      refine hl.trans ?_
      exact ⟨rfl, rfl, rfl⟩
    · rw [bo i hih hix]; exact Lives_renR hl
  · obtain ⟨j, e1, _, _⟩ := exB i g h1
    exact tr.exf j g e1
  · show RS M _ ((s.t.map (mvT h0 x)).getD i .undef) _
    rw [getD_map_mvT]
    exact hval _ _ (hs.tmps i)
  · show OKA B ((s.t.map (mvT h0 x)).getD i .undef)
    rw [getD_map_mvT]
    exact hoka _ (hs.ok i)

theorem mvs_sound {S : Since E} {act : Act} : ∀ (l : List Nat) {s s' : St E}, mvs S.L l s = some s' → Inv gl S s act w → Inv gl S s' act w
  | [], s, s', h, hI => by simp only [mvs] at h; cases h; exact hI
  | q :: l, s, s', h, hI => by
    simp only [mvs] at h
    cases hq : Nat.ble 1000000 q with
    | true =>
      rw [hq] at h
      simp only [cond_true] at h
      split at h
      · rename_i s1 h1
        exact mvs_sound l h (mv1_sound h1 hI)
      · cases h
    | false =>
      rw [hq] at h
      simp only [cond_false] at h
      exact mvs_sound l h hI

theorem drop1_sound {S : Since E} {s s' : St E} {act : Act} {d : Nat} (hd : blk S.b d = .none) (h : drop1 d s = some s') (hI : Inv gl S s act w) : Inv gl S s' act w := by
  obtain ⟨hc, h9⟩ := bif_some h
  clear h
  cases h9
  simp only [List.all_eq_true, Bool.not_eq_true'] at hc
  obtain ⟨M, μ, tr, hs⟩ := hI
  have hw := hs.wr
  have nod : ∀ i, d ∉ idsB (blk s.b i) := fun i hi => by
    have hb : i < s.b.length := blk_lt (fun h => by rw [h] at hi; simp [idsB] at hi)
    have e1 : blk s.b i = s.b[i] := by rw [blk, List.getD_of_lt _ _ _ hb]
    rw [e1] at hi
    have := hc _ (List.getElem_mem hb)
    simp only [List.contains_eq_mem, decide_eq_false_iff_not] at this
    exact this hi
  have bd : blk (s.b.set d .none) d = .none := by
    rcases Nat.lt_or_ge d s.b.length with h | h
    · exact blk_set_self h _
    · exact blk_ge (by simpa using h)
  have bo : ∀ i, i ≠ d → blk (s.b.set d .none) i = blk s.b i := fun i h => blk_set_ne h _
  have hWR : WR M μ (s.b.set d .none) w := by
    refine ⟨hw.holds, fun i => ?_, fun i j g h1 h2 => ?_, fun i ly a hb => ?_⟩
    · by_cases hi : i = d
      · subst hi; rw [bd]; trivial
      · rw [bo i hi]; exact hw.bw i
    · by_cases hi : i = d
      · subst hi; rw [bd] at h1; cases h1
      · by_cases hj : j = d
        · subst hj; rw [bd] at h2; cases h2
        · rw [bo i hi] at h1; rw [bo j hj] at h2; exact hw.exc i j g h1 h2
    · by_cases hi : i = d
      · subst hi; rw [bd] at hb; cases hb
      · rw [bo i hi] at hb
        refine (hw.oks i ly a hb).agree fun j hj => bo j ?_
        rintro rfl
        exact nod i (by rw [hb]; exact hj)
  have gd : ∀ i, (s.t.map fun a => bif (ids a).contains d then .undef else a).getD i .undef = bif (ids (s.t.getD i .undef)).contains d then .undef else s.t.getD i .undef := by
    intro i
    rcases Nat.lt_or_ge i s.t.length with hi | hi
    · simp [List.getD_eq_getElem?_getD, hi]
    · simp [List.getD_eq_getElem?_getD, hi]
  refine ⟨M, μ, ⟨tr.le, fun i hi => ?_, hWR, by rw [← tr.len]; simp, tr.size, tr.frame, tr.fresh, fun i g h1 => ?_, tr.os, tr.tape, tr.output⟩, ⟨hs.defers, by simpa using hs.size, fun i => ?_, fun i => ?_, hWR⟩⟩
  · by_cases hid : i = d
    · subst hid; rw [hd]; trivial
    · show Lives _ _ _ (blk (s.b.set d .none) i)
      rw [bo i hid]; exact tr.lives i hi
  · by_cases hid : i = d
    · subst hid; rw [show blk (s.b.set i .none) i = .none from bd] at h1; cases h1
    · rw [show blk (s.b.set d .none) i = blk s.b i from bo i hid] at h1; exact tr.exf i g h1
  · show RS M μ ((s.t.map fun a => bif (ids a).contains d then .undef else a).getD i .undef) _
    rw [gd]
    cases hcx : (ids (s.t.getD i .undef)).contains d with
    | true => exact .undef _
    | false => exact hs.tmps i
  · show OKA (s.b.set d .none) ((s.t.map fun a => bif (ids a).contains d then .undef else a).getD i .undef)
    rw [gd]
    cases hcx : (ids (s.t.getD i .undef)).contains d with
    | true => exact .undef _
    | false => exact (hs.ok i).agree fun j hj => bo j (by rintro rfl; rw [List.contains_eq_mem, decide_eq_false_iff_not] at hcx; exact hcx hj)
theorem drops_sound {S : Since E} {act : Act} : ∀ (l : List Nat) {s s' : St E}, (∀ q ∈ l, Nat.ble 1000000 q = false → blk S.b q = .none) → drops l s = some s' → Inv gl S s act w → Inv gl S s' act w
  | [], s, s', _, h, hI => by simp only [drops] at h; cases h; exact hI
  | q :: l, s, s', hl, h, hI => by
    simp only [drops] at h
    cases hq : Nat.ble 1000000 q with
    | true =>
      rw [hq] at h
      simp only [cond_true] at h
      exact drops_sound l (fun x hx => hl x (List.mem_cons_of_mem _ hx)) h hI
    | false =>
      rw [hq] at h
      simp only [cond_false] at h
      split at h
      · rename_i s1 h1
        exact drops_sound l (fun x hx => hl x (List.mem_cons_of_mem _ hx)) h (drop1_sound (hl q (by simp) hq) h1 hI)
      · cases h

end Go.Proofs.YtbmpjppfdeohnaaDoor.Fv

/-! At a loop's head. -/
namespace Go.Proofs.YtbmpjppfdeohnaaDoor.Fv
variable [Quiet] [Dfr]
variable {E : Env} {P : Program} {tt : Nat → Option TE} {gl : Nat → AV E} {H : Hints} {M M' : Mem} {μ μ' : Mu} {b b' : List (Blk E)} {w w' : World}

/-- What a value is hangs on the homes that it leads to. -/
theorem RV.agree {a : AV E} {cs : List Value} (h : RV M μ a cs) (ha : ∀ i ∈ ids a, μ' i = μ i) : RV M μ' a cs := by
  induction h with
  | t h => exact .t h
  | nilp => exact .nilp
  | nilfn => exact .nilfn
  | niliface => exact .niliface
  | nilmap => exact .nilmap
  | ptr id ly p => rw [← ha id (by simp [ids])]; exact .ptr id ly p
  | eptr id e i p => rw [← ha id (by simp [ids])]; exact .eptr id e i p
  | imm b o h hc => exact .imm b o h hc
  | sl id e xs h => rw [← ha id (by simp [ids])] at h ⊢; exact .sl id e xs h
  | mp id k v => rw [← ha id (by simp [ids])]; exact .mp id k v
  | exact e xs base h => exact .exact e xs base h
  | snil e => exact .snil e
  | errn => exact .errn
  | errs t x => exact .errs t x
  | snn e xs a cap h => exact .snn e xs a cap h
  | rsv id e n hc hbn =>
    have e1 := ha id (by simp [ids])
    rw [← e1]
    exact .rsv id e n (by rw [e1]; exact hc) (by rw [e1]; exact hbn)
  | fs id e off len cap base h hc => exact .fs id e off len cap base (by rw [ha id (by simp [ids])]; exact h) hc
  | func f cs vs hl h => exact .func f cs vs hl h
  | funp f ps vs hl h =>
    refine .funp f ps vs hl fun i hi => ?_
    have hi' := h i hi
    cases hp : ps[i] with
    | im c => rw [hp] at hi'; exact hi'
    | pt id ly =>
      rw [hp] at hi'
      have : μ' id = μ id := ha id (by simp only [ids]; exact cpIds_mem ps id ly (by rw [← hp]; exact List.getElem_mem hi))
      show vs.getD i undef = .pointer (some ⟨(μ' id).g, 0, none⟩)
      rw [this]
      exact hi'
  | agg cs css hl h ih => exact .agg cs css hl fun i hi => ih i hi fun j hj => ha j (by simp only [ids]; exact idsL_mem (List.getElem_mem hi) j hj)
  | iface tid a cs v h hv ih => exact .iface tid a cs v (ih fun j hj => ha j (by simp only [ids]; exact hj)) hv
theorem RS.agree {a : AV E} {v : Value} (h : RS M μ a v) (ha : ∀ i ∈ ids a, μ' i = μ i) : RS M μ' a v := by
  cases h with
  | undef => exact .undef _
  | c => exact .c _
  | v h => exact .v (h.agree ha)
  | tup l vs hl h =>
    refine .tup l vs hl fun i hi => ?_
    rcases h i hi with h | ⟨cs, h1, h2⟩
    · exact .inl h
    · exact .inr ⟨cs, h1.agree fun j hj => ha j (by simp only [ids]; exact idsL_mem (List.getElem_mem hi) j hj), h2⟩
/-- A home that a slot takes; the one that it left. -/
structure Mv (E : Env) where
  h : Home E
  src : Option Nat

structure KeepOK (M : Mem) (μ : Mu) (b : List (Blk E)) (w : World) (lo : Nat) (u : Upd E) (src men : List Nat) (ms : List (Mv E)) : Prop where
  u : u = ms.map fun m => (m.h.id, m.h.x)
  src : src = ms.filterMap (·.src)
  lo : ∀ m ∈ ms, lo + 16 ≤ m.h.id
  home : ∀ m ∈ ms, (∀ μ, BW M μ w m.h.c m.h.x) ∧ (∀ ly a, m.h.x ≠ .var ly a) ∧ ∀ g, Exc m.h.c m.h.x = some g → ∃ s, m.src = some s ∧ Exc (μ s) (blk b s) = some g

theorem keepH_spec (hw : WR M μ b w) {sl : Nat} {a : AV E} {v : Value} (hv : RS M μ a v) (ok : OKA b a) :
    ∃ ms, KeepOK M μ b w sl (keepH b sl a).u (keepH b sl a).src (keepH b sl a).men ms ∧ ms.length ≤ 1 ∧ (∀ x ∈ ms, x.h.id = sl + 16) ∧
      ∀ (μ' : Mu) (b' : List (Blk E)), (∀ x ∈ ms, μ' x.h.id = x.h.c ∧ blk b' x.h.id = x.h.x) → (∀ i ∈ (keepH b sl a).men, μ' i = μ i ∧ blk b' i = blk b i) → RS M μ' (keepH b sl a).v v ∧ OKA b' (keepH b sl a).v := by
  have plain : ∀ (x : Kp E), x = ⟨a, [], [], ids a⟩ → ∃ ms, KeepOK M μ b w sl x.u x.src x.men ms ∧ ms.length ≤ 1 ∧ (∀ x ∈ ms, x.h.id = sl + 16) ∧
      ∀ (μ' : Mu) (b' : List (Blk E)), (∀ x ∈ ms, μ' x.h.id = x.h.c ∧ blk b' x.h.id = x.h.x) → (∀ i ∈ x.men, μ' i = μ i ∧ blk b' i = blk b i) → RS M μ' x.v v ∧ OKA b' x.v := by
    rintro x rfl
    exact ⟨[], ⟨rfl, rfl, by simp, by simp⟩, by simp, by simp, fun μ' b' _ h => ⟨hv.agree fun i hi => (h i hi).1, ok.agree fun i hi => (h i hi).2⟩⟩
  unfold keepH
  split
  · rename_i id e xs
    split
    · rename_i e' n hb
      cases hc : (decide (e' = e)) with
      | false => exact ⟨[], ⟨rfl, rfl, by simp, by simp⟩, by simp, by simp, fun μ' b' _ h => ⟨.undef _, .undef _⟩⟩
      | true =>
        have hc := of_decide_eq_true hc
        subst hc
        have hB := hw.bw id
        rw [hb] at hB
        have hin : xs.length ≤ n := by
          obtain ⟨m, h1, h2⟩ := ok.plain' (by simp)
          rw [hb] at h1
          cases h1
          exact h2
        refine ⟨[⟨⟨sl + 16, μ id, .grow e' n⟩, some id⟩], ⟨rfl, rfl, by simp, ?_⟩, by simp, by simp, ?_⟩
        · intro m hm
          simp only [List.mem_singleton] at hm
          subst hm
          exact ⟨fun _ => hB, fun ly a h => (by cases h), fun g hg => ⟨id, rfl, by rw [hb]; exact hg⟩⟩
        · intro μ' b' h1 _
          obtain ⟨h2, h3⟩ := h1 _ (List.mem_singleton.2 rfl)
          simp only at h2 h3
          refine ⟨?_, .plain ⟨_, h3, hin⟩ (by simp) (by simp) (by simp)⟩
          cases hv with
          | v hv => cases hv with
            | sl _ _ _ hr =>
              have := RV.sl (E := E) (M := M) (μ := μ') (sl + 16) e' xs (by rw [h2]; exact hr)
              rw [h2] at this
              exact RS.v this
    · exact ⟨[], ⟨rfl, rfl, by simp, by simp⟩, by simp, by simp, fun μ' b' _ h => ⟨.undef _, .undef _⟩⟩
  · rename_i e xs
    cases hv with
    | v hv => cases hv with
      | exact _ _ base hr =>
        refine ⟨[⟨⟨sl + 16, ⟨0, fun _ => (base, xs.length)⟩, .grow e xs.length⟩, none⟩], ⟨rfl, rfl, by simp, ?_⟩, by simp, by simp, ?_⟩
        · intro m hm
          simp only [List.mem_singleton] at hm
          subst hm
          exact ⟨fun _ => ⟨Nat.le_refl _, .inl rfl⟩, fun ly a h => (by cases h), fun g hg => (by simp [Exc] at hg)⟩
        · intro μ' b' h1 _
          obtain ⟨h2, h3⟩ := h1 _ (List.mem_singleton.2 rfl)
          simp only at h2 h3
          refine ⟨?_, .plain ⟨_, h3, Nat.le_refl _⟩ (by simp) (by simp) (by simp)⟩
          have := RV.sl (E := E) (M := M) (μ := μ') (sl + 16) e xs (by rw [h2]; exact hr)
          rw [h2] at this
          exact RS.v this
  · rename_i id e off len
    split
    · rename_i e' xs hb
      cases hc : (decide (e' = e) && decide (off = 0)) with
      | false => exact ⟨[], ⟨rfl, rfl, by simp, by simp⟩, by simp, by simp, fun μ' b' _ h => ⟨.undef _, .undef _⟩⟩
      | true =>
        simp only [Bool.and_eq_true, decide_eq_true_eq] at hc
        obtain ⟨rfl, rfl⟩ := hc
        have hB := hw.bw id
        rw [hb] at hB
        have hin : len ≤ xs.length := by
          obtain ⟨zs, h1, h2⟩ := (ok.plain' (by simp)).resolve_right (by rw [hb]; exact fun h => nomatch h)
          rw [hb] at h1
          cases h1
          omega
        refine ⟨[⟨⟨sl + 16, μ id, .row e' xs⟩, some id⟩], ⟨rfl, rfl, by simp, ?_⟩, by simp, by simp, ?_⟩
        · intro m hm
          simp only [List.mem_singleton] at hm
          subst hm
          exact ⟨fun _ => hB, fun ly a h => (by cases h), fun g hg => ⟨id, rfl, by rw [hb]; exact hg⟩⟩
        · intro μ' b' h1 _
          obtain ⟨h2, h3⟩ := h1 _ (List.mem_singleton.2 rfl)
          simp only at h2 h3
          refine ⟨?_, .plain (.inl ⟨_, h3, by omega⟩) (by simp) (by simp) (by simp)⟩
          cases hv with
          | v hv => cases hv with
            | fs _ _ _ _ cap base hbase hcap =>
              exact RS.v (a := .fs (sl + 16) e' 0 len) (RV.fs (sl + 16) e' 0 len cap base (by rw [h2]; exact hbase) hcap)
    · exact ⟨[], ⟨rfl, rfl, by simp, by simp⟩, by simp, by simp, fun μ' b' _ h => ⟨.undef _, .undef _⟩⟩
  · exact plain _ rfl

theorem keep1_spec (hw : WR M μ b w) {m sl : Nat} {a : AV E} {v : Value} (hv : RS M μ a v) (ok : OKA b a) :
    ∃ ms, KeepOK M μ b w sl (keep1 b m sl a).u (keep1 b m sl a).src (keep1 b m sl a).men ms ∧ ms.length ≤ 1 ∧ (∀ x ∈ ms, x.h.id = sl + 16) ∧
      ∀ (μ' : Mu) (b' : List (Blk E)), (∀ x ∈ ms, μ' x.h.id = x.h.c ∧ blk b' x.h.id = x.h.x) → (∀ i ∈ (keep1 b m sl a).men, μ' i = μ i ∧ blk b' i = blk b i) → RS M μ' (keep1 b m sl a).v v ∧ OKA b' (keep1 b m sl a).v := by
  have plain : ∀ (x : Kp E), x = ⟨a, [], [], ids a⟩ → ∃ ms, KeepOK M μ b w sl x.u x.src x.men ms ∧ ms.length ≤ 1 ∧ (∀ x ∈ ms, x.h.id = sl + 16) ∧
      ∀ (μ' : Mu) (b' : List (Blk E)), (∀ x ∈ ms, μ' x.h.id = x.h.c ∧ blk b' x.h.id = x.h.x) → (∀ i ∈ x.men, μ' i = μ i ∧ blk b' i = blk b i) → RS M μ' x.v v ∧ OKA b' x.v := by
    rintro x rfl
    exact ⟨[], ⟨rfl, rfl, by simp, by simp⟩, by simp, by simp, fun μ' b' _ h => ⟨hv.agree fun i hi => (h i hi).1, ok.agree fun i hi => (h i hi).2⟩⟩
  unfold keep1
  split
  · exact keepH_spec hw hv.unN ok.unN
  · split
    · rename_i e xs hl
      obtain ⟨base, cap, rfl, hr⟩ := hv.lst_inv hl
      exact ⟨[], ⟨rfl, rfl, by simp, by simp⟩, by simp, by simp, fun μ' b' _ h => ⟨RS.slice hr, .t _ _ _⟩⟩
    · exact plain _ rfl
  · exact plain _ rfl

theorem keepT_spec (hw : WR M μ b w) (k : List (Nat × Nat)) : ∀ (l : List (AV E)) (i : Nat) (vs : Nat → Value), (∀ j (hj : j < l.length), RS M μ l[j] (vs (i + j)) ∧ OKA b l[j]) →
    ∃ ms, KeepOK M μ b w i (keepT b k l i).2.1 (keepT b k l i).2.2.1 (keepT b k l i).2.2.2 ms ∧ (keepT b k l i).1.length = l.length ∧
      (∀ m ∈ ms, ∀ m' ∈ ms, m.h.id = m'.h.id → m = m') ∧ (nodup (keepT b k l i).2.2.1 = true → ∀ m ∈ ms, ∀ m' ∈ ms, ∀ s, m.src = some s → m'.src = some s → m = m') ∧
      ∀ (μ' : Mu) (b' : List (Blk E)), (∀ x ∈ ms, μ' x.h.id = x.h.c ∧ blk b' x.h.id = x.h.x) → (∀ j ∈ (keepT b k l i).2.2.2, μ' j = μ j ∧ blk b' j = blk b j) →
        ∀ j (hj : j < (keepT b k l i).1.length), RS M μ' (keepT b k l i).1[j] (vs (i + j)) ∧ OKA b' (keepT b k l i).1[j]
  | [], i, vs, h => ⟨[], ⟨rfl, rfl, by simp, by simp⟩, rfl, by simp, by simp, fun μ' b' _ _ j hj => by simp [keepT] at hj⟩
  | a :: l, i, vs, h => by
    obtain ⟨ms, k1, k2, k3, k4, k5⟩ := keepT_spec hw k l (i + 1) vs (fun j hj => by have := h (j + 1) (by simpa using hj); rw [show i + (j + 1) = i + 1 + j by omega] at this; exact this)
    have h0 : RS M μ a (vs (i + 0)) ∧ OKA b a := h 0 (by simp)
    cases hl : k.lookup i with
    | none =>
      have he : keepT b k (a :: l) i = (.undef :: (keepT b k l (i + 1)).1, (keepT b k l (i + 1)).2) := by simp [keepT, hl]
      rw [he]
      refine ⟨ms, ⟨k1.u, k1.src, fun m hm => by have := k1.lo m hm; omega, k1.home⟩, by simp [k2], k3, k4, fun μ' b' h1 h2 j hj => ?_⟩
      match j, hj with
      | 0, _ => exact ⟨.undef _, .undef _⟩
      | j + 1, hj =>
        have := k5 μ' b' h1 h2 j (by simpa using hj)
        rw [show i + 1 + j = i + (j + 1) by omega] at this
        exact this
    | some m =>
      have he : keepT b k (a :: l) i = ((keep1 b m i a).v :: (keepT b k l (i + 1)).1, (keep1 b m i a).u ++ (keepT b k l (i + 1)).2.1, (keep1 b m i a).src ++ (keepT b k l (i + 1)).2.2.1, (keep1 b m i a).men ++ (keepT b k l (i + 1)).2.2.2) := by simp [keepT, hl]
      rw [he]
      obtain ⟨ms0, j1, j2, j3, j4⟩ := keep1_spec (m := m) (sl := i) hw h0.1 h0.2
      refine ⟨ms0 ++ ms, ⟨by rw [j1.u, k1.u, List.map_append], by rw [j1.src, k1.src, List.filterMap_append], ?_, ?_⟩, by simp [k2], ?_, ?_, ?_⟩
      · intro x hx
        rcases List.mem_append.1 hx with hx | hx
        · rw [j3 x hx]; exact Nat.le_refl _
        · have := k1.lo x hx; omega
      · intro x hx
        rcases List.mem_append.1 hx with hx | hx
        · exact j1.home x hx
        · exact k1.home x hx
      · intro x hx y hy hxy
        rcases List.mem_append.1 hx with hx | hx <;> rcases List.mem_append.1 hy with hy | hy
        · match ms0, j2, hx, hy with
          | [z], _, hx, hy => rw [List.mem_singleton.1 hx, List.mem_singleton.1 hy]
        · have := j3 x hx; have := k1.lo y hy; omega
        · have := j3 y hy; have := k1.lo x hx; omega
        · exact k3 x hx y hy hxy
      · intro hn x hx y hy s hsx hsy
        obtain ⟨n1, n2, n3⟩ := nodup_append hn
        have insrc : ∀ x ∈ ms0, ∀ s, x.src = some s → s ∈ (keep1 b m i a).src := fun x hx s hs => by rw [j1.src]; exact List.mem_filterMap.2 ⟨x, hx, hs⟩
        have insrc' : ∀ x ∈ ms, ∀ s, x.src = some s → s ∈ (keepT b k l (i + 1)).2.2.1 := fun x hx s hs => by rw [k1.src]; exact List.mem_filterMap.2 ⟨x, hx, hs⟩
        rcases List.mem_append.1 hx with hx | hx <;> rcases List.mem_append.1 hy with hy | hy
        · match ms0, j2, hx, hy with
          | [z], _, hx, hy => rw [List.mem_singleton.1 hx, List.mem_singleton.1 hy]
        · exact absurd (insrc' y hy s hsy) (n3 s (insrc x hx s hsx))
        · exact absurd (insrc' x hx s hsx) (n3 s (insrc y hy s hsy))
        · exact k4 n2 x hx y hy s hsx hsy
      · intro μ' b' h1 h2 j hj
        match j, hj with
        | 0, _ => exact j4 μ' b' (fun x hx => h1 x (List.mem_append_left _ hx)) (fun q hq => h2 q (List.mem_append_left _ hq))
        | j + 1, hj =>
          have := k5 μ' b' (fun x hx => h1 x (List.mem_append_right _ hx)) (fun q hq => h2 q (List.mem_append_right _ hq)) j (by simpa using hj)
          rw [show i + 1 + j = i + (j + 1) by omega] at this
          exact this

theorem keepBs_len (np : Nat) (k : List Nat) : ∀ (l : List (Blk E)) (i : Nat), (keepBs np k l i).length = l.length
  | [], i => rfl
  | x :: l, i => by simp [keepBs, keepBs_len np k l]
theorem keepBs_blk (np : Nat) (k : List Nat) : ∀ (l : List (Blk E)) (i j : Nat), blk (keepBs np k l i) j = bif decide (i + j < np) || k.contains (i + j) then blk l j else .none
  | [], i, j => by
    have : blk ([] : List (Blk E)) j = .none := by simp [blk]
    simp only [keepBs, this]
    cases (decide (i + j < np) || k.contains (i + j)) <;> rfl
  | x :: l, i, 0 => rfl
  | x :: l, i, j + 1 => by
    simp only [keepBs, blk_cons_succ]
    rw [keepBs_blk np k l (i + 1) j, show i + 1 + j = i + (j + 1) by omega]

open Classical in
noncomputable def muP (μ : Mu) (ms : List (Mv E)) : Mu := fun i => if h : ∃ m ∈ ms, m.h.id = i then (Classical.choose h).h.c else μ i

theorem prune0_sound {S : Since E} (hL : S.L ≤ S.b.length) (hS : ∀ i, S.L ≤ i ∨ 16 ≤ i → blk S.b i = .none) {s s' : St E} {act : Act} {k : List (Nat × Nat)} {kb : List Nat} (h : prune0 S.L k kb s = some s') (hI : Inv gl S s act w) : Inv gl S s' act w := by
  obtain ⟨M, μ, tr, hs⟩ := hI
  unfold prune0 at h
  simp only at h
  obtain ⟨hc, h9⟩ := bif_some h
  clear h
  cases h9
  simp only [Bool.and_eq_true, List.all_eq_true, Bool.not_eq_true', decide_eq_true_eq] at hc
  obtain ⟨⟨⟨⟨c1, c2⟩, c3⟩, c4⟩, c5⟩ := hc
  have hw := hs.wr
  obtain ⟨ms, k1, k2, k3, k4, k5⟩ := keepT_spec hw k s.t 0 (fun i => act.tmps.getD i undef) (fun j hj => by
    have h1 := hs.tmps j
    have h2 := hs.ok j
    rw [List.getD_of_lt _ _ _ hj] at h1 h2
    rw [Nat.zero_add]
    exact ⟨h1, h2⟩)
  have kept : ∀ i, (decide (i < S.L) || kb.contains i) = true → blk (keepBs S.L kb s.b 0) i = blk s.b i := fun i hi => by
    rw [keepBs_blk, Nat.zero_add, hi]; rfl
  have nkept : ∀ i, (decide (i < S.L) || kb.contains i) = false → blk (keepBs S.L kb s.b 0) i = .none := fun i hi => by
    rw [keepBs_blk, Nat.zero_add, hi]; rfl
  have hnk : ∀ m ∈ ms, (decide (m.h.id < S.L) || kb.contains m.h.id) = false ∧ m.h.id < (keepBs S.L kb s.b 0).length := fun m hm => by
    have := c3 (m.h.id, m.h.x) (by rw [k1.u]; exact List.mem_map.2 ⟨m, hm, rfl⟩)
    exact this
  have hb1 : ∀ m ∈ ms, blk (upds (keepBs S.L kb s.b 0) (keepT s.b k s.t 0).2.1) m.h.id = m.h.x := by
    intro m hm
    refine upds_in _ _ _ _ ?_ ⟨(m.h.id, m.h.x), by rw [k1.u]; exact List.mem_map.2 ⟨m, hm, rfl⟩, rfl⟩ (hnk m hm).2
    intro q hq he
    rw [k1.u] at hq
    obtain ⟨m', hm', rfl⟩ := List.mem_map.1 hq
    rw [k3 m' hm' m hm he]
  have hb2 : ∀ i, (∀ m ∈ ms, m.h.id ≠ i) → blk (upds (keepBs S.L kb s.b 0) (keepT s.b k s.t 0).2.1) i = blk (keepBs S.L kb s.b 0) i := by
    intro i hi
    refine upds_out _ _ _ fun q hq => ?_
    rw [k1.u] at hq
    obtain ⟨m', hm', rfl⟩ := List.mem_map.1 hq
    exact hi m' hm'
  have hm1 : ∀ m ∈ ms, muP μ ms m.h.id = m.h.c := by
    intro m hm
    have hex : ∃ x ∈ ms, x.h.id = m.h.id := ⟨m, hm, rfl⟩
    unfold muP
    rw [dif_pos hex]
    have := Classical.choose_spec hex
    rw [k3 _ this.1 m hm this.2]
  have hm2 : ∀ i, (∀ m ∈ ms, m.h.id ≠ i) → muP μ ms i = μ i := by
    intro i hi
    unfold muP
    rw [dif_neg (by rintro ⟨m, hm, he⟩; exact hi m hm he)]
  have hkm : ∀ i, (decide (i < S.L) || kb.contains i) = true → ∀ m ∈ ms, m.h.id ≠ i := by
    rintro i hi m hm rfl
    rw [(hnk m hm).1] at hi
    cases hi
  have hK : ∀ i, (decide (i < S.L) || kb.contains i) = true → muP μ ms i = μ i ∧ blk (upds (keepBs S.L kb s.b 0) (keepT s.b k s.t 0).2.1) i = blk s.b i := fun i hi =>
    ⟨hm2 i (hkm i hi), by rw [hb2 i (hkm i hi), kept i hi]⟩
  have hcase : ∀ i, ((decide (i < S.L) || kb.contains i) = true) ∨ (∃ m ∈ ms, m.h.id = i) ∨ blk (upds (keepBs S.L kb s.b 0) (keepT s.b k s.t 0).2.1) i = .none := by
    intro i
    by_cases h1 : ∃ m ∈ ms, m.h.id = i
    · exact .inr (.inl h1)
    · cases h2 : (decide (i < S.L) || kb.contains i) with
      | true => exact .inl rfl
      | false => exact .inr (.inr (by rw [hb2 i (fun m hm he => h1 ⟨m, hm, he⟩), nkept i h2]))
  have hvar : ∀ i ly a, (decide (i < S.L) || kb.contains i) = true → blk s.b i = .var ly a → ∀ j ∈ ids a, (decide (j < S.L) || kb.contains j) = true := by
    intro i ly a hi hb j hj
    have hlt : i < (keepBs S.L kb s.b 0).length := by rw [keepBs_len]; exact blk_lt (by rw [hb]; simp)
    have hmem : (keepBs S.L kb s.b 0)[i] ∈ keepBs S.L kb s.b 0 := List.getElem_mem hlt
    have e1 : (keepBs S.L kb s.b 0)[i] = .var ly a := by
      have := kept i hi
      rw [hb] at this
      rw [blk, List.getD_of_lt _ _ _ hlt] at this
      exact this
    exact c2 _ hmem j (by rw [e1]; exact hj)
  have hexc : ∀ m ∈ ms, ∀ g, Exc m.h.c m.h.x = some g → ∃ sr, m.src = some sr ∧ Exc (μ sr) (blk s.b sr) = some g ∧ (decide (sr < S.L) || kb.contains sr) = false := by
    intro m hm g hg
    obtain ⟨sr, h1, h2⟩ := (k1.home m hm).2.2 g hg
    exact ⟨sr, h1, h2, c4 sr (by rw [k1.src]; exact List.mem_filterMap.2 ⟨m, hm, h1⟩)⟩
  have hWR : WR M (muP μ ms) (upds (keepBs S.L kb s.b 0) (keepT s.b k s.t 0).2.1) w := by
    refine ⟨hw.holds, fun i => ?_, fun i j g h1 h2 => ?_, fun i ly a hb => ?_⟩
    · rcases hcase i with hi | ⟨m, hm, rfl⟩ | hi
      · obtain ⟨e1, e2⟩ := hK i hi
        rw [e1, e2]
        have hB := hw.bw i
        cases hb : blk s.b i with
        | var ly a =>
          rw [hb] at hB
          obtain ⟨cs, T, h1, h2, h3, h4⟩ := hB
          exact ⟨cs, T, h1, h2.agree fun j hj => (hK j (hvar i ly a hi hb j hj)).1, h3, h4⟩
        | _ => rw [hb] at hB; exact hB
      · rw [hb1 m hm, hm1 m hm]; exact (k1.home m hm).1 _
      · rw [hi]; trivial
    · rcases hcase i with hi | ⟨m, hm, rfl⟩ | hi
      · obtain ⟨e1, e2⟩ := hK i hi
        rw [e1, e2] at h1
        rcases hcase j with hj | ⟨m', hm', rfl⟩ | hj
        · obtain ⟨e3, e4⟩ := hK j hj
          rw [e3, e4] at h2
          exact hw.exc i j g h1 h2
        · rw [hb1 m' hm', hm1 m' hm'] at h2
          obtain ⟨sr, _, h4, h5⟩ := hexc m' hm' g h2
          have := hw.exc i sr g h1 h4
          subst this
          rw [hi] at h5
          cases h5
        · rw [hj] at h2; cases h2
      · rw [hb1 m hm, hm1 m hm] at h1
        obtain ⟨sr, h3, h4, h5⟩ := hexc m hm g h1
        rcases hcase j with hj | ⟨m', hm', rfl⟩ | hj
        · obtain ⟨e3, e4⟩ := hK j hj
          rw [e3, e4] at h2
          have := hw.exc sr j g h4 h2
          subst this
          rw [hj] at h5
          cases h5
        · rw [hb1 m' hm', hm1 m' hm'] at h2
          obtain ⟨sr', h6, h7, _⟩ := hexc m' hm' g h2
          have := hw.exc sr sr' g h4 h7
          subst this
          rw [k4 c5 m hm m' hm' sr h3 h6]
        · rw [hj] at h2; cases h2
      · rw [hi] at h1; cases h1
    · rcases hcase i with hi | ⟨m, hm, rfl⟩ | hi
      · obtain ⟨e1, e2⟩ := hK i hi
        rw [e2] at hb
        exact (hw.oks i ly a hb).agree fun j hj => (hK j (hvar i ly a hi hb j hj)).2
      · rw [hb1 m hm] at hb
        exact absurd hb ((k1.home m hm).2.1 ly a)
      · rw [hi] at hb; cases hb
  have hvals := k5 (muP μ ms) (upds (keepBs S.L kb s.b 0) (keepT s.b k s.t 0).2.1) (fun m hm => ⟨hm1 m hm, hb1 m hm⟩) (fun j hj => hK j (c1 j hj))
  refine ⟨M, muP μ ms, ⟨tr.le, fun i hi => ?_, hWR, by rw [upds_len, keepBs_len]; exact tr.len, tr.size, tr.frame, tr.fresh, fun i g h1 => ?_, tr.os, tr.tape, tr.output⟩, ⟨hs.defers, by rw [k2]; exact hs.size, fun i => ?_, fun i => ?_, hWR⟩⟩
  · obtain ⟨e1, e2⟩ := hK i (by simp [hi])
    rw [e1, e2]
    exact tr.lives i hi
  · rcases hcase i with hi | ⟨m, hm, rfl⟩ | hi
    · obtain ⟨e1, e2⟩ := hK i hi
      rw [e1, e2] at h1
      exact tr.exf i g h1
    · rw [hb1 m hm, hm1 m hm] at h1
      obtain ⟨sr, h3, h4, h5⟩ := hexc m hm g h1
      exact tr.exf sr g h4
    · rw [hi] at h1; cases h1
  · show RS M (muP μ ms) ((keepT s.b k s.t 0).1.getD i .undef) _
    rcases Nat.lt_or_ge i (keepT s.b k s.t 0).1.length with hi | hi
    · rw [List.getD_of_lt _ _ _ hi]
      have := (hvals i hi).1
      rwa [Nat.zero_add] at this
    · rw [List.getD_eq_getElem?_getD, List.getElem?_eq_none hi]
      exact .undef _
  · show OKA _ ((keepT s.b k s.t 0).1.getD i .undef)
    rcases Nat.lt_or_ge i (keepT s.b k s.t 0).1.length with hi | hi
    · rw [List.getD_of_lt _ _ _ hi]
      exact (hvals i hi).2
    · rw [List.getD_eq_getElem?_getD, List.getElem?_eq_none hi]
      exact .undef _

theorem prune_sound {S : Since E} (hL : S.L ≤ S.b.length) (hS : ∀ i, S.L ≤ i ∨ 16 ≤ i → blk S.b i = .none) {s s' : St E} {act : Act} {k : List (Nat × Nat)} {kb : List Nat} (h : prune S.L k kb s = some s') (hI : Inv gl S s act w) : Inv gl S s' act w := by
  unfold prune at h
  split at h
  · rename_i s1 h1
    exact prune0_sound hL hS h (mvs_sound kb h1 hI)
  · cases h

end Go.Proofs.YtbmpjppfdeohnaaDoor.Fv

/-! Whole bodies. -/
namespace Go.Proofs.YtbmpjppfdeohnaaDoor.Fv
variable [Quiet] [Dfr]
variable {E : Env} {P : Program} {tt : Nat → Option TE} {gl : Nat → AV E} {H : Hints} {M M' : Mem} {μ μ' : Mu} {b b' : List (Blk E)} {w w' : World}

theorem Inv.drew {S : Since E} {s : St E} {act : Act} (h : Inv gl S s act w) : Inv gl S s act { w with drawn := w.drawn + 1 } := by
  obtain ⟨M, μ, tr, hs⟩ := h
  have hw : WR M μ s.b { w with drawn := w.drawn + 1 } := ⟨hs.wr.holds, hs.wr.bw, hs.wr.exc, hs.wr.oks⟩
  exact ⟨M, μ, ⟨tr.le, tr.lives, hw, tr.len, tr.size, tr.frame, tr.fresh, tr.exf, tr.os, ⟨tr.tape.eq, fun q => Nat.le_succ_of_le (tr.tape.le q)⟩, tr.output⟩, ⟨hs.defers, hs.size, hs.tmps, hs.ok, hw⟩⟩

/-- What holds behind a piece of code. -/
def Post {α : Type} (gl : Nat → AV E) (S : Since E) (k : Ex → St E → Option α) (res : α) : Exit → Act → World → Prop
  | .normal, a, w => ∃ s, k .normal s = some res ∧ Inv gl S s a w
  | .exit id, a, w => ∃ s, k (.exit id) s = some res ∧ Inv gl S s a w
  | .ret, a, w => ∃ s, k .ret s = some res ∧ Inv gl S s a w
  | _, _, _ => False

/-- Regions in whatever order their edges leave open. -/
def AnyOK (P : Program) (tt : Nat → Option TE) (gl : Nat → AV E) (H : Hints) (call : CallF E) (S : Since E) (f : FuncId) : Prop :=
  ∀ (ops : Array Oper) (s : St E) (act : Act) (w : World) (α : Type) (k : St E → Option α) (res : α) (Q : Exit → Act → World → Prop),
    opsK tt gl H call f ops.toList ops.toList [] s (fun cls s => bif freeOrder ops.toList cls then k s else none) = some res → Inv gl S s act w →
    (∀ s' act' w', k s' = some res → Inv gl S s' act' w' → Q .normal act' w') → wpAny P .any ops Q ops.size (Array.replicate ops.size false) act w

theorem exec_sound (hE : EnvOK E) (hz : ∀ (M : Mem) n, RC M (.nm n) (E.dfl n) (E.zc n)) (hT : TOK P E tt) (hmix : P.follows .mixedOrders = true) {call : CallF E} (hC : CallOK P gl call) {S : Since E} (hL : S.L ≤ S.b.length) (hS : ∀ i, S.L ≤ i ∨ 16 ≤ i → blk S.b i = .none) (hgl : GlOK S.M gl) {f : FuncId}
    (hAny : AnyOK P tt gl H call S f) (fuel : Nat) {res : AV E × List (Blk E)} :
    ∀ (c : Code) (bid : Nat) (k : Ex → St E → Out E) (s : St E) (act : Act) (w : World), exec tt gl H S.L call fuel f c bid k s = some res → Inv gl S s act w → c.wp P (Post gl S k res) act w := by
  intro c
  induction c with
  | skip => exact fun bid k s act w h hI => wp_skip ⟨s, h, hI⟩
  | ret => exact fun bid k s act w h hI => wp_ret ⟨s, h, hI⟩
  | exit id => exact fun bid k s act w h hI => wp_exit ⟨s, h, hI⟩
  | seq a b iha ihb =>
    intro bid k s act w h hI
    refine wp_seq (wp_mono (iha bid (kSeq (exec tt gl H S.L call fuel f b bid) k) s act w h hI) ?_)
    rintro e a' w' hp
    cases e with
    | normal => obtain ⟨s', h1, h2⟩ := hp; exact ihb bid k s' a' w' h1 h2
    | exit id => obtain ⟨s', h1, h2⟩ := hp; exact ⟨s', h1, h2⟩
    | ret => obtain ⟨s', h1, h2⟩ := hp; exact ⟨s', h1, h2⟩
    | goto l => exact hp
    | panic c => exact hp
    | outgrown => exact hp
  | cond c a b iha ihb =>
    intro bid k s act w h hI
    obtain ⟨M, μ, tr, hs⟩ := hI
    simp only [exec] at h
    split at h
    · rename_i v hv
      have hc := (evo_sound (hgl.mono tr.le) hs c).1
      rw [hv] at hc
      refine wp_cond (t := v) hc.bool_inv ?_
      cases v with
      | true => exact iha bid k s act w h ⟨M, μ, tr, hs⟩
      | false => exact ihb bid k s act w h ⟨M, μ, tr, hs⟩
    · rename_i v hv
      have hc := (evo_sound (hgl.mono tr.le) hs c).1
      rw [hv] at hc
      have hc : act.eval c = .bool v := by
        generalize act.eval c = z at hc
        cases hc with
        | c => rfl
        | v h => cases h
      refine wp_cond (t := v) hc ?_
      cases v with
      | true => exact iha bid k s act w h ⟨M, μ, tr, hs⟩
      | false => exact ihb bid k s act w h ⟨M, μ, tr, hs⟩
    · cases h
  | block id c ih =>
    intro bid k s act w h hI
    refine wp_block (wp_mono (ih id (kBlock id k) s act w h hI) ?_)
    rintro e a' w' hp
    cases e with
    | normal => exact hp
    | exit id' =>
      obtain ⟨s', h1, h2⟩ := hp
      have h1 : (bif id' == id then k .normal s' else k (.exit id') s') = some res := h1
      show if id' = id then Post gl S k res .normal a' w' else Post gl S k res (.exit id') a' w'
      by_cases hid : id' = id
      · rw [if_pos hid]
        rw [show (id' == id) = true by simpa using hid] at h1
        exact ⟨s', h1, h2⟩
      · rw [if_neg hid]
        rw [show (id' == id) = false by simpa using hid] at h1
        exact ⟨s', h1, h2⟩
    | ret => exact hp
    | goto l => exact hp
    | panic c => exact hp
    | outgrown => exact hp
  | loop c ih =>
    intro bid k s act w h hI
    simp only [exec] at h
    refine wp_loop_rounds fuel ?_
    have key : ∀ (n : Nat) (s : St E) (act : Act) (w : World), loopN S.L (exec tt gl H S.L call fuel f c bid) (H.keep f bid) (H.keepB f bid) k n s = some res → Inv gl S s act w → Code.rounds P c (Post gl S k res) n act w := by
      intro n
      induction n with
      | zero => intro s act w h hI; cases h
      | succ n ihn =>
        intro s act w h hI
        simp only [loopN] at h
        split at h
        · rename_i s1 hp
          have hI1 := prune_sound hL hS hp hI
          refine wp_mono (ih bid _ s1 act w h hI1) ?_
          rintro e a' w' hp
          cases e with
          | normal => obtain ⟨s', h1, h2⟩ := hp; exact ihn s' a' w' h1 h2
          | exit id => exact hp
          | ret => exact hp
          | goto l => exact hp
          | panic c => exact hp
          | outgrown => exact hp
        · cases h
    exact key fuel s act w h hI
  | region id ops draw =>
    intro bid k s act w h hI
    cases draw with
    | false =>
      obtain ⟨s1, h1, hI1⟩ := preK_inv hE hL (show preK (H.preT f id) s (fun s => opsP tt gl H call f ops.toList ops.toList s fun s => k .normal s) = some res from h) hI
      refine wp_region ?_
      have := ops_seqP hE hz hT hC hL hgl (Q := Post gl S k res) ops.toList [] s1 act w h1 hI1 (fun s' act' w' h1 h2 => ⟨s', h1, h2⟩)
      rw [List.range_eq_range']
      simpa using this
    | true =>
      obtain ⟨s1, h1, hI1⟩ := preK_inv hE hL (show preK (H.preT f id) s (fun s => opsK tt gl H call f ops.toList ops.toList [] s fun cls s => bif freeOrder ops.toList cls then k .normal s else none) = some res from h) hI
      refine wp_region_any hmix ?_
      exact hAny ops s1 act _ _ (k .normal) res _ h1 hI1.drew (fun s' act' w' h1 h2 => ⟨s', h1, h2⟩)
  | _ => intro bid k s act w h; cases h

end Go.Proofs.YtbmpjppfdeohnaaDoor.Fv

/-! Functions. -/
namespace Go.Proofs.YtbmpjppfdeohnaaDoor.Fv
variable [Quiet] [Dfr]
variable {ex : Nat → Prop} {E : Env} {P : Program} {tt : Nat → Option TE} {gl : Nat → AV E} {H : Hints} {M M' : Mem} {μ μ' : Mu} {b b' : List (Blk E)} {w w' : World}

/-! ### Results -/
def resRun (tmps : Array Value) : ResultVar → Sem Value := fun
  | .tmp t => pure (tmps.getD t undef)
  | .cell a t => do loadVar t (← asAddr (tmps.getD a undef))
theorem run_mapM {α β : Type} (f : α → Sem β) : ∀ (l : List α) (vs : List β), vs.length = l.length → (∀ i (hi : i < l.length) (hi' : i < vs.length), (f l[i]).run P w = .ok vs[i] w) → (l.mapM f).run P w = .ok vs w
  | [], vs, hl, h => by
    have : vs = [] := List.length_eq_zero_iff.1 hl
    subst this
    simp
  | a :: l, [], hl, h => by simp at hl
  | a :: l, v :: vs, hl, h => by
    have h0 := h 0 (by simp) (by simp)
    have ih := run_mapM f l vs (by simpa using hl) (fun i hi hi' => by have := h (i + 1) (by simpa using hi) (by simpa using hi'); simpa using this)
    simp only [List.getElem_cons_zero] at h0
    simp [List.mapM_cons, h0, ih]
theorem run_results {fn : Func} {tmps : Array Value} {vs : List Value} (hl : vs.length = fn.results.toList.length) (h : ∀ i (hi : i < fn.results.toList.length) (hi' : i < vs.length), (resRun tmps fn.results.toList[i]).run P w = .ok vs[i] w) :
    (results fn tmps).run P w = .ok (if h : vs.length = 1 then vs[0] else .tuple vs.toArray) w := by
  have h1 := run_mapM (P := P) (w := w) (resRun tmps) fn.results.toList vs hl h
  have e : results fn tmps = (do
    let vs ← fn.results.mapM (resRun tmps)
    pure (if h : vs.size = 1 then vs[0] else .tuple vs)) := rfl
  rw [e, Array.mapM_eq_mapM_toList]
  simp only [Sem.run_bind, Sem.run_map, h1, Result.andThen_ok, Sem.run_pure]
  congr 1

theorem resA_sound (hE : EnvOK E) (hT : TOK P E tt) {s : St E} {act : Act} (hs : SR M μ s act w) {r : ResultVar} {a : AV E} (h : resA tt s.b s.t r = some a) : ∃ v, (resRun act.tmps r).run P w = .ok v w ∧ RS M μ a v ∧ OKA s.b a := by
  unfold resA at h
  split at h
  · rename_i i
    cases h
    exact ⟨_, rfl, hs.tmps i, hs.ok i⟩
  · rename_i i t
    split at h
    · rename_i id hid
      split at h
      · rename_i c x hlk
        obtain ⟨hc, h9⟩ := bif_some h
        clear h
        cases h9
        subst hc
        obtain ⟨⟨v', h1, h2⟩, h3⟩ := look_sound hE hT hs.wr hid hlk (hs.tmps i)
        refine ⟨v', ?_, h2, h3⟩
        have hrs := hs.tmps i
        have hp : ∃ ad, act.tmps.getD i undef = .pointer (some ad) := by
          generalize act.tmps.getD i undef = va at hrs
          cases hx : s.t.getD i AV.undef with
          | ptr id ly p =>
            rw [hx] at hrs
            cases hrs with
            | v hrs => cases hrs; exact ⟨_, rfl⟩
          | eptr id e j p =>
            rw [hx] at hrs
            cases hrs with
            | v hrs => cases hrs; exact ⟨_, rfl⟩
          | _ => rw [hx] at hid; cases hid
        obtain ⟨ad, hp⟩ := hp
        rw [hp] at h1
        show (do loadVar t (← asAddr (act.tmps.getD i undef)) : Sem Value).run P w = _
        rw [hp]
        simpa [Instr.loadAt, Instr.sureAddr, asAddr] using h1
      · cases h
    · cases h

theorem blk_take (np : Nat) (i : Nat) : blk (b.take np) i = if i < np then blk b i else .none := by
  simp only [blk, List.getD_eq_getElem?_getD, List.getElem?_take]
  split <;> rfl

theorem own_of (hw : WR M μ b w) {np : Nat} {w0 : World} (hfr : ∀ i, np ≤ i → ∀ g, Exc (μ i) (blk b i) = some g → w0.heap.size ≤ g ∨ ex g) : ∀ id, np ≤ id → ∀ g, g = Exc (μ id) (blk b id) → Own ex μ (b.take np) w0 g := by
  rintro id hid g rfl n hn
  refine ⟨hfr id hid n hn, fun p hp => ?_⟩
  rw [blk_take] at hp
  split at hp
  · have := hw.exc p id n hp hn
    omega
  · cases hp
theorem retRow_sound (hw : WR M μ b w) {np : Nat} {w0 : World} (hfr : ∀ i, np ≤ i → ∀ g, Exc (μ i) (blk b i) = some g → w0.heap.size ≤ g ∨ ex g) {e : Ty} {a r : AV E} {v : Value} (h : retRow np b e a = some r) (ha : RS M μ a v) :
    ∃ (xs : List (E.D e)) (g : Option Nat), r = .ownrow e xs ∧ RowR M μ w e xs v g ∧ Own ex μ (b.take np) w0 g ∧ (∀ m, g = some m → ∃ id, Exc (μ id) (blk b id) = some m ∧ ∃ off n, a = .fs id e off n) := by
  have own := own_of (ex := ex) hw hfr
  unfold retRow at h
  split at h
  · rename_i id e' n
    obtain ⟨hid, h1⟩ := bif_some h
    clear h
    have hid := of_decide_eq_true hid
    split at h1
    · rename_i e'' xs hb
      obtain ⟨hc, h2⟩ := bif_some h1
      clear h1
      simp only [Bool.and_eq_true, decide_eq_true_eq] at hc
      obtain ⟨⟨rfl, rfl⟩, rfl⟩ := hc
      cases h2
      have hB := hw.bw id
      rw [hb] at hB
      cases ha with
      | v ha => cases ha with
        | fs _ _ _ _ cap base hbase hcap =>
          exact ⟨xs, Exc (μ id) (.row (E := E) e'' xs), rfl, ⟨μ id, base, cap, rfl, hcap, by simpa using hbase, hB, rfl⟩, own id hid _ (by rw [hb]), fun m hm => ⟨id, by rw [hb]; exact hm, _, _, rfl⟩⟩
    · cases h1
  · rename_i e'
    obtain ⟨hc, h1⟩ := bif_some h
    clear h
    have hc := of_decide_eq_true hc
    subst hc
    cases h1
    cases ha with
    | v ha => cases ha with
      | exact _ _ base hr =>
        exact ⟨[], none, rfl, ⟨⟨0, fun _ => (none, 0)⟩, base, 0, rfl, Nat.le_refl _, .inr ⟨rfl, rfl⟩, .inl ⟨rfl, rfl⟩, by simp [Exc]⟩, fun n hn => (by cases hn), fun m hm => (by cases hm)⟩
  · rename_i e'
    obtain ⟨hc, h1⟩ := bif_some h
    clear h
    have hc := of_decide_eq_true hc
    subst hc
    cases h1
    replace ha : RS (E := E) M μ (.exact e' []) v := ha.unN
    cases ha with
    | v ha => cases ha with
      | exact _ _ base hr =>
        exact ⟨[], none, rfl, ⟨⟨0, fun _ => (none, 0)⟩, base, 0, rfl, Nat.le_refl _, .inr ⟨rfl, rfl⟩, .inl ⟨rfl, rfl⟩, by simp [Exc]⟩, fun n hn => (by cases hn), fun m hm => (by cases hm)⟩
  · cases h
theorem retAg_sound (hE : EnvOK E) (hw : WR M μ b w) {np : Nat} {w0 : World} (hfr : ∀ i, np ≤ i → ∀ g, Exc (μ i) (blk b i) = some g → w0.heap.size ≤ g ∨ ex g) {e : Ty} : ∀ {l : List Ty} {cs rs : List (AV E)} {css : List (List Value)}, retAg np b l e cs = some rs → css.length = cs.length → (∀ i (hi : i < cs.length), RV M μ cs[i] (css.getD i [])) →
    ∃ g, RetAg M μ w rs css.flatten g ∧ Own ex μ (b.take np) w0 g ∧ (∀ m, g = some m → ∃ id, Exc (μ id) (blk b id) = some m ∧ id ∈ goneAg cs) ∧ rs ≠ []
  | [], [c], rs, [d], h, hl, hv => by
    have h : ((retRow np b e c).map fun x => [x]) = some rs := h
    obtain ⟨x, h1, rfl⟩ := Option.map_eq_some_iff.1 h
    have hv0 : RV M μ c d := hv 0 (by simp)
    have hone : ∃ y, d = [y] ∧ RS M μ c y := by
      unfold retRow at h1
      split at h1
      · cases hv0 with
        | fs _ _ _ _ cap base hb hc => exact ⟨_, rfl, RS.v (RV.fs _ _ _ _ cap base hb hc)⟩
      · cases hv0 with
        | exact _ _ base hr => exact ⟨_, rfl, RS.v (RV.exact _ _ base hr)⟩
      · cases hv0 with
        | snil => exact ⟨_, rfl, RS.v (RV.snil _)⟩
      · cases h1
    obtain ⟨y, rfl, hy⟩ := hone
    obtain ⟨xs, g, rfl, k1, k2, k3⟩ := retRow_sound hw hfr h1 hy
    exact ⟨g, ⟨y, rfl, k1⟩, k2, fun m hm => by obtain ⟨id, j1, off, n, rfl⟩ := k3 m hm; exact ⟨id, j1, by simp [goneAg]⟩, by simp⟩
  | [], [], rs, css, h, hl, hv => by cases h
  | [], _ :: _ :: _, rs, css, h, hl, hv => by cases h
  | [], [c], rs, [], h, hl, hv => by simp at hl
  | [], [c], rs, _ :: _ :: _, h, hl, hv => by simp at hl
  | a :: l, [], rs, css, h, hl, hv => by cases h
  | a :: l, c :: cs, rs, [], h, hl, hv => by simp at hl
  | a :: l, c :: cs, rs, d :: css, h, hl, hv => by
    have h : (match toT c a, retAg np b l e cs with
      | some x, some y => some (.t a x :: y)
      | _, _ => none) = some rs := h
    split at h
    · rename_i x y h1 h2
      cases h
      have hv0 : RV M μ c d := hv 0 (by simp)
      obtain ⟨g, k1, k2, k3, k4⟩ := retAg_sound hE hw hfr (css := css) h2 (by simpa using hl) (fun i hi => by
        have := hv (i + 1) (by simpa using hi)
        simpa using this)
      refine ⟨g, ?_, k2, fun m hm => ?_, by simp⟩
      · cases y with
        | nil => exact absurd rfl k4
        | cons z y => exact ⟨d, css.flatten, by simp, toT_sound hE hv0 h1, k1⟩
      · obtain ⟨id, j1, j2⟩ := k3 m hm
        refine ⟨id, j1, ?_⟩
        cases cs with
        | nil => simp [goneAg] at j2
        | cons z cs => exact j2
    · cases h
theorem ret1_sound (hE : EnvOK E) (hw : WR M μ b w) {np : Nat} {w0 : World} (hfr : ∀ i, np ≤ i → ∀ g, Exc (μ i) (blk b i) = some g → w0.heap.size ≤ g ∨ ex g) {sh : RSh} {a r : AV E} {v : Value} (h : ret1 np b sh a = some r) (ha : RS M μ a v) (ok : OKA b a) :
    ∃ g, Ret1 M μ (b.take np) w r v g ∧ Own ex μ (b.take np) w0 g ∧ (∀ m, g = some m → ∃ id, Exc (μ id) (blk b id) = some m ∧ id ∈ goneOf sh (some a)) ∧ ∀ l, r ≠ .tup l := by
  have own : ∀ id, np ≤ id → ∀ g, g = Exc (μ id) (blk b id) → Own ex μ (b.take np) w0 g := by
    rintro id hid g rfl n hn
    refine ⟨hfr id hid n hn, fun p hp => ?_⟩
    rw [blk_take] at hp
    split at hp
    · have := hw.exc p id n hp hn
      omega
    · cases hp
  unfold ret1 at h
  split at h
  · rename_i ty
    obtain ⟨y, hy, rfl⟩ := Option.map_eq_some_iff.1 h
    obtain ⟨cs, h1, h2, _⟩ := ha.real (toT_real hy)
    refine ⟨none, ⟨?_, rfl⟩, fun n hn => (by cases hn), fun m hm => (by cases hm), by simp⟩
    have := RS.of_t (μ := μ) (toT_sound hE h1 hy)
    rwa [← toT_isAgg hy, ← h2] at this
  · rename_i e
    split at h
    · rename_i id e' xs
      obtain ⟨hid, h1⟩ := bif_some h
      clear h
      have hid := of_decide_eq_true hid
      split at h1
      · rename_i e'' n hb
        obtain ⟨hc, h2⟩ := bif_some h1
        clear h1
        simp only [Bool.and_eq_true, decide_eq_true_eq] at hc
        obtain ⟨⟨rfl, rfl⟩, rfl⟩ := hc
        cases h2
        have hB := hw.bw id
        rw [hb] at hB
        cases ha with
        | v ha => cases ha with
          | sl _ _ _ hr =>
            exact ⟨Exc (μ id) (.grow (E := E) e'' xs.length), ⟨μ id, rfl, hr, hB, rfl⟩, own id hid _ (by rw [hb]), fun m hm => ⟨id, by rw [hb]; exact hm, by simp [goneOf]⟩, by simp⟩
      · cases h1
    · rename_i e' xs
      obtain ⟨hc, h1⟩ := bif_some h
      clear h
      have hc := of_decide_eq_true hc
      subst hc
      cases h1
      cases ha with
      | v ha => cases ha with
        | exact _ _ base hr =>
          refine ⟨none, ⟨⟨0, fun _ => (base, xs.length)⟩, rfl, hr, ⟨Nat.le_refl _, .inl rfl⟩, by simp [Exc]⟩, fun n hn => (by cases hn), fun m hm => (by cases hm), by simp⟩
    · rename_i e'
      obtain ⟨hc, h1⟩ := bif_some h
      clear h
      have hc := of_decide_eq_true hc
      subst hc
      cases h1
      replace ha : RS (E := E) M μ (.exact e' []) v := ha.unN
      cases ha with
      | v ha => cases ha with
        | exact _ _ base hr =>
          refine ⟨none, ⟨⟨0, fun _ => (base, 0)⟩, rfl, hr, ⟨Nat.le_refl _, .inl rfl⟩, by simp [Exc]⟩, fun n hn => (by cases hn), fun m hm => (by cases hm), by simp⟩
    · cases h
  · rename_i e
    obtain ⟨xs, g, rfl, k1, k2, k3⟩ := retRow_sound hw hfr h ha
    exact ⟨g, k1, k2, fun m hm => by obtain ⟨id, j1, off, n, rfl⟩ := k3 m hm; exact ⟨id, j1, by simp [goneOf]⟩, by simp⟩
  · rename_i l e
    split at h
    · rename_i cs
      obtain ⟨rs, h1, rfl⟩ := Option.map_eq_some_iff.1 h
      cases ha with
      | v ha => cases ha with
        | agg _ css hl hv =>
          obtain ⟨g, k1, k2, k3, _⟩ := retAg_sound hE hw hfr h1 hl hv
          exact ⟨g, ⟨css.flatten, rfl, k1⟩, k2, fun m hm => by obtain ⟨id, j1, j2⟩ := k3 m hm; exact ⟨id, j1, by simpa [goneOf] using j2⟩, by simp⟩
    · cases h
  · rename_i p e
    split at h
    · rename_i id e' xs
      obtain ⟨hid, h1⟩ := bif_some h
      clear h
      simp only [Bool.and_eq_true, decide_eq_true_eq] at hid
      obtain ⟨⟨rfl, hp⟩, rfl⟩ := hid
      split at h1
      · rename_i e'' n hb
        obtain ⟨hc, h2⟩ := bif_some h1
        clear h1
        simp only [Bool.and_eq_true, decide_eq_true_eq] at hc
        obtain ⟨rfl, rfl⟩ := hc
        cases h2
        exact ⟨none, ⟨ha, by rw [blk_take, if_pos hp]; exact hb, rfl⟩, fun n hn => (by cases hn), fun m hm => (by cases hm), by simp⟩
      · cases h1
    · cases h
  · rename_i p e
    split at h
    · rename_i id e' off len
      obtain ⟨hid, h1⟩ := bif_some h
      clear h
      simp only [Bool.and_eq_true, decide_eq_true_eq] at hid
      obtain ⟨⟨rfl, hp⟩, rfl⟩ := hid
      split at h1
      · rename_i e'' xs hb
        obtain ⟨hc, h2⟩ := bif_some h1
        clear h1
        simp only [Bool.and_eq_true, decide_eq_true_eq] at hc
        obtain ⟨rfl, rfl⟩ := hc
        cases h2
        exact ⟨none, ⟨ha, ⟨xs, by rw [blk_take, if_pos hp]; exact hb⟩, rfl⟩, fun n hn => (by cases hn), fun m hm => (by cases hm), by simp⟩
      · cases h1
    · cases h
  · cases h


theorem rets_sound (hE : EnvOK E) (hT : TOK P E tt) {s : St E} {act : Act} (hs : SR M μ s act w) {np : Nat} {w0 : World} (hfr : ∀ i, np ≤ i → ∀ g, Exc (μ i) (blk s.b i) = some g → w0.heap.size ≤ g ∨ ex g) :
    ∀ (rs : List ResultVar) (shs : List RSh) (l : List (AV E)), rets tt np s rs shs = some l → nodup (gone tt s rs shs) = true → ∃ (vs : List Value) (gs : Nat → Option Nat), vs.length = rs.length ∧ l.length = rs.length ∧
      (∀ i (hi : i < rs.length) (hi' : i < vs.length), (resRun act.tmps rs[i]).run P w = .ok vs[i] w) ∧ (∀ i (hi : i < l.length), Ret1 M μ (s.b.take np) w l[i] (vs.getD i Go.undef) (gs i) ∧ Own ex μ (s.b.take np) w0 (gs i)) ∧
      (∀ i m, i < l.length → gs i = some m → ∃ id ∈ gone tt s rs shs, Exc (μ id) (blk s.b id) = some m) ∧ ∀ i j m, i < l.length → j < l.length → gs i = some m → gs j = some m → i = j
  | [], [], l, h, hn => by
    cases h
    exact ⟨[], fun _ => none, rfl, rfl, by simp, by simp, by simp, by simp⟩
  | [], _ :: _, l, h, hn => by cases h
  | _ :: _, [], l, h, hn => by cases h
  | r :: rs, sh :: shs, l, h, hn => by
    unfold rets at h
    split at h
    · rename_i a l' h1 h2
      cases h
      obtain ⟨x, hx, h3⟩ := Option.bind_eq_some_iff.1 h1
      obtain ⟨v, k1, k2, k3⟩ := resA_sound (P := P) hE hT hs hx
      obtain ⟨g, k4, k5, k6, _⟩ := ret1_sound hE hs.wr hfr h3 k2 k3
      have e : gone tt s (r :: rs) (sh :: shs) = goneOf sh (some x) ++ gone tt s rs shs := by
        show goneOf sh (resA tt s.b s.t r) ++ gone tt s rs shs = _
        rw [hx]
      rw [e] at hn ⊢
      obtain ⟨n1, n2, n3⟩ := nodup_append hn
      obtain ⟨vs, gs, j1, j2, j3, j4, j5, j6⟩ := rets_sound hE hT hs hfr rs shs l' h2 n2
      refine ⟨v :: vs, fun i => match i with | 0 => g | i + 1 => gs i, by simp [j1], by simp [j2], ?_, ?_, ?_, ?_⟩
      · intro i hi hi'
        match i, hi, hi' with
        | 0, _, _ => exact k1
        | i + 1, hi, hi' => exact j3 i (by simpa using hi) (by simpa using hi')
      · intro i hi
        match i, hi with
        | 0, _ => exact ⟨k4, k5⟩
        | i + 1, hi => exact j4 i (by simpa using hi)
      · intro i m hi hm
        match i, hi, hm with
        | 0, _, hm =>
          obtain ⟨id, m1, m2⟩ := k6 m hm
          exact ⟨id, List.mem_append_left _ m2, m1⟩
        | i + 1, hi, hm =>
          obtain ⟨id, m1, m2⟩ := j5 i m (by simpa using hi) hm
          exact ⟨id, List.mem_append_right _ m1, m2⟩
      · have cross : ∀ j m, j < l'.length → g = some m → gs j = some m → False := by
          intro j m hj hg hgj
          obtain ⟨id, m1, m2⟩ := k6 m hg
          obtain ⟨id', m3, m4⟩ := j5 j m hj hgj
          have := hs.wr.exc id id' m m1 m4
          subst this
          exact n3 id m2 m3
        intro i j m hi hj hgi hgj
        match i, j, hi, hj, hgi, hgj with
        | 0, 0, _, _, _, _ => rfl
        | 0, j + 1, _, hj, hgi, hgj => exact (cross j m (by simpa using hj) hgi hgj).elim
        | i + 1, 0, hi, _, hgi, hgj => exact (cross i m (by simpa using hi) hgj hgi).elim
        | i + 1, j + 1, hi, hj, hgi, hgj => rw [j6 i j m (by simpa using hi) (by simpa using hj) hgi hgj]
    · cases h

theorem retsA_sound (hE : EnvOK E) (hT : TOK P E tt) {s : St E} {act : Act} (hs : SR M μ s act w) {np : Nat} {w0 : World} (hfr : ∀ i, np ≤ i → ∀ g, Exc (μ i) (blk s.b i) = some g → w0.heap.size ≤ g ∨ ex g)
    {fn : Func} {sh : RSh} {r : AV E} (h : retsA tt np s fn.results.toList sh = some r) : ∃ v, (results fn act.tmps).run P w = .ok v w ∧ RetA ex M μ (s.b.take np) w0 w r v := by
  have single : ∀ x, fn.results.toList = [x] → (resA tt s.b s.t x).bind (ret1 np s.b sh) = some r → ∃ v, (results fn act.tmps).run P w = .ok v w ∧ RetA ex M μ (s.b.take np) w0 w r v := by
    intro x hx h1
    obtain ⟨a, ha, h3⟩ := Option.bind_eq_some_iff.1 h1
    obtain ⟨v, k1, k2, k3⟩ := resA_sound (P := P) hE hT hs ha
    obtain ⟨g, k4, k5, _, k7⟩ := ret1_sound hE hs.wr hfr h3 k2 k3
    have := run_results (P := P) (w := w) (fn := fn) (tmps := act.tmps) (vs := [v]) (by rw [hx]; rfl) (fun i hi hi' => by
      have hi0 : i = 0 := by simpa using hi'
      subst hi0
      simp only [hx, List.getElem_cons_zero]
      exact k1)
    refine ⟨v, by simpa using this, ?_⟩
    cases r <;> first | exact absurd rfl (k7 _) | exact ⟨g, k4, k5⟩
  unfold retsA at h
  split at h
  · rename_i hr
    cases h
    have := run_results (P := P) (w := w) (fn := fn) (tmps := act.tmps) (vs := []) (by rw [hr]; rfl) (fun i hi hi' => by simp at hi')
    refine ⟨.tuple #[], by simpa using this, [], rfl, rfl, fun _ => none, by simp, by simp⟩
  · rename_i _ shs
    obtain ⟨hc, h1⟩ := bif_some h
    clear h
    simp only [Bool.and_eq_true, decide_eq_true_eq] at hc
    obtain ⟨l, hl, rfl⟩ := Option.map_eq_some_iff.1 h1
    obtain ⟨vs, gs, j1, j2, j3, j4, j5, j6⟩ := rets_sound (P := P) hE hT hs hfr _ shs l hl hc.1
    have := run_results (P := P) (w := w) (fn := fn) (tmps := act.tmps) (vs := vs) j1 j3
    rw [dif_neg (by omega)] at this
    exact ⟨_, this, vs, rfl, by omega, gs, j4, j6⟩
  · exact single _ (by assumption) h
  · cases h
end Go.Proofs.YtbmpjppfdeohnaaDoor.Fv

/-! The evaluator says what the program does. -/
namespace Go.Proofs.YtbmpjppfdeohnaaDoor.Fv
variable [Quiet]
/-- Nothing, where nothing is said. -/
instance dfr0 : Dfr := ⟨[]⟩
variable {E : Env} {P : Program} {tt : Nat → Option TE} {gl : Nat → AV E} {H : Hints} {M M' : Mem} {μ μ' : Mu} {b b' : List (Blk E)} {w w' : World}

theorem blk_pad (ins : List (Blk E)) (n i : Nat) : blk (ins ++ List.replicate n .none) i = blk ins i := by
  rw [blk_append]
  split
  · rfl
  · rename_i h
    rw [blk_ge (b := ins) (i := i) (by omega)]
    simp only [blk, List.getD_eq_getElem?_getD, List.getElem?_replicate]
    split <;> rfl

theorem WR.congr (h : WR M μ b w) (hb : ∀ i, blk b' i = blk b i) : WR M μ b' w :=
  ⟨h.holds, fun i => by rw [hb]; exact h.bw i, fun i j g h1 h2 => by rw [hb] at h1 h2; exact h.exc i j g h1 h2, fun i ly a h1 => by
    rw [hb] at h1
    exact (h.oks i ly a h1).agree fun j _ => hb j⟩

theorem RSL.getD : ∀ {l : List (AV E)} {vs : List Value}, RSL M μ l vs → ∀ i, RS M μ (l.getD i .undef) (vs.getD i Go.undef)
  | _, _, .nil, i => by simp; exact .undef _
  | _, _, .cons h t, 0 => h
  | _, _, .cons h t, i + 1 => by simpa using RSL.getD t i

/-- What is handed back, at the end of a body. -/
theorem inv_done [Dfr] (hE : EnvOK E) (hT : TOK P E tt) {f : FuncId} {fn : Func} {as : List (AV E)} {ins : List (Blk E)} {r : AV E} {outs : List (Blk E)} {sh : RSh} (h16 : ins.length ≤ 16) {M : Mem} {μ : Mu} {w : World}
    {a : Act} {w' : World} {s : St E} {e : Ex} (hf : fin tt ins.length fn.results.toList sh e s = some (r, outs)) (hI : Inv gl ⟨ins.length, M, μ, (start fn as ins).b, w⟩ s a w') :
    a.defers = Dfr.ds ∧ ∃ v, (results fn a.tmps).run P w' = .ok v w' ∧ ∃ v0 M' μ', Ending.returned v = .returned v0 ∧ Tr ins.length M μ ins w M' μ' outs w' ∧ RetA (Taken μ ins outs) M' μ' outs w w' r v0 := by
  have hpad : ∀ i, blk (start fn as ins).b i = blk ins i := fun i => blk_pad ins _ i
  have hL : ins.length ≤ (start fn as ins).b.length := by show ins.length ≤ (ins ++ List.replicate _ _).length; simp
  have hS : ∀ i, ins.length ≤ i ∨ 16 ≤ i → blk (start fn as ins).b i = .none := fun i hi => by
    have hi : ins.length ≤ i := by rcases hi with hi | hi; exact hi; omega
    rw [hpad, blk_ge hi]
  obtain ⟨M', μ', tr, hs⟩ := hI
  have hf : ∃ x, retsA tt ins.length s fn.results.toList sh = some x ∧ ((s.b.take ins.length).all (back1 ins.length)) = true ∧ r = x ∧ outs = s.b.take ins.length := by
    unfold fin at hf
    split at hf
    · cases hf
    · split at hf
      · rename_i x hx
        obtain ⟨h1, h2⟩ := bif_some hf
        injection h2 with h2
        injection h2 with h3 h4
        exact ⟨x, hx, h1, h3.symm, h4.symm⟩
      · cases hf
  obtain ⟨x, hx, hall, rfl, rfl⟩ := hf
  have hfr : ∀ i, ins.length ≤ i → ∀ g, Exc (μ' i) (blk s.b i) = some g → w.heap.size ≤ g ∨ Taken μ ins (s.b.take ins.length) g := by
    intro i hi g hg
    rcases tr.exf i g hg with h1 | ⟨j, h1⟩
    · exact .inl h1
    · exact .inr ⟨j, by rw [← hpad j]; exact h1⟩
  obtain ⟨v, h1, h2⟩ := retsA_sound hE hT hs hfr hx
  refine ⟨hs.defers, v, h1, v, M', μ', rfl, ?_, h2⟩
  have hsl : ins.length ≤ s.b.length := by have := tr.len; rw [this]; exact hL
  refine ⟨tr.le, fun i hi => ?_, ?_, ?_, tr.size, fun g hg hn => tr.frame g hg fun i => ?_, fun g o h3 h4 => ?_, fun i g h3 => ?_, tr.os, tr.tape, tr.output⟩
  · rw [blk_take, if_pos hi, ← hpad i]
    exact tr.lives i hi
  · refine ⟨hs.wr.holds, fun i => ?_, fun i j g h3 h4 => ?_, fun i ly a h3 => ?_⟩
    · rw [blk_take]
      split
      · exact hs.wr.bw i
      · trivial
    · rw [blk_take] at h3 h4
      split at h3
      · split at h4
        · exact hs.wr.exc i j g h3 h4
        · cases h4
      · cases h3
    · have hlt : i < (s.b.take ins.length).length := blk_lt (by rw [h3]; simp)
      simp only [List.all_eq_true] at hall
      have := hall _ (List.getElem_mem hlt)
      rw [blk, List.getD_of_lt _ _ _ hlt] at h3
      rw [h3] at this
      have h3' : blk s.b i = .var ly a := by
        rw [← h3, ← List.getD_of_lt _ _ _ hlt]
        show _ = blk (s.b.take ins.length) i
        rw [blk_take, if_pos (by have := hlt; rw [List.length_take] at this; omega)]
      refine (hs.wr.oks i ly a h3').agree fun j hj => ?_
      have this : ((ids a).all fun i => Nat.blt i ins.length) = true := this
      rw [List.all_eq_true] at this
      rw [blk_take, if_pos (show j < ins.length from Nat.le_of_ble_eq_true (this j hj))]
  · rw [List.length_take, Nat.min_eq_left hsl]
  · show Exc (μ i) (blk (start fn as ins).b i) ≠ some g
    rw [hpad]
    exact hn i
  · rcases tr.fresh g o h3 h4 with h5 | ⟨i, h5⟩
    · exact .inl h5
    · refine .inr ⟨i, ?_⟩
      rw [← hpad i]
      exact h5
  · rw [blk_take] at h3
    split at h3
    · rcases tr.exf i g h3 with h5 | ⟨j, h5⟩
      · exact .inl h5
      · right
        refine ⟨j, ?_⟩
        rw [← hpad j]
        exact h5
    · cases h3

/-- At the beginning of a body. -/
theorem inv_start {fn : Func} {as : List (AV E)} {ins : List (Blk E)} {M : Mem} {μ : Mu} {w : World} {args : Array Value} (hw : WR M μ ins w) (hl : RSL M μ as args.toList) (hok : ∀ a ∈ as, OKA ins a) (L : Nat := ins.length) :
    Inv gl ⟨L, M, μ, (start fn as ins).b, w⟩ (start fn as ins) { tmps := args ++ Array.replicate (fn.ntmps - args.size) undef, defers := [] } w := by
  have hpad : ∀ i, blk (start fn as ins).b i = blk ins i := fun i => blk_pad ins _ i
  have hw0 : WR M μ (start fn as ins).b w := hw.congr hpad
  have hlen : args.size = as.length := by have := hl.length; simpa using this
  refine ⟨M, μ, Tr.refl hw0 _, ⟨rfl, by simp [start, hlen], fun i => ?_, fun i => ?_, hw0⟩⟩
  · show RS M μ ((as ++ List.replicate _ AV.undef).getD i .undef) ((args ++ Array.replicate _ undef).getD i undef)
    rcases Nat.lt_or_ge i as.length with hi | hi
    · have h1 := hl.getD i
      have e1 : (as ++ List.replicate (fn.ntmps - as.length) AV.undef).getD i .undef = as.getD i .undef := by
        simp only [List.getD_eq_getElem?_getD, List.getElem?_append_left hi]
      have e2 : (args ++ Array.replicate (fn.ntmps - args.size) undef).getD i undef = args.toList.getD i undef := by
        simp only [Array.getD_eq_getD_getElem?, List.getD_eq_getElem?_getD]
        rw [Array.getElem?_append_left (by omega)]
        simp
      rw [e1, e2]
      exact h1
    · have e1 : (as ++ List.replicate (fn.ntmps - as.length) AV.undef).getD i .undef = .undef := by
        simp only [List.getD_eq_getElem?_getD, List.getElem?_append_right hi, List.getElem?_replicate]
        split <;> rfl
      rw [e1]
      exact .undef _
  · show OKA _ ((as ++ List.replicate _ AV.undef).getD i .undef)
    rcases Nat.lt_or_ge i as.length with hi | hi
    · have e1 : (as ++ List.replicate (fn.ntmps - as.length) AV.undef).getD i .undef = as[i] := by
        simp only [List.getD_eq_getElem?_getD, List.getElem?_append_left hi, List.getElem?_eq_getElem hi, Option.getD_some]
      rw [e1]
      exact (hok _ (List.getElem_mem hi)).agree fun j _ => hpad j
    · have e1 : (as ++ List.replicate (fn.ntmps - as.length) AV.undef).getD i .undef = .undef := by
        simp only [List.getD_eq_getElem?_getD, List.getElem?_append_right hi, List.getElem?_replicate]
        split <;> rfl
      rw [e1]
      exact .undef _

theorem finM_inv {np n : Nat} {mv : List Nat} {rs : List ResultVar} {sh : RSh} {e : Ex} {s : St E} {o : AV E × List (Blk E)} (h : finM tt np n mv rs sh e s = some o) : ∃ s1 s', mvs np mv s = some s1 ∧ drops mv s1 = some s' ∧ fin tt n rs sh e s' = some o := by
  cases e with
  | exit id => cases h
  | normal =>
    simp only [finM] at h
    split at h
    · rename_i s' h1; obtain ⟨s1, h2, h3⟩ := Option.bind_eq_some_iff.1 h1; exact ⟨s1, s', h2, h3, h⟩
    · cases h
  | ret =>
    simp only [finM] at h
    split at h
    · rename_i s' h1; obtain ⟨s1, h2, h3⟩ := Option.bind_eq_some_iff.1 h1; exact ⟨s1, s', h2, h3, h⟩
    · cases h
theorem Inv.up [Dfr] {L L' : Nat} {M : Mem} {μ : Mu} {b : List (Blk E)} {w0 : World} {s : St E} {act : Act} {w : World} (hb : ∀ i, L ≤ i → blk b i = .none) (h : Inv gl ⟨L, M, μ, b, w0⟩ s act w) : Inv gl ⟨L', M, μ, b, w0⟩ s act w := by
  obtain ⟨M', μ', tr, hs⟩ := h
  refine ⟨M', μ', ⟨tr.le, fun i _ => ?_, tr.wr, tr.len, tr.size, tr.frame, tr.fresh, tr.exf, tr.os, tr.tape, tr.output⟩, hs⟩
  rcases Nat.lt_or_ge i L with hi | hi
  · exact tr.lives i hi
  · show Lives (μ i) (μ' i) (blk b i) _
    rw [hb i hi]
    trivial
theorem noB1_none {x : Blk E} (h : noB1 x = true) : x = .none := by cases x <;> first | rfl | cases h
/-- At the end of a body, behind the moves. -/
theorem inv_doneM [Dfr] (hE : EnvOK E) (hT : TOK P E tt) {f : FuncId} {fn : Func} {as : List (AV E)} {ins : List (Blk E)} {r : AV E} {outs : List (Blk E)} {sh : RSh} (h16 : ins.length ≤ 16) {np : Nat} {mv : List Nat} (hnb : ∀ i, np ≤ i → blk ins i = .none) (hdr : ∀ q ∈ mv, Nat.ble 1000000 q = false → blk ins q = .none) {M : Mem} {μ : Mu} {w : World}
    {a : Act} {w' : World} {s : St E} {e : Ex} (hf : finM tt np ins.length mv fn.results.toList sh e s = some (r, outs)) (hI : Inv gl ⟨np, M, μ, (start fn as ins).b, w⟩ s a w') :
    a.defers = Dfr.ds ∧ ∃ v, (results fn a.tmps).run P w' = .ok v w' ∧ ∃ v0 M' μ', Ending.returned v = .returned v0 ∧ Tr ins.length M μ ins w M' μ' outs w' ∧ RetA (Taken μ ins outs) M' μ' outs w w' r v0 := by
  obtain ⟨s1, s', h1, h3, h2⟩ := finM_inv hf
  exact inv_done (f := f) hE hT h16 h2 (Inv.up (fun i hi => by rw [show blk (start fn as ins).b i = blk ins i from blk_pad ins _ i]; exact hnb i hi) (drops_sound mv (fun q hq h => (blk_pad ins _ q).trans (hdr q hq h)) h3 (mvs_sound mv h1 hI)))

theorem body_sound (hE : EnvOK E) (hz : ∀ (M : Mem) n, RC M (.nm n) (E.dfl n) (E.zc n)) (hT : TOK P E tt) (hmix : P.follows .mixedOrders = true) {call : CallF E} (hC : CallOK P gl call) {f : FuncId} {fn : Func} (hfn : P.funcs[f]? = some fn) {fuel : Nat}
    (hAny : ∀ S : Since E, S.L ≤ S.b.length → GlOK S.M gl → AnyOK P tt gl H call S f) {as : List (AV E)} {ins : List (Blk E)} {r : AV E} {outs : List (Blk E)} (h : body tt gl H call fuel f fn as ins = some (r, outs)) :
    ((∃ c, fn.body = some c) ∧ ins.length ≤ 16) ∧ ∀ M μ w (args : Array Value), GlOK M gl → WR M μ ins w → RSL M μ as args.toList → (∀ a ∈ as, OKA ins a) →
      Calls P f args w fun e w' => ∃ v M' μ', e = .returned v ∧ Tr ins.length M μ ins w M' μ' outs w' ∧ RetA (Taken μ ins outs) M' μ' outs w w' r v := by
  unfold body at h
  split at h
  · cases h
  · rename_i c hc
    obtain ⟨h16, h⟩ := bif_some h
    rw [Bool.and_eq_true, Bool.and_eq_true, List.all_eq_true, List.all_eq_true] at h16
    obtain ⟨⟨h16, hnx⟩, hdr⟩ := h16
    have hdr : ∀ q ∈ H.keepB f 100000, Nat.ble 1000000 q = false → blk ins q = .none := fun q hq hb => by
      have := hdr q hq
      rw [hb, Bool.false_or] at this
      exact noB1_none this
    have h16 := of_decide_eq_true h16
    have hnb : ∀ i, ins.length - H.nx f ≤ i → blk ins i = .none := fun i hi => by
      rcases Nat.lt_or_ge i ins.length with h1 | h1
      · have h2 : i - (ins.length - H.nx f) < (ins.drop (ins.length - H.nx f)).length := by rw [List.length_drop]; omega
        have h3 := noB1_none (hnx _ (List.getElem_mem h2))
        rw [List.getElem_drop] at h3
        rw [blk, List.getD_of_lt _ _ _ h1, ← h3]
        congr 1
        omega
      · exact blk_ge h1
    refine ⟨⟨⟨c, hc⟩, h16⟩, fun M μ w args hgl hw hl hok => ?_⟩
    have hpad : ∀ i, blk (start fn as ins).b i = blk ins i := fun i => blk_pad ins _ i
    let S : Since E := ⟨ins.length - H.nx f, M, μ, (start fn as ins).b, w⟩
    have hL : S.L ≤ S.b.length := by show ins.length - H.nx f ≤ (ins ++ List.replicate _ _).length; rw [List.length_append]; omega
    have hS : ∀ i, S.L ≤ i ∨ 16 ≤ i → blk S.b i = .none := fun i hi => by
      have hi : ins.length - H.nx f ≤ i := by rcases hi with hi | hi; exact hi; omega
      show blk (start fn as ins).b i = .none
      rw [hpad, hnb i hi]
    have hw0 : WR M μ (start fn as ins).b w := hw.congr hpad
    have hlen : args.size = as.length := by have := hl.length; simpa using this
    have hI : Inv gl S (start fn as ins) { tmps := args ++ Array.replicate (fn.ntmps - args.size) undef, defers := [] } w := inv_start hw hl hok _
    have hwp := exec_sound hE hz hT hmix hC hL hS hgl (hAny S hL hgl) fuel c 0 _ _ _ w h hI
    refine calls_of_wp hfn hc (wp_mono hwp ?_)
    have done : ∀ (a : Act) (w' : World) (s : St E) (e : Ex), finM tt (ins.length - H.nx f) ins.length (H.keepB f 100000) fn.results.toList (H.rsh f) e s = some (r, outs) → Inv gl S s a w' →
        a.defers = [] ∧ ∃ v, (results fn a.tmps).run P w' = .ok v w' ∧ ∃ v0 M' μ', Ending.returned v = .returned v0 ∧ Tr ins.length M μ ins w M' μ' outs w' ∧ RetA (Taken μ ins outs) M' μ' outs w w' r v0 := fun a w' s e hf hI => inv_doneM (f := f) hE hT h16 hnb hdr hf hI
    rintro e a' w' hp
    cases e with
    | normal => obtain ⟨s, h1, h2⟩ := hp; exact done a' w' s _ h1 h2
    | ret => obtain ⟨s, h1, h2⟩ := hp; exact done a' w' s _ h1 h2
    | exit id => obtain ⟨s, h1, h2⟩ := hp; cases h1
    | goto l => exact hp.elim
    | panic c => exact hp.elim
    | outgrown => exact hp.elim

/-- What is known of the program's functions. -/
def FsOK (P : Program) (fs : FuncId → Option Func) : Prop := ∀ f fn, fs f = some fn → P.funcs[f]? = some fn ∧ fn.name ≠ "runtime.NumGoroutine"

theorem run_sound (hE : EnvOK E) (hz : ∀ (M : Mem) n, RC M (.nm n) (E.dfl n) (E.zc n)) (hT : TOK P E tt) (hmix : P.follows .mixedOrders = true) {fs : FuncId → Option Func} (hfs : FsOK P fs)
    (hAny : ∀ (call : CallF E), CallOK P gl call → ∀ f (S : Since E), S.L ≤ S.b.length → GlOK S.M gl → AnyOK P tt gl H call S f) : ∀ n, CallOK P gl (run tt gl H fs n)
  | 0 => fun f as ins r outs h => by cases h
  | n + 1 => fun f as ins r outs h => by
    simp only [run] at h
    split at h
    · rename_i fn hf
      obtain ⟨h1, h2⟩ := hfs f fn hf
      have ih := run_sound hE hz hT hmix hfs hAny n
      obtain ⟨⟨⟨c, hc⟩, h5⟩, h4⟩ := body_sound hE hz hT hmix ih h1 (hAny _ ih f) h
      exact ⟨⟨⟨fn, c, h1, h2, hc⟩, h5⟩, h4⟩
    · cases h

end Go.Proofs.YtbmpjppfdeohnaaDoor.Fv
