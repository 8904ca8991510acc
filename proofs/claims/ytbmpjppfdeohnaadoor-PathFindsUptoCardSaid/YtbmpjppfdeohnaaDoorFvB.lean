/- An evaluator of the model's code, part 2: Slices, conversions, structs: what the evaluator says of them, the model does. No condition. -/
import Derived.Test.YtbmpjppfdeohnaaDoorFvA
import Derived.Laws.BytesString
import Derived.Laws.Tables
import Derived.Laws.StructEq
import Derived.ChangeKeysEq
import Derived.Laws.AppendOwn
import Derived.Great.BuildSlice
set_option linter.unusedVariables false
set_option linter.unusedSectionVars false
set_option linter.unusedSimpArgs false
/-! Slices, conversions, structs: what the evaluator says of them, the model does. -/
namespace Go.Proofs.YtbmpjppfdeohnaaDoor.Fv
variable [Quiet]
variable {E : Env} {P : Program} {tt : Nat → Option TE} {M : Mem} {μ : Mu}

inductive NumO : Option Int → Option Value → Prop
  | none : NumO none none
  | some (k : IntKind) (n : Int) : NumO (some n) (some (.int k n))

theorem sliceAt_str {t : Nat} (hu : P.underlying t = some .string) (s : Value) (lo hi mx : Option Value) (w : World) : (Instr.sliceAt t s lo hi mx).run P w = (Instr.slice t s lo hi mx).run P w := by
  simp only [Instr.sliceAt, Sem.run_bind, run_underlying' hu, Result.andThen_ok]
theorem sliceAt_slice {t el : Nat} (hu : P.underlying t = some (.slice el)) (s : Value) (lo hi mx : Option Value) (w : World) : (Instr.sliceAt t s lo hi mx).run P w = (Instr.slice t s lo hi mx).run P w := by
  simp only [Instr.sliceAt, Sem.run_bind, run_underlying' hu, Result.andThen_ok]

theorem run_bound {k : IntKind} {n : Int} {y : Nat} (h0 : 0 ≤ n) (h1 : n ≤ y) (c : BoundsCode) (w : World) : (Instr.sliceBound (.int k n) y c).run P w = .ok n.toNat w := by
  have h2 : 0 ≤ n ∧ n ≤ (y : Int) := ⟨h0, h1⟩
  simp only [Instr.sliceBound, asIntOf, Sem.run_bind, Sem.run_pure, Result.andThen_ok, Sem.run_ite, if_pos h2]

/-- The bounds of a slice: low, high; and the capacity's bound. -/
theorem run_bounds {is : Bool} {len cap : Nat} {lo hi : Option Int} {vlo vhi : Option Value} (hlo : NumO lo vlo) (hhi : NumO hi vhi) {l h : Nat}
    (hl : (lo = none ∧ l = 0) ∨ (∃ n, lo = some n ∧ 0 ≤ n ∧ n.toNat = l)) (hh : (hi = none ∧ h = len) ∨ (∃ n, hi = some n ∧ 0 ≤ n ∧ n.toNat = h)) (h1 : l ≤ h) (h2 : h ≤ cap) (w : World) :
    (Instr.sliceBounds is len cap vlo vhi none).run P w = .ok (l, h, cap) w := by
  have A : ∀ {n : Int} {k : IntKind} {c}, 0 ≤ n → n.toNat = h → (Instr.sliceBound (.int k n) cap c).run P w = .ok h w := fun h0 hn => by rw [run_bound h0 (by omega), hn]
  have B : ∀ {n : Int} {k : IntKind} {c}, 0 ≤ n → n.toNat = l → (Instr.sliceBound (.int k n) h c).run P w = .ok l w := fun h0 hn => by rw [run_bound h0 (by omega), hn]
  rcases hl with ⟨rfl, rfl⟩ | ⟨n, rfl, hn0, hn⟩ <;> rcases hh with ⟨rfl, rfl⟩ | ⟨m, rfl, hm0, hm⟩ <;> cases hlo <;> cases hhi <;>
    simp [Instr.sliceBounds, A, B, *]
theorem run_bounds3 {is : Bool} {len cap : Nat} {lo : Option Int} {vlo : Option Value} (hlo : NumO lo vlo) {k k' : IntKind} {hn mn : Int} {l : Nat}
    (hl : (lo = none ∧ l = 0) ∨ (∃ n, lo = some n ∧ 0 ≤ n ∧ n.toNat = l)) (h0 : 0 ≤ hn) (hm : hn = mn) (h1 : l ≤ hn.toNat) (h2 : hn.toNat ≤ cap) (w : World) :
    (Instr.sliceBounds is len cap vlo (some (.int k hn)) (some (.int k' mn))).run P w = .ok (l, hn.toNat, hn.toNat) w := by
  subst hm
  have A : ∀ {k : IntKind} {c}, (Instr.sliceBound (.int k hn) cap c).run P w = .ok hn.toNat w := fun {k c} => by rw [run_bound h0 (by omega)]
  have A' : ∀ {k : IntKind} {c}, (Instr.sliceBound (.int k hn) hn.toNat c).run P w = .ok hn.toNat w := fun {k c} => by rw [run_bound h0 (by omega)]
  have B : ∀ {n : Int} {k : IntKind} {c}, 0 ≤ n → n.toNat = l → (Instr.sliceBound (.int k n) hn.toNat c).run P w = .ok l w := fun h0 hn => by rw [run_bound h0 (by omega), hn]
  rcases hl with ⟨rfl, rfl⟩ | ⟨n, rfl, hn0, hn'⟩ <;> cases hlo <;> simp [Instr.sliceBounds, A, A', B, *]

theorem run_slice_str {t : Nat} (hu : P.underlying t = some .string) (s : ByteArray) {lo hi : Option Int} {vlo vhi : Option Value} (hlo : NumO lo vlo) (hhi : NumO hi vhi) {l h : Nat}
    (hl : (lo = none ∧ l = 0) ∨ (∃ n, lo = some n ∧ 0 ≤ n ∧ n.toNat = l)) (hh : (hi = none ∧ h = s.size) ∨ (∃ n, hi = some n ∧ 0 ≤ n ∧ n.toNat = h)) (h1 : l ≤ h) (h2 : h ≤ s.size) (w : World) :
    (Instr.sliceAt t (.string s) vlo vhi none).run P w = .ok (.string (s.extract l h)) w := by
  rw [sliceAt_str hu]
  simp [Instr.slice, run_underlying' hu, run_bounds hlo hhi hl hh h1 h2]

theorem run_slice_sl {t el : Nat} {i : TypeInfo} (hu : P.underlying t = some (.slice el)) (hi' : P.info? el = some i) (a : Option Addr) (len cap : Nat) {lo hi : Option Int} {vlo vhi : Option Value} (hlo : NumO lo vlo) (hhi : NumO hi vhi) {l h : Nat}
    (hl : (lo = none ∧ l = 0) ∨ (∃ n, lo = some n ∧ 0 ≤ n ∧ n.toNat = l)) (hh : (hi = none ∧ h = len) ∨ (∃ n, hi = some n ∧ 0 ≤ n ∧ n.toNat = h)) (h1 : l ≤ h) (h2 : h ≤ cap) (w : World) :
    (Instr.sliceAt t (.slice a len cap) vlo vhi none).run P w = .ok (.slice (if cap = l then a else a.map (·.add (l * i.size))) (h - l) (cap - l)) w := by
  rw [sliceAt_slice hu]
  simp [Instr.slice, run_underlying' hu, run_bounds hlo hhi hl hh h1 h2, run_sizeOf hi']
theorem run_slice_arr {t el n : Nat} {i : TypeInfo} (hu : P.underlying t = some (.array n el)) (hi' : P.info? el = some i) (g : Nat) {lo hi : Option Int} {vlo vhi : Option Value} (hlo : NumO lo vlo) (hhi : NumO hi vhi) {l h : Nat}
    (hl : (lo = none ∧ l = 0) ∨ (∃ n, lo = some n ∧ 0 ≤ n ∧ n.toNat = l)) (hh : (hi = none ∧ h = n) ∨ (∃ n, hi = some n ∧ 0 ≤ n ∧ n.toNat = h)) (h1 : l ≤ h) (h2 : h ≤ n) (w : World) :
    (Instr.sliceAt t (.pointer (some ⟨g, 0, none⟩)) vlo vhi none).run P w = .ok (.slice (some (if n = l then ⟨g, 0, none⟩ else ⟨g, 0 + l * i.size, none⟩)) (h - l) (n - l)) w := by
  simp only [Instr.sliceAt, Sem.run_bind, run_underlying' hu, Result.andThen_ok, Instr.sureAddr, run_bounds hlo hhi hl hh h1 h2, run_sizeOf hi', Sem.run_pure, addr_add]
theorem run_slice_sl3 {t el : Nat} {i : TypeInfo} (hu : P.underlying t = some (.slice el)) (hi' : P.info? el = some i) (a : Option Addr) (len cap : Nat) {lo : Option Int} {vlo : Option Value} (hlo : NumO lo vlo) {k k' : IntKind} {hn mn : Int} {l : Nat}
    (hl : (lo = none ∧ l = 0) ∨ (∃ n, lo = some n ∧ 0 ≤ n ∧ n.toNat = l)) (h0 : 0 ≤ hn) (hm : hn = mn) (h1 : l ≤ hn.toNat) (h2 : hn.toNat ≤ cap) (w : World) :
    (Instr.sliceAt t (.slice a len cap) vlo (some (.int k hn)) (some (.int k' mn))).run P w = .ok (.slice (if hn.toNat = l then a else a.map (·.add (l * i.size))) (hn.toNat - l) (hn.toNat - l)) w := by
  rw [sliceAt_slice hu]
  simp [Instr.slice, run_underlying' hu, run_bounds3 hlo hl h0 hm h1 h2, run_sizeOf hi']

theorem extract_list (s : ByteArray) (l h : Nat) (hh : h ≤ s.size) : (s.extract l h).data.toList = (s.data.toList.take h).drop l := by
  simp [ByteArray.data_extract, List.extract_eq_take_drop, List.drop_take]

theorem slc_sound (hE : EnvOK E) (hT : TOK P E tt) {t : Nat} {x a : AV E} {v : Value} {lo hi mx : Option Int} {vlo vhi vmx : Option Value} (h : slc tt t x lo hi mx = some (true, a)) (hv : RS M μ x v) (hlo : NumO lo vlo) (hhi : NumO hi vhi) (hmx : NumO mx vmx) :
    PureOK P M μ a (Instr.sliceAt t v vlo vhi vmx) := by
  intro w hw
  unfold slc at h
  split at h
  · rename_i s
    obtain ⟨bs, rfl, rfl⟩ := hv.str_inv
    split at h
    · rename_i htd
      have hu := hT.str htd
      cases hmx
      have hsz : bs.data.toList.length = bs.size := by simp
      split at h
      · cases h
        exact ⟨_, run_slice_str hu bs hlo hhi (.inl ⟨rfl, rfl⟩) (.inl ⟨rfl, rfl⟩) (Nat.zero_le _) (Nat.le_refl _) w, RS.str' (by rw [extract_list _ _ _ (Nat.le_refl _), List.take_of_length_le (by simp)]; rfl)⟩
      · rename_i l
        simp only [rc, Option.some.injEq, Prod.mk.injEq, Bool.and_eq_true, decide_eq_true_eq] at h
        obtain ⟨⟨h0, h1⟩, rfl⟩ := h
        rw [hsz] at h1
        exact ⟨_, run_slice_str hu bs hlo hhi (.inr ⟨l, rfl, h0, rfl⟩) (.inl ⟨rfl, rfl⟩) (by omega) (Nat.le_refl _) w, RS.str' (by rw [extract_list _ _ _ (Nat.le_refl _), List.take_of_length_le (by simp)])⟩
      · rename_i r
        simp only [rc, Option.some.injEq, Prod.mk.injEq, Bool.and_eq_true, decide_eq_true_eq] at h
        obtain ⟨⟨h0, h1⟩, rfl⟩ := h
        rw [hsz] at h1
        exact ⟨_, run_slice_str hu bs hlo hhi (.inl ⟨rfl, rfl⟩) (.inr ⟨r, rfl, h0, rfl⟩) (by omega) (by omega) w, RS.str' (by rw [extract_list _ _ _ (by omega)]; simp)⟩
      · rename_i l r
        simp only [rc, Option.some.injEq, Prod.mk.injEq, Bool.and_eq_true, decide_eq_true_eq] at h
        obtain ⟨⟨⟨h0, h1⟩, h2⟩, rfl⟩ := h
        rw [hsz] at h2
        exact ⟨_, run_slice_str hu bs hlo hhi (.inr ⟨l, rfl, h0, rfl⟩) (.inr ⟨r, rfl, by omega, rfl⟩) (by omega) (by omega) w, RS.str' (by rw [extract_list _ _ _ (by omega)])⟩
    · cases h
  · rename_i e
    split at h
    · rename_i el r htd
      have hx0 := bif_true h; clear h; obtain ⟨hd, h⟩ := hx0
      have hd : tyOf tt t = .sl e := by simpa using hd
      obtain ⟨y, hy, hu, rfl, hfull, _⟩ := hT.slice htd hd
      obtain ⟨j, hj, hs⟩ := hT.size hy
      cases hmx
      simp only [rc, Option.some.injEq, Prod.mk.injEq, decide_eq_true_eq] at h
      obtain ⟨rfl, rfl⟩ := h
      cases hv with
      | v hv =>
        cases hv with
        | snil =>
          refine ⟨_, run_slice_sl hu hj none 0 0 hlo hhi (.inl ⟨rfl, rfl⟩) (.inr ⟨0, rfl, Int.le_refl _, rfl⟩) (Nat.le_refl _) (Nat.le_refl _) w, ?_⟩
          exact RS.v (RV.snil y.ty)
    · rename_i el m r htd
      have hx0 := bif_true h; clear h; obtain ⟨hd, h⟩ := hx0
      have hd : tyOf tt t = .sl e := by simpa using hd
      obtain ⟨y, hy, hu, rfl, hfull, _⟩ := hT.slice htd hd
      obtain ⟨j, hj, hs⟩ := hT.size hy
      simp only [rc, Option.some.injEq, Prod.mk.injEq, Bool.and_eq_true, decide_eq_true_eq] at h
      obtain ⟨⟨rfl, hm⟩, rfl⟩ := h
      cases hhi
      cases hmx
      cases hv with
      | v hv =>
        cases hv with
        | snil =>
          refine ⟨_, run_slice_sl3 hu hj none 0 0 hlo (.inl ⟨rfl, rfl⟩) (Int.le_refl _) hm (Nat.zero_le _) (Nat.le_refl _) w, ?_⟩
          exact RS.v (RV.snil y.ty)
    · cases h
  · rename_i id e n
    split at h
    · rename_i el r htd
      have hx0 := bif_true h; clear h; obtain ⟨hd, h⟩ := hx0
      have hd : tyOf tt t = .sl e := by simpa using hd
      obtain ⟨y, hy, hu, rfl, hfull, _⟩ := hT.slice htd hd
      obtain ⟨j, hj, hs⟩ := hT.size hy
      cases hmx
      simp only [rc, Option.some.injEq, Prod.mk.injEq, decide_eq_true_eq] at h
      obtain ⟨rfl, rfl⟩ := h
      cases hv with
      | v hv =>
        cases hv with
        | rsv _ _ _ hc hbn =>
          refine ⟨_, run_slice_sl hu hj _ n _ hlo hhi (.inl ⟨rfl, rfl⟩) (.inr ⟨0, rfl, Int.le_refl _, rfl⟩) (Nat.le_refl _) (Nat.zero_le _) w, ?_⟩
          have e1 : (if ((μ id).ver 0).2 = 0 then ((μ id).ver 0).1 else ((μ id).ver 0).1.map (·.add (0 * j.size))) = ((μ id).ver 0).1 := by
            split
            · rfl
            · cases ((μ id).ver 0).1 <;> simp [Addr.add]
          rw [e1, Nat.sub_zero, Nat.sub_zero]
          exact RS.v (RV.sl (E := E) (M := M) (μ := μ) id y.ty [] (.sl [] _ _ (fun _ => []) (Nat.zero_le _) (fun i hi => by simp at hi) (fun i hi => by simp at hi) (fun h => absurd h hbn)))
    · cases h
  · rename_i id e off len
    split at h
    · rename_i el htd
      have hx0 := bif_true h; clear h; obtain ⟨hd, h⟩ := hx0
      have hd : tyOf tt t = .sl e := by simpa using hd
      obtain ⟨y, hy, hu, rfl, hfull, _⟩ := hT.slice htd hd
      obtain ⟨j, hj, hs⟩ := hT.size hy
      cases hmx
      cases hv with
      | v hv =>
        cases hv with
        | fs _ _ _ _ cap base hb hc =>
          have fin : ∀ (l r : Nat), l ≤ r → r ≤ len → RS (E := E) M μ (.fs id y.ty (off + l) (r - l)) (.slice (if cap = l then base else base.map (·.add (l * j.size))) (r - l) (cap - l)) := by
            intro l r h1 h2
            refine RS.v (RV.fs id y.ty (off + l) (r - l) (cap - l) _ ?_ (by omega))
            by_cases hcl : cap = l
            · refine .inr ⟨by omega, ?_⟩
              rcases hb with ⟨_, hb2⟩ | ⟨_, hb2⟩ <;> omega
            · rw [if_neg hcl]
              rcases hb with ⟨rfl, hb2⟩ | ⟨hb, _⟩
              · exact .inl ⟨by simp [addr_add, Nat.add_mul, hs], by omega⟩
              · omega
          split at h
          · cases h
            exact ⟨_, run_slice_sl hu hj base len cap hlo hhi (.inl ⟨rfl, rfl⟩) (.inl ⟨rfl, rfl⟩) (Nat.zero_le _) hc w, by simpa using fin 0 len (by omega) (by omega)⟩
          · rename_i l
            simp only [rc, Option.some.injEq, Prod.mk.injEq, Bool.and_eq_true, decide_eq_true_eq] at h
            obtain ⟨⟨h0, h1⟩, rfl⟩ := h
            exact ⟨_, run_slice_sl hu hj base len cap hlo hhi (.inr ⟨l, rfl, h0, rfl⟩) (.inl ⟨rfl, rfl⟩) (by omega) hc w, fin _ _ (by omega) (by omega)⟩
          · cases h
    · cases h
  · split at h
    · rename_i el e xs htd hl
      have hx0 := bif_true h; clear h; obtain ⟨hd, h⟩ := hx0
      have hd : tyOf tt t = .sl e := by simpa using hd
      obtain ⟨y, hy, hu, rfl, hfull, _⟩ := hT.slice htd hd
      obtain ⟨j, hj, hs⟩ := hT.size hy
      obtain ⟨base, cap, rfl, hr⟩ := hv.lst_inv hl
      have hcap : xs.length ≤ cap := by cases hr; assumption
      have hnil : base = none → cap = 0 := by cases hr; assumption
      have fin : ∀ (l r : Nat), l ≤ r → r ≤ xs.length → RS (E := E) M μ (.t (.sl y.ty) ((xs.take r).drop l)) (.slice (if cap = l then base else base.map (·.add (l * j.size))) (r - l) (cap - l)) := by
        intro l r h1 h2
        refine RS.slice (hr.sub l r (cap - l) h1 h2 (by omega) _ ?_ ?_)
        · by_cases hcl : cap = l
          · exact .inl (by omega)
          · rw [if_neg hcl, hs]; exact .inr rfl
        · intro hn
          have : base = none := by
            split at hn
            · exact hn
            · simpa using hn
          rw [hnil this]; exact Nat.zero_sub _
      have fin3 : ∀ (l r : Nat), l ≤ r → r ≤ xs.length → RS (E := E) M μ (.exact y.ty ((xs.take r).drop l)) (.slice (if r = l then base else base.map (·.add (l * j.size))) (r - l) (r - l)) := by
        intro l r h1 h2
        refine RS.exact (hr.sub l r (r - l) h1 h2 (by omega) _ ?_ ?_)
        · by_cases hcl : r = l
          · exact .inl hcl
          · rw [if_neg hcl, hs]; exact .inr rfl
        · intro hn
          have : base = none := by
            split at hn
            · exact hn
            · simpa using hn
          have := hnil this
          omega
      split at h
      · cases hmx
        split at h
        · cases h
          exact ⟨_, run_slice_sl hu hj base xs.length cap hlo hhi (.inl ⟨rfl, rfl⟩) (.inl ⟨rfl, rfl⟩) (Nat.zero_le _) hcap w, by simpa using fin 0 xs.length (by omega) (by omega)⟩
        · rename_i l
          simp only [rc, Option.some.injEq, Prod.mk.injEq, Bool.and_eq_true, decide_eq_true_eq] at h
          obtain ⟨⟨h0, h1⟩, rfl⟩ := h
          exact ⟨_, run_slice_sl hu hj base xs.length cap hlo hhi (.inr ⟨l, rfl, h0, rfl⟩) (.inl ⟨rfl, rfl⟩) (by omega) hcap w, by simpa using fin l.toNat xs.length (by omega) (by omega)⟩
        · rename_i r
          simp only [rc, Option.some.injEq, Prod.mk.injEq, Bool.and_eq_true, decide_eq_true_eq] at h
          obtain ⟨⟨h0, h1⟩, rfl⟩ := h
          exact ⟨_, run_slice_sl hu hj base xs.length cap hlo hhi (.inl ⟨rfl, rfl⟩) (.inr ⟨r, rfl, h0, rfl⟩) (by omega) (by omega) w, by simpa using fin 0 r.toNat (by omega) (by omega)⟩
        · rename_i l r
          simp only [rc, Option.some.injEq, Prod.mk.injEq, Bool.and_eq_true, decide_eq_true_eq] at h
          obtain ⟨⟨⟨h0, h1⟩, h2⟩, rfl⟩ := h
          exact ⟨_, run_slice_sl hu hj base xs.length cap hlo hhi (.inr ⟨l, rfl, h0, rfl⟩) (.inr ⟨r, rfl, by omega, rfl⟩) (by omega) (by omega) w, fin _ _ (by omega) (by omega)⟩
      · split at h
        · rename_i m r
          simp only [rc, Option.some.injEq, Prod.mk.injEq, Bool.and_eq_true, decide_eq_true_eq] at h
          obtain ⟨⟨⟨h0, h1⟩, h2⟩, rfl⟩ := h
          cases hhi
          cases hmx
          exact ⟨_, run_slice_sl3 hu hj base xs.length cap hlo (.inl ⟨rfl, rfl⟩) h0 h2 (Nat.zero_le _) (by omega) w, by simpa using fin3 0 r.toNat (by omega) (by omega)⟩
        · rename_i m l r
          simp only [rc, Option.some.injEq, Prod.mk.injEq, Bool.and_eq_true, decide_eq_true_eq] at h
          obtain ⟨⟨⟨⟨h0, h1⟩, h2⟩, h3⟩, rfl⟩ := h
          cases hhi
          cases hmx
          exact ⟨_, run_slice_sl3 hu hj base xs.length cap hlo (.inr ⟨l, rfl, h0, rfl⟩) (by omega) h3 (by omega) (by omega) w, fin3 _ _ (by omega) (by omega)⟩
        · cases h
    · cases h

theorem TOK.int {t : Nat} {k : IntKind} (hT : TOK P E tt) (h : tdOf tt t = .int k) : P.underlying t = some (.int k) := by
  obtain ⟨x, hx, hd, hty, hF⟩ := hT.get (by rw [h]; simp)
  obtain ⟨u, hu, _, hD⟩ := hF.und
  rw [h] at hd
  rw [← hd] at hD
  obtain ⟨rfl, _⟩ := hD
  exact hu

theorem RC.int_inv {M : Mem} {k : IntKind} {n : Int} {cs : List Value} (h : RC (E := E) M (.int k) n cs) : cs = [.int k n] := by
  cases h; rfl

/-- Go's conversion of bytes to a string. -/
theorem bytes_of {M : Mem} {xs : List Int} {base : Option Addr} {n cap : Nat} (h : RC (E := E) M (.sl (.int .u8)) xs [.slice base n cap]) :
    n = xs.length ∧ (0 < xs.length → ∃ b o, base = some ⟨b, o, none⟩ ∧ CellsAt M b o (xs.map fun x => .int .u8 x)) := by
  cases h with
  | sl _ base cap css hcap h hat _ =>
    refine ⟨rfl, fun h0 => ?_⟩
    obtain ⟨⟨b, o, s⟩, h1, h2, _⟩ := hat 0 h0
    simp only at h2
    subst h2 h1
    refine ⟨b, o, rfl, ?_⟩
    intro j hj
    have hj' : j < xs.length := by simpa using hj
    obtain ⟨a, h3, h4, h5⟩ := hat j hj'
    cases h3
    have h6 := h j hj'
    have e1 : css j = [.int .u8 xs[j]] := h6.int_inv
    rw [e1] at h5
    have := h5 0 (by simp)
    simp only [Fv.size, Nat.mul_one, Nat.add_zero, List.getElem_cons_zero] at this
    simpa using this

theorem TOK.slice' {t el : Nat} (hT : TOK P E tt) (h : tdOf tt t = .slice el) : P.underlying t = some (.slice el) := by
  obtain ⟨x, hx, hd, hty, hF⟩ := hT.get (by rw [h]; simp)
  obtain ⟨u, hu, _, hD⟩ := hF.und
  rw [h] at hd
  rw [← hd] at hD
  obtain ⟨rfl, _⟩ := hD
  exact hu
theorem push_list (ns : List Int) : ∀ (s : ByteArray), (ns.foldl (fun r n => r.push (UInt8.ofNat n.toNat)) s).data.toList = s.data.toList ++ byts ns := by
  induction ns with
  | nil => intro s; simp [byts]
  | cons n ns ih => intro s; simp only [List.foldl_cons, ih]; simp [byts]

theorem bytesStr {xs : List Int} {base : Option Addr} {cap : Nat} (hr : RC (E := E) M (.sl (.int .u8)) xs [.slice base xs.length cap]) {w : World} (hw : Holds M w) :
    ∃ v, (Conv.bytesToString (.slice base xs.length cap)).run P w = .ok v w ∧ RS (E := E) M μ (.t .str (byts xs)) v := by
  obtain ⟨_, hb⟩ := bytes_of hr
  cases base with
  | none =>
    have h0 : xs = [] := by
      cases hx : xs with
      | nil => rfl
      | cons y ys => obtain ⟨b, o, h4, _⟩ := hb (by simp [hx]); cases h4
    subst h0
    exact ⟨.string .empty, rfl, RS.str' rfl⟩
  | some ad =>
    refine ⟨.string (xs.foldl (fun r n => r.push (UInt8.ofNat n.toNat)) ByteArray.empty), ?_, RS.str' (by rw [push_list]; rfl)⟩
    refine run_bytesToString w ad _ cap xs ?_
    by_cases h0 : 0 < xs.length
    · obtain ⟨b, o, h4, h5⟩ := hb h0
      cases h4
      have := run_loadCells (P := P) (h5.inMem hw)
      rw [List.length_map] at this
      exact this
    · have h0 : xs = [] := List.length_eq_zero_iff.1 (by omega)
      subst h0
      rfl

theorem conv_sound (hE : EnvOK E) (hT : TOK P E tt) {src dst : Nat} {x a : AV E} {v : Value} (h : conv tt src dst x = some (true, a)) (hv : RS M μ x v) :
    PureOK P M μ a (convert src dst v) := by
  intro w hw
  unfold conv at h
  split at h
  · rename_i h1 h2
    obtain ⟨bs, rfl, rfl⟩ := hv.str_inv
    cases h
    exact ⟨_, by simp [convert, run_underlying' (hT.str h1), run_underlying' (hT.str h2)], RS.str _⟩
  · rename_i h1 h2
    rw [hv.int_inv]
    cases h
    exact ⟨_, by simp [convert, run_underlying' (hT.int h1), run_underlying' (hT.int h2), Conv.intToInt], RS.int _ _⟩
  · rename_i k0 k1 n0 h1 h2
    rw [hv.int_inv]
    obtain ⟨n, hn0⟩ : ∃ n : Int, n = n0 := ⟨n0, rfl⟩
    rw [← hn0] at h ⊢
    clear hn0
    obtain ⟨hc, rfl⟩ : (decide (0 ≤ n) && decide (n < 128)) = true ∧ a = .t .str [UInt8.ofNat n.toNat] := by
      injection h with h
      injection h with h3 h4
      exact ⟨h3, h4.symm⟩
    simp only [Bool.and_eq_true, decide_eq_true_eq] at hc
    have hn : n.toNat < 128 := by omega
    have hvl : Utf8.valid n = true := by simp [Utf8.valid]; omega
    have he : Utf8.encode n = ⟨#[UInt8.ofNat n.toNat]⟩ := by
      unfold Utf8.encode
      simp only [hvl, if_true]
      rw [if_pos hn]
    refine ⟨.string (Utf8.encode n), by simp [convert, run_underlying' (hT.int h1), run_underlying' (hT.str h2), Conv.intToString], ?_⟩
    rw [he]
    exact RS.str' rfl
  · rename_i el h1 h2
    split at h
    · rename_i xs h3 hl
      cases h
      obtain ⟨base, cap, rfl, hr⟩ := hv.lst_inv hl
      have hs := hT.slice' h1
      have he := hT.int h3
      have hd := hT.str h2
      obtain ⟨v, h5, h6⟩ := bytesStr (P := P) (μ := μ) hr hw
      refine ⟨v, Eq.trans ?_ h5, h6⟩
      simp [convert, run_underlying' hs, run_underlying' hd, run_underlying' he]
      rfl
    · cases h
  · cases h

/-! ### Structs and arrays out of their parts -/
theorem RV.aggZ (l : List (AV E)) (h : ∀ a ∈ l, RV M μ a (zA a)) : RV M μ (.agg l) (zAs l) := by
  have e : zAs l = (l.map zA).flatten := by
    induction l with
    | nil => rfl
    | cons a l ih => simp only [zAs, List.map_cons, List.flatten_cons, ih fun a ha => h a (List.mem_cons_of_mem _ ha)]
  rw [e]
  refine .agg l _ (by simp) ?_
  intro i hi
  have : (l.map zA).getD i [] = zA l[i] := by
    rw [List.getD_of_lt _ _ _ (by simpa using hi)]
    simp
  rw [this]
  exact h _ (List.getElem_mem _)
theorem fits_mem : ∀ (ly : Ty) (l : List (AV E)), fits ly l = true → ∀ a ∈ l, ∃ ly', fit ly' a = true := by
  intro ly
  induction ly with
  | one a _ => intro l h; match l with
    | [c] => intro x hx; simp only [List.mem_singleton] at hx; subst hx; exact ⟨a, h⟩
    | [] => intro x hx; simp at hx
    | _ :: _ :: _ => simp [fits] at h
  | pair a b _ ihb => intro l h; match l with
    | [] => intro x hx; simp at hx
    | c :: l =>
      simp only [fits, Bool.and_eq_true] at h
      intro x hx
      rcases List.mem_cons.1 hx with rfl | hx
      · exact ⟨a, h.1⟩
      · exact ihb l h.2 x hx
  | _ => intro l h; match l with
    | [] => intro x hx; simp at hx
    | _ :: _ => simp [fits] at h

theorem zeroX_sound {Q : AV E → Prop} (hu : ¬ Q .undef) (ha : ∀ l, Q (.agg l) → ∀ a ∈ l, Q a) (hz : ∀ n, RC M (.nm n) (E.dfl n) (E.zc n)) {z : Nat → AV E} (ih : ∀ (t : Nat), Q (z t) → RV M μ (z t) (zA (z t))) (x : TE)
    (h : Q (zeroX z x)) : RV M μ (zeroX z x) (zA (zeroX z x)) := by
  unfold zeroX at h ⊢
  cases hf : x.ty.full with
  | true => exact .t (RC.zero M hz _ hf)
  | false =>
    rw [hf] at h
    simp only [cond_false] at h ⊢
    cases hd : x.d with
    | struct fs =>
      simp only [hd] at h ⊢
      refine RV.aggZ _ ?_
      intro a hm
      have hq := ha _ h a hm
      obtain ⟨f, hf', rfl⟩ := List.mem_map.1 hm
      exact ih _ hq
    | ptr e => exact .nilp
    | func => exact .nilfn
    | iface => exact .niliface
    | map k v => exact .nilmap
    | _ => simp only [hd] at h; exact absurd h hu
theorem zeroQ_sound {Q : AV E → Prop} (hu : ¬ Q .undef) (ha : ∀ l, Q (.agg l) → ∀ a ∈ l, Q a) (hz : ∀ n, RC M (.nm n) (E.dfl n) (E.zc n)) : ∀ (n t : Nat), Q (zeroA (E := E) tt n t) → RV M μ (zeroA (E := E) tt n t) (zA (zeroA (E := E) tt n t)) := by
  intro n
  induction n with
  | zero => intro t h; exact absurd h hu
  | succ n ih =>
    intro t h
    cases hx : tt t with
    | none =>
      have e : zeroA (E := E) tt (n + 1) t = .undef := by simp [zeroA, hx]
      rw [e] at h
      exact absurd h hu
    | some x =>
      have e : zeroA (E := E) tt (n + 1) t = zeroX (zeroA tt n) x := by simp [zeroA, hx]
      rw [e] at h ⊢
      exact zeroX_sound hu ha hz (fun t h => ih t h) x h
theorem zeroA_sound (hz : ∀ n, RC M (.nm n) (E.dfl n) (E.zc n)) (n t : Nat) (ly : Ty) (h : fit ly (zeroA (E := E) tt n t) = true) : RV M μ (zeroA (E := E) tt n t) (zA (zeroA (E := E) tt n t)) := by
  refine zeroQ_sound (Q := fun a => ∃ ly, fit ly a = true) (by rintro ⟨ly, h⟩; cases ly <;> simp [fit] at h) ?_ hz n t ⟨ly, h⟩
  rintro l ⟨ly, h⟩ a hm
  have : ∃ ly', fits ly' l = true := by
    cases ly with
    | nm m => exact ⟨_, h⟩
    | _ => exact ⟨_, h⟩
  obtain ⟨ly', h'⟩ := this
  exact fits_mem _ _ h' _ hm

/-! ### Filling cells -/
theorem fill_one (pre post : List Value) : ∀ (vs dn old : List Value), old.length = vs.length →
    (vs.zipIdx dn.length).foldl (fun cs (p : Value × Nat) => cs.setIfInBounds (pre.length + p.2) p.1) (pre ++ dn ++ old ++ post).toArray = (pre ++ dn ++ vs ++ post).toArray := by
  intro vs
  induction vs with
  | nil =>
    intro dn old h
    have h0 : old = [] := by simpa using h
    rw [h0]
    rfl
  | cons v vs ih =>
    intro dn old h
    match old, h with
    | o :: old, h =>
      have e2 : (pre ++ dn ++ (o :: old) ++ post).toArray.setIfInBounds (pre.length + dn.length) v = (pre ++ (dn ++ [v]) ++ old ++ post).toArray := by
        simp only [List.setIfInBounds_toArray]
        congr 1
        have : pre ++ dn ++ (o :: old) ++ post = (pre ++ dn) ++ (o :: (old ++ post)) := by simp
        rw [this, List.set_append_right _ _ (by simp)]
        simp
      simp only [List.zipIdx_cons, List.foldl_cons]
      rw [e2]
      have := ih (dn ++ [v]) old (by simpa using h)
      rw [List.length_append, List.length_singleton] at this
      rw [this]
      simp

theorem flatten_at : ∀ (css : List (List Value)) (i : Nat) (d : List Value), i < css.length → ∃ post, css.flatten = (css.take i).flatten ++ css.getD i [] ++ post ∧ (css.set i d).flatten = (css.take i).flatten ++ d ++ post
  | [], i, d, h => by simp at h
  | c :: l, 0, d, _ => ⟨l.flatten, by simp, by simp⟩
  | c :: l, i + 1, d, h => by
    obtain ⟨post, h1, h2⟩ := flatten_at l i d (by simpa using h)
    exact ⟨post, by simp only [List.flatten_cons, List.take_succ_cons, List.getD_cons_succ, h1]; simp, by simp only [List.set_cons_succ, List.flatten_cons, List.take_succ_cons, h2]; simp⟩

theorem fill_sound (place : Nat → Option (Nat × Nat)) : ∀ (ps : List (Nat × Value)) (css : List (List Value)), (∀ i, i < css.length → place i = some ((css.take i).flatten.length, (css.getD i []).length)) →
    (∀ p ∈ ps, p.1 < css.length ∧ p.2.cells.toList.length = (css.getD p.1 []).length) →
    Instr.fill place css.flatten.toArray ps = some ((ps.foldl (fun c p => c.set p.1 p.2.cells.toList) css).flatten.toArray) := by
  intro ps
  induction ps with
  | nil => intro css _ _; rfl
  | cons p ps ih =>
    intro css hp hk
    obtain ⟨i, v⟩ := p
    obtain ⟨h1, h2⟩ := hk (i, v) (by simp)
    simp only at h1 h2
    obtain ⟨post, h3, h4⟩ := flatten_at css i v.cells.toList h1
    have hlen : ∀ j, ((css.set i v.cells.toList).getD j []).length = (css.getD j []).length := by
      intro j
      simp only [List.getD_eq_getElem?_getD]
      by_cases hij : i = j
      · subst hij
        rw [List.getElem?_set_self h1]
        simpa using h2
      · rw [List.getElem?_set_ne hij]
    have htake : ∀ j, ((css.set i v.cells.toList).take j).flatten.length = (css.take j).flatten.length := by
      intro j
      induction j with
      | zero => simp
      | succ j ihj =>
        rcases Nat.lt_or_ge j css.length with hj | hj
        · rw [List.take_add_one, List.take_add_one]
          simp only [List.flatten_append, List.length_append, ihj]
          have := hlen j
          simp only [List.getD_eq_getElem?_getD] at this
          congr 1
          cases e1 : (css.set i v.cells.toList)[j]? <;> cases e2 : css[j]? <;> simp_all
        · rw [List.take_of_length_le (by simp; omega), List.take_of_length_le (by omega)]
          rw [List.take_of_length_le (by simp; omega), List.take_of_length_le (by omega)] at ihj
          exact ihj
    have hstep : v.cells.zipIdx.foldl (fun cs (q : Value × Nat) => cs.setIfInBounds ((css.take i).flatten.length + q.2) q.1) css.flatten.toArray = (css.set i v.cells.toList).flatten.toArray := by
      have := fill_one (css.take i).flatten post v.cells.toList [] (css.getD i []) h2.symm
      simp only [List.append_nil, List.length_nil] at this
      rw [h3, h4, ← Array.foldl_toList, Array.toList_zipIdx]
      exact this
    simp only [Instr.fill, hp i h1]
    have hsz : ¬ (v.cells.size ≠ (css.getD i []).length ∨ (css.take i).flatten.length + v.cells.size > css.flatten.toArray.size) := by
      have : v.cells.size = (css.getD i []).length := by simpa using h2
      rw [h3]
      simp [this]
    rw [if_neg (by simpa using hsz)]
    simp only [List.foldl_cons]
    rw [← ih (css.set i v.cells.toList) ?_ ?_]
    · exact congrArg (fun z => Instr.fill place z ps) hstep
    · intro j hj
      rw [hlen, htake]
      exact hp j (by simpa using hj)
    · intro q hq
      rw [hlen]
      simpa using hk q (by simp [hq])
end Go.Proofs.YtbmpjppfdeohnaaDoor.Fv

/-! Structs out of their parts. -/
namespace Go.Proofs.YtbmpjppfdeohnaaDoor.Fv
variable [Quiet]
variable {E : Env} {P : Program} {tt : Nat → Option TE} {M : Mem} {μ : Mu}

theorem RV.one_cell {a : AV E} {cs : List Value} (h : RV M μ a cs) (ha : a.isAgg = false) : ∃ v, cs = [v] ∧ v.cells.toList = [v] := by
  cases h with
  | t h =>
    rename_i ty x
    cases h <;> first | (simp [AV.isAgg, Ty.agg] at ha; done) | exact ⟨_, rfl, rfl⟩
  | agg => simp [AV.isAgg] at ha
  | _ => exact ⟨_, rfl, rfl⟩
theorem RV.cells {a : AV E} {cs : List Value} (h : RV M μ a cs) : (mkV a.isAgg cs).cells.toList = cs := by
  cases ha : a.isAgg with
  | true => simp [mkV, Value.cells]
  | false =>
    obtain ⟨v, rfl, hv⟩ := h.one_cell ha
    simpa [mkV] using hv
/-- Not without a value. -/
def real : AV E → Bool
  | .undef | .c _ | .tup _ => false
  | _ => true
theorem RS.real {a : AV E} {v : Value} (h : RS M μ a v) (hr : real a = true) : ∃ cs, RV M μ a cs ∧ v = mkV a.isAgg cs ∧ v.cells.toList = cs := by
  cases h with
  | undef => simp [Fv.real] at hr
  | c => simp [Fv.real] at hr
  | tup => simp [Fv.real] at hr
  | v h => exact ⟨_, h, rfl, h.cells⟩
theorem fit_real {ly : Ty} {a : AV E} (h : fit ly a = true) : real a = true := by cases a <;> cases ly <;> simp_all [fit, Fv.real]
theorem toT_real {ty : Ty} {a : AV E} {u : E.D ty} (h : toT a ty = some u) : real a = true := by
  cases a <;> first | rfl | (cases ty <;> cases h)

theorem toTs_comps : ∀ (ty : Ty) (l : List (AV E)) (v : E.D ty), toTs l ty = some v → l.length = arity ty ∧ ∀ i (hi : i < l.length), ∃ u, toT l[i] (fldTyS ty i) = some u := by
  intro ty
  induction ty with
  | one a _ =>
    intro l v h
    match l with
    | [] => cases h
    | [c] => exact ⟨rfl, fun i hi => match i, hi with | 0, _ => ⟨v, h⟩⟩
    | _ :: _ :: _ => cases h
  | pair a b _ ihb =>
    intro l v h
    match l with
    | [] => cases h
    | c :: cs =>
      have h : ((toT c a).bind fun x => (toTs cs b).map fun y => (x, y)) = some v := h
      obtain ⟨x, hx, h⟩ := Option.bind_eq_some_iff.1 h
      obtain ⟨y, hy, rfl⟩ := Option.map_eq_some_iff.1 h
      obtain ⟨h1, h2⟩ := ihb cs y hy
      refine ⟨by simp [arity, h1], fun i hi => ?_⟩
      match i, hi with
      | 0, _ => exact ⟨x, hx⟩
      | i + 1, hi => exact h2 i (by simpa using hi)
  | _ => intro l v h; cases l <;> cases h
theorem agg_comps : ∀ (ty : Ty) (l : List (AV E)) (v : E.D ty), toT (.agg l) ty = some v → l.length = arity (bodyOf E ty) ∧ ∀ i (hi : i < l.length), ∃ u, toT l[i] (fldTyS (bodyOf E ty) i) = some u := by
  intro ty l v h
  cases ty with
  | nm n =>
    have h : (toTs l (E.body n)).map (E.ro n) = some v := h
    obtain ⟨y, hy, _⟩ := Option.map_eq_some_iff.1 h
    exact toTs_comps _ _ _ hy
  | _ => exact toTs_comps _ _ _ h
theorem zeroT_sound (hz : ∀ n, RC M (.nm n) (E.dfl n) (E.zc n)) (n t : Nat) {b : Ty} {u : E.D b} (h : toT (zeroA (E := E) tt n t) b = some u) : RV M μ (zeroA (E := E) tt n t) (zA (zeroA (E := E) tt n t)) := by
  refine zeroQ_sound (Q := fun a => ∃ b, ∃ u : E.D b, toT a b = some u) (by rintro ⟨b, u, h⟩; cases b <;> cases h) ?_ hz n t ⟨b, u, h⟩
  rintro l ⟨b, u, h⟩ a hm
  obtain ⟨i, hi, rfl⟩ := List.mem_iff_getElem.1 hm
  obtain ⟨u, hu⟩ := (agg_comps _ _ _ h).2 i hi
  exact ⟨_, u, hu⟩
theorem fits_comps : ∀ (ty : Ty) (l : List (AV E)), fits ty l = true → l.length = arity ty ∧ ∀ i (hi : i < l.length), fit (fldTyS ty i) l[i] = true := by
  intro ty
  induction ty with
  | one a _ =>
    intro l h
    match l with
    | [] => simp [fits] at h
    | [c] => exact ⟨rfl, fun i hi => match i, hi with | 0, _ => h⟩
    | _ :: _ :: _ => simp [fits] at h
  | pair a b _ ihb =>
    intro l h
    match l with
    | [] => simp [fits] at h
    | c :: cs =>
      simp only [fits, Bool.and_eq_true] at h
      obtain ⟨h1, h2⟩ := ihb cs h.2
      refine ⟨by simp [arity, h1], fun i hi => ?_⟩
      match i, hi with
      | 0, _ => exact h.1
      | i + 1, hi => exact h2 i (by simpa using hi)
  | _ => intro l h; cases l <;> simp [fits] at h

theorem parts_get (ps : List (Nat × AV E)) : ∀ (fs : List (Nat × Nat)) (k i : Nat) (f : Nat × Nat), fs[i]? = some f → (parts tt ps fs k)[i]? = some (match ps.lookup (k + i) with | some x => ca tt f.1 x | none => zeroA tt 20 f.1)
  | [], k, i, f, h => by simp at h
  | g :: fs, k, 0, f, h => by
    simp only [List.getElem?_cons_zero, Option.some.injEq] at h
    subst h
    simp only [parts, List.getElem?_cons_zero, Nat.add_zero]
    all_goals rfl
  | g :: fs, k, i + 1, f, h => by
    have := parts_get ps fs (k + 1) i f (by simpa using h)
    simp only [parts, List.getElem?_cons_succ]
    rw [this, show k + 1 + i = k + (i + 1) by omega]
theorem parts_len (ps : List (Nat × AV E)) : ∀ (fs : List (Nat × Nat)) (k : Nat), (parts tt ps fs k).length = fs.length
  | [], k => rfl
  | g :: fs, k => by simp [parts, parts_len ps fs]

/-- The sum of the fields ahead. -/
theorem off_sum : ∀ (t : Ty) (css : List (List Value)) (i : Nat), (∀ j, j < i → (css.getD j []).length = size E (fldTyS t j)) → i < arity t → i ≤ css.length → (css.take i).flatten.length = fldOffS E t i := by
  intro t
  induction t with
  | one a _ => intro css i h hi _; simp only [arity] at hi; have : i = 0 := by omega
               subst this; simp [fldOffS]
  | pair a b _ ihb =>
    intro css i h hi hl
    match i, css, hl with
    | 0, _, _ => simp [fldOffS]
    | i + 1, c :: css, hl =>
      have h0 := h 0 (by omega)
      simp only [List.getD_cons_zero, fldTyS] at h0
      have := ihb css i (fun j hj => by have := h (j + 1) (by omega); simpa [fldTyS] using this) (by simp only [arity] at hi; omega) (by simpa using hl)
      simp [fldOffS, h0, this]
  | _ => intro css i h hi; simp [arity] at hi

theorem foldl_set : ∀ (ps : List (Nat × Value)) (css : List (List Value)), nodup (ps.map (·.1)) = true → (∀ p ∈ ps, p.1 < css.length) → ∀ i,
    (ps.foldl (fun c p => c.set p.1 p.2.cells.toList) css).getD i [] = match ps.lookup i with | some v => v.cells.toList | none => css.getD i []
  | [], css, _, _, i => by simp
  | (j, v) :: ps, css, h, hk, i => by
    simp only [List.map_cons, nodup, Bool.and_eq_true, Bool.not_eq_true'] at h
    simp only [List.foldl_cons]
    rw [foldl_set ps _ h.2 (fun p hp => by simpa using hk p (by simp [hp])) i]
    have hj := hk (j, v) (by simp)
    by_cases hij : i = j
    · subst hij
      have : ps.lookup i = none := by
        rw [List.lookup_eq_none_iff]
        intro p hp
        have := h.1
        simp only [List.contains_eq_mem, decide_eq_false_iff_not, List.mem_map, not_exists, not_and] at this
        have h5 := this p hp
        simpa using fun e => h5 e.symm
      rw [this]
      simp only [List.lookup_cons_self]
      rw [List.getD_eq_getElem?_getD, List.getElem?_set_self (by simpa using hj)]
      rfl
    · rw [List.lookup_cons, show (i == j) = false by simpa using hij]
      simp only [List.getD_eq_getElem?_getD, List.getElem?_set_ne (fun e => hij e.symm)]
theorem lookup_mem {α : Type} : ∀ (ps : List (Nat × α)), nodup (ps.map (·.1)) = true → ∀ p ∈ ps, ps.lookup p.1 = some p.2
  | [], _, p, hp => by simp at hp
  | (j, v) :: ps, h, p, hp => by
    simp only [List.map_cons, nodup, Bool.and_eq_true, Bool.not_eq_true'] at h
    rcases List.mem_cons.1 hp with rfl | hp
    · simp
    · have h5 := lookup_mem ps h.2 p hp
      have hne : (p.1 == j) = false := by
        have := h.1
        simp only [List.contains_eq_mem, decide_eq_false_iff_not, List.mem_map, not_exists, not_and] at this
        simpa using this p hp
      rw [List.lookup_cons, hne]
      exact h5
theorem foldl_set_len : ∀ (ps : List (Nat × Value)) (css : List (List Value)), (ps.foldl (fun c p => c.set p.1 p.2.cells.toList) css).length = css.length
  | [], css => rfl
  | p :: ps, css => by simp [foldl_set_len ps]

theorem RSL.lookup {l : List (AV E)} {vs : List Value} (h : RSL M μ l vs) : ∀ (ks : List Nat), ks.length = l.length → ∀ i, ((ks.zip l).lookup i = none ∧ (ks.zip vs).lookup i = none) ∨ ∃ a v, (ks.zip l).lookup i = some a ∧ (ks.zip vs).lookup i = some v ∧ RS M μ a v := by
  induction h with
  | nil => intro ks hk i; left; simp
  | cons h t ih =>
    intro ks hk i
    match ks, hk with
    | k :: ks, hk =>
      simp only [List.zip_cons_cons, List.lookup_cons]
      cases hik : i == k with
      | true => exact .inr ⟨_, _, rfl, rfl, h⟩
      | false => exact ih ks (by simpa using hk) i
theorem RSL.length {l : List (AV E)} {vs : List Value} (h : RSL M μ l vs) : vs.length = l.length := by
  induction h with
  | nil => rfl
  | cons _ _ ih => simp [ih]

theorem places_get (hT : TOK P E tt) : ∀ (fields : List Field) (fs : List (Nat × Nat)), fields.map (fun f => (f.type, f.offset)) = fs → (∀ f ∈ fs, (tt f.1).isSome = true) →
    ∃ places, fields.mapM (fun f => (P.info? f.type).map fun i => (f.offset, i.size)) = some places ∧ places = fs.map fun f => (f.2, size E (tyOf tt f.1))
  | [], fs, h, _ => by subst h; exact ⟨[], by simp, rfl⟩
  | f :: fields, fs, h, hs => by
    subst h
    obtain ⟨places, h1, h2⟩ := places_get hT fields _ rfl (fun g hg => hs g (by simp only [List.map_cons, List.mem_cons]; exact .inr hg))
    have h3 := hs (f.type, f.offset) (by simp)
    rw [Option.isSome_iff_exists] at h3
    obtain ⟨y, hy⟩ := h3
    obtain ⟨i, hi, hsz⟩ := hT.size hy
    refine ⟨(f.offset, size E (tyOf tt f.type)) :: places, ?_, by simp [h2]⟩
    simp only [List.mapM_cons, Option.bind_eq_bind, Option.pure_def, hi, h1, Option.map_some, Option.bind_some, hsz, tyOf_some hy]

theorem fldsOK_some {t : Ty} : ∀ (fs : List (Nat × Nat)) (k : Nat), fldsOK E tt t fs k = true → ∀ f ∈ fs, (tt f.1).isSome = true
  | [], k, _, f, hf => by simp at hf
  | g :: fs, k, h, f, hf => by
    simp only [fldsOK, Bool.and_eq_true] at h
    rcases List.mem_cons.1 hf with rfl | hf
    · exact h.1.2
    · exact fldsOK_some fs (k + 1) h.2 f hf

theorem body_S (hE : EnvOK E) (ty : Ty) (h : ∀ n e, ty ≠ .arr n e) (i : Nat) : fldTy (bodyOf E ty) i = fldTyS (bodyOf E ty) i ∧ fldOff E (bodyOf E ty) i = fldOffS E (bodyOf E ty) i := by
  cases ty with
  | arr n e => exact absurd rfl (h n e)
  | nm n => rcases hE.agg n with ⟨a, h⟩ | ⟨a, b, h⟩ <;> simp only [bodyOf, h] <;> exact ⟨rfl, rfl⟩
  | _ => exact ⟨rfl, rfl⟩

/-- The struct that the parts make. -/
theorem run_built (hE : EnvOK E) (hz : ∀ n, RC M (.nm n) (E.dfl n) (E.zc n)) (hT : TOK P E tt) {t : Nat} {x : TE} {fs : List (Nat × Nat)} (hx : tt t = some x) (hd : tdOf tt t = .struct fs)
    {ks : List Nat} {l : List (AV E)} {vs : List Value} (hl : RSL M μ l vs) (hks : ks.length = l.length) (hn : nodup ks = true) (hlt : ks.all (fun k => decide (k < fs.length)) = true)
    (cs : List (AV E)) (hcs : ∀ i f, fs[i]? = some f → ∃ a, cs[i]? = some a ∧ ((∃ y, (ks.zip l).lookup i = some y ∧ a = ca tt f.1 y) ∨ ((ks.zip l).lookup i = none ∧ RV M μ a (zA (zeroA (E := E) tt 20 f.1))))) (hcl : cs.length = fs.length)
    (hreal : ∀ i (hi : i < cs.length), real cs[i] = true ∧ ∀ c, RV M μ cs[i] c → c.length = size E (fldTyS (bodyOf E x.ty) i)) (w : World) :
    ∃ cells, (Instr.build t (ks.zip vs).toArray).run P w = .ok (.agg cells) w ∧ RV M μ (.agg cs) cells.toList := by
  obtain ⟨X, fields, hX, hu, hfs, hlen, hok, hty, hag, hF⟩ := hT.struct hd
  rw [hx] at hX
  cases hX
  obtain ⟨i0, z, hi0, hz0, hsz0, hzc, hza⟩ := hF.zero
  have hzs := hF.zst i0 z hi0 hz0
  rw [tdOf_some hx] at hd
  rw [hd] at hzs
  simp only at hzs
  obtain ⟨places, hp1, hp2⟩ := places_get hT _ _ hfs (fldsOK_some _ _ hok)
  have hS : ∀ i, i < fs.length → fldTy (bodyOf E x.ty) i = fldTyS (bodyOf E x.ty) i ∧ fldOff E (bodyOf E x.ty) i = fldOffS E (bodyOf E x.ty) i := by
    intro i hi
    refine body_S hE _ ?_ i
    intro n e he
    rw [he] at hlen
    simp only [bodyOf, arity] at hlen
    omega
  have hz1 : ∀ i (hi : i < fs.length), ((fs.map fun f => zA (E := E) (zeroA tt 20 f.1)).getD i []).length = size E (fldTyS (bodyOf E x.ty) i) := by
    intro i hi
    obtain ⟨h1, h2, h3, h4⟩ := fldsOK_get fs 0 i fs[i] hok (by simp [hi])
    rw [Nat.zero_add] at h1
    rw [← (hS i hi).1, h1]
    rw [Option.isSome_iff_exists] at h4
    obtain ⟨y, hy⟩ := h4
    rw [tyOf_some hy, ← (hT _ _ hy).zlen, List.getD_of_lt _ _ _ (by simpa using hi)]
    simp
  have hvs := hl.length
  have hfill := fill_sound (places.toArray[·]?) (ks.zip vs) (fs.map fun f => zA (E := E) (zeroA tt 20 f.1)) ?_ ?_
  · refine ⟨(((ks.zip vs).foldl (fun c p => c.set p.1 p.2.cells.toList) (fs.map fun f => zA (E := E) (zeroA tt 20 f.1))).flatten).toArray, run_build w t _ _ ?_, ?_⟩
    · simp only [Program.built, hi0, hu, hz0, hp1]
      rw [← hfill, ← hzs]
    · have hcss : ∀ i, ((ks.zip vs).foldl (fun c p => c.set p.1 p.2.cells.toList) (fs.map fun f => zA (E := E) (zeroA tt 20 f.1))).getD i [] = _ := foldl_set (ks.zip vs) _ ?_ ?_
      · simp only []
        refine .agg cs _ (by rw [foldl_set_len]; simp [hcl]) ?_
        intro i hi
        rw [hcss]
        obtain ⟨a, ha, hor⟩ := hcs i fs[i] (by simp)
        have hai : cs[i] = a := by rw [List.getElem?_eq_getElem hi] at ha; exact Option.some.inj ha
        rcases hl.lookup ks hks i with ⟨h1, h2⟩ | ⟨y, v, h1, h2, h3⟩
        · rw [h2]
          rcases hor with ⟨y, h4, _⟩ | ⟨_, h5⟩
          · rw [h1] at h4; cases h4
          · rw [hai]
            simp only
            rw [List.getD_of_lt _ _ _ (by simp; omega)]
            simpa using h5
        · rw [h2]
          rcases hor with ⟨y', h4, h5⟩ | ⟨h4, _⟩
          · rw [h1] at h4
            cases h4
            have := (hreal i hi).1
            rw [hai, h5] at this
            obtain ⟨c, h6, _, h7⟩ := (ca_sound (tt := tt) (t := fs[i].1) h3).real this
            simp only
            rw [h7, hai, h5]
            exact h6
          · rw [h1] at h4; cases h4
      · rw [List.map_fst_zip (by omega)]; exact hn
      · intro p hp
        have := List.of_mem_zip hp
        simp only [List.all_eq_true, decide_eq_true_eq] at hlt
        simpa using hlt _ this.1
  · intro i hi
    have hi' : i < fs.length := by simpa using hi
    rw [hp2]
    simp only [List.getElem?_toArray, List.getElem?_map, List.getElem?_eq_getElem hi', Option.map_some, Option.some.injEq, Prod.mk.injEq]
    obtain ⟨h1, h2, h3, h4⟩ := fldsOK_get fs 0 i fs[i] hok (by simp [hi'])
    rw [Nat.zero_add] at h1 h2
    constructor
    · rw [← h2, (hS i hi').2]
      exact (off_sum _ _ i (fun j hj => hz1 j (by omega)) (by omega) (by simp; omega)).symm
    · rw [hz1 i hi', ← (hS i hi').1, h1]
  · intro p hp
    have hmem := List.of_mem_zip hp
    simp only [List.all_eq_true, decide_eq_true_eq] at hlt
    have hlt' := hlt _ hmem.1
    refine ⟨by simpa using hlt', ?_⟩
    have hlook : (ks.zip vs).lookup p.1 = some p.2 := lookup_mem _ (by rw [List.map_fst_zip (by omega)]; exact hn) p hp
    rcases hl.lookup ks hks p.1 with ⟨h1, h2⟩ | ⟨y, v, h1, h2, h3⟩
    · rw [h2] at hlook; cases hlook
    · rw [h2] at hlook
      cases hlook
      obtain ⟨a, ha, hor⟩ := hcs p.1 fs[p.1] (by simp)
      have hlc : p.1 < cs.length := by omega
      have hai : cs[p.1] = a := by rw [List.getElem?_eq_getElem hlc] at ha; exact Option.some.inj ha
      rcases hor with ⟨y', h4, h5⟩ | ⟨h4, _⟩
      · rw [h1] at h4
        cases h4
        obtain ⟨h8, h9⟩ := hreal p.1 hlc
        rw [hai, h5] at h8 h9
        obtain ⟨c, h6, _, h7⟩ := (ca_sound (tt := tt) (t := fs[p.1].1) h3).real h8
        rw [h7, h9 c h6, hz1 p.1 hlt']
      · rw [h1] at h4; cases h4

/-! ### Slices and arrays out of their parts -/
theorem elems_get (el : Nat) (ps : List (Nat × AV E)) (ty : Ty) : ∀ (n i : Nat) (xs : List (E.D ty)), elems tt el ps ty n i = some xs →
    xs.length = n ∧ ∀ j (hj : j < xs.length), match ps.lookup (i + j) with
      | some x => toT (ca tt el x) ty = some xs[j]
      | none => xs[j] = dfl E ty
  | 0, i, xs, h => by
    cases h
    exact ⟨rfl, fun j hj => by simp at hj⟩
  | n + 1, i, xs, h => by
    unfold elems at h
    split at h
    · rename_i x l hx hl
      cases h
      obtain ⟨h1, h2⟩ := elems_get el ps ty n (i + 1) l hl
      refine ⟨by simp [h1], fun j hj => ?_⟩
      match j, hj with
      | 0, _ =>
        simp only [Nat.add_zero, List.getElem_cons_zero]
        split at hx
        · rename_i y hy; rw [hy]; exact hx
        · rename_i hy; rw [hy]; cases hx; rfl
      | j + 1, hj =>
        have := h2 j (by simpa using hj)
        simp only [List.getElem_cons_succ]
        rw [show i + (j + 1) = i + 1 + j by omega]
        exact this
    · cases h
theorem flat_repl {α : Type} (n s : Nat) (c : List α) (hc : c.length = s) : ∀ j, j ≤ n → ((List.replicate n c).take j).flatten.length = j * s := by
  intro j hj
  rw [List.take_replicate, Nat.min_eq_left hj]
  clear hj
  induction j with
  | zero => simp
  | succ j ih => rw [List.replicate_succ, List.flatten_cons, List.length_append, ih, hc, Nat.succ_mul, Nat.add_comm]
theorem zcells_len' (hE : EnvOK E) (hz : ∀ n, RC M (.nm n) (E.dfl n) (E.zc n)) {t : Ty} (hf : t.full = true) : (zcells E t).length = size E t := (RC.zero M hz t hf).len hE
theorem run_arr (hE : EnvOK E) (hz : ∀ n, RC M (.nm n) (E.dfl n) (E.zc n)) (hT : TOK P E tt) {t el n : Nat} {e : Ty} {x : TE} (hx : tt t = some x) (hd : x.d = .arr n el) (hty : x.ty = .arr n e) (he : tyOf tt el = e) (hfull : e.full = true)
    {ks : List Nat} {l : List (AV E)} {vs : List Value} (hl : RSL M μ l vs) (hks : ks.length = l.length) (hn : nodup ks = true) (hlt : ks.all (fun k => decide (k < n)) = true)
    {xs : List (E.D e)} (hxs : elems tt el (ks.zip l) e n 0 = some xs) (w : World) :
    ∃ css : List (List Value), (Instr.build t (ks.zip vs).toArray).run P w = .ok (.agg css.flatten.toArray) w ∧ css.length = n ∧ xs.length = n ∧ ∀ i (hi : i < xs.length), RC M e xs[i] (css.getD i []) := by
  have hF := hT t x hx
  obtain ⟨u, hu, _, hm⟩ := hF.und
  rw [hd] at hm
  simp only at hm
  obtain ⟨rfl, _, hels⟩ := hm
  obtain ⟨y, hy⟩ := Option.isSome_iff_exists.1 hels
  obtain ⟨i0, z0, hi0, hz0, hsz0, hzc0, _⟩ := hF.zero
  obtain ⟨ie, hie, hies⟩ := (hT el y hy).size
  have hey : y.ty = e := by rw [← he, tyOf_some hy]
  subst hey
  have hzl : (zcells E y.ty).length = ie.size := by rw [zcells_len' (M := M) hE hz hfull, hies]
  have hz1 : z0.cells.toList = (List.replicate n (zcells E y.ty)).flatten := by
    rw [hzc0]
    have hfa : x.ty.full = true := by rw [hty]; exact hfull
    have : zeroA (E := E) tt 20 t = .t x.ty (dfl E x.ty) := by simp [zeroA, hx, zeroX, hfa]
    rw [this]
    show zcells E x.ty = _
    rw [hty]
    rfl
  obtain ⟨hlen, hget⟩ := elems_get el (ks.zip l) y.ty n 0 xs hxs
  have hvs := hl.length
  have hrep : ∀ j, j < n → ((List.replicate n (zcells E y.ty)).getD j []).length = ie.size := by
    intro j hj
    rw [List.getD_of_lt _ _ _ (by simpa using hj)]
    simp [hzl]
  have hfill := fill_sound (fun k => some (k * ie.size, ie.size)) (ks.zip vs) (List.replicate n (zcells E y.ty)) ?_ ?_
  · refine ⟨(ks.zip vs).foldl (fun c p => c.set p.1 p.2.cells.toList) (List.replicate n (zcells E y.ty)), ?_, by rw [foldl_set_len]; simp, hlen, ?_⟩
    · refine run_build w t _ _ ?_
      simp only [Program.built, hi0, hu, hz0, hie]
      rw [← hfill, ← hz1]
    · intro j hj
      rw [foldl_set (ks.zip vs) _ (by rw [List.map_fst_zip (by omega)]; exact hn) ?_ j]
      · have := hget j hj
        rw [Nat.zero_add] at this
        rcases hl.lookup ks hks j with ⟨h1, h2⟩ | ⟨a, v, h1, h2, h3⟩
        · rw [h1] at this
          rw [h2]
          simp only at this ⊢
          rw [this, List.getD_of_lt _ _ _ (by simp; omega)]
          simp only [List.getElem_replicate]
          exact RC.zero M hz _ hfull
        · rw [h1] at this
          rw [h2]
          simp only at this ⊢
          obtain ⟨c, h6, _, h7⟩ := (ca_sound (tt := tt) (t := el) h3).real (toT_real this)
          rw [h7]
          exact toT_sound hE h6 this
      · intro p hp
        have hmem := List.of_mem_zip hp
        simp only [List.all_eq_true, decide_eq_true_eq] at hlt
        simpa using hlt _ hmem.1
  · intro j hj
    have hj' : j < n := by simpa using hj
    rw [flat_repl n ie.size _ hzl j (by omega), hrep j hj']
  · intro p hp
    have hmem := List.of_mem_zip hp
    simp only [List.all_eq_true, decide_eq_true_eq] at hlt
    have hlt' := hlt _ hmem.1
    refine ⟨by simpa using hlt', ?_⟩
    rw [hrep _ hlt']
    have hlook : (ks.zip vs).lookup p.1 = some p.2 := lookup_mem _ (by rw [List.map_fst_zip (by omega)]; exact hn) p hp
    rcases hl.lookup ks hks p.1 with ⟨h1, h2⟩ | ⟨a, v, h1, h2, h3⟩
    · rw [h2] at hlook; cases hlook
    · rw [h2] at hlook
      cases hlook
      have := hget p.1 (by omega)
      rw [Nat.zero_add, h1] at this
      simp only at this
      obtain ⟨c, h6, _, h7⟩ := (ca_sound (tt := tt) (t := el) h3).real (toT_real this)
      rw [h7, (toT_sound hE h6 this).len hE, hies]

theorem build_sound (hE : EnvOK E) (hz : ∀ n, RC M (.nm n) (E.dfl n) (E.zc n)) (hT : TOK P E tt) {t : Nat} {ks : List Nat} {l : List (AV E)} {vs : List Value} {a : AV E}
    (h : build tt t (ks.zip l) = some (true, a)) (hl : RSL M μ l vs) (hks : ks.length = l.length) : PureOK P M μ a (Instr.build t (ks.zip vs).toArray) := by
  intro w hw
  unfold build at h
  split at h
  · cases h
  rename_i x hx
  split at h
  · rename_i fs hd
    have hx0 := bif_true h; clear h; obtain ⟨hk, h⟩ := hx0
    simp only [Bool.and_eq_true] at hk
    obtain ⟨hk1, hk2⟩ := hk
    rw [List.map_fst_zip (by omega)] at hk1
    have hk2' : ks.all (fun k => decide (k < fs.length)) = true := by
      simp only [List.all_eq_true, decide_eq_true_eq] at hk2 ⊢
      intro k hk
      have hk' : k ∈ (ks.zip l).map (·.1) := by rw [List.map_fst_zip (by omega)]; exact hk
      obtain ⟨p, hp, rfl⟩ := List.mem_map.1 hk'
      exact hk2 p hp
    have hd' : tdOf tt t = .struct fs := by rw [tdOf_some hx]; exact hd
    have hlen := parts_len (tt := tt) (ks.zip l) fs 0
    have main : (∀ i (hi : i < (parts tt (ks.zip l) fs 0).length), real (parts tt (ks.zip l) fs 0)[i] = true ∧ ∀ c, RV M μ (parts tt (ks.zip l) fs 0)[i] c → c.length = size E (fldTyS (bodyOf E x.ty) i)) →
        (∀ i (hi : i < (parts tt (ks.zip l) fs 0).length) t, (parts tt (ks.zip l) fs 0)[i] = zeroA tt 20 t → RV M μ (zeroA (E := E) tt 20 t) (zA (zeroA (E := E) tt 20 t))) →
        ∃ cells, (Instr.build t (ks.zip vs).toArray).run P w = .ok (.agg cells) w ∧ RV M μ (.agg (parts tt (ks.zip l) fs 0)) cells.toList := by
      intro hreal zreal
      refine run_built hE hz hT hx hd' hl hks hk1 hk2' _ ?_ hlen hreal w
      intro i f hf
      have hg := parts_get (tt := tt) (ks.zip l) fs 0 i f hf
      rw [Nat.zero_add] at hg
      refine ⟨_, hg, ?_⟩
      cases hlo : (ks.zip l).lookup i with
      | some y => exact .inl ⟨y, rfl, rfl⟩
      | none =>
        refine .inr ⟨rfl, ?_⟩
        rw [hlo] at hg
        have hi : i < (parts tt (ks.zip l) fs 0).length := by rw [hlen]; exact (List.getElem?_eq_some_iff.1 hf).1
        rw [List.getElem?_eq_getElem hi] at hg
        exact zreal i hi _ (Option.some.inj hg)
    cases hfull : x.ty.full with
    | true =>
      rw [hfull] at h
      simp only [cond_true] at h
      split at h
      · rename_i v hv
        cases h
        have hcomp := (agg_comps _ _ _ hv).2
        obtain ⟨cells, h1, h2⟩ := main (fun i hi => by
          obtain ⟨u, hu⟩ := hcomp i hi
          exact ⟨toT_real hu, fun c hc => (toT_sound hE hc hu).len hE⟩) (fun i hi t he => by
          obtain ⟨u, hu⟩ := hcomp i hi
          rw [he] at hu
          exact zeroT_sound hz 20 t hu)
        have h3 := toT_sound hE h2 hv
        refine ⟨_, h1, ?_⟩
        have := RS.of_t (μ := μ) h3
        obtain ⟨_, _, _, _, _, _, _, hty, hag, _⟩ := hT.struct hd'
        rw [← hty, tyOf_some hx] at hag
        simpa [mkV, hag] using this
      · cases h
    | false =>
      rw [hfull] at h
      simp only [cond_false] at h
      have hx0 := bif_true h; clear h; obtain ⟨hf, h⟩ := hx0
      cases h
      have hcomp : ∀ i (hi : i < (parts tt (ks.zip l) fs 0).length), fit (fldTyS (bodyOf E x.ty) i) (parts tt (ks.zip l) fs 0)[i] = true := by
        cases hty : x.ty with
        | nm n => rw [hty] at hf; exact (fits_comps _ _ hf).2
        | _ => rw [hty] at hf; exact (fits_comps _ _ hf).2
      obtain ⟨cells, h1, h2⟩ := main (fun i hi => ⟨fit_real (hcomp i hi), fun c hc => fit_len hE hc (hcomp i hi)⟩) (fun i hi t he => by
        have := hcomp i hi
        rw [he] at this
        exact zeroA_sound hz 20 t _ this)
      refine ⟨_, h1, ?_⟩
      have := RS.v h2
      simpa [mkV, AV.isAgg] using this
  · rename_i m el hd
    split at h
    · rename_i m' e hty
      have hx0 := bif_true h; clear h; obtain ⟨hk, h⟩ := hx0
      simp only [Bool.and_eq_true, decide_eq_true_eq] at hk
      obtain ⟨⟨⟨⟨rfl, he⟩, hfull⟩, hk1⟩, hk2⟩ := hk
      rw [List.map_fst_zip (by omega)] at hk1
      have hk2' : ks.all (fun k => decide (k < m')) = true := by
        simp only [List.all_eq_true, decide_eq_true_eq] at hk2 ⊢
        intro k hk
        have hk' : k ∈ (ks.zip l).map (·.1) := by rw [List.map_fst_zip (by omega)]; exact hk
        obtain ⟨p, hp, rfl⟩ := List.mem_map.1 hk'
        exact hk2 p hp
      split at h
      · rename_i xs hxs
        cases h
        obtain ⟨css, h1, h2, h3, h4⟩ := run_arr hE hz hT hx hd hty he hfull hl hks hk1 hk2' hxs w
        refine ⟨_, h1, ?_⟩
        have := RS.v (RV.t (μ := μ) (RC.arr (E := E) m' xs css h3 h2 h4))
        simpa [mkV, AV.isAgg, Ty.agg] using this
      · cases h
    · cases h
  · cases h
end Go.Proofs.YtbmpjppfdeohnaaDoor.Fv

/-! Every operation whose answer hangs on its operands alone. -/
namespace Go.Proofs.YtbmpjppfdeohnaaDoor.Fv
variable [Quiet]
variable {E : Env} {P : Program} {tt : Nat → Option TE} {M : Mem} {μ : Mu}

/-- The operation's answer, in memory as it is. -/
def OpOK (P : Program) (M : Mem) (μ : Mu) (a : AV E) (s : Sem Next) : Prop := ∀ w, Holds M w → ∃ v, s.run P w = .ok (.value v) w ∧ RS M μ a v
theorem OpOK.of {a : AV E} {s : Sem Value} (h : PureOK P M μ a s) : OpOK P M μ a (do pure (.value (← s))) := fun w hw => by
  obtain ⟨v, h1, h2⟩ := h w hw
  exact ⟨v, by simp [h1], h2⟩
theorem OpOK.val {a : AV E} {v : Value} (h : RS M μ a v) : OpOK P M μ a (pure (.value v)) := fun w hw => ⟨v, rfl, h⟩

theorem pick_sound {c : Bool} {x y : AV E} {vx vy : Value} (hx : RS M μ x vx) (hy : RS M μ y vy) : RS M μ (pickA c x y) (if c then vx else vy) := by
  unfold pickA
  split
  · rw [hx.bool_inv, hy.bool_inv]
    cases c <;> exact RS.bool _
  · cases c
    · exact hy
    · exact hx

theorem run_pick {c : Bool} {x y : AV E} {v vx vy : Value} (hv : v = .bool c) (hx : RS M μ x vx) (hy : RS M μ y vy) : OpOK P M μ (pickA c x y) (do pure (.value (if ← asBool v then vx else vy))) := by
  subst hv
  intro w _
  exact ⟨_, by simp only [asBool, Sem.run_bind, Sem.run_pure, Result.andThen_ok], pick_sound hx hy⟩

theorem optN_sound {ρ : Operand → Value} : ∀ (os : List (Option Operand)) (l : List (AV E)) (r : List (Option Int)) (vs : List Value), optN l os = some r → RSL M μ l vs → (os.filterMap id).map ρ = vs →
    r.length = os.length ∧ ∀ i (hi : i < os.length) (hi' : i < r.length), NumO r[i] (os[i].map ρ)
  | [], l, r, vs, h, _, _ => by
    simp only [optN, Option.some.injEq] at h
    subst h
    exact ⟨rfl, fun i hi => by simp at hi⟩
  | none :: os, l, r, vs, h, hl, hv => by
    simp only [optN] at h
    obtain ⟨r', hr, rfl⟩ := Option.map_eq_some_iff.1 h
    obtain ⟨h1, h2⟩ := optN_sound os l r' vs hr hl (by simpa using hv)
    refine ⟨by simp [h1], fun i hi hi' => ?_⟩
    match i, hi, hi' with
    | 0, _, _ => exact .none
    | i + 1, hi, hi' => exact h2 i (by simpa using hi) (by simpa using hi')
  | some o :: os, l, r, vs, h, hl, hv => by
    simp only [optN] at h
    cases hl with
    | nil => simp at h
    | cons ha ht =>
      simp only at h
      split at h
      · rename_i n hn
        obtain ⟨r', hr, rfl⟩ := Option.map_eq_some_iff.1 h
        simp only [List.filterMap_cons, id_eq, List.map_cons, List.cons.injEq] at hv
        obtain ⟨h1, h2⟩ := optN_sound os _ r' _ hr ht (by simpa using hv.2)
        refine ⟨by simp [h1], fun i hi hi' => ?_⟩
        match i, hi, hi' with
        | 0, _, _ =>
          obtain ⟨k, hk⟩ := ha.num_inv hn
          simp only [List.getElem_cons_zero, Option.map_some]
          rw [hv.1, hk]
          exact .some k n
        | i + 1, hi, hi' => exact h2 i (by simpa using hi) (by simpa using hi')
      · cases h

theorem len_slice {t el : Nat} {b : Option Addr} {n c : Nat} (hu : P.underlying t = some (.slice el)) (w : World) (ats : Array TypeId) (h0 : ats[0]? = some t) (ty : Nat) :
    (Builtin.len_ ats ty #[.slice b n c]).run P w = .ok (.int .i64 n) w := by
  simp [Builtin.len_, h0, run_underlying' hu, goInt]
theorem len_str {t : Nat} {s : ByteArray} (hu : P.underlying t = some .string) (w : World) (ats : Array TypeId) (h0 : ats[0]? = some t) (ty : Nat) :
    (Builtin.len_ ats ty #[.string s]).run P w = .ok (.int .i64 s.size) w := by
  simp [Builtin.len_, h0, run_underlying' hu, goInt]


theorem lenA_sound (hT : TOK P E tt) {t : Nat} {a b : AV E} {v : Value} (h : lenA (tdOf tt t) a = some (true, b)) (hv : RS M μ a v) (ats : Array TypeId) (h0 : ats[0]? = some t) (ty : Nat) :
    PureOK P M μ b (Builtin.len_ ats ty #[v]) := by
  intro w hw
  unfold lenA at h
  split at h
  · rename_i htd
    obtain ⟨bs, rfl, rfl⟩ := hv.str_inv
    cases h
    refine ⟨_, len_str (hT.str htd) w ats h0 ty, ?_⟩
    have := RS.int (E := E) (M := M) (μ := μ) .i64 (bs.size : Int)
    simpa using this
  · rename_i id e off n htd
    cases h
    cases hv with
    | v hv =>
      cases hv
      exact ⟨_, len_slice (hT.slice' htd) w ats h0 ty, RS.int _ _⟩
  · rename_i k e htd
    cases h
    cases hv with
    | v hv =>
      cases hv
      obtain ⟨x, hx, hd, hty, hF⟩ := hT.get (t := t) (by rw [htd]; simp)
      obtain ⟨u, hu, _, hD⟩ := hF.und
      rw [htd] at hd
      rw [← hd] at hD
      obtain ⟨rfl, _⟩ := hD
      refine ⟨.int .i64 0, ?_, RS.int _ _⟩
      simp [Builtin.len_, h0, run_underlying' hu, mkV, AV.isAgg, goInt]
  · obtain ⟨el, htd⟩ : ∃ el, tdOf tt t = .slice el := ⟨_, by assumption⟩
    split at h
    · rename_i xs hl
      cases h
      obtain ⟨base, cap, rfl, hr⟩ := hv.lst_inv hl
      exact ⟨_, len_slice (hT.slice' htd) w ats h0 ty, RS.int _ _⟩
    · cases h
  · cases h
theorem mx_eq (x y : Int) : (if y > x then y else x) = mxI x y := by unfold mxI; by_cases h : y > x <;> simp [h]
theorem mn_eq (x y : Int) : (if y < x then y else x) = mnI x y := by unfold mnI; by_cases h : y < x <;> simp [h]
theorem mxA_sound {a b c : AV E} {va vb : Value} (h : mxA a b = some (true, c)) (ha : RS M μ a va) (hb : RS M μ b vb) (ats : Array TypeId) (ty : Nat) : PureOK P M μ c (Builtin.max_ ats ty #[va, vb]) := by
  intro w hw
  unfold mxA at h
  split at h
  · rename_i k x k' y
    rw [ha.int_inv, hb.int_inv]
    have hx0 := bif_true h; clear h; obtain ⟨hd, h⟩ := hx0
    cases h
    refine ⟨_, ?_, RS.int k (mxI x y)⟩
    simp only [Builtin.max_, List.foldlM_cons, List.foldlM_nil, Builtin.max2, Sem.run_bind, Sem.run_pure, Result.andThen_ok]
    exact congrArg (fun z => Result.ok (Value.int k z) w) (mx_eq x y)
  · cases h
theorem mnA_sound {a b c : AV E} {va vb : Value} (h : mnA a b = some (true, c)) (ha : RS M μ a va) (hb : RS M μ b vb) (ats : Array TypeId) (ty : Nat) : PureOK P M μ c (Builtin.min_ ats ty #[va, vb]) := by
  intro w hw
  unfold mnA at h
  split at h
  · rename_i k x k' y
    rw [ha.int_inv, hb.int_inv]
    have hx0 := bif_true h; clear h; obtain ⟨hd, h⟩ := hx0
    cases h
    refine ⟨_, ?_, RS.int k (mnI x y)⟩
    simp only [Builtin.min_, List.foldlM_cons, List.foldlM_nil, Builtin.min2, Sem.run_bind, Sem.run_pure, Result.andThen_ok]
    exact congrArg (fun z => Result.ok (Value.int k z) w) (mn_eq x y)
  · cases h

theorem build_parts {ps : Array (Nat × Operand)} (ρ : Operand → Value) : ps.map (fun (i, x) => (i, ρ x)) = ((ps.toList.map (·.1)).zip (ps.toList.map fun p => ρ p.2)).toArray := by
  apply Array.ext'
  simp only [Array.toList_map, List.zip_map']

theorem RS.c_inv {v v' : Value} (h : RS (E := E) M μ (.c v) v') : v' = v := by
  cases h with
  | c => rfl
  | v h => cases h

theorem size_one {t : Ty} (h : t.agg = false) : size E t = 1 := by cases t <;> simp_all [Ty.agg, size]
theorem run_builtin {ρ : Operand → Value} {o : Oper} {c : Call} {b : Builtin} (hop : o.op = .call c) (hcal : c.callee = .builtin b) :
    execOp ρ o = builtin b c.argTypes o.type (c.args.map fun | .const _ => true | _ => false) (c.args.map ρ) := by
  simp only [execOp, hop, resolve, hcal, pure_bind, invoke]
  rfl
theorem args_one {xs : Array Operand} (h : xs.size = 1) : ∃ y, xs = #[y] := by
  obtain ⟨l⟩ := xs
  match l, h with
  | [y], _ => exact ⟨y, rfl⟩
theorem args_two {xs : Array Operand} (h : xs.size = 2) : ∃ y z, xs = #[y, z] := by
  obtain ⟨l⟩ := xs
  match l, h with
  | [y, z], _ => exact ⟨y, z, rfl⟩
theorem RS.tup_inv {l : List (AV E)} {v : Value} (h : RS M μ (.tup l) v) : ∃ vs : List Value, v = .tuple vs.toArray ∧ vs.length = l.length ∧ ∀ i (hi : i < l.length), l[i] = .undef ∨ ∃ cs, RV M μ l[i] cs ∧ vs.getD i Go.undef = mkV l[i].isAgg cs := by
  cases h with
  | tup l vs h1 h2 => exact ⟨vs, rfl, h1, h2⟩
  | v h => cases h

/-! ### Structs that are held against each other -/
theorem okF_sound (hT : TOK P E tt) {a : Ty} {t : Nat} (h : okF tt a t = true) {x y : E.D a} {c d : List Value} (hx : RC M a x c) (hy : RC M a y d) :
    ∃ vx vy, c = [vx] ∧ d = [vy] ∧ (∀ w, (isAgg t).run P w = .ok false w) ∧ ∀ n w, (Op.equalIn (n + 1) t vx vy).run P w = .ok (eqK E a x y) w := by
  unfold okF at h
  split at h
  · rename_i k k' htd
    have hu := hT.int htd
    cases hx
    cases hy
    exact ⟨_, _, rfl, rfl, fun w => run_isAgg hu w, fun n w => run_equalIn_int w n t _ _ _ _ hu⟩
  · rename_i htd
    have hu := hT.bool htd
    cases hx
    cases hy
    exact ⟨_, _, rfl, rfl, fun w => run_isAgg hu w, fun n w => run_equalIn_bool' w n t _ _ hu⟩
  · rename_i htd
    have hu := hT.str htd
    cases hx with
    | str s => cases hy with
      | str s' =>
        refine ⟨_, _, rfl, rfl, fun w => run_isAgg hu w, fun n w => ?_⟩
        rw [run_equalIn_string w n t _ _ hu, ByteArray.toList_eq, ByteArray.toList_eq]
        rfl
  · cases h
theorem RC.pair_inv {a b : Ty} {v : E.D (.pair a b)} {cs : List Value} (h : RC M (.pair a b) v cs) : ∃ c1 c2, cs = c1 ++ c2 ∧ RC M a v.1 c1 ∧ RC M b v.2 c2 := by
  cases h with
  | pair h1 h2 => exact ⟨_, _, rfl, h1, h2⟩
theorem cst_nm {n m : Nat} {v : E.R m} {x : E.R n} (h : cst (E := E) (.nm m) (.nm n) v = some x) : m = n ∧ HEq v x := by
  unfold cst at h
  split at h
  · rename_i e
    injection e with e
    subst e
    injection h with h
    exact ⟨rfl, heq_of_eq h⟩
  · cases h
theorem eqFields_ok (hT : TOK P E tt) : ∀ (T : Ty) (o : Nat) (fields : List Field) (x y : E.D T) (c d pc pd : List Value), eqC tt T o (fields.map fun f => (f.type, f.offset)) = true → fields.all (fun f => f.name != "_") = true →
    RC M T x c → RC M T y d → pc.length = o → pd.length = o → ∀ n w, (Op.eqFields (n + 1) (pc ++ c).toArray (pd ++ d).toArray fields).run P w = .ok (eqS E T x y) w
  | .one a, o, fields, x, y, c, d, pc, pd, h, hn, hx, hy, hpc, hpd, n, w => by
    cases fields with
    | nil => cases h
    | cons f r =>
      cases r with
      | cons g r => cases h
      | nil =>
        simp only [List.map_cons, List.map_nil, eqC, Bool.and_eq_true, decide_eq_true_eq] at h
        simp only [List.all_cons, List.all_nil, Bool.and_true, bne_iff_ne, ne_eq] at hn
        cases hx with
        | one hx => cases hy with
          | one hy =>
            obtain ⟨vx, vy, rfl, rfl, h1, h2⟩ := okF_sound hT h.1 hx hy
            have e1 : (pc ++ [vx]).toArray[f.offset]? = some vx := by simp [h.2, ← hpc]
            have e2 : (pd ++ [vy]).toArray[f.offset]? = some vy := by simp [h.2, ← hpd]
            have p1 : (part f.type (pc ++ [vx]).toArray f.offset).run P w = .ok vx w := by simp only [part, Sem.run_bind, h1, Result.andThen_ok, Bool.false_eq_true, if_false, e1, Sem.run_pure]
            have p2 : (part f.type (pd ++ [vy]).toArray f.offset).run P w = .ok vy w := by simp only [part, Sem.run_bind, h1, Result.andThen_ok, Bool.false_eq_true, if_false, e2, Sem.run_pure]
            simp only [Op.eqFields, hn, ne_eq, not_false_eq_true, if_true, Sem.run_bind, p1, p2, Result.andThen_ok, h2, Sem.run_ite]
            show _ = Result.ok (eqK E a x y) w
            cases eqK E a x y <;> simp
  | .pair a b, o, fields, x, y, c, d, pc, pd, h, hn, hx, hy, hpc, hpd, n, w => by
    cases fields with
    | nil => cases h
    | cons f r =>
      simp only [List.map_cons, eqC, Bool.and_eq_true, decide_eq_true_eq] at h
      simp only [List.all_cons, Bool.and_eq_true, bne_iff_ne, ne_eq] at hn
      obtain ⟨c1, c2, rfl, hx, hx2⟩ := hx.pair_inv
      obtain ⟨d1, d2, rfl, hy, hy2⟩ := hy.pair_inv
      obtain ⟨vx, vy, rfl, rfl, h1, h2⟩ := okF_sound hT h.1.1 hx hy
      have e1 : (pc ++ ([vx] ++ c2)).toArray[f.offset]? = some vx := by simp [h.1.2, ← hpc]
      have e2 : (pd ++ ([vy] ++ d2)).toArray[f.offset]? = some vy := by simp [h.1.2, ← hpd]
      have p1 : (part f.type (pc ++ ([vx] ++ c2)).toArray f.offset).run P w = .ok vx w := by simp only [part, Sem.run_bind, h1, Result.andThen_ok, Bool.false_eq_true, if_false, e1, Sem.run_pure]
      have p2 : (part f.type (pd ++ ([vy] ++ d2)).toArray f.offset).run P w = .ok vy w := by simp only [part, Sem.run_bind, h1, Result.andThen_ok, Bool.false_eq_true, if_false, e2, Sem.run_pure]
      have ih := eqFields_ok hT b (o + 1) r x.2 y.2 c2 d2 (pc ++ [vx]) (pd ++ [vy]) h.2 hn.2 hx2 hy2 (by simp [hpc]) (by simp [hpd]) n w
      rw [List.append_assoc, List.append_assoc] at ih
      simp only [Op.eqFields, hn.1, ne_eq, not_false_eq_true, if_true, Sem.run_bind, p1, p2, Result.andThen_ok, h2, Sem.run_ite, ih]
      show _ = Result.ok (eqK E a x.1 y.1 && eqS E b x.2 y.2) w
      cases eqK E a x.1 y.1 <;> simp
  | .int _, _, fields, _, _, _, _, _, _, h, _, _, _, _, _, _, _ => by cases fields <;> cases h
  | .bool, _, fields, _, _, _, _, _, _, h, _, _, _, _, _, _, _ => by cases fields <;> cases h
  | .str, _, fields, _, _, _, _, _, _, h, _, _, _, _, _, _, _ => by cases fields <;> cases h
  | .sl _, _, fields, _, _, _, _, _, _, h, _, _, _, _, _, _, _ => by cases fields <;> cases h
  | .arr _ _, _, fields, _, _, _, _, _, _, h, _, _, _, _, _, _, _ => by cases fields <;> cases h
  | .nm _, _, fields, _, _, _, _, _, _, h, _, _, _, _, _, _, _ => by cases fields <;> cases h
  | .mp _ _, _, fields, _, _, _, _, _, _, h, _, _, _, _, _, _, _ => by cases fields <;> cases h
  | .any, _, fields, _, _, _, _, _, _, h, _, _, _, _, _, _, _ => by cases fields <;> cases h
/-! ### Arrays that are held against each other -/
theorem eqL_cons {e : Ty} {t : Nat} (h : okF tt e t = true) (a b : E.D e) (l m : List (E.D e)) : eqL E e (a :: l) (b :: m) = (eqK E e a b && eqL E e l m) := by
  unfold okF at h
  split at h
  · rfl
  · rfl
  · rfl
  · cases h
theorem eqL_nil {e : Ty} {t : Nat} (h : okF tt e t = true) : eqL E e [] [] = true := by
  unfold okF at h
  split at h
  · rfl
  · rfl
  · rfl
  · cases h
theorem eqItems_ok (hT : TOK P E tt) {e : Ty} {el : Nat} (h : okF tt e el = true) : ∀ (xs ys : List (E.D e)) (c d pc pd : List Value), c.length = xs.length → d.length = ys.length → xs.length = ys.length →
    (∀ i (hi : i < xs.length), RC M e xs[i] [c.getD i undef]) → (∀ i (hi : i < ys.length), RC M e ys[i] [d.getD i undef]) → pd.length = pc.length → ∀ n w,
    (Op.eqItems (n + 1) el 1 (pc ++ c).toArray (pd ++ d).toArray (List.range' pc.length xs.length)).run P w = .ok (eqL E e xs ys) w
  | [], [], c, d, pc, pd, _, _, _, _, _, _, n, w => by
    rw [eqL_nil h]
    simp [Op.eqItems]
  | [], _ :: _, _, _, _, _, _, _, hl, _, _, _, _, _ => by simp at hl
  | _ :: _, [], _, _, _, _, _, _, hl, _, _, _, _, _ => by simp at hl
  | x :: xs, y :: ys, [], d, pc, pd, hc, _, _, _, _, _, n, w => by simp at hc
  | x :: xs, y :: ys, _ :: _, [], pc, pd, _, hd, _, _, _, _, n, w => by simp at hd
  | x :: xs, y :: ys, u :: c, v :: d, pc, pd, hc, hd, hl, h1, h2, hp, n, w => by
    have g1 := h1 0 (by simp)
    have g2 := h2 0 (by simp)
    simp only [List.getElem_cons_zero, List.getD_cons_zero] at g1 g2
    obtain ⟨vx, vy, e1, e2, k1, k2⟩ := okF_sound hT h g1 g2
    injection e1 with e1 _
    injection e2 with e2 _
    subst e1 e2
    have p1 : (part el (pc ++ u :: c).toArray pc.length).run P w = .ok u w := by
      have : (pc ++ u :: c).toArray[pc.length]? = some u := by simp
      simp only [part, Sem.run_bind, k1, Result.andThen_ok, Bool.false_eq_true, if_false, this, Sem.run_pure]
    have p2 : (part el (pd ++ v :: d).toArray pc.length).run P w = .ok v w := by
      have : (pd ++ v :: d).toArray[pc.length]? = some v := by rw [← hp]; simp
      simp only [part, Sem.run_bind, k1, Result.andThen_ok, Bool.false_eq_true, if_false, this, Sem.run_pure]
    have ih := eqItems_ok hT h xs ys c d (pc ++ [u]) (pd ++ [v]) (by simpa using hc) (by simpa using hd) (by simpa using hl) (fun i hi => by
      have := h1 (i + 1) (by simpa using hi)
      simpa using this) (fun i hi => by
      have := h2 (i + 1) (by simpa using hi)
      simpa using this) (by simp [hp]) n w
    rw [List.append_assoc, List.append_assoc, List.singleton_append, List.singleton_append, List.length_append, List.length_singleton] at ih
    rw [List.length_cons, List.range'_succ, eqL_cons h]
    simp only [Op.eqItems, Nat.mul_one, Sem.run_bind, p1, p2, Result.andThen_ok, k2]
    cases hq : eqK E e x y with
    | false => simp
    | true => simpa using ih
theorem arr1 {e : Ty} {el m n : Nat} {xs : List (E.D e)} {cells : List Value} (hT : TOK P E tt) (h : okF tt e el = true) (hx : RC M (.arr n e) xs cells) : xs.length = n ∧ cells.length = n ∧ ∀ i (hi : i < xs.length), RC M e xs[i] [cells.getD i undef] := by
  cases hx with
  | arr _ _ css hn hl hx =>
    have one : ∀ i (hi : i < xs.length), ∃ v, css.getD i [] = [v] := fun i hi => by
      obtain ⟨vx, _, e1, _⟩ := okF_sound hT h (hx i hi) (hx i hi)
      exact ⟨vx, e1⟩
    have key : ∀ (css : List (List Value)), (∀ i, i < css.length → ∃ v, css.getD i [] = [v]) → css.flatten.length = css.length ∧ ∀ i, i < css.length → css.getD i [] = [css.flatten.getD i undef] := by
      intro css
      induction css with
      | nil => intro _; exact ⟨rfl, fun i hi => by simp at hi⟩
      | cons c l ih =>
        intro h1
        obtain ⟨v, hv⟩ := h1 0 (by simp)
        simp only [List.getD_cons_zero] at hv
        subst hv
        obtain ⟨i1, i2⟩ := ih fun i hi => by
          have := h1 (i + 1) (by simpa using hi)
          simpa using this
        refine ⟨by simp [i1], fun i hi => ?_⟩
        match i, hi with
        | 0, _ => simp
        | i + 1, hi =>
          have := i2 i (by simpa using hi)
          simpa using this
    obtain ⟨k1, k2⟩ := key css fun i hi => one i (by omega)
    refine ⟨hn, by omega, fun i hi => ?_⟩
    rw [← k2 i (by omega)]
    exact hx i hi
theorem cst_arr {n m : Nat} {e e' : Ty} {v : E.D (.arr m e')} {x : E.D (.arr n e)} (h : cst (E := E) (.arr m e') (.arr n e) v = some x) : m = n ∧ e' = e ∧ HEq v x := by
  unfold cst at h
  split at h
  · rename_i q
    injection q with q1 q2
    subst q1 q2
    injection h with h
    exact ⟨rfl, rfl, heq_of_eq h⟩
  · cases h
theorem cellsOf_one {el : Nat} {i : TypeInfo} (hi : P.info? el = some i) (hs : i.size = 1) : P.cellsOf el = 1 := by
  unfold Program.cellsOf
  rw [hi]
  simpa using hs
theorem binX_sound (hE : EnvOK E) (hT : TOK P E tt) {op : BinOp} {a b c : AV E} {va vb : Value} {t : Nat} (h : binX tt t op a b = some (true, c)) (ha : RS M μ a va) (hb : RS M μ b vb) (x y : Operand) :
    PureOK P M μ c (do eqGuard op t x y va vb; binOp op t va vb) := by
  unfold binX at h
  split at h
  · rename_i n e u m e' v
    split at h
    · rename_i v' hv
      obtain ⟨hnm, he', hv⟩ := cst_arr hv
      subst hnm he'
      cases hv
      obtain ⟨hty, h⟩ := bif_true h
      have hty := of_decide_eq_true hty
      unfold binA at h
      split at h
      · rename_i m' el htd
        obtain ⟨hq, h⟩ := bif_true h
        obtain ⟨tx, h1, h2, h3, h4⟩ := hT.get (t := t) (by rw [htd]; simp)
        obtain ⟨yel, hy, hu, hty2⟩ := hT.arr htd
        have hx2 : tx.d = .arr m' el := by rw [← h2, htd]
        have he := h4.eqs
        rw [hx2] at he
        simp only at he
        have hel : tyOf tt el = e' := by
          rw [tyOf_some hy]
          rw [hty] at hty2
          injection hty2 with _ h5
          exact h5.symm
        rw [hel] at he
        have q3 := he hq
        obtain ⟨i, hi, his⟩ := (hT el yel hy).size
        have his : i.size = 1 := by
          rw [his]
          refine size_one ?_
          have : yel.ty = e' := by rw [← hel, tyOf_some hy]
          rw [this]
          unfold okF at hq
          split at hq <;> first | rfl | cases hq
        have hc1 := cellsOf_one hi his
        have hm : m' = m := by
          rw [hty] at hty2
          injection hty2 with h5 _
          exact h5.symm
        subst hm
        cases ha with
        | v ha => cases ha with
          | t ha => cases hb with
            | v hb => cases hb with
              | t hb =>
                rename_i c1 c2
                obtain ⟨l1, l2, l3⟩ := arr1 (m := 0) hT hq ha
                obtain ⟨l4, l5, l6⟩ := arr1 (m := 0) hT hq hb
                have key : ∀ w, (Op.equalIn 10000 t (.agg c1.toArray) (.agg c2.toArray)).run P w = .ok (eqL E e' u v) w := by
                  intro w
                  rw [run_equalIn_array w 9999 c1.toArray c2.toArray hu hi, hc1]
                  have := eqItems_ok (M := M) hT hq u v c1 c2 [] [] (l2.trans l1.symm) (l5.trans l4.symm) (l1.trans l4.symm) l3 l6 rfl 9998 w
                  rw [l1] at this
                  simpa [List.range_eq_range'] using this
                split at h
                · cases h
                  intro w _
                  exact ⟨_, by simp [mkV, AV.isAgg, Ty.agg, run_eqGuard_agg w _ t x y _ _ q3, run_eql_struct, key], RS.bool _⟩
                · cases h
                  intro w _
                  exact ⟨_, by simp [mkV, AV.isAgg, Ty.agg, run_eqGuard_agg w _ t x y _ _ q3, run_neq_struct, key], RS.bool _⟩
                · cases h
      · cases h
    · cases h
  · rename_i n u m v
    split at h
    · rename_i v' hv
      obtain ⟨hnm, hv⟩ := cst_nm hv
      subst hnm
      cases hv
      obtain ⟨hty, h⟩ := bif_true h
      have hty := of_decide_eq_true hty
      unfold binN at h
      split at h
      · rename_i fs htd
        obtain ⟨hq, h⟩ := bif_true h
        obtain ⟨tx, h1, h2, h3, h4⟩ := hT.get (t := t) (by rw [htd]; simp)
        obtain ⟨u', g1, _, g3⟩ := h4.und
        have hx2 : tx.d = .struct fs := by rw [← h2, htd]
        have he := h4.eqs
        rw [hx2] at g3 he
        obtain ⟨⟨fields, rfl, g4⟩, _⟩ := g3
        obtain ⟨q1, q2, q3⟩ := he (by rw [← h3, hty]; exact hq)
        have q1 := q1 fields g1
        cases ha with
        | v ha => cases ha with
          | t ha => cases hb with
            | v hb => cases hb with
              | t hb => cases ha with
                | nm ha => cases hb with
                  | nm hb =>
                    rename_i c1 c2
                    have hfo : P.fieldsOf t = fields := by unfold Program.fieldsOf; rw [g1]
                    have key : ∀ w, (Op.equalIn 10000 t (.agg c1.toArray) (.agg c2.toArray)).run P w = .ok (eqS E (E.body m) (E.un m u) (E.un m v)) w := by
                      intro w
                      rw [run_equalIn_struct w 9999 t _ _ (by rw [hfo]; exact g1) q2, hfo]
                      have := eqFields_ok (M := M) hT (E.body m) 0 fields.toList _ _ c1 c2 [] [] (by rw [g4]; exact hq) q1 ha hb rfl rfl 9998 w
                      simpa using this
                    split at h
                    · cases h
                      intro w _
                      exact ⟨_, by simp [mkV, AV.isAgg, Ty.agg, run_eqGuard_agg w _ t x y _ _ q3, run_eql_struct, key], RS.bool _⟩
                    · cases h
                      intro w _
                      exact ⟨_, by simp [mkV, AV.isAgg, Ty.agg, run_eqGuard_agg w _ t x y _ _ q3, run_neq_struct, key], RS.bool _⟩
                    · cases h
      · cases h
    · cases h
  · exact bin_sound hT h ha hb x y

theorem pure_sound (hE : EnvOK E) (hz : ∀ n, RC M (.nm n) (E.dfl n) (E.zc n)) (hT : TOK P E tt) {ρ : Operand → Value} (hρ : ∀ v, ρ (.const v) = v) {o : Oper} {l : List (AV E)} {a : AV E}
    (h : pureA tt o.op o.type l = some (true, a)) (hl : RSL M μ l (o.op.operands.toList.map ρ)) : OpOK P M μ a (execOp ρ o) := by
  generalize hop : o.op = op at h hl
  unfold pureA at h
  split at h
  case h_1 x v =>
    simp only [Op.operands] at hl
    split at h
    · cases h
    · cases h
    · cases h
      cases hl with
      | cons hx _ => simp only [execOp, hop]; rw [hx.c_inv]; exact .val (cv_sound _ _)
  case h_2 x v =>
    simp only [Op.operands] at hl
    split at h
    · cases h
    · cases h
    · cases h
      cases hl with
      | cons hx _ => simp only [execOp, hop]; rw [hx.c_inv]; exact .val (cv_sound _ _)
  case h_3 x y _ =>
    cases h
    cases hl with
    | cons hx _ => simp only [execOp, hop]; exact .val hx
  case h_4 x y _ =>
    cases h
    cases hl with
    | cons hx _ => simp only [execOp, hop]; exact .val hx
  case h_5 c' a' b' c a b =>
    simp only [Op.operands, List.map_cons, List.map_nil] at hl
    cases hl with
    | cons hc hl => cases hl with
      | cons ha hl => cases hl with
        | cons hb _ =>
          split at h
          · rename_i cc hcc
            cases h
            have hc' := ca_sound (tt := tt) (t := 0) hc
            rw [hcc] at hc'
            have hcv := hc'.bool_inv
            simp only [execOp, hop]
            exact run_pick hcv (ca_sound ha) (ca_sound hb)
          · cases h
  case h_6 t ps l =>
    simp only [execOp, hop]
    rw [build_parts]
    refine .of (build_sound hE hz hT h ?_ ?_)
    · have e : ∀ (t : TypeId) (ps : Array (Nat × Operand)), (Op.build t ps).operands.toList.map ρ = ps.toList.map fun p => ρ p.2 := fun t ps => by simp [Op.operands]
      rw [e] at hl
      exact hl
    · have := hl.length
      simpa [Op.operands] using this
  case h_7 t y i x =>
    cases hl with
    | cons hx _ => simp only [execOp, hop]; exact .of (fieldAddr_sound hE hT h hx)
  case h_8 t y i x =>
    cases hl with
    | cons hx _ => simp only [execOp, hop]; exact .of (fieldVal_sound hE hT h hx)
  case h_9 op t xo yo t' x y =>
    simp only [Op.operands, List.map_cons, List.map_nil] at hl
    cases hl with
    | cons hx hl => cases hl with
      | cons hy _ =>
        simp only [execOp, hop]
        split at h
        · rw [hρ]; exact .of (nilBin_sound hT h hx xo)
        · rw [hρ]; exact .of (nilBin_sound hT h hx xo)
        · rw [hρ]; exact .of (nilBin_sound hT h hx xo)
        · rw [hρ]; exact .of (nilBin_sound hT h hx xo)
        · exact .of (binX_sound hE hT h (ca_sound hx) (ca_sound hy) xo yo)
  case h_10 op t y x =>
    cases hl with
    | cons hx _ => simp only [execOp, hop]; exact .of (unA_sound h (ca_sound hx))
  case h_11 t x' i' x i =>
    simp only [Op.operands, List.map_cons, List.map_nil] at hl
    cases hl with
    | cons hx hl => cases hl with
      | cons hi _ => simp only [execOp, hop]; exact .of (idxA_sound hE hT h hx hi)
  case h_12 t x' i' x i =>
    simp only [Op.operands, List.map_cons, List.map_nil] at hl
    cases hl with
    | cons hx hl => cases hl with
      | cons hi _ => simp only [execOp, hop]; exact .of (idxV_sound hE hT h (ca_sound hx) hi)
  case h_13 t x' lo hi mx x l =>
    split at h
    · rename_i lo' hi' mx' ho
      have hl0 := hl
      simp only [Op.operands] at hl
      have e1 : ((#[x'] ++ lo.toArray ++ hi.toArray ++ mx.toArray).toList.map ρ) = ρ x' :: (([lo, hi, mx].filterMap id).map ρ) := by
        cases lo <;> cases hi <;> cases mx <;> rfl
      rw [e1] at hl
      cases hl with
      | cons hx hl =>
        obtain ⟨_, h2⟩ := optN_sound _ _ _ _ ho hl rfl
        simp only [execOp, hop]
        exact .of (slc_sound hE hT h (ca_sound hx) (h2 0 (by simp) (by simp)) (h2 1 (by simp) (by simp)) (h2 2 (by simp) (by simp)))
    · cases h
  case h_14 src dst y x =>
    cases hl with
    | cons hx _ => simp only [execOp, hop]; exact .of (conv_sound hE hT h (ca_sound hx))
  case h_15 g fi cs =>
    cases h
    simp only [execOp, hop]
    simp only [Op.operands] at hl
    have h0 := hl.length
    simp only [Array.toList_append, List.map_append, List.length_append, List.length_map, Array.length_toList, List.length_nil] at h0
    have e1 : fi = #[] := Array.size_eq_zero_iff.1 (by omega)
    have e2 : cs = #[] := Array.size_eq_zero_iff.1 (by omega)
    subst e1 e2
    have : RS (E := E) M μ (.func g []) (.func (.func g) #[] #[]) := RS.v (a := .func g []) (.func g [] [] rfl (fun i hi => by simp at hi))
    exact .of (.pure (by simpa using this))
  case h_16 y i l =>
    cases hl with
    | cons hx _ =>
      simp only [execOp, hop]
      obtain ⟨vs, hv, hvl, hvs⟩ := hx.tup_inv
      rw [hv]
      split at h
      · rename_i a' ha
        cases h
        obtain ⟨hi, he⟩ := List.getElem?_eq_some_iff.1 ha
        refine .of fun w _ => ?_
        have hi' : i < vs.length := by omega
        refine ⟨vs[i], by simp [Instr.extract, hi'], ?_⟩
        rcases hvs i hi with h0 | ⟨cs, h1, h2⟩
        · rw [he] at h0; rw [h0]; exact .undef _
        · rw [List.getD_of_lt _ _ _ hi'] at h2
          rw [he] at h1 h2
          rw [h2]
          exact RS.v h1
      · cases h
  case h_17 y z =>
    cases hl with
    | cons hx _ =>
      simp only [execOp, hop]
      split at h
      · rename_i hn
        cases h
        obtain ⟨cs, hr, hv⟩ := hx.agg_inv (by rintro rfl; simp [isNil] at hn) (by rintro v rfl; simp [isNil] at hn) (by rintro l rfl; simp [isNil] at hn)
        have := hx
        rw [hv] at this ⊢
        cases hr <;> simp only [isNil, reduceCtorEq, Option.some.injEq] at hn <;> (try cases hn)
        all_goals exact .val this
      · cases h
  case h_18 t y ty v =>
    cases hl with
    | cons hx _ =>
      simp only [execOp, hop]
      have hx0 := bif_true h; clear h; obtain ⟨hd, h⟩ := hx0
      have hd : ty = tyOf tt t := by simpa using hd
      cases h
      obtain ⟨cs, hr, hv⟩ := hx.agg_inv (by simp) (by simp) (by simp)
      rw [hv]
      cases hr with
      | imm b o hc hat =>
        rename_i cells
        cases hX : tt t with
        | none =>
          simp only [tyOf, hX] at hd
          subst hd
          cases hc
        | some X =>
          rw [tyOf_some hX] at hd
          subst hd
          refine .of fun w hw => ⟨_, ?_, RS.of_t hc⟩
          have := run_loadVar (P := P) (hT t X hX) (hat.inMem hw) (hc.len hE) (fun ha => by rw [hc.len hE, size_one ha])
          simpa [Instr.loadAt, Instr.sureAddr, mkV, AV.isAgg] using this
  case h_19 l c =>
    simp only [Op.operands] at hl
    split at h
    · rename_i t a hcal hat
      obtain ⟨y, hy⟩ := args_one (by simpa [Call.operands, hcal] using hl.length)
      have h0 : c.argTypes[0]? = some t := by
        have : c.argTypes = #[t] := Array.ext' hat
        rw [this]; rfl
      have hl' : RSL M μ [a] [ρ y] := by simpa [Call.operands, hcal, hy] using hl
      cases hl' with
      | cons hx _ =>
        rw [run_builtin hop hcal, hy, show Array.map ρ #[y] = #[ρ y] by simp]
        exact .of (lenA_sound hT h hx c.argTypes h0 o.type)
    · rename_i t e xs hcal hat
      obtain ⟨y, hy⟩ := args_one (by simpa [Call.operands, hcal] using hl.length)
      have h0 : c.argTypes[0]? = some t := by
        have : c.argTypes = #[t] := Array.ext' hat
        rw [this]; rfl
      have hl' : RSL M μ [.exact e xs] [ρ y] := by simpa [Call.operands, hcal, hy] using hl
      cases hl' with
      | cons hx _ =>
        rw [run_builtin hop hcal, hy]
        split at h
        · rename_i el htd
          cases h
          obtain ⟨cs, hr, hv⟩ := hx.agg_inv (by simp) (by simp) (by simp)
          cases hr with
          | exact _ _ base hr =>
            refine .of fun w _ => ⟨.int .i64 xs.length, ?_, RS.int _ _⟩
            simp [Builtin.cap_, h0, run_underlying' (hT.slice' htd), hv, mkV, AV.isAgg, goInt]
        · cases h
    · rename_i t e hcal hat
      obtain ⟨y, hy⟩ := args_one (by simpa [Call.operands, hcal] using hl.length)
      have h0 : c.argTypes[0]? = some t := by
        have : c.argTypes = #[t] := Array.ext' hat
        rw [this]; rfl
      have hl' : RSL (E := E) M μ [.snil e] [ρ y] := by simpa [Call.operands, hcal, hy] using hl
      cases hl' with
      | cons hx _ =>
        rw [run_builtin hop hcal, hy]
        split at h
        · rename_i el htd
          cases h
          obtain ⟨cs, hr, hv⟩ := hx.agg_inv (by simp) (by simp) (by simp)
          cases hr with
          | snil =>
            refine .of fun w _ => ⟨.int .i64 0, ?_, RS.int _ _⟩
            simp [Builtin.cap_, h0, run_underlying' (hT.slice' htd), hv, mkV, AV.isAgg, goInt]
        · cases h
    · rename_i a b hcal
      obtain ⟨y, z, hy⟩ := args_two (by simpa [Call.operands, hcal] using hl.length)
      have hl' : RSL M μ [a, b] [ρ y, ρ z] := by simpa [Call.operands, hcal, hy] using hl
      cases hl' with
      | cons hx hl' => cases hl' with
        | cons hx' _ =>
          rw [run_builtin hop hcal, hy, show Array.map ρ #[y, z] = #[ρ y, ρ z] by simp]
          exact .of (mxA_sound h (ca_sound hx) (ca_sound hx') c.argTypes o.type)
    · rename_i a b hcal
      obtain ⟨y, z, hy⟩ := args_two (by simpa [Call.operands, hcal] using hl.length)
      have hl' : RSL M μ [a, b] [ρ y, ρ z] := by simpa [Call.operands, hcal, hy] using hl
      cases hl' with
      | cons hx hl' => cases hl' with
        | cons hx' _ =>
          rw [run_builtin hop hcal, hy, show Array.map ρ #[y, z] = #[ρ y, ρ z] by simp]
          exact .of (mnA_sound h (ca_sound hx) (ca_sound hx') c.argTypes o.type)
    · cases h
  case h_20 => cases h

/-! ### What it leads to -/
theorem OKA.part {b : List (Blk E)} {a : AV E} (h : OKA b a) : ∀ i, OKA b (fld a i) := by
  intro i
  cases a with
  | t ty v =>
    have : fld (.t ty v) i = .undef ∨ ∃ ty' v', fld (.t ty v) i = .t ty' v' := by
      cases ty with
      | nm n => exact fldT_cases (E.body n) (E.un n v) i
      | _ => exact fldT_cases _ v i
    rcases this with h0 | ⟨ty', v', h0⟩ <;> rw [h0]
    · exact .undef _
    · exact .t _ _ _
  | agg cs =>
    cases h with
    | plain h hn => exact absurd rfl (hn cs)
    | agg _ h =>
      simp only [fld, List.getD_eq_getElem?_getD]
      cases hc : cs[i]? with
      | none => exact .undef _
      | some c => exact h c (List.mem_of_getElem? hc)
  | _ => exact .undef _
theorem OKA.getP {b : List (Blk E)} : ∀ (p : List Nat) {a : AV E}, OKA b a → OKA b (Fv.getP a p)
  | [], a, h => h
  | i :: p, a, h => OKA.getP p (h.part i)
theorem OKA.zeroX {b : List (Blk E)} {z : Nat → AV E} (hz : ∀ t, OKA b (z t)) (x : TE) : OKA b (Fv.zeroX z x) := by
  unfold Fv.zeroX
  cases x.ty.full with
  | true => exact .t _ _ _
  | false =>
    simp only [cond_false]
    split
    · refine .agg _ fun c hc => ?_
      obtain ⟨f, _, rfl⟩ := List.mem_map.1 hc
      exact hz _
    all_goals exact .plain trivial (by simp) (by simp) (by simp)
theorem OKA.zeroA {b : List (Blk E)} : ∀ (n t : Nat), OKA b (Fv.zeroA (E := E) tt n t)
  | 0, t => .undef _
  | n + 1, t => by
    unfold Fv.zeroA
    split
    · exact .undef _
    · exact .zeroX (fun t => OKA.zeroA n t) _

theorem lookup_mem' {α : Type} : ∀ (ps : List (Nat × α)) (i : Nat) (v : α), ps.lookup i = some v → (i, v) ∈ ps
  | [], i, v, h => by simp at h
  | (j, w) :: ps, i, v, h => by
    rw [List.lookup_cons] at h
    cases hij : i == j with
    | true =>
      rw [hij] at h
      simp only [Option.some.injEq] at h
      have : i = j := by simpa using hij
      subst this h
      simp
    | false =>
      rw [hij] at h
      exact List.mem_cons_of_mem _ (lookup_mem' ps i v h)
theorem OKA.pickA {b : List (Blk E)} {c : Bool} {x y : AV E} (hx : OKA b x) (hy : OKA b y) : OKA b (Fv.pickA c x y) := by
  unfold Fv.pickA
  split
  · exact .t _ _ _
  · cases c
    · exact hy
    · exact hx
theorem OKA.plain' {b : List (Blk E)} {a : AV E} (h : OKA b a) (hs : (∀ cs, a ≠ .agg cs) ∧ (∀ l, a ≠ .tup l) ∧ ∀ t x, a ≠ .iface t x) : OKs b a := by
  cases h with
  | plain h => exact h
  | agg cs => exact absurd rfl (hs.1 cs)
  | tup l => exact absurd rfl (hs.2.1 l)
  | iface t x => exact absurd rfl (hs.2.2 t x)
theorem r1_some {a b : AV E} {c : Bool} (h : r1 a = some (c, b)) : b = a := by cases h; rfl
theorem rc_some {a b : AV E} {c d : Bool} (h : rc d a = some (c, b)) : b = a := by cases h; rfl
theorem binI_t {op : BinOp} {k : IntKind} {x y : Int} {a : AV E} {c : Bool} (h : binI (E := E) op k x y = some (c, a)) : ∃ ty v, a = .t ty v := by
  cases op <;> simp only [binI, r1, rc, reduceCtorEq, Option.some.injEq, Prod.mk.injEq] at h <;> (try obtain ⟨_, rfl⟩ := h) <;> exact ⟨_, _, rfl⟩
theorem bin_t {td : TD} {op : BinOp} {x y a : AV E} {c : Bool} (h : bin td op x y = some (c, a)) : ∃ ty v, a = .t ty v := by
  unfold bin at h
  split at h
  · unfold binII at h
    split at h
    · cases h; exact ⟨_, _, rfl⟩
    · cases h; exact ⟨_, _, rfl⟩
    · exact binI_t (bif_true h).2
  · cases op <;> simp only [binS, r1, rc, reduceCtorEq, Option.some.injEq, Prod.mk.injEq] at h <;> (try obtain ⟨_, rfl⟩ := h) <;> exact ⟨_, _, rfl⟩
  · split at h
    · unfold binB at h
      split at h <;> first | (cases h; exact ⟨_, _, rfl⟩) | cases h
    · cases h
  · cases h

theorem slc_ok {t : Nat} {x a : AV E} {lo hi mx : Option Int} {c : Bool} (h : slc tt t x lo hi mx = some (c, a)) (hc : c = true) (b : List (Blk E)) (hx : OKA b x) : OKA b a := by
  unfold slc at h
  split at h
  · split at h
    · split at h <;> cases h <;> exact .t _ _ _
    · cases h
  · split at h
    · have hx0 := bif_true h; clear h; obtain ⟨hd, h⟩ := hx0
      cases h
      exact .plain trivial (by simp) (by simp) (by simp)
    · have hx0 := bif_true h; clear h; obtain ⟨hd, h⟩ := hx0
      cases h
      exact .plain trivial (by simp) (by simp) (by simp)
    · cases h
  · rename_i idr er nr
    split at h
    · have hx0 := bif_true h; clear h; obtain ⟨hd, h⟩ := hx0
      cases h
      obtain ⟨k, hk⟩ := hx.plain' (by simp)
      exact .plain ⟨k, hk, Nat.zero_le _⟩ (by simp) (by simp) (by simp)
    · cases h
  · split at h
    · have hx0 := bif_true h; clear h; obtain ⟨hd, h⟩ := hx0
      rename_i idx ex offx lenx _ _ _ _
      have hx' : (∃ ys, blk b idx = .row ex ys ∧ offx + lenx ≤ ys.length) ∨ blk b idx = .rowz ex := hx.plain' (by simp)
      have key : ∀ (off' len' : Nat), off' + len' ≤ offx + lenx → OKA b (.fs (E := E) idx ex off' len') := fun off' len' h' => .plain (hx'.imp (fun ⟨ys, h1, h2⟩ => ⟨ys, h1, Nat.le_trans h' h2⟩) id) (by simp) (by simp) (by simp)
      have h2 := Nat.le_refl (offx + lenx)
      split at h
      · cases h; exact key _ _ h2
      · cases h
        simp only [Bool.and_eq_true, decide_eq_true_eq] at hc
        exact key _ _ (by omega)
      · cases h
    · cases h
  · split at h
    · have hx0 := bif_true h; clear h; obtain ⟨hd, h⟩ := hx0
      split at h
      · split at h <;> cases h <;> exact .t _ _ _
      · split at h
        · cases h; exact .exact _ _ _
        · cases h; exact .exact _ _ _
        · cases h
    · cases h

theorem binX_t {t : Nat} {op : BinOp} {x y a : AV E} {c : Bool} (h : binX tt t op x y = some (c, a)) : ∃ ty v, a = .t ty v := by
  unfold binX at h
  split at h
  · split at h
    · obtain ⟨_, h⟩ := bif_true h
      unfold binA at h
      split at h
      · obtain ⟨_, h⟩ := bif_true h
        split at h <;> cases h <;> exact ⟨_, _, rfl⟩
      · cases h
    · cases h
  · split at h
    · obtain ⟨_, h⟩ := bif_true h
      unfold binN at h
      split at h
      · obtain ⟨_, h⟩ := bif_true h
        split at h <;> cases h <;> exact ⟨_, _, rfl⟩
      · cases h
    · cases h
  · exact bin_t h
theorem pure_ok {o : Oper} {l : List (AV E)} {a : AV E} {c : Bool} (h : pureA tt o.op o.type l = some (c, a)) (hc : c = true) (b : List (Blk E)) (hl : ∀ x ∈ l, OKA b x) : OKA b a := by
  generalize hop : o.op = op at h
  unfold pureA at h
  split at h
  case h_1 => split at h <;> cases h; exact .cv _ _ _
  case h_2 => split at h <;> cases h; exact .cv _ _ _
  case h_3 x y _ => cases h; exact hl _ (by simp)
  case h_4 x y _ => cases h; exact hl _ (by simp)
  case h_5 cc x y =>
    split at h
    · cases h
      exact .pickA (.ca _ (hl _ (by simp))) (.ca _ (hl _ (by simp)))
    · cases h
  case h_6 _ t ps =>
    unfold build at h
    split at h
    · cases h
    · split at h
      · have hx0 := bif_true h; clear h; obtain ⟨hd, h⟩ := hx0
        rename_i x hx _ fs hfs
        cases hf : x.ty.full with
        | true =>
          rw [hf] at h
          simp only [cond_true] at h
          split at h <;> cases h
          exact .t _ _ _
        | false =>
          rw [hf] at h
          simp only [cond_false] at h
          have hx0 := bif_true h; clear h; obtain ⟨hd, h⟩ := hx0
          cases h
          refine .agg _ fun c hc => ?_
          obtain ⟨i, hi, rfl⟩ := List.mem_iff_getElem.1 hc
          have hi' : i < fs.length := by rw [← parts_len (tt := tt) ((ps.toList.map (·.1)).zip l) fs 0]; exact hi
          have hg := parts_get (tt := tt) ((ps.toList.map (·.1)).zip l) fs 0 i fs[i] (by simp [hi'])
          rw [List.getElem?_eq_getElem hi] at hg
          rw [Option.some.inj hg]
          split
          · rename_i y hy
            refine .ca _ (hl _ ?_)
            have := lookup_mem' _ _ _ hy
            exact (List.of_mem_zip this).2
          · exact .zeroA _ _
      · split at h
        · have hx0 := bif_true h; clear h; obtain ⟨hd, h⟩ := hx0
          split at h
          · cases h
            exact .t _ _ _
          · cases h
        · cases h
      · cases h
  case h_7 t y i x =>
    unfold fldAddr at h
    split at h
    · have hx0 := bif_true h; clear h; obtain ⟨hd, h⟩ := hx0
      split at h
      · have hx0 := bif_true h; clear h; obtain ⟨hd, h⟩ := hx0
        cases h
        have := (hl _ (List.mem_singleton.2 rfl)).plain' (by simp)
        exact .plain this (by simp) (by simp) (by simp)
      · have hx0 := bif_true h; clear h; obtain ⟨hd, h⟩ := hx0
        cases h
        have := (hl _ (List.mem_singleton.2 rfl)).plain' (by simp)
        exact .plain this (by simp) (by simp) (by simp)
      · have hx0 := bif_true h; clear h; obtain ⟨hd, h⟩ := hx0
        split at h <;> cases h
        exact .imm _ _ _
      · cases h
    · cases h
  case h_8 t y i x =>
    unfold fldVal at h
    split at h
    · have hx0 := bif_true h; clear h; obtain ⟨hd, h⟩ := hx0
      split at h
      · have hx0 := bif_true h; clear h; obtain ⟨hd, h⟩ := hx0
        obtain ⟨rfl, _⟩ := defd_some h
        exact (hl _ (List.mem_singleton.2 rfl)).part _
      · have hx0 := bif_true h; clear h; obtain ⟨hd, h⟩ := hx0
        obtain ⟨rfl, _⟩ := defd_some h
        exact (hl _ (List.mem_singleton.2 rfl)).part _
      · cases h
    · cases h
  case h_9 op t xo yo t' x y =>
    split at h
    · unfold nilBin at h
      split at h <;> first | (cases h; done) | (injection h with h; injection h with hk h; subst h; exact .t _ _ _)
    · unfold nilBin at h
      split at h <;> first | (cases h; done) | (injection h with h; injection h with hk h; subst h; exact .t _ _ _)
    · unfold nilBin at h
      split at h <;> first | (cases h; done) | (injection h with h; injection h with hk h; subst h; exact .t _ _ _)
    · unfold nilBin at h
      split at h <;> first | (cases h; done) | (injection h with h; injection h with hk h; subst h; exact .t _ _ _)
    · obtain ⟨ty, v, rfl⟩ := binX_t h
      exact .t _ _ _
  case h_10 op t y x =>
    unfold unA at h
    split at h <;> cases h <;> exact .t _ _ _
  case h_11 t x' i' x i =>
    unfold idxA at h
    split at h
    · cases h
    · split at h
      · split at h
        · have hx0 := bif_true h; clear h; obtain ⟨hd, h⟩ := hx0
          cases h
          rcases (hl _ (List.mem_cons_self ..)).plain' (by simp) with ⟨ys, h1, h2⟩ | h1
          · exact .plain (.inl ⟨ys, h1⟩) (by simp) (by simp) (by simp)
          · exact .plain (.inr h1) (by simp) (by simp) (by simp)
        · split at h
          · have hx0 := bif_true h; clear h; obtain ⟨hd, h⟩ := hx0
            cases h
            exact .imm _ _ _
          · cases h
      · split at h
        · have hx0 := bif_true h; clear h; obtain ⟨hd, h⟩ := hx0
          cases h
          have := (hl _ (List.mem_cons_self ..)).plain' (by simp)
          exact .plain this (by simp) (by simp) (by simp)
        · have hx0 := bif_true h; clear h; obtain ⟨hd, h⟩ := hx0
          cases h
          have := (hl _ (List.mem_cons_self ..)).plain' (by simp)
          exact .plain this (by simp) (by simp) (by simp)
        · have hx0 := bif_true h; clear h; obtain ⟨hd, h⟩ := hx0
          cases h
          exact .imm _ _ _
        · cases h
      · cases h
  case h_12 t x' i' x i =>
    unfold idxV at h
    split at h
    · cases h
    · split at h
      · split at h <;> cases h <;> exact .t _ _ _
      · have hx0 := bif_true h; clear h; obtain ⟨hd, h⟩ := hx0
        split at h <;> cases h <;> exact .t _ _ _
      · cases h
  case h_13 t x' lo hi mx x l =>
    split at h
    · exact slc_ok h hc b (.ca _ (hl _ (List.mem_cons_self ..)))
    · cases h
  case h_14 src dst y x =>
    unfold conv at h
    split at h
    · cases h; exact .t _ _ _
    · cases h; exact .t _ _ _
    · cases h; exact .t _ _ _
    · split at h <;> cases h; exact .t _ _ _
    · cases h
  case h_15 => cases h; exact .plain trivial (by simp) (by simp) (by simp)
  case h_16 y i l =>
    split at h
    · rename_i a' ha
      cases h
      have := hl (.tup l) (by simp)
      cases this with
      | plain _ _ ht => exact absurd rfl (ht l)
      | tup _ h => exact h _ (List.mem_of_getElem? ha)
    · cases h
  case h_17 y z =>
    split at h <;> cases h
    exact hl _ (by simp)
  case h_18 =>
    have hx0 := bif_true h; clear h; obtain ⟨hd, h⟩ := hx0
    cases h
    exact .t _ _ _
  case h_19 l c =>
    split at h
    · unfold lenA at h
      split at h
      · cases h; exact .t _ _ _
      · cases h; exact .t _ _ _
      · cases h; exact .t _ _ _
      · split at h <;> cases h; exact .t _ _ _
      · cases h
    · split at h <;> cases h; exact .t _ _ _
    · split at h <;> cases h; exact .t _ _ _
    · unfold mxA at h
      split at h
      · cases (bif_true h).2; exact .t _ _ _
      · cases h
    · unfold mnA at h
      split at h
      · cases (bif_true h).2; exact .t _ _ _
      · cases h
    · cases h
  case h_20 => cases h
end Go.Proofs.YtbmpjppfdeohnaaDoor.Fv

/-! From one state of memory to a later one: what is told of a value stays true. -/
namespace Go.Proofs.YtbmpjppfdeohnaaDoor.Fv
variable [Quiet]
variable {E : Env} {P : Program} {tt : Nat → Option TE} {M M' M'' : Mem} {μ μ' μ'' : Mu} {b b' b'' : List (Blk E)} {w w' w'' : World}

theorem blk_lt {i : Nat} (h : blk b i ≠ .none) : i < b.length := by
  rcases Nat.lt_or_ge i b.length with h' | h'
  · exact h'
  · exact absurd (by simp [blk, List.getD_eq_getElem?_getD, h']) h
theorem blk_ge {i : Nat} (h : b.length ≤ i) : blk b i = .none := by simp [blk, List.getD_eq_getElem?_getD, h]

def LivesAll (μ : Mu) (b : List (Blk E)) (μ' : Mu) (b' : List (Blk E)) : Prop := ∀ i, Lives (μ i) (μ' i) (blk b i) (blk b' i)
theorem Tr.all {L : Nat} (h : Tr L M μ b w M' μ' b' w') (hL : b.length ≤ L) : LivesAll μ b μ' b' := fun i => by
  rcases Nat.lt_or_ge i L with hi | hi
  · exact h.lives i hi
  · rw [blk_ge (by omega)]; trivial
theorem Lives.refl (c : Conc) (x : Blk E) : Lives c c x x := by
  cases x with
  | none => trivial
  | var => exact ⟨rfl, rfl⟩
  | frz => exact ⟨rfl, HEq.rfl, rfl⟩
  | grow => exact ⟨rfl, Nat.le_refl _, fun _ _ => rfl⟩
  | row => exact ⟨rfl, rfl, rfl, rfl⟩
  | rowz => exact ⟨rfl, rfl, rfl⟩
  | mp k v e => exact ⟨rfl, rfl, rfl⟩
  | mpz => exact (rfl : c.g = c.g)
theorem Lives.trans {c c' c'' : Conc} {x y z : Blk E} (h : Lives c c' x y) (h' : Lives c' c'' y z) : Lives c c'' x z := by
  cases x with
  | none => trivial
  | var ly a => cases y with
    | var => cases z with
      | var => exact ⟨h'.1.trans h.1, h'.2.trans h.2⟩
      | frz => exact ⟨h'.1.trans h.1, h'.2.trans h.2⟩
      | _ => exact h'.elim
    | frz => cases z with
      | frz => exact ⟨h'.1.trans h.1, h'.2.2.trans h.2⟩
      | _ => exact h'.elim
    | _ => exact h.elim
  | frz ly v => cases y with
    | frz => cases z with
      | frz => exact ⟨h'.1.trans h.1, h.2.1.trans h'.2.1, h'.2.2.trans h.2.2⟩
      | _ => exact h'.elim
    | _ => exact h.elim
  | grow e n => cases y with
    | grow => cases z with
      | grow =>
        obtain ⟨h1, h2, h3⟩ := h
        obtain ⟨h4, h5, h6⟩ := h'
        exact ⟨h4.trans h1, Nat.le_trans h2 h5, fun k hk => (h6 k (Nat.le_trans hk h2)).trans (h3 k hk)⟩
      | _ => exact h'.elim
    | _ => exact h.elim
  | row e xs => cases y with
    | row => cases z with
      | row => exact ⟨h'.1.trans h.1, h'.2.1.trans h.2.1, h'.2.2.1.trans h.2.2.1, h'.2.2.2.trans h.2.2.2⟩
      | rowz => exact ⟨h'.1.trans h.1, h'.2.1.trans h.2.2.1, h'.2.2.trans h.2.2.2⟩
      | _ => exact h'.elim
    | rowz => cases z with
      | rowz => exact ⟨h'.1.trans h.1, h'.2.1.trans h.2.1, h'.2.2.trans h.2.2⟩
      | _ => exact h'.elim
    | _ => exact h.elim
  | rowz e => cases y with
    | rowz => cases z with
      | rowz => exact ⟨h'.1.trans h.1, h'.2.1.trans h.2.1, h'.2.2.trans h.2.2⟩
      | _ => exact h'.elim
    | _ => exact h.elim
  | mp k v e => cases y with
    | mp => cases z with
      | mp => exact ⟨h'.1.trans h.1, h'.2.1.trans h.2.1, h'.2.2.trans h.2.2⟩
      | mpz => exact (show c''.g = c.g from Eq.trans (show c''.g = c'.g from h') h.2.2)
      | _ => exact h'.elim
    | mpz => cases z with
      | mpz => exact (show c''.g = c.g from Eq.trans (show c''.g = c'.g from h') h)
      | _ => exact h'.elim
    | _ => exact h.elim
  | mpz => cases y with
    | mpz => cases z with
      | mpz => exact (show c''.g = c.g from Eq.trans (show c''.g = c'.g from h') h)
      | _ => exact h'.elim
    | _ => exact h.elim

theorem RV.tr {a : AV E} {cs : List Value} (h : RV M μ a cs) (ok : OKA b a) (le : M.le M') (lv : LivesAll μ b μ' b') : RV M' μ' a cs := by
  induction h with
  | t h => exact .t (h.mono le)
  | nilp => exact .nilp
  | nilfn => exact .nilfn
  | niliface => exact .niliface
  | nilmap => exact .nilmap
  | ptr id ly p =>
    have h1 := lv id
    have e : (μ' id).g = (μ id).g := by
      rcases ok.plain' (by simp) with ⟨a, ha⟩ | ⟨v, ha⟩ <;> rw [ha] at h1 <;> (cases hb : blk b' id <;> rw [hb] at h1 <;> first | exact h1.elim | exact h1.2.2 | exact h1.2)
    rw [← e]
    exact .ptr id ly p
  | eptr id e i p =>
    have h1 := lv id
    have e1 : (μ' id).g = (μ id).g := by
      rcases ok.plain' (by simp) with ⟨xs, ha⟩ | ha <;> rw [ha] at h1 <;> (cases hb : blk b' id <;> rw [hb] at h1 <;> first | exact h1.elim | exact h1.2.2.1 | exact h1.2.1)
    rw [← e1]
    exact .eptr id e i p
  | imm b o h hc => exact .imm b o (h.mono le) (hc.mono le)
  | sl id e xs h =>
    have h1 := lv id
    have e1 : (μ' id).ver xs.length = (μ id).ver xs.length := by
      obtain ⟨n, ha, hn⟩ := ok.plain' (by simp)
      rw [ha] at h1
      cases hb : blk b' id <;> rw [hb] at h1 <;> first | exact h1.elim | exact h1.2.2 _ hn
    rw [← e1]
    exact .sl id e xs (by rw [e1]; exact h.mono le)
  | exact e xs base h => exact .exact e xs base (h.mono le)
  | snil e => exact .snil e
  | errn => exact .errn
  | errs t x => exact .errs t x
  | snn e xs a cap h => exact .snn e xs a cap (h.mono le)
  | rsv id e n hc hbn =>
    have h1 := lv id
    have e1 : (μ' id).ver 0 = (μ id).ver 0 := by
      obtain ⟨k, ha⟩ := ok.plain' (by simp)
      rw [ha] at h1
      cases hb : blk b' id <;> rw [hb] at h1 <;> first | exact h1.elim | exact h1.2.2 _ (Nat.zero_le _)
    rw [← e1]
    exact .rsv id e n (by rw [e1]; exact hc) (by rw [e1]; exact hbn)
  | fs id e off len cap base h hc =>
    have h1 := lv id
    have e1 : (μ' id).g = (μ id).g ∧ (μ' id).ver 0 = (μ id).ver 0 := by
      rcases ok.plain' (by simp) with ⟨xs, ha, _⟩ | ha <;> rw [ha] at h1 <;> (cases hb : blk b' id <;> rw [hb] at h1 <;> first | exact h1.elim | exact h1.2.2 | exact h1.2)
    exact .fs id e off len cap base (by rw [e1.1, e1.2]; exact h) hc
  | func f cs vs hl h =>
    refine .func f cs vs hl fun i hi => ?_
    obtain ⟨b, o, cells, h1, h2, h3⟩ := h i hi
    exact ⟨b, o, cells, h1, h2.mono le, h3.mono le⟩
  | funp f ps vs hl h =>
    refine .funp f ps vs hl fun i hi => ?_
    have hi' := h i hi
    cases hp : ps[i] with
    | im c =>
      rw [hp] at hi'
      obtain ⟨b, o, cells, h1, h2, h3⟩ := hi'
      exact ⟨b, o, cells, h1, h2.mono le, h3.mono le⟩
    | pt id ly =>
      rw [hp] at hi'
      have h1 := lv id
      have e : (μ' id).g = (μ id).g := by
        rcases ok.plain' (by simp) id ly (by rw [← hp]; exact List.getElem_mem hi) with ⟨a, ha⟩ | ⟨v, ha⟩ <;> rw [ha] at h1 <;> (cases hb : blk b' id <;> rw [hb] at h1 <;> first | exact h1.elim | exact h1.2.2 | exact h1.2)
      have hi'' : vs.getD i undef = .pointer (some ⟨(μ id).g, 0, none⟩) := hi'
      rw [← e] at hi''
      exact hi''
  | mp id k v =>
    have h1 := lv id
    have e : (μ' id).g = (μ id).g := by
      rcases ok.plain' (by simp) with ⟨a, ha⟩ | ha <;> rw [ha] at h1 <;> (cases hb : blk b' id <;> rw [hb] at h1 <;> first | exact h1.elim | exact h1.2.2 | exact h1)
    rw [← e]
    exact .mp id k v
  | agg cs css hl h ih =>
    refine .agg cs css hl fun i hi => ih i hi ?_
    cases ok with
    | plain _ hn => exact absurd rfl (hn cs)
    | agg _ h => exact h _ (List.getElem_mem _)
  | iface tid a cs v h hv ih =>
    refine .iface tid a cs v (ih ?_) hv
    cases ok with
    | plain _ _ _ hn => exact absurd rfl (hn _ _)
    | iface _ _ h => exact h
theorem RS.tr {a : AV E} {v : Value} (h : RS M μ a v) (ok : OKA b a) (le : M.le M') (lv : LivesAll μ b μ' b') : RS M' μ' a v := by
  cases h with
  | undef => exact .undef _
  | c => exact .c _
  | v h => exact .v (h.tr ok le lv)
  | tup l vs hl h =>
    refine .tup l vs hl fun i hi => ?_
    rcases h i hi with h | ⟨cs, h1, h2⟩
    · exact .inl h
    · refine .inr ⟨cs, h1.tr ?_ le lv, h2⟩
      cases ok with
      | plain _ _ hn => exact absurd rfl (hn _)
      | tup _ h => exact h _ (List.getElem_mem _)
theorem OKA.tr {a : AV E} (h : OKA b a) (lv : LivesAll μ b μ' b') : OKA b' a := by
  induction h with
  | plain h hn ht hi =>
    refine .plain ?_ hn ht hi
    rename_i a
    cases a with
    | funp f ps =>
      intro id ly hp
      have h1 := lv id
      rcases h id ly hp with ⟨a, ha⟩ | ⟨v, ha⟩ <;> rw [ha] at h1 <;> (cases hb : blk b' id <;> rw [hb] at h1 <;> first | exact h1.elim | (obtain ⟨rfl, _⟩ := h1; first | exact .inl ⟨_, rfl⟩ | exact .inr ⟨_, rfl⟩))
    | ptr id ly p =>
      have h1 := lv id
      rcases h with ⟨a, ha⟩ | ⟨v, ha⟩ <;> rw [ha] at h1 <;> (cases hb : blk b' id <;> rw [hb] at h1 <;> first | exact h1.elim | (obtain ⟨rfl, _⟩ := h1; first | exact .inl ⟨_, hb⟩ | exact .inr ⟨_, hb⟩))
    | eptr id e i p =>
      have h1 := lv id
      rcases h with ⟨xs, ha⟩ | ha <;> rw [ha] at h1 <;> (cases hb : blk b' id <;> rw [hb] at h1 <;> first | exact h1.elim | (obtain ⟨rfl, _⟩ := h1; first | exact .inl ⟨_, hb⟩ | exact .inr hb))
    | sl id e xs =>
      have h1 := lv id
      obtain ⟨n, ha, hn⟩ := h
      rw [ha] at h1
      cases hb : blk b' id <;> rw [hb] at h1 <;> first | exact h1.elim | (obtain ⟨rfl, h2, _⟩ := h1; exact ⟨_, hb, Nat.le_trans hn h2⟩)
    | fs id e off len =>
      have h1 := lv id
      rcases h with ⟨xs, ha, hn⟩ | ha <;> rw [ha] at h1 <;> (cases hb : blk b' id <;> rw [hb] at h1 <;> first | exact h1.elim | (obtain ⟨rfl, h2, _⟩ := h1; exact .inl ⟨_, hb, by rw [h2]; exact hn⟩) | (obtain ⟨rfl, _⟩ := h1; exact .inr hb))
    | rsv id e n =>
      have h1 := lv id
      obtain ⟨k, ha⟩ := h
      rw [ha] at h1
      cases hb : blk b' id <;> rw [hb] at h1 <;> first | exact h1.elim | (obtain ⟨rfl, h2, _⟩ := h1; exact ⟨_, hb⟩)
    | mp id k v =>
      have h1 := lv id
      rcases h with ⟨xs, ha⟩ | ha <;> rw [ha] at h1 <;> (cases hb : blk b' id <;> rw [hb] at h1 <;> first | exact h1.elim | (obtain ⟨rfl, rfl, _⟩ := h1; exact .inl ⟨_, hb⟩) | exact .inr hb)
    | _ => trivial
  | agg cs _ ih => exact .agg cs ih
  | tup l _ ih => exact .tup l ih
  | iface t x _ ih => exact .iface t x ih

theorem BW.exc_lt {c : Conc} {x : Blk E} {g : Nat} (h : BW M μ w c x) (he : Exc c x = some g) : g < w.heap.size := by
  have key : ∀ {o : Obj}, w.heap[c.g]? = some o → c.g < w.heap.size := fun h => (Array.getElem?_eq_some_iff.1 h).1
  cases x with
  | var ly a =>
    obtain ⟨cs, T, h1, _⟩ := h
    cases he
    exact key h1
  | row e xs =>
    simp only [Exc] at he
    split at he
    · cases he
    · cases he
      rcases h with ⟨h0, _⟩ | ⟨_, cs, T, fr, css, h1, _⟩
      · contradiction
      · exact key h1
  | grow e n =>
    simp only [Exc] at he
    split at he
    · cases he
    · cases he
      obtain ⟨_, h1 | ⟨cs, T, _, h1, _⟩⟩ := h
      · contradiction
      · exact key h1
  | mp k v es =>
    obtain ⟨_, _, _, l, clock, ck, cv, h1, _⟩ := h
    cases he
    exact key h1
  | _ => cases he
theorem WR.exc_lt (h : WR M μ b w) {i g : Nat} (he : Exc (μ i) (blk b i) = some g) : g < w.heap.size := (h.bw i).exc_lt he
/-- A block that isn't turned. -/
theorem BW.stay {c : Conc} {x : Blk E} (h : BW M μ w c x) (le : M.le M') (lv : LivesAll μ b μ' b') (ok : ∀ ly a, x = .var ly a → OKA b a)
    (hf : ∀ g, Exc c x = some g → w'.heap[g]? = w.heap[g]?) (hm : ∀ g o, Exc c x = some g → M g o = none → M' g o = none) : BW M' μ' w' c x := by
  cases x with
  | none => trivial
  | var ly a =>
    obtain ⟨cs, T, h1, h2, h3, h4⟩ := h
    exact ⟨cs, T, by rw [hf _ rfl]; exact h1, h2.tr (ok _ _ rfl) le lv, h3, fun o => hm _ o rfl (h4 o)⟩
  | frz ly v =>
    obtain ⟨cs, h1, h2⟩ := h
    exact ⟨cs, h1.mono le, h2.mono le⟩
  | grow e n =>
    obtain ⟨h0, h⟩ := h
    refine ⟨h0, ?_⟩
    by_cases hn : (c.ver n).2 = n
    · exact .inl hn
    · rcases h with h | ⟨cs, T, h1, h2, h3, h4⟩
      · exact .inl h
      · have he : Exc c (.grow (E := E) e n) = some c.g := by simp [Exc, hn]
        exact .inr ⟨cs, T, h1, by rw [hf _ he]; exact h2, h3, fun o ho => hm _ o he (h4 o ho)⟩
  | row e xs =>
    rcases h with h | ⟨h0, cs, T, fr, css, h1, h2, h3, h4, h5⟩
    · exact .inl h
    · have he : Exc c (.row (E := E) e xs) = some c.g := by simp [Exc, h0]
      exact .inr ⟨h0, cs, T, fr, css, by rw [hf _ he]; exact h1, h2.mono le, h3, fun o => hm _ o he (h4 o), h5⟩
  | rowz => trivial
  | mpz => trivial
  | mp k v es =>
    obtain ⟨es', hp, hn, l, clock, ck, cv, h1, h2, h3, h4, h5, h6⟩ := h
    exact ⟨es', hp, hn, l, clock, ck, cv, by rw [hf _ rfl]; exact h1, h2, fun i hi => (h3 i hi).mono le, fun i hi => (h4 i hi).mono le, h5, fun o => hm _ o rfl (h6 o)⟩

/-- Some homes turn, the others stay. -/
theorem Tr.make (hw : WR M μ b w) (ch : Nat → Prop) (le : M.le M') (holds : Holds M' w') (len : b'.length = b.length)
    (same : ∀ i, ¬ ch i → blk b' i = blk b i ∧ μ' i = μ i) (lives : ∀ i, ch i → Lives (μ i) (μ' i) (blk b i) (blk b' i))
    (bw : LivesAll μ b μ' b' → ∀ i, ch i → BW M' μ' w' (μ' i) (blk b' i))
    (exc : ∀ i j g, ch i → ch j → Exc (μ' i) (blk b' i) = some g → Exc (μ' j) (blk b' j) = some g → i = j)
    (size : w.heap.size ≤ w'.heap.size) (frame : ∀ g, g < w.heap.size → (∀ i, ch i → Exc (μ i) (blk b i) ≠ some g) → w'.heap[g]? = w.heap[g]?)
    (fresh : ∀ g o, M g o = none → M' g o ≠ none → w.heap.size ≤ g ∨ ∃ i, ch i ∧ Exc (μ i) (blk b i) = some g)
    (exf : ∀ i g, ch i → Exc (μ' i) (blk b' i) = some g → w.heap.size ≤ g ∨ ∃ j, ch j ∧ Exc (μ j) (blk b j) = some g)
    (oks : LivesAll μ b μ' b' → ∀ i ly a, ch i → blk b' i = .var ly a → OKA b' a) (os : w'.os = w.os) (tape : SameT w' w) (output : w'.output = w.output) :
    Tr b.length M μ b w M' μ' b' w' := by
  have lv : LivesAll μ b μ' b' := fun i => by
    by_cases hi : ch i
    · exact lives i hi
    · obtain ⟨h1, h2⟩ := same i hi
      rw [h1, h2]
      exact .refl _ _
  have apart : ∀ i j g, ch i → ¬ ch j → Exc (μ i) (blk b i) = some g → Exc (μ j) (blk b j) = some g → False := fun i j g hi hj h1 h2 => hj (hw.exc i j g h1 h2 ▸ hi)
  refine ⟨le, fun i _ => lv i, ⟨holds, fun i => ?_, fun i j g h1 h2 => ?_, fun i ly a h => ?_⟩, len, size, ?_, ?_, ?_, os, tape, output⟩
  · by_cases hi : ch i
    · exact bw lv i hi
    · obtain ⟨h1, h2⟩ := same i hi
      rw [h1, h2]
      refine (hw.bw i).stay le lv (fun ly a h => hw.oks i ly a h) ?_ ?_
      · intro g he
        exact frame g (hw.exc_lt he) fun j hj hg => apart j i g hj hi hg he
      · intro g o he hm
        apply Classical.byContradiction
        intro hn
        rcases fresh g o hm hn with h | ⟨j, hj, hg⟩
        · have := hw.exc_lt he; omega
        · exact apart j i g hj hi hg he
  · by_cases hi : ch i <;> by_cases hj : ch j
    · exact exc i j g hi hj h1 h2
    · obtain ⟨h3, h4⟩ := same j hj
      rw [h3, h4] at h2
      rcases exf i g hi h1 with h | ⟨k, hk, h⟩
      · have := hw.exc_lt h2; omega
      · exact (apart k j g hk hj h h2).elim
    · obtain ⟨h3, h4⟩ := same i hi
      rw [h3, h4] at h1
      rcases exf j g hj h2 with h | ⟨k, hk, h⟩
      · have := hw.exc_lt h1; omega
      · exact (apart k i g hk hi h h1).elim
    · obtain ⟨h3, h4⟩ := same i hi
      obtain ⟨h5, h6⟩ := same j hj
      rw [h3, h4] at h1
      rw [h5, h6] at h2
      exact hw.exc i j g h1 h2
  · by_cases hi : ch i
    · exact oks lv i ly a hi h
    · rw [(same i hi).1] at h
      exact (hw.oks i ly a h).tr lv
  · exact fun g hg h => frame g hg fun i _ => h i
  · intro g o h1 h2
    rcases fresh g o h1 h2 with h | ⟨i, _, h⟩
    · exact .inl h
    · exact .inr ⟨i, h⟩
  · intro i g h
    by_cases hi : ch i
    · exact (exf i g hi h).imp id fun ⟨j, _, h1⟩ => ⟨j, h1⟩
    · obtain ⟨h1, h2⟩ := same i hi
      rw [h1, h2] at h
      exact .inr ⟨i, h⟩

theorem Tr.refl (hw : WR M μ b w) (L : Nat) : Tr L M μ b w M μ b w :=
  ⟨fun _ _ _ h => h, fun i _ => .refl _ _, hw, rfl, Nat.le_refl _, fun _ _ _ => rfl, fun _ _ h1 h2 => absurd h1 h2, fun i _ h => .inr ⟨i, h⟩, rfl, ⟨rfl, fun _ => Nat.le_refl _⟩, rfl⟩
theorem Tr.trans {L : Nat} (h : Tr L M μ b w M' μ' b' w') (h' : Tr L M' μ' b' w' M'' μ'' b'' w'') : Tr L M μ b w M'' μ'' b'' w'' := by
  refine ⟨h.le.trans h'.le, fun i hi => (h.lives i hi).trans (h'.lives i hi), h'.wr, h'.len.trans h.len, Nat.le_trans h.size h'.size, ?_, ?_, ?_, h'.os.trans h.os, h'.tape.trans h.tape, h'.output.trans h.output⟩
  · intro g hg hn
    rw [← h.frame g hg hn]
    refine h'.frame g (Nat.lt_of_lt_of_le hg h.size) fun i hi => ?_
    rcases h.exf i g hi with h1 | ⟨j, h1⟩
    · omega
    · exact hn j h1
  · intro g o h1 h2
    by_cases h3 : M' g o = none
    · rcases h'.fresh g o h3 h2 with h4 | ⟨i, h4⟩
      · exact .inl (Nat.le_trans h.size h4)
      · rcases h.exf i g h4 with h5 | ⟨j, h5⟩
        · exact .inl h5
        · exact .inr ⟨j, h5⟩
    · exact h.fresh g o h1 h3
  · intro i g h1
    rcases h'.exf i g h1 with h2 | ⟨j, h2⟩
    · exact .inl (Nat.le_trans h.size h2)
    · rcases h.exf j g h2 with h4 | ⟨k, h4⟩
      · exact .inl h4
      · exact .inr ⟨k, h4⟩
theorem Tr.mono {L L' : Nat} (h : Tr L M μ b w M' μ' b' w') (hL : L' ≤ L) : Tr L' M μ b w M' μ' b' w' :=
  ⟨h.le, fun i hi => h.lives i (Nat.lt_of_lt_of_le hi hL), h.wr, h.len, h.size, h.frame, h.fresh, h.exf, h.os, h.tape, h.output⟩

end Go.Proofs.YtbmpjppfdeohnaaDoor.Fv

/-! Memory: new blocks and turned ones. -/
namespace Go.Proofs.YtbmpjppfdeohnaaDoor.Fv
variable [Quiet]
variable {E : Env} {P : Program} {tt : Nat → Option TE} {M M' : Mem} {μ μ' : Mu} {b b' : List (Blk E)} {w w' : World}

/-- Of what was there nothing has turned. -/
structure Ext (w w' : World) : Prop where
  size : w.heap.size ≤ w'.heap.size
  old : ∀ g, g < w.heap.size → w'.heap[g]? = w.heap[g]?
  os : w'.os = w.os
  tape : SameT w' w
  output : w'.output = w.output
theorem Ext.refl (w : World) : Ext w w := ⟨Nat.le_refl _, fun _ _ => rfl, rfl, ⟨rfl, fun _ => Nat.le_refl _⟩, rfl⟩
theorem Ext.alloc (w : World) (o : Obj) : Ext w (w.alloc o) := ⟨by simp, fun g hg => heap_alloc_old w o g hg, rfl, ⟨rfl, fun _ => Nat.le_refl _⟩, rfl⟩
theorem Ext.drew (w : World) : Ext w w.drew := ⟨Nat.le_refl _, fun _ _ => rfl, rfl, ⟨rfl, fun _ => Nat.le_succ _⟩, rfl⟩
theorem Ext.trans {a b c : World} (h : Ext a b) (h' : Ext b c) : Ext a c :=
  ⟨Nat.le_trans h.size h'.size, fun g hg => (h'.old g (Nat.lt_of_lt_of_le hg h.size)).trans (h.old g hg), h'.os.trans h.os, h'.tape.trans h.tape, h'.output.trans h.output⟩

theorem Holds.lt {g o : Nat} {v : Value} (h : Holds M w) (hm : M g o = some v) : g < w.heap.size := (h g o v hm).lt
theorem Holds.new {g o : Nat} (h : Holds M w) (hg : w.heap.size ≤ g) : M g o = none := by
  cases hm : M g o with
  | none => rfl
  | some v => have := h.lt hm; omega
theorem Ext.holds (h : Holds M w) (x : Ext w w') : Holds M w' := fun g o v hm => by
  rcases h g o v hm with ⟨h1, h2⟩ | ⟨h1, es, c, h2, h3⟩ | ⟨cs3, T3, f3, h2, h3, h4⟩
  · exact .inl ⟨h1, by rw [World.cell?_of_block (w := w) (a := ⟨g, o, none⟩) (x.old g (h.lt hm))]; exact h2⟩
  · exact .inr (.inl ⟨h1, es, c, by rw [x.old g (h.lt hm)]; exact h2, h3⟩)
  · exact .inr (.inr ⟨cs3, T3, f3, by rw [x.old g (h.lt hm)]; exact h2, h3, h4⟩)

/-- More cells that are known for good: from place lo of block g on. -/
def plus (M : Mem) (g lo : Nat) (cs : List Value) : Mem := fun b o => if b = g ∧ lo ≤ o ∧ o < lo + cs.length then cs[o - lo]? else M b o
theorem plus_le {g lo : Nat} {cs : List Value} (h : ∀ o, lo ≤ o → M g o = none) : M.le (plus M g lo cs) := by
  intro b o v hm
  unfold plus
  split
  · rename_i hc
    obtain ⟨rfl, h2, _⟩ := hc
    rw [h o h2] at hm
    cases hm
  · exact hm
theorem plus_at (M : Mem) (g lo : Nat) (cs : List Value) (hn : ∀ c ∈ cs, noT c) : CellsAt (plus M g lo cs) g lo cs := by
  intro j hj
  unfold plus
  rw [if_pos ⟨rfl, by omega, by omega⟩, show lo + j - lo = j by omega]
  exact ⟨by simp [hj], hn _ (List.getElem_mem _)⟩
theorem plus_holds {g lo : Nat} {cs : List Value} (h : Holds M w) (hn : ∀ c ∈ cs, noT c) (hc : InMem w g lo cs) : Holds (plus M g lo cs) w := by
  intro b o v hm
  unfold plus at hm
  split at hm
  · rename_i hb
    obtain ⟨rfl, h1, h2⟩ := hb
    obtain ⟨h3, h4⟩ := List.getElem?_eq_some_iff.1 hm
    have := hc (o - lo) h3
    rw [show lo + (o - lo) = o by omega] at this
    subst h4
    exact .inl ⟨hn _ (List.getElem_mem _), this⟩
  · exact h b o v hm
theorem css_noT {e : Ty} {xs : List (E.D e)} {css : List (List Value)} (hl : css.length = xs.length) (h : ∀ i (hi : i < xs.length), RC M e xs[i] (css.getD i [])) : ∀ c ∈ css.flatten, noT c := by
  intro c hc
  obtain ⟨l, hl1, hl2⟩ := List.mem_flatten.1 hc
  obtain ⟨i, hi, rfl⟩ := List.getElem_of_mem hl1
  exact (h i (by omega)).noT c (by simpa [List.getD_eq_getElem?_getD, hi] using hl2)
theorem noT_app {a b : List Value} (ha : ∀ c ∈ a, noT c) (hb : ∀ c ∈ b, noT c) : ∀ c ∈ a ++ b, noT c := fun c hc => (List.mem_append.1 hc).elim (ha c) (hb c)
theorem plus_ne {g lo : Nat} {cs : List Value} {b o : Nat} (h : b ≠ g) : plus M g lo cs b o = M b o := by simp [plus, h]
theorem plus_after {g lo : Nat} {cs : List Value} {b o : Nat} (h : lo + cs.length ≤ o) : plus M g lo cs b o = M b o := by
  unfold plus
  rw [if_neg (by omega)]
theorem plus_new {g lo : Nat} {cs : List Value} {b o : Nat} (h : M b o = none) (h' : plus M g lo cs b o ≠ none) : b = g := by
  apply Classical.byContradiction
  intro hb
  rw [plus_ne hb] at h'
  exact h' h

def upd (μ : Mu) (d : Nat) (c : Conc) : Mu := fun i => if i = d then c else μ i
theorem upd_self (μ : Mu) (d : Nat) (c : Conc) : upd μ d c d = c := by simp [upd]
theorem upd_ne (μ : Mu) {d i : Nat} (c : Conc) (h : i ≠ d) : upd μ d c i = μ i := by simp [upd, h]
theorem blk_set_self {d : Nat} (hd : d < b.length) (x : Blk E) : blk (b.set d x) d = x := by simp [blk, List.getD_eq_getElem?_getD, hd]
theorem blk_set_ne {d i : Nat} (h : i ≠ d) (x : Blk E) : blk (b.set d x) i = blk b i := by simp [blk, List.getD_eq_getElem?_getD, List.getElem?_set_ne (Ne.symm h)]
theorem free_spec {d : Nat} (h : free b d = true) : d < b.length ∧ blk b d = .none := by
  unfold free at h
  split at h
  · rename_i hb
    exact ⟨(List.getElem?_eq_some_iff.1 hb).1, by simp [blk, List.getD_eq_getElem?_getD, hb]⟩
  · cases h

/-- One home turns. -/
theorem Tr.one (hw : WR M μ b w) {d : Nat} (hd : d < b.length) (c' : Conc) (B' : Blk E) (le : M.le M') (holds : Holds M' w') (lives : Lives (μ d) c' (blk b d) B')
    (bw : LivesAll μ b (upd μ d c') (b.set d B') → BW M' (upd μ d c') w' c' B') (size : w.heap.size ≤ w'.heap.size)
    (frame : ∀ g, g < w.heap.size → Exc (μ d) (blk b d) ≠ some g → w'.heap[g]? = w.heap[g]?)
    (fresh : ∀ g o, M g o = none → M' g o ≠ none → w.heap.size ≤ g ∨ Exc (μ d) (blk b d) = some g)
    (exf : ∀ g, Exc c' B' = some g → w.heap.size ≤ g ∨ Exc (μ d) (blk b d) = some g)
    (oks : LivesAll μ b (upd μ d c') (b.set d B') → ∀ ly a, B' = .var ly a → OKA (b.set d B') a) (os : w'.os = w.os) (tape : SameT w' w) (output : w'.output = w.output) :
    Tr b.length M μ b w M' (upd μ d c') (b.set d B') w' := by
  refine Tr.make hw (fun i => i = d) le holds (by simp) ?_ ?_ ?_ ?_ size ?_ ?_ ?_ ?_ os tape output
  · exact fun i hi => ⟨blk_set_ne hi _, upd_ne _ _ hi⟩
  · rintro i rfl; rw [blk_set_self hd, upd_self]; exact lives
  · rintro lv i rfl; rw [blk_set_self hd, upd_self]; exact bw lv
  · rintro i j g rfl rfl _ _; rfl
  · exact fun g hg h => frame g hg (h d rfl)
  · intro g o h1 h2
    rcases fresh g o h1 h2 with h | h
    · exact .inl h
    · exact .inr ⟨d, rfl, h⟩
  · rintro i g rfl h; rw [blk_set_self hd, upd_self] at h; exact (exf g h).imp id fun h => ⟨_, rfl, h⟩
  · rintro lv i ly a rfl h; rw [blk_set_self hd] at h; exact oks lv ly a h

/-- A home that was free, memory that only grew. -/
theorem Tr.new (hw : WR M μ b w) {d : Nat} (hd : free b d = true) (c' : Conc) (B' : Blk E) (le : M.le M') (holds : Holds M' w') (x : Ext w w')
    (bw : LivesAll μ b (upd μ d c') (b.set d B') → BW M' (upd μ d c') w' c' B')
    (fresh : ∀ g o, M g o = none → M' g o ≠ none → w.heap.size ≤ g)
    (exf : ∀ g, Exc c' B' = some g → w.heap.size ≤ g)
    (oks : LivesAll μ b (upd μ d c') (b.set d B') → ∀ ly a, B' = .var ly a → OKA (b.set d B') a) :
    Tr b.length M μ b w M' (upd μ d c') (b.set d B') w' := by
  obtain ⟨hd1, hd2⟩ := free_spec hd
  exact Tr.one hw hd1 c' B' le holds (by rw [hd2]; trivial) bw x.size (fun g hg _ => x.old g hg) (fun g o h1 h2 => .inl (fresh g o h1 h2)) (fun g h => .inl (exf g h)) oks x.os x.tape x.output
/-- No home turns, memory only grew. -/
theorem Tr.grown (hw : WR M μ b w) (le : M.le M') (holds : Holds M' w') (x : Ext w w') (fresh : ∀ g o, M g o = none → M' g o ≠ none → w.heap.size ≤ g) :
    Tr b.length M μ b w M' μ b w' :=
  Tr.make hw (fun _ => False) le holds rfl (fun _ _ => ⟨rfl, rfl⟩) (fun _ h => h.elim) (fun _ _ h => h.elim) (fun _ _ _ h => h.elim) x.size (fun g hg _ => x.old g hg)
    (fun g o h1 h2 => .inl (fresh g o h1 h2)) (fun _ _ h => h.elim) (fun _ _ _ _ h => h.elim) x.os x.tape x.output

/-- An operation's step. -/
def OpStep (P : Program) (M : Mem) (μ : Mu) (b : List (Blk E)) (w : World) (s : Sem Next) (a : AV E) (u : Upd E) : Prop :=
  ∃ v w' M' μ', (s.run P w = .ok (.value v) w' ∨ (s.run P w = .ok .skip w' ∧ v = undef)) ∧ Tr b.length M μ b w M' μ' (upds b u) w' ∧ RS M' μ' a v ∧ OKA (upds b u) a

theorem OpStep.same (hw : WR M μ b w) {s : Sem Next} {a : AV E} {v : Value} (h : s.run P w = .ok (.value v) w) (hr : RS M μ a v) (ok : OKA b a) : OpStep P M μ b w s a [] :=
  ⟨v, w, M, μ, .inl h, Tr.refl hw _, hr, ok⟩
theorem OpOK.step (hw : WR M μ b w) {s : Sem Next} {a : AV E} (h : OpOK P M μ a s) (ok : OKA b a) : OpStep P M μ b w s a [] := by
  obtain ⟨v, h1, h2⟩ := h w hw.holds
  exact .same hw h1 h2 ok

theorem run_newRow (w : World) (el : TypeId) (cs : Array Value) : (newRow el cs).run P w = .ok ⟨w.heap.size, 0, none⟩ (w.alloc (.cells cs el)) := by
  simp [newRow]
theorem run_newVar (w : World) (el : TypeId) (v : Value) : (newVar el v).run P w = .ok ⟨w.heap.size, 0, none⟩ (w.alloc (.cells v.cells el)) := run_newRow w el _

theorem inMem_alloc (w : World) (cs : Array Value) (T : TypeId) : InMem (w.alloc (.cells cs T)) w.heap.size 0 cs.toList := by
  intro j hj
  have hj' : j < cs.size := by simpa using hj
  simp [hj']

/-- A variable of its own. -/
theorem var_step (hw : WR M μ b w) {d : Nat} (hd : free b d = true) {ly : Ty} {a : AV E} {cs : Array Value} (T : TypeId) (hr : RV M μ a cs.toList) (hf : fit ly a = true) (ok : OKA b a) {s : Sem Next}
    (hs : s.run P w = .ok (.value (.pointer (some ⟨w.heap.size, 0, none⟩))) (w.alloc (.cells cs T))) : OpStep P M μ b w s (.ptr d ly []) [(d, .var ly a)] := by
  obtain ⟨hd1, hd2⟩ := free_spec hd
  have e0 : offTy E ly [] = 0 := by cases ly <;> rfl
  refine ⟨_, _, M, upd μ d ⟨w.heap.size, fun _ => (none, 0)⟩, .inl hs, ?_, ?_, ?_⟩
  · refine Tr.new hw hd ⟨w.heap.size, _⟩ _ (.refl M) ((Ext.alloc w _).holds hw.holds) (Ext.alloc w _) ?_ (fun _ _ h1 h2 => absurd h1 h2) ?_ ?_
    · intro lv
      exact ⟨cs, T, heap_alloc_new w _, hr.tr ok (.refl M) lv, hf, fun o => hw.holds.new (Nat.le_refl _)⟩
    · intro g h; cases h; exact Nat.le_refl _
    · intro lv ly a h; cases h; exact ok.tr lv
  · have := RV.ptr (E := E) (M := M) (μ := upd μ d ⟨w.heap.size, fun _ => (none, 0)⟩) d ly []
    rw [e0, upd_self] at this
    exact RS.v this
  · exact .plain (.inl ⟨a, blk_set_self hd1 _⟩) (by simp) (by simp) (by simp)

theorem alloc_step (hE : EnvOK E) (hz : ∀ n, RC M (.nm n) (E.dfl n) (E.zc n)) (hT : TOK P E tt) (hw : WR M μ b w) {d t : Nat} (hd : free b d = true) (hf : fit (tyOf tt t) (zeroA (E := E) tt 20 t) = true) {ρ : Operand → Value} {o : Oper} (ho : o.op = .alloc t) :
    OpStep P M μ b w (execOp ρ o) (.ptr d (tyOf tt t) []) [(d, .var (tyOf tt t) (zeroA tt 20 t))] := by
  cases hx : tt t with
  | none =>
    have : zeroA (E := E) tt 20 t = .undef := by simp [zeroA, hx]
    rw [this] at hf
    have := fit_real hf
    simp [real] at this
  | some x =>
    obtain ⟨i, z, hi, hz0, hsz, hzc, hza⟩ := (hT t x hx).zero
    refine var_step hw hd t (cs := z.cells) ?_ hf (.zeroA _ _) ?_
    · rw [hzc]; exact zeroA_sound hz 20 t _ hf
    · simp only [execOp, ho, Instr.alloc, Sem.run_bind, run_zero hi hz0, Result.andThen_ok, run_newVar, Sem.run_pure]

theorem box_step (hw : WR M μ b w) {d t : Nat} {x : AV E} {v : Value} (hd : free b d = true) (hf : fit (tyOf tt t) x = true) (hv : RS M μ x v) (ok : OKA b x) {ρ : Operand → Value} {o : Oper} {y : Operand} (ho : o.op = .box t y) (hy : ρ y = v) :
    OpStep P M μ b w (execOp ρ o) (.ptr d (tyOf tt t) []) [(d, .var (tyOf tt t) x)] := by
  obtain ⟨cs, h1, h2, h3⟩ := hv.real (fit_real hf)
  refine var_step hw hd t (cs := v.cells) (by rw [h3]; exact h1) hf ok ?_
  simp only [execOp, ho, hy, Instr.box, Sem.run_bind, Result.andThen_ok, run_newVar, Sem.run_pure]

end Go.Proofs.YtbmpjppfdeohnaaDoor.Fv

/-! Loads and stores. -/
namespace Go.Proofs.YtbmpjppfdeohnaaDoor.Fv
variable [Quiet]
variable {E : Env} {P : Program} {tt : Nat → Option TE} {M M' : Mem} {μ μ' : Mu} {b b' : List (Blk E)} {w w' : World}

theorem cell_heap {g o : Nat} {cs : Array Value} {T : TypeId} {fr : Nat × Nat} (h : w.heap[g]? = some (.cells cs T fr)) : w.cell? ⟨g, o, none⟩ = cs[o]? := cell_of_row w g o cs T fr h
theorem InMem.piece {g o off : Nat} {cs c : List Value} (h : InMem w g o cs) (hp : Piece cs off c) : InMem w g (o + off) c := by
  intro j hj
  obtain ⟨hk, he⟩ := hp.get j hj
  rw [← he, Nat.add_assoc]
  exact h _ hk
theorem InMem.heap {g : Nat} {cs : Array Value} {T : TypeId} {fr : Nat × Nat} (h : w.heap[g]? = some (.cells cs T fr)) : InMem w g 0 cs.toList := by
  intro j hj
  have hj' : j < cs.size := by simpa using hj
  rw [cell_heap h]
  simp [hj']

theorem bif_some {α : Type} {c : Bool} {a : Option α} {r : α} (h : (bif c then a else none) = some r) : c = true ∧ a = some r := by
  cases c
  · cases h
  · exact ⟨rfl, h⟩
theorem rcd_some {a x : AV E} {c d : Bool} (h : rcd d a = some (c, x)) : x = a ∧ a ≠ .undef ∧ c = d := by
  unfold rcd at h
  split at h
  · cases h
  · rename_i hn; cases h; exact ⟨rfl, hn, rfl⟩

theorem run_loadPart (hE : EnvOK E) (hT : TOK P E tt) {t : Nat} (ht : (tt t).isSome = true) {g off : Nat} {c : List Value} {x : AV E} (hc : InMem w g off c) (hr : RV M μ x c) (hf : fit (tyOf tt t) x = true) :
    (Instr.loadAt t (.pointer (some ⟨g, off, none⟩))).run P w = .ok (mkV x.isAgg c) w := by
  rw [Option.isSome_iff_exists] at ht
  obtain ⟨X, hX⟩ := ht
  rw [tyOf_some hX] at hf
  have hl := fit_len hE hr hf
  have := run_loadVar (P := P) (hT t X hX) hc hl (fun ha => by rw [hl, size_one ha])
  rw [fit_agg' hf]
  simpa [Instr.loadAt, Instr.sureAddr] using this

/-- A read of a block. -/
theorem look_sound (hE : EnvOK E) (hT : TOK P E tt) (hw : WR M μ b w) {id t : Nat} {a x : AV E} {v : Value} (hid : ptrId a = some id) (h : look tt (blk b id) a t = some (true, x)) (hv : RS M μ a v) :
    (∃ v', (Instr.loadAt t v).run P w = .ok v' w ∧ RS M μ x v') ∧ OKA b x := by
  unfold look at h
  split at h
  · rename_i id' ly p
    cases hid
    obtain ⟨hd, h⟩ := bif_some h
    simp only [Bool.and_eq_true, decide_eq_true_eq] at hd
    obtain ⟨hs, hd⟩ := hd
    cases hv with
    | v hv =>
      cases hv
      split at h
      · rename_i ly' a' hb
        obtain ⟨hl, h⟩ := bif_some h
        have hl : ly' = ly := by simpa using hl
        subst hl
        obtain ⟨rfl, hn, hr⟩ := rcd_some h
        have hB := hw.bw id
        rw [hb] at hB
        obtain ⟨cs, T, h1, h2, h3, h4⟩ := hB
        rcases getP_sound hE p _ _ _ h3 h2 hr.symm with h0 | ⟨c, h5, h6, h7⟩
        · exact absurd h0 hn
        · rw [hd] at h7
          have hc := (InMem.heap h1).piece h5
          rw [Nat.zero_add] at hc
          exact ⟨⟨_, run_loadPart hE hT hs hc h6 h7, RS.v h6⟩, (hw.oks _ _ _ hb).getP p⟩
      · rename_i ly' v' hb
        obtain ⟨hl, h⟩ := bif_some h
        have hl : ly' = ly := by simpa using hl
        subst hl
        obtain ⟨rfl, hn, hr⟩ := rcd_some h
        have hB := hw.bw id
        rw [hb] at hB
        obtain ⟨cs, h1, h2⟩ := hB
        rcases getP_sound (μ := μ) hE p _ _ _ (fit_self _ v') (.t h2) hr.symm with h0 | ⟨c, h5, h6, h7⟩
        · exact absurd h0 hn
        · rw [hd] at h7
          have hc := (h1.inMem hw.holds).piece h5
          rw [Nat.zero_add] at hc
          exact ⟨⟨_, run_loadPart hE hT hs hc h6 h7, RS.v h6⟩, (OKA.t b _ v').getP p⟩
      · cases h
  · rename_i id' e i p
    cases hid
    obtain ⟨hd, h⟩ := bif_some h
    simp only [Bool.and_eq_true, decide_eq_true_eq] at hd
    obtain ⟨hs, hd⟩ := hd
    cases hv with
    | v hv =>
      cases hv
      split at h
      · rename_i e' xs hb
        obtain ⟨hl, h⟩ := bif_some h
        have hl : e' = e := by simpa using hl
        subst hl
        obtain ⟨rfl, hn, hr⟩ := rcd_some h
        have hr := hr.symm
        simp only [Bool.and_eq_true, decide_eq_true_eq] at hr
        replace hr := hr.symm
        have hB := hw.bw id
        rw [hb] at hB
        obtain ⟨_, cs, T, fr, css, h1, h2, ⟨rest, h3⟩, h4, _⟩ := hB.resolve_left fun h => by have := hr.1; rw [h.2] at this; simp at this
        obtain ⟨c0, hp0, hc0⟩ := h2.fldArr hE hr.1
        rcases getP_sound (μ := μ) hE p _ _ _ (fit_self _ _) (.t hc0) hr.2 with h0 | ⟨c, h5, h6, h7⟩
        · exact absurd h0 hn
        · rw [hd] at h7
          have hp : Piece cs.toList (i * size E e' + offTy E e' p) c := by
            have : Piece cs.toList 0 css := ⟨[], rest, by simp [h3], rfl⟩
            have := (this.trans hp0).trans h5
            rwa [Nat.zero_add] at this
          have hc := (InMem.heap h1).piece hp
          rw [Nat.zero_add] at hc
          exact ⟨⟨_, run_loadPart hE hT hs hc h6 h7, RS.v h6⟩, (OKA.t b _ _).getP p⟩
      · cases h
  · cases h

theorem RC.one' {t : Ty} {x : E.D t} {cs : List Value} (h : RC M t x cs) : ∀ v ∈ cs, v.oneCell' = true := by
  induction h with
  | pair _ _ i1 i2 => intro v hv; rcases List.mem_append.1 hv with h | h; exact i1 v h; exact i2 v h
  | one _ ih => exact ih
  | nm _ ih => exact ih
  | arr n xs css hn hl h ih =>
    intro v hv
    obtain ⟨l, hl', hv⟩ := List.mem_flatten.1 hv
    obtain ⟨i, hi, rfl⟩ := List.mem_iff_getElem.1 hl'
    refine ih i (by omega) v ?_
    rw [List.getD_of_lt _ _ _ hi]
    exact hv
  | _ => intro v hv; simp only [List.mem_singleton] at hv; subst hv; rfl
theorem RV.one' {a : AV E} {cs : List Value} (h : RV M μ a cs) : ∀ v ∈ cs, v.oneCell' = true := by
  induction h with
  | t h => exact h.one'
  | agg cs css hl h ih =>
    intro v hv
    obtain ⟨l, hl', hv⟩ := List.mem_flatten.1 hv
    obtain ⟨i, hi, rfl⟩ := List.mem_iff_getElem.1 hl'
    refine ih i (by omega) v ?_
    rw [List.getD_of_lt _ _ _ hi]
    exact hv
  | _ => intro v hv; simp only [List.mem_singleton] at hv; subst hv; rfl

theorem opens_oka : ∀ (ty : Ty) (v : E.D ty), ∀ c ∈ opens ty v, OKA b c := by
  intro ty
  induction ty with
  | one a _ =>
    intro v c hc
    have : c = .t a v := by simpa [opens] using hc
    subst this
    exact .t _ _ _
  | pair x y _ ih =>
    intro v c hc
    have e : opens (.pair x y) v = match opens y v.2 with | [] => [] | c :: l => .t x v.1 :: c :: l := rfl
    rw [e] at hc
    cases ho : opens y v.2 with
    | nil => rw [ho] at hc; simp at hc
    | cons d l =>
      rw [ho] at hc
      rcases List.mem_cons.1 hc with rfl | hc
      · exact .t _ _ _
      · exact ih v.2 c (by rw [ho]; exact hc)
  | _ => intro v c hc; simp [opens] at hc
theorem openT_oka (a : AV E) (h : OKA b a) : ∀ c ∈ openT a, OKA b c := by
  intro c hc
  cases a with
  | t ty v => cases ty <;> exact opens_oka _ _ c hc
  | agg cs =>
    cases h with
    | plain _ hn => exact absurd rfl (hn cs)
    | agg _ h => exact h c hc
  | _ => simp [openT] at hc
theorem OKA.setP {x : AV E} (hx : OKA b x) : ∀ (p : List Nat) (a a' : AV E), OKA b a → Fv.setP x p a = some a' → OKA b a'
  | [], a, a', ha, h => by
    have h : some x = some a' := by cases a <;> exact h
    cases h
    exact hx
  | i :: p, a, a', ha, h => by
    cases a with
    | t ty v =>
      have h : (bif isD x then (setPT x (i :: p) ty v).map (.t ty) else ((openT (.t ty v))[i]?).bind fun c0 => (Fv.setP x p c0).map fun c => .agg ((openT (.t ty v)).set i c)) = some a' := h
      cases hD : isD x with
      | true =>
        rw [hD] at h
        obtain ⟨v', hv, rfl⟩ := Option.map_eq_some_iff.1 h
        exact .t _ _ _
      | false =>
        rw [hD] at h
        obtain ⟨c0, hc0, h⟩ := Option.bind_eq_some_iff.1 h
        obtain ⟨c, hc, rfl⟩ := Option.map_eq_some_iff.1 h
        have hot := openT_oka (b := b) (.t ty v) (.t _ _ _)
        refine .agg _ fun y hy => ?_
        rcases List.mem_or_eq_of_mem_set hy with h | rfl
        · exact hot y h
        · exact OKA.setP hx p c0 _ (hot c0 (List.mem_of_getElem? hc0)) hc
    | agg l =>
      have h : ((l[i]?).bind fun c0 => (Fv.setP x p c0).map (fun c => .agg (l.set i c))) = some a' := h
      obtain ⟨c0, hc0, h⟩ := Option.bind_eq_some_iff.1 h
      obtain ⟨c, hc, rfl⟩ := Option.map_eq_some_iff.1 h
      cases ha with
      | plain _ hn => exact absurd rfl (hn l)
      | agg _ ha =>
        refine .agg _ fun y hy => ?_
        rcases List.mem_or_eq_of_mem_set hy with h | rfl
        · exact ha y h
        · exact OKA.setP hx p c0 _ (ha c0 (List.mem_of_getElem? hc0)) hc
    | _ => cases h

/-- Cells are stored where none is held. -/
theorem run_storeCells_fr (P : Program) (g o : Nat) (t : TypeId) (fr : Nat × Nat) : ∀ (vs : List Value) (i : Nat) (cur : Array Value) (w : World), w.heap[g]? = some (.cells cur t fr) → (fr = (0, 0) ∨ cur.size ≤ fr.1) → o + i + vs.length ≤ cur.size → (∀ v ∈ vs, v.oneCell' = true) →
    (storeCells ⟨g, o, none⟩ vs i).run P w = .ok () (w.setRow g (cur.toList.take (o + i) ++ vs ++ cur.toList.drop (o + i + vs.length)).toArray)
  | [], i, cur, w, hg, _, _, _ => by
    simp only [storeCells, List.append_nil, List.length_nil, Nat.add_zero, List.take_append_drop, Array.toArray_toList]
    rw [setRow_self w g cur t fr hg]
    rfl
  | v :: rest, i, cur, w, hg, hfr, hl, h1 => by
    have hi : o + i < cur.size := by simp at hl; omega
    have hadd : (⟨g, o, none⟩ : Addr).add i = ⟨g, o + i, none⟩ := by unfold Addr.add; split <;> simp_all
    have hcell : w.cell? ⟨g, o + i, none⟩ = some cur[o + i] := by simp [World.cell?, hg, hi]
    have hfro : w.frozen? ⟨g, o + i, none⟩ = false := by
      rcases hfr with rfl | hfr
      · simp [World.frozen?, hg]
      · simp only [World.frozen?, hg]
        have : decide (fr.1 ≤ o + i) = false := decide_eq_false (by omega)
        obtain ⟨f1, f2⟩ := fr
        simp only at this ⊢
        rw [this, Bool.false_and]
    have hst : (store ((⟨g, o, none⟩ : Addr).add i) v).run P w = .ok () (w.setRow g (cur.setIfInBounds (o + i) v)) := by
      rw [hadd, run_store P w _ v _ (h1 v (by simp)), hcell]
      simp [hfro, setCell_eq_setRow w g (o + i) cur t fr v hg]
    have ih := run_storeCells_fr P g o t fr rest (i + 1) (cur.setIfInBounds (o + i) v) (w.setRow g (cur.setIfInBounds (o + i) v)) (setRow_heap w g cur _ t _ hg) (by simpa using hfr) (by simp at hl ⊢; omega) (fun x hx => h1 x (by simp [hx]))
    simp only [storeCells, Sem.run_bind, hst, Result.andThen_ok, ih, setRow_setRow]
    congr 3
    have e := list_seg_step cur.toList (o + i) v rest (by simp at hl ⊢; omega)
    simpa [Array.toList_setIfInBounds, Nat.add_assoc] using e
theorem FrOK.free {e : Ty} {n : Nat} {fr : Nat × Nat} (h : FrOK e n fr) : fr = (0, 0) ∨ n ≤ fr.1 := h.imp id And.right
/-- A store's cells. -/
theorem run_store_at (hT : TOK P E tt) {t : Nat} (ht : (tt t).isSome = true) {g off : Nat} {cur : Array Value} {T : TypeId} {fr : Nat × Nat} (hg : w.heap[g]? = some (.cells cur T fr)) (hfr : fr = (0, 0) ∨ cur.size ≤ fr.1) {v : Value} {c cs' : List Value}
    (hv : v.cells.toList = c) (hl : c.length = size E (tyOf tt t)) (h1 : ∀ u ∈ c, u.oneCell' = true) (hr : Repl cur.toList off c cs') :
    (Instr.storeAt t (.pointer (some ⟨g, off, none⟩)) v).run P w = .ok () (w.setRow g cs'.toArray) := by
  rw [Option.isSome_iff_exists] at ht
  obtain ⟨X, hX⟩ := ht
  obtain ⟨i, hi, hs⟩ := hT.size hX
  rw [tyOf_some hX] at hl
  obtain ⟨pre, old, post, e1, rfl, rfl, e4⟩ := hr
  have hsz : cur.size = pre.length + old.length + post.length := by rw [← Array.length_toList, e1]; simp [Nat.add_assoc]
  have hst := run_storeCells_fr P g pre.length T fr c 0 cur w hg hfr (by omega) h1
  have hvs : v.cells.size = c.length := by rw [← hv]; simp
  simp only [Instr.storeAt, Instr.sureAddr, Sem.run_bind, Sem.run_pure, Result.andThen_ok, storeVar, run_sizeOf hi, hvs, hl, hs, ne_eq, not_true_eq_false, if_false, hv]
  rw [Nat.add_zero] at hst
  refine Eq.trans ?_ (hst.trans ?_)
  · rfl
  · congr 3
    rw [e1, ← e4]
    simp [List.append_assoc]

theorem holds_setRow (hw : Holds M w) {g : Nat} (cs : Array Value) (hm : ∀ o, M g o = none) : Holds M (w.setRow g cs) := by
  intro g' o v h
  have hne : g' ≠ g := by rintro rfl; rw [hm] at h; cases h
  rcases hw g' o v h with ⟨h1, h2⟩ | ⟨h1, es, c, h2, h3⟩ | ⟨cs3, T3, f3, h2, h3, h4⟩
  · exact .inl ⟨h1, by rw [cell_setRow_other w g cs _ hne]; exact h2⟩
  · exact .inr (.inl ⟨h1, es, c, by rw [setRow_other w g g' cs hne]; exact h2, h3⟩)
  · exact .inr (.inr ⟨cs3, T3, f3, by rw [setRow_other w g g' cs hne]; exact h2, h3, h4⟩)

theorem put_step (hE : EnvOK E) (hT : TOK P E tt) (hw : WR M μ b w) {t : Nat} {a x r : AV E} {va vx : Value} {u : Upd E} (h : put tt b a t x = some (true, r, u)) (ha : RS M μ a va) (hx : RS M μ x vx) (okx : OKA b x) :
    ∃ w', (Instr.storeAt t va vx).run P w = .ok () w' ∧ ∃ μ', Tr b.length M μ b w M μ' (upds b u) w' ∧ r = .undef := by
  unfold put at h
  split at h
  · rename_i id ly p
    obtain ⟨hd, h⟩ := bif_some h
    simp only [Bool.and_eq_true, decide_eq_true_eq] at hd
    obtain ⟨⟨hs, hd⟩, hf⟩ := hd
    cases ha with
    | v ha =>
      cases ha
      split at h
      · rename_i ly' a' hb
        obtain ⟨hl, h⟩ := bif_some h
        have hl : ly' = ly := by simpa using hl
        subst hl
        split at h
        · rename_i a'' hset
          have hr : inR E ly' p = true := by
            injection h with h; injection h
          have hu : r = .undef ∧ u = [(id, .var ly' a'')] := by
            injection h with h; injection h with _ h; injection h with h1 h2; exact ⟨h1.symm, h2.symm⟩
          obtain ⟨rfl, rfl⟩ := hu
          have hB := hw.bw id
          rw [hb] at hB
          obtain ⟨cs, T, h1, h2, h3, h4⟩ := hB
          obtain ⟨c, hc1, hc2, hc3⟩ := hx.real (fit_real hf)
          obtain ⟨cs', h5, h6, h7⟩ := setP_sound hE hc1 p _ _ _ _ (by rw [hd]; exact hf) hr h3 hset h2
          have hst := run_store_at hT hs h1 (.inl rfl) hc3 (fit_len hE hc1 hf) hc1.one' h7
          have hid : id < b.length := blk_lt (by rw [hb]; simp)
          have hg : (μ id).g < w.heap.size := (Array.getElem?_eq_some_iff.1 h1).1
          have ok' := okx.setP p _ _ (hw.oks _ _ _ hb) hset
          refine ⟨_, hst, upd μ id (μ id), Tr.one hw hid (μ id) _ (.refl M) (holds_setRow hw.holds _ h4) (by rw [hb]; exact ⟨rfl, rfl⟩) ?_ (by simp) ?_ (fun _ _ h1 h2 => absurd h1 h2) ?_ ?_ rfl ⟨rfl, fun _ => Nat.le_refl _⟩ rfl, rfl⟩
          · intro lv
            exact ⟨cs'.toArray, T, setRow_heap w _ cs _ T _ h1, by simpa using h5.tr ok' (.refl M) lv, h6, h4⟩
          · intro g _ hg
            rw [hb] at hg
            exact setRow_other w _ g _ (fun e => hg (by simp [Exc, e]))
          · intro g h
            rw [hb]
            exact .inr h
          · intro lv ly a h
            cases h
            exact ok'.tr lv
        · cases h
      · cases h
  · rename_i id e i p
    obtain ⟨hd, h⟩ := bif_some h
    simp only [Bool.and_eq_true, decide_eq_true_eq] at hd
    obtain ⟨⟨hs, hd⟩, hf⟩ := hd
    cases ha with
    | v ha =>
      cases ha
      split at h
      · rename_i e' xs hb
        obtain ⟨hl, h⟩ := bif_some h
        have hl : e' = e := by simpa using hl
        subst hl
        split at h
        · rename_i y hset
          have hr : (inR E e' p && decide (i < xs.length)) = true := by
            injection h with h; injection h
          have hu : r = .undef ∧ u = [(id, .row e' (xs.set i y))] := by
            injection h with h; injection h with _ h; injection h with h1 h2; exact ⟨h1.symm, h2.symm⟩
          obtain ⟨rfl, rfl⟩ := hu
          simp only [Bool.and_eq_true, decide_eq_true_eq] at hr
          replace hr := hr.symm
          have hB := hw.bw id
          rw [hb] at hB
          obtain ⟨hv0, cs, T, fr, css, h1, h2, ⟨rest, h3⟩, h4, hsz, hfr⟩ := hB.resolve_left fun h => by have := hr.1; rw [h.2] at this; simp at this
          obtain ⟨c, hc1, hc2, hc3⟩ := hx.real (fit_real hf)
          obtain ⟨c0, hp0, hc0⟩ := h2.fldArr hE hr.1
          obtain ⟨d, h5, h6⟩ := setPT_sound hE hc1 p _ _ _ _ (by rw [hd]; exact hf) hr.2 hset hc0
          obtain ⟨pre, old, post, e1, e2, e3, e4⟩ := h2.arr_set hE hr.1 h5
          have e5 : old = c0 := by
            obtain ⟨p1, q1, f1, f2⟩ := hp0
            have hlen : pre.length = p1.length := by omega
            have h7 := e1.symm.trans f1
            rw [List.append_assoc, List.append_assoc] at h7
            obtain ⟨_, g2⟩ := List.append_inj h7 hlen
            exact (List.append_inj g2 (by rw [e4.len hE, hc0.len hE])).1
          subst e5
          have h7 : Repl cs.toList (i * size E e' + offTy E e' p) c (pre ++ d ++ (post ++ rest)) := Repl.inside (by rw [h3, e1]; simp) e3 h6
          have hst := run_store_at hT hs h1 hfr.free hc3 (fit_len hE hc1 hf) hc1.one' h7
          have hid : id < b.length := blk_lt (by rw [hb]; simp)
          refine ⟨_, hst, upd μ id (μ id), Tr.one hw hid (μ id) _ (.refl M) (holds_setRow hw.holds _ h4) (by rw [hb]; exact ⟨rfl, by simp, rfl, rfl⟩) ?_ (by simp) ?_ (fun _ _ h1 h2 => absurd h1 h2) ?_ ?_ rfl ⟨rfl, fun _ => Nat.le_refl _⟩ rfl, rfl⟩
          · intro lv
            have e9 : (pre ++ d ++ (post ++ rest)).toArray.size = cs.size := by
              have h8 := h7.len
              rw [Array.length_toList] at h8
              rw [List.size_toArray]
              first | exact h8 | exact h8.symm
            refine .inr ⟨hv0, _, T, fr, _, setRow_heap w _ cs _ T _ h1, by rw [List.length_set]; exact e2, ⟨rest, by simp⟩, h4, ?_, by rw [e9]; exact hfr⟩
            rw [← hsz]
            exact e9
          · intro g _ hg
            rw [hb] at hg
            exact setRow_other w _ g _ (fun e => hg (by simp [Exc, e, hv0]))
          · intro g h
            rw [hb]
            exact .inr h
          · intro lv ly a h
            cases h
        · cases h
      · cases h
  · cases h

end Go.Proofs.YtbmpjppfdeohnaaDoor.Fv

/-! Slices that are made. -/
namespace Go.Proofs.YtbmpjppfdeohnaaDoor.Fv
variable [Quiet]
variable {E : Env} {P : Program} {tt : Nat → Option TE} {M M' : Mem} {μ μ' : Mu} {b b' : List (Blk E)} {w w' : World}

theorem range_mod (l : List Value) : ∀ n, (List.range (n * l.length)).map (fun j => l.toArray[j % l.toArray.size]!) = (List.replicate n l).flatten
  | 0 => by simp
  | n + 1 => by
    rw [Nat.succ_mul, List.range_add, List.map_append, range_mod l n, List.replicate_succ', List.flatten_append]
    congr 1
    rw [List.map_map]
    apply List.ext_getElem
    · simp
    · intro j h1 h2
      have hj : j < l.length := by simpa using h1
      have e : (n * l.length + j) % l.length = j := by rw [Nat.add_comm, Nat.add_mul_mod_self_right, Nat.mod_eq_of_lt hj]
      simp [e, hj]
theorem zeroRow (z : Array Value) (n : Nat) : ((Array.range (n * z.size)).map (fun j => z[j % z.size]!)) = ((List.replicate n z.toList).flatten).toArray := by
  have := range_mod z.toList n
  apply Array.ext'
  rw [Array.toList_map, Array.toList_range]
  simpa using this
theorem zeroCells_eq (z : Array Value) (n : Nat) : Builtin.zeroCells z n = ((List.replicate n z.toList).flatten).toArray := zeroRow z n
theorem flatten_rep (n k : Nat) (l : List Value) (h : l.length = k) : (List.replicate n l).flatten.length = n * k := by
  simp [List.length_flatten, h]

/-- A slice that has no room is at home where there is room. -/
theorem exact_home (hw : WR M μ b w) {d : Nat} (hd : free b d = true) {e : Ty} {xs : List (E.D e)} {v : Value} (hv : RS M μ (.exact e xs) v) :
    ∃ c', Tr b.length M μ b w M (upd μ d c') (b.set d (.grow e xs.length)) w ∧ RS M (upd μ d c') (.sl d e xs) v ∧ OKA (b.set d (.grow e xs.length)) (.sl d e xs) := by
  obtain ⟨hd1, hd2⟩ := free_spec hd
  cases hv with
  | v hv =>
    cases hv with
    | exact _ _ base hr =>
      refine ⟨⟨0, fun _ => (base, xs.length)⟩, Tr.new hw hd _ _ (.refl M) hw.holds (.refl w) ?_ (fun _ _ h1 h2 => absurd h1 h2) ?_ ?_, ?_, .plain ⟨_, blk_set_self hd1 _, Nat.le_refl _⟩ (by simp) (by simp) (by simp)⟩
      · exact fun _ => ⟨Nat.le_refl _, .inl rfl⟩
      · intro g h; simp [Exc] at h
      · intro _ ly a h; cases h
      · have := RV.sl (E := E) (M := M) (μ := upd μ d ⟨0, fun _ => (base, xs.length)⟩) d e xs (by rw [upd_self]; exact hr)
        rw [upd_self] at this
        exact RS.v this

theorem movN_step (hw : WR M μ b w) {d : Nat} {x a : AV E} {u : Upd E} {v : Value} {c : Bool} {r : Bool} (h : movN r b d x = some (c, a, u)) (hv : RS M μ x v) {s : Sem Next} (hs : s = pure (.value v)) : OpStep P M μ b w s a u := by
  subst hs
  unfold movN at h
  split at h
  · rename_i e
    cases hf : free b (d + 16) with
    | true =>
      rw [hf] at h
      cases r with
      | false =>
        cases h
        obtain ⟨c', h1, h2, h3⟩ := exact_home hw hf hv
        exact ⟨v, w, M, _, .inl rfl, h1, h2, h3⟩
      | true =>
        cases h
        obtain ⟨hd1, hd2⟩ := free_spec hf
        cases hv with
        | v hv => cases hv with
          | exact _ _ base hr =>
            refine ⟨_, w, M, upd μ (d + 16) ⟨0, fun _ => (none, 0)⟩, .inl rfl, ?_, ?_, .plain (.inl ⟨[], blk_set_self hd1 _, by simp⟩) (by simp) (by simp) (by simp)⟩
            · refine Tr.new hw hf ⟨0, fun _ => (none, 0)⟩ _ (.refl M) hw.holds (Ext.refl w) (fun _ => .inl ⟨rfl, rfl⟩) (fun _ _ h1 h2 => absurd h1 h2) ?_ ?_
              · intro g h; simp [Exc] at h
              · intro _ ly a h; cases h
            · exact RS.v (a := .fs (d + 16) e 0 0) (RV.fs (d + 16) e 0 0 0 base (.inr ⟨rfl, by rw [upd_self]; exact Nat.le_refl _⟩) (Nat.le_refl _))
    | false =>
      rw [hf] at h
      cases h
      exact .same hw rfl hv (.exact _ _ _)
  · cases h

/-! ### Slices out of their parts -/
theorem TOK.zcells (hT : TOK P E tt) {t : Nat} {x : TE} (hx : tt t = some x) (hf : x.ty.full = true) : ∃ i z, P.info? t = some i ∧ i.zero = some z ∧ i.size = Fv.size E x.ty ∧ z.cells.toList = Fv.zcells E x.ty := by
  obtain ⟨i, z, h1, h2, h3, h4, _⟩ := (hT t x hx).zero
  refine ⟨i, z, h1, h2, h3, ?_⟩
  rw [h4]
  have : zeroA (E := E) tt 20 t = .t x.ty (dfl E x.ty) := by simp [zeroA, hx, zeroX, hf]
  rw [this]
  rfl
theorem zcells_len (hE : EnvOK E) (hz : ∀ n, RC M (.nm n) (E.dfl n) (E.zc n)) {t : Ty} (hf : t.full = true) : (zcells E t).length = size E t := (RC.zero M hz t hf).len hE

/-- The cells of a row that is made of parts. -/
theorem run_row (hE : EnvOK E) (hz : ∀ n, RC M (.nm n) (E.dfl n) (E.zc n)) (hT : TOK P E tt) {t el n : Nat} {e : Ty} (htd : tdOf tt t = .slice el) (hty : tyOf tt t = .sl e)
    {ks : List Nat} {l : List (AV E)} {vs : List Value} (hl : RSL M μ l vs) (hks : ks.length = l.length) (hn : nodup ks = true) (hlt : ks.all (fun k => decide (k < n)) = true) (hsm : n ≤ 1000)
    {xs : List (E.D e)} (hxs : elems tt el (ks.zip l) e n 0 = some xs) (w : World) :
    ∃ css : List (List Value), (Instr.buildSlice t n (ks.zip vs).toArray).run P w = .ok (.slice (some ⟨w.heap.size, 0, none⟩) n n) (w.alloc (.cells css.flatten.toArray el)) ∧ css.length = n ∧ ∀ i (hi : i < xs.length), RC M e xs[i] (css.getD i []) := by
  obtain ⟨y, hy, hu, rfl, hfull, hby, hsz0, hsz1⟩ := hT.slice htd hty
  obtain ⟨i, z, hi, hz0, hsz, hzc⟩ := hT.zcells hy hfull
  have hzl := zcells_len (M := M) hE hz hfull
  obtain ⟨hlen, hget⟩ := elems_get el (ks.zip l) y.ty n 0 xs hxs
  have hzsz : z.cells.size = i.size := by rw [← Array.length_toList, hzc, hzl, hsz]
  have hvs := hl.length
  have hrep : ∀ j, j < n → ((List.replicate n z.cells.toList).getD j []).length = i.size := by
    intro j hj
    rw [List.getD_of_lt _ _ _ (by simpa using hj)]
    simp [hzsz]
  have hfill := fill_sound (fun k => some (k * i.size, i.size)) (ks.zip vs) (List.replicate n z.cells.toList) ?_ ?_
  · refine ⟨(ks.zip vs).foldl (fun c p => c.set p.1 p.2.cells.toList) (List.replicate n z.cells.toList), ?_, by rw [foldl_set_len]; simp, ?_⟩
    · by_cases h0 : n = 0
      · subst h0
        have hk : ks = [] := by
          cases ks with
          | nil => rfl
          | cons k ks => simp at hlt
        subst hk
        simp [Instr.buildSlice, run_underlying' hu, run_sizeOf hi, Instr.fill, newRow]
        congr 2
        apply Array.ext'
        simp
      · refine run_buildSlice w t el n _ _ i z hu hi hz0 ?_ ?_ ?_
        · have : n * i.size ≤ 1000 * 16384 := Nat.mul_le_mul hsm (by omega)
          omega
        · have : 0 < n * i.size := Nat.mul_pos (by omega) (by omega)
          omega
        · have e1 := zeroRow z.cells n
          rw [hzsz] at e1
          rw [hzsz, e1]
          exact hfill
    · intro j hj
      rw [foldl_set (ks.zip vs) _ (by rw [List.map_fst_zip (by omega)]; exact hn) ?_ j]
      · have := hget j hj
        rw [Nat.zero_add] at this
        rcases hl.lookup ks hks j with ⟨h1, h2⟩ | ⟨a, v, h1, h2, h3⟩
        · rw [h1] at this
          rw [h2]
          simp only at this ⊢
          rw [this, List.getD_of_lt _ _ _ (by simp; omega)]
          simp only [List.getElem_replicate, hzc]
          exact RC.zero M hz _ hfull
        · rw [h1] at this
          rw [h2]
          simp only at this ⊢
          obtain ⟨c, h6, _, h7⟩ := (ca_sound (tt := tt) (t := el) h3).real (toT_real this)
          rw [h7]
          exact toT_sound hE h6 this
      · intro p hp
        have hmem := List.of_mem_zip hp
        simp only [List.all_eq_true, decide_eq_true_eq] at hlt
        simpa using hlt _ hmem.1
  · intro j hj
    have hj' : j < n := by simpa using hj
    have : ((List.replicate n z.cells.toList).take j).flatten.length = j * i.size := by
      rw [List.take_replicate, flatten_rep _ i.size _ (by simp [hzsz]), Nat.min_eq_left (by omega)]
    rw [this, hrep j hj']
  · intro p hp
    have hmem := List.of_mem_zip hp
    simp only [List.all_eq_true, decide_eq_true_eq] at hlt
    have hlt' := hlt _ hmem.1
    refine ⟨by simpa using hlt', ?_⟩
    rw [hrep _ hlt']
    have hlook : (ks.zip vs).lookup p.1 = some p.2 := lookup_mem _ (by rw [List.map_fst_zip (by omega)]; exact hn) p hp
    rcases hl.lookup ks hks p.1 with ⟨h1, h2⟩ | ⟨a, v, h1, h2, h3⟩
    · rw [h2] at hlook; cases hlook
    · rw [h2] at hlook
      cases hlook
      have := hget p.1 (by omega)
      rw [Nat.zero_add, h1] at this
      simp only at this
      obtain ⟨c, h6, _, h7⟩ := (ca_sound (tt := tt) (t := el) h3).real (toT_real this)
      rw [h7, (toT_sound hE h6 this).len hE, hsz]

/-- The elements of a new block are known for good. -/
theorem RC.new_row (hE : EnvOK E) {e : Ty} {xs : List (E.D e)} {css : List (List Value)} {g : Nat} (hl : css.length = xs.length) (h : ∀ i (hi : i < xs.length), RC M e xs[i] (css.getD i [])) (hg : ∀ o, M g o = none) {n cap : Nat} (hn : n = xs.length) (hc : n ≤ cap) :
    RC (plus M g 0 css.flatten) (.sl e) xs [.slice (some ⟨g, 0, none⟩) n cap] := by
  subst hn
  refine .sl xs _ cap (fun i => css.getD i []) hc (fun i hi => (h i hi).mono (plus_le fun o _ => hg o)) ?_ (fun h => nomatch h)
  intro i hi
  refine ⟨⟨g, 0, none⟩, rfl, rfl, ?_⟩
  have hp := flatten_piece css i (size E e) (by omega) (fun j hj => (h j (by omega)).len hE)
  exact (plus_at M g 0 css.flatten (css_noT hl h)).piece hp

theorem buildSlice_step (hE : EnvOK E) (hz : ∀ n, RC M (.nm n) (E.dfl n) (E.zc n)) (hT : TOK P E tt) (hw : WR M μ b w) {t el n d : Nat} {e : Ty} (htd : tdOf tt t = .slice el) (hty : tyOf tt t = .sl e)
    {ks : List Nat} {l : List (AV E)} {vs : List Value} (hl : RSL M μ l vs) (hks : ks.length = l.length) (hn : nodup ks = true) (hlt : ks.all (fun k => decide (k < n)) = true) (hsm : n ≤ 1000)
    {xs : List (E.D e)} (hxs : elems tt el (ks.zip l) e n 0 = some xs) {s : Sem Next} (hs : s = (do pure (.value (← Instr.buildSlice t n (ks.zip vs).toArray)))) :
    OpStep P M μ b w s (.exact e xs) [] ∧ (free b d = true → OpStep P M μ b w s (.fs d e 0 n) [(d, .row e xs)]) := by
  subst hs
  obtain ⟨css, h1, h2, h3⟩ := run_row hE hz hT htd hty hl hks hn hlt hsm hxs w
  have hlen := (elems_get el (ks.zip l) e n 0 xs hxs).1
  have hnew : ∀ o, M w.heap.size o = none := fun o => hw.holds.new (Nat.le_refl _)
  have hrun : (do pure (.value (← Instr.buildSlice t n (ks.zip vs).toArray)) : Sem Next).run P w = .ok (.value (.slice (some ⟨w.heap.size, 0, none⟩) n n)) (w.alloc (.cells css.flatten.toArray el)) := by simp [h1]
  constructor
  · refine ⟨_, _, plus M w.heap.size 0 css.flatten, μ, .inl hrun, Tr.grown hw (plus_le fun o _ => hnew o) (plus_holds ((Ext.alloc w _).holds hw.holds) (css_noT (by omega) h3) ?_) (Ext.alloc w _) ?_, ?_, .exact _ _ _⟩
    · have := inMem_alloc w css.flatten.toArray el
      simpa using this
    · intro g o h4 h5
      exact Nat.le_of_eq (plus_new h4 h5).symm
    · have := RC.new_row hE (by omega) h3 hnew (n := xs.length) (cap := xs.length) rfl (Nat.le_refl _)
      rw [← hlen]
      exact RS.exact this
  · intro hd
    obtain ⟨hd1, hd2⟩ := free_spec hd
    refine ⟨_, _, M, upd μ d ⟨w.heap.size, fun _ => (none, n)⟩, .inl hrun, ?_, ?_, .plain (.inl ⟨xs, blk_set_self hd1 _, by omega⟩) (by simp) (by simp) (by simp)⟩
    · refine Tr.new hw hd ⟨w.heap.size, _⟩ _ (.refl M) ((Ext.alloc w _).holds hw.holds) (Ext.alloc w _) ?_ (fun _ _ h1 h2 => absurd h1 h2) ?_ ?_
      · intro lv
        by_cases hn0 : n = 0
        · exact .inl ⟨hn0, List.eq_nil_of_length_eq_zero (by omega)⟩
        · refine .inr ⟨hn0, _, el, _, css.flatten, heap_alloc_new w _, .arr _ _ css rfl (by omega) h3, ⟨[], by simp⟩, hnew, ?_, .inl rfl⟩
          rw [List.size_toArray, flatten_len (k := size E e) fun i hi => (h3 i (by omega)).len hE]
          rw [show css.length = n by omega]
      · intro g h
        simp only [Exc] at h
        split at h
        · cases h
        · cases h; exact Nat.le_refl _
      · intro lv ly a h; cases h
    · refine RS.v (RV.fs d e 0 n n _ (.inl ?_) (Nat.le_refl _))
      rw [upd_self, Nat.zero_mul, Nat.zero_add]
      exact ⟨rfl, rfl⟩

end Go.Proofs.YtbmpjppfdeohnaaDoor.Fv

/-! Slices that grow. -/
namespace Go.Proofs.YtbmpjppfdeohnaaDoor.Fv
variable [Quiet]
variable {E : Env} {P : Program} {tt : Nat → Option TE} {M M' : Mem} {μ μ' : Mu} {b b' : List (Blk E)} {w w' : World}

/-! ### make -/
theorem wrap64 {n : Int} (h0 : 0 ≤ n) (h1 : n ≤ 4294967296) : IntKind.i64.wrap n = n := by
  have hb : IntKind.i64.bits = 64 := rfl
  have hs : IntKind.i64.signed = true := rfl
  simp only [IntKind.wrap, hb, hs]
  simp
  omega
theorem run_mkSlice {t el : Nat} {i : TypeInfo} {z : Value} (hu : P.underlying t = some (.slice el)) (hi : P.info? el = some i) (hz : i.zero = some z) (hzs : z.cells.size = i.size) (hby : i.bytes ≤ 32768) (k k' : IntKind) {l c : Int} (h0 : 0 ≤ l) (h1 : l ≤ c) (h2 : c ≤ 4294967296) (w : World) :
    (Instr.makeSlice t (.int k l) (.int k' c)).run P w = .ok (.slice (some ⟨w.heap.size, 0, none⟩) l.toNat c.toNat) (w.alloc (.cells ((List.replicate c.toNat z.cells.toList).flatten.toArray) el)) := by
  have w1 := wrap64 h0 (by omega)
  have w2 := wrap64 (n := c) (by omega) h2
  have hb : ((i.bytes : Int) * c) ≤ 32768 * 4294967296 := Int.mul_le_mul (by omega) h2 (by omega) (by omega)
  have hc : ¬ (c < 0) := by omega
  have hl : ¬ (l < 0) := by omega
  have hlc : ¬ (l > c) := by omega
  have hbc : ¬ ((i.bytes : Int) * c > 2 ^ 48) := by
    have : (2 : Int) ^ 48 = 281474976710656 := by decide
    omega
  have e1 := zeroRow z.cells c.toNat
  rw [hzs] at e1
  by_cases hn : c.toNat * i.size = 0
  · have e2 : (List.replicate c.toNat z.cells.toList).flatten = [] := by
      apply List.eq_nil_of_length_eq_zero
      rw [flatten_rep _ i.size _ (by simpa using hzs), hn]
    have hbc' : ¬ (281474976710656 < (i.bytes : Int) * c) := by omega
    simp [Instr.makeSlice, run_underlying' hu, asInt, asIntOf, typeInfo, hi, w1, w2, hc, hl, hlc, hbc', sizeOf, hn, newRow, e2]
    apply congrArg
    apply congrArg (fun z => Obj.cells z el)
    apply Array.ext'
    simp [Array.range]
  · have hbc' : ¬ (281474976710656 < (i.bytes : Int) * c) := by omega
    have hn' : ¬ (c.toNat = 0 ∨ i.size = 0) := by
      rintro (h | h) <;> exact hn (by simp [h])
    simp only [← hzs] at e1
    simp [Instr.makeSlice, run_underlying' hu, asInt, asIntOf, typeInfo, hi, w1, w2, hc, hl, hlc, hbc', sizeOf, hn, hn', newRow, zeroValue, hz, ← e1, hzs]

theorem mkSl_step (hE : EnvOK E) (hz : ∀ n, RC M (.nm n) (E.dfl n) (E.zc n)) (hT : TOK P E tt) (hw : WR M μ b w) {H : Hints} {f : FuncId} {d t : Nat} {x y a : AV E} {u : Upd E} {vx vy : Value}
    (h : mkSl tt H f b d t x y = some (true, a, u)) (htd : ∃ el, tdOf tt t = .slice el) (hx : RS M μ x vx) (hy : RS M μ y vy) {s : Sem Next} (hs : s = (do pure (.value (← Instr.makeSlice t vx vy)))) : OpStep P M μ b w s a u := by
  subst hs
  unfold mkSl at h
  generalize hg0 : (bif (H.asrow f).contains d then d + 16 else d) = g0 at h
  simp only at h
  split at h
  · rename_i e l c hty hl hc hd
    obtain ⟨el, htd⟩ := htd
    obtain ⟨y', hy', hu, rfl, hfull, hby, hsz0, hsz1⟩ := hT.slice htd hty
    obtain ⟨i, z, hi, hz0, hsz, hzc⟩ := hT.zcells hy' hfull
    have hzl := zcells_len (M := M) hE hz hfull
    have hzsz : z.cells.size = i.size := by rw [← Array.length_toList, hzc, hzl, hsz]
    have hb' : i.bytes ≤ 32768 := by simpa [Program.bytesOf, hi] using hby
    obtain ⟨k, rfl⟩ := hx.num_inv hl
    obtain ⟨k', rfl⟩ := hy.num_inv hc
    have hnew : ∀ o, M w.heap.size o = none := fun o => hw.holds.new (Nat.le_refl _)
    obtain ⟨hd1, hd2⟩ := free_spec hd
    have key : ∀ {r : Bool × AV E × Upd E}, r.1 = true → (decide (0 ≤ l) && decide (l ≤ c) && decide (c ≤ 4294967296)) = true →
        (do pure (.value (← Instr.makeSlice t (.int k l) (.int k' c))) : Sem Next).run P w = .ok (.value (.slice (some ⟨w.heap.size, 0, none⟩) l.toNat c.toNat)) (w.alloc (.cells ((List.replicate c.toNat z.cells.toList).flatten.toArray) el)) := by
      intro r _ hc
      simp only [Bool.and_eq_true, decide_eq_true_eq] at hc
      simp only [Sem.run_bind, run_mkSlice hu hi hz0 hzsz hb' k k' hc.1.1 hc.1.2 hc.2, Result.andThen_ok, Sem.run_pure]
    cases ha : (H.asrow f).contains d with
    | true =>
      rw [ha] at h
      have h : some ((decide (0 ≤ l) && decide (l ≤ c) && decide (c ≤ 4294967296)), AV.fs g0 y'.ty 0 l.toNat, [(g0, Blk.row y'.ty (List.replicate l.toNat (dfl E y'.ty)))]) = some (true, a, u) := h
      injection h with h; injection h with hok h; injection h with h1 h2
      subst h1 h2
      have hrun := key (r := (true, .undef, [])) rfl hok
      simp only [Bool.and_eq_true, decide_eq_true_eq] at hok
      refine ⟨_, _, M, upd μ g0 ⟨w.heap.size, fun _ => (none, c.toNat)⟩, .inl hrun, ?_, ?_, .plain (.inl ⟨_, blk_set_self hd1 _, by simp⟩) (by simp) (by simp) (by simp)⟩
      · refine Tr.new hw hd ⟨w.heap.size, _⟩ _ (.refl M) ((Ext.alloc w _).holds hw.holds) (Ext.alloc w _) ?_ (fun _ _ h1 h2 => absurd h1 h2) ?_ ?_
        · intro lv
          by_cases hc0 : c.toNat = 0
          · exact .inl ⟨hc0, by simp; omega⟩
          refine .inr ⟨hc0, _, el, _, (List.replicate l.toNat z.cells.toList).flatten, heap_alloc_new w _, ?_, ⟨(List.replicate (c.toNat - l.toNat) z.cells.toList).flatten, ?_⟩, hnew, ?_, .inl rfl⟩
          rotate_left 2
          · rw [List.size_toArray, flatten_rep _ i.size _ (by simpa using hzsz), hsz]
          · rw [List.length_replicate, hzc]
            exact RC.arr_zero M _ (RC.zero M hz _ hfull)
          · rw [← List.flatten_append, List.replicate_append_replicate, show l.toNat + (c.toNat - l.toNat) = c.toNat by omega]
        · intro g h
          simp only [Exc] at h
          split at h
          · cases h
          · cases h; exact Nat.le_refl _
        · intro lv ly a h; cases h
      · refine RS.v (RV.fs g0 y'.ty 0 _ _ _ (.inl ?_) (by omega))
        rw [upd_self, Nat.zero_mul, Nat.zero_add]
        exact ⟨rfl, rfl⟩
    | false =>
      rw [ha] at h
      have h : some ((decide (0 ≤ l) && decide (l ≤ c) && decide (c ≤ 4294967296)) && decide (l = 0), AV.sl g0 y'.ty [], [(g0, Blk.grow y'.ty 0)]) = some (true, a, u) := h
      injection h with h; injection h with hok h; injection h with h1 h2
      subst h1 h2
      rw [Bool.and_eq_true] at hok
      obtain ⟨hok, hl0⟩ := hok
      have hrun := key (r := (true, .undef, [])) rfl hok
      simp only [Bool.and_eq_true, decide_eq_true_eq] at hok hl0
      subst hl0
      refine ⟨_, _, M, upd μ g0 ⟨w.heap.size, fun _ => (some ⟨w.heap.size, 0, none⟩, c.toNat)⟩, .inl hrun, ?_, ?_, .plain ⟨_, blk_set_self hd1 _, by simp⟩ (by simp) (by simp) (by simp)⟩
      · refine Tr.new hw hd ⟨w.heap.size, _⟩ _ (.refl M) ((Ext.alloc w _).holds hw.holds) (Ext.alloc w _) ?_ (fun _ _ h1 h2 => absurd h1 h2) ?_ ?_
        · intro lv
          refine ⟨Nat.zero_le _, .inr ⟨_, el, rfl, heap_alloc_new w _, ?_, fun o _ => hnew o⟩⟩
          rw [List.size_toArray, flatten_rep _ i.size _ (by simpa using hzsz), hsz]
        · intro g h
          simp only [Exc] at h
          split at h
          · cases h
          · cases h; exact Nat.le_refl _
        · intro lv ly a h; cases h
      · have := RV.sl (E := E) (M := M) (μ := upd μ g0 ⟨w.heap.size, fun _ => (some ⟨w.heap.size, 0, none⟩, c.toNat)⟩) g0 y'.ty [] (by
          rw [upd_self]
          exact .sl [] _ _ (fun _ => []) (Nat.zero_le _) (fun i hi => by simp at hi) (fun i hi => by simp at hi) (fun h => nomatch h))
        rw [upd_self] at this
        exact RS.v this
  · cases h

/-! ### append -/
theorem cellsAt_flatten {g k : Nat} : ∀ (css : List (List Value)) (o : Nat), (∀ i, i < css.length → (css.getD i []).length = k) → (∀ i, i < css.length → CellsAt M g (o + i * k) (css.getD i [])) → CellsAt M g o css.flatten
  | [], o, _, _ => fun j hj => by simp at hj
  | c :: l, o, hl, h => by
    have h0 := h 0 (by simp)
    have hl0 := hl 0 (by simp)
    simp only [List.getD_cons_zero, Nat.zero_mul, Nat.add_zero] at h0 hl0
    have ih := cellsAt_flatten l (o + k) (fun i hi => by have := hl (i + 1) (by simpa using hi); simpa using this) (fun i hi => by
      have := h (i + 1) (by simpa using hi)
      rw [show o + (i + 1) * k = o + k + i * k by rw [Nat.add_mul]; omega] at this
      simpa using this)
    intro j hj
    simp only [List.flatten_cons] at hj ⊢
    by_cases hjc : j < c.length
    · rw [List.getElem_append_left hjc]
      exact h0 j hjc
    · rw [List.getElem_append_right (by omega)]
      have := ih (j - c.length) (by rw [List.length_append] at hj; omega)
      rw [show o + k + (j - c.length) = o + j by omega] at this
      exact this

/-- A source: its elements' cells, read in any world that holds what is known. -/
theorem src_ok (hE : EnvOK E) {y : AV E} {v : Value} {e : Ty} {ys : List (E.D e)} (hv : RS M μ y v) (hl : lstS y = some ⟨e, ys⟩) :
    ∃ css : List (List Value), css.length = ys.length ∧ (∀ i (hi : i < ys.length), RC M e ys[i] (css.getD i [])) ∧ ∀ w1, Holds M w1 → (Builtin.lenOf v).run P w1 = .ok ys.length w1 ∧
      ∀ k, k ≤ ys.length → (Builtin.firstCells (size E e) k v).run P w1 = .ok (css.take k).flatten.toArray w1 := by
  unfold lstS at hl
  split at hl
  · rename_i x
    cases hl
    obtain ⟨bs, rfl, rfl⟩ := hv.str_inv
    have hbl : (ints bs.data.toList).length = bs.size := by simp [ints]
    refine ⟨(ints bs.data.toList).map fun n => [.int .u8 n], List.length_map _, ?_, ?_⟩
    · intro i hi
      have hi' : i < (ints bs.data.toList).length := hi
      rw [List.getD_of_lt _ _ _ (by rw [List.length_map]; exact hi')]
      simp only [List.getElem_map]
      exact RC.int _ _
    · intro w1 _
      refine ⟨congrArg (fun n => Result.ok n w1) hbl.symm, ?_⟩
      intro k hk
      have hk' : k ≤ bs.size := hbl ▸ hk
      simp only [Builtin.firstCells, Sem.run_pure]
      congr 1
      apply Array.ext'
      have hfl : ∀ l : List Int, (l.map fun n => [Value.int .u8 n]).flatten = l.map fun n => .int .u8 n := by
        intro l
        induction l with
        | nil => rfl
        | cons a l ih => simp [ih]
      rw [← List.map_take, hfl]
      simp [ints, ByteArray.data_extract, List.map_take]
      rfl
  · obtain ⟨base, cap, rfl, hr⟩ := hv.lst_inv hl
    cases hr with
    | sl xs base cap css hcap h hat _ =>
      have hget : ∀ i, i < ys.length → ((List.range ys.length).map css).getD i [] = css i := by
        intro i hi
        rw [List.getD_of_lt _ _ _ (by simpa using hi)]
        simp
      refine ⟨(List.range ys.length).map css, by simp, ?_, ?_⟩
      · intro i hi
        rw [hget i hi]
        exact h i hi
      · intro w1 hw1
        refine ⟨rfl, ?_⟩
        intro k hk
        have hlen : ((List.range ys.length).map css |>.take k).flatten.length = k * size E e := by
          rw [flatten_len (k := size E e)]
          · simp [Nat.min_eq_left hk]
          · intro i hi
            have hi' : i < k ∧ i < ys.length := by simp at hi; omega
            rw [List.getD_eq_getElem?_getD, List.getElem?_take, if_pos hi'.1, ← List.getD_eq_getElem?_getD, hget i hi'.2]
            exact (h i hi'.2).len hE
        cases base with
        | none =>
          have h0 : ys.length = 0 := by
            apply Classical.byContradiction
            intro h0
            obtain ⟨a, h1, _⟩ := hat 0 (by omega)
            cases h1
          have hk0 : k = 0 := by omega
          subst hk0
          simp [Builtin.firstCells]
        | some ad =>
          simp only [Builtin.firstCells]
          rw [← hlen]
          by_cases h0 : k = 0
          · subst h0; simp [loadCells, loadCellsFrom]
          · obtain ⟨⟨g, o, sp⟩, h1, h2, _⟩ := hat 0 (by omega)
            cases h1
            simp only at h2
            subst h2
            refine run_loadCells (CellsAt.inMem hw1 (cellsAt_flatten _ o (k := size E e) ?_ ?_))
            · intro i hi
              have hi' : i < k ∧ i < ys.length := by simp at hi; omega
              rw [List.getD_eq_getElem?_getD, List.getElem?_take, if_pos hi'.1, ← List.getD_eq_getElem?_getD, hget i hi'.2]
              exact (h i hi'.2).len hE
            · intro i hi
              have hi' : i < k ∧ i < ys.length := by simp at hi; omega
              rw [List.getD_eq_getElem?_getD, List.getElem?_take, if_pos hi'.1, ← List.getD_eq_getElem?_getD, hget i hi'.2]
              obtain ⟨a, h3, h4, h5⟩ := hat i hi'.2
              cases h3
              exact h5

/-- A source, as it lies in this memory. -/
def SrcOK (P : Program) (M : Mem) (w : World) (e : Ty) (ys : List (E.D e)) (v : Value) : Prop :=
  ∃ css : List (List Value), css.length = ys.length ∧ (∀ i (hi : i < ys.length), RC M e ys[i] (css.getD i [])) ∧ ∀ w1 : World, w1.heap = w.heap → (Builtin.lenOf v).run P w1 = .ok ys.length w1 ∧
      ∀ k, k ≤ ys.length → (Builtin.firstCells (size E e) k v).run P w1 = .ok (css.take k).flatten.toArray w1
theorem holds_heap {w1 : World} (h : Holds M w) (he : w1.heap = w.heap) : Holds M w1 := by
  intro g o v hm
  rcases h g o v hm with ⟨h1, h2⟩ | ⟨h1, es, c, h2, h3⟩ | ⟨cs3, T3, f3, h2, h3, h4⟩
  · refine .inl ⟨h1, ?_⟩
    have : w1.cell? ⟨g, o, none⟩ = w.cell? ⟨g, o, none⟩ := by simp only [World.cell?, he]
    rw [this]
    exact h2
  · exact .inr (.inl ⟨h1, es, c, by rw [he]; exact h2, h3⟩)
  · exact .inr (.inr ⟨cs3, T3, f3, by rw [he]; exact h2, h3, h4⟩)
/-- A part of a row. -/
theorem RC.arr_part (hE : EnvOK E) {e : Ty} {xs : List (E.D e)} {css : List Value} (off len : Nat) (h : RC M (.arr xs.length e) xs css) (hl : off + len ≤ xs.length) :
    ∃ l : List (List Value), l.length = len ∧ (∀ i (hi : i < ((xs.drop off).take len).length), RC M e ((xs.drop off).take len)[i] (l.getD i [])) ∧ (∀ k, k ≤ len → ∃ pre post, css = pre ++ (l.take k).flatten ++ post ∧ pre.length = off * size E e) ∧ l.flatten.length = len * size E e := by
  have key : ∀ (xs : List (E.D e)) (css : List Value) (n : Nat), RC M (.arr n e) xs css → n = xs.length → off + len ≤ xs.length → ∃ l : List (List Value), l.length = len ∧ (∀ i (hi : i < ((xs.drop off).take len).length), RC M e ((xs.drop off).take len)[i] (l.getD i [])) ∧ (∀ k, k ≤ len → ∃ pre post, css = pre ++ (l.take k).flatten ++ post ∧ pre.length = off * size E e) ∧ l.flatten.length = len * size E e := by
    intro xs css n h hn ho
    cases h with
    | arr n xs css' hn' hl' hx =>
      have hlen : ∀ i, i < css'.length → (css'.getD i []).length = size E e := fun i hi => (hx i (by omega)).len hE
      refine ⟨(css'.drop off).take len, by rw [List.length_take, List.length_drop]; omega, ?_, ?_, ?_⟩
      · intro i hi
        have hi' : i < len ∧ off + i < List.length xs := by simp at hi; omega
        rw [List.getD_eq_getElem?_getD, List.getElem?_take, if_pos hi'.1, List.getElem?_drop, ← List.getD_eq_getElem?_getD]
        simp only [List.getElem_take, List.getElem_drop]
        exact hx (off + i) hi'.2
      · intro k hk
        refine ⟨(css'.take off).flatten, (css'.drop (off + k)).flatten, ?_, ?_⟩
        · rw [List.take_take, Nat.min_eq_left hk, ← List.flatten_append, ← List.flatten_append]
          congr 1
          rw [List.append_assoc, ← List.drop_drop, List.take_append_drop, List.take_append_drop]
        · rw [flatten_len (k := size E e), List.length_take, Nat.min_eq_left (by omega)]
          intro i hi
          have hi' : i < off ∧ i < css'.length := by simp at hi; omega
          rw [List.getD_eq_getElem?_getD, List.getElem?_take, if_pos hi'.1, ← List.getD_eq_getElem?_getD]
          exact hlen i hi'.2
      · rw [flatten_len (k := size E e), List.length_take, List.length_drop, Nat.min_eq_left (by omega)]
        intro i hi
        have hi' : i < len ∧ off + i < css'.length := by simp at hi; omega
        rw [List.getD_eq_getElem?_getD, List.getElem?_take, if_pos hi'.1, List.getElem?_drop, ← List.getD_eq_getElem?_getD]
        exact hlen _ hi'.2
  exact key xs css _ h rfl hl
theorem srcB_ok (hE : EnvOK E) (hw : WR M μ b w) {y : AV E} {v : Value} {e : Ty} {ys : List (E.D e)} (hv : RS M μ y v) (ok : OKA b y) (hl : lstB b y = some ⟨e, ys⟩) : SrcOK P M w e ys v := by
  have old : lstS y = some ⟨e, ys⟩ → SrcOK P M w e ys v := fun h => by
    obtain ⟨css, h1, h2, h3⟩ := src_ok (P := P) hE hv h
    exact ⟨css, h1, h2, fun w1 he => h3 w1 (holds_heap hw.holds he)⟩
  unfold lstB at hl
  split at hl
  · rename_i id e0 off len
    split at hl
    · rename_i e' xs hb
      obtain ⟨hd, h9⟩ := bif_some hl
      clear hl
      have hd : e' = e0 := of_decide_eq_true hd
      subst hd
      cases h9
      have hB := hw.bw id
      rw [hb] at hB
      obtain ⟨ys, k1, k2⟩ := (ok.plain' (by simp)).resolve_right (by rw [hb]; exact fun h => nomatch h)
      rw [hb] at k1
      cases k1
      have hlen : List.length (List.take len (List.drop off xs)) = len := by rw [List.length_take, List.length_drop]; omega
      cases hv with
      | v hv => cases hv with
        | fs _ _ _ _ cap base hbase hcap =>
          by_cases h0 : len = 0
          · subst h0
            refine ⟨[], by simp, fun i hi => by simp at hi, fun w1 _ => ⟨by rw [hlen]; rfl, fun k hk => ?_⟩⟩
            have hk0 : k = 0 := by rw [hlen] at hk; omega
            subst hk0
            cases base <;> simp [Builtin.firstCells, loadCells, loadCellsFrom, mkV, AV.isAgg]
          · obtain ⟨hv0, cs, T, fr, cells, g1, g2, ⟨rest, g3⟩, g4, g5⟩ := hB.resolve_left fun h => by rw [h.2] at k2; simp at k2; omega
            obtain ⟨l, j1, j2, j3, j4⟩ := g2.arr_part hE off len k2
            refine ⟨l, by rw [j1, hlen], j2, fun w1 he => ⟨by rw [hlen]; rfl, fun k hk => ?_⟩⟩
            rw [hlen] at hk
            rcases hbase with ⟨rfl, _⟩ | ⟨h, _⟩
            · obtain ⟨pre, post, m1, m2⟩ := j3 k hk
              have hln : (l.take k).flatten.length = k * size E e := by
                rw [flatten_len (k := size E e), List.length_take, j1, Nat.min_eq_left hk]
                intro i hi
                have hi' : i < k ∧ i < l.length := by simp at hi; omega
                rw [List.getD_eq_getElem?_getD, List.getElem?_take, if_pos hi'.1, ← List.getD_eq_getElem?_getD]
                exact (j2 i (by rw [hlen]; omega)).len hE
              simp only [mkV, AV.isAgg, Builtin.firstCells]
              rw [← hln]
              refine run_loadCells ?_
              have hin : InMem w1 (μ id).g 0 cs.toList := InMem.heap (by rw [he]; exact g1)
              rw [g3, m1] at hin
              intro j hj
              have h7 := hin (off * size E e + j) (by simp only [List.length_append]; omega)
              rw [Nat.zero_add] at h7
              rw [h7]
              congr 1
              rw [List.getElem_append_left (by simp only [List.length_append]; omega), List.getElem_append_left (by simp only [List.length_append]; omega), List.getElem_append_right (by omega)]
              simp [m2]
            · omega
    · cases hl
  · exact old hl
theorem run_app_room {t u el ty : Nat} {d : TypeDesc} {i : TypeInfo} (hu : P.underlying t = some (.slice el)) (hu2 : P.underlying u = some d) (hd : (∃ e, d = .slice e) ∨ d = .string) (hi : P.info? el = some i) {x : Value} {m : Nat} {news : List Value}
    (hl : (Builtin.lenOf x).run P w = .ok m w) (hf : (Builtin.firstCells i.size m x).run P w = .ok news.toArray w) {base : Option Addr} {n cap : Nat} (hroom : n + m ≤ cap)
    (hst : match base with | none => w' = w | some a => (storeCells (a.add (n * i.size)) news).run P w = .ok () w') :
    (Builtin.append_ #[t, u] ty #[.slice base n cap, x]).run P w = .ok (.slice base (n + m) cap) w' := by
  cases base with
  | none =>
    simp only at hst
    subst hst
    rcases hd with ⟨e, rfl⟩ | rfl <;> simp [Builtin.append_, run_underlying' hu, run_underlying' hu2, run_sizeOf hi, hl, hroom, hf]
  | some a =>
    simp only at hst
    rcases hd with ⟨e, rfl⟩ | rfl <;> simp [Builtin.append_, run_underlying' hu, run_underlying' hu2, run_sizeOf hi, hl, hroom, hf, hst]
theorem run_app_grow {t u el ty : Nat} {d : TypeDesc} {i : TypeInfo} {z : Value} (hu : P.underlying t = some (.slice el)) (hu2 : P.underlying u = some d) (hd : (∃ e, d = .slice e) ∨ d = .string) (hi : P.info? el = some i) (hz : i.zero = some z) {x : Value} {m : Nat} {news olds : List Value}
    (hl : (Builtin.lenOf x).run P w = .ok m w) (hf : (Builtin.firstCells i.size m x).run P w.drew = .ok news.toArray w.drew) {base : Option Addr} {n cap : Nat} (hg : cap < n + m)
    (hfo : (Builtin.firstCells i.size n (.slice base n cap)).run P w.drew = .ok olds.toArray w.drew) (h63 : n + m ≤ 4294967296) (hby : i.bytes ≤ 32768) :
    (Builtin.append_ #[t, u] ty #[.slice base n cap, x]).run P w =
      .ok (.slice (some ⟨w.heap.size, 0, none⟩) (n + m) (grownCap w (n + m) cap el)) (w.drew.alloc (.cells (olds ++ news ++ (List.replicate (grownCap w (n + m) cap el - (n + m)) z.cells.toList).flatten).toArray el)) := by
  have hn : ¬ (n + m ≤ cap) := by omega
  have h63' : ¬ (9223372036854775807 < ((n : Int) + (m : Int))) := by omega
  have hfit := growslice_fits (need := n + m) (old := cap) (bytes := i.bytes) (by omega) (Nat.le_trans (Nat.mul_le_mul h63 hby) (by decide))
  have h48' : ¬ (281474976710656 < Builtin.nextslicecap (n + m) cap * i.bytes) := by omega
  rcases hd with ⟨e, rfl⟩ | rfl <;>
      (simp [Builtin.append_, run_underlying' hu, run_underlying' hu2, sizeOf, typeInfo, zeroValue, hi, hz, hl, hn, h63', h48', Question.forced, hf, hfo, newRow, grownCap, zeroCells_eq]
       try (congr 2; apply Array.ext'; simp [List.append_assoc]))
end Go.Proofs.YtbmpjppfdeohnaaDoor.Fv

/-! Slices that are appended to. -/
namespace Go.Proofs.YtbmpjppfdeohnaaDoor.Fv
variable [Quiet]
variable {E : Env} {P : Program} {tt : Nat → Option TE} {M M' : Mem} {μ μ' : Mu} {b b' : List (Blk E)} {w w' : World}

theorem holds_setRow' (hw : Holds M w) {g : Nat} {old cs : Array Value} {T : TypeId} {fr : Nat × Nat} (hg : w.heap[g]? = some (.cells old T fr)) (hm : ∀ o, M g o ≠ none → cs[o]? = old[o]?) (hend : M g old.size = none) : Holds M (w.setRow g cs) := by
  intro g' o v h
  by_cases he : g' = g
  · subst he
    rcases hw g' o v h with ⟨h1, h2⟩ | ⟨h1, es, c, h2, h3⟩ | ⟨cs3, T3, f3, h2, h3, h4⟩
    · refine .inl ⟨h1, ?_⟩
      rw [cell_setRow_same w g' o old cs T fr hg, hm o (by rw [h]; simp)]
      rwa [cell_heap hg] at h2
    · rw [hg] at h2
      cases h2
    · rw [hg] at h2
      cases h2
      rw [h3, hend] at h
      cases h
  · rcases hw g' o v h with ⟨h1, h2⟩ | ⟨h1, es, c, h2, h3⟩ | ⟨cs3, T3, f3, h2, h3, h4⟩
    · exact .inl ⟨h1, by rw [cell_setRow_other w g cs _ he]; exact h2⟩
    · exact .inr (.inl ⟨h1, es, c, by rw [setRow_other w g g' cs he]; exact h2, h3⟩)
    · exact .inr (.inr ⟨cs3, T3, f3, by rw [setRow_other w g g' cs he]; exact h2, h3, h4⟩)

/-- Elements behind a slice's own. -/
theorem RC.append (hE : EnvOK E) {e : Ty} {xs ys : List (E.D e)} {css : List (List Value)} {g : Nat} {n m cap cap' : Nat} (h : RC M (.sl e) xs [.slice (some ⟨g, 0, none⟩) n cap]) (hl : css.length = ys.length)
    (hy : ∀ i (hi : i < ys.length), RC M e ys[i] (css.getD i [])) (hat : CellsAt M g (n * size E e) css.flatten) (hm : m = n + ys.length) (hc : m ≤ cap') : RC M (.sl e) (xs ++ ys) [.slice (some ⟨g, 0, none⟩) m cap'] := by
  cases h with
  | sl xs base cap c1 hcap h1 hat1 _ =>
    have hlen : (xs ++ ys).length = m := by rw [List.length_append, hm]
    rw [← hlen]
    refine .sl _ _ _ (fun i => if i < xs.length then c1 i else css.getD (i - xs.length) []) (by omega) ?_ ?_ (fun h => nomatch h)
    · intro i hi
      by_cases hx : i < xs.length
      · simp only [hx, if_true, List.getElem_append_left hx]
        exact h1 i hx
      · simp only [hx, if_false]
        rw [List.getElem_append_right (by omega)]
        exact hy _ _
    · intro i hi
      by_cases hx : i < xs.length
      · simp only [hx, if_true]
        exact hat1 i hx
      · simp only [hx, if_false]
        refine ⟨_, rfl, rfl, ?_⟩
        rw [List.length_append] at hi
        have hp := flatten_piece css (i - xs.length) (size E e) (by omega) (fun j hj => (hy j (by omega)).len hE)
        have := hat.piece hp
        rw [← Nat.add_mul, show xs.length + (i - xs.length) = i by omega] at this
        rw [Nat.zero_add]
        exact this

theorem css_flat_len (hE : EnvOK E) {e : Ty} {ys : List (E.D e)} {css : List (List Value)} (hl : css.length = ys.length) (hy : ∀ i (hi : i < ys.length), RC M e ys[i] (css.getD i [])) : css.flatten.length = ys.length * size E e := by
  rw [flatten_len (k := size E e) (fun i hi => (hy i (by omega)).len hE), hl]
theorem css_one' {e : Ty} {ys : List (E.D e)} {css : List (List Value)} (hl : css.length = ys.length) (hy : ∀ i (hi : i < ys.length), RC M e ys[i] (css.getD i [])) : ∀ u ∈ css.flatten, u.oneCell' = true := by
  intro v hv
  obtain ⟨l, hl', hv⟩ := List.mem_flatten.1 hv
  obtain ⟨i, hi, rfl⟩ := List.mem_iff_getElem.1 hl'
  refine (hy i (by omega)).one' v ?_
  rw [List.getD_of_lt _ _ _ hi]
  exact hv

/-- An append to a slice that has a home. -/
theorem app_step (hE : EnvOK E) (hz : ∀ n, RC M (.nm n) (E.dfl n) (E.zc n)) (hT : TOK P E tt) (hw : WR M μ b w) {t u el ty id : Nat} {e : Ty} (htd : tdOf tt t = .slice el) (hty : tyOf tt t = .sl e)
    {d : TypeDesc} (hu2 : P.underlying u = some d) (hd : (∃ e, d = .slice e) ∨ d = .string) {xs ys : List (E.D e)} {x y : Value} (hx : RS M μ (.sl id e xs) x) (hl : SrcOK P M w e ys y)
    (hb : blk b id = .grow e xs.length) (hle : xs.length + ys.length ≤ 4294967296) :
    ∃ v w' M' c', (Builtin.append_ #[t, u] ty #[x, y]).run P w = .ok v w' ∧ Tr b.length M μ b w M' (upd μ id c') (b.set id (.grow e (xs.length + ys.length))) w' ∧ RS M' (upd μ id c') (.sl id e (xs ++ ys)) v := by
  obtain ⟨y', hy', hu, rfl, hfull, hby, hsz0, hsz1⟩ := hT.slice htd hty
  obtain ⟨i, z, hi, hz0, hsz, hzc⟩ := hT.zcells hy' hfull
  have hzl := zcells_len (M := M) hE hz hfull
  have hb' : i.bytes ≤ 32768 := by simpa [Program.bytesOf, hi] using hby
  obtain ⟨css, hc1, hc2, hc3⟩ := hl
  obtain ⟨cso, ho1, ho2, ho3⟩ := src_ok (P := P) hE hx (rfl : lstS (.sl id y'.ty xs) = some ⟨y'.ty, xs⟩)
  have hid : id < b.length := blk_lt (by rw [hb]; simp)
  have hB := hw.bw id
  rw [hb] at hB
  obtain ⟨hB1, hB2⟩ := hB
  obtain ⟨hlen, hfst⟩ := hc3 w rfl
  have hfst := hfst ys.length (Nat.le_refl _)
  rw [← hc1, List.take_length, hc1, ← hsz] at hfst
  have hfl := css_flat_len hE hc1 hc2
  have hfo := css_flat_len hE ho1 ho2
  cases hx with
  | v hx =>
    cases hx with
    | sl _ _ _ hr =>
      show ∃ v w' M' c', (Builtin.append_ #[t, u] ty #[Value.slice ((μ id).ver xs.length).1 xs.length ((μ id).ver xs.length).2, y]).run P w = .ok v w' ∧ _
      generalize hver : (μ id).ver xs.length = vr at hr hB1 hB2 ⊢
      obtain ⟨base, cap⟩ := vr
      simp only at hr hB1 hB2 ⊢
      by_cases hroom : xs.length + ys.length ≤ cap
      · by_cases hm : ys.length = 0
        · have h0 : ys = [] := List.length_eq_zero_iff.1 hm
          subst h0
          have hn0 : css.flatten = [] := List.eq_nil_of_length_eq_zero (by rw [hfl]; simp)
          rw [hn0] at hfst
          refine ⟨_, w, M, μ id, run_app_room hu hu2 hd hi hlen hfst hroom (by cases base <;> rfl), ?_, ?_⟩
          · refine Tr.one hw hid (μ id) _ (.refl M) hw.holds (by rw [hb]; exact ⟨rfl, Nat.le_refl _, fun _ _ => rfl⟩) ?_ (Nat.le_refl _) (fun _ _ _ => rfl) (fun _ _ h1 h2 => absurd h1 h2) ?_ ?_ rfl ⟨rfl, fun _ => Nat.le_refl _⟩ rfl
            · intro lv
              refine ⟨?_, ?_⟩
              · simp only [List.length_nil, Nat.add_zero, hver]; exact hB1
              · simp only [List.length_nil, Nat.add_zero, hver]; exact hB2
            · intro g h; rw [hb]; exact .inr h
            · intro _ ly a h; cases h
          · have := RV.sl (E := E) (M := M) (μ := upd μ id (μ id)) id y'.ty xs (by rw [upd_self, hver]; exact hr)
            rw [upd_self, hver] at this
            rw [List.append_nil]
            exact RS.v this
        · have hne : cap ≠ xs.length := by omega
          rcases hB2 with h | ⟨cs, T, h1, h2, h3, h4⟩
          · exact absurd h hne
          · subst h1
            have hfit : xs.length * i.size + css.flatten.length ≤ cs.size := by
              rw [hfl, h3, hsz, ← Nat.add_mul]; exact Nat.mul_le_mul_right _ hroom
            have hst := run_storeCells_at P (μ id).g (xs.length * i.size) T css.flatten 0 cs w h2 (by simpa using hfit) (css_one' hc1 hc2)
            simp only [Nat.add_zero] at hst
            have hExc : Exc (μ id) (.grow (E := E) y'.ty xs.length) = some (μ id).g := by simp [Exc, hver, hne]
            generalize hcs' : (cs.toList.take (xs.length * i.size) ++ css.flatten ++ cs.toList.drop (xs.length * i.size + css.flatten.length)).toArray = cs' at hst
            have hg := setRow_heap w (μ id).g cs cs' T (0, 0) h2
            have hsize : cs'.size = cs.size := by
              rw [← hcs']
              simp only [List.size_toArray, List.length_append, List.length_take, List.length_drop, Array.length_toList]
              omega
            have hold : Holds M (w.setRow (μ id).g cs') := by
              refine holds_setRow' hw.holds h2 (fun o ho => ?_) (h4 _ (by rw [h3]; exact Nat.mul_le_mul_right _ (by omega)))
              have ho' : o < xs.length * i.size := by
                apply Classical.byContradiction
                intro hno
                exact ho (h4 o (by rw [← hsz]; omega))
              rw [← hcs']
              have hlt : o < cs.size := by omega
              simp only [List.getElem?_toArray, List.append_assoc]
              rw [List.getElem?_append_left (by simp; omega), List.getElem?_take, if_pos ho']
              simp
            have hin : InMem (w.setRow (μ id).g cs') (μ id).g (xs.length * size E y'.ty) css.flatten := by
              intro j hj
              rw [cell_heap hg, ← hcs', ← hsz]
              simp only [List.getElem?_toArray, List.append_assoc]
              rw [List.getElem?_append_right (by simp; omega), List.getElem?_append_left (by rw [List.length_take, show cs.toList.length = cs.size from Array.length_toList]; omega)]
              simp only [List.length_take, Array.length_toList]
              rw [show xs.length * i.size + j - min (xs.length * i.size) cs.size = j by omega]
              simp [hj]
            have hnone : ∀ o, xs.length * size E y'.ty ≤ o → M (μ id).g o = none := h4
            have hplus : M.le (plus M (μ id).g (xs.length * size E y'.ty) css.flatten) := plus_le hnone
            let c' : Conc := ⟨(μ id).g, fun k => if k ≤ xs.length then (μ id).ver k else (some ⟨(μ id).g, 0, none⟩, cap)⟩
            have hver' : c'.ver (xs.length + ys.length) = (some ⟨(μ id).g, 0, none⟩, cap) := by simp only [c']; rw [if_neg (by omega)]
            refine ⟨_, _, plus M (μ id).g (xs.length * size E y'.ty) css.flatten, c', run_app_room hu hu2 hd hi hlen hfst hroom (by show (storeCells ((⟨(μ id).g, 0, none⟩ : Addr).add (xs.length * i.size)) css.flatten).run P w = _; rw [addr_add, Nat.zero_add]; exact hst), ?_, ?_⟩
            · refine Tr.one hw hid c' _ hplus (plus_holds hold (css_noT hc1 hc2) hin) (by rw [hb]; exact ⟨rfl, by omega, fun k hk => by simp [c', hk]⟩) ?_ (by simp) ?_ ?_ ?_ ?_ rfl ⟨rfl, fun _ => Nat.le_refl _⟩ rfl
              · intro lv
                refine ⟨by rw [hver']; exact hroom, .inr ⟨cs', T, by rw [hver'], hg, by rw [hver', hsize]; exact h3, ?_⟩⟩
                intro o ho
                show plus M (μ id).g _ _ (μ id).g o = none
                rw [plus_after (by rw [hfl, ← Nat.add_mul]; exact ho)]
                exact h4 o (Nat.le_trans (Nat.mul_le_mul_right _ (by omega)) ho)
              · intro g _ hg
                rw [hb, hExc] at hg
                exact setRow_other w _ g _ (fun e => hg (by rw [e]))
              · intro g o h5 h6
                rw [hb, hExc, plus_new h5 h6]
                exact .inr rfl
              · intro g h5
                rw [hb, hExc]
                right
                simp only [Exc] at h5
                split at h5
                · cases h5
                · exact h5
              · intro _ ly a h; cases h
            · have hr' := (hr.mono hplus).append hE hc1 (fun i hi => (hc2 i hi).mono hplus) (plus_at M (μ id).g (xs.length * size E y'.ty) css.flatten (css_noT hc1 hc2)) rfl (cap' := cap) hroom
              have := RV.sl (E := E) (M := plus M (μ id).g (xs.length * size E y'.ty) css.flatten) (μ := upd μ id c') id y'.ty (xs ++ ys) (by rw [upd_self, List.length_append, hver']; exact hr')
              rw [upd_self, List.length_append, hver'] at this
              exact RS.v this
      · have hgr : cap < xs.length + ys.length := by omega
        obtain ⟨_, hfo1⟩ := ho3 w.drew hw.holds
        obtain ⟨_, hfn1⟩ := hc3 w.drew rfl
        have hfo1 := hfo1 xs.length (Nat.le_refl _)
        have hfn1 := hfn1 ys.length (Nat.le_refl _)
        rw [← ho1, List.take_length, ho1, ← hsz] at hfo1
        rw [← hc1, List.take_length, hc1, ← hsz] at hfn1
        have hfo1' : (Builtin.firstCells i.size xs.length (.slice base xs.length cap)).run P w.drew = .ok cso.flatten.toArray w.drew := by
          have e1 : mkV (AV.isAgg (.sl (E := E) id y'.ty xs)) [Value.slice ((μ id).ver xs.length).1 xs.length ((μ id).ver xs.length).2] = .slice base xs.length cap := by rw [hver]; rfl
          rw [← e1]; exact hfo1
        have hrun := run_app_grow (ty := ty) hu hu2 hd hi hz0 hlen hfn1 hgr hfo1' hle hb'
        have hge := grownCap_ge w (xs.length + ys.length) cap el
        generalize grownCap w (xs.length + ys.length) cap el = gc at hrun hge
        have hnew : ∀ o, M w.heap.size o = none := fun o => hw.holds.new (Nat.le_refl _)
        have hplus : M.le (plus M w.heap.size 0 (cso.flatten ++ css.flatten)) := plus_le fun o _ => hnew o
        have hext : Ext w (w.drew.alloc (.cells (cso.flatten ++ css.flatten ++ (List.replicate (gc - (xs.length + ys.length)) z.cells.toList).flatten).toArray el)) := (Ext.drew w).trans (Ext.alloc w.drew _)
        have hheap := heap_alloc_new w.drew (.cells (cso.flatten ++ css.flatten ++ (List.replicate (gc - (xs.length + ys.length)) z.cells.toList).flatten).toArray el)
        have hheap : (w.drew.alloc (.cells (cso.flatten ++ css.flatten ++ (List.replicate (gc - (xs.length + ys.length)) z.cells.toList).flatten).toArray el)).heap[w.heap.size]? = _ := hheap
        generalize hW : w.drew.alloc (.cells (cso.flatten ++ css.flatten ++ (List.replicate (gc - (xs.length + ys.length)) z.cells.toList).flatten).toArray el) = W at hrun hext hheap
        let c' : Conc := ⟨w.heap.size, fun k => if k ≤ xs.length then (μ id).ver k else (some ⟨w.heap.size, 0, none⟩, gc)⟩
        have hver' : c'.ver (xs.length + ys.length) = (some ⟨w.heap.size, 0, none⟩, gc) := by simp only [c']; rw [if_neg (by omega)]
        have hzsz : z.cells.toList.length = size E y'.ty := by rw [hzc]; exact hzl
        refine ⟨_, W, plus M w.heap.size 0 (cso.flatten ++ css.flatten), c', hrun, ?_, ?_⟩
        · refine Tr.one hw hid c' _ hplus (plus_holds (hext.holds hw.holds) (noT_app (css_noT ho1 ho2) (css_noT hc1 hc2)) ?_) (by rw [hb]; exact ⟨rfl, by omega, fun k hk => by simp [c', hk]⟩) ?_ hext.size (fun g hg _ => hext.old g hg) ?_ ?_ ?_ hext.os hext.tape hext.output
          · have := InMem.heap hheap
            have hp : Piece (cso.flatten ++ css.flatten ++ (List.replicate (gc - (xs.length + ys.length)) z.cells.toList).flatten) 0 (cso.flatten ++ css.flatten) := ⟨[], _, rfl, rfl⟩
            have := this.piece hp
            rwa [Nat.zero_add] at this
          · intro lv
            refine ⟨by rw [hver']; exact hge, .inr ⟨_, el, by rw [hver'], hheap, ?_, ?_⟩⟩
            · rw [hver', List.size_toArray, List.length_append, List.length_append, hfo, hfl, flatten_rep _ _ _ hzsz, ← Nat.add_mul, ← Nat.add_mul]
              congr 1
              omega
            · intro o ho
              show plus M w.heap.size 0 _ w.heap.size o = none
              rw [plus_after (by rw [List.length_append, hfo, hfl, ← Nat.add_mul, Nat.zero_add]; exact ho)]
              exact hnew o
          · intro g o h5 h6
            exact .inl (Nat.le_of_eq (plus_new h5 h6).symm)
          · intro g h5
            simp only [Exc] at h5
            split at h5
            · cases h5
            · cases h5; exact .inl (Nat.le_refl _)
          · intro _ ly a h; cases h
        · have hr' := RC.new_row hE (xs := xs ++ ys) (css := cso ++ css) (g := w.heap.size) (M := M) (by simp [ho1, hc1]) ?_ hnew (n := xs.length + ys.length) (cap := gc) (by simp) hge
          · rw [List.flatten_append] at hr'
            have := RV.sl (E := E) (M := plus M w.heap.size 0 (cso.flatten ++ css.flatten)) (μ := upd μ id c') id y'.ty (xs ++ ys) (by rw [upd_self, List.length_append, hver']; exact hr')
            rw [upd_self, List.length_append, hver'] at this
            exact RS.v this
          · intro j hj
            by_cases hx : j < xs.length
            · rw [List.getElem_append_left hx, List.getD_eq_getElem?_getD, List.getElem?_append_left (by omega), ← List.getD_eq_getElem?_getD]
              exact ho2 j hx
            · rw [List.getElem_append_right (by omega), List.getD_eq_getElem?_getD, List.getElem?_append_right (by omega), ← List.getD_eq_getElem?_getD]
              rw [List.length_append] at hj
              have := hc2 (j - xs.length) (by omega)
              rw [ho1]
              exact this

end Go.Proofs.YtbmpjppfdeohnaaDoor.Fv
