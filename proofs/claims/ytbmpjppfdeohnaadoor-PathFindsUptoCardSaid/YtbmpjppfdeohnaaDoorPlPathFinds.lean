/- The plain law PathFinds. No condition. -/
import Derived.Test.YtbmpjppfdeohnaaDoorFnPathFinds
-- UPTO
set_option linter.unusedVariables false
set_option linter.unusedSimpArgs false
namespace Go.Proofs.YtbmpjppfdeohnaaDoor.PPathFinds
open Go Go.Proofs Go.Proofs.YtbmpjppfdeohnaaDoor.Fv


/-! ### Values: a measure, and an induction -/
mutual
def vw : ApiValue → Nat
  | ⟨_, _, s, fs⟩ => fw fs + s.length + 1
def fw : List ApiField → Nat
  | [] => 0
  | f :: r => gw f + fw r
def gw : ApiField → Nat
  | ⟨nm, v⟩ => nm.length + 1 + vw v
end
theorem vw_eq (v : ApiValue) : vw v = fw v.Fields + v.S.length + 1 := by cases v; simp [vw]
theorem gw_eq (f : ApiField) : gw f = f.Name.length + 1 + vw f.Val := by cases f; simp [gw]
theorem fw_mem {f : ApiField} : ∀ {l : List ApiField}, f ∈ l → gw f ≤ fw l
  | [], h => by simp at h
  | g :: l, h => by
    simp only [fw]
    rcases List.mem_cons.1 h with rfl | h
    · omega
    · have := fw_mem h; omega
theorem fw_len : ∀ l : List ApiField, l.length ≤ fw l
  | [] => by simp [fw]
  | f :: l => by have := fw_len l; have := gw_eq f; simp only [fw, List.length_cons]; omega
theorem vw_lt {v : ApiValue} {f : ApiField} (h : f ∈ v.Fields) : vw f.Val < vw v ∧ f.Name.length < vw v := by
  have h1 := fw_mem h
  have h2 := gw_eq f
  have h3 := vw_eq v
  omega
theorem vw_len (v : ApiValue) : v.Fields.length < vw v ∧ v.S.length < vw v := by
  have := fw_len v.Fields
  have := vw_eq v
  omega
theorem val_ind {P : ApiValue → Prop} (h : ∀ v : ApiValue, (∀ f ∈ v.Fields, P f.Val) → P v) : ∀ v, P v := by
  have key : ∀ (k : Nat) (v : ApiValue), vw v ≤ k → P v := by
    intro k
    induction k with
    | zero => intro v hv; have := vw_eq v; omega
    | succ k ih => exact fun v hv => h v fun f hf => ih f.Val (by have := (vw_lt hf).1; omega)
  exact fun v => key _ v (Nat.le_refl _)

/-! ### Loops that answer -/
theorem foldK_some {A S R : Type} (v : List A) {step : Nat → A → S → (S → Option R) → Option R} {fin : S → Option R}
    (h : ∀ i (hi : i < v.length) s K, (∀ s', (K s').isSome = true) → (step i v[i] s K).isSome = true) (hf : ∀ s, (fin s).isSome = true) :
    ∀ (c i : Nat), c = v.length - i → i ≤ v.length → ∀ s, (foldK step fin (v.drop i) i s).isSome = true := by
  intro c
  induction c with
  | zero =>
    intro i hc hi s
    rw [List.drop_eq_nil_of_le (by omega)]
    exact hf s
  | succ c ih =>
    intro i hc hi s
    rw [List.drop_eq_getElem_cons (by omega : i < v.length), foldK_cons]
    exact h i (by omega) s _ fun s' => ih (i + 1) (by omega) (by omega) s'
theorem foldK_par {A S S' R : Type} (v : List A) {step : Nat → A → S → (S → Option R) → Option R} {fin : S → Option R} {step' : Nat → A → S' → (S' → Option R) → Option R} {fin' : S' → Option R} (I : Nat → S → S' → Prop)
    (h : ∀ i (hi : i < v.length) s s' K K', I i s s' → (∀ t t', I (i + 1) t t' → K t = K' t') → step i v[i] s K = step' i v[i] s' K') (hf : ∀ s s', I v.length s s' → fin s = fin' s') :
    ∀ (c i : Nat), c = v.length - i → i ≤ v.length → ∀ s s', I i s s' → foldK step fin (v.drop i) i s = foldK step' fin' (v.drop i) i s' := by
  intro c
  induction c with
  | zero =>
    intro i hc hi s s' hI
    rw [List.drop_eq_nil_of_le (by omega)]
    exact hf s s' (by rwa [show v.length = i by omega])
  | succ c ih =>
    intro i hc hi s s' hI
    rw [List.drop_eq_getElem_cons (by omega : i < v.length), foldK_cons, foldK_cons]
    exact h i (by omega) s s' _ _ hI fun t t' ht => ih (i + 1) (by omega) (by omega) t t' ht
/-- A loop ends early, or each of its rounds went on. -/
theorem foldK_case {A S R : Type} (v : List A) {step : Nat → A → S → (S → Option R) → Option R} {fin : S → Option R} (I : Nat → S → Prop) (Q : Option R → Prop)
    (h : ∀ i (hi : i < v.length) s, I i s → (∃ e, Q e ∧ ∀ K, step i v[i] s K = e) ∨ ∃ s', I (i + 1) s' ∧ ∀ K, step i v[i] s K = K s') (hf : ∀ s, I v.length s → Q (fin s)) :
    ∀ (c i : Nat), c = v.length - i → i ≤ v.length → ∀ s, I i s → Q (foldK step fin (v.drop i) i s) := by
  intro c
  induction c with
  | zero =>
    intro i hc hi s hI
    rw [List.drop_eq_nil_of_le (by omega)]
    exact hf s (by rwa [show v.length = i by omega])
  | succ c ih =>
    intro i hc hi s hI
    rw [List.drop_eq_getElem_cons (by omega : i < v.length), foldK_cons]
    rcases h i (by omega) s hI with ⟨e, h1, h2⟩ | ⟨s', h1, h2⟩
    · rw [h2]; exact h1
    · rw [h2]; exact ih (i + 1) (by omega) (by omega) s' h1
theorem bind_some {α β : Type} {o : Option α} {f : α → Option β} (h : o.isSome = true) (hf : ∀ a, (f a).isSome = true) : (o.bind f).isSome = true := by
  obtain ⟨a, rfl⟩ := Option.isSome_iff_exists.1 h
  exact hf a
theorem cond_some {β : Type} {c : Bool} {a b : Option β} (ha : c = true → a.isSome = true) (hb : c = false → b.isSome = true) : (bif c then a else b).isSome = true := by
  cases c
  · exact hb rfl
  · exact ha rfl
theorem inR {i n : Nat} (h : i < n) : (decide (0 ≤ (i : Int)) && decide ((i : Int) < (n : Int))) = true := by
  simp only [Bool.and_eq_true, decide_eq_true_eq]; omega
theorem inR' {i n : Nat} (h : i ≤ n) : (decide (0 ≤ (i : Int)) && decide ((i : Int) ≤ (n : Int))) = true := by
  simp only [Bool.and_eq_true, decide_eq_true_eq]; omega
theorem inP {i n : Nat} (h0 : 0 < i) (h : i < n) (hn : n < 9223372036854775807) : (decide (0 ≤ (IntKind.wrap .i64 ((i : Int) - 1))) && decide ((IntKind.wrap .i64 ((i : Int) - 1)) < (n : Int))) = true ∧ Int.toNat (IntKind.wrap .i64 ((i : Int) - 1)) = i - 1 := by
  have e : IntKind.wrap .i64 ((i : Int) - 1) = ((i - 1 : Nat) : Int) := by
    rw [show (i : Int) - 1 = ((i - 1 + 1 : Nat) : Int) - 1 by omega]
    exact i64_pred (by omega)
  rw [e]
  exact ⟨inR (by omega), by simp⟩

/-! ### What answers on a value -/
theorem vname_some (n : Nat) (s : List UInt8) (hn : s.length < n) : (value_Name n s).isSome = true := by
  rw [value_Name_eq]
  refine cond_some (fun _ => rfl) fun h0 => cond_some (fun _ => rfl) fun h1 => ?_
  have hne : 0 < s.length := by
    cases s with
    | nil => cases h0
    | cons a l => simp
  have hle : s.length ≤ 16 := by have := of_decide_eq_false h1; omega
  have hr : (decide (0 ≤ (0 : Int)) && decide ((0 : Int) < (s.length : Int))) = true := by simp; omega
  rw [hr]
  refine cond_some (fun _ => cond_some (fun _ => rfl) fun _ => cond_some (fun _ => cond_some (fun _ => rfl) fun _ => ?_) fun h => by cases h) fun h => by cases h
  have hli : (ints s).length = s.length := by simp [ints]
  have := value_Name_l0_fold n (ints s) (by omega) n 0 (by omega) (by omega)
  rw [show ((0 : Nat) : Int) = 0 from rfl] at this
  rw [this]
  refine foldK_some _ (fun i hi s K hK => ?_) (fun _ => rfl) _ 0 rfl (Nat.zero_le _) _
  repeat' first | with_reducible exact hK _ | with_reducible exact Option.isSome_some | with_reducible refine cond_some (fun _ => ?_) fun _ => ?_
theorem vsize_some (n : Nat) : ∀ (d : Nat) (v : ApiValue), vw v ≤ d → vw v < n → vw v < 9223372036854775807 → (value_Size d n v).isSome = true
  | 0, v, h, _, _ => by have := vw_eq v; omega
  | d + 1, v, h, hn, hm => by
    rw [value_Size_eq]
    have hl := (vw_len v).1
    have := value_Size_l0_fold d n v.Fields 1 (by omega) n 0 (by omega) (by omega)
    rw [show ((0 : Nat) : Int) = 0 from rfl] at this
    rw [this]
    refine foldK_some _ (fun i hi s K hK => ?_) (fun _ => rfl) _ 0 rfl (Nat.zero_le _) _
    have := vw_lt (List.getElem_mem hi)
    exact bind_some (vsize_some n d _ (by omega) (by omega) (by omega)) fun r => hK _
theorem vdeep_some (n : Nat) : ∀ (d : Nat) (v : ApiValue), vw v ≤ d → vw v < n → vw v < 9223372036854775807 → (value_Deep d n v).isSome = true
  | 0, v, h, _, _ => by have := vw_eq v; omega
  | d + 1, v, h, hn, hm => by
    rw [value_Deep_eq]
    have hl := (vw_len v).1
    have := value_Deep_l0_fold d n v.Fields 0 (by omega) n 0 (by omega) (by omega)
    rw [show ((0 : Nat) : Int) = 0 from rfl] at this
    rw [this]
    refine foldK_some _ (fun i hi s K hK => ?_) (fun _ => rfl) _ 0 rfl (Nat.zero_le _) _
    have := vw_lt (List.getElem_mem hi)
    exact bind_some (vdeep_some n d _ (by omega) (by omega) (by omega)) fun r => hK _
theorem scalar_some (n : Nat) (k : Int) : (value_Scalar n k).isSome = true := by
  rw [value_Scalar_eq]
  repeat' first | with_reducible exact Option.isSome_some | with_reducible refine cond_some (fun _ => ?_) fun _ => ?_
theorem unused_some (n : Nat) (v : ApiValue) : (value_unused n v).isSome = true := by
  rw [value_unused_eq]
  repeat' first | with_reducible exact Option.isSome_some | (with_reducible refine bind_some (scalar_some n _) fun _ => ?_) | with_reducible refine cond_some (fun _ => ?_) fun _ => ?_
theorem number_some (n : Nat) (v : ApiValue) : (value_number n v).isSome = true := by
  rw [value_number_eq]
  repeat' first | with_reducible exact Option.isSome_some | with_reducible refine cond_some (fun _ => ?_) fun _ => ?_
theorem fidx_some (n : Nat) (l : List ApiField) (f : ApiField) (hl : l.length < 9223372036854775807) (hn : l.length < n) : (slices_ContainsFunc_Field_by_value_names_1 n l (f, ())).isSome = true := by
  rw [slices_ContainsFunc_Field_by_value_names_1_eq, slices_IndexFunc_Field_by_value_names_1_eq]
  refine bind_some ?_ fun _ => rfl
  have := slices_IndexFunc_Field_by_value_names_1_l0_fold n l f hl n 0 (by omega) (by omega)
  rw [show ((0 : Nat) : Int) = 0 from rfl] at this
  rw [this]
  refine foldK_some _ (fun i hi s K hK => ?_) (fun _ => rfl) _ 0 rfl (Nat.zero_le _) _
  rw [value_names_1_eq]
  exact bind_some rfl fun _ => cond_some (fun _ => rfl) fun _ => hK _
theorem names_some (n : Nat) (v : ApiValue) (hn : vw v < n) (hm : vw v < 9223372036854775807) : (value_names n v.Fields).isSome = true := by
  have hl := (vw_len v).1
  rw [value_names_eq]
  have := value_names_l0_fold n v.Fields v.Fields (by omega) n 0 (by omega) (by omega)
  rw [show ((0 : Nat) : Int) = 0 from rfl] at this
  rw [this]
  refine foldK_some _ (fun i hi s K hK => ?_) (fun _ => rfl) _ 0 rfl (Nat.zero_le _) _
  have := vw_lt (List.getElem_mem hi)
  refine bind_some (vname_some n _ (by omega)) fun r => cond_some (fun _ => rfl) fun _ => ?_
  rw [inR' (by omega : i ≤ v.Fields.length)]
  exact bind_some (fidx_some n _ _ (by simp; omega) (by simp; omega)) fun _ => cond_some (fun _ => rfl) fun _ => hK _
theorem keys_some (n : Nat) (v : ApiValue) (hn : vw v < n) (hm : vw v < 9223372036854775807) : (value_keys n v).isSome = true := by
  have hl := (vw_len v).1
  rw [value_keys_eq]
  have := value_keys_l0_fold n v.Fields v (by omega) n 0 (by omega) (by omega)
  rw [show ((0 : Nat) : Int) = 0 from rfl] at this
  rw [this]
  refine foldK_some _ (fun i hi s K hK => ?_) (fun _ => rfl) _ 0 rfl (Nat.zero_le _) _
  have key : 0 < i → (decide (0 ≤ (IntKind.wrap .i64 ((i : Int) - 1))) && decide ((IntKind.wrap .i64 ((i : Int) - 1)) < (v.Fields.length : Int))) = true := fun h => (inP h (by omega) (by omega)).1
  repeat' first | with_reducible exact hK _ | with_reducible exact Option.isSome_some | exact absurd ((key (by have h := of_decide_eq_true ‹decide ((i : Int) > 0) = true›; omega)).symm.trans ‹(decide (0 ≤ IntKind.wrap .i64 ((i : Int) - 1)) && decide (IntKind.wrap .i64 ((i : Int) - 1) < (v.Fields.length : Int))) = false›) (by decide) | with_reducible refine cond_some (fun _ => ?_) fun _ => ?_
theorem fields_some (n : Nat) (v : ApiValue) (hn : vw v < n) (hm : vw v < 9223372036854775807) : (value_fields n v).isSome = true := by
  rw [value_fields_eq]
  repeat' first | with_reducible exact Option.isSome_some | (with_reducible refine bind_some (names_some n v hn hm) fun _ => ?_) | (with_reducible refine bind_some (keys_some n v hn hm) fun _ => ?_) | with_reducible refine cond_some (fun _ => ?_) fun _ => ?_
theorem node_some (n : Nat) : ∀ (d : Nat) (v : ApiValue) (b : Bool), vw v ≤ d → vw v < n → vw v < 9223372036854775807 → (value_node d n v b).isSome = true
  | 0, v, b, h, _, _ => by have := vw_eq v; omega
  | d + 1, v, b, h, hn, hm => by
    have hl := (vw_len v).1
    have hloop : (value_node_l1 (d + 1) n n v.Fields (List.length v.Fields : Int) 0).isSome = true := by
      have := value_node_l1_fold d n v.Fields (by omega) n 0 (by omega) (by omega)
      rw [show ((0 : Nat) : Int) = 0 from rfl] at this
      rw [this]
      refine foldK_some _ (fun i hi s K hK => ?_) (fun _ => rfl) _ 0 rfl (Nat.zero_le _) _
      have := vw_lt (List.getElem_mem hi)
      exact bind_some (node_some n d _ _ (by omega) (by omega) (by omega)) fun r => cond_some (fun _ => rfl) fun _ => hK _
    rw [value_node_eq]
    repeat' first | with_reducible exact Option.isSome_some | with_reducible exact hloop | (with_reducible refine bind_some (unused_some n v) fun _ => ?_) | (with_reducible refine bind_some (number_some n v) fun _ => ?_) | (with_reducible refine bind_some (fields_some n v hn hm) fun _ => ?_) | with_reducible refine cond_some (fun _ => ?_) fun _ => ?_
theorem vcheck_some (n : Nat) (v : ApiValue) (hn : vw v < n) (hm : vw v < 9223372036854775807) : (value_Check n v).isSome = true := by
  rw [value_Check_eq]
  refine bind_some (vsize_some n n v (by omega) hn hm) fun _ => cond_some (fun _ => rfl) fun _ => bind_some (vdeep_some n n v (by omega) hn hm) fun _ => cond_some (fun _ => rfl) fun _ => bind_some (node_some n n v true (by omega) hn hm) fun _ => rfl
/-! ### Counted loops by what stays true -/
theorem foldN_inv {S R : Type} {step : Nat → S → (S → Option R) → Option R} {fin : S → Option R} (I : Nat → S → Prop) (N : Nat) (h : ∀ i s, i < N → I i s → ∃ s', I (i + 1) s' ∧ ∀ K, step i s K = K s') : ∀ (c i : Nat) (s : S), c + i = N → I i s → ∃ s', I N s' ∧ foldN step fin c i s = fin s'
  | 0, i, s, hc, hi => ⟨s, by rw [← hc, Nat.zero_add]; exact hi, rfl⟩
  | c + 1, i, s, hc, hi => by
    obtain ⟨s1, h1, h2⟩ := h i s (by omega) hi
    obtain ⟨s2, h3, h4⟩ := foldN_inv I N h (fin := fin) c (i + 1) s1 (by omega) h1
    exact ⟨s2, h3, by rw [← h4]; exact h2 _⟩

theorem fold_use {S R : Type} {L : Option R} {step : Nat → S → (S → Option R) → Option R} {fin : S → Option R} {c i : Nat} {s : S} (hf : L = foldN step fin c i s) (I : Nat → S → Prop) (N : Nat) (hc : c + i = N) (hi : I i s)
    (h : ∀ i s, i < N → I i s → ∃ s', I (i + 1) s' ∧ ∀ K, step i s K = K s') : ∃ s', I N s' ∧ L = fin s' := by
  obtain ⟨s', h1, h2⟩ := foldN_inv (fin := fin) I N h c i s hc hi
  exact ⟨s', h1, by rw [hf, h2]⟩

/-! ### Paths -/
def nmOf (b : Bool) (i : Nat) (nm : List UInt8) : List UInt8 := bif b then Go.Lib.itoa (i : Int) else nm
mutual
def pths : ApiValue → List (List (List UInt8))
  | ⟨k, _, _, fs⟩ => [] :: pthsF (decide (k = 8)) 0 fs
def pthsF (b : Bool) : Nat → List ApiField → List (List (List UInt8))
  | _, [] => []
  | i, f :: r => pthsG b i f ++ pthsF b (i + 1) r
def pthsG (b : Bool) (i : Nat) : ApiField → List (List (List UInt8))
  | ⟨nm, v⟩ => (pths v).map (nmOf b i nm :: ·)
end
theorem pths_eq (v : ApiValue) : pths v = [] :: pthsF (decide (v.Kind = 8)) 0 v.Fields := by cases v; simp only [pths]
theorem pthsG_eq (b : Bool) (i : Nat) (f : ApiField) : pthsG b i f = (pths f.Val).map (nmOf b i f.Name :: ·) := by cases f; simp only [pthsG]
theorem itoa_nat (i : Nat) (hi : i < 9223372036854775808) : itoaO (i : Int) = some (Go.Lib.itoa (i : Int)) := by
  unfold itoaO i64R
  rw [dT (show (-9223372036854775808 : Int) ≤ (i : Int) by omega), dT (show (i : Int) ≤ 9223372036854775807 by omega)]
  rfl
/-- How many there are, and how long they are. -/
theorem pths_len : ∀ (k : Nat) (v : ApiValue), vw v ≤ k → (pths v).length ≤ vw v ∧ ∀ p ∈ pths v, p.length < vw v
  | 0, v, h => by have := vw_eq v; omega
  | k + 1, v, h => by
    have hF : ∀ (r : List ApiField) (i : Nat), fw r ≤ fw v.Fields → (∀ f ∈ r, f ∈ v.Fields) → (pthsF (decide (v.Kind = 8)) i r).length ≤ fw r ∧ ∀ p ∈ pthsF (decide (v.Kind = 8)) i r, p.length ≤ fw r := by
      intro r
      induction r with
      | nil => intro i _ _; simp [pthsF]
      | cons f r ih =>
        intro i hr hm
        have hf := (vw_lt (hm f (by simp))).1
        obtain ⟨h1, h2⟩ := pths_len k f.Val (by omega)
        obtain ⟨h3, h4⟩ := ih (i + 1) (by simp only [fw] at hr; omega) (fun g hg => hm g (by simp [hg]))
        have hg := gw_eq f
        simp only [pthsF, fw, pthsG_eq, List.length_append, List.length_map, List.mem_append, List.mem_map]
        refine ⟨by omega, ?_⟩
        rintro p (⟨q, hq, rfl⟩ | hp)
        · have := h2 q hq; rw [List.length_cons]; omega
        · have := h4 p hp; omega
    obtain ⟨h1, h2⟩ := hF v.Fields 0 (Nat.le_refl _) (fun f hf => hf)
    have := vw_eq v
    rw [pths_eq]
    refine ⟨by rw [List.length_cons]; omega, ?_⟩
    rintro p hp
    rcases List.mem_cons.1 hp with rfl | hp
    · simp; omega
    · have := h2 p hp; omega

theorem paths_l2 (d n m0 : Nat) (hn : 4294967297 < 9223372036854775807) (nm : List UInt8) (fs : List ApiField) (v13 : Int) (i : Nat) (hi : i < 4294967296) (w1 : ApiValue) (acc ys : List (List (List UInt8))) (hb : acc.length + ys.length ≤ 4294967296) (hy : ys.length < n) (hp : ∀ p ∈ ys, p.length < 4294967295) :
    ref2_Paths_l2 (d + 1) n m0 n acc.length nm fs v13 (i : Int) (ys.length : Int) 0 w1 acc ys = ref2_Paths_l0 (d + 1) n m0 (acc ++ ys.map (nm :: ·)).length fs v13 ((i + 1 : Nat) : Int) w1 (acc ++ ys.map (nm :: ·)) := by
  have hf := ref2_Paths_l2_fold d n m0 nm fs v13 (i : Int) w1 ys ys.length acc.length acc (by omega) n 0 (Nat.zero_le _) (by omega)
  obtain ⟨s, h1, h2⟩ := fold_use hf (fun j s => s = ((acc ++ (ys.take j).map (nm :: ·)).length, acc ++ (ys.take j).map (nm :: ·))) ys.length (by omega) (by simp) fun j s hj hs => by
    subst hs
    have hl : (ys.take (j + 1)).length = j + 1 := by rw [List.length_take]; omega
    have hl0 : (ys.take j).length = j := by rw [List.length_take]; omega
    have hlen : (acc ++ (ys.take j).map (nm :: ·)).length = acc.length + j := by rw [List.length_append, List.length_map, hl0]
    have hpj := hp ys[j] (List.getElem_mem hj)
    refine ⟨_, rfl, fun K => ?_⟩
    have e0 : (0 + Int.toNat (j : Int)) = j := by omega
    simp only [inR hj, e0, getD_lt _ hj, dT hj, cond_true]
    have l1 : ([nm] : List (List UInt8)).length = 1 := rfl
    rw [l1, dT rfl, dT (show 1 + ys[j].length ≤ 4294967296 by omega)]
    simp only [Bool.and_self, Bool.true_and, decide_true, cond_true]
    rw [hlen, show (List.take 1 [([nm] : List (List UInt8)) ++ ys[j]]).length = 1 from rfl, dT (show acc.length + j + 1 ≤ 4294967296 by omega), cond_true]
    have e1 : acc ++ (ys.take j).map (nm :: ·) ++ List.take 1 [([nm] : List (List UInt8)) ++ ys[j]] = acc ++ (ys.take (j + 1)).map (nm :: ·) := by
      rw [show ys.take (j + 1) = ys.take j ++ [ys[j]] by rw [List.take_add_one, List.getElem?_eq_getElem hj]; rfl, List.map_append, ← List.append_assoc]; rfl
    rw [e1]
  simp only [List.take_length] at h1
  subst h1
  rw [show ((0 : Nat) : Int) = 0 from rfl] at h2
  rw [h2, i64_succ (by omega)]
theorem paths_ok (n : Nat) : ∀ (d : Nat) (v : ApiValue), vw v ≤ d → vw v < n → vw v < 4294967295 → ref2_Paths d n v = some (pths v)
  | 0, v, h, _, _ => by have := vw_eq v; omega
  | d + 1, v, h, hn, hm => by
    have key : ∀ (r : List ApiField) (i m : Nat) (acc : List (List (List UInt8))), v.Fields.drop i = r → r.length < m → acc.length + fw r ≤ 4294967295 →
        ref2_Paths_l0 (d + 1) n m acc.length v.Fields (v.Fields.length : Int) (i : Int) v acc = some (acc ++ pthsF (decide (v.Kind = 8)) i r) := by
      intro r
      induction r with
      | nil =>
        intro i m acc hr hlm hb
        have hge : v.Fields.length ≤ i := List.drop_eq_nil_iff.1 hr
        obtain ⟨m, rfl⟩ : ∃ k, m = k + 1 := ⟨m - 1, by omega⟩
        rw [ref2_Paths_l0_eq, dF (by omega), cond_false, dT rfl, cond_true]
        simp [pthsF]
      | cons f r ih =>
        intro i m acc hr hlm hb
        have hlt : i < v.Fields.length := by
          rcases Nat.lt_or_ge i v.Fields.length with h | h
          · exact h
          · rw [List.drop_eq_nil_of_le h] at hr; cases hr
        rw [List.drop_eq_getElem_cons hlt] at hr
        injection hr with hf hr
        have hmem : f ∈ v.Fields := hf ▸ List.getElem_mem hlt
        have hvl := (vw_len v).1
        obtain ⟨hfv, _⟩ := vw_lt hmem
        obtain ⟨hpl, hpp⟩ := pths_len _ f.Val (Nat.le_refl _)
        have hgw := gw_eq f
        simp only [fw] at hb
        obtain ⟨m, rfl⟩ : ∃ k, m = k + 1 := ⟨m - 1, by omega⟩
        rw [ref2_Paths_l0_eq, dT (show (i : Int) < (v.Fields.length : Int) by omega), cond_true, d0, Bool.and_self, cond_true, show Int.toNat (i : Int) = i from rfl, getD_lt _ hlt, hf]
        have fin : ∀ nm, ref2_Paths_l2 (d + 1) n m n acc.length nm v.Fields (v.Fields.length : Int) (i : Int) ((pths f.Val).length : Int) 0 v acc (pths f.Val) = some (acc ++ ((pths f.Val).map (nm :: ·) ++ pthsF (decide (v.Kind = 8)) (i + 1) r)) := by
          intro nm
          rw [paths_l2 d n m (by omega) nm v.Fields _ i (by omega) v acc (pths f.Val) (by omega) (by omega) (fun p hp => by have := hpp p hp; omega)]
          rw [ih (i + 1) m _ hr (by simpa using hlm) (by rw [List.length_append, List.length_map]; omega), List.append_assoc]
        simp only [pthsF, pthsG_eq, nmOf]
        cases hk : decide (v.Kind = 8) with
        | true =>
          rw [hk] at fin
          rw [cond_true, itoa_nat i (by omega), bind_some2, paths_ok n d f.Val (by omega) (by omega) (by omega), bind_some2, fin]
          rfl
        | false =>
          rw [hk] at fin
          rw [cond_false, paths_ok n d f.Val (by omega) (by omega) (by omega), bind_some2, fin]
          rfl
    have hvl := vw_len v
    have := vw_eq v
    rw [ref2_Paths_eq, show (decide (0 = List.length ([] : List (List UInt8))) && true) = true from rfl, cond_true]
    have := key v.Fields 0 n [[]] rfl (by omega) (by simp; omega)
    rw [show ((0 : Nat) : Int) = 0 from rfl, show ([[]] : List (List (List UInt8))).length = 1 from rfl] at this
    rw [this, pths_eq]
    rfl

/-! ### The walk -/
theorem clone_nn (n : Nat) (p : List (List UInt8)) (h : p.length < 4294967295) : slices_Clone_string_nn n p = some p := by
  rw [slices_Clone_string_nn_eq, dT (show ([] : List (List UInt8)).length + p.length ≤ 4294967296 by simp; omega)]
  rfl
theorem each_ok (n : Nat) (p : List (List UInt8)) (v : ApiValue) (acc : List (List (List UInt8))) (h : p.length < 4294967295) (hb : acc.length < 4294967295) : path_All_1 n p v acc.length acc = some ((), (acc ++ [p]).length, acc ++ [p], ()) := by
  rw [path_All_1_eq, clone_nn n p h, bind_some2, dT rfl, dT (show acc.length + [p].length ≤ 4294967296 by simp; omega)]
  rfl
theorem name_ok (n : Nat) (v : ApiValue) (i : Nat) (hi : i < v.Fields.length) (hm : v.Fields.length < 9223372036854775807) : path_Name n v (i : Int) = some (nmOf (decide (v.Kind = 8)) i v.Fields[i].Name) := by
  rw [path_Name_eq, dF (show ¬ (i : Int) < 0 by omega), cond_false, dF (show ¬ (i : Int) ≥ (v.Fields.length : Int) by omega), cond_false, itoa_nat i (by omega), bind_some2, inR hi, cond_true, show Int.toNat (i : Int) = i from rfl, getD_lt _ hi]
  cases decide (v.Kind = 8) <;> rfl
theorem walk_ok (n : Nat) : ∀ (d : Nat) (v : ApiValue) (p : List (List UInt8)) (acc : List (List (List UInt8))), vw v ≤ d → vw v < n → p.length + vw v < 4294967295 → acc.length + vw v < 4294967295 →
    path_walk_by_path_All_1 d n v p acc.length acc = some ((), (acc ++ (pths v).map (p ++ ·)).length, acc ++ (pths v).map (p ++ ·), ())
  | 0, v, p, acc, h, _, _, _ => by have := vw_eq v; omega
  | d + 1, v, p, acc, h, hn, hp, hb => by
    have hvl := (vw_len v).1
    have hve := vw_eq v
    have key : ∀ (r : List ApiField) (i m : Nat) (acc : List (List (List UInt8))), v.Fields.drop i = r → r.length < m → i ≤ v.Fields.length → acc.length + fw r < 4294967295 →
        path_walk_by_path_All_1_l0 (d + 1) n m p v.Fields (v.Fields.length : Int) (i : Int) v acc.length acc = some ((), (acc ++ (pthsF (decide (v.Kind = 8)) i r).map (p ++ ·)).length, acc ++ (pthsF (decide (v.Kind = 8)) i r).map (p ++ ·), ()) := by
      intro r
      induction r with
      | nil =>
        intro i m acc hr hlm hi hb
        have hge : v.Fields.length ≤ i := List.drop_eq_nil_iff.1 hr
        obtain ⟨m, rfl⟩ : ∃ k, m = k + 1 := ⟨m - 1, by omega⟩
        rw [path_walk_by_path_All_1_l0_eq, dF (show ¬ (i : Int) < (v.Fields.length : Int) by omega), cond_false]
        simp [pthsF]
      | cons f r ih =>
        intro i m acc hr hlm hi hb
        have hlt : i < v.Fields.length := by
          rcases Nat.lt_or_ge i v.Fields.length with h | h
          · exact h
          · rw [List.drop_eq_nil_of_le h] at hr; cases hr
        rw [List.drop_eq_getElem_cons hlt] at hr
        injection hr with hf hr
        have hmem : f ∈ v.Fields := hf ▸ List.getElem_mem hlt
        obtain ⟨hfv, _⟩ := vw_lt hmem
        have hpl := (pths_len _ f.Val (Nat.le_refl _)).1
        have hgw := gw_eq f
        simp only [fw] at hb
        obtain ⟨m, rfl⟩ : ∃ k, m = k + 1 := ⟨m - 1, by omega⟩
        have hn1 := name_ok n v i hlt (by omega)
        rw [hf] at hn1
        rw [path_walk_by_path_All_1_l0_eq, dT (show (i : Int) < (v.Fields.length : Int) by omega), cond_true, d0, Bool.and_self, cond_true, d0, dT (Int.le_refl _), dT rfl, Bool.and_self, Bool.and_self, cond_true, hn1, bind_some2]
        rw [show Int.toNat (p.length : Int) = p.length from rfl, List.take_length, dT (show p.length + [nmOf (decide (v.Kind = 8)) i f.Name].length ≤ 4294967296 by simp; omega), cond_true]
        rw [show Int.toNat (i : Int) = i from rfl, getD_lt _ hlt, hf]
        rw [walk_ok n d f.Val (p ++ [nmOf (decide (v.Kind = 8)) i f.Name]) acc (by omega) (by omega) (by simp; omega) (by omega), bind_some2, i64_succ (by omega)]
        have e1 : acc ++ (pths f.Val).map ((p ++ [nmOf (decide (v.Kind = 8)) i f.Name]) ++ ·) = acc ++ (pthsG (decide (v.Kind = 8)) i f).map (p ++ ·) := by
          rw [pthsG_eq, List.map_map]
          exact congrArg (acc ++ ·) (List.map_congr_left fun q _ => List.append_assoc p [nmOf (decide (v.Kind = 8)) i f.Name] q)
        dsimp only
        rw [e1, ih (i + 1) m _ hr (by simpa using hlm) hlt (by rw [List.length_append, List.length_map, pthsG_eq, List.length_map]; omega)]
        simp only [pthsF, List.map_append, List.append_assoc]
    rw [path_walk_by_path_All_1_eq, each_ok n p v acc (by omega) (by omega), bind_some2]
    have := key v.Fields 0 n (acc ++ [p]) rfl (by omega) (Nat.zero_le _) (by rw [List.length_append, List.length_singleton]; omega)
    rw [show ((0 : Nat) : Int) = 0 from rfl] at this
    rw [this, pths_eq]
    simp
theorem walk_nil_ok (n : Nat) (d : Nat) (v : ApiValue) (acc : List (List (List UInt8))) (h : vw v ≤ d + 1) (hn : vw v < n) (hp : vw v < 4294967295) (hb : acc.length + vw v < 4294967295) :
    path_walk_nil_by_path_All_1 (d + 1) n v () acc.length acc = some ((), (acc ++ pths v).length, acc ++ pths v, ()) := by
    have hvl := (vw_len v).1
    have hve := vw_eq v
    have key : ∀ (r : List ApiField) (i m : Nat) (acc : List (List (List UInt8))), v.Fields.drop i = r → r.length < m → i ≤ v.Fields.length → acc.length + fw r < 4294967295 →
        path_walk_nil_by_path_All_1_l0 (d + 1) n m v.Fields (v.Fields.length : Int) (i : Int) v acc.length acc = some ((), (acc ++ pthsF (decide (v.Kind = 8)) i r).length, acc ++ pthsF (decide (v.Kind = 8)) i r, ()) := by
      intro r
      induction r with
      | nil =>
        intro i m acc hr hlm hi hb
        have hge : v.Fields.length ≤ i := List.drop_eq_nil_iff.1 hr
        obtain ⟨m, rfl⟩ : ∃ k, m = k + 1 := ⟨m - 1, by omega⟩
        rw [path_walk_nil_by_path_All_1_l0_eq, dF (show ¬ (i : Int) < (v.Fields.length : Int) by omega), cond_false]
        simp [pthsF]
      | cons f r ih =>
        intro i m acc hr hlm hi hb
        have hlt : i < v.Fields.length := by
          rcases Nat.lt_or_ge i v.Fields.length with h | h
          · exact h
          · rw [List.drop_eq_nil_of_le h] at hr; cases hr
        rw [List.drop_eq_getElem_cons hlt] at hr
        injection hr with hf hr
        have hmem : f ∈ v.Fields := hf ▸ List.getElem_mem hlt
        obtain ⟨hfv, _⟩ := vw_lt hmem
        have hpl := (pths_len _ f.Val (Nat.le_refl _)).1
        have hgw := gw_eq f
        simp only [fw] at hb
        obtain ⟨m, rfl⟩ : ∃ k, m = k + 1 := ⟨m - 1, by omega⟩
        have hn1 := name_ok n v i hlt (by omega)
        rw [hf] at hn1
        rw [path_walk_nil_by_path_All_1_l0_eq, dT (show (i : Int) < (v.Fields.length : Int) by omega), cond_true, d0, Bool.and_self, cond_true, show (decide ((([] : List (List UInt8)).length : Int) = 0) && decide ((([] : List (List UInt8)).length : Int) = (([] : List (List UInt8)).length : Int))) = true from rfl, cond_true, hn1, bind_some2]
        rw [dT (show ([] : List (List UInt8)).length + [nmOf (decide (v.Kind = 8)) i f.Name].length ≤ 4294967296 by simp), cond_true]
        rw [show Int.toNat (i : Int) = i from rfl, getD_lt _ hlt, hf]
        rw [walk_ok n d f.Val ([] ++ [nmOf (decide (v.Kind = 8)) i f.Name]) acc (by omega) (by omega) (by simp; omega) (by omega), bind_some2, i64_succ (by omega)]
        have e1 : acc ++ (pths f.Val).map (([] ++ [nmOf (decide (v.Kind = 8)) i f.Name]) ++ ·) = acc ++ pthsG (decide (v.Kind = 8)) i f := by
          rw [pthsG_eq]
          congr 1
        dsimp only
        rw [e1, ih (i + 1) m _ hr (by simpa using hlm) hlt (by rw [List.length_append, pthsG_eq, List.length_map]; omega)]
        simp only [pthsF, List.append_assoc]
    rw [path_walk_nil_by_path_All_1_eq, path_All_1_nil_eq, slices_Clone_string_nil_eq, bind_some2, dT rfl, dT (show acc.length + ([[]] : List (List (List UInt8))).length ≤ 4294967296 by simp; omega)]
    have := key v.Fields 0 n (acc ++ [[]]) rfl (by omega) (Nat.zero_le _) (by rw [List.length_append, List.length_singleton]; omega)
    rw [show ((0 : Nat) : Int) = 0 from rfl] at this
    rw [Bool.and_self, cond_true, bind_some2]
    refine this.trans ?_
    rw [pths_eq]
    simp
theorem all_ok (n : Nat) (v : ApiValue) (c : Int) (hc : value_Check n v = some c) (hn : vw v + 1 < n) (hm : vw v < 4294967295) : path_All n v = some (bif decide (c = 0) then pths v else []) := by
  rw [path_All_eq, hc, bind_some2]
  cases decide (c = 0) with
  | false => rfl
  | true =>
    obtain ⟨k, rfl⟩ : ∃ k, n = k + 1 := ⟨n - 1, by omega⟩
    have := walk_nil_ok (k + 1) k v [] (by omega) (by omega) hm (by simp; omega)
    rw [show ([] : List (List (List UInt8))).length = 0 from rfl] at this
    rw [Bool.not_true, cond_false, this, bind_some2, dT rfl]
    rfl

/-! ### The same paths -/
theorem eqs_ok (n : Nat) (p : List (List UInt8)) (hp : p.length < 4294967296) (hn : p.length < n) : slices_Equal_string n p p = some true := by
  have h := slices_Equal_string_l0_fold n p p (by omega) n 0 (Nat.zero_le _) (by omega)
  rw [show ((0 : Nat) : Int) = 0 from rfl] at h
  rw [slices_Equal_string_eq, dT rfl, Bool.not_true, cond_false, h]
  refine foldK_case p (fun _ _ => True) (fun o => o = some true) (fun i hi s _ => ?_) (fun _ _ => rfl) _ 0 rfl (Nat.zero_le _) _ trivial
  refine .inr ⟨(), trivial, fun K => ?_⟩
  rw [inR hi, cond_true, show Int.toNat (i : Int) = i from rfl, getD_lt _ hi, beq_self_eq_true, Bool.not_true, cond_false]
theorem same1_ok (n : Nat) (xs : List (List (List UInt8))) (hl : xs.length < 4294967296) (hn : xs.length < n) (hp : ∀ p ∈ xs, p.length < 4294967296 ∧ p.length < n) :
    ref2_SamePaths n (xs, 0, xs.length) (xs, 0, xs.length) = some (true, xs, xs, ()) := by
  have h := slices_EqualFunc_Lstring_by_ref2_SamePaths_1_l0_fold n 0 xs.length 0 xs.length xs xs xs.length (by omega) n 0 (Nat.zero_le _) (by omega)
  rw [show ((0 : Nat) : Int) = 0 from rfl] at h
  obtain ⟨s, _, h2⟩ := fold_use h (fun _ _ => True) xs.length (by omega) trivial fun i s hi _ => ⟨(), trivial, fun K => by
    have e0 : (0 + Int.toNat (i : Int)) = i := by omega
    obtain ⟨h1, h2⟩ := hp xs[i] (List.getElem_mem hi)
    rw [inR hi, cond_true, e0, dT hi, cond_true, cond_true, cond_true, getD_lt _ hi, ref2_SamePaths_1_eq, eqs_ok n _ h1 h2]
    rfl⟩
  rw [ref2_SamePaths_eq, slices_EqualFunc_Lstring_by_ref2_SamePaths_1_eq, dT rfl, Bool.not_true, cond_false, h2]
  rfl
theorem same2_ok (n : Nat) (xs ys : List (List (List UInt8))) (k : Nat) (hk : k ≤ ys.length) (he : xs = ys.take k) (hl : xs.length < 4294967296) (hn : xs.length < n) (hp : ∀ p ∈ xs, p.length < 4294967296 ∧ p.length < n) :
    ref2_SamePaths_2 n xs (ys, 0, k) = some (true, ys, ()) := by
  have hxl : xs.length = k := by rw [he, List.length_take]; omega
  have h := slices_EqualFunc_Lstring_by_ref2_SamePaths_1_2_l0_fold n 0 k xs ys (by omega) n 0 (Nat.zero_le _) (by omega)
  rw [show ((0 : Nat) : Int) = 0 from rfl] at h
  have h3 : foldK (S := Unit) (fun i (a : (List (List UInt8))) s K => (bif (decide (0 ≤ (i : Int)) && decide ((i : Int) < (k : Int))) then (bif (decide ((0 + (Int.toNat (i : Int))) < List.length ys)) then (Option.bind (ref2_SamePaths_1 n a (List.getD ys (0 + (Int.toNat (i : Int))) [])) fun r1 => (bif (!r1) then (some (false, ys, ())) else (K ()))) else none) else none)) (fun s => (some (true, ys, ()))) (List.drop 0 xs) 0 () = some (true, ys, ()) := by
    refine foldK_case xs (fun _ _ => True) (fun o => o = some (true, ys, ())) (fun i hi s _ => ?_) (fun _ _ => rfl) _ 0 rfl (Nat.zero_le _) _ trivial
    refine .inr ⟨(), trivial, fun K => ?_⟩
    have e0 : (0 + Int.toNat (i : Int)) = i := by omega
    have hiy : i < ys.length := by omega
    have he2 : ys[i] = xs[i] := by simp only [he, List.getElem_take]
    obtain ⟨h1, h2⟩ := hp xs[i] (List.getElem_mem hi)
    rw [inR (show i < k by omega), cond_true, e0, dT hiy, cond_true, getD_lt _ hiy, he2, ref2_SamePaths_1_eq, eqs_ok n _ h1 h2]
    rfl
  rw [ref2_SamePaths_2_eq, slices_EqualFunc_Lstring_by_ref2_SamePaths_1_2_eq]
  rw [show (!decide ((xs.length : Int) = (k : Int))) = false by rw [hxl, dT rfl]; rfl, cond_false, h]
  rw [h3]
  rfl

/-! ### What a pattern means -/
def mval (row : List Bool) (v : List UInt8) (p : List (List UInt8)) (s : List Bool) : Nat → Bool
  | 0 => (v == [42, 42]) && row.getD 0 false
  | i + 1 => bif v == [42, 42] then (row.getD (i + 1) false || s.getD i false) else (row.getD i false && ((v == [42]) || (v == p.getD i [])))
def mrow (row : List Bool) (v : List UInt8) (p : List (List UInt8)) : Nat → List Bool
  | 0 => List.replicate (p.length + 1) false
  | i + 1 => (mrow row v p i).set i (mval row v p (mrow row v p i) i)
def mrows (p : List (List UInt8)) : List (List UInt8) → List Bool → List Bool
  | [], row => row
  | v :: r, row => mrows p r (mrow row v p (p.length + 1))
theorem mrow_len (row : List Bool) (v : List UInt8) (p : List (List UInt8)) : ∀ i, (mrow row v p i).length = p.length + 1
  | 0 => by simp [mrow]
  | i + 1 => by rw [mrow, List.length_set, mrow_len row v p i]
theorem mrow_false (row : List Bool) (v : List UInt8) (p : List (List UInt8)) : ∀ (i j : Nat), i ≤ j → (mrow row v p i).getD j false = false
  | 0, j, _ => by
    simp only [mrow, List.getD_eq_getElem?_getD, List.getElem?_replicate]
    split <;> rfl
  | i + 1, j, h => by
    have := mrow_false row v p i j (by omega)
    rw [List.getD_eq_getElem?_getD] at this ⊢
    rw [mrow, List.getElem?_set_ne (by omega)]
    exact this
theorem set_false {s : List Bool} {i : Nat} (h : s.getD i false = false) : s.set i false = s := by
  rcases Nat.lt_or_ge i s.length with hi | hi
  · rw [getD_lt _ hi] at h
    have h2 := List.set_getElem_self hi
    rw [h] at h2
    exact h2
  · exact List.set_eq_of_length_le hi
theorem matches_l2 (n m0 : Nat) (p : List (List UInt8)) (v : List UInt8) (v16 : List (List UInt8)) (v17 v18 : Int) (row : List Bool) (hp : p.length < 4294967295) (hr : row.length = p.length + 1) (hn : p.length + 1 < n) :
    path_Matches_l2 n m0 n p (p.length + 1) v (p.length + 1) v16 v17 v18 ((p.length + 1 : Nat) : Int) 0 row (List.replicate (p.length + 1) false) = path_Matches_l0 n m0 p (p.length + 1) v16 v17 (IntKind.wrap .i64 (v18 + 1)) (mrow row v p (p.length + 1)) := by
  have h := path_Matches_l2_fold n m0 p (p.length + 1) v (p.length + 1) v16 v17 v18 row (p.length + 1) (List.replicate (p.length + 1) false) (by omega) n 0 (Nat.zero_le _) (by omega)
  rw [show ((0 : Nat) : Int) = 0 from rfl] at h
  obtain ⟨s, h1, h2⟩ := fold_use h (fun i s => s = mrow row v p i) (p.length + 1) (by omega) rfl fun i s hi hs => ⟨_, rfl, fun K => by
    subst hs
    have hl := mrow_len row v p i
    have e0 : (0 + Int.toNat (i : Int)) = i := by omega
    have hir : i < row.length := by omega
    have hil : i < (mrow row v p i).length := by omega
    rw [inR hi, e0, dT hir, dT hil]
    simp only [cond_true]
    cases i with
    | zero =>
      rw [dF (show ¬ ((0 : Nat) : Int) > 0 by decide)]
      simp only [cond_false, mrow, mval]
      cases hv : v == [42, 42] with
      | true =>
        simp only [cond_true, Bool.true_and]
        cases row.getD 0 false <;> rfl
      | false =>
        rw [Bool.false_and, set_false (s := List.replicate (p.length + 1) false) (mrow_false row v p 0 0 (Nat.le_refl _))]
        rfl
    | succ i =>
      obtain ⟨c1, c2⟩ := inP (show 0 < i + 1 by omega) hi (by omega)
      have e1 : (0 + Int.toNat (IntKind.wrap .i64 (((i + 1 : Nat) : Int) - 1))) = i := by omega
      have e2 : Int.toNat (IntKind.wrap .i64 (((i + 1 : Nat) : Int) - 1)) = i := by omega
      have hi' : i < row.length := by omega
      have hil' : i < (mrow row v p (i + 1)).length := by omega
      have hip : i < p.length := by omega
      have c3 : (decide (0 ≤ (IntKind.wrap .i64 (((i + 1 : Nat) : Int) - 1))) && decide ((IntKind.wrap .i64 (((i + 1 : Nat) : Int) - 1)) < (p.length : Int))) = true := by
        have e : IntKind.wrap .i64 (((i + 1 : Nat) : Int) - 1) = (i : Int) := i64_pred (by omega)
        rw [e]; exact inR hip
      rw [dT (show ((i + 1 : Nat) : Int) > 0 by omega), c1, e1, e2, dT hi', dT hil', c3]
      simp only [cond_true]
      show _ = K ((mrow row v p (i + 1)).set (i + 1) (mval row v p (mrow row v p (i + 1)) (i + 1)))
      rw [mval]
      cases hv : v == [42, 42] with
      | true =>
        simp only [cond_true]
        cases row.getD (i + 1) false <;> rfl
      | false =>
        simp only [cond_false]
        cases row.getD i false with
        | false => rfl
        | true =>
          simp only [cond_true, Bool.true_and]
          cases v == [42] <;> rfl⟩
  subst h1
  exact h2
theorem means_l2 (n m0 : Nat) (p : List (List UInt8)) (v : List UInt8) (v16 : List (List UInt8)) (v17 v18 : Int) (row : List Bool) (hp : p.length < 4294967295) (hr : row.length = p.length + 1) (hn : p.length + 1 < n) :
    ref2_Means_l2 n m0 n p (p.length + 1) v (p.length + 1) v16 v17 v18 ((p.length + 1 : Nat) : Int) 0 row (List.replicate (p.length + 1) false) = ref2_Means_l0 n m0 p (p.length + 1) v16 v17 (IntKind.wrap .i64 (v18 + 1)) (mrow row v p (p.length + 1)) := by
  have h := ref2_Means_l2_fold n m0 p (p.length + 1) v (p.length + 1) v16 v17 v18 row (p.length + 1) (List.replicate (p.length + 1) false) (by omega) n 0 (Nat.zero_le _) (by omega)
  rw [show ((0 : Nat) : Int) = 0 from rfl] at h
  obtain ⟨s, h1, h2⟩ := fold_use h (fun i s => s = mrow row v p i) (p.length + 1) (by omega) rfl fun i s hi hs => ⟨_, rfl, fun K => by
    subst hs
    have hl := mrow_len row v p i
    have e0 : (0 + Int.toNat (i : Int)) = i := by omega
    have hir : i < row.length := by omega
    have hil : i < (mrow row v p i).length := by omega
    rw [inR hi, e0, dT hir, dT hil]
    simp only [cond_true]
    cases i with
    | zero =>
      rw [dF (show ¬ ((0 : Nat) : Int) > 0 by decide)]
      simp only [cond_false, mrow, mval]
      cases hv : v == [42, 42] with
      | true =>
        simp only [cond_true, Bool.true_and]
        cases row.getD 0 false <;> rfl
      | false =>
        rw [Bool.false_and, set_false (s := List.replicate (p.length + 1) false) (mrow_false row v p 0 0 (Nat.le_refl _))]
        rfl
    | succ i =>
      obtain ⟨c1, c2⟩ := inP (show 0 < i + 1 by omega) hi (by omega)
      have e1 : (0 + Int.toNat (IntKind.wrap .i64 (((i + 1 : Nat) : Int) - 1))) = i := by omega
      have e2 : Int.toNat (IntKind.wrap .i64 (((i + 1 : Nat) : Int) - 1)) = i := by omega
      have hi' : i < row.length := by omega
      have hil' : i < (mrow row v p (i + 1)).length := by omega
      have hip : i < p.length := by omega
      have c3 : (decide (0 ≤ (IntKind.wrap .i64 (((i + 1 : Nat) : Int) - 1))) && decide ((IntKind.wrap .i64 (((i + 1 : Nat) : Int) - 1)) < (p.length : Int))) = true := by
        have e : IntKind.wrap .i64 (((i + 1 : Nat) : Int) - 1) = (i : Int) := i64_pred (by omega)
        rw [e]; exact inR hip
      rw [dT (show ((i + 1 : Nat) : Int) > 0 by omega), c1, e1, e2, dT hi', dT hil', c3]
      simp only [cond_true]
      show _ = K ((mrow row v p (i + 1)).set (i + 1) (mval row v p (mrow row v p (i + 1)) (i + 1)))
      rw [mval]
      cases hv : v == [42, 42] with
      | true =>
        simp only [cond_true]
        cases row.getD (i + 1) false <;> rfl
      | false =>
        simp only [cond_false]
        cases row.getD i false with
        | false => rw [Bool.false_and, set_false (mrow_false row v p (i + 1) (i + 1) (Nat.le_refl _))]; rfl
        | true =>
          simp only [cond_true, Bool.true_and]
          cases v == [42] <;> rfl⟩
  subst h1
  exact h2
theorem matches_l0 (n : Nat) (p pat : List (List UInt8)) (hp : p.length < 4294967295) (hn : p.length + 1 < n) (hq : pat.length < 9223372036854775807) : ∀ (r : List (List UInt8)) (i m : Nat) (row : List Bool), pat.drop i = r → r.length < m → row.length = p.length + 1 →
    path_Matches_l0 n m p (p.length + 1) pat (pat.length : Int) (i : Int) row = some ((mrows p r row).getD p.length false) := by
  intro r
  induction r with
  | nil =>
    intro i m row hr hlm hrl
    have hge : pat.length ≤ i := List.drop_eq_nil_iff.1 hr
    obtain ⟨m, rfl⟩ : ∃ k, m = k + 1 := ⟨m - 1, by omega⟩
    rw [path_Matches_l0_eq, dF (show ¬ (i : Int) < (pat.length : Int) by omega), cond_false, inR (show p.length < p.length + 1 by omega), cond_true, show (0 + Int.toNat (p.length : Int)) = p.length by omega, dT (show p.length < row.length by omega)]
    rfl
  | cons v r ih =>
    intro i m row hr hlm hrl
    have hlt : i < pat.length := by
      rcases Nat.lt_or_ge i pat.length with h | h
      · exact h
      · rw [List.drop_eq_nil_of_le h] at hr; cases hr
    rw [List.drop_eq_getElem_cons hlt] at hr
    injection hr with hf hr
    obtain ⟨m, rfl⟩ : ∃ k, m = k + 1 := ⟨m - 1, by omega⟩
    have e : IntKind.wrap .i64 ((p.length : Int) + 1) = ((p.length + 1 : Nat) : Int) := i64_succ (by omega)
    rw [path_Matches_l0_eq, dT (show (i : Int) < (pat.length : Int) by omega), cond_true, d0, Bool.and_self, cond_true, e, d0, dT (Int.le_refl _), dT (show ((p.length + 1 : Nat) : Int) ≤ 4294967296 by omega), Bool.and_self, Bool.and_self, cond_true]
    rw [show Int.toNat (i : Int) = i from rfl, getD_lt _ hlt, hf, show Int.toNat ((p.length + 1 : Nat) : Int) = p.length + 1 from rfl, matches_l2 n m p v pat _ _ row hp hrl hn, i64_succ (by omega), ih (i + 1) m _ hr (by simpa using hlm) (mrow_len _ _ _ _)]
    rfl
theorem means_l0 (n : Nat) (p pat : List (List UInt8)) (hp : p.length < 4294967295) (hn : p.length + 1 < n) (hq : pat.length < 9223372036854775807) : ∀ (r : List (List UInt8)) (i m : Nat) (row : List Bool), pat.drop i = r → r.length < m → row.length = p.length + 1 →
    ref2_Means_l0 n m p (p.length + 1) pat (pat.length : Int) (i : Int) row = some ((mrows p r row).getD p.length false) := by
  intro r
  induction r with
  | nil =>
    intro i m row hr hlm hrl
    have hge : pat.length ≤ i := List.drop_eq_nil_iff.1 hr
    obtain ⟨m, rfl⟩ : ∃ k, m = k + 1 := ⟨m - 1, by omega⟩
    rw [ref2_Means_l0_eq, dF (show ¬ (i : Int) < (pat.length : Int) by omega), cond_false, inR (show p.length < p.length + 1 by omega), cond_true, show (0 + Int.toNat (p.length : Int)) = p.length by omega, dT (show p.length < row.length by omega)]
    rfl
  | cons v r ih =>
    intro i m row hr hlm hrl
    have hlt : i < pat.length := by
      rcases Nat.lt_or_ge i pat.length with h | h
      · exact h
      · rw [List.drop_eq_nil_of_le h] at hr; cases hr
    rw [List.drop_eq_getElem_cons hlt] at hr
    injection hr with hf hr
    obtain ⟨m, rfl⟩ : ∃ k, m = k + 1 := ⟨m - 1, by omega⟩
    have e : IntKind.wrap .i64 ((p.length : Int) + 1) = ((p.length + 1 : Nat) : Int) := i64_succ (by omega)
    rw [ref2_Means_l0_eq, dT (show (i : Int) < (pat.length : Int) by omega), cond_true, d0, Bool.and_self, cond_true, e, d0, dT (Int.le_refl _), dT (show ((p.length + 1 : Nat) : Int) ≤ 4294967296 by omega), Bool.and_self, Bool.and_self, cond_true]
    rw [show Int.toNat (i : Int) = i from rfl, getD_lt _ hlt, hf, show Int.toNat ((p.length + 1 : Nat) : Int) = p.length + 1 from rfl, means_l2 n m p v pat _ _ row hp hrl hn, i64_succ (by omega), ih (i + 1) m _ hr (by simpa using hlm) (mrow_len _ _ _ _)]
    rfl
def mns (pat p : List (List UInt8)) : Bool := (mrows p pat ((List.replicate (p.length + 1) false).set 0 true)).getD p.length false
theorem matches_ok (n : Nat) (pat p : List (List UInt8)) (hp : p.length < 4294967295) (hn : p.length + 1 < n) (hq : pat.length < 9223372036854775807) (hqn : pat.length < n) : path_Matches n pat p = some (mns pat p) := by
  have e : IntKind.wrap .i64 ((p.length : Int) + 1) = ((p.length + 1 : Nat) : Int) := i64_succ (by omega)
  have h := matches_l0 n p pat hp hn hq pat 0 n ((List.replicate (p.length + 1) false).set 0 true) rfl hqn (by simp)
  rw [path_Matches_eq, e, d0, dT (Int.le_refl _), dT (show ((p.length + 1 : Nat) : Int) ≤ 4294967296 by omega), Bool.and_self, Bool.and_self, cond_true, show Int.toNat ((p.length + 1 : Nat) : Int) = p.length + 1 from rfl]
  rw [show (decide (0 ≤ (0 : Int)) && decide ((0 : Int) < ((p.length + 1 : Nat) : Int))) = true from inR (i := 0) (by omega), cond_true, show (0 + Int.toNat (0 : Int)) = 0 from rfl, dT (show 0 < (List.replicate (p.length + 1) false).length by simp), cond_true]
  exact h
theorem means_ok (n : Nat) (pat p : List (List UInt8)) (hp : p.length < 4294967295) (hn : p.length + 1 < n) (hq : pat.length < 9223372036854775807) (hqn : pat.length < n) : ref2_Means n pat p = some (mns pat p) := by
  have e : IntKind.wrap .i64 ((p.length : Int) + 1) = ((p.length + 1 : Nat) : Int) := i64_succ (by omega)
  have h := means_l0 n p pat hp hn hq pat 0 n ((List.replicate (p.length + 1) false).set 0 true) rfl hqn (by simp)
  rw [ref2_Means_eq, e, d0, dT (Int.le_refl _), dT (show ((p.length + 1 : Nat) : Int) ≤ 4294967296 by omega), Bool.and_self, Bool.and_self, cond_true, show Int.toNat ((p.length + 1 : Nat) : Int) = p.length + 1 from rfl]
  rw [show (decide (0 ≤ (0 : Int)) && decide ((0 : Int) < ((p.length + 1 : Nat) : Int))) = true from inR (i := 0) (by omega), cond_true, show (0 + Int.toNat (0 : Int)) = 0 from rfl, dT (show 0 < (List.replicate (p.length + 1) false).length by simp), cond_true]
  exact h

/-! ### What is let go (printed by a program, once for each of the two) -/
theorem fnd_ifr (n : Nat) (xs : List (List (List UInt8))) (pat : List (List UInt8)) (hq : ∀ p ∈ xs, path_Find_1 n p pat = some (!mns pat p)) (h : xs.length < 9223372036854775807) (hn : xs.length < n) : slices_IndexFunc_Lstring_by_path_Find_1 n (xs, 0, xs.length) (pat, ()) = some (ixI (fun a => !mns pat a) xs, xs, ()) := by
  have hf := slices_IndexFunc_Lstring_by_path_Find_1_l0_fold n 0 xs.length pat xs xs.length h n 0 (Nat.zero_le _) (by omega)
  rw [show ((0 : Nat) : Int) = 0 from rfl] at hf
  rw [slices_IndexFunc_Lstring_by_path_Find_1_eq]
  refine hf.trans ((foldN_row xs [] (fun i a s K => Option.bind (path_Find_1 n a pat) fun r1 => bif r1 then some ((i : Int), xs, ()) else K ()) (fun s => some (-1, xs, ())) _ 0 () (by omega)).trans ?_)
  rw [List.drop_zero, foldK_congr (step' := fun i a _ K => bif !mns pat a then some ((i : Int), xs, ()) else K ()) (fin' := fun s => some (-1, xs, ())) (fun _ => rfl) xs 0 () (fun i a s K ha => by rw [hq a ha, bind_some2]), foldK_idxG (fun i : Nat => ((i : Int), xs, ()))]
  unfold ixI
  cases List.findIdx? (fun a => !mns pat a) xs <;> simp
theorem fnd_go (n : Nat) (pat : List (List UInt8)) (N : Nat) (hN : N < 9223372036854775807) : ∀ (m j i : Nat) (ws : List (List (List UInt8))), (∀ p ∈ ws.drop j, path_Find_1 n p pat = some (!mns pat p)) → ws.length = N → i ≤ j → j ≤ N → N - j < m →
    ∃ ws', ws'.length = N ∧ i + ((ws.drop j).filter (mns pat)).length ≤ N ∧ ws'.take (i + ((ws.drop j).filter (mns pat)).length) = ws.take i ++ (ws.drop j).filter (mns pat) ∧ slices_DeleteFunc_Lstring_by_path_Find_1_l0 n m 0 N pat (i : Int) (j : Int) ws = some (i + ((ws.drop j).filter (mns pat)).length, ws', ()) := by
  intro m
  induction m with
  | zero => intro j i ws _ _ _ _ h; omega
  | succ m ih =>
    intro j i ws hq hws hij hj hm
    rw [slices_DeleteFunc_Lstring_by_path_Find_1_l0_eq]
    by_cases h : j < N
    · have hj2 : j < ws.length := by omega
      have hi2 : i < ws.length := by omega
      have hpj := hq ws[j] (by rw [List.drop_eq_getElem_cons hj2]; exact List.mem_cons_self)
      rw [dlt, dT h, d0, Int.toNat_natCast, Nat.zero_add, dT hj2, getD_lt _ hj2, hpj, bind_some2, List.drop_eq_getElem_cons hj2, List.filter_cons]
      simp only [Bool.and_self, cond_true, Bool.not_not]
      have hq' : ∀ p ∈ ws.drop (j + 1), path_Find_1 n p pat = some (!mns pat p) := fun p hp => hq p (by rw [List.drop_eq_getElem_cons hj2]; exact List.mem_cons_of_mem _ hp)
      cases hk : mns pat ws[j] with
      | false =>
        simp only [cond_false, Bool.false_eq_true, if_false]
        rw [i64_succ (by omega)]
        exact ih (j + 1) i ws hq' hws (by omega) (by omega) (by omega)
      | true =>
        simp only [cond_true, if_true]
        rw [dlt, d0, dT (show i < N by omega), Int.toNat_natCast, Nat.zero_add, dT hi2, i64_succ (by omega), i64_succ (by omega)]
        simp only [Bool.and_self, cond_true]
        obtain ⟨ws', k1, k2, k3, k4⟩ := ih (j + 1) (i + 1) (ws.set i ws[j]) (by rw [List.drop_set, if_pos (by omega)]; exact hq') (by simpa using hws) (by omega) (by omega) (by omega)
        rw [List.drop_set, if_pos (by omega)] at k2 k3 k4
        have e : i + 1 + ((ws.drop (j + 1)).filter (mns pat)).length = i + (ws[j] :: (ws.drop (j + 1)).filter (mns pat)).length := by simp only [List.length_cons]; omega
        rw [e] at k2 k3 k4
        refine ⟨ws', k1, k2, ?_, k4⟩
        rw [k3, List.take_succ_eq_append_getElem (by simpa using hi2), List.getElem_set_self, List.take_set_of_le (Nat.le_refl _), List.append_assoc]
        rfl
    · have hjN : j = N := by omega
      subst hjN
      rw [dlt, dF h, cond_false, d0, dle, dT hij, Int.toNat_natCast, Nat.zero_add, dT (show i + (j - i) ≤ ws.length by omega)]
      have hlen : (over ws (List.replicate (j - i) []) i).length = j := by
        simp only [over, List.length_append, List.length_take, List.length_drop, List.length_replicate]
        omega
      rw [List.drop_eq_nil_of_le (by omega)]
      refine ⟨over ws (List.replicate (j - i) []) i, hlen, by simpa using hij, ?_, ?_⟩
      · simp only [over, List.filter_nil, List.length_nil, Nat.add_zero, List.append_nil]
        rw [List.append_assoc, List.take_append_of_le_length (by rw [List.length_take]; omega), List.take_take, Nat.min_self]
      · have h3 : ((0 : Nat) : Int) + (i : Int) ≤ (((over ws (List.replicate (j - i) []) i).length : Nat) : Int) := by rw [hlen]; omega
        simp only [Bool.and_self, cond_true, d00, d0, Bool.true_and]
        rw [dT h3, cond_true]
        rfl
theorem fnd_ok (n : Nat) (xs : List (List (List UInt8))) (pat : List (List UInt8)) (hq : ∀ p ∈ xs, path_Find_1 n p pat = some (!mns pat p)) (h : xs.length < 9223372036854775807) (hn : xs.length < n) :
    ∃ k ws, slices_DeleteFunc_Lstring_by_path_Find_1 n (xs, 0, xs.length) (pat, ()) = some (k, ws, ()) ∧ k ≤ ws.length ∧ ws.take k = xs.filter (mns pat) := by
  rw [slices_DeleteFunc_Lstring_by_path_Find_1_eq, fnd_ifr n xs pat hq h hn, bind_some2]
  by_cases hi : ixI (fun a => !mns pat a) xs = -1
  · refine ⟨xs.length, xs, by simp [hi], by omega, ?_⟩
    rw [List.take_length]
    symm
    rw [List.filter_eq_self]
    intro x hx
    have := ixI_none hi x hx
    simpa using this
  · obtain ⟨j, hj, h1, h2, h3⟩ := ixI_some hi
    obtain ⟨ws, k1, k2, k3, k4⟩ := fnd_go n pat xs.length h n (j + 1) j xs (fun p hp => hq p (List.mem_of_mem_drop hp)) rfl (by omega) (by omega) (by omega)
    refine ⟨j + ((xs.drop (j + 1)).filter (mns pat)).length, ws, ?_, by omega, ?_⟩
    · rw [hj] at hi ⊢
      simp only [dF hi, cond_false]
      rw [i64_succ (by omega)]
      exact k4
    · rw [k3]
      have e1 : (xs.take j).filter (mns pat) = xs.take j := by
        rw [List.filter_eq_self]
        intro x hx
        have := h3 x hx
        simpa using this
      have e2 : mns pat xs[j] = false := by simpa using h2
      conv => rhs; rw [← List.take_append_drop j xs, List.filter_append, List.drop_eq_getElem_cons h1, List.filter_cons, e2]
      rw [e1]
      rfl

theorem lwd_ifr (n : Nat) (xs : List (List (List UInt8))) (pat : List (List UInt8)) (hq : ∀ p ∈ xs, law2_PathFinds_1 n p pat = some (!mns pat p)) (h : xs.length < 9223372036854775807) (hn : xs.length < n) : slices_IndexFunc_Lstring_by_law2_PathFinds_1 n (xs, 0, xs.length) (pat, ()) = some (ixI (fun a => !mns pat a) xs, xs, ()) := by
  have hf := slices_IndexFunc_Lstring_by_law2_PathFinds_1_l0_fold n 0 xs.length pat xs xs.length h n 0 (Nat.zero_le _) (by omega)
  rw [show ((0 : Nat) : Int) = 0 from rfl] at hf
  rw [slices_IndexFunc_Lstring_by_law2_PathFinds_1_eq]
  refine hf.trans ((foldN_row xs [] (fun i a s K => Option.bind (law2_PathFinds_1 n a pat) fun r1 => bif r1 then some ((i : Int), xs, ()) else K ()) (fun s => some (-1, xs, ())) _ 0 () (by omega)).trans ?_)
  rw [List.drop_zero, foldK_congr (step' := fun i a _ K => bif !mns pat a then some ((i : Int), xs, ()) else K ()) (fin' := fun s => some (-1, xs, ())) (fun _ => rfl) xs 0 () (fun i a s K ha => by rw [hq a ha, bind_some2]), foldK_idxG (fun i : Nat => ((i : Int), xs, ()))]
  unfold ixI
  cases List.findIdx? (fun a => !mns pat a) xs <;> simp
theorem lwd_go (n : Nat) (pat : List (List UInt8)) (N : Nat) (hN : N < 9223372036854775807) : ∀ (m j i : Nat) (ws : List (List (List UInt8))), (∀ p ∈ ws.drop j, law2_PathFinds_1 n p pat = some (!mns pat p)) → ws.length = N → i ≤ j → j ≤ N → N - j < m →
    ∃ ws', ws'.length = N ∧ i + ((ws.drop j).filter (mns pat)).length ≤ N ∧ ws'.take (i + ((ws.drop j).filter (mns pat)).length) = ws.take i ++ (ws.drop j).filter (mns pat) ∧ slices_DeleteFunc_Lstring_by_law2_PathFinds_1_l0 n m 0 N pat (i : Int) (j : Int) ws = some (i + ((ws.drop j).filter (mns pat)).length, ws', ()) := by
  intro m
  induction m with
  | zero => intro j i ws _ _ _ _ h; omega
  | succ m ih =>
    intro j i ws hq hws hij hj hm
    rw [slices_DeleteFunc_Lstring_by_law2_PathFinds_1_l0_eq]
    by_cases h : j < N
    · have hj2 : j < ws.length := by omega
      have hi2 : i < ws.length := by omega
      have hpj := hq ws[j] (by rw [List.drop_eq_getElem_cons hj2]; exact List.mem_cons_self)
      rw [dlt, dT h, d0, Int.toNat_natCast, Nat.zero_add, dT hj2, getD_lt _ hj2, hpj, bind_some2, List.drop_eq_getElem_cons hj2, List.filter_cons]
      simp only [Bool.and_self, cond_true, Bool.not_not]
      have hq' : ∀ p ∈ ws.drop (j + 1), law2_PathFinds_1 n p pat = some (!mns pat p) := fun p hp => hq p (by rw [List.drop_eq_getElem_cons hj2]; exact List.mem_cons_of_mem _ hp)
      cases hk : mns pat ws[j] with
      | false =>
        simp only [cond_false, Bool.false_eq_true, if_false]
        rw [i64_succ (by omega)]
        exact ih (j + 1) i ws hq' hws (by omega) (by omega) (by omega)
      | true =>
        simp only [cond_true, if_true]
        rw [dlt, d0, dT (show i < N by omega), Int.toNat_natCast, Nat.zero_add, dT hi2, i64_succ (by omega), i64_succ (by omega)]
        simp only [Bool.and_self, cond_true]
        obtain ⟨ws', k1, k2, k3, k4⟩ := ih (j + 1) (i + 1) (ws.set i ws[j]) (by rw [List.drop_set, if_pos (by omega)]; exact hq') (by simpa using hws) (by omega) (by omega) (by omega)
        rw [List.drop_set, if_pos (by omega)] at k2 k3 k4
        have e : i + 1 + ((ws.drop (j + 1)).filter (mns pat)).length = i + (ws[j] :: (ws.drop (j + 1)).filter (mns pat)).length := by simp only [List.length_cons]; omega
        rw [e] at k2 k3 k4
        refine ⟨ws', k1, k2, ?_, k4⟩
        rw [k3, List.take_succ_eq_append_getElem (by simpa using hi2), List.getElem_set_self, List.take_set_of_le (Nat.le_refl _), List.append_assoc]
        rfl
    · have hjN : j = N := by omega
      subst hjN
      rw [dlt, dF h, cond_false, d0, dle, dT hij, Int.toNat_natCast, Nat.zero_add, dT (show i + (j - i) ≤ ws.length by omega)]
      have hlen : (over ws (List.replicate (j - i) []) i).length = j := by
        simp only [over, List.length_append, List.length_take, List.length_drop, List.length_replicate]
        omega
      rw [List.drop_eq_nil_of_le (by omega)]
      refine ⟨over ws (List.replicate (j - i) []) i, hlen, by simpa using hij, ?_, ?_⟩
      · simp only [over, List.filter_nil, List.length_nil, Nat.add_zero, List.append_nil]
        rw [List.append_assoc, List.take_append_of_le_length (by rw [List.length_take]; omega), List.take_take, Nat.min_self]
      · have h3 : ((0 : Nat) : Int) + (i : Int) ≤ (((over ws (List.replicate (j - i) []) i).length : Nat) : Int) := by rw [hlen]; omega
        simp only [Bool.and_self, cond_true, d00, d0, Bool.true_and]
        rw [dT h3, cond_true]
        rfl
theorem lwd_ok (n : Nat) (xs : List (List (List UInt8))) (pat : List (List UInt8)) (hq : ∀ p ∈ xs, law2_PathFinds_1 n p pat = some (!mns pat p)) (h : xs.length < 9223372036854775807) (hn : xs.length < n) :
    ∃ k ws, slices_DeleteFunc_Lstring_by_law2_PathFinds_1 n (xs, 0, xs.length) (pat, ()) = some (k, ws, ()) ∧ k ≤ ws.length ∧ ws.take k = xs.filter (mns pat) := by
  rw [slices_DeleteFunc_Lstring_by_law2_PathFinds_1_eq, lwd_ifr n xs pat hq h hn, bind_some2]
  by_cases hi : ixI (fun a => !mns pat a) xs = -1
  · refine ⟨xs.length, xs, by simp [hi], by omega, ?_⟩
    rw [List.take_length]
    symm
    rw [List.filter_eq_self]
    intro x hx
    have := ixI_none hi x hx
    simpa using this
  · obtain ⟨j, hj, h1, h2, h3⟩ := ixI_some hi
    obtain ⟨ws, k1, k2, k3, k4⟩ := lwd_go n pat xs.length h n (j + 1) j xs (fun p hp => hq p (List.mem_of_mem_drop hp)) rfl (by omega) (by omega) (by omega)
    refine ⟨j + ((xs.drop (j + 1)).filter (mns pat)).length, ws, ?_, by omega, ?_⟩
    · rw [hj] at hi ⊢
      simp only [dF hi, cond_false]
      rw [i64_succ (by omega)]
      exact k4
    · rw [k3]
      have e1 : (xs.take j).filter (mns pat) = xs.take j := by
        rw [List.filter_eq_self]
        intro x hx
        have := h3 x hx
        simpa using this
      have e2 : mns pat xs[j] = false := by simpa using h2
      conv => rhs; rw [← List.take_append_drop j xs, List.filter_append, List.drop_eq_getElem_cons h1, List.filter_cons, e2]
      rw [e1]
      rfl

/-! ### The law -/
theorem pths_bound (v : ApiValue) : (pths v).length ≤ vw v ∧ ∀ p ∈ pths v, p.length < vw v := pths_len _ v (Nat.le_refl _)
theorem closed_ok (n : Nat) (hn : 100 < n) : law2_paths n = some true := by
  obtain ⟨c, hc⟩ := Option.isSome_iff_exists.1 (vcheck_some n (ApiValue.mk 8 0 [] [(ApiField.mk [] (ApiValue.mk 0 0 [] [])), (ApiField.mk [] (ApiValue.mk 0 0 [] []))]) (by simp [vw, fw, gw]; omega) (by simp [vw, fw, gw]))
  have hz : c = 0 := by
    obtain ⟨m, rfl⟩ : ∃ m, n = m + 100 := ⟨n - 100, by omega⟩
    have : value_Check (m + 100) (ApiValue.mk 8 0 [] [(ApiField.mk [] (ApiValue.mk 0 0 [] [])), (ApiField.mk [] (ApiValue.mk 0 0 [] []))]) = some 0 := by kernel_rfl
    rw [this] at hc
    exact (Option.some.inj hc).symm
  subst hz
  have hp : pths (ApiValue.mk 8 0 [] [(ApiField.mk [] (ApiValue.mk 0 0 [] [])), (ApiField.mk [] (ApiValue.mk 0 0 [] []))]) = [[], [[48]], [[49]]] := by
    have e0 : Go.Lib.itoa ((0 : Nat) : Int) = [48] := by
      unfold Go.Lib.itoa
      rw [if_neg (by decide), show (((0 : Nat) : Int)).toNat = 0 from rfl, Go.Lib.decDigits_one (by decide)]
      rfl
    have e1 : Go.Lib.itoa ((0 + 1 : Nat) : Int) = [49] := by
      unfold Go.Lib.itoa
      rw [if_neg (by decide), show (((0 + 1 : Nat) : Int)).toNat = 1 from rfl, Go.Lib.decDigits_one (by decide)]
      rfl
    simp only [pths, pthsF, pthsG, nmOf, show decide ((8 : Int) = 8) = true from rfl, cond_true, e0, e1]
    rfl
  have ha := all_ok n _ 0 hc (by simp [vw, fw, gw]; omega) (by simp [vw, fw, gw])
  rw [dT rfl, cond_true, hp] at ha
  rw [law2_paths_eq, ha, bind_some2]
  have h3 := eqs_ok n [[49]] (by decide) (by simp; omega)
  show Option.bind (slices_Equal_string n [[49]] [[49]]) _ = _
  rw [h3, bind_some2]

/-! ### A value's bulk -/
def bV (g : Nat) (v : ApiValue) : Nat := BulkN E g 0 v
def bF (g : Nat) (f : ApiField) : Nat := BulkN E g 1 f
theorem bV_eq (g : Nat) (v : ApiValue) : bV (g + 1) v = 1 + (1 + ((v.S.length + 1) + ((v.Fields.map (bF g)).sum + 1))) := rfl
theorem bF_eq (g : Nat) (f : ApiField) : bF (g + 1) f = (f.Name.length + 1) + bV g f.Val := rfl
theorem vw_bulk : ∀ (k : Nat) (v : ApiValue) (g : Nat), vw v ≤ k → 2 * k ≤ g → vw v + 1 ≤ bV g v
  | 0, v, g, h, _ => by have := vw_eq v; omega
  | k + 1, v, g, h, hg => by
    obtain ⟨g, rfl⟩ : ∃ e, g = e + 2 := ⟨g - 2, by omega⟩
    have key : ∀ l : List ApiField, (∀ f ∈ l, vw f.Val ≤ k) → fw l ≤ (l.map (bF (g + 1))).sum := by
      intro l
      induction l with
      | nil => intro _; simp [fw]
      | cons f l ih =>
        intro hl
        have := ih fun x hx => hl x (by simp [hx])
        have := vw_bulk k f.Val g (hl f (by simp)) (by omega)
        have := gw_eq f
        have e3 := bF_eq g f
        rw [List.map_cons, List.sum_cons]
        simp only [fw]
        omega
    have := key v.Fields fun f hf => by have := (vw_lt hf).1; omega
    have := vw_eq v
    have : bV (g + 2) v = _ := bV_eq (g + 1) v
    omega

theorem find_ok (n : Nat) (v : ApiValue) (pat : List (List UInt8)) (ys : List (List (List UInt8))) (ha : path_All n v = some ys) (hl : ys.length < 4294967295) (hn : ys.length < n) (hp : ∀ p ∈ ys, p.length < 4294967295 ∧ p.length + 1 < n) (hq : pat.length < 9223372036854775807) (hqn : pat.length < n) :
    path_Find n v pat = some (ys.filter (mns pat)) := by
  obtain ⟨k, ws, k1, k2, k3⟩ := fnd_ok n ys pat (fun p h => by rw [path_Find_1_eq, matches_ok n pat p (hp p h).1 (hp p h).2 hq hqn]; rfl) (by omega) hn
  rw [path_Find_eq, ha, bind_some2, k1, bind_some2, dT k2, cond_true, dT (show 0 + k ≤ ws.length by omega), Bool.and_true, cond_true, k3]
theorem law_ok (x0 : ApiValue) (x1 x2 : List (List UInt8)) (h0 : ∀ g, Fv.Good E g (.nm 0) x0) (h1 : ∀ g, Fv.Good E g (.sl .str) x1) (h2 : ∀ g, Fv.Good E g (.sl .str) x2)
    (hb : ∀ g, Bulk E g (.nm 0) x0 + Bulk E g (.sl .str) x1 + Bulk E g (.sl .str) x2 ≤ 1048576) : ∃ n, law2_PathFinds n x0 x1 x2 = some true := by
  have hv : vw x0 ≤ 1048576 := by
    have h := hb (2 * vw x0)
    have h5 : Bulk E (2 * vw x0) (.nm 0) x0 = bV (2 * vw x0) x0 := rfl
    have := vw_bulk (vw x0) x0 (2 * vw x0) (Nat.le_refl _) (Nat.le_refl _)
    omega
  have hsl : ∀ x : List (List UInt8), x.length ≤ Bulk E 1 (.sl .str) x := fun x => by
    have h5 : Bulk E 1 (.sl .str) x = (x.map fun s => s.length + 1).sum + 1 := rfl
    have := sum_gm (fun s : List UInt8 => s.length + 1) x (fun _ _ => by omega)
    omega
  have hs1 : x1.length ≤ 1048576 := by have := hb 1; have := hsl x1; omega
  have hs2 : x2.length ≤ 1048576 := by have := hb 1; have := hsl x2; omega
  obtain ⟨n, hn0, hn1, hn2⟩ : ∃ n, vw x0 + 200 ≤ n ∧ x1.length + 20 ≤ n ∧ x2.length + 20 ≤ n := ⟨vw x0 + x1.length + x2.length + 200, by omega, by omega, by omega⟩
  refine ⟨n, ?_⟩
  obtain ⟨c, hc⟩ := Option.isSome_iff_exists.1 (vcheck_some n x0 (by omega) (Nat.lt_of_le_of_lt hv (by decide)))
  have ha := all_ok n x0 c hc (by omega) (by omega)
  have hcl := closed_ok n (by omega)
  have hm := matches_ok n x1 x2 (by omega) (by omega) (by omega) (by omega)
  have hr := means_ok n x1 x2 (by omega) (by omega) (by omega) (by omega)
  have rest : ∀ ys : List (List (List UInt8)), path_All n x0 = some ys → ys.length ≤ vw x0 → (∀ p ∈ ys, p.length < vw x0) →
      (ref2_SamePaths n (ys, 0, ys.length) (ys, 0, ys.length) = some (true, ys, ys, ())) ∧ path_Find n x0 x1 = some (ys.filter (mns x1)) ∧
      ∃ k ws, slices_DeleteFunc_Lstring_by_law2_PathFinds_1 n (ys, 0, ys.length) (x1, ()) = some (k, ws, ()) ∧ k ≤ ws.length ∧ ref2_SamePaths_2 n (ys.filter (mns x1)) (ws, 0, k) = some (true, ws, ()) := by
    intro ys hy hl hp
    refine ⟨same1_ok n ys (by omega) (by omega) (fun p h => by have := hp p h; omega), find_ok n x0 x1 ys hy (by omega) (by omega) (fun p h => by have := hp p h; omega) (by omega) (by omega), ?_⟩
    obtain ⟨k, ws, k1, k2, k3⟩ := lwd_ok n ys x1 (fun p h => by have := hp p h; rw [law2_PathFinds_1_eq, means_ok n x1 p (by omega) (by omega) (by omega) (by omega)]; rfl) (by omega) (by omega)
    have hfl := List.length_filter_le (mns x1) ys
    exact ⟨k, ws, k1, k2, same2_ok n _ ws k k2 k3.symm (by omega) (by omega) (fun p h => by have := hp p (List.mem_filter.1 h).1; omega)⟩
  obtain ⟨hl, hp⟩ := pths_bound x0
  rw [law2_PathFinds_eq, hc, bind_some2]
  cases hcz : decide (c = 0) with
  | true =>
    rw [hcz, cond_true] at ha
    obtain ⟨r1, r2, k, ws, r3, r4, r5⟩ := rest (pths x0) ha hl hp
    rw [cond_true, paths_ok n n x0 (by omega) (by omega) (by omega), bind_some2, hcl, bind_some2, Bool.not_true, cond_false, ha, bind_some2, r1, bind_some2]
    simp only [Bool.not_true, cond_false]
    rw [hm, bind_some2, hr, bind_some2, beq_self_eq_true, Bool.not_true, cond_false, r2, bind_some2, r3, bind_some2]
    simp only [dT r4, cond_true]
    rw [r5, bind_some2]
  | false =>
    rw [hcz, cond_false] at ha
    obtain ⟨r1, r2, k, ws, r3, r4, r5⟩ := rest [] ha (Nat.zero_le _) (fun p h => nomatch h)
    rw [cond_false, hcl, bind_some2, Bool.not_true, cond_false, ha, bind_some2, show ref2_SamePaths n ([], 0, List.length ([] : List (List (List UInt8)))) ([], 0, 0) = some (true, [], [], ()) from r1, bind_some2]
    simp only [Bool.not_true, cond_false]
    rw [hm, bind_some2, hr, bind_some2, beq_self_eq_true, Bool.not_true, cond_false, r2, bind_some2, show slices_DeleteFunc_Lstring_by_law2_PathFinds_1 n ([], 0, 0) (x1, ()) = some (k, ws, ()) from r3, bind_some2]
    simp only [dT r4, cond_true]
    rw [r5, bind_some2]
end Go.Proofs.YtbmpjppfdeohnaaDoor.PPathFinds
