/- The plain law LoadScalars. No condition. -/
import Derived.Test.YtbmpjppfdeohnaaDoorFnLoadScalars
-- UPTO
set_option linter.unusedVariables false
set_option linter.unusedSimpArgs false
namespace Go.Proofs.YtbmpjppfdeohnaaDoor.PLoadScalars
open Go Go.Proofs Go.Proofs.YtbmpjppfdeohnaaDoor.Fv


/-! ### Values: a measure, and an induction -/
mutual
def vw : ApiValue → Nat
  | ⟨_, _, s, fs⟩ => fw fs + s.length + 1
def fw : List ApiField → Nat
  | [] => 0
  | f :: r => gw f + fw r
def gw : ApiField → Nat
  | ⟨nm, v⟩ => nm.length + 1 + vw v
end
theorem vw_eq (v : ApiValue) : vw v = fw v.Fields + v.S.length + 1 := by cases v; simp [vw]
theorem gw_eq (f : ApiField) : gw f = f.Name.length + 1 + vw f.Val := by cases f; simp [gw]
theorem fw_mem {f : ApiField} : ∀ {l : List ApiField}, f ∈ l → gw f ≤ fw l
  | [], h => by simp at h
  | g :: l, h => by
    simp only [fw]
    rcases List.mem_cons.1 h with rfl | h
    · omega
    · have := fw_mem h; omega
theorem fw_len : ∀ l : List ApiField, l.length ≤ fw l
  | [] => by simp [fw]
  | f :: l => by have := fw_len l; have := gw_eq f; simp only [fw, List.length_cons]; omega
theorem vw_lt {v : ApiValue} {f : ApiField} (h : f ∈ v.Fields) : vw f.Val < vw v ∧ f.Name.length < vw v := by
  have h1 := fw_mem h
  have h2 := gw_eq f
  have h3 := vw_eq v
  omega
theorem vw_len (v : ApiValue) : v.Fields.length < vw v ∧ v.S.length < vw v := by
  have := fw_len v.Fields
  have := vw_eq v
  omega
theorem val_ind {P : ApiValue → Prop} (h : ∀ v : ApiValue, (∀ f ∈ v.Fields, P f.Val) → P v) : ∀ v, P v := by
  have key : ∀ (k : Nat) (v : ApiValue), vw v ≤ k → P v := by
    intro k
    induction k with
    | zero => intro v hv; have := vw_eq v; omega
    | succ k ih => exact fun v hv => h v fun f hf => ih f.Val (by have := (vw_lt hf).1; omega)
  exact fun v => key _ v (Nat.le_refl _)

/-! ### Loops that answer -/
theorem foldK_some {A S R : Type} (v : List A) {step : Nat → A → S → (S → Option R) → Option R} {fin : S → Option R}
    (h : ∀ i (hi : i < v.length) s K, (∀ s', (K s').isSome = true) → (step i v[i] s K).isSome = true) (hf : ∀ s, (fin s).isSome = true) :
    ∀ (c i : Nat), c = v.length - i → i ≤ v.length → ∀ s, (foldK step fin (v.drop i) i s).isSome = true := by
  intro c
  induction c with
  | zero =>
    intro i hc hi s
    rw [List.drop_eq_nil_of_le (by omega)]
    exact hf s
  | succ c ih =>
    intro i hc hi s
    rw [List.drop_eq_getElem_cons (by omega : i < v.length), foldK_cons]
    exact h i (by omega) s _ fun s' => ih (i + 1) (by omega) (by omega) s'
theorem foldK_par {A S S' R : Type} (v : List A) {step : Nat → A → S → (S → Option R) → Option R} {fin : S → Option R} {step' : Nat → A → S' → (S' → Option R) → Option R} {fin' : S' → Option R} (I : Nat → S → S' → Prop)
    (h : ∀ i (hi : i < v.length) s s' K K', I i s s' → (∀ t t', I (i + 1) t t' → K t = K' t') → step i v[i] s K = step' i v[i] s' K') (hf : ∀ s s', I v.length s s' → fin s = fin' s') :
    ∀ (c i : Nat), c = v.length - i → i ≤ v.length → ∀ s s', I i s s' → foldK step fin (v.drop i) i s = foldK step' fin' (v.drop i) i s' := by
  intro c
  induction c with
  | zero =>
    intro i hc hi s s' hI
    rw [List.drop_eq_nil_of_le (by omega)]
    exact hf s s' (by rwa [show v.length = i by omega])
  | succ c ih =>
    intro i hc hi s s' hI
    rw [List.drop_eq_getElem_cons (by omega : i < v.length), foldK_cons, foldK_cons]
    exact h i (by omega) s s' _ _ hI fun t t' ht => ih (i + 1) (by omega) (by omega) t t' ht
/-- A loop ends early, or each of its rounds went on. -/
theorem foldK_case {A S R : Type} (v : List A) {step : Nat → A → S → (S → Option R) → Option R} {fin : S → Option R} (I : Nat → S → Prop) (Q : Option R → Prop)
    (h : ∀ i (hi : i < v.length) s, I i s → (∃ e, Q e ∧ ∀ K, step i v[i] s K = e) ∨ ∃ s', I (i + 1) s' ∧ ∀ K, step i v[i] s K = K s') (hf : ∀ s, I v.length s → Q (fin s)) :
    ∀ (c i : Nat), c = v.length - i → i ≤ v.length → ∀ s, I i s → Q (foldK step fin (v.drop i) i s) := by
  intro c
  induction c with
  | zero =>
    intro i hc hi s hI
    rw [List.drop_eq_nil_of_le (by omega)]
    exact hf s (by rwa [show v.length = i by omega])
  | succ c ih =>
    intro i hc hi s hI
    rw [List.drop_eq_getElem_cons (by omega : i < v.length), foldK_cons]
    rcases h i (by omega) s hI with ⟨e, h1, h2⟩ | ⟨s', h1, h2⟩
    · rw [h2]; exact h1
    · rw [h2]; exact ih (i + 1) (by omega) (by omega) s' h1
theorem bind_some {α β : Type} {o : Option α} {f : α → Option β} (h : o.isSome = true) (hf : ∀ a, (f a).isSome = true) : (o.bind f).isSome = true := by
  obtain ⟨a, rfl⟩ := Option.isSome_iff_exists.1 h
  exact hf a
theorem cond_some {β : Type} {c : Bool} {a b : Option β} (ha : c = true → a.isSome = true) (hb : c = false → b.isSome = true) : (bif c then a else b).isSome = true := by
  cases c
  · exact hb rfl
  · exact ha rfl
theorem inR {i n : Nat} (h : i < n) : (decide (0 ≤ (i : Int)) && decide ((i : Int) < (n : Int))) = true := by
  simp only [Bool.and_eq_true, decide_eq_true_eq]; omega
theorem inR' {i n : Nat} (h : i ≤ n) : (decide (0 ≤ (i : Int)) && decide ((i : Int) ≤ (n : Int))) = true := by
  simp only [Bool.and_eq_true, decide_eq_true_eq]; omega
theorem inP {i n : Nat} (h0 : 0 < i) (h : i < n) (hn : n < 9223372036854775807) : (decide (0 ≤ (IntKind.wrap .i64 ((i : Int) - 1))) && decide ((IntKind.wrap .i64 ((i : Int) - 1)) < (n : Int))) = true ∧ Int.toNat (IntKind.wrap .i64 ((i : Int) - 1)) = i - 1 := by
  have e : IntKind.wrap .i64 ((i : Int) - 1) = ((i - 1 : Nat) : Int) := by
    rw [show (i : Int) - 1 = ((i - 1 + 1 : Nat) : Int) - 1 by omega]
    exact i64_pred (by omega)
  rw [e]
  exact ⟨inR (by omega), by simp⟩

/-! ### What answers on a value -/
theorem vname_some (n : Nat) (s : List UInt8) (hn : s.length < n) : (value_Name n s).isSome = true := by
  rw [value_Name_eq]
  refine cond_some (fun _ => rfl) fun h0 => cond_some (fun _ => rfl) fun h1 => ?_
  have hne : 0 < s.length := by
    cases s with
    | nil => cases h0
    | cons a l => simp
  have hle : s.length ≤ 16 := by have := of_decide_eq_false h1; omega
  have hr : (decide (0 ≤ (0 : Int)) && decide ((0 : Int) < (s.length : Int))) = true := by simp; omega
  rw [hr]
  refine cond_some (fun _ => cond_some (fun _ => rfl) fun _ => cond_some (fun _ => cond_some (fun _ => rfl) fun _ => ?_) fun h => by cases h) fun h => by cases h
  have hli : (ints s).length = s.length := by simp [ints]
  have := value_Name_l0_fold n (ints s) (by omega) n 0 (by omega) (by omega)
  rw [show ((0 : Nat) : Int) = 0 from rfl] at this
  rw [this]
  refine foldK_some _ (fun i hi s K hK => ?_) (fun _ => rfl) _ 0 rfl (Nat.zero_le _) _
  repeat' first | with_reducible exact hK _ | with_reducible exact Option.isSome_some | with_reducible refine cond_some (fun _ => ?_) fun _ => ?_
theorem vsize_some (n : Nat) : ∀ (d : Nat) (v : ApiValue), vw v ≤ d → vw v < n → vw v < 9223372036854775807 → (value_Size d n v).isSome = true
  | 0, v, h, _, _ => by have := vw_eq v; omega
  | d + 1, v, h, hn, hm => by
    rw [value_Size_eq]
    have hl := (vw_len v).1
    have := value_Size_l0_fold d n v.Fields 1 (by omega) n 0 (by omega) (by omega)
    rw [show ((0 : Nat) : Int) = 0 from rfl] at this
    rw [this]
    refine foldK_some _ (fun i hi s K hK => ?_) (fun _ => rfl) _ 0 rfl (Nat.zero_le _) _
    have := vw_lt (List.getElem_mem hi)
    exact bind_some (vsize_some n d _ (by omega) (by omega) (by omega)) fun r => hK _
theorem vdeep_some (n : Nat) : ∀ (d : Nat) (v : ApiValue), vw v ≤ d → vw v < n → vw v < 9223372036854775807 → (value_Deep d n v).isSome = true
  | 0, v, h, _, _ => by have := vw_eq v; omega
  | d + 1, v, h, hn, hm => by
    rw [value_Deep_eq]
    have hl := (vw_len v).1
    have := value_Deep_l0_fold d n v.Fields 0 (by omega) n 0 (by omega) (by omega)
    rw [show ((0 : Nat) : Int) = 0 from rfl] at this
    rw [this]
    refine foldK_some _ (fun i hi s K hK => ?_) (fun _ => rfl) _ 0 rfl (Nat.zero_le _) _
    have := vw_lt (List.getElem_mem hi)
    exact bind_some (vdeep_some n d _ (by omega) (by omega) (by omega)) fun r => hK _
theorem scalar_some (n : Nat) (k : Int) : (value_Scalar n k).isSome = true := by
  rw [value_Scalar_eq]
  repeat' first | with_reducible exact Option.isSome_some | with_reducible refine cond_some (fun _ => ?_) fun _ => ?_
theorem unused_some (n : Nat) (v : ApiValue) : (value_unused n v).isSome = true := by
  rw [value_unused_eq]
  repeat' first | with_reducible exact Option.isSome_some | (with_reducible refine bind_some (scalar_some n _) fun _ => ?_) | with_reducible refine cond_some (fun _ => ?_) fun _ => ?_
theorem number_some (n : Nat) (v : ApiValue) : (value_number n v).isSome = true := by
  rw [value_number_eq]
  repeat' first | with_reducible exact Option.isSome_some | with_reducible refine cond_some (fun _ => ?_) fun _ => ?_
theorem fidx_some (n : Nat) (l : List ApiField) (f : ApiField) (hl : l.length < 9223372036854775807) (hn : l.length < n) : (slices_ContainsFunc_Field_by_value_names_1 n l (f, ())).isSome = true := by
  rw [slices_ContainsFunc_Field_by_value_names_1_eq, slices_IndexFunc_Field_by_value_names_1_eq]
  refine bind_some ?_ fun _ => rfl
  have := slices_IndexFunc_Field_by_value_names_1_l0_fold n l f hl n 0 (by omega) (by omega)
  rw [show ((0 : Nat) : Int) = 0 from rfl] at this
  rw [this]
  refine foldK_some _ (fun i hi s K hK => ?_) (fun _ => rfl) _ 0 rfl (Nat.zero_le _) _
  rw [value_names_1_eq]
  exact bind_some rfl fun _ => cond_some (fun _ => rfl) fun _ => hK _
theorem names_some (n : Nat) (v : ApiValue) (hn : vw v < n) (hm : vw v < 9223372036854775807) : (value_names n v.Fields).isSome = true := by
  have hl := (vw_len v).1
  rw [value_names_eq]
  have := value_names_l0_fold n v.Fields v.Fields (by omega) n 0 (by omega) (by omega)
  rw [show ((0 : Nat) : Int) = 0 from rfl] at this
  rw [this]
  refine foldK_some _ (fun i hi s K hK => ?_) (fun _ => rfl) _ 0 rfl (Nat.zero_le _) _
  have := vw_lt (List.getElem_mem hi)
  refine bind_some (vname_some n _ (by omega)) fun r => cond_some (fun _ => rfl) fun _ => ?_
  rw [inR' (by omega : i ≤ v.Fields.length)]
  exact bind_some (fidx_some n _ _ (by simp; omega) (by simp; omega)) fun _ => cond_some (fun _ => rfl) fun _ => hK _
theorem keys_some (n : Nat) (v : ApiValue) (hn : vw v < n) (hm : vw v < 9223372036854775807) : (value_keys n v).isSome = true := by
  have hl := (vw_len v).1
  rw [value_keys_eq]
  have := value_keys_l0_fold n v.Fields v (by omega) n 0 (by omega) (by omega)
  rw [show ((0 : Nat) : Int) = 0 from rfl] at this
  rw [this]
  refine foldK_some _ (fun i hi s K hK => ?_) (fun _ => rfl) _ 0 rfl (Nat.zero_le _) _
  have key : 0 < i → (decide (0 ≤ (IntKind.wrap .i64 ((i : Int) - 1))) && decide ((IntKind.wrap .i64 ((i : Int) - 1)) < (v.Fields.length : Int))) = true := fun h => (inP h (by omega) (by omega)).1
  repeat' first | with_reducible exact hK _ | with_reducible exact Option.isSome_some | exact absurd ((key (by have h := of_decide_eq_true ‹decide ((i : Int) > 0) = true›; omega)).symm.trans ‹(decide (0 ≤ IntKind.wrap .i64 ((i : Int) - 1)) && decide (IntKind.wrap .i64 ((i : Int) - 1) < (v.Fields.length : Int))) = false›) (by decide) | with_reducible refine cond_some (fun _ => ?_) fun _ => ?_
theorem fields_some (n : Nat) (v : ApiValue) (hn : vw v < n) (hm : vw v < 9223372036854775807) : (value_fields n v).isSome = true := by
  rw [value_fields_eq]
  repeat' first | with_reducible exact Option.isSome_some | (with_reducible refine bind_some (names_some n v hn hm) fun _ => ?_) | (with_reducible refine bind_some (keys_some n v hn hm) fun _ => ?_) | with_reducible refine cond_some (fun _ => ?_) fun _ => ?_
theorem node_some (n : Nat) : ∀ (d : Nat) (v : ApiValue) (b : Bool), vw v ≤ d → vw v < n → vw v < 9223372036854775807 → (value_node d n v b).isSome = true
  | 0, v, b, h, _, _ => by have := vw_eq v; omega
  | d + 1, v, b, h, hn, hm => by
    have hl := (vw_len v).1
    have hloop : (value_node_l1 (d + 1) n n v.Fields (List.length v.Fields : Int) 0).isSome = true := by
      have := value_node_l1_fold d n v.Fields (by omega) n 0 (by omega) (by omega)
      rw [show ((0 : Nat) : Int) = 0 from rfl] at this
      rw [this]
      refine foldK_some _ (fun i hi s K hK => ?_) (fun _ => rfl) _ 0 rfl (Nat.zero_le _) _
      have := vw_lt (List.getElem_mem hi)
      exact bind_some (node_some n d _ _ (by omega) (by omega) (by omega)) fun r => cond_some (fun _ => rfl) fun _ => hK _
    rw [value_node_eq]
    repeat' first | with_reducible exact Option.isSome_some | with_reducible exact hloop | (with_reducible refine bind_some (unused_some n v) fun _ => ?_) | (with_reducible refine bind_some (number_some n v) fun _ => ?_) | (with_reducible refine bind_some (fields_some n v hn hm) fun _ => ?_) | with_reducible refine cond_some (fun _ => ?_) fun _ => ?_
theorem vcheck_some (n : Nat) (v : ApiValue) (hn : vw v < n) (hm : vw v < 9223372036854775807) : (value_Check n v).isSome = true := by
  rw [value_Check_eq]
  refine bind_some (vsize_some n n v (by omega) hn hm) fun _ => cond_some (fun _ => rfl) fun _ => bind_some (vdeep_some n n v (by omega) hn hm) fun _ => cond_some (fun _ => rfl) fun _ => bind_some (node_some n n v true (by omega) hn hm) fun _ => rfl

/-! ### The order of values -/
def icmp (x y : Int) : Int := bif decide (x < y) then -1 else bif decide (x > y) then 1 else 0
def or2 (a b : Int) : Int := bif !decide (a = 0) then a else b
def Tr3 (x y z : Int) : Prop := (x ≤ 0 → y ≤ 0 → z ≤ 0) ∧ (x ≤ 0 → y ≤ 0 → z = 0 → x = 0 ∧ y = 0) ∧ (x = 0 → y = 0 → z = 0)
theorem icmp_val (x y : Int) : (x < y ∧ icmp x y = -1) ∨ (x = y ∧ icmp x y = 0) ∨ (y < x ∧ icmp x y = 1) := by
  unfold icmp
  rcases Int.lt_trichotomy x y with h | h | h
  · exact .inl ⟨h, by simp [h]⟩
  · exact .inr (.inl ⟨h, by simp [h]⟩)
  · exact .inr (.inr ⟨h, by rw [decide_eq_false (by omega), decide_eq_true h]; rfl⟩)
theorem icmp_anti (x y : Int) : icmp y x = -icmp x y := by
  rcases icmp_val x y with ⟨h, e⟩ | ⟨h, e⟩ | ⟨h, e⟩ <;> rcases icmp_val y x with ⟨h', e'⟩ | ⟨h', e'⟩ | ⟨h', e'⟩ <;> omega
theorem icmp_tr (x y z : Int) : Tr3 (icmp x y) (icmp y z) (icmp x z) := by
  rcases icmp_val x y with ⟨h, e⟩ | ⟨h, e⟩ | ⟨h, e⟩ <;> rcases icmp_val y z with ⟨h', e'⟩ | ⟨h', e'⟩ | ⟨h', e'⟩ <;> rcases icmp_val x z with ⟨h2, e2⟩ | ⟨h2, e2⟩ | ⟨h2, e2⟩ <;>
    rw [e, e', e2] <;> refine ⟨?_, ?_, ?_⟩ <;> intros <;> first | omega | (refine ⟨?_, ?_⟩ <;> omega)
theorem or2_val (a b : Int) : (a ≠ 0 ∧ or2 a b = a) ∨ (a = 0 ∧ or2 a b = b) := by
  unfold or2
  by_cases h : a = 0
  · exact .inr ⟨h, by simp [h]⟩
  · exact .inl ⟨h, by simp [h]⟩
theorem or2_neg {a b a' b' : Int} (h : a' = -a) (h' : b' = -b) : or2 a' b' = -or2 a b := by
  rcases or2_val a b with ⟨h1, e⟩ | ⟨h1, e⟩ <;> rcases or2_val a' b' with ⟨h2, e'⟩ | ⟨h2, e'⟩ <;> omega
theorem or2_tr {x y z x' y' z' : Int} (h : Tr3 x y z) (h' : Tr3 x' y' z') : Tr3 (or2 x x') (or2 y y') (or2 z z') := by
  obtain ⟨a1, a2, a3⟩ := h
  obtain ⟨b1, b2, b3⟩ := h'
  rcases or2_val x x' with ⟨h1, e1⟩ | ⟨h1, e1⟩ <;> rcases or2_val y y' with ⟨h2, e2⟩ | ⟨h2, e2⟩ <;> rcases or2_val z z' with ⟨h3, e3⟩ | ⟨h3, e3⟩ <;>
    rw [e1, e2, e3] <;> refine ⟨?_, ?_, ?_⟩ <;> intros <;> first | omega | (refine ⟨?_, ?_⟩ <;> omega)
theorem cb_anti : ∀ a b : List UInt8, Go.Lib.compareBytes b a = -Go.Lib.compareBytes a b
  | [], [] => rfl
  | [], _ :: _ => rfl
  | _ :: _, [] => rfl
  | a :: xs, b :: ys => by
    simp only [Go.Lib.compareBytes]
    have := cb_anti xs ys
    by_cases h : a < b
    · have h2 : ¬ b < a := by rw [UInt8.lt_iff_toNat_lt] at h ⊢; omega
      rw [if_pos h, if_neg h2, if_pos h]; rfl
    · by_cases h2 : b < a
      · rw [if_pos h2, if_neg h, if_pos h2]
      · rw [if_neg h, if_neg h2, if_neg h2, if_neg h]; exact this
theorem cb_tr : ∀ a b c : List UInt8, Tr3 (Go.Lib.compareBytes a b) (Go.Lib.compareBytes b c) (Go.Lib.compareBytes a c)
  | [], [], [] => by simp [Go.Lib.compareBytes, Tr3]
  | [], [], _ :: _ => by simp [Go.Lib.compareBytes, Tr3]
  | [], _ :: _, [] => by simp [Go.Lib.compareBytes, Tr3]
  | [], _ :: _, _ :: _ => by simp [Go.Lib.compareBytes, Tr3]
  | _ :: _, [], [] => by simp [Go.Lib.compareBytes, Tr3]
  | _ :: _, [], _ :: _ => by simp [Go.Lib.compareBytes, Tr3]
  | _ :: _, _ :: _, [] => by simp [Go.Lib.compareBytes, Tr3]
  | a :: xs, b :: ys, c :: zs => by
    have ih := cb_tr xs ys zs
    have key : ∀ (a b : UInt8) (r : Int), (if a < b then (-1 : Int) else if b < a then 1 else r) = or2 (icmp a.toNat b.toNat) r := by
      intro a b r
      rcases icmp_val a.toNat b.toNat with ⟨h, e⟩ | ⟨h, e⟩ | ⟨h, e⟩
      · rw [if_pos (by rw [UInt8.lt_iff_toNat_lt]; omega), e]; rfl
      · rw [if_neg (by rw [UInt8.lt_iff_toNat_lt]; omega), if_neg (by rw [UInt8.lt_iff_toNat_lt]; omega), e]; rfl
      · rw [if_neg (by rw [UInt8.lt_iff_toNat_lt]; omega), if_pos (by rw [UInt8.lt_iff_toNat_lt]; omega), e]; rfl
    simp only [Go.Lib.compareBytes, key]
    exact or2_tr (icmp_tr _ _ _) ih

def ordF (x : Int) : Int := bif decide (x < 0) then IntKind.wrap .i64 ((-1 : Int) - (Fv.bits .and .i64 x 9223372036854775807)) else x
def keyN (v : ApiValue) : Int := bif decide (v.Kind = 3) then ordF v.N else v.N
mutual
def vcmp : ApiValue → ApiValue → Int
  | ⟨k, x, s, fs⟩, w => or2 (or2 (icmp k w.Kind) (or2 (icmp (bif decide (k = 3) then ordF x else x) (bif decide (k = 3) then ordF w.N else w.N)) (Go.Lib.compareBytes s w.S))) (fcmp fs w.Fields)
def fcmp : List ApiField → List ApiField → Int
  | [], l => bif l.isEmpty then 0 else -1
  | f :: r, l => match l with
    | [] => 1
    | g :: t => or2 (gcmp f g) (fcmp r t)
def gcmp : ApiField → ApiField → Int
  | ⟨nm, v⟩, g => or2 (Go.Lib.compareBytes nm g.Name) (vcmp v g.Val)
end
theorem vcmp_eq (v w : ApiValue) : vcmp v w = or2 (or2 (icmp v.Kind w.Kind) (or2 (icmp (bif decide (v.Kind = 3) then ordF v.N else v.N) (bif decide (v.Kind = 3) then ordF w.N else w.N)) (Go.Lib.compareBytes v.S w.S))) (fcmp v.Fields w.Fields) := by cases v; simp only [vcmp]
theorem gcmp_eq (f g : ApiField) : gcmp f g = or2 (Go.Lib.compareBytes f.Name g.Name) (vcmp f.Val g.Val) := by cases f; simp only [gcmp]
/-- The number by the kind of the one that has it. -/
theorem vcmp_key (v w : ApiValue) : vcmp v w = or2 (icmp v.Kind w.Kind) (or2 (or2 (icmp (keyN v) (keyN w)) (Go.Lib.compareBytes v.S w.S)) (fcmp v.Fields w.Fields)) := by
  rw [vcmp_eq]
  rcases icmp_val v.Kind w.Kind with ⟨h, e⟩ | ⟨h, e⟩ | ⟨h, e⟩
  · rw [e]; rfl
  · rw [e]
    unfold keyN
    rw [h]
    rfl
  · rw [e]; rfl
theorem vcmp_anti : ∀ v w : ApiValue, vcmp w v = -vcmp v w := by
  intro v
  refine val_ind (P := fun v => ∀ w, vcmp w v = -vcmp v w) (fun v ih w => ?_) v
  rw [vcmp_key v w, vcmp_key w v]
  refine or2_neg (icmp_anti _ _) (or2_neg (or2_neg (icmp_anti _ _) (cb_anti _ _)) ?_)
  have key : ∀ (l m : List ApiField), (∀ f ∈ l, ∀ w, vcmp w f.Val = -vcmp f.Val w) → fcmp m l = -fcmp l m := by
    intro l
    induction l with
    | nil => intro m _; cases m <;> simp [fcmp]
    | cons f l ihl =>
      intro m h
      cases m with
      | nil => simp [fcmp]
      | cons g m =>
        simp only [fcmp]
        refine or2_neg ?_ (ihl m fun x hx => h x (by simp [hx]))
        rw [gcmp_eq, gcmp_eq]
        exact or2_neg (cb_anti _ _) (h f (by simp) _)
  exact key _ _ ih
theorem vcmp_tr : ∀ v w x : ApiValue, Tr3 (vcmp v w) (vcmp w x) (vcmp v x) := by
  intro v
  refine val_ind (P := fun v => ∀ w x, Tr3 (vcmp v w) (vcmp w x) (vcmp v x)) (fun v ih w x => ?_) v
  rw [vcmp_key v w, vcmp_key w x, vcmp_key v x]
  refine or2_tr (icmp_tr _ _ _) (or2_tr (or2_tr (icmp_tr _ _ _) (cb_tr _ _ _)) ?_)
  have key : ∀ (l m p : List ApiField), (∀ f ∈ l, ∀ w x, Tr3 (vcmp f.Val w) (vcmp w x) (vcmp f.Val x)) → Tr3 (fcmp l m) (fcmp m p) (fcmp l p) := by
    intro l
    induction l with
    | nil => intro m p _; cases m <;> cases p <;> simp [fcmp, Tr3]
    | cons f l ihl =>
      intro m p h
      cases m with
      | nil => cases p <;> simp [fcmp, Tr3]
      | cons g m =>
        cases p with
        | nil => simp [fcmp, Tr3]
        | cons q p =>
          simp only [fcmp]
          refine or2_tr ?_ (ihl m p fun x hx => h x (by simp [hx]))
          rw [gcmp_eq, gcmp_eq, gcmp_eq]
          exact or2_tr (cb_tr _ _ _) (h f (by simp) _ _)
  exact key _ _ _ ih
theorem vcmp_refl (v : ApiValue) : vcmp v v = 0 := by have := vcmp_anti v v; omega

/-! ### The program's comparison -/
theorem compare_ok (n : Nat) (x y : Int) : cmp_Compare_int n x y = some (icmp x y) := by
  rw [cmp_Compare_int_eq, cmp_isNaN_int_eq, cmp_isNaN_int_eq]
  simp only [Option.bind_some, decide_true, Bool.not_true, cond_false]
  unfold icmp
  cases decide (x < y) <;> cases decide (x > y) <;> rfl
theorem or2_opt (a b : Int) : (bif !decide (a = 0) then some a else some b) = some (or2 a b) := by
  unfold or2
  cases decide (a = 0) <;> rfl
theorem or_ok (n : Nat) : ∀ l : List Int, l.length < n → l.length < 9223372036854775807 → cmp_Or_int n l = some (l.foldr or2 0) := by
  intro l hn hl
  rw [cmp_Or_int_eq]
  have := cmp_Or_int_l0_fold n 0 l hl n 0 (by omega) (by omega)
  rw [show ((0 : Nat) : Int) = 0 from rfl] at this
  rw [this, List.drop_zero]
  have key : ∀ (l : List Int) (i : Nat), foldK (S := Unit) (fun i (a : Int) s K => (bif (!decide (a = 0)) then (some a) else (K ()))) (fun s => (some (0 : Int))) l i () = some (l.foldr or2 0) := by
    intro l
    induction l with
    | nil => intro i; rfl
    | cons a l ih =>
      intro i
      rw [foldK_cons]
      dsimp only
      rw [ih, List.foldr_cons]
      exact or2_opt _ _
  exact key l 0
theorem or2_zero (a : Int) : or2 a 0 = a := by rcases or2_val a 0 with ⟨_, e⟩ | ⟨h, e⟩ <;> omega
theorem bind_ret {α : Type} (o : Option α) : (o.bind fun r => some r) = o := by cases o <;> rfl
theorem vcmp_ok (n : Nat) (hn3 : 3 < n) : ∀ (k : Nat) (v w : ApiValue) (d : Nat), vw v ≤ k → 3 * vw v ≤ d → vw v < n → vw v < 9223372036854775807 → value_Cmp d n v w = some (vcmp v w)
  | 0, v, w, d, h, _, _, _ => by have := vw_eq v; omega
  | k + 1, v, w, d, h, hd, hn, hm => by
    have hl := (vw_len v).1
    have hv0 := vw_eq v
    obtain ⟨d, rfl⟩ : ∃ e, d = e + 3 := ⟨d - 3, by omega⟩
    have hfun : slices_CompareFunc_Field_by_value_Cmp_1 (d + 2) n v.Fields w.Fields () = some (fcmp v.Fields w.Fields) := by
      rw [slices_CompareFunc_Field_by_value_Cmp_1_eq]
      have := slices_CompareFunc_Field_by_value_Cmp_1_l0_fold (d + 1) n v.Fields w.Fields v.Fields (by omega) n 0 (by omega) (by omega)
      rw [show ((0 : Nat) : Int) = 0 from rfl] at this
      rw [this]
      have key : ∀ (c i : Nat), c = v.Fields.length - i → i ≤ v.Fields.length → i ≤ w.Fields.length ∨ True → foldK (S := Unit) (fun i (a : ApiField) s K => (bif (decide ((i : Int) ≥ (List.length w.Fields : Int))) then (some 1) else (bif (decide (0 ≤ (i : Int)) && decide ((i : Int) < List.length w.Fields)) then (Option.bind (value_Cmp_1 (d + 1) n a (List.getD w.Fields (Int.toNat (i : Int)) (ApiField.mk [] (ApiValue.mk 0 0 [] [])))) fun r1 => (bif (!decide (r1 = 0)) then (some r1) else (K ()))) else none))) (fun s => (bif (decide ((List.length v.Fields : Int) < (List.length w.Fields : Int))) then (some (-1)) else (some 0))) (List.drop i v.Fields) i () = some (fcmp (v.Fields.drop i) (w.Fields.drop i)) := by
        intro c
        induction c with
        | zero =>
          intro i hc hi _
          rw [List.drop_eq_nil_of_le (by omega : v.Fields.length ≤ i), foldK_nil]
          by_cases h1 : v.Fields.length < w.Fields.length
          · rw [decide_eq_true (by omega), List.drop_eq_getElem_cons (by omega : i < w.Fields.length)]
            rfl
          · rw [decide_eq_false (by omega), List.drop_eq_nil_of_le (by omega : w.Fields.length ≤ i)]
            rfl
        | succ c ih =>
          intro i hc hi _
          have hlt : i < v.Fields.length := by omega
          rw [List.drop_eq_getElem_cons hlt, foldK_cons]
          by_cases h1 : i < w.Fields.length
          · rw [decide_eq_false (by omega), inR h1, cond_false, cond_true, show Int.toNat (i : Int) = i from rfl, getD_lt _ h1, List.drop_eq_getElem_cons h1, value_Cmp_1_eq]
            have hv := vw_lt (List.getElem_mem hlt)
            rw [vcmp_ok n hn3 k _ _ d (by omega) (by omega) (by omega) (by omega), Option.bind_some, or_ok n _ (by simp; omega) (by simp), Option.bind_some, Option.bind_some]
            dsimp only
            rw [ih (i + 1) (by omega) (by omega) (.inr trivial)]
            simp only [fcmp, List.foldr_cons, List.foldr_nil, or2_zero]
            rw [← gcmp_eq]
            exact or2_opt _ _
          · rw [decide_eq_true (by omega), List.drop_eq_nil_of_le (by omega : w.Fields.length ≤ i)]
            rfl
      exact key _ 0 rfl (Nat.zero_le _) (.inr trivial)
    rw [value_Cmp_eq, hfun, vcmp_eq, value_order_eq, value_order_eq]
    have e1 : ∀ x : Int, (bif (decide (x < 0)) then (some (IntKind.wrap .i64 ((-1 : Int) - (Fv.bits .and .i64 x 9223372036854775807)))) else (some x)) = some (ordF x) := fun x => by
      unfold ordF; cases decide (x < 0) <;> rfl
    rw [e1, e1]
    simp only [compare_ok, Option.bind_some]
    rw [or_ok n _ (by simp; omega) (by simp), or_ok n _ (by simp; omega) (by simp)]
    simp only [Option.bind_some, List.foldr_cons, List.foldr_nil, or2_zero]
    cases decide (v.Kind = 3) <;> exact or2_opt _ _

/-! ### Copies -/
theorem clone_ok (n : Nat) (l : List ApiField) (h : l.length < 4294967296) : slices_Clone_Field_nn n l = some l := by
  rw [slices_Clone_Field_nn_eq, decide_eq_true (by simp : 0 = List.length ([] : List ApiField)), decide_eq_true (by simp; omega : List.length ([] : List ApiField) + List.length l ≤ 4294967296), decide_eq_true rfl]
  rfl
theorem copy_ok (n : Nat) : ∀ (k : Nat) (v : ApiValue) (d : Nat), vw v ≤ k → vw v ≤ d → vw v < n → vw v < 4294967296 → value_Copy d n v = some v
  | 0, v, d, h, _, _, _ => by have := vw_eq v; omega
  | k + 1, v, d, h, hd, hn, hm => by
    have hv0 := vw_eq v
    have hl := (vw_len v).1
    obtain ⟨d, rfl⟩ : ∃ e, d = e + 1 := ⟨d - 1, by omega⟩
    rw [value_Copy_eq, clone_ok n _ (by omega), bind_some2]
    have f := value_Copy_l0_fold d n v.Kind v.N v.S v.Fields.length (ApiValue.mk 0 0 [] []) v.Fields.length v.Fields (by omega) n 0 (Nat.zero_le _) (by omega)
    rw [show ((0 : Nat) : Int) = 0 from rfl] at f
    rw [f]
    have key : ∀ (c i : Nat), c + i = v.Fields.length → foldN (S := (List ApiField)) (fun i s K => (bif (decide (0 ≤ (i : Int)) && decide ((i : Int) < (v.Fields.length : Int))) then (bif (decide ((0 + (Int.toNat (i : Int))) < List.length s)) then (Option.bind (value_Copy d n ((List.getD s (0 + (Int.toNat (i : Int))) (ApiField.mk [] (ApiValue.mk 0 0 [] []))).Val)) fun r2 => (bif (decide (0 ≤ (i : Int)) && decide ((i : Int) < (v.Fields.length : Int))) then (bif (decide ((0 + (Int.toNat (i : Int))) < List.length s)) then (K (List.set s (0 + (Int.toNat (i : Int))) (ApiField.mk ((List.getD s (0 + (Int.toNat (i : Int))) (ApiField.mk [] (ApiValue.mk 0 0 [] []))).Name) r2))) else none) else none)) else none) else none)) (fun s => (bif (((decide (0 + v.Fields.length ≤ List.length s)) && true) && true) then (some (ApiValue.mk v.Kind v.N v.S (List.take v.Fields.length s))) else none)) c i v.Fields = some v := by
      intro c
      induction c with
      | zero =>
        intro i hc
        rw [foldN, decide_eq_true (by omega : 0 + v.Fields.length ≤ v.Fields.length), List.take_length]
        show some (ApiValue.mk v.Kind v.N v.S v.Fields) = some v
        cases v
        rfl
      | succ c ih =>
        intro i hc
        have hlt : i < v.Fields.length := by omega
        have hv := vw_lt (List.getElem_mem hlt)
        rw [foldN, inR hlt, show Int.toNat (i : Int) = i from rfl, Nat.zero_add i, decide_eq_true hlt, cond_true, cond_true, getD_lt _ hlt, copy_ok n k _ d (by omega) (by omega) (by omega) (by omega), bind_some2, cond_true, cond_true]
        have : v.Fields.set i (ApiField.mk v.Fields[i].Name v.Fields[i].Val) = v.Fields := by
          rw [show ApiField.mk v.Fields[i].Name v.Fields[i].Val = v.Fields[i] by cases v.Fields[i]; rfl]
          exact List.set_getElem_self hlt
        rw [this]
        exact ih (i + 1) (by omega)
    exact key _ 0 (by omega)


/-! ### Numbers' texts, read -/
theorem parse_eq (s : List UInt8) : Go.Lib.parseIntB 64 s = Go.Lib.atoiAll s := by
  have h1 : ∀ (l : List UInt8) (acc : Nat), Go.Lib.parseUintM (2 ^ 64 - 1) acc l = Go.Lib.parseUint10 acc l := by
    intro l
    induction l with
    | nil => intro acc; rfl
    | cons c r ih =>
      intro acc
      simp only [Go.Lib.parseUintM, Go.Lib.parseUint10]
      by_cases h : 48 ≤ c.toNat ∧ c.toNat ≤ 57
      · rw [if_pos h, if_pos h]
        by_cases h2 : 1844674407370955162 ≤ acc
        · rw [if_pos h2, if_pos h2]
        · rw [if_neg h2, if_neg h2]
          by_cases h3 : 18446744073709551616 ≤ acc * 10 + (c.toNat - 48)
          · rw [if_pos (by omega), if_pos h3]
          · rw [if_neg (by omega), if_neg h3]
            exact ih _
      · rw [if_neg h, if_neg h]
  have h2 : ∀ l : List UInt8, Go.Lib.parseUintB 64 l = Go.Lib.parseMag l := fun l => by
    unfold Go.Lib.parseUintB Go.Lib.parseMag
    rw [h1]
  cases s with
  | nil => rfl
  | cons c r =>
    simp only [Go.Lib.parseIntB, Go.Lib.atoiAll, h2]
    rfl
def dval (l : List UInt8) (acc : Nat) : Nat := l.foldl (fun a c => a * 10 + (c.toNat - 48)) acc
abbrev Dig (l : List UInt8) : Prop := ∀ c ∈ l, 48 ≤ c.toNat ∧ c.toNat ≤ 57
theorem pu_val : ∀ (l : List UInt8) (acc u : Nat), Go.Lib.parseUint10 acc l = .ok u → Dig l ∧ u = dval l acc
  | [], acc, u, h => by
    have h : Go.Lib.NumEnd.ok acc = .ok u := h
    injection h with h
    exact ⟨fun c hc => absurd hc List.not_mem_nil, h.symm⟩
  | c :: r, acc, u, h => by
    simp only [Go.Lib.parseUint10] at h
    split at h
    · rename_i hc
      split at h
      · cases h
      · split at h
        · cases h
        · obtain ⟨h1, h2⟩ := pu_val r _ u h
          exact ⟨fun x hx => by rcases List.mem_cons.1 hx with rfl | hx; exact hc; exact h1 x hx, h2⟩
    · cases h
theorem mag_val {l : List UInt8} {u : Nat} (h : Go.Lib.parseMag l = .ok u) : l ≠ [] ∧ Dig l ∧ u = dval l 0 := by
  unfold Go.Lib.parseMag at h
  split at h
  · cases h
  · rename_i h0
    exact ⟨h0, pu_val l 0 u h⟩
theorem dval_snoc (m : List UInt8) (c : UInt8) (acc : Nat) : dval (m ++ [c]) acc = dval m acc * 10 + (c.toNat - 48) := by simp [dval]
theorem u8_dig {c : UInt8} (h : 48 ≤ c.toNat ∧ c.toNat ≤ 57) : UInt8.ofNat (48 + (c.toNat - 48)) = c := by
  rw [show 48 + (c.toNat - 48) = c.toNat by omega]
  exact UInt8.ofNat_toNat
theorem dval_pos : ∀ (l : List UInt8), Dig l → l.getD 0 0 ≠ 48 → l ≠ [] → ∀ acc, 1 ≤ dval l acc
  | [], _, _, h, _ => absurd rfl h
  | c :: r, hd, h, _, acc => by
    have key : ∀ (r : List UInt8) (a : Nat), a ≤ dval r a := by
      intro r
      induction r with
      | nil => intro a; exact Nat.le_refl _
      | cons x r ih => intro a; exact Nat.le_trans (by omega) (ih (a * 10 + (x.toNat - 48)))
    have hc := hd c (by simp)
    have h : c ≠ 48 := h
    have : c.toNat ≠ 48 := fun e => h (UInt8.toNat_inj.1 e)
    exact Nat.le_trans (by omega) (key r (acc * 10 + (c.toNat - 48)))
/-- Digits without zeros ahead are those of their number. -/
theorem dec_canon : ∀ (k : Nat) (l : List UInt8), l.length = k → Dig l → l ≠ [] → (l.getD 0 0 ≠ 48 ∨ l = [48]) → Go.Lib.decDigits (dval l 0) = l
  | 0, l, hk, _, h0, _ => absurd (List.length_eq_zero_iff.1 hk) h0
  | k + 1, l, hk, hd, h0, hc => by
    obtain ⟨m, c, rfl⟩ : ∃ m c, l = m ++ [c] := ⟨l.dropLast, l.getLast h0, (List.dropLast_concat_getLast h0).symm⟩
    have hcd := hd c (by simp)
    rw [dval_snoc]
    cases m with
    | nil =>
      show Go.Lib.decDigits (0 * 10 + (c.toNat - 48)) = [c]
      rw [Nat.zero_mul, Nat.zero_add, Go.Lib.decDigits_one (by omega), u8_dig hcd]
    | cons x m =>
      have hx : x ≠ 48 := by
        rcases hc with h | h
        · exact h
        · have := congrArg List.length h
          simp at this
      have hdm : Dig (x :: m) := fun y hy => hd y (List.mem_append_left _ hy)
      have ih := dec_canon k (x :: m) (by simpa using hk) hdm (by simp) (.inl hx)
      have hp := dval_pos (x :: m) hdm hx (by simp) 0
      rw [Go.Lib.decDigits, dif_neg (by omega), show (dval (x :: m) 0 * 10 + (c.toNat - 48)) / 10 = dval (x :: m) 0 by omega, show (dval (x :: m) 0 * 10 + (c.toNat - 48)) % 10 = c.toNat - 48 by omega, ih, u8_dig hcd]
theorem dec_head1 : ∀ (u : Nat), (Go.Lib.decDigits u).getD 0 0 ≠ 43 ∧ (Go.Lib.decDigits u).getD 0 0 ≠ 45 ∧ (1 ≤ u → (Go.Lib.decDigits u).getD 0 0 ≠ 48) ∧ Go.Lib.decDigits u ≠ [] := by
  intro u
  induction u using Nat.strongRecOn with
  | ind u ih =>
    by_cases h : u < 10
    · rw [Go.Lib.decDigits_one h]
      have : u = 0 ∨ u = 1 ∨ u = 2 ∨ u = 3 ∨ u = 4 ∨ u = 5 ∨ u = 6 ∨ u = 7 ∨ u = 8 ∨ u = 9 := by omega
      rcases this with rfl | rfl | rfl | rfl | rfl | rfl | rfl | rfl | rfl | rfl <;> decide
    · rw [Go.Lib.decDigits, dif_neg h]
      obtain ⟨h1, h2, h3, h4⟩ := ih (u / 10) (by omega)
      have h3 := h3 (by omega)
      cases hd : Go.Lib.decDigits (u / 10) with
      | nil => exact absurd hd h4
      | cons a r =>
        rw [hd] at h1 h2 h3
        exact ⟨h1, h2, fun _ => h3, by simp⟩
theorem dec_zero : Go.Lib.decDigits 0 = [48] := Go.Lib.decDigits_one (by decide)
/-- Digits are those of their number, or have a zero ahead. -/
theorem dec_iff {l : List UInt8} (hd : Dig l) (h0 : l ≠ []) : (Go.Lib.decDigits (dval l 0) = l) ↔ (l.getD 0 0 ≠ 48 ∨ l = [48]) := by
  refine ⟨fun h => ?_, fun h => dec_canon l.length l rfl hd h0 h⟩
  by_cases h1 : l.getD 0 0 = 48
  · right
    rcases Nat.eq_zero_or_pos (dval l 0) with hz | hz
    · rw [hz, dec_zero] at h; exact h.symm
    · rw [← h] at h1
      exact absurd h1 ((dec_head1 _).2.2.1 hz)
  · exact .inl h1
/-- A number's own text: no zero too many ahead, no plus sign. -/
theorem own_text {s : List UInt8} {v : Int} (h : Go.Lib.atoiAll s = .ok v) : (Go.Lib.itoa v = s) ↔ (((Go.Lib.trimPrefix s [45]).getD 0 0 ≠ 48 ∨ s = [48]) ∧ (Go.Lib.trimPrefix s [45]).getD 0 0 ≠ 43) := by
  cases s with
  | nil => cases h
  | cons c r =>
    by_cases h45 : c = 45
    · subst h45
      rw [Go.Lib.atoiAll_minus] at h
      have ht : Go.Lib.trimPrefix (45 :: r) [45] = r := by simp [Go.Lib.trimPrefix, Go.Lib.hasPrefix]
      rw [ht]
      cases hm : Go.Lib.parseMag r with
      | range => rw [hm] at h; cases h
      | ok u =>
        rw [hm] at h
        obtain ⟨h0, hd, rfl⟩ := mag_val hm
        simp only [Go.Lib.signed] at h
        split at h
        · cases h
        · injection h with h
          subst h
          have h43 : r.getD 0 0 ≠ 43 := by
            cases r with
            | nil => exact absurd rfl h0
            | cons x r =>
              intro e
              have e : x = 43 := e
              have := hd x (by simp)
              rw [e] at this
              exact absurd this (by decide)
          rcases Nat.eq_zero_or_pos (dval r 0) with hz | hz
          · rw [hz]
            refine ⟨fun e => ?_, fun e => ?_⟩
            · have e : Go.Lib.decDigits 0 = 45 :: r := e
              rw [dec_zero] at e
              cases e
            · rcases e.1 with e1 | e1
              · exact absurd (dval_pos r hd e1 h0 0) (by omega)
              · cases e1
          · have hi : Go.Lib.itoa (-((dval r 0 : Nat) : Int)) = 45 :: Go.Lib.decDigits (dval r 0) := by
              unfold Go.Lib.itoa
              rw [if_pos (by omega)]
              simp
            rw [hi, List.cons.injEq, dec_iff hd h0]
            simp only [true_and]
            refine ⟨fun e => ⟨.inl ?_, h43⟩, fun e => .inl (e.1.resolve_right (by intro h; cases h))⟩
            rcases e with e | e
            · exact e
            · rw [e] at hz
              exact absurd hz (by decide)
      | _ => rw [hm] at h; cases h
    · have ht : Go.Lib.trimPrefix (c :: r) [45] = c :: r := by
        have : ¬ (45 : UInt8) = c := fun e => h45 e.symm
        simp [Go.Lib.trimPrefix, Go.Lib.hasPrefix, this]
      have n45 : c.toNat ≠ 45 := fun e => h45 (UInt8.toNat_inj.1 e)
      rw [ht]
      by_cases h43 : c = 43
      · subst h43
        refine ⟨fun e => ?_, fun e => absurd rfl e.2⟩
        exfalso
        have hh : (Go.Lib.itoa v).getD 0 0 = 43 := by rw [e]; rfl
        unfold Go.Lib.itoa at hh
        split at hh
        · exact absurd hh (by show (45 : UInt8) ≠ 43; decide)
        · exact (dec_head1 _).1 hh
      · have n43 : c.toNat ≠ 43 := fun e => h43 (UInt8.toNat_inj.1 e)
        rw [Go.Lib.atoiAll_plain c r n43 n45] at h
        cases hm : Go.Lib.parseMag (c :: r) with
        | range => rw [hm] at h; cases h
        | ok u =>
          rw [hm] at h
          obtain ⟨h0, hd, rfl⟩ := mag_val hm
          simp only [Go.Lib.signless] at h
          split at h
          · cases h
          · injection h with h
            subst h
            have hi : Go.Lib.itoa ((dval (c :: r) 0 : Nat) : Int) = Go.Lib.decDigits (dval (c :: r) 0) := by
              unfold Go.Lib.itoa
              rw [if_neg (by omega)]
              simp
            rw [hi, dec_iff hd h0]
            exact ⟨fun e => ⟨e, h43⟩, fun e => e.1⟩
        | _ => rw [hm] at h; cases h
theorem foldK_ix {A : Type} (p : A → Bool) (l : List A) : foldK (S := Unit) (fun i a _ K => bif p a then some (i : Int) else K ()) (fun _ => some (-1)) l 0 () = some (ixI p l) := by
  rw [foldK_idx]
  unfold ixI
  cases List.findIdx? p l <;> simp

/-! ### Texts as values -/
theorem scl_check (n : Nat) (hn : 0 < n) (k N : Int) (S : List UInt8) : value_Check n (ApiValue.mk k N S []) = Option.bind (value_node n n (ApiValue.mk k N S []) true) fun r => some r := by
  obtain ⟨m, rfl⟩ : ∃ m, n = m + 1 := ⟨n - 1, by omega⟩
  rw [value_Check_eq, value_Size_eq, value_Deep_eq]
  show (Option.bind (value_Size_l0 (m + 1) (m + 1) (m + 1) 1 [] 0 0) fun r1 => (bif (decide (r1 > 2000)) then (some 2) else (Option.bind (value_Deep_l0 (m + 1) (m + 1) (m + 1) 0 [] 0 0) fun r2 => (bif (decide (r2 > 40)) then (some 2) else (Option.bind (value_node (m + 1) (m + 1) (ApiValue.mk k N S []) true) fun r3 => (some r3)))))) = _
  rw [value_Size_l0_eq, value_Deep_l0_eq]
  rfl
theorem text_check (n : Nat) (hn : 0 < n) (S : List UInt8) : value_Check n (ApiValue.mk 5 0 S []) = some (bif decide ((S.length : Int) > 4000) then 2 else 0) := by
  rw [scl_check n hn]
  obtain ⟨m, rfl⟩ : ∃ m, n = m + 1 := ⟨n - 1, by omega⟩
  rw [value_node_eq]
  simp only [value_unused_eq, value_number_eq, value_fields_eq, value_Scalar_eq]
  show (Option.bind (Option.bind (bif decide ((S.length : Int) > 4000) then some (2 : Int) else some 0) fun r => (bif !decide (r = 0) then some r else value_node_l1 (m + 1) (m + 1) (m + 1) [] 0 0)) fun r => some r) = _
  cases decide ((S.length : Int) > 4000) with
  | true => rfl
  | false => rfl
theorem bool_check (n : Nat) (hn : 0 < n) : value_Check n (ApiValue.mk 1 0 [] []) = some 0 ∧ value_Check n (ApiValue.mk 1 1 [] []) = some 0 := by
  rw [scl_check n hn, scl_check n hn]
  obtain ⟨m, rfl⟩ : ∃ m, n = m + 1 := ⟨n - 1, by omega⟩
  rw [value_node_eq, value_node_eq]
  simp only [value_unused_eq, value_number_eq, value_fields_eq, value_Scalar_eq]
  exact ⟨rfl, rfl⟩
theorem sidx_ok (n : Nat) (v : List (List UInt8)) (s : List UInt8) (hl : v.length < 9223372036854775807) (hn : v.length < n) : slices_Index_string n v s = some (ixI (fun a => s == a) v) := by
  have h := slices_Index_string_l0_fold n v s hl n 0 (Nat.zero_le _) (by omega)
  rw [show ((0 : Nat) : Int) = 0 from rfl] at h
  rw [slices_Index_string_eq, h, List.drop_zero, foldK_ix fun a : List UInt8 => s == a]
theorem trim_ne {s : List UInt8} {v : Int} (h : Go.Lib.atoiAll s = .ok v) : 0 < (Go.Lib.trimPrefix s [45]).length := by
  cases s with
  | nil => cases h
  | cons c r =>
    by_cases h45 : c = 45
    · subst h45
      rw [Go.Lib.atoiAll_minus] at h
      have ht : Go.Lib.trimPrefix (45 :: r) [45] = r := by simp [Go.Lib.trimPrefix, Go.Lib.hasPrefix]
      rw [ht]
      cases r with
      | nil => cases h
      | cons x r => simp
    · have ht : Go.Lib.trimPrefix (c :: r) [45] = c :: r := by
        have : ¬ (45 : UInt8) = c := fun e => h45 e.symm
        simp [Go.Lib.trimPrefix, Go.Lib.hasPrefix, this]
      rw [ht]
      simp
theorem u8i (c : UInt8) (k : Nat) (hk : k < 256) : decide (((c.toNat : Nat) : Int) = (k : Int)) = decide (c = UInt8.ofNat k) := by
  congr 1
  simp only [eq_iff_iff]
  constructor
  · intro h
    have h : c.toNat = k := by omega
    rw [← h]; exact UInt8.ofNat_toNat.symm
  · intro h
    rw [h, UInt8.toNat_ofNat', Nat.mod_eq_of_lt hk]
theorem num_core {R : Type} (s : List UInt8) (hs : s.length ≤ 281474976710656) (bad : Option R) (C : Int → Option R) :
    (Option.bind (atoiO s) fun r3 => (bif (!r3.2) then bad else (Option.bind (itoaO r3.1) fun r4 => (bif (!(r4 == s)) then bad else C r3.1)))) =
    (Option.bind (parseO s 10 64) fun r1 => (bif (!r1.2) then bad else (bif (decide (0 ≤ (0 : Int)) && decide ((0 : Int) < List.length (Go.Lib.trimPrefix s ([45] : List UInt8)))) then (bif (decide (((UInt8.toNat (List.getD (Go.Lib.trimPrefix s ([45] : List UInt8)) (Int.toNat (0 : Int)) 0) : Nat) : Int) = 48)) then (bif (!(s == [48])) then bad else (bif (decide (0 ≤ (0 : Int)) && decide ((0 : Int) < List.length (Go.Lib.trimPrefix s ([45] : List UInt8)))) then (bif (decide (((UInt8.toNat (List.getD (Go.Lib.trimPrefix s ([45] : List UInt8)) (Int.toNat (0 : Int)) 0) : Nat) : Int) = 43)) then bad else C r1.1) else none)) else (bif (decide (0 ≤ (0 : Int)) && decide ((0 : Int) < List.length (Go.Lib.trimPrefix s ([45] : List UInt8)))) then (bif (decide (((UInt8.toNat (List.getD (Go.Lib.trimPrefix s ([45] : List UInt8)) (Int.toNat (0 : Int)) 0) : Nat) : Int) = 43)) then bad else C r1.1) else none)) else none))) := by
  have e1 : atoiO s = some (numR Go.Lib.atoiSat s (Go.Lib.atoiAll s)) := by
    unfold atoiO numO
    rw [decide_eq_true hs]; rfl
  have e2 : parseO s 10 64 = some (numR (Go.Lib.intSat 64) s (Go.Lib.atoiAll s)) := by
    unfold parseO numO
    rw [decide_eq_true hs, ← parse_eq]; rfl
  rw [e1, e2, bind_some2, bind_some2]
  cases ha : Go.Lib.atoiAll s with
  | range => rfl
  | ok v =>
    have hb := Go.Lib.atoiAll_bounds ha
    have hi : itoaO v = some (Go.Lib.itoa v) := by
      unfold itoaO i64R
      rw [decide_eq_true hb.1, decide_eq_true hb.2]; rfl
    have ht := trim_ne ha
    have hw := own_text ha
    show (Option.bind (itoaO v) fun r4 => (bif (!(r4 == s)) then bad else C v)) = _
    rw [hi, bind_some2]
    show _ = (bif (decide (0 ≤ (0 : Int)) && decide ((0 : Int) < List.length (Go.Lib.trimPrefix s ([45] : List UInt8)))) then _ else none)
    have h0 : (decide (0 ≤ (0 : Int)) && decide ((0 : Int) < ((List.length (Go.Lib.trimPrefix s ([45] : List UInt8)) : Nat) : Int))) = true := by
      rw [decide_eq_true (by omega), decide_eq_true (by omega)]; rfl
    rw [h0, cond_true, cond_true]
    have c48 := u8i (List.getD (Go.Lib.trimPrefix s ([45] : List UInt8)) (Int.toNat (0 : Int)) 0) 48 (by decide)
    have c43 := u8i (List.getD (Go.Lib.trimPrefix s ([45] : List UInt8)) (Int.toNat (0 : Int)) 0) 43 (by decide)
    rw [show ((48 : Nat) : Int) = 48 from rfl] at c48
    rw [show ((43 : Nat) : Int) = 43 from rfl] at c43
    rw [c48, c43]
    generalize hd : List.getD (Go.Lib.trimPrefix s ([45] : List UInt8)) (Int.toNat (0 : Int)) 0 = d
    have hd' : (Go.Lib.trimPrefix s ([45] : List UInt8)).getD 0 0 = d := hd
    rw [hd'] at hw
    have hbeq : (Go.Lib.itoa v == s) = decide ((d ≠ 48 ∨ s = [48]) ∧ d ≠ 43) := by
      rw [← decide_eq_decide.2 hw]
      by_cases h : Go.Lib.itoa v = s
      · rw [decide_eq_true h]; simpa using h
      · rw [decide_eq_false h]; simpa using h
    rw [hbeq]
    by_cases h48 : d = 48
    · have h43 : ¬ d = 43 := by rw [h48]; decide
      rw [decide_eq_true (show d = UInt8.ofNat 48 from h48), decide_eq_false (show ¬ d = UInt8.ofNat 43 from h43), cond_true]
      by_cases hs48 : s = [48]
      · rw [decide_eq_true ⟨.inr hs48, h43⟩, hs48]; rfl
      · rw [decide_eq_false (fun h => h.1.elim (fun h => h h48) hs48), show (s == [48]) = false by simpa using hs48]; rfl
    · rw [decide_eq_false (show ¬ d = UInt8.ofNat 48 from h48), cond_false]
      by_cases h43 : d = 43
      · rw [decide_eq_false (fun h => h.2 h43), decide_eq_true (show d = UInt8.ofNat 43 from h43)]; rfl
      · rw [decide_eq_true ⟨.inl h48, h43⟩, decide_eq_false (show ¬ d = UInt8.ofNat 43 from h43)]; rfl
  | _ => rfl
theorem scalar_ok (n : Nat) (k : Int) (s : List UInt8) (hn : 10 < n) (hs : s.length ≤ 281474976710656) : ∃ v e, load_Scalar n k s = some (v, e) ∧ ref2_Told n k s = some (v, e) ∧ vw v ≤ s.length + 1 := by
  have num : ∀ k : Int, ∃ v e, (Option.bind (parseO s 10 64) fun r1 => (bif (!r1.2) then some ((ApiValue.mk 0 0 [] [], 14) : ApiValue × Int) else (bif (decide (0 ≤ (0 : Int)) && decide ((0 : Int) < List.length (Go.Lib.trimPrefix s ([45] : List UInt8)))) then (bif (decide (((UInt8.toNat (List.getD (Go.Lib.trimPrefix s ([45] : List UInt8)) (Int.toNat (0 : Int)) 0) : Nat) : Int) = 48)) then (bif (!(s == [48])) then some (ApiValue.mk 0 0 [] [], 14) else (bif (decide (0 ≤ (0 : Int)) && decide ((0 : Int) < List.length (Go.Lib.trimPrefix s ([45] : List UInt8)))) then (bif (decide (((UInt8.toNat (List.getD (Go.Lib.trimPrefix s ([45] : List UInt8)) (Int.toNat (0 : Int)) 0) : Nat) : Int) = 43)) then some (ApiValue.mk 0 0 [] [], 14) else (Option.bind (value_Check n (ApiValue.mk k r1.1 [] [])) fun r2 => (bif (!decide (r2 = 0)) then (some ((ApiValue.mk 0 0 [] []), r2)) else (some ((ApiValue.mk k r1.1 [] []), 0))))) else none)) else (bif (decide (0 ≤ (0 : Int)) && decide ((0 : Int) < List.length (Go.Lib.trimPrefix s ([45] : List UInt8)))) then (bif (decide (((UInt8.toNat (List.getD (Go.Lib.trimPrefix s ([45] : List UInt8)) (Int.toNat (0 : Int)) 0) : Nat) : Int) = 43)) then some (ApiValue.mk 0 0 [] [], 14) else (Option.bind (value_Check n (ApiValue.mk k r1.1 [] [])) fun r2 => (bif (!decide (r2 = 0)) then (some ((ApiValue.mk 0 0 [] []), r2)) else (some ((ApiValue.mk k r1.1 [] []), 0))))) else none)) else none))) = some (v, e) ∧
      (Option.bind (atoiO s) fun r3 => (bif (!r3.2) then (some ((ApiValue.mk 0 0 [] [], 14) : ApiValue × Int)) else (Option.bind (itoaO r3.1) fun r4 => (bif (!(r4 == s)) then (some (ApiValue.mk 0 0 [] [], 14)) else (Option.bind (value_Check n (ApiValue.mk k r3.1 [] [])) fun r5 => (bif (!decide (r5 = 0)) then (some (ApiValue.mk 0 0 [] [], r5)) else (some (ApiValue.mk k r3.1 [] [], 0)))))))) = some (v, e) ∧ vw v ≤ s.length + 1 := by
    intro k
    have h := num_core s hs (some ((ApiValue.mk 0 0 [] [], 14) : ApiValue × Int)) fun z => (Option.bind (value_Check n (ApiValue.mk k z [] [])) fun r5 => (bif (!decide (r5 = 0)) then (some (ApiValue.mk 0 0 [] [], r5)) else (some (ApiValue.mk k z [] [], 0))))
    rw [← h]
    have w0 : ∀ k z : Int, vw (ApiValue.mk k z [] []) ≤ s.length + 1 := fun k z => by simp [vw, fw]
    have e1 : atoiO s = some (numR Go.Lib.atoiSat s (Go.Lib.atoiAll s)) := by
      unfold atoiO numO
      rw [decide_eq_true hs]; rfl
    rw [e1, bind_some2]
    cases ha : Go.Lib.atoiAll s with
    | range => exact ⟨_, _, rfl, rfl, w0 _ _⟩
    | ok v =>
      have hb := Go.Lib.atoiAll_bounds ha
      have hi : itoaO v = some (Go.Lib.itoa v) := by
        unfold itoaO i64R
        rw [decide_eq_true hb.1, decide_eq_true hb.2]; rfl
      show ∃ v1 e1, (Option.bind (itoaO v) fun r4 => _) = some (v1, e1) ∧ (Option.bind (itoaO v) fun r4 => _) = some (v1, e1) ∧ _
      rw [hi, bind_some2]
      cases Go.Lib.itoa v == s with
      | false => exact ⟨_, _, rfl, rfl, w0 _ _⟩
      | true =>
        obtain ⟨e, he⟩ := Option.isSome_iff_exists.1 (vcheck_some n (ApiValue.mk k v [] []) (by simp [vw, fw]; omega) (by simp [vw, fw]))
        rw [Bool.not_true, cond_false]
        show ∃ v1 e1, (Option.bind (value_Check n (ApiValue.mk k v [] [])) fun r5 => _) = some (v1, e1) ∧ (Option.bind (value_Check n (ApiValue.mk k v [] [])) fun r5 => _) = some (v1, e1) ∧ _
        rw [he, bind_some2]
        cases decide (e = 0) with
        | true => exact ⟨_, _, rfl, rfl, w0 _ _⟩
        | false => exact ⟨_, _, rfl, rfl, w0 _ _⟩
    | _ => exact ⟨_, _, rfl, rfl, w0 _ _⟩
  rw [load_Scalar_eq, ref2_Told_eq]
  by_cases k1 : k = 1
  · subst k1
    obtain ⟨b0, b1⟩ := bool_check n (by omega)
    rw [decide_eq_true rfl, cond_true, cond_true, sidx_ok n _ s (by decide) (by simp; omega), bind_some2]
    by_cases ht : s = [116, 114, 117, 101]
    · subst ht
      refine ⟨ApiValue.mk 1 1 [] [], 0, ?_, rfl, by simp [vw, fw]⟩
      show (Option.bind (value_Check n (ApiValue.mk 1 1 [] [])) fun r2 => _) = _
      rw [b1]; rfl
    · by_cases hf : s = [102, 97, 108, 115, 101]
      · subst hf
        refine ⟨ApiValue.mk 1 0 [] [], 0, ?_, rfl, by simp [vw, fw]⟩
        show (Option.bind (value_Check n (ApiValue.mk 1 0 [] [])) fun r2 => _) = _
        rw [b0]; rfl
      · have h1 : (s == [116, 114, 117, 101]) = false := by simpa using ht
        have h2 : (s == [102, 97, 108, 115, 101]) = false := by simpa using hf
        have h3 : ixI (fun a => s == a) [[102, 97, 108, 115, 101], [116, 114, 117, 101]] = -1 := by
          rw [ixI_eq]
          simp only [List.any_cons, List.any_nil, h1, h2, Bool.or_self, Bool.false_eq_true, if_false]
        rw [h3, h1, h2]
        exact ⟨ApiValue.mk 0 0 [] [], 14, rfl, rfl, by simp [vw, fw]⟩
  · rw [decide_eq_false k1, cond_false, cond_false]
    by_cases k2 : k = 2
    · subst k2
      rw [decide_eq_true rfl, cond_true, cond_true, cond_true, cond_true]
      obtain ⟨v, e, g1, g2, g3⟩ := num 2
      exact ⟨v, e, g2, g1, g3⟩
    · rw [decide_eq_false k2, cond_false, cond_false]
      by_cases k4 : k = 4
      · subst k4
        rw [decide_eq_true rfl, cond_true, cond_true]
        obtain ⟨v, e, g1, g2, g3⟩ := num 4
        exact ⟨v, e, g2, g1, g3⟩
      · rw [decide_eq_false k4, cond_false, cond_false]
        by_cases k5 : k = 5
        · subst k5
          rw [decide_eq_true rfl, cond_true, cond_true, text_check n (by omega), bind_some2]
          cases decide ((s.length : Int) > 4000) with
          | true => exact ⟨_, _, rfl, rfl, by simp [vw, fw]⟩
          | false => exact ⟨_, _, rfl, rfl, by simp [vw, fw]⟩
        · rw [decide_eq_false k5, cond_false, cond_false]
          exact ⟨_, _, rfl, rfl, by simp [vw, fw]⟩

/-! ### The law -/
theorem loads_ok (n : Nat) (hn : 10 < n) : law2_loads n = some true := by
  obtain ⟨v, e, h1, h2, h3⟩ := scalar_ok n 2 [45, 53] hn (by decide)
  have ha : atoiO [45, 53] = some (-5, true) := by decide
  have hi : itoaO (-5) = some [45, 53] := by
    unfold itoaO i64R Go.Lib.itoa
    rw [if_pos (by decide), show (-5 : Int).natAbs = 5 from rfl, Go.Lib.decDigits_one (by decide)]
    rfl
  have hc : value_Check n (ApiValue.mk 2 (-5) [] []) = some 0 := by
    rw [scl_check n (by omega)]
    obtain ⟨m, rfl⟩ : ∃ m, n = m + 1 := ⟨n - 1, by omega⟩
    rw [value_node_eq]
    simp only [value_unused_eq, value_number_eq, value_fields_eq, value_Scalar_eq]
    rfl
  rw [law2_loads_eq, load_Scalar_eq]
  rw [decide_eq_false (by decide : ¬ (2 : Int) = 1), cond_false, decide_eq_true (rfl : (2 : Int) = 2), cond_true, cond_true, ha]
  simp only [bind_some2, Bool.not_true, cond_false]
  rw [hi, bind_some2, beq_self_eq_true, Bool.not_true, cond_false, hc]
  rfl
theorem same_self (n : Nat) (hn : 3 < n) (v : ApiValue) (h : 3 * vw v < n) (hm : vw v < 9223372036854775807) : value_Same n v v = some true := by
  rw [value_Same_eq, vcmp_ok n hn (vw v) v v n (Nat.le_refl _) (by omega) (by omega) hm, bind_some2, vcmp_refl]
  rfl
def bV (g : Nat) (v : ApiValue) : Nat := BulkN E g 0 v
def bF (g : Nat) (f : ApiField) : Nat := BulkN E g 1 f
theorem bV_eq (g : Nat) (v : ApiValue) : bV (g + 1) v = 1 + (1 + ((v.S.length + 1) + ((v.Fields.map (bF g)).sum + 1))) := rfl
theorem bF_eq (g : Nat) (f : ApiField) : bF (g + 1) f = (f.Name.length + 1) + bV g f.Val := rfl
theorem vw_bulk : ∀ (k : Nat) (v : ApiValue) (g : Nat), vw v ≤ k → 2 * k ≤ g → vw v + 1 ≤ bV g v
  | 0, v, g, h, _ => by have := vw_eq v; omega
  | k + 1, v, g, h, hg => by
    obtain ⟨g, rfl⟩ : ∃ e, g = e + 2 := ⟨g - 2, by omega⟩
    have key : ∀ l : List ApiField, (∀ f ∈ l, vw f.Val ≤ k) → fw l ≤ (l.map (bF (g + 1))).sum := by
      intro l
      induction l with
      | nil => intro _; simp [fw]
      | cons f l ih =>
        intro hl
        have := ih fun x hx => hl x (by simp [hx])
        have := vw_bulk k f.Val g (hl f (by simp)) (by omega)
        have := gw_eq f
        have e3 := bF_eq g f
        rw [List.map_cons, List.sum_cons]
        simp only [fw]
        omega
    have := key v.Fields fun f hf => by have := (vw_lt hf).1; omega
    have := vw_eq v
    have : bV (g + 2) v = _ := bV_eq (g + 1) v
    omega
theorem law_ok (x0 : Int) (x1 : List UInt8) (x2 : ApiValue) (x3 : Bool) (h0 : ∀ g, Fv.Good E g (.int .i64) x0) (h1 : ∀ g, Fv.Good E g .str x1) (h2 : ∀ g, Fv.Good E g (.nm 0) x2) (h3 : ∀ g, Fv.Good E g .bool x3)
    (hb : ∀ g, Bulk E g (.int .i64) x0 + Bulk E g .str x1 + Bulk E g (.nm 0) x2 + Bulk E g .bool x3 ≤ 1048576) : ∃ n, law2_LoadScalars n x0 x1 x2 x3 = some true := by
  have hv : vw x2 ≤ 1048576 := by
    have h := hb (2 * vw x2)
    have h5 : Bulk E (2 * vw x2) (.nm 0) x2 = bV (2 * vw x2) x2 := rfl
    have := vw_bulk (vw x2) x2 (2 * vw x2) (Nat.le_refl _) (Nat.le_refl _)
    omega
  have hs : x1.length ≤ 1048576 := by
    have h := hb 1
    have h5 : Bulk E 1 .str x1 = x1.length + 1 := rfl
    omega
  obtain ⟨n, hn1, hn2⟩ : ∃ n, 3 * vw x2 + 20 ≤ n ∧ 3 * x1.length + 20 ≤ n := ⟨3 * vw x2 + 3 * x1.length + 20, by omega, by omega⟩
  refine ⟨n, ?_⟩
  obtain ⟨v, e, k1, k2, k3⟩ := scalar_ok n x0 x1 (by omega) (Nat.le_trans hs (by decide))
  have ld := loads_ok n (by omega)
  have sv : value_Same n v v = some true := same_self n (by omega) v (by omega) (Nat.lt_of_le_of_lt (Nat.le_trans k3 (by omega : x1.length + 1 ≤ 1048577)) (by decide))
  have s2 : value_Same n x2 x2 = some true := same_self n (by omega) x2 (by omega) (Nat.lt_of_le_of_lt hv (by decide))
  have s0 : value_Same n (ApiValue.mk 0 0 [] []) (ApiValue.mk 0 0 [] []) = some true := same_self n (by omega) _ (by simp [vw, fw]; omega) (by simp [vw, fw])
  obtain ⟨c, hc⟩ := Option.isSome_iff_exists.1 (vcheck_some n x2 (by omega) (Nat.lt_of_le_of_lt hv (by decide)))
  have hcp : value_Copy n n x2 = some x2 := copy_ok n (vw x2) x2 n (Nat.le_refl _) (by omega) (by omega) (Nat.lt_of_le_of_lt hv (by decide))
  rw [law2_LoadScalars_eq, k1, k2, bind_some2, bind_some2]
  cases x3 with
  | true =>
    rw [Bool.true_or, cond_true, bind_some2, Bool.not_true, cond_false, ld, bind_some2, cond_true, decide_eq_true rfl, cond_true, sv, bind_some2, cond_true]
    show (Option.bind (value_Same n (ApiValue.mk 0 0 [] []) (ApiValue.mk 0 0 [] [])) fun r14 => (some r14)) = some true
    rw [s0, bind_some2]
  | false =>
    have hg : load_Guard n (false, x1, x2, ()) x1 = some (bif !decide (c = 0) then (ApiValue.mk 0 0 [] [], false) else (x2, true)) := by
      rw [load_Guard_eq, law2_LoadScalars_1_eq]
      show Option.bind (bif false then none else (bif (!(x1 == x1)) then none else (some x2))) _ = _
      rw [cond_false, beq_self_eq_true, Bool.not_true, cond_false, bind_some2, hcp, bind_some2, hc, bind_some2]
      cases decide (c = 0) <;> rfl
    cases hcz : decide (c = 0) with
    | true =>
      rw [hcz] at hg
      have hg : load_Guard n (false, x1, x2, ()) x1 = some (x2, true) := hg
      rw [Bool.false_or, beq_self_eq_true, Bool.not_true, cond_false, hg, bind_some2, Bool.not_false, cond_true, hc, bind_some2, ld, bind_some2, cond_true, decide_eq_true rfl, cond_true, sv, bind_some2, cond_true]
      simp only [hcz, beq_self_eq_true, cond_true, s2, bind_some2]
    | false =>
      rw [hcz] at hg
      have hg : load_Guard n (false, x1, x2, ()) x1 = some (ApiValue.mk 0 0 [] [], false) := hg
      rw [Bool.false_or, beq_self_eq_true, Bool.not_true, cond_false, hg, bind_some2, Bool.not_false, cond_true, hc, bind_some2, ld, bind_some2, cond_true, decide_eq_true rfl, cond_true, sv, bind_some2, cond_true]
      simp only [hcz, beq_self_eq_true, cond_true, cond_false, Bool.not_false, s0, bind_some2]
end Go.Proofs.YtbmpjppfdeohnaaDoor.PLoadScalars
