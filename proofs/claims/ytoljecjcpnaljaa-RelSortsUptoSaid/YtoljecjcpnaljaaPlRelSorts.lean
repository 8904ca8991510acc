/- The plain law RelSorts. No condition. -/
import Derived.Test.YtoljecjcpnaljaaFnRelSorts
-- UPTO
set_option linter.unusedVariables false
set_option linter.unusedSimpArgs false
namespace Go.Proofs.Ytoljecjcpnaljaa.PRelSorts
open Go Go.Proofs Go.Proofs.Ytoljecjcpnaljaa.Fv


/-! ### Values: a measure, and an induction -/
mutual
def vw : ApiValue → Nat
  | ⟨_, _, s, fs⟩ => fw fs + s.length + 1
def fw : List ApiField → Nat
  | [] => 0
  | f :: r => gw f + fw r
def gw : ApiField → Nat
  | ⟨nm, v⟩ => nm.length + 1 + vw v
end
theorem vw_eq (v : ApiValue) : vw v = fw v.Fields + v.S.length + 1 := by cases v; simp [vw]
theorem gw_eq (f : ApiField) : gw f = f.Name.length + 1 + vw f.Val := by cases f; simp [gw]
theorem fw_mem {f : ApiField} : ∀ {l : List ApiField}, f ∈ l → gw f ≤ fw l
  | [], h => by simp at h
  | g :: l, h => by
    simp only [fw]
    rcases List.mem_cons.1 h with rfl | h
    · omega
    · have := fw_mem h; omega
theorem fw_len : ∀ l : List ApiField, l.length ≤ fw l
  | [] => by simp [fw]
  | f :: l => by have := fw_len l; have := gw_eq f; simp only [fw, List.length_cons]; omega
theorem vw_lt {v : ApiValue} {f : ApiField} (h : f ∈ v.Fields) : vw f.Val < vw v ∧ f.Name.length < vw v := by
  have h1 := fw_mem h
  have h2 := gw_eq f
  have h3 := vw_eq v
  omega
theorem vw_len (v : ApiValue) : v.Fields.length < vw v ∧ v.S.length < vw v := by
  have := fw_len v.Fields
  have := vw_eq v
  omega
theorem val_ind {P : ApiValue → Prop} (h : ∀ v : ApiValue, (∀ f ∈ v.Fields, P f.Val) → P v) : ∀ v, P v := by
  have key : ∀ (k : Nat) (v : ApiValue), vw v ≤ k → P v := by
    intro k
    induction k with
    | zero => intro v hv; have := vw_eq v; omega
    | succ k ih => exact fun v hv => h v fun f hf => ih f.Val (by have := (vw_lt hf).1; omega)
  exact fun v => key _ v (Nat.le_refl _)

/-! ### Loops that answer -/
theorem foldK_some {A S R : Type} (v : List A) {step : Nat → A → S → (S → Option R) → Option R} {fin : S → Option R}
    (h : ∀ i (hi : i < v.length) s K, (∀ s', (K s').isSome = true) → (step i v[i] s K).isSome = true) (hf : ∀ s, (fin s).isSome = true) :
    ∀ (c i : Nat), c = v.length - i → i ≤ v.length → ∀ s, (foldK step fin (v.drop i) i s).isSome = true := by
  intro c
  induction c with
  | zero =>
    intro i hc hi s
    rw [List.drop_eq_nil_of_le (by omega)]
    exact hf s
  | succ c ih =>
    intro i hc hi s
    rw [List.drop_eq_getElem_cons (by omega : i < v.length), foldK_cons]
    exact h i (by omega) s _ fun s' => ih (i + 1) (by omega) (by omega) s'
theorem foldK_par {A S S' R : Type} (v : List A) {step : Nat → A → S → (S → Option R) → Option R} {fin : S → Option R} {step' : Nat → A → S' → (S' → Option R) → Option R} {fin' : S' → Option R} (I : Nat → S → S' → Prop)
    (h : ∀ i (hi : i < v.length) s s' K K', I i s s' → (∀ t t', I (i + 1) t t' → K t = K' t') → step i v[i] s K = step' i v[i] s' K') (hf : ∀ s s', I v.length s s' → fin s = fin' s') :
    ∀ (c i : Nat), c = v.length - i → i ≤ v.length → ∀ s s', I i s s' → foldK step fin (v.drop i) i s = foldK step' fin' (v.drop i) i s' := by
  intro c
  induction c with
  | zero =>
    intro i hc hi s s' hI
    rw [List.drop_eq_nil_of_le (by omega)]
    exact hf s s' (by rwa [show v.length = i by omega])
  | succ c ih =>
    intro i hc hi s s' hI
    rw [List.drop_eq_getElem_cons (by omega : i < v.length), foldK_cons, foldK_cons]
    exact h i (by omega) s s' _ _ hI fun t t' ht => ih (i + 1) (by omega) (by omega) t t' ht
/-- A loop ends early, or each of its rounds went on. -/
theorem foldK_case {A S R : Type} (v : List A) {step : Nat → A → S → (S → Option R) → Option R} {fin : S → Option R} (I : Nat → S → Prop) (Q : Option R → Prop)
    (h : ∀ i (hi : i < v.length) s, I i s → (∃ e, Q e ∧ ∀ K, step i v[i] s K = e) ∨ ∃ s', I (i + 1) s' ∧ ∀ K, step i v[i] s K = K s') (hf : ∀ s, I v.length s → Q (fin s)) :
    ∀ (c i : Nat), c = v.length - i → i ≤ v.length → ∀ s, I i s → Q (foldK step fin (v.drop i) i s) := by
  intro c
  induction c with
  | zero =>
    intro i hc hi s hI
    rw [List.drop_eq_nil_of_le (by omega)]
    exact hf s (by rwa [show v.length = i by omega])
  | succ c ih =>
    intro i hc hi s hI
    rw [List.drop_eq_getElem_cons (by omega : i < v.length), foldK_cons]
    rcases h i (by omega) s hI with ⟨e, h1, h2⟩ | ⟨s', h1, h2⟩
    · rw [h2]; exact h1
    · rw [h2]; exact ih (i + 1) (by omega) (by omega) s' h1
theorem bind_some {α β : Type} {o : Option α} {f : α → Option β} (h : o.isSome = true) (hf : ∀ a, (f a).isSome = true) : (o.bind f).isSome = true := by
  obtain ⟨a, rfl⟩ := Option.isSome_iff_exists.1 h
  exact hf a
theorem cond_some {β : Type} {c : Bool} {a b : Option β} (ha : c = true → a.isSome = true) (hb : c = false → b.isSome = true) : (bif c then a else b).isSome = true := by
  cases c
  · exact hb rfl
  · exact ha rfl
theorem inR {i n : Nat} (h : i < n) : (decide (0 ≤ (i : Int)) && decide ((i : Int) < (n : Int))) = true := by
  simp only [Bool.and_eq_true, decide_eq_true_eq]; omega
theorem inR' {i n : Nat} (h : i ≤ n) : (decide (0 ≤ (i : Int)) && decide ((i : Int) ≤ (n : Int))) = true := by
  simp only [Bool.and_eq_true, decide_eq_true_eq]; omega
theorem inP {i n : Nat} (h0 : 0 < i) (h : i < n) (hn : n < 9223372036854775807) : (decide (0 ≤ (IntKind.wrap .i64 ((i : Int) - 1))) && decide ((IntKind.wrap .i64 ((i : Int) - 1)) < (n : Int))) = true ∧ Int.toNat (IntKind.wrap .i64 ((i : Int) - 1)) = i - 1 := by
  have e : IntKind.wrap .i64 ((i : Int) - 1) = ((i - 1 : Nat) : Int) := by
    rw [show (i : Int) - 1 = ((i - 1 + 1 : Nat) : Int) - 1 by omega]
    exact i64_pred (by omega)
  rw [e]
  exact ⟨inR (by omega), by simp⟩

/-! ### What answers on a value -/
theorem vname_some (n : Nat) (s : List UInt8) (hn : s.length < n) : (value_Name n s).isSome = true := by
  rw [value_Name_eq]
  refine cond_some (fun _ => rfl) fun h0 => cond_some (fun _ => rfl) fun h1 => ?_
  have hne : 0 < s.length := by
    cases s with
    | nil => cases h0
    | cons a l => simp
  have hle : s.length ≤ 16 := by have := of_decide_eq_false h1; omega
  have hr : (decide (0 ≤ (0 : Int)) && decide ((0 : Int) < (s.length : Int))) = true := by simp; omega
  rw [hr]
  refine cond_some (fun _ => cond_some (fun _ => rfl) fun _ => cond_some (fun _ => cond_some (fun _ => rfl) fun _ => ?_) fun h => by cases h) fun h => by cases h
  have hli : (ints s).length = s.length := by simp [ints]
  have := value_Name_l0_fold n (ints s) (by omega) n 0 (by omega) (by omega)
  rw [show ((0 : Nat) : Int) = 0 from rfl] at this
  rw [this]
  refine foldK_some _ (fun i hi s K hK => ?_) (fun _ => rfl) _ 0 rfl (Nat.zero_le _) _
  repeat' first | with_reducible exact hK _ | with_reducible exact Option.isSome_some | with_reducible refine cond_some (fun _ => ?_) fun _ => ?_
theorem vsize_some (n : Nat) : ∀ (d : Nat) (v : ApiValue), vw v ≤ d → vw v < n → vw v < 9223372036854775807 → (value_Size d n v).isSome = true
  | 0, v, h, _, _ => by have := vw_eq v; omega
  | d + 1, v, h, hn, hm => by
    rw [value_Size_eq]
    have hl := (vw_len v).1
    have := value_Size_l0_fold d n v.Fields 1 (by omega) n 0 (by omega) (by omega)
    rw [show ((0 : Nat) : Int) = 0 from rfl] at this
    rw [this]
    refine foldK_some _ (fun i hi s K hK => ?_) (fun _ => rfl) _ 0 rfl (Nat.zero_le _) _
    have := vw_lt (List.getElem_mem hi)
    exact bind_some (vsize_some n d _ (by omega) (by omega) (by omega)) fun r => hK _
theorem vdeep_some (n : Nat) : ∀ (d : Nat) (v : ApiValue), vw v ≤ d → vw v < n → vw v < 9223372036854775807 → (value_Deep d n v).isSome = true
  | 0, v, h, _, _ => by have := vw_eq v; omega
  | d + 1, v, h, hn, hm => by
    rw [value_Deep_eq]
    have hl := (vw_len v).1
    have := value_Deep_l0_fold d n v.Fields 0 (by omega) n 0 (by omega) (by omega)
    rw [show ((0 : Nat) : Int) = 0 from rfl] at this
    rw [this]
    refine foldK_some _ (fun i hi s K hK => ?_) (fun _ => rfl) _ 0 rfl (Nat.zero_le _) _
    have := vw_lt (List.getElem_mem hi)
    exact bind_some (vdeep_some n d _ (by omega) (by omega) (by omega)) fun r => hK _
theorem scalar_some (n : Nat) (k : Int) : (value_Scalar n k).isSome = true := by
  rw [value_Scalar_eq]
  repeat' first | with_reducible exact Option.isSome_some | with_reducible refine cond_some (fun _ => ?_) fun _ => ?_
theorem unused_some (n : Nat) (v : ApiValue) : (value_unused n v).isSome = true := by
  rw [value_unused_eq]
  repeat' first | with_reducible exact Option.isSome_some | (with_reducible refine bind_some (scalar_some n _) fun _ => ?_) | with_reducible refine cond_some (fun _ => ?_) fun _ => ?_
theorem number_some (n : Nat) (v : ApiValue) : (value_number n v).isSome = true := by
  rw [value_number_eq]
  repeat' first | with_reducible exact Option.isSome_some | with_reducible refine cond_some (fun _ => ?_) fun _ => ?_
theorem fidx_some (n : Nat) (l : List ApiField) (f : ApiField) (hl : l.length < 9223372036854775807) (hn : l.length < n) : (slices_ContainsFunc_Field_by_value_names_1 n l (f, ())).isSome = true := by
  rw [slices_ContainsFunc_Field_by_value_names_1_eq, slices_IndexFunc_Field_by_value_names_1_eq]
  refine bind_some ?_ fun _ => rfl
  have := slices_IndexFunc_Field_by_value_names_1_l0_fold n l f hl n 0 (by omega) (by omega)
  rw [show ((0 : Nat) : Int) = 0 from rfl] at this
  rw [this]
  refine foldK_some _ (fun i hi s K hK => ?_) (fun _ => rfl) _ 0 rfl (Nat.zero_le _) _
  rw [value_names_1_eq]
  exact bind_some rfl fun _ => cond_some (fun _ => rfl) fun _ => hK _
theorem names_some (n : Nat) (v : ApiValue) (hn : vw v < n) (hm : vw v < 9223372036854775807) : (value_names n v.Fields).isSome = true := by
  have hl := (vw_len v).1
  rw [value_names_eq]
  have := value_names_l0_fold n v.Fields v.Fields (by omega) n 0 (by omega) (by omega)
  rw [show ((0 : Nat) : Int) = 0 from rfl] at this
  rw [this]
  refine foldK_some _ (fun i hi s K hK => ?_) (fun _ => rfl) _ 0 rfl (Nat.zero_le _) _
  have := vw_lt (List.getElem_mem hi)
  refine bind_some (vname_some n _ (by omega)) fun r => cond_some (fun _ => rfl) fun _ => ?_
  rw [inR' (by omega : i ≤ v.Fields.length)]
  exact bind_some (fidx_some n _ _ (by simp; omega) (by simp; omega)) fun _ => cond_some (fun _ => rfl) fun _ => hK _
theorem keys_some (n : Nat) (v : ApiValue) (hn : vw v < n) (hm : vw v < 9223372036854775807) : (value_keys n v).isSome = true := by
  have hl := (vw_len v).1
  rw [value_keys_eq]
  have := value_keys_l0_fold n v.Fields v (by omega) n 0 (by omega) (by omega)
  rw [show ((0 : Nat) : Int) = 0 from rfl] at this
  rw [this]
  refine foldK_some _ (fun i hi s K hK => ?_) (fun _ => rfl) _ 0 rfl (Nat.zero_le _) _
  have key : 0 < i → (decide (0 ≤ (IntKind.wrap .i64 ((i : Int) - 1))) && decide ((IntKind.wrap .i64 ((i : Int) - 1)) < (v.Fields.length : Int))) = true := fun h => (inP h (by omega) (by omega)).1
  repeat' first | with_reducible exact hK _ | with_reducible exact Option.isSome_some | exact absurd ((key (by have h := of_decide_eq_true ‹decide ((i : Int) > 0) = true›; omega)).symm.trans ‹(decide (0 ≤ IntKind.wrap .i64 ((i : Int) - 1)) && decide (IntKind.wrap .i64 ((i : Int) - 1) < (v.Fields.length : Int))) = false›) (by decide) | with_reducible refine cond_some (fun _ => ?_) fun _ => ?_
theorem fields_some (n : Nat) (v : ApiValue) (hn : vw v < n) (hm : vw v < 9223372036854775807) : (value_fields n v).isSome = true := by
  rw [value_fields_eq]
  repeat' first | with_reducible exact Option.isSome_some | (with_reducible refine bind_some (names_some n v hn hm) fun _ => ?_) | (with_reducible refine bind_some (keys_some n v hn hm) fun _ => ?_) | with_reducible refine cond_some (fun _ => ?_) fun _ => ?_
theorem node_some (n : Nat) : ∀ (d : Nat) (v : ApiValue) (b : Bool), vw v ≤ d → vw v < n → vw v < 9223372036854775807 → (value_node d n v b).isSome = true
  | 0, v, b, h, _, _ => by have := vw_eq v; omega
  | d + 1, v, b, h, hn, hm => by
    have hl := (vw_len v).1
    have hloop : (value_node_l1 (d + 1) n n v.Fields (List.length v.Fields : Int) 0).isSome = true := by
      have := value_node_l1_fold d n v.Fields (by omega) n 0 (by omega) (by omega)
      rw [show ((0 : Nat) : Int) = 0 from rfl] at this
      rw [this]
      refine foldK_some _ (fun i hi s K hK => ?_) (fun _ => rfl) _ 0 rfl (Nat.zero_le _) _
      have := vw_lt (List.getElem_mem hi)
      exact bind_some (node_some n d _ _ (by omega) (by omega) (by omega)) fun r => cond_some (fun _ => rfl) fun _ => hK _
    rw [value_node_eq]
    repeat' first | with_reducible exact Option.isSome_some | with_reducible exact hloop | (with_reducible refine bind_some (unused_some n v) fun _ => ?_) | (with_reducible refine bind_some (number_some n v) fun _ => ?_) | (with_reducible refine bind_some (fields_some n v hn hm) fun _ => ?_) | with_reducible refine cond_some (fun _ => ?_) fun _ => ?_
theorem vcheck_some (n : Nat) (v : ApiValue) (hn : vw v < n) (hm : vw v < 9223372036854775807) : (value_Check n v).isSome = true := by
  rw [value_Check_eq]
  refine bind_some (vsize_some n n v (by omega) hn hm) fun _ => cond_some (fun _ => rfl) fun _ => bind_some (vdeep_some n n v (by omega) hn hm) fun _ => cond_some (fun _ => rfl) fun _ => bind_some (node_some n n v true (by omega) hn hm) fun _ => rfl

/-! ### The order of values -/
def icmp (x y : Int) : Int := bif decide (x < y) then -1 else bif decide (x > y) then 1 else 0
def or2 (a b : Int) : Int := bif !decide (a = 0) then a else b
def Tr3 (x y z : Int) : Prop := (x ≤ 0 → y ≤ 0 → z ≤ 0) ∧ (x ≤ 0 → y ≤ 0 → z = 0 → x = 0 ∧ y = 0) ∧ (x = 0 → y = 0 → z = 0)
theorem icmp_val (x y : Int) : (x < y ∧ icmp x y = -1) ∨ (x = y ∧ icmp x y = 0) ∨ (y < x ∧ icmp x y = 1) := by
  unfold icmp
  rcases Int.lt_trichotomy x y with h | h | h
  · exact .inl ⟨h, by simp [h]⟩
  · exact .inr (.inl ⟨h, by simp [h]⟩)
  · exact .inr (.inr ⟨h, by rw [decide_eq_false (by omega), decide_eq_true h]; rfl⟩)
theorem icmp_anti (x y : Int) : icmp y x = -icmp x y := by
  rcases icmp_val x y with ⟨h, e⟩ | ⟨h, e⟩ | ⟨h, e⟩ <;> rcases icmp_val y x with ⟨h', e'⟩ | ⟨h', e'⟩ | ⟨h', e'⟩ <;> omega
theorem icmp_tr (x y z : Int) : Tr3 (icmp x y) (icmp y z) (icmp x z) := by
  rcases icmp_val x y with ⟨h, e⟩ | ⟨h, e⟩ | ⟨h, e⟩ <;> rcases icmp_val y z with ⟨h', e'⟩ | ⟨h', e'⟩ | ⟨h', e'⟩ <;> rcases icmp_val x z with ⟨h2, e2⟩ | ⟨h2, e2⟩ | ⟨h2, e2⟩ <;>
    rw [e, e', e2] <;> refine ⟨?_, ?_, ?_⟩ <;> intros <;> first | omega | (refine ⟨?_, ?_⟩ <;> omega)
theorem or2_val (a b : Int) : (a ≠ 0 ∧ or2 a b = a) ∨ (a = 0 ∧ or2 a b = b) := by
  unfold or2
  by_cases h : a = 0
  · exact .inr ⟨h, by simp [h]⟩
  · exact .inl ⟨h, by simp [h]⟩
theorem or2_neg {a b a' b' : Int} (h : a' = -a) (h' : b' = -b) : or2 a' b' = -or2 a b := by
  rcases or2_val a b with ⟨h1, e⟩ | ⟨h1, e⟩ <;> rcases or2_val a' b' with ⟨h2, e'⟩ | ⟨h2, e'⟩ <;> omega
theorem or2_tr {x y z x' y' z' : Int} (h : Tr3 x y z) (h' : Tr3 x' y' z') : Tr3 (or2 x x') (or2 y y') (or2 z z') := by
  obtain ⟨a1, a2, a3⟩ := h
  obtain ⟨b1, b2, b3⟩ := h'
  rcases or2_val x x' with ⟨h1, e1⟩ | ⟨h1, e1⟩ <;> rcases or2_val y y' with ⟨h2, e2⟩ | ⟨h2, e2⟩ <;> rcases or2_val z z' with ⟨h3, e3⟩ | ⟨h3, e3⟩ <;>
    rw [e1, e2, e3] <;> refine ⟨?_, ?_, ?_⟩ <;> intros <;> first | omega | (refine ⟨?_, ?_⟩ <;> omega)
theorem cb_anti : ∀ a b : List UInt8, Go.Lib.compareBytes b a = -Go.Lib.compareBytes a b
  | [], [] => rfl
  | [], _ :: _ => rfl
  | _ :: _, [] => rfl
  | a :: xs, b :: ys => by
    simp only [Go.Lib.compareBytes]
    have := cb_anti xs ys
    by_cases h : a < b
    · have h2 : ¬ b < a := by rw [UInt8.lt_iff_toNat_lt] at h ⊢; omega
      rw [if_pos h, if_neg h2, if_pos h]; rfl
    · by_cases h2 : b < a
      · rw [if_pos h2, if_neg h, if_pos h2]
      · rw [if_neg h, if_neg h2, if_neg h2, if_neg h]; exact this
theorem cb_tr : ∀ a b c : List UInt8, Tr3 (Go.Lib.compareBytes a b) (Go.Lib.compareBytes b c) (Go.Lib.compareBytes a c)
  | [], [], [] => by simp [Go.Lib.compareBytes, Tr3]
  | [], [], _ :: _ => by simp [Go.Lib.compareBytes, Tr3]
  | [], _ :: _, [] => by simp [Go.Lib.compareBytes, Tr3]
  | [], _ :: _, _ :: _ => by simp [Go.Lib.compareBytes, Tr3]
  | _ :: _, [], [] => by simp [Go.Lib.compareBytes, Tr3]
  | _ :: _, [], _ :: _ => by simp [Go.Lib.compareBytes, Tr3]
  | _ :: _, _ :: _, [] => by simp [Go.Lib.compareBytes, Tr3]
  | a :: xs, b :: ys, c :: zs => by
    have ih := cb_tr xs ys zs
    have key : ∀ (a b : UInt8) (r : Int), (if a < b then (-1 : Int) else if b < a then 1 else r) = or2 (icmp a.toNat b.toNat) r := by
      intro a b r
      rcases icmp_val a.toNat b.toNat with ⟨h, e⟩ | ⟨h, e⟩ | ⟨h, e⟩
      · rw [if_pos (by rw [UInt8.lt_iff_toNat_lt]; omega), e]; rfl
      · rw [if_neg (by rw [UInt8.lt_iff_toNat_lt]; omega), if_neg (by rw [UInt8.lt_iff_toNat_lt]; omega), e]; rfl
      · rw [if_neg (by rw [UInt8.lt_iff_toNat_lt]; omega), if_pos (by rw [UInt8.lt_iff_toNat_lt]; omega), e]; rfl
    simp only [Go.Lib.compareBytes, key]
    exact or2_tr (icmp_tr _ _ _) ih

def ordF (x : Int) : Int := bif decide (x < 0) then IntKind.wrap .i64 ((-1 : Int) - (Fv.bits .and .i64 x 9223372036854775807)) else x
def keyN (v : ApiValue) : Int := bif decide (v.Kind = 3) then ordF v.N else v.N
mutual
def vcmp : ApiValue → ApiValue → Int
  | ⟨k, x, s, fs⟩, w => or2 (or2 (icmp k w.Kind) (or2 (icmp (bif decide (k = 3) then ordF x else x) (bif decide (k = 3) then ordF w.N else w.N)) (Go.Lib.compareBytes s w.S))) (fcmp fs w.Fields)
def fcmp : List ApiField → List ApiField → Int
  | [], l => bif l.isEmpty then 0 else -1
  | f :: r, l => match l with
    | [] => 1
    | g :: t => or2 (gcmp f g) (fcmp r t)
def gcmp : ApiField → ApiField → Int
  | ⟨nm, v⟩, g => or2 (Go.Lib.compareBytes nm g.Name) (vcmp v g.Val)
end
theorem vcmp_eq (v w : ApiValue) : vcmp v w = or2 (or2 (icmp v.Kind w.Kind) (or2 (icmp (bif decide (v.Kind = 3) then ordF v.N else v.N) (bif decide (v.Kind = 3) then ordF w.N else w.N)) (Go.Lib.compareBytes v.S w.S))) (fcmp v.Fields w.Fields) := by cases v; simp only [vcmp]
theorem gcmp_eq (f g : ApiField) : gcmp f g = or2 (Go.Lib.compareBytes f.Name g.Name) (vcmp f.Val g.Val) := by cases f; simp only [gcmp]
/-- The number by the kind of the one that has it. -/
theorem vcmp_key (v w : ApiValue) : vcmp v w = or2 (icmp v.Kind w.Kind) (or2 (or2 (icmp (keyN v) (keyN w)) (Go.Lib.compareBytes v.S w.S)) (fcmp v.Fields w.Fields)) := by
  rw [vcmp_eq]
  rcases icmp_val v.Kind w.Kind with ⟨h, e⟩ | ⟨h, e⟩ | ⟨h, e⟩
  · rw [e]; rfl
  · rw [e]
    unfold keyN
    rw [h]
    rfl
  · rw [e]; rfl
theorem vcmp_anti : ∀ v w : ApiValue, vcmp w v = -vcmp v w := by
  intro v
  refine val_ind (P := fun v => ∀ w, vcmp w v = -vcmp v w) (fun v ih w => ?_) v
  rw [vcmp_key v w, vcmp_key w v]
  refine or2_neg (icmp_anti _ _) (or2_neg (or2_neg (icmp_anti _ _) (cb_anti _ _)) ?_)
  have key : ∀ (l m : List ApiField), (∀ f ∈ l, ∀ w, vcmp w f.Val = -vcmp f.Val w) → fcmp m l = -fcmp l m := by
    intro l
    induction l with
    | nil => intro m _; cases m <;> simp [fcmp]
    | cons f l ihl =>
      intro m h
      cases m with
      | nil => simp [fcmp]
      | cons g m =>
        simp only [fcmp]
        refine or2_neg ?_ (ihl m fun x hx => h x (by simp [hx]))
        rw [gcmp_eq, gcmp_eq]
        exact or2_neg (cb_anti _ _) (h f (by simp) _)
  exact key _ _ ih
theorem vcmp_tr : ∀ v w x : ApiValue, Tr3 (vcmp v w) (vcmp w x) (vcmp v x) := by
  intro v
  refine val_ind (P := fun v => ∀ w x, Tr3 (vcmp v w) (vcmp w x) (vcmp v x)) (fun v ih w x => ?_) v
  rw [vcmp_key v w, vcmp_key w x, vcmp_key v x]
  refine or2_tr (icmp_tr _ _ _) (or2_tr (or2_tr (icmp_tr _ _ _) (cb_tr _ _ _)) ?_)
  have key : ∀ (l m p : List ApiField), (∀ f ∈ l, ∀ w x, Tr3 (vcmp f.Val w) (vcmp w x) (vcmp f.Val x)) → Tr3 (fcmp l m) (fcmp m p) (fcmp l p) := by
    intro l
    induction l with
    | nil => intro m p _; cases m <;> cases p <;> simp [fcmp, Tr3]
    | cons f l ihl =>
      intro m p h
      cases m with
      | nil => cases p <;> simp [fcmp, Tr3]
      | cons g m =>
        cases p with
        | nil => simp [fcmp, Tr3]
        | cons q p =>
          simp only [fcmp]
          refine or2_tr ?_ (ihl m p fun x hx => h x (by simp [hx]))
          rw [gcmp_eq, gcmp_eq, gcmp_eq]
          exact or2_tr (cb_tr _ _ _) (h f (by simp) _ _)
  exact key _ _ _ ih
theorem vcmp_refl (v : ApiValue) : vcmp v v = 0 := by have := vcmp_anti v v; omega

/-! ### The program's comparison -/
theorem compare_ok (n : Nat) (x y : Int) : cmp_Compare_int n x y = some (icmp x y) := by
  rw [cmp_Compare_int_eq, cmp_isNaN_int_eq, cmp_isNaN_int_eq]
  simp only [Option.bind_some, decide_true, Bool.not_true, cond_false]
  unfold icmp
  cases decide (x < y) <;> cases decide (x > y) <;> rfl
theorem or2_opt (a b : Int) : (bif !decide (a = 0) then some a else some b) = some (or2 a b) := by
  unfold or2
  cases decide (a = 0) <;> rfl
theorem or_ok (n : Nat) : ∀ l : List Int, l.length < n → l.length < 9223372036854775807 → cmp_Or_int n l = some (l.foldr or2 0) := by
  intro l hn hl
  rw [cmp_Or_int_eq]
  have := cmp_Or_int_l0_fold n 0 l hl n 0 (by omega) (by omega)
  rw [show ((0 : Nat) : Int) = 0 from rfl] at this
  rw [this, List.drop_zero]
  have key : ∀ (l : List Int) (i : Nat), foldK (S := Unit) (fun i (a : Int) s K => (bif (!decide (a = 0)) then (some a) else (K ()))) (fun s => (some (0 : Int))) l i () = some (l.foldr or2 0) := by
    intro l
    induction l with
    | nil => intro i; rfl
    | cons a l ih =>
      intro i
      rw [foldK_cons]
      dsimp only
      rw [ih, List.foldr_cons]
      exact or2_opt _ _
  exact key l 0
theorem or2_zero (a : Int) : or2 a 0 = a := by rcases or2_val a 0 with ⟨_, e⟩ | ⟨h, e⟩ <;> omega
theorem bind_ret {α : Type} (o : Option α) : (o.bind fun r => some r) = o := by cases o <;> rfl
theorem vcmp_ok (n : Nat) (hn3 : 3 < n) : ∀ (k : Nat) (v w : ApiValue) (d : Nat), vw v ≤ k → 3 * vw v ≤ d → vw v < n → vw v < 9223372036854775807 → value_Cmp d n v w = some (vcmp v w)
  | 0, v, w, d, h, _, _, _ => by have := vw_eq v; omega
  | k + 1, v, w, d, h, hd, hn, hm => by
    have hl := (vw_len v).1
    have hv0 := vw_eq v
    obtain ⟨d, rfl⟩ : ∃ e, d = e + 3 := ⟨d - 3, by omega⟩
    have hfun : slices_CompareFunc_Field_by_value_Cmp_1 (d + 2) n v.Fields w.Fields () = some (fcmp v.Fields w.Fields) := by
      rw [slices_CompareFunc_Field_by_value_Cmp_1_eq]
      have := slices_CompareFunc_Field_by_value_Cmp_1_l0_fold (d + 1) n v.Fields w.Fields v.Fields (by omega) n 0 (by omega) (by omega)
      rw [show ((0 : Nat) : Int) = 0 from rfl] at this
      rw [this]
      have key : ∀ (c i : Nat), c = v.Fields.length - i → i ≤ v.Fields.length → i ≤ w.Fields.length ∨ True → foldK (S := Unit) (fun i (a : ApiField) s K => (bif (decide ((i : Int) ≥ (List.length w.Fields : Int))) then (some 1) else (bif (decide (0 ≤ (i : Int)) && decide ((i : Int) < List.length w.Fields)) then (Option.bind (value_Cmp_1 (d + 1) n a (List.getD w.Fields (Int.toNat (i : Int)) (ApiField.mk [] (ApiValue.mk 0 0 [] [])))) fun r1 => (bif (!decide (r1 = 0)) then (some r1) else (K ()))) else none))) (fun s => (bif (decide ((List.length v.Fields : Int) < (List.length w.Fields : Int))) then (some (-1)) else (some 0))) (List.drop i v.Fields) i () = some (fcmp (v.Fields.drop i) (w.Fields.drop i)) := by
        intro c
        induction c with
        | zero =>
          intro i hc hi _
          rw [List.drop_eq_nil_of_le (by omega : v.Fields.length ≤ i), foldK_nil]
          by_cases h1 : v.Fields.length < w.Fields.length
          · rw [decide_eq_true (by omega), List.drop_eq_getElem_cons (by omega : i < w.Fields.length)]
            rfl
          · rw [decide_eq_false (by omega), List.drop_eq_nil_of_le (by omega : w.Fields.length ≤ i)]
            rfl
        | succ c ih =>
          intro i hc hi _
          have hlt : i < v.Fields.length := by omega
          rw [List.drop_eq_getElem_cons hlt, foldK_cons]
          by_cases h1 : i < w.Fields.length
          · rw [decide_eq_false (by omega), inR h1, cond_false, cond_true, show Int.toNat (i : Int) = i from rfl, getD_lt _ h1, List.drop_eq_getElem_cons h1, value_Cmp_1_eq]
            have hv := vw_lt (List.getElem_mem hlt)
            rw [vcmp_ok n hn3 k _ _ d (by omega) (by omega) (by omega) (by omega), Option.bind_some, or_ok n _ (by simp; omega) (by simp), Option.bind_some, Option.bind_some]
            dsimp only
            rw [ih (i + 1) (by omega) (by omega) (.inr trivial)]
            simp only [fcmp, List.foldr_cons, List.foldr_nil, or2_zero]
            rw [← gcmp_eq]
            exact or2_opt _ _
          · rw [decide_eq_true (by omega), List.drop_eq_nil_of_le (by omega : w.Fields.length ≤ i)]
            rfl
      exact key _ 0 rfl (Nat.zero_le _) (.inr trivial)
    rw [value_Cmp_eq, hfun, vcmp_eq, value_order_eq, value_order_eq]
    have e1 : ∀ x : Int, (bif (decide (x < 0)) then (some (IntKind.wrap .i64 ((-1 : Int) - (Fv.bits .and .i64 x 9223372036854775807)))) else (some x)) = some (ordF x) := fun x => by
      unfold ordF; cases decide (x < 0) <;> rfl
    rw [e1, e1]
    simp only [compare_ok, Option.bind_some]
    rw [or_ok n _ (by simp; omega) (by simp), or_ok n _ (by simp; omega) (by simp)]
    simp only [Option.bind_some, List.foldr_cons, List.foldr_nil, or2_zero]
    cases decide (v.Kind = 3) <;> exact or2_opt _ _

/-! ### Rows -/
def LV (l : List ApiValue) : ApiValue := ApiValue.mk 8 0 [] (l.map fun v => ApiField.mk [] v)
def lw (l : List ApiValue) : Nat := vw (LV l)
theorem lw_nil : lw [] = 1 := by simp [lw, LV, vw, fw]
theorem lw_cons (v : ApiValue) (l : List ApiValue) : lw (v :: l) = vw v + 1 + lw l := by
  simp [lw, LV, vw, fw, gw]; omega
theorem lw_len : ∀ l : List ApiValue, l.length < lw l
  | [] => by rw [lw_nil]; simp
  | v :: l => by have := lw_len l; rw [lw_cons, List.length_cons]; have := vw_eq v; omega
theorem lw_mem {v : ApiValue} : ∀ {l : List ApiValue}, v ∈ l → vw v < lw l
  | [], h => by simp at h
  | w :: l, h => by
    rw [lw_cons]
    rcases List.mem_cons.1 h with rfl | h
    · omega
    · have := lw_mem h; omega
def rcmp (a b : List ApiValue) : Int := vcmp (LV a) (LV b)
theorem rcmp_f (a b : List ApiValue) : rcmp a b = fcmp (a.map fun v => ApiField.mk [] v) (b.map fun v => ApiField.mk [] v) := by
  unfold rcmp
  rw [vcmp_eq]
  rfl
theorem rcmp_nn : rcmp [] [] = 0 := by rw [rcmp_f]; simp [fcmp]
theorem rcmp_nc (w : ApiValue) (b : List ApiValue) : rcmp [] (w :: b) = -1 := by rw [rcmp_f]; simp [fcmp]
theorem rcmp_cn (v : ApiValue) (a : List ApiValue) : rcmp (v :: a) [] = 1 := by rw [rcmp_f]; simp [fcmp]
theorem rcmp_cc (v w : ApiValue) (a b : List ApiValue) : rcmp (v :: a) (w :: b) = or2 (vcmp v w) (rcmp a b) := by
  rw [rcmp_f, rcmp_f]
  simp only [List.map_cons, fcmp, gcmp_eq]
  rfl
theorem rcmp_anti (a b : List ApiValue) : rcmp b a = -rcmp a b := vcmp_anti _ _
theorem rcmp_tr (a b c : List ApiValue) : Tr3 (rcmp a b) (rcmp b c) (rcmp a c) := vcmp_tr _ _ _
theorem rcmp_ok (n : Nat) (a b : List ApiValue) (h : 3 * lw a < n) (hm : lw a < 4611686018427387904) : rel_Cmp n a b = some (rcmp a b) := by
  have hl := lw_len a
  rw [rel_Cmp_eq]
  have hmn : mnI (a.length : Int) (b.length : Int) = ((min a.length b.length : Nat) : Int) := by
    unfold mnI
    by_cases h : b.length < a.length
    · rw [decide_eq_true (by omega), Nat.min_eq_right (by omega)]; rfl
    · rw [decide_eq_false (by omega), Nat.min_eq_left (by omega)]; rfl
  rw [hmn]
  have key : ∀ (c i m : Nat), c = min a.length b.length - i → i ≤ min a.length b.length → c < m → rel_Cmp_l0 n m a b ((min a.length b.length : Nat) : Int) (i : Int) = some (rcmp (a.drop i) (b.drop i)) := by
    intro c
    induction c with
    | zero =>
      intro i m hc hi hm'
      obtain ⟨m, rfl⟩ : ∃ k, m = k + 1 := ⟨m - 1, by omega⟩
      rw [rel_Cmp_l0_eq, decide_eq_false (by omega), cond_false, compare_ok, Option.bind_some]
      congr 1
      rcases Nat.lt_trichotomy a.length b.length with h1 | h1 | h1
      · rw [List.drop_eq_nil_of_le (by omega : a.length ≤ i), List.drop_eq_getElem_cons (by omega : i < b.length), rcmp_nc]
        rcases icmp_val a.length b.length with ⟨_, e⟩ | ⟨_, e⟩ | ⟨_, e⟩ <;> omega
      · rw [List.drop_eq_nil_of_le (by omega : a.length ≤ i), List.drop_eq_nil_of_le (by omega : b.length ≤ i), rcmp_nn]
        rcases icmp_val a.length b.length with ⟨_, e⟩ | ⟨_, e⟩ | ⟨_, e⟩ <;> omega
      · rw [List.drop_eq_getElem_cons (by omega : i < a.length), List.drop_eq_nil_of_le (by omega : b.length ≤ i), rcmp_cn]
        rcases icmp_val a.length b.length with ⟨_, e⟩ | ⟨_, e⟩ | ⟨_, e⟩ <;> omega
    | succ c ih =>
      intro i m hc hi hm'
      obtain ⟨m, rfl⟩ : ∃ k, m = k + 1 := ⟨m - 1, by omega⟩
      have h1 : i < a.length := by omega
      have h2 : i < b.length := by omega
      rw [rel_Cmp_l0_eq, decide_eq_true (by omega), inR h1, inR h2, cond_true, cond_true, cond_true, show Int.toNat (i : Int) = i from rfl, getD_lt _ h1, getD_lt _ h2]
      have hv := lw_mem (List.getElem_mem h1)
      rw [vcmp_ok n (by omega) _ _ _ n (Nat.le_refl _) (by omega) (by omega) (by omega), Option.bind_some, i64_succ (by omega), ih (i + 1) m (by omega) (by omega) (by omega), List.drop_eq_getElem_cons h1, List.drop_eq_getElem_cons h2, rcmp_cc]
      exact or2_opt _ _
  have := key _ 0 n rfl (Nat.zero_le _) (by omega)
  exact this
theorem appOK {α : Type} (s : List α) (x : α) (h : s.length < 4294967296) : (decide (List.length s = List.length s) && decide (List.length s + List.length [x] ≤ 4294967296)) = true := by
  rw [decide_eq_true (rfl : List.length s = List.length s), decide_eq_true (show List.length s + List.length [x] ≤ 4294967296 by simp only [List.length_singleton]; omega)]
  rfl
theorem order1_ok (n : Nat) (a : List ApiValue) (hn : a.length < n) (hm : a.length < 4294967296) : ref2_Order_1 n a = some (LV a) := by
  rw [ref2_Order_1_eq]
  have := ref2_Order_1_l0_fold n a (ApiValue.mk 0 0 [] []) 8 0 [] [] (by omega) n 0 (by omega) (by omega)
  rw [show ((0 : Nat) : Int) = 0 from rfl] at this
  rw [this, List.drop_zero]
  have key : ∀ (l : List ApiValue) (i : Nat) (s : List ApiField), s.length + l.length < 4294967296 → foldK (S := (List ApiField)) (fun i (a : ApiValue) s K => (bif (decide ((List.length s) = List.length s) && decide (List.length s + List.length ([(ApiField.mk [] a)] : List ApiField) ≤ 4294967296)) then (K (s ++ [(ApiField.mk [] a)])) else none)) (fun s => (some (ApiValue.mk 8 0 [] s))) l i s = some (ApiValue.mk 8 0 [] (s ++ l.map fun v => ApiField.mk [] v)) := by
    intro l
    induction l with
    | nil => intro i s _; simp [foldK]
    | cons v l ih =>
      intro i s hs
      rw [foldK_cons, appOK s _ (by omega), cond_true]
      dsimp only
      rw [ih (i + 1) _ (by simp at hs ⊢; omega)]
      simp
  exact key a 0 [] (by simpa using hm)
theorem order_ok (n : Nat) (a b : List ApiValue) (ha : 3 * lw a < n) (hb : b.length < n) (hma : lw a < 4611686018427387904) (hla : a.length < 4294967296) (hmb : b.length < 4294967296) : ref2_Order n a b = some (rcmp a b) := by
  have := lw_len a
  rw [ref2_Order_eq, order1_ok n a (by omega) (by omega), order1_ok n b hb hmb, Option.bind_some, Option.bind_some, vcmp_ok n (by omega) _ (LV a) _ n (Nat.le_refl _) (by have : lw a = vw (LV a) := rfl; omega) (by have : lw a = vw (LV a) := rfl; omega) (by have : lw a = vw (LV a) := rfl; omega), Option.bind_some]
  rfl

/-! ### Heads and rows -/
structure RB (B : Nat) (r : Rel) : Prop where
  nm : r.Name.length ≤ B
  cl : r.Cols.length ≤ B
  cn : ∀ c ∈ r.Cols, c.Name.length ≤ B
  kl : r.Key.length ≤ B
  rl : r.Rows.length ≤ B
  rw : ∀ l ∈ r.Rows, lw l ≤ B
theorem foldK_ix {A : Type} (p : A → Bool) (l : List A) : foldK (S := Unit) (fun i a _ K => bif p a then some (i : Int) else K ()) (fun _ => some (-1)) l 0 () = some (ixI p l) := by
  rw [foldK_idx]
  unfold ixI
  cases List.findIdx? p l <;> simp

/-! ### Keys that are alike -/
theorem sortO_ord {A : Type} (cmp : A → A → Option Int) (c : A → A → Int) (ha : ∀ a b, c b a = -c a b) (ht : ∀ a b d, Tr3 (c a b) (c b d) (c a d)) (xs : List A) (hl : xs.length < 4611686018427387904) (h : ∀ a ∈ xs, ∀ b ∈ xs, cmp a b = some (c a b)) :
    ∃ ys, sortO cmp xs = some ys ∧ ys.Perm xs ∧ ys.Pairwise fun a b => c a b ≤ 0 := by
  cases xs with
  | nil => exact ⟨[], rfl, .nil, .nil⟩
  | cons x t =>
    have hcf : ∀ i j : Fin (t.length + 1), cmp ((x :: t).get i) ((x :: t).get j) = some (cfOf cmp x t i j) ∧ cfOf cmp x t i j = c ((x :: t).get i) ((x :: t).get j) := by
      intro i j
      have h1 := h _ (List.get_mem (x :: t) i) _ (List.get_mem (x :: t) j)
      have e : cfOf cmp x t i j = c ((x :: t).get i) ((x :: t).get j) := by
        show (cmp ((x :: t).get i) ((x :: t).get j)).getD 0 = _
        rw [h1]
        rfl
      rw [e]
      exact ⟨h1, rfl⟩
    have hlt : ∀ i j : Fin (t.length + 1), ltI (cfOf cmp x t) i j = decide (c ((x :: t).get i) ((x :: t).get j) < 0) := by
      intro i j
      show decide (cfOf cmp x t i j < 0) = _
      rw [(hcf i j).2]
    have hswo : Go.Sort.SWO (ltI (cfOf cmp x t)) := by
      refine ⟨fun i => ?_, fun i j k h1 h2 => ?_, fun i j k h1 h2 => ?_⟩
      · rw [hlt]
        have := ha ((x :: t).get i) ((x :: t).get i)
        exact decide_eq_false (by omega)
      · rw [hlt] at h1 h2 ⊢
        have h1 := of_decide_eq_true h1
        have h2 := of_decide_eq_true h2
        obtain ⟨t1, t2, _⟩ := ht ((x :: t).get i) ((x :: t).get j) ((x :: t).get k)
        have t1 := t1 (by omega) (by omega)
        have t2 := t2 (by omega) (by omega)
        exact decide_eq_true (by omega)
      · rw [hlt] at h1 h2 ⊢
        have h1 := of_decide_eq_false h1
        have h2 := of_decide_eq_false h2
        obtain ⟨t1, t2, _⟩ := ht ((x :: t).get k) ((x :: t).get j) ((x :: t).get i)
        have a1 := ha ((x :: t).get i) ((x :: t).get j)
        have a2 := ha ((x :: t).get j) ((x :: t).get k)
        have a3 := ha ((x :: t).get i) ((x :: t).get k)
        have t1 := t1 (by omega) (by omega)
        exact decide_eq_false (by omega)
    obtain ⟨p1, p2, p3⟩ := swo_pdq hswo
    refine ⟨(pdqL (cfOf cmp x t)).map fun i => (x :: t).get i, ?_, ?_, ?_⟩
    · rw [sortO, if_pos ⟨by simpa using hl, fun i j => by rw [(hcf i j).1]; rfl, hswo⟩]
    · have e : (List.ofFn (n := t.length + 1) id).map (fun i => (x :: t).get i) = x :: t := by
        apply List.ext_getElem
        · simp
        · intro i h1 h2
          simp only [List.getElem_map, List.getElem_ofFn, id, List.get_eq_getElem]
      have := p1.map fun i => (x :: t).get i
      rwa [e] at this
    · rw [List.pairwise_map, List.pairwise_iff_getElem]
      intro i j hi hj hij
      have := p3 i j hi hj hij
      rw [hlt] at this
      have := of_decide_eq_false this
      have a1 := ha ((x :: t).get (pdqL (cfOf cmp x t))[i]) ((x :: t).get (pdqL (cfOf cmp x t))[j])
      omega
structure Big (B n : Nat) : Prop where
  b : B < 4000000000
  n1 : 3 * (B * (B + 1) + 1) + 3 * B + 100 < n
  m1 : B * (B + 1) + 1 < 4611686018427387904

def fullT (k : Int) : ApiType := bif decide (k = 1) then ApiType.mk k [] 0 1 [] [] else bif decide (k = 2) then ApiType.mk k [] (-9007199254740992) 9007199254740992 [] [] else bif decide (k = 4) then ApiType.mk k [] 0 4194304 [] [] else bif decide (k = 5) then ApiType.mk k [] 0 0 [46, 42] [] else ApiType.mk k [] 0 0 [] []
theorem full_ok (n : Nat) (k : Int) : rel_Full n k = some (fullT k) := by
  rw [rel_Full_eq]
  unfold fullT
  cases decide (k = 1) <;> cases decide (k = 2) <;> cases decide (k = 4) <;> cases decide (k = 5) <;> rfl
theorem type_ok (n : Nat) (r : Rel) (hl : r.Cols.length < 4294967296) (hn : r.Cols.length < n) : rel_Type n r = some (ApiType.mk 6 [] 0 0 [] (r.Cols.map fun c => Part.mk c.Name (fullT c.Kind))) := by
  have f := rel_Type_l0_fold n r.Cols (ApiType.mk 0 [] 0 0 [] []) 6 [] 0 0 [] [] (by omega) n 0 (Nat.zero_le _) (by omega)
  rw [show ((0 : Nat) : Int) = 0 from rfl] at f
  rw [rel_Type_eq, f, List.drop_zero]
  have key : ∀ (l : List Col) (i : Nat) (s : List Part), s.length + l.length < 4294967296 → foldK (S := (List Part)) (fun i (a : Col) s K => (Option.bind (rel_Full n (a.Kind)) fun r1 => (bif (decide ((List.length s) = List.length s) && decide (List.length s + List.length ([(Part.mk (a.Name) r1)] : List Part) ≤ 4294967296)) then (K (s ++ [(Part.mk (a.Name) r1)])) else none))) (fun s => (some (ApiType.mk 6 [] 0 0 [] s))) l i s = some (ApiType.mk 6 [] 0 0 [] (s ++ l.map fun c => Part.mk c.Name (fullT c.Kind))) := by
    intro l
    induction l with
    | nil => intro i s _; simp [foldK]
    | cons c l ih =>
      intro i s hs
      rw [foldK_cons, full_ok, bind_some2, appOK s _ (by simp at hs; omega), cond_true]
      dsimp only
      rw [ih (i + 1) _ (by simp at hs ⊢; omega)]
      simp
  exact key r.Cols 0 [] (by simpa using hl)
theorem rels_ok (n : Nat) (hn : 5 < n) : law2_rels n = some true := by
  rw [law2_rels_eq, type_ok n _ (by simp) (by simp; omega), bind_some2, rel_Check_eq, rel_head_eq, value_Name_eq]
  rfl

/-! ### What is handed over -/
def bV (g : Nat) (v : ApiValue) : Nat := BulkN E g 1 v
def bF (g : Nat) (f : ApiField) : Nat := BulkN E g 2 f
def bC (g : Nat) (c : Col) : Nat := BulkN E g 0 c
def bR (g : Nat) (r : Rel) : Nat := BulkN E g 3 r
theorem bV_eq (g : Nat) (v : ApiValue) : bV (g + 1) v = 1 + (1 + ((v.S.length + 1) + ((v.Fields.map (bF g)).sum + 1))) := rfl
theorem bF_eq (g : Nat) (f : ApiField) : bF (g + 1) f = (f.Name.length + 1) + bV g f.Val := rfl
theorem bC_eq (g : Nat) (c : Col) : bC (g + 1) c = (c.Name.length + 1) + 1 := rfl
theorem bR_eq (g : Nat) (r : Rel) : bR (g + 1) r = (r.Name.length + 1) + (((r.Cols.map (bC g)).sum + 1) + (((r.Key.map fun s : List UInt8 => s.length + 1).sum + 1) + ((r.Rows.map fun l : List ApiValue => (l.map (bV g)).sum + 1).sum + 1))) := rfl
theorem vw_bulk : ∀ (k : Nat) (v : ApiValue) (g : Nat), vw v ≤ k → 2 * k ≤ g → vw v + 1 ≤ bV g v
  | 0, v, g, h, _ => by have := vw_eq v; omega
  | k + 1, v, g, h, hg => by
    obtain ⟨g, rfl⟩ : ∃ e, g = e + 2 := ⟨g - 2, by omega⟩
    have key : ∀ l : List ApiField, (∀ f ∈ l, vw f.Val ≤ k) → fw l ≤ (l.map (bF (g + 1))).sum := by
      intro l
      induction l with
      | nil => intro _; simp [fw]
      | cons f l ih =>
        intro hl
        have := ih fun x hx => hl x (by simp [hx])
        have := vw_bulk k f.Val g (hl f (by simp)) (by omega)
        have := gw_eq f
        have e3 := bF_eq g f
        rw [List.map_cons, List.sum_cons]
        simp only [fw]
        omega
    have := key v.Fields fun f hf => by have := (vw_lt hf).1; omega
    have := vw_eq v
    have : bV (g + 2) v = _ := bV_eq (g + 1) v
    omega
theorem lw_le {f : ApiValue → Nat} : ∀ l : List ApiValue, (∀ v ∈ l, vw v + 1 ≤ f v) → lw l ≤ (l.map f).sum + 1
  | [], _ => by rw [lw_nil]; simp
  | v :: l, h => by
    have := lw_le l fun x hx => h x (by simp [hx])
    have := h v (by simp)
    rw [lw_cons, List.map_cons, List.sum_cons]
    omega
theorem row_bulk {l : List ApiValue} {N : Nat} (h : ∀ g, (l.map (bV g)).sum + 1 ≤ N) : lw l ≤ N := by
  have h := h (2 * lw l)
  have := lw_le (f := bV (2 * lw l)) l fun v hv => vw_bulk (lw l) v _ (by have := lw_mem hv; omega) (Nat.le_refl _)
  omega
theorem rel_bulk {r : Rel} {N : Nat} (h : ∀ g, bR g r ≤ N) : RB N r := by
  have h2 := h 2
  rw [bR_eq] at h2
  have k1 := sum_gm (bC 1) r.Cols fun c _ => by rw [bC_eq]; omega
  have k2 := sum_gm (fun s : List UInt8 => s.length + 1) r.Key fun s _ => by omega
  have k3 := sum_gm (fun l : List ApiValue => (l.map (bV 1)).sum + 1) r.Rows fun s _ => by omega
  refine ⟨by omega, by omega, fun c hc => ?_, by omega, by omega, fun l hl => ?_⟩
  · have : bC 1 c ≤ (r.Cols.map (bC 1)).sum := mem_sum (List.mem_map.2 ⟨c, hc, rfl⟩)
    rw [bC_eq] at this
    omega
  · refine row_bulk fun g => ?_
    have h3 := h (g + 1)
    rw [bR_eq] at h3
    have : (l.map (bV g)).sum + 1 ≤ (r.Rows.map fun l : List ApiValue => (l.map (bV g)).sum + 1).sum := mem_sum (List.mem_map.2 ⟨l, hl, rfl⟩)
    omega
theorem base_bulk {b : List Rel} {N : Nat} (h : ∀ g, (b.map (bR g)).sum + 1 ≤ N) : b.length ≤ N ∧ ∀ r ∈ b, RB N r := by
  refine ⟨?_, fun r hr => rel_bulk fun g => ?_⟩
  · have := h 1
    have k := sum_gm (bR 1) b fun r _ => by rw [bR_eq]; omega
    omega
  · have h1 := h g
    have : bR g r ≤ (b.map (bR g)).sum := mem_sum (List.mem_map.2 ⟨r, hr, rfl⟩)
    omega
theorem big_ex : ∃ n, Big 1048576 n := by
  obtain ⟨n, hn⟩ : ∃ n : Nat, 3 * (1048576 * (1048576 + 1) + 1) + 3 * 1048576 + 100 < n := ⟨_, Nat.lt_succ_self _⟩
  exact ⟨n, by decide, hn, by decide⟩

/-! ### Copies -/
theorem clone_ok (n : Nat) (l : List ApiField) (h : l.length < 4294967296) : slices_Clone_Field_nn n l = some l := by
  rw [slices_Clone_Field_nn_eq, decide_eq_true (by simp : 0 = List.length ([] : List ApiField)), decide_eq_true (by simp; omega : List.length ([] : List ApiField) + List.length l ≤ 4294967296), decide_eq_true rfl]
  rfl
theorem copy_ok (n : Nat) : ∀ (k : Nat) (v : ApiValue) (d : Nat), vw v ≤ k → vw v ≤ d → vw v < n → vw v < 4294967296 → value_Copy d n v = some v
  | 0, v, d, h, _, _, _ => by have := vw_eq v; omega
  | k + 1, v, d, h, hd, hn, hm => by
    have hv0 := vw_eq v
    have hl := (vw_len v).1
    obtain ⟨d, rfl⟩ : ∃ e, d = e + 1 := ⟨d - 1, by omega⟩
    rw [value_Copy_eq, clone_ok n _ (by omega), bind_some2]
    have f := value_Copy_l0_fold d n v.Kind v.N v.S v.Fields.length (ApiValue.mk 0 0 [] []) v.Fields.length v.Fields (by omega) n 0 (Nat.zero_le _) (by omega)
    rw [show ((0 : Nat) : Int) = 0 from rfl] at f
    rw [f]
    have key : ∀ (c i : Nat), c + i = v.Fields.length → foldN (S := (List ApiField)) (fun i s K => (bif (decide (0 ≤ (i : Int)) && decide ((i : Int) < (v.Fields.length : Int))) then (bif (decide ((0 + (Int.toNat (i : Int))) < List.length s)) then (Option.bind (value_Copy d n ((List.getD s (0 + (Int.toNat (i : Int))) (ApiField.mk [] (ApiValue.mk 0 0 [] []))).Val)) fun r2 => (bif (decide (0 ≤ (i : Int)) && decide ((i : Int) < (v.Fields.length : Int))) then (bif (decide ((0 + (Int.toNat (i : Int))) < List.length s)) then (K (List.set s (0 + (Int.toNat (i : Int))) (ApiField.mk ((List.getD s (0 + (Int.toNat (i : Int))) (ApiField.mk [] (ApiValue.mk 0 0 [] []))).Name) r2))) else none) else none)) else none) else none)) (fun s => (bif (((decide (0 + v.Fields.length ≤ List.length s)) && true) && true) then (some (ApiValue.mk v.Kind v.N v.S (List.take v.Fields.length s))) else none)) c i v.Fields = some v := by
      intro c
      induction c with
      | zero =>
        intro i hc
        rw [foldN, decide_eq_true (by omega : 0 + v.Fields.length ≤ v.Fields.length), List.take_length]
        show some (ApiValue.mk v.Kind v.N v.S v.Fields) = some v
        cases v
        rfl
      | succ c ih =>
        intro i hc
        have hlt : i < v.Fields.length := by omega
        have hv := vw_lt (List.getElem_mem hlt)
        rw [foldN, inR hlt, show Int.toNat (i : Int) = i from rfl, Nat.zero_add i, decide_eq_true hlt, cond_true, cond_true, getD_lt _ hlt, copy_ok n k _ d (by omega) (by omega) (by omega) (by omega), bind_some2, cond_true, cond_true]
        have : v.Fields.set i (ApiField.mk v.Fields[i].Name v.Fields[i].Val) = v.Fields := by
          rw [show ApiField.mk v.Fields[i].Name v.Fields[i].Val = v.Fields[i] by cases v.Fields[i]; rfl]
          exact List.set_getElem_self hlt
        rw [this]
        exact ih (i + 1) (by omega)
    exact key _ 0 (by omega)


/-! ### Copies of relations, as rows -/
theorem cloneC_ok (n : Nat) (l : List Col) (h : l.length < 4294967296) : slices_Clone_Col_nn n l = some l := by
  rw [slices_Clone_Col_nn_eq, decide_eq_true (by simp; omega : List.length ([] : List Col) + List.length l ≤ 4294967296), decide_eq_true rfl]
  rfl
theorem cloneS_ok (n : Nat) (l : List (List UInt8)) (h : l.length < 4294967296) : slices_Clone_string_nn n l = some l := by
  rw [slices_Clone_string_nn_eq, decide_eq_true (by simp; omega : List.length ([] : List (List UInt8)) + List.length l ≤ 4294967296), decide_eq_true rfl]
  rfl
theorem copy2_ok {n : Nat} {l : List ApiValue} (hn : lw l < n) (hm : lw l < 4294967296) (m0 : Nat) (v3 v8 : List (List ApiValue)) (h3 : v3.length < 4294967296) (v9 v10 : Int) (w : List ApiValue) (hw : w.length = l.length) :
    rel_copies_l2 n m0 n l l.length v8 v9 v10 (l.length : Int) 0 v3 w = rel_copies_l0 n m0 v8 v9 (IntKind.wrap .i64 (v10 + 1)) (v3 ++ [l]) := by
  have hl := lw_len l
  have f := rel_copies_l2_fold n m0 l l.length v8 v9 v10 v3 w (by omega) n 0 (Nat.zero_le _) (by omega)
  rw [show ((0 : Nat) : Int) = 0 from rfl] at f
  rw [f]
  have key : ∀ (c i : Nat) (s : List ApiValue) (fin : List ApiValue → Option (List (List ApiValue))), c = l.length - i → i ≤ l.length → s.length = l.length → (∀ j (hj : j < l.length) (hs : j < s.length), j < i → s[j] = l[j]) → foldK (S := (List ApiValue)) (fun i (a : ApiValue) s K => (Option.bind (value_Copy n n a) fun r1 => (bif (decide (0 ≤ (i : Int)) && decide ((i : Int) < (l.length : Int))) then (bif (decide ((0 + (Int.toNat (i : Int))) < List.length s)) then (K (List.set s (0 + (Int.toNat (i : Int))) r1)) else none) else none))) fin (List.drop i l) i s = fin l := by
    intro c
    induction c with
    | zero =>
      intro i s fin hc hi hs hp
      rw [List.drop_eq_nil_of_le (by omega), foldK_nil]
      have : s = l := List.ext_getElem hs fun j h1 h2 => hp j h2 h1 (by omega)
      rw [this]
    | succ c ih =>
      intro i s fin hc hi hs hp
      have hlt : i < l.length := by omega
      have hv := lw_mem (List.getElem_mem hlt)
      rw [List.drop_eq_getElem_cons hlt, foldK_cons, copy_ok n _ _ n (Nat.le_refl _) (by omega) (by omega) (by omega), bind_some2, inR hlt, cond_true, show Int.toNat (i : Int) = i from rfl, Nat.zero_add i, decide_eq_true (by omega : i < s.length), cond_true]
      dsimp only
      refine ih (i + 1) _ fin (by omega) (by omega) (by simp [hs]) fun j hj hs' hji => ?_
      rw [List.getElem_set]
      split
      · rename_i h; subst h; rfl
      · exact hp j hj (by omega) (by omega)
  have hd : l = List.drop 0 l := rfl
  rw [key _ 0 w _ rfl (Nat.zero_le _) hw (fun j _ _ h => by omega), decide_eq_true (by omega : 0 + l.length ≤ l.length), List.take_length, Bool.and_self, cond_true, appOK v3 _ h3, cond_true]
theorem copies_ok {n : Nat} (l : List (List ApiValue)) (hl : l.length < n) (hm : l.length < 4294967296) (hw : ∀ x ∈ l, lw x < n ∧ lw x < 4294967296) : rel_copies n l = some l := by
  rw [rel_copies_eq]
  have key : ∀ (c i m : Nat), c = l.length - i → i ≤ l.length → c < m → rel_copies_l0 n m l (l.length : Int) (i : Int) (l.take i) = some l := by
    intro c
    induction c with
    | zero =>
      intro i m hc hi hm'
      obtain ⟨m, rfl⟩ : ∃ q, m = q + 1 := ⟨m - 1, by omega⟩
      rw [rel_copies_l0_eq, decide_eq_false (by omega), cond_false, List.take_of_length_le (by omega), decide_eq_true rfl, cond_true]
    | succ c ih =>
      intro i m hc hi hm'
      obtain ⟨m, rfl⟩ : ∃ q, m = q + 1 := ⟨m - 1, by omega⟩
      have hlt : i < l.length := by omega
      have hx := hw _ (List.getElem_mem hlt)
      have hll := lw_len l[i]
      rw [rel_copies_l0_eq, inR hlt, decide_eq_true (by omega), cond_true, cond_true, show Int.toNat (i : Int) = i from rfl, getD_lt _ hlt, show Int.toNat (l[i].length : Int) = l[i].length from rfl, decide_eq_true (by omega : (0 : Int) ≤ (l[i].length : Int)), decide_eq_true (Int.le_refl (l[i].length : Int)), decide_eq_true (by omega : (l[i].length : Int) ≤ 4294967296), Bool.and_self, Bool.and_self, cond_true, copy2_ok hx.1 hx.2 m _ _ (by simp; omega) _ _ _ (by simp), i64_succ (by omega)]
      rw [← List.take_succ_eq_append_getElem hlt]
      exact ih (i + 1) m (by omega) (by omega) (by omega)
  exact key _ 0 n rfl (Nat.zero_le _) (by omega)
theorem relcopy_ok {B n : Nat} {r : Rel} (hr : RB B r) (hB : B < 4294967296) (hn : B < n) : rel_Copy n r = some (r.Name, r.Cols, r.Key, r.Rows) := by
  have h1 := hr.cl
  have h2 := hr.kl
  have h3 := hr.rl
  rw [rel_Copy_eq, cloneC_ok n _ (by omega), bind_some2, cloneS_ok n _ (by omega), bind_some2, copies_ok _ (by omega) (by omega) fun x hx => by have := hr.rw x hx; omega, bind_some2, decide_eq_true rfl, cond_true]

/-! ### The same -/
theorem eqC_refl (n : Nat) (l : List Col) (hn : l.length < n) (hm : l.length < 4294967296) : slices_Equal_Col n l l = some true := by
  rw [slices_Equal_Col_eq, decide_eq_true rfl, Bool.not_true, cond_false]
  have f := slices_Equal_Col_l0_fold n l l (by omega) n 0 (Nat.zero_le _) (by omega)
  rw [show ((0 : Nat) : Int) = 0 from rfl] at f
  rw [f]
  refine foldK_case l (S := Unit) (fun _ _ => True) (fun o => o = some true) ?_ (fun _ _ => rfl) _ 0 rfl (Nat.zero_le _) _ trivial
  intro i hi _ _
  refine .inr ⟨(), trivial, fun K => ?_⟩
  rw [inR hi, cond_true, show Int.toNat (i : Int) = i from rfl, getD_lt _ hi, beq_self_eq_true, beq_self_eq_true, Bool.and_self, Bool.not_true, cond_false]
theorem eqStr_refl (n : Nat) (l : List (List UInt8)) (hn : l.length < n) (hm : l.length < 4294967296) : slices_Equal_string n l l = some true := by
  rw [slices_Equal_string_eq, decide_eq_true rfl, Bool.not_true, cond_false]
  have f := slices_Equal_string_l0_fold n l l (by omega) n 0 (Nat.zero_le _) (by omega)
  rw [show ((0 : Nat) : Int) = 0 from rfl] at f
  rw [f]
  refine foldK_case l (S := Unit) (fun _ _ => True) (fun o => o = some true) ?_ (fun _ _ => rfl) _ 0 rfl (Nat.zero_le _) _ trivial
  intro i hi _ _
  refine .inr ⟨(), trivial, fun K => ?_⟩
  rw [inR hi, cond_true, show Int.toNat (i : Int) = i from rfl, getD_lt _ hi, beq_self_eq_true, Bool.not_true, cond_false]
theorem samerel_refl {B n : Nat} {r : Rel} (hr : RB B r) (hB : B < 4294967296) (hn : 3 * B + 10 < n) : ref2_SameRel n r r = some true := by
  have h1 := hr.cl
  have h2 := hr.kl
  have h3 := hr.rl
  rw [ref2_SameRel_eq, beq_self_eq_true, Bool.not_true, cond_false, eqC_refl n _ (by omega) (by omega), bind_some2, Bool.not_true, cond_false, eqStr_refl n _ (by omega) (by omega), bind_some2, Bool.not_true, cond_false, decide_eq_true rfl, Bool.not_true, cond_false]
  have f := ref2_SameRel_l0_fold n r r r.Rows.length (by omega) n 0 (Nat.zero_le _) (by omega)
  rw [show ((0 : Nat) : Int) = 0 from rfl] at f
  rw [f]
  have key : ∀ (c i : Nat), c + i = r.Rows.length → foldN (S := Unit) (fun i s K => (bif (decide (0 ≤ (i : Int)) && decide ((i : Int) < List.length r.Rows)) then (bif (decide (0 ≤ (i : Int)) && decide ((i : Int) < List.length r.Rows)) then (Option.bind (ref2_Order n (List.getD r.Rows (Int.toNat (i : Int)) []) (List.getD r.Rows (Int.toNat (i : Int)) [])) fun r3 => (bif (!decide (r3 = 0)) then (some false) else (K ()))) else none) else none)) (fun s => (some true)) c i () = some true := by
    intro c
    induction c with
    | zero => intro i _; rfl
    | succ c ih =>
      intro i hc
      have hlt : i < r.Rows.length := by omega
      have hw := hr.rw _ (List.getElem_mem hlt)
      have hl := lw_len r.Rows[i]
      have ha := rcmp_anti r.Rows[i] r.Rows[i]
      rw [foldN, inR hlt, cond_true, cond_true, show Int.toNat (i : Int) = i from rfl, getD_lt _ hlt, order_ok n _ _ (by omega) (by omega) (by omega) (by omega) (by omega), bind_some2, decide_eq_true (by omega : rcmp r.Rows[i] r.Rows[i] = 0), Bool.not_true, cond_false]
      exact ih (i + 1) (by omega)
  exact key _ 0 (by omega)

/-! ### The same -/
theorem eqC_some (n : Nat) (l m : List Col) (hn : l.length < n) (hm : l.length < 4294967296) : ∃ b, slices_Equal_Col n l m = some b := by
  rw [slices_Equal_Col_eq]
  by_cases h : (l.length : Int) = (m.length : Int)
  · rw [decide_eq_true h, Bool.not_true, cond_false]
    have f := slices_Equal_Col_l0_fold n l m (by omega) n 0 (Nat.zero_le _) (by omega)
    rw [show ((0 : Nat) : Int) = 0 from rfl] at f
    rw [f]
    refine foldK_case l (S := Unit) (fun _ _ => True) (fun o => ∃ b, o = some b) ?_ (fun _ _ => ⟨_, rfl⟩) _ 0 rfl (Nat.zero_le _) _ trivial
    intro i hi _ _
    rw [inR (by omega : i < m.length)]
    simp only [cond_true]
    generalize (!((l[i].Name == (List.getD m (Int.toNat (i : Int)) (Col.mk [] 0)).Name) && (l[i].Kind == (List.getD m (Int.toNat (i : Int)) (Col.mk [] 0)).Kind))) = c
    cases c
    · exact .inr ⟨(), trivial, fun _ => rfl⟩
    · exact .inl ⟨some false, ⟨_, rfl⟩, fun _ => rfl⟩
  · rw [decide_eq_false h, Bool.not_false, cond_true]
    exact ⟨_, rfl⟩
theorem eqStr_some (n : Nat) (l m : List (List UInt8)) (hn : l.length < n) (hm : l.length < 4294967296) : ∃ b, slices_Equal_string n l m = some b := by
  rw [slices_Equal_string_eq]
  by_cases h : (l.length : Int) = (m.length : Int)
  · rw [decide_eq_true h, Bool.not_true, cond_false]
    have f := slices_Equal_string_l0_fold n l m (by omega) n 0 (Nat.zero_le _) (by omega)
    rw [show ((0 : Nat) : Int) = 0 from rfl] at f
    rw [f]
    refine foldK_case l (S := Unit) (fun _ _ => True) (fun o => ∃ b, o = some b) ?_ (fun _ _ => ⟨_, rfl⟩) _ 0 rfl (Nat.zero_le _) _ trivial
    intro i hi _ _
    rw [inR (by omega : i < m.length)]
    simp only [cond_true]
    generalize (!(l[i] == (List.getD m (Int.toNat (i : Int)) []))) = c
    cases c
    · exact .inr ⟨(), trivial, fun _ => rfl⟩
    · exact .inl ⟨some false, ⟨_, rfl⟩, fun _ => rfl⟩
  · rw [decide_eq_false h, Bool.not_false, cond_true]
    exact ⟨_, rfl⟩
/-- Rows that are alike. -/
def rall : List (List ApiValue) → List (List ApiValue) → Bool
  | a :: l, b :: m => decide (rcmp a b = 0) && rall l m
  | _, _ => true
theorem eqf_ok {B n : Nat} (hB : B < 4294967296) (hn : 3 * B + 10 < n) (l m : List (List ApiValue)) (hl : l.length ≤ B) (hw : ∀ x ∈ l, lw x ≤ B) (he : l.length = m.length) :
    slices_EqualFunc_LValue_by_rel_Same_1 n l m () = some (rall l m) := by
  rw [slices_EqualFunc_LValue_by_rel_Same_1_eq, decide_eq_true (by omega : (l.length : Int) = (m.length : Int)), Bool.not_true, cond_false]
  have f := slices_EqualFunc_LValue_by_rel_Same_1_l0_fold n m l (by omega) n 0 (Nat.zero_le _) (by omega)
  rw [show ((0 : Nat) : Int) = 0 from rfl] at f
  rw [f]
  have key : ∀ (c i : Nat), c + i = l.length → foldK (S := Unit) (fun i (a : (List ApiValue)) s K => (bif (decide (0 ≤ (i : Int)) && decide ((i : Int) < List.length m)) then (Option.bind (rel_Same_1 n a (List.getD m (Int.toNat (i : Int)) [])) fun r1 => (bif (!r1) then (some false) else (K ()))) else none)) (fun s => (some true)) (List.drop i l) i () = some (rall (l.drop i) (m.drop i)) := by
    intro c
    induction c with
    | zero =>
      intro i hc
      rw [List.drop_eq_nil_of_le (show l.length ≤ i by omega)]
      rfl
    | succ c ih =>
      intro i hc
      have hlt : i < l.length := by omega
      have hlt' : i < m.length := by omega
      have hx := hw _ (List.getElem_mem hlt)
      rw [List.drop_eq_getElem_cons hlt, List.drop_eq_getElem_cons hlt', foldK_cons, inR hlt', cond_true, show Int.toNat (i : Int) = i from rfl, getD_lt _ hlt', rel_Same_1_eq, rcmp_ok n _ _ (by omega) (by omega), bind_some2, bind_some2, rall]
      cases hd : decide (rcmp l[i] m[i] = 0) with
      | false => rfl
      | true =>
        rw [Bool.not_true, cond_false, Bool.true_and]
        exact ih (i + 1) (by omega)
  exact key l.length 0 rfl
theorem srl_ok {B n : Nat} (hB : B < 4294967296) (hn : 3 * B + 10 < n) (a b : Rel) (hl : a.Rows.length ≤ B) (hw : ∀ x ∈ a.Rows, lw x ≤ B) (hw' : ∀ x ∈ b.Rows, lw x ≤ B) (he : a.Rows.length = b.Rows.length) :
    ref2_SameRel_l0 n n (a.Rows.length : Int) 0 a b = some (rall a.Rows b.Rows) := by
  have f := ref2_SameRel_l0_fold n a b a.Rows.length (by omega) n 0 (Nat.zero_le _) (by omega)
  rw [show ((0 : Nat) : Int) = 0 from rfl] at f
  rw [f]
  have key : ∀ (c i : Nat), c + i = a.Rows.length → foldN (S := Unit) (fun i s K => (bif (decide (0 ≤ (i : Int)) && decide ((i : Int) < List.length a.Rows)) then (bif (decide (0 ≤ (i : Int)) && decide ((i : Int) < List.length b.Rows)) then (Option.bind (ref2_Order n (List.getD a.Rows (Int.toNat (i : Int)) []) (List.getD b.Rows (Int.toNat (i : Int)) [])) fun r3 => (bif (!decide (r3 = 0)) then (some false) else (K ()))) else none) else none)) (fun s => (some true)) c i () = some (rall (a.Rows.drop i) (b.Rows.drop i)) := by
    intro c
    induction c with
    | zero =>
      intro i hc
      rw [List.drop_eq_nil_of_le (show a.Rows.length ≤ i by omega)]
      rfl
    | succ c ih =>
      intro i hc
      have hlt : i < a.Rows.length := by omega
      have hlt' : i < b.Rows.length := by omega
      have hx := hw _ (List.getElem_mem hlt)
      have hy := hw' _ (List.getElem_mem hlt')
      have l1 := lw_len a.Rows[i]
      have l2 := lw_len b.Rows[i]
      rw [List.drop_eq_getElem_cons hlt, List.drop_eq_getElem_cons hlt', foldN, inR hlt, inR hlt', cond_true, cond_true, show Int.toNat (i : Int) = i from rfl, getD_lt _ hlt, getD_lt _ hlt', order_ok n _ _ (by omega) (by omega) (by omega) (by omega) (by omega), bind_some2, rall]
      cases hd : decide (rcmp a.Rows[i] b.Rows[i] = 0) with
      | false => rfl
      | true =>
        rw [Bool.not_true, cond_false, Bool.true_and]
        exact ih (i + 1) (by omega)
  exact key a.Rows.length 0 rfl
theorem same_ok {B n : Nat} (hB : B < 4294967296) (hn : 3 * B + 10 < n) {a b : Rel} (ha : RB B a) (hb : RB B b) : ∃ t, rel_Same n a b = some t ∧ ref2_SameRel n a b = some t := by
  have h1 := ha.cl
  have h2 := ha.kl
  have h3 := ha.rl
  obtain ⟨c, hc⟩ := eqC_some n a.Cols b.Cols (by omega) (by omega)
  obtain ⟨k, hk⟩ := eqStr_some n a.Key b.Key (by omega) (by omega)
  rw [rel_Same_eq, ref2_SameRel_eq, hc, hk, bind_some2, bind_some2, bind_some2, bind_some2]
  cases (a.Name == b.Name) with
  | false => exact ⟨_, rfl, rfl⟩
  | true =>
    cases c with
    | false => exact ⟨_, rfl, rfl⟩
    | true =>
      cases k with
      | false => exact ⟨_, rfl, rfl⟩
      | true =>
        simp only [Bool.not_true, cond_true, cond_false]
        by_cases he : a.Rows.length = b.Rows.length
        · rw [eqf_ok hB hn _ _ h3 ha.rw he, srl_ok hB hn a b h3 ha.rw hb.rw he, decide_eq_true (by omega : (a.Rows.length : Int) = (b.Rows.length : Int))]
          exact ⟨_, rfl, rfl⟩
        · rw [slices_EqualFunc_LValue_by_rel_Same_1_eq, decide_eq_false (by omega : ¬ (a.Rows.length : Int) = (b.Rows.length : Int))]
          exact ⟨_, rfl, rfl⟩
/-! ### What is found -/
theorem find_ok {B n : Nat} (hB : B < 4294967296) (hn : 3 * B + 10 < n) (b : List Rel) (s : List UInt8) (hl : b.length ≤ B) (hb : ∀ r ∈ b, RB B r) :
    (rel_Find n b s = some (Rel.mk [] [] [] [], false) ∧ ixI (fun a : Rel => a.Name == s) b = -1) ∨ ∃ i, ∃ hi : i < b.length, rel_Find n b s = some (b[i], true) ∧ ixI (fun a : Rel => a.Name == s) b = (i : Int) := by
  have f := rel_Find_l0_fold n s b (Rel.mk [] [] [] []) (by omega) n 0 (Nat.zero_le _) (by omega)
  rw [show ((0 : Nat) : Int) = 0 from rfl] at f
  rw [rel_Find_eq, f]
  have g := foldK_ix (fun a : Rel => a.Name == s) b
  have key : ∀ (c i : Nat), c + i = b.length → ∀ z, foldK (S := Unit) (fun i (a : Rel) _ K => bif a.Name == s then some (i : Int) else K ()) (fun _ => some (-1)) (b.drop i) i () = some z →
      (foldK (S := Unit) (fun i (a : Rel) s_ K => (bif ((a.Name) == s) then (Option.bind (rel_Copy n a) fun r1 => (bif (((decide ((List.length r1.2.2.2) = List.length r1.2.2.2)) && true) && true) then (some ((Rel.mk r1.1 r1.2.1 r1.2.2.1 r1.2.2.2), true)) else none)) else (K ()))) (fun s => (some ((Rel.mk [] [] [] []), false))) (List.drop i b) i () = some (Rel.mk [] [] [] [], false) ∧ z = -1) ∨
      ∃ j, ∃ hj : j < b.length, foldK (S := Unit) (fun i (a : Rel) s_ K => (bif ((a.Name) == s) then (Option.bind (rel_Copy n a) fun r1 => (bif (((decide ((List.length r1.2.2.2) = List.length r1.2.2.2)) && true) && true) then (some ((Rel.mk r1.1 r1.2.1 r1.2.2.1 r1.2.2.2), true)) else none)) else (K ()))) (fun s => (some ((Rel.mk [] [] [] []), false))) (List.drop i b) i () = some (b[j], true) ∧ z = (j : Int) := by
    intro c
    induction c with
    | zero =>
      intro i hc z hz
      rw [List.drop_eq_nil_of_le (show b.length ≤ i by omega)] at hz ⊢
      cases hz
      exact .inl ⟨rfl, rfl⟩
    | succ c ih =>
      intro i hc z hz
      have hlt : i < b.length := by omega
      rw [List.drop_eq_getElem_cons hlt, foldK_cons] at hz
      rw [List.drop_eq_getElem_cons hlt, foldK_cons]
      cases hnm : (b[i].Name == s) with
      | true =>
        rw [hnm, cond_true] at hz
        cases hz
        refine .inr ⟨i, hlt, ?_, rfl⟩
        rw [cond_true, relcopy_ok (hb _ (List.getElem_mem hlt)) hB (by omega), bind_some2, decide_eq_true rfl]
        rfl
      | false =>
        rw [hnm, cond_false] at hz
        rw [cond_false]
        exact ih (i + 1) (by omega) z hz
  exact key b.length 0 rfl _ g
theorem fidxr_ok (n : Nat) (b : List Rel) (s : List UInt8) (hl : b.length < 9223372036854775807) (hn : b.length < n) : slices_IndexFunc_Rel_by_law2_RelSorts_1 n b (s, ()) = some (ixI (fun a : Rel => a.Name == s) b) := by
  have h := slices_IndexFunc_Rel_by_law2_RelSorts_1_l0_fold n b s hl n 0 (Nat.zero_le _) (by omega)
  rw [show ((0 : Nat) : Int) = 0 from rfl] at h
  simp only [law2_RelSorts_1_eq, bind_some2] at h
  rw [slices_IndexFunc_Rel_by_law2_RelSorts_1_eq, h, List.drop_zero, foldK_ix fun a : Rel => a.Name == s]

/-! ### Rows in order, each once -/
def SS (l : List (List ApiValue)) : Prop := l.Pairwise fun a b => rcmp a b < 0
theorem rc_eq {a b c : List ApiValue} (h : rcmp a b = 0) (h' : rcmp b c = 0) : rcmp a c = 0 := (rcmp_tr a b c).2.2 h h'
theorem rc_lt1 {a b c : List ApiValue} (h : rcmp a b < 0) (h' : rcmp b c ≤ 0) : rcmp a c < 0 := by
  obtain ⟨t1, t2, _⟩ := rcmp_tr a b c
  have t1 := t1 (by omega) (by omega)
  have t2 := t2 (by omega) (by omega)
  omega
theorem rc_lt2 {a b c : List ApiValue} (h : rcmp a b ≤ 0) (h' : rcmp b c < 0) : rcmp a c < 0 := by
  obtain ⟨t1, t2, _⟩ := rcmp_tr a b c
  have t1 := t1 (by omega) (by omega)
  have t2 := t2 (by omega) (by omega)
  omega
theorem rc_self (a : List ApiValue) : rcmp a a = 0 := by have := rcmp_anti a a; omega
theorem ss_uniq : ∀ (l m : List (List ApiValue)), SS l → SS m → (∀ a ∈ l, ∃ b ∈ m, rcmp a b = 0) → (∀ b ∈ m, ∃ a ∈ l, rcmp a b = 0) → l.length = m.length ∧ rall l m = true
  | [], [], _, _, _, _ => ⟨rfl, rfl⟩
  | [], b :: m, _, _, _, h => by obtain ⟨a, ha, _⟩ := h b (by simp); simp at ha
  | a :: l, [], _, _, h, _ => by obtain ⟨b, hb, _⟩ := h a (by simp); simp at hb
  | a :: l, b :: m, hl, hm, h1, h2 => by
    obtain ⟨ha, hl⟩ := List.pairwise_cons.1 hl
    obtain ⟨hb, hm⟩ := List.pairwise_cons.1 hm
    have e0 : rcmp a b = 0 := by
      obtain ⟨b', hb', e1⟩ := h1 a (by simp)
      obtain ⟨a', ha', e2⟩ := h2 b (by simp)
      rcases List.mem_cons.1 hb' with rfl | hb'
      · exact e1
      · rcases List.mem_cons.1 ha' with rfl | ha'
        · exact e2
        · have x1 := hb b' hb'
          have x2 := ha a' ha'
          have x3 := rcmp_anti a b'
          have x4 := rc_lt1 x1 (by omega : rcmp b' a ≤ 0)
          have x5 := rc_lt1 x4 (by omega : rcmp a a' ≤ 0)
          have x6 := rcmp_anti a' b
          omega
    have k1 : ∀ a' ∈ l, ∃ b' ∈ m, rcmp a' b' = 0 := by
      intro a' ha'
      obtain ⟨b', hb', e1⟩ := h1 a' (by simp [ha'])
      rcases List.mem_cons.1 hb' with rfl | hb'
      · have x1 := ha a' ha'
        have x2 := rc_lt1 x1 (by omega : rcmp a' b' ≤ 0)
        omega
      · exact ⟨b', hb', e1⟩
    have k2 : ∀ b' ∈ m, ∃ a' ∈ l, rcmp a' b' = 0 := by
      intro b' hb'
      obtain ⟨a', ha', e1⟩ := h2 b' (by simp [hb'])
      rcases List.mem_cons.1 ha' with rfl | ha'
      · have x1 := hb b' hb'
        have x2 := rcmp_anti a' b'
        have x3 := rc_lt1 x1 (by omega : rcmp b' a' ≤ 0)
        have x4 := rcmp_anti a' b
        omega
      · exact ⟨a', ha', e1⟩
    obtain ⟨r1, r2⟩ := ss_uniq l m hl hm k1 k2
    exact ⟨by simp [r1], by rw [rall, r2, decide_eq_true e0]; rfl⟩
/-- What is kept behind an element. -/
def kp : List ApiValue → List (List ApiValue) → List (List ApiValue)
  | _, [] => []
  | p, x :: l => bif decide (rcmp x p = 0) then kp x l else x :: kp x l
theorem kp_mem : ∀ (p : List ApiValue) (l : List (List ApiValue)), ∀ x ∈ kp p l, x ∈ l
  | _, [], x, h => h
  | p, y :: l, x, h => by
    rw [kp] at h
    cases hd : decide (rcmp y p = 0) with
    | true => rw [hd] at h; exact List.mem_cons_of_mem _ (kp_mem y l x h)
    | false =>
      rw [hd] at h
      rcases List.mem_cons.1 h with rfl | h
      · simp
      · exact List.mem_cons_of_mem _ (kp_mem y l x h)
theorem kp_cov : ∀ (p : List ApiValue) (l : List (List ApiValue)), ∀ y ∈ l, ∃ x ∈ p :: kp p l, rcmp y x = 0
  | _, [], y, h => by simp at h
  | p, z :: l, y, h => by
    have ih : ∀ y ∈ z :: l, ∃ x ∈ z :: kp z l, rcmp y x = 0 := by
      intro y hy
      rcases List.mem_cons.1 hy with rfl | hy
      · exact ⟨y, by simp, rc_self y⟩
      · exact kp_cov z l y hy
    obtain ⟨x, hx, e⟩ := ih y h
    rw [kp]
    cases hd : decide (rcmp z p = 0) with
    | true =>
      simp only [cond_true]
      rcases List.mem_cons.1 hx with rfl | hx
      · exact ⟨p, by simp, rc_eq e (of_decide_eq_true hd)⟩
      · exact ⟨x, by simp [hx], e⟩
    | false => exact ⟨x, List.mem_cons_of_mem _ hx, e⟩
theorem kp_ss : ∀ (p : List ApiValue) (l : List (List ApiValue)), (p :: l).Pairwise (fun a b => rcmp a b ≤ 0) → SS (p :: kp p l)
  | p, [], _ => by simp [kp, SS]
  | p, z :: l, h => by
    obtain ⟨h1, h2⟩ := List.pairwise_cons.1 h
    have ih := kp_ss z l h2
    obtain ⟨i1, i2⟩ := List.pairwise_cons.1 ih
    have hz := h1 z (by simp)
    rw [kp]
    cases hd : decide (rcmp z p = 0) with
    | true =>
      simp only [cond_true]
      refine List.pairwise_cons.2 ⟨fun x hx => ?_, i2⟩
      exact rc_lt2 hz (i1 x hx)
    | false =>
      have hd := of_decide_eq_false hd
      have ha := rcmp_anti z p
      refine List.pairwise_cons.2 ⟨fun x hx => ?_, ih⟩
      have hzp : rcmp p z < 0 := by omega
      rcases List.mem_cons.1 hx with rfl | hx
      · exact hzp
      · have := i1 x hx
        exact rc_lt1 hzp (by omega)
def comp : List (List ApiValue) → List (List ApiValue)
  | [] => []
  | a :: l => a :: kp a l
/-- A row, put in at its place. -/
def insR (x : List ApiValue) : List (List ApiValue) → List (List ApiValue)
  | [] => [x]
  | a :: l => bif decide (rcmp a x < 0) then a :: insR x l else bif decide (rcmp a x = 0) then a :: l else x :: a :: l
theorem insR_mem (x : List ApiValue) : ∀ (l : List (List ApiValue)) (y : List ApiValue), y ∈ insR x l → y = x ∨ y ∈ l
  | [], y, h => by simpa [insR] using h
  | a :: l, y, h => by
    rw [insR] at h
    cases h1 : decide (rcmp a x < 0) with
    | true =>
      rw [h1, cond_true] at h
      rcases List.mem_cons.1 h with rfl | h
      · exact .inr (by simp)
      · exact (insR_mem x l y h).imp id fun h => List.mem_cons_of_mem _ h
    | false =>
      rw [h1, cond_false] at h
      cases h2 : decide (rcmp a x = 0) with
      | true => rw [h2, cond_true] at h; exact .inr h
      | false =>
        rw [h2, cond_false] at h
        exact List.mem_cons.1 h
theorem insR_old (x : List ApiValue) : ∀ (l : List (List ApiValue)) (y : List ApiValue), y ∈ l → y ∈ insR x l
  | [], y, h => by simp at h
  | a :: l, y, h => by
    rw [insR]
    cases decide (rcmp a x < 0) with
    | true =>
      rw [cond_true]
      rcases List.mem_cons.1 h with rfl | h
      · simp
      · exact List.mem_cons_of_mem _ (insR_old x l y h)
    | false =>
      rw [cond_false]
      cases decide (rcmp a x = 0) with
      | true => exact h
      | false => exact List.mem_cons_of_mem _ h
theorem insR_new (x : List ApiValue) : ∀ (l : List (List ApiValue)), ∃ y ∈ insR x l, rcmp y x = 0
  | [] => ⟨x, by simp [insR], rc_self x⟩
  | a :: l => by
    rw [insR]
    cases decide (rcmp a x < 0) with
    | true =>
      obtain ⟨y, h, e⟩ := insR_new x l
      exact ⟨y, List.mem_cons_of_mem _ h, e⟩
    | false =>
      rw [cond_false]
      cases h2 : decide (rcmp a x = 0) with
      | true => exact ⟨a, by simp, of_decide_eq_true h2⟩
      | false => exact ⟨x, by simp, rc_self x⟩
theorem insR_ss (x : List ApiValue) : ∀ (l : List (List ApiValue)), SS l → SS (insR x l)
  | [], _ => by simp [insR, SS]
  | a :: l, h => by
    obtain ⟨h1, h2⟩ := List.pairwise_cons.1 h
    rw [insR]
    cases d1 : decide (rcmp a x < 0) with
    | true =>
      refine List.pairwise_cons.2 ⟨fun y hy => ?_, insR_ss x l h2⟩
      rcases insR_mem x l y hy with rfl | hy
      · exact of_decide_eq_true d1
      · exact h1 y hy
    | false =>
      rw [cond_false]
      cases d2 : decide (rcmp a x = 0) with
      | true => exact h
      | false =>
        have d1 := of_decide_eq_false d1
        have d2 := of_decide_eq_false d2
        have ha := rcmp_anti a x
        have hxa : rcmp x a < 0 := by omega
        refine List.pairwise_cons.2 ⟨fun y hy => ?_, h⟩
        rcases List.mem_cons.1 hy with rfl | hy
        · exact hxa
        · exact rc_lt1 hxa (by have := h1 y hy; omega)
theorem insR_len (x : List ApiValue) : ∀ l : List (List ApiValue), (insR x l).length ≤ l.length + 1
  | [] => by simp [insR]
  | a :: l => by
    rw [insR]
    cases decide (rcmp a x < 0) with
    | true => have := insR_len x l; simp; omega
    | false => cases decide (rcmp a x = 0) <;> simp
def tidy (l : List (List ApiValue)) : List (List ApiValue) := l.foldl (fun out x => insR x out) []
theorem tidy_snoc (l : List (List ApiValue)) (x : List ApiValue) : tidy (l ++ [x]) = insR x (tidy l) := by simp [tidy]
theorem tidy_facts (l : List (List ApiValue)) : ∀ k, k ≤ l.length → SS (tidy (l.take k)) ∧ (∀ y ∈ tidy (l.take k), y ∈ l.take k) ∧ (∀ x ∈ l.take k, ∃ y ∈ tidy (l.take k), rcmp y x = 0) ∧ (tidy (l.take k)).length ≤ k
  | 0, _ => by simp [tidy, SS]
  | k + 1, h => by
    obtain ⟨h1, h2, h3, h4⟩ := tidy_facts l k (by omega)
    rw [List.take_succ_eq_append_getElem (by omega), tidy_snoc]
    refine ⟨insR_ss _ _ h1, fun y hy => ?_, fun x hx => ?_, ?_⟩
    · rcases insR_mem _ _ _ hy with rfl | hy
      · exact List.mem_append_right _ (List.mem_singleton.2 rfl)
      · exact List.mem_append_left _ (h2 y hy)
    · rcases List.mem_append.1 hx with hx | hx
      · obtain ⟨y, k1, k2⟩ := h3 x hx
        exact ⟨y, insR_old _ _ _ k1, k2⟩
      · rw [List.mem_singleton] at hx
        subst hx
        exact insR_new _ _
    · have := insR_len l[k] (tidy (l.take k)); omega
theorem comp_tidy {rows ys : List (List ApiValue)} (hp : ys.Perm rows) (hs : ys.Pairwise fun a b => rcmp a b ≤ 0) : (comp ys).length = (tidy rows).length ∧ rall (comp ys) (tidy rows) = true := by
  obtain ⟨t1, t2, t3, _⟩ := tidy_facts rows rows.length (Nat.le_refl _)
  rw [List.take_length] at t1 t2 t3
  have c1 : SS (comp ys) := by
    cases ys with
    | nil => simp [comp, SS]
    | cons a l => exact kp_ss a l hs
  have c2 : ∀ x ∈ comp ys, x ∈ ys := by
    cases ys with
    | nil => simp [comp]
    | cons a l =>
      intro x hx
      rcases List.mem_cons.1 hx with rfl | hx
      · simp
      · exact List.mem_cons_of_mem _ (kp_mem a l x hx)
  have c3 : ∀ y ∈ ys, ∃ x ∈ comp ys, rcmp y x = 0 := by
    cases ys with
    | nil => simp
    | cons a l =>
      intro y hy
      rcases List.mem_cons.1 hy with rfl | hy
      · exact ⟨y, by simp [comp], rc_self y⟩
      · exact kp_cov a l y hy
  refine ss_uniq _ _ c1 t1 (fun a ha => ?_) (fun b hb => ?_)
  · obtain ⟨y, k1, k2⟩ := t3 a (hp.mem_iff.1 (c2 a ha))
    exact ⟨y, k1, by have := rcmp_anti y a; omega⟩
  · obtain ⟨x, k1, k2⟩ := c3 b (hp.mem_iff.2 (t2 b hb))
    exact ⟨x, k1, by have := rcmp_anti b x; omega⟩

/-! ### Compaction -/
theorem same1_ok {B n : Nat} (hB : B < 4294967296) (hn : 3 * B + 10 < n) {a : List ApiValue} (ha : lw a ≤ B) (b : List ApiValue) : rel_Sort_1 n a b = some (decide (rcmp a b = 0)) := by
  rw [rel_Sort_1_eq, rcmp_ok n _ _ (by omega) (by omega), bind_some2]
theorem compact2_ok {B n : Nat} (hB : B < 4294967296) (hn : 3 * B + 10 < n) (ys : List (List ApiValue)) (hl : ys.length ≤ B) (hw : ∀ x ∈ ys, lw x ≤ B) (m0 i : Nat) (hi0 : 0 < i) (hi : i < ys.length) :
    ∀ (c j m k : Nat) (w : List (List ApiValue)), c + j = ys.length - i → 0 < j → c < m → i ≤ k → k + 1 ≤ i + j → w.length = ys.length → w.drop (i + j - 1) = ys.drop (i + j - 1) →
      ∃ k' zs, slices_CompactFunc_LValue_by_rel_Sort_1_l2 n m0 m 0 ys.length (k : Int) i (ys.length - i) (j : Int) w = some (k', zs, ()) ∧ k' ≤ zs.length ∧ zs.take k' = w.take k ++ kp (ys.getD (i + j - 1) []) (ys.drop (i + j)) := by
  intro c
  induction c with
  | zero =>
    intro j m k w hc hj hm hik hkj hwl hwd
    obtain ⟨m, rfl⟩ : ∃ q, m = q + 1 := ⟨m - 1, by omega⟩
    have hd : ys.drop (i + j) = [] := List.drop_eq_nil_of_le (by omega)
    have hk : k ≤ ys.length := by omega
    rw [slices_CompactFunc_LValue_by_rel_Sort_1_l2_eq, decide_eq_false (by omega : ¬ (j : Int) < ((ys.length - i : Nat) : Int)), cond_false, inR' hk, cond_true, show Int.toNat (k : Int) = k from rfl, Nat.zero_add, decide_eq_true (by omega : k + (ys.length - k) ≤ w.length), cond_true]
    have ho : (over w (List.replicate (ys.length - k) []) k).length = ys.length := by rw [over_len (by simp; omega)]; exact hwl
    rw [ho, decide_eq_true (by omega : (0 : Int) ≤ 0), decide_eq_true (by omega : (0 : Int) ≤ (k : Int)), decide_eq_true (by omega : ((0 : Nat) : Int) + (k : Int) ≤ (ys.length : Int)), Bool.and_self, Bool.and_self, cond_true]
    refine ⟨_, _, rfl, by rw [ho]; simp; omega, ?_⟩
    rw [hd, kp, List.append_nil, show (k : Nat) - Int.toNat (0 : Int) = k from rfl]
    unfold over
    rw [List.append_assoc, List.take_append_of_le_length (by simp; omega), List.take_take, Nat.min_self]
  | succ c ih =>
    intro j m k w hc hj hm hik hkj hwl hwd
    obtain ⟨m, rfl⟩ : ∃ q, m = q + 1 := ⟨m - 1, by omega⟩
    have hjl : j < ys.length - i := by omega
    have hij : i + j < ys.length := by omega
    obtain ⟨p1, p2⟩ := inP hj hjl (by omega)
    have g1 : w.getD (i + j) [] = ys.getD (i + j) [] := by
      have := congrArg (fun l => l.getD 1 []) hwd
      simp only [List.getD_eq_getElem?_getD, List.getElem?_drop] at this ⊢
      rwa [show i + j - 1 + 1 = i + j by omega] at this
    have g2 : w.getD (i + j - 1) [] = ys.getD (i + j - 1) [] := by
      have := congrArg (fun l => l.getD 0 []) hwd
      simpa only [List.getD_eq_getElem?_getD, List.getElem?_drop, Nat.add_zero] using this
    have h2 : w.drop (i + j) = ys.drop (i + j) := by
      have := congrArg (fun l => l.drop 1) hwd
      simp only [List.drop_drop] at this
      rwa [show i + j - 1 + 1 = i + j by omega] at this
    have hx : lw ys[i + j] ≤ B := hw _ (List.getElem_mem hij)
    rw [slices_CompactFunc_LValue_by_rel_Sort_1_l2_eq, decide_eq_true (by omega : (j : Int) < ((ys.length - i : Nat) : Int)), cond_true, decide_eq_true (by omega : (0 : Int) ≤ (j : Int)), Bool.and_self, cond_true, show Int.toNat (j : Int) = j from rfl, decide_eq_true (by omega : i + j < w.length), cond_true, p1, cond_true, p2, decide_eq_true (by omega : i + (j - 1) < w.length), cond_true,
      show i + (j - 1) = i + j - 1 by omega, g1, g2, getD_lt _ hij, same1_ok hB hn hx, bind_some2, List.drop_eq_getElem_cons hij, kp, i64_succ (k := j) (by omega)]
    cases hd : decide (rcmp ys[i + j] (ys.getD (i + j - 1) []) = 0) with
    | true =>
      rw [Bool.not_true, cond_false, cond_true]
      obtain ⟨k', zs, e1, e2, e3⟩ := ih (j + 1) m k w (by omega) (by omega) (by omega) hik (by omega) hwl (by rwa [show i + (j + 1) - 1 = i + j by omega])
      refine ⟨k', zs, e1, e2, ?_⟩
      rw [e3, show i + (j + 1) - 1 = i + j by omega, getD_lt _ hij]
      rfl
    | false =>
      rw [Bool.not_false, cond_true, inR (by omega : k < ys.length), cond_true, show Int.toNat (k : Int) = k from rfl, Nat.zero_add, decide_eq_true (by omega : k < w.length), cond_true, cond_false, i64_succ (k := k) (by omega)]
      obtain ⟨k', zs, e1, e2, e3⟩ := ih (j + 1) m (k + 1) (w.set k ys[i + j]) (by omega) (by omega) (by omega) (by omega) (by omega) (by simp [hwl]) (by
        rw [show i + (j + 1) - 1 = i + j by omega, List.drop_set_of_lt (by omega)]
        exact h2)
      refine ⟨k', zs, e1, e2, ?_⟩
      rw [e3, show i + (j + 1) - 1 = i + j by omega, getD_lt _ hij]
      have : (w.set k ys[i + j]).take (k + 1) = w.take k ++ [ys[i + j]] := by
        rw [List.take_succ_eq_append_getElem (by simp; omega), List.getElem_set_self, List.take_set_of_le (Nat.le_refl _)]
      rw [this, List.append_assoc]
      rfl
theorem compact1_ok {B n : Nat} (hB : B < 4294967296) (hn : 3 * B + 10 < n) (ys : List (List ApiValue)) (hl : ys.length ≤ B) (hw : ∀ x ∈ ys, lw x ≤ B) :
    ∀ (c i m : Nat), c + i = ys.length → 0 < i → c < m →
      ∃ k' zs, slices_CompactFunc_LValue_by_rel_Sort_1_l0 n m 0 ys.length (i : Int) ys = some (k', zs, ()) ∧ k' ≤ zs.length ∧ zs.take k' = ys.take i ++ kp (ys.getD (i - 1) []) (ys.drop i) := by
  intro c
  induction c with
  | zero =>
    intro i m hc hi hm
    obtain ⟨m, rfl⟩ : ∃ q, m = q + 1 := ⟨m - 1, by omega⟩
    rw [slices_CompactFunc_LValue_by_rel_Sort_1_l0_eq, decide_eq_false (by omega : ¬ (i : Int) < ((ys.length : Nat) : Int)), cond_false, decide_eq_true rfl, cond_true]
    refine ⟨_, _, rfl, Nat.le_refl _, ?_⟩
    rw [List.drop_eq_nil_of_le (by omega), kp, List.append_nil, List.take_of_length_le (by omega), List.take_of_length_le (by omega)]
  | succ c ih =>
    intro i m hc hi hm
    obtain ⟨m, rfl⟩ : ∃ q, m = q + 1 := ⟨m - 1, by omega⟩
    have hil : i < ys.length := by omega
    obtain ⟨p1, p2⟩ := inP hi hil (by omega)
    have hx : lw ys[i] ≤ B := hw _ (List.getElem_mem hil)
    rw [slices_CompactFunc_LValue_by_rel_Sort_1_l0_eq, decide_eq_true (by omega : (i : Int) < ((ys.length : Nat) : Int)), cond_true, decide_eq_true (by omega : (0 : Int) ≤ (i : Int)), Bool.and_self, cond_true, show Int.toNat (i : Int) = i from rfl, Nat.zero_add, decide_eq_true hil, cond_true, p1, cond_true, p2, Nat.zero_add, decide_eq_true (by omega : i - 1 < ys.length), cond_true,
      getD_lt _ hil, same1_ok hB hn hx, bind_some2, List.drop_eq_getElem_cons hil, kp, i64_succ (by omega)]
    cases hd : decide (rcmp ys[i] (ys.getD (i - 1) []) = 0) with
    | true =>
      rw [cond_true, decide_eq_true (by omega : (i : Int) ≤ ((ys.length : Nat) : Int)), Bool.and_self, cond_true, cond_true]
      obtain ⟨k', zs, e1, e2, e3⟩ := compact2_ok hB hn ys hl hw m i hi hil (ys.length - i - 1) 1 n i ys (by omega) (by omega) (by omega) (Nat.le_refl _) (Nat.le_refl _) rfl rfl
      refine ⟨k', zs, e1, e2, ?_⟩
      rw [e3, show i + 1 - 1 = i by omega, getD_lt _ hil]
    | false =>
      rw [cond_false, cond_false]
      obtain ⟨k', zs, e1, e2, e3⟩ := ih (i + 1) m (by omega) (by omega) (by omega)
      refine ⟨k', zs, e1, e2, ?_⟩
      rw [e3, show i + 1 - 1 = i by omega, getD_lt _ hil, List.take_succ_eq_append_getElem hil, List.append_assoc]
      rfl
theorem compact_ok {B n : Nat} (hB : B < 4294967296) (hn : 3 * B + 10 < n) (ys : List (List ApiValue)) (hl : ys.length ≤ B) (hw : ∀ x ∈ ys, lw x ≤ B) :
    ∃ k' zs, slices_CompactFunc_LValue_by_rel_Sort_1 n (ys, 0, ys.length) () = some (k', zs, ()) ∧ k' ≤ zs.length ∧ zs.take k' = comp ys := by
  rw [slices_CompactFunc_LValue_by_rel_Sort_1_eq]
  by_cases h : ys.length < 2
  · rw [decide_eq_true (by omega : (ys.length : Int) < 2), cond_true, decide_eq_true rfl, cond_true]
    refine ⟨_, _, rfl, Nat.le_refl _, ?_⟩
    match ys, h with
    | [], _ => rfl
    | [a], _ => rfl
    | _ :: _ :: _, h => simp at h; omega
  · rw [decide_eq_false (by omega : ¬ (ys.length : Int) < 2), cond_false]
    obtain ⟨k', zs, e1, e2, e3⟩ := compact1_ok hB hn ys hl hw (ys.length - 1) 1 n (by omega) (by omega) (by omega)
    refine ⟨k', zs, e1, e2, ?_⟩
    rw [e3]
    match ys, h with
    | a :: l, _ => rfl
    | [], h => simp at h
theorem sort_ok {B n : Nat} (hB : B < 4294967296) (hn : 3 * B + 10 < n) {r : Rel} (hr : RB B r) : ∃ ys, rel_Sort n r = some (Rel.mk r.Name r.Cols r.Key (comp ys)) ∧ ys.Perm r.Rows ∧ ys.Pairwise fun a b => rcmp a b ≤ 0 := by
  have h3 := hr.rl
  obtain ⟨ys, s1, s2, s3⟩ := sortO_ord (fun a b => Option.bind (rel_Cmp n a b) fun r => some r) rcmp rcmp_anti rcmp_tr r.Rows (by omega) (fun a ha b hb => by
    have := hr.rw a ha
    rw [rcmp_ok n _ _ (by omega) (by omega)]
    rfl)
  have hlen := s2.length_eq
  obtain ⟨k', zs, e1, e2, e3⟩ := compact_ok hB hn ys (by omega) fun x hx => hr.rw x (s2.mem_iff.1 hx)
  refine ⟨ys, ?_, s2, s3⟩
  rw [rel_Sort_eq, relcopy_ok hr hB (by omega), bind_some2]
  simp only [List.take_length]
  rw [s1, bind_some2]
  have ho : over r.Rows ys 0 = ys := by
    unfold over
    simp [hlen]
  rw [ho, ← hlen, e1, bind_some2]
  simp only [Nat.zero_add, decide_eq_true e2, cond_true, Bool.and_true]
  rw [e3]

/-! ### Tidying -/
theorem insO_at {A : Type} (xs : List A) (k : Nat) (v : A) (hk : k ≤ xs.length) (hb : xs.length < 1000000000) : insO xs xs.length (k : Int) [v] = some (xs.take k ++ [v] ++ xs.drop k) := by
  unfold insO
  rw [decide_eq_true ⟨rfl, by omega, by omega, by simp; omega⟩]
  rfl
theorem tidy2_ok {B n : Nat} (hB : B < 500000000) (hn : 3 * B + 10 < n) (m0 : Nat) (x : List ApiValue) (hx : lw x ≤ B) (v8 : List (List ApiValue)) (v9 : Int) (v10 : Int) (w1 w2 : Rel) (l : List (List ApiValue)) (hl : l.length ≤ B) (hw : ∀ y ∈ l, lw y ≤ B) :
    ∀ (c k m : Nat), c + k = l.length → c < m → insR x l = l.take k ++ insR x (l.drop k) →
      ref2_Tidy_l2 n m0 m x (k : Int) v8 v9 v10 w1 w2 l = ref2_Tidy_l0 n m0 v8 v9 (IntKind.wrap .i64 (v10 + 1)) w1 w2 (insR x l) := by
  have hlx := lw_len x
  intro c
  induction c with
  | zero =>
    intro k m hc hm he
    obtain ⟨m, rfl⟩ : ∃ q, m = q + 1 := ⟨m - 1, by omega⟩
    have hk : k = l.length := by omega
    subst hk
    rw [ref2_Tidy_l2_eq, decide_eq_false (by omega : ¬ (l.length : Int) < (l.length : Int)), cond_false, decide_eq_true rfl, cond_true, insO_at l _ x (Nat.le_refl _) (by omega), bind_some2, he, List.drop_length, insR, List.append_nil]
  | succ c ih =>
    intro k m hc hm he
    obtain ⟨m, rfl⟩ : ∃ q, m = q + 1 := ⟨m - 1, by omega⟩
    have hk : k < l.length := by omega
    have hy := hw _ (List.getElem_mem hk)
    have hly := lw_len l[k]
    have hd : l.drop k = l[k] :: l.drop (k + 1) := List.drop_eq_getElem_cons hk
    rw [ref2_Tidy_l2_eq, inR hk, decide_eq_true (by omega : (k : Int) < (l.length : Int)), cond_true, cond_true, show Int.toNat (k : Int) = k from rfl, Nat.zero_add, decide_eq_true hk, cond_true, getD_lt _ hk, order_ok n _ _ (by omega) (by omega) (by omega) (by omega) (by omega), bind_some2]
    rw [hd, insR] at he
    cases h1 : decide (rcmp l[k] x < 0) with
    | true =>
      rw [h1, cond_true] at he
      rw [cond_true, i64_succ (by omega)]
      exact ih (k + 1) m (by omega) (by omega) (by rw [he, List.take_succ_eq_append_getElem hk, List.append_assoc]; rfl)
    | false =>
      rw [h1, cond_false] at he
      rw [cond_false, decide_eq_false (by omega : ¬ (k : Int) = (l.length : Int)), cond_false, bind_some2]
      cases h2 : decide (rcmp l[k] x = 0) with
      | true =>
        rw [h2, cond_true, ← hd, List.take_append_drop] at he
        rw [Bool.not_true, cond_false, he]
        rfl
      | false =>
        rw [h2, cond_false, ← hd] at he
        rw [Bool.not_false, cond_true, insO_at l k x (by omega) (by omega), bind_some2, he, List.append_assoc]
        rfl
theorem tidy_ok {B n : Nat} (hB : B < 500000000) (hn : 3 * B + 10 < n) {r : Rel} (hr : RB B r) : ref2_Tidy n r = some (Rel.mk r.Name r.Cols r.Key (tidy r.Rows)) := by
  have h3 := hr.rl
  have key : ∀ (c i m : Nat), c + i = r.Rows.length → c < m → ref2_Tidy_l0 n m r.Rows (r.Rows.length : Int) (i : Int) r (Rel.mk [] [] [] []) (tidy (r.Rows.take i)) = some (Rel.mk r.Name r.Cols r.Key (tidy r.Rows)) := by
    intro c
    induction c with
    | zero =>
      intro i m hc hm
      obtain ⟨m, rfl⟩ : ∃ q, m = q + 1 := ⟨m - 1, by omega⟩
      rw [ref2_Tidy_l0_eq, decide_eq_false (by omega), cond_false, decide_eq_true rfl, List.take_of_length_le (by omega)]
      rfl
    | succ c ih =>
      intro i m hc hm
      obtain ⟨m, rfl⟩ : ∃ q, m = q + 1 := ⟨m - 1, by omega⟩
      have hi : i < r.Rows.length := by omega
      obtain ⟨t1, t2, t3, t4⟩ := tidy_facts r.Rows i (by omega)
      have hx := hr.rw _ (List.getElem_mem hi)
      have t := tidy2_ok hB hn m r.Rows[i] hx r.Rows (r.Rows.length : Int) (i : Int) r (Rel.mk [] [] [] []) (tidy (r.Rows.take i)) (by omega) (fun y hy => hr.rw y (List.mem_of_mem_take (t2 y hy))) (tidy (r.Rows.take i)).length 0 n (by omega) (by omega) rfl
      rw [show ((0 : Nat) : Int) = 0 from rfl] at t
      rw [ref2_Tidy_l0_eq, inR hi, decide_eq_true (by omega), cond_true, cond_true, show Int.toNat (i : Int) = i from rfl, getD_lt _ hi, t, i64_succ (by omega), ← tidy_snoc, ← List.take_succ_eq_append_getElem hi]
      exact ih (i + 1) m (by omega) (by omega)
  rw [ref2_Tidy_eq]
  exact key r.Rows.length 0 n rfl (by omega)
theorem last_ok {B n : Nat} (hB : B < 500000000) (hn : 3 * B + 10 < n) {r : Rel} (hr : RB B r) :
    (Option.bind (rel_Same n r r) fun r8 => (bif r8 then (Option.bind (rel_Copy n r) fun r9 => (bif ((decide ((List.length r9.2.2.2) = List.length r9.2.2.2) && true) && true) then (Option.bind (ref2_SameRel n (Rel.mk r9.1 r9.2.1 r9.2.2.1 r9.2.2.2) r) fun r10 => (bif r10 then (Option.bind (rel_Sort n r) fun r11 => (Option.bind (ref2_Tidy n r) fun r12 => (Option.bind (ref2_SameRel n r11 r12) fun r13 => (some r13)))) else (some false))) else none)) else (some false))) = some true := by
  have hB' : B < 4294967296 := by omega
  have s0 := samerel_refl hr hB' hn
  obtain ⟨t, k1, k2⟩ := same_ok hB' hn hr hr
  rw [s0] at k2
  cases k2
  have h1 := hr.cl
  have h2 := hr.kl
  have h3 := hr.rl
  obtain ⟨ys, e1, e2, e3⟩ := sort_ok hB' hn hr
  obtain ⟨f1, f2⟩ := comp_tidy e2 e3
  obtain ⟨g1, g2, g3, g4⟩ := tidy_facts r.Rows r.Rows.length (Nat.le_refl _)
  rw [List.take_length] at g2 g4
  rw [k1, bind_some2, cond_true, relcopy_ok hr hB' (by omega), bind_some2]
  simp only [decide_true, Bool.and_true, cond_true]
  rw [s0, bind_some2, cond_true, e1, bind_some2, tidy_ok hB hn hr, bind_some2]
  have cm : ∀ x ∈ comp ys, x ∈ r.Rows := by
    intro x hx
    apply e2.mem_iff.1
    cases ys with
    | nil => exact hx
    | cons a l =>
      rcases List.mem_cons.1 hx with rfl | hx
      · simp
      · exact List.mem_cons_of_mem _ (kp_mem a l x hx)
  have srl := srl_ok hB' hn (Rel.mk r.Name r.Cols r.Key (comp ys)) (Rel.mk r.Name r.Cols r.Key (tidy r.Rows)) (by show (comp ys).length ≤ B; omega) (fun x hx => hr.rw x (cm x hx)) (fun x hx => hr.rw x (g2 x hx)) f1
  have ec := eqC_refl n r.Cols (by omega) (by omega)
  have es := eqStr_refl n r.Key (by omega) (by omega)
  have srl' : ref2_SameRel_l0 n n ((tidy r.Rows).length : Int) 0 (Rel.mk r.Name r.Cols r.Key (comp ys)) (Rel.mk r.Name r.Cols r.Key (tidy r.Rows)) = some (rall (comp ys) (tidy r.Rows)) := by
    rw [← f1]; exact srl
  rw [ref2_SameRel_eq]
  simp only [beq_self_eq_true, Bool.not_true, cond_false, ec, es, bind_some2, f1, decide_true]
  rw [srl', f2]
  rfl
theorem law_ok (x0 : List Rel) (x1 : Rel) (x2 : List UInt8) (h0 : ∀ g, Fv.Good E g (.sl (.nm 3)) x0) (h1 : ∀ g, Fv.Good E g (.nm 3) x1) (h2 : ∀ g, Fv.Good E g .str x2) (hb : ∀ g, Bulk E g (.sl (.nm 3)) x0 + Bulk E g (.nm 3) x1 + Bulk E g .str x2 ≤ 1048576) : ∃ n, law2_RelSorts n x0 x1 x2 = some true := by
  obtain ⟨n, hB⟩ := big_ex
  refine ⟨n, ?_⟩
  have hb : ∀ g, ((x0.map (bR g)).sum + 1) + bR g x1 + (x2.length + 1) ≤ 1048576 := hb
  obtain ⟨k1, k2⟩ := base_bulk (b := x0) (N := 1048576) fun g => by have := hb g; omega
  have hr : RB 1048576 x1 := rel_bulk fun g => by have := hb g; omega
  have hn := hB.n1
  have rl := rels_ok n (by omega)
  have fi := fidxr_ok n x0 x2 (by omega) (by omega)
  have loop : law2_RelSorts_l0 n n x0 (x0.length : Int) 0 x1 = some true := by
    have f := law2_RelSorts_l0_fold n x0 x1 (by omega) n 0 (Nat.zero_le _) (by omega)
    rw [show ((0 : Nat) : Int) = 0 from rfl] at f
    rw [f]
    refine foldK_case x0 (S := Unit) (fun _ _ => True) (fun o => o = some true) ?_ (fun _ _ => last_ok (by omega) (by omega) hr) _ 0 rfl (Nat.zero_le _) _ trivial
    intro i hi _ _
    obtain ⟨t, e1, e2⟩ := same_ok (B := 1048576) (n := n) (by omega) (by omega) hr (k2 _ (List.getElem_mem hi))
    refine .inr ⟨(), trivial, fun K => ?_⟩
    rw [e1, e2, bind_some2, bind_some2, beq_self_eq_true, Bool.not_true, cond_false]
  have s0 : ref2_SameRel n (Rel.mk [] [] [] []) (Rel.mk [] [] [] []) = some true := samerel_refl (B := 0) ⟨by simp, by simp, by simp, by simp, by simp, by simp⟩ (by omega) (by omega)
  rw [law2_RelSorts_eq, fi, rl, loop]
  rcases find_ok (B := 1048576) (n := n) (by omega) (by omega) x0 x2 k1 k2 with ⟨e1, e2⟩ | ⟨i, hi, e1, e2⟩
  · rw [e1, e2, bind_some2, bind_some2, bind_some2]
    simp only [Bool.not_true, cond_false, Bool.not_false, cond_true, s0, bind_some2]
    rfl
  · rw [e1, e2, bind_some2, bind_some2, bind_some2]
    have s1 := samerel_refl (k2 _ (List.getElem_mem hi)) (by omega) (by omega : 3 * 1048576 + 10 < n)
    have hge : decide ((i : Int) ≥ 0) = true := decide_eq_true (by omega)
    simp only [hge, Bool.not_true, cond_false, cond_true, inR hi, show Int.toNat (i : Int) = i from rfl, getD_lt _ hi, s1, bind_some2]
    rw [decide_eq_true (by omega : (i : Int) < (x0.length : Int))]
    rfl
end Go.Proofs.Ytoljecjcpnaljaa.PRelSorts
