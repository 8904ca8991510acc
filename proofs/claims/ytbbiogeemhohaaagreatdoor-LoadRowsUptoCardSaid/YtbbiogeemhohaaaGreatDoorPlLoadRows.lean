/- The plain law LoadRows. No condition. -/
import Derived.Test.YtbbiogeemhohaaaGreatDoorFnLoadRows
-- UPTO
set_option linter.unusedVariables false
set_option linter.unusedSimpArgs false
namespace Go.Proofs.YtbbiogeemhohaaaGreatDoor.PLoadRows
open Go Go.Proofs Go.Proofs.YtbbiogeemhohaaaGreatDoor.Fv


/-! ### Values: a measure, and an induction -/
mutual
def vw : ApiValue → Nat
  | ⟨_, _, s, fs⟩ => fw fs + s.length + 1
def fw : List ApiField → Nat
  | [] => 0
  | f :: r => gw f + fw r
def gw : ApiField → Nat
  | ⟨nm, v⟩ => nm.length + 1 + vw v
end
theorem vw_eq (v : ApiValue) : vw v = fw v.Fields + v.S.length + 1 := by cases v; simp [vw]
theorem gw_eq (f : ApiField) : gw f = f.Name.length + 1 + vw f.Val := by cases f; simp [gw]
theorem fw_mem {f : ApiField} : ∀ {l : List ApiField}, f ∈ l → gw f ≤ fw l
  | [], h => by simp at h
  | g :: l, h => by
    simp only [fw]
    rcases List.mem_cons.1 h with rfl | h
    · omega
    · have := fw_mem h; omega
theorem fw_len : ∀ l : List ApiField, l.length ≤ fw l
  | [] => by simp [fw]
  | f :: l => by have := fw_len l; have := gw_eq f; simp only [fw, List.length_cons]; omega
theorem vw_lt {v : ApiValue} {f : ApiField} (h : f ∈ v.Fields) : vw f.Val < vw v ∧ f.Name.length < vw v := by
  have h1 := fw_mem h
  have h2 := gw_eq f
  have h3 := vw_eq v
  omega
theorem vw_len (v : ApiValue) : v.Fields.length < vw v ∧ v.S.length < vw v := by
  have := fw_len v.Fields
  have := vw_eq v
  omega
theorem val_ind {P : ApiValue → Prop} (h : ∀ v : ApiValue, (∀ f ∈ v.Fields, P f.Val) → P v) : ∀ v, P v := by
  have key : ∀ (k : Nat) (v : ApiValue), vw v ≤ k → P v := by
    intro k
    induction k with
    | zero => intro v hv; have := vw_eq v; omega
    | succ k ih => exact fun v hv => h v fun f hf => ih f.Val (by have := (vw_lt hf).1; omega)
  exact fun v => key _ v (Nat.le_refl _)

/-! ### Loops that answer -/
theorem foldK_some {A S R : Type} (v : List A) {step : Nat → A → S → (S → Option R) → Option R} {fin : S → Option R}
    (h : ∀ i (hi : i < v.length) s K, (∀ s', (K s').isSome = true) → (step i v[i] s K).isSome = true) (hf : ∀ s, (fin s).isSome = true) :
    ∀ (c i : Nat), c = v.length - i → i ≤ v.length → ∀ s, (foldK step fin (v.drop i) i s).isSome = true := by
  intro c
  induction c with
  | zero =>
    intro i hc hi s
    rw [List.drop_eq_nil_of_le (by omega)]
    exact hf s
  | succ c ih =>
    intro i hc hi s
    rw [List.drop_eq_getElem_cons (by omega : i < v.length), foldK_cons]
    exact h i (by omega) s _ fun s' => ih (i + 1) (by omega) (by omega) s'
theorem foldK_par {A S S' R : Type} (v : List A) {step : Nat → A → S → (S → Option R) → Option R} {fin : S → Option R} {step' : Nat → A → S' → (S' → Option R) → Option R} {fin' : S' → Option R} (I : Nat → S → S' → Prop)
    (h : ∀ i (hi : i < v.length) s s' K K', I i s s' → (∀ t t', I (i + 1) t t' → K t = K' t') → step i v[i] s K = step' i v[i] s' K') (hf : ∀ s s', I v.length s s' → fin s = fin' s') :
    ∀ (c i : Nat), c = v.length - i → i ≤ v.length → ∀ s s', I i s s' → foldK step fin (v.drop i) i s = foldK step' fin' (v.drop i) i s' := by
  intro c
  induction c with
  | zero =>
    intro i hc hi s s' hI
    rw [List.drop_eq_nil_of_le (by omega)]
    exact hf s s' (by rwa [show v.length = i by omega])
  | succ c ih =>
    intro i hc hi s s' hI
    rw [List.drop_eq_getElem_cons (by omega : i < v.length), foldK_cons, foldK_cons]
    exact h i (by omega) s s' _ _ hI fun t t' ht => ih (i + 1) (by omega) (by omega) t t' ht
/-- A loop ends early, or each of its rounds went on. -/
theorem foldK_case {A S R : Type} (v : List A) {step : Nat → A → S → (S → Option R) → Option R} {fin : S → Option R} (I : Nat → S → Prop) (Q : Option R → Prop)
    (h : ∀ i (hi : i < v.length) s, I i s → (∃ e, Q e ∧ ∀ K, step i v[i] s K = e) ∨ ∃ s', I (i + 1) s' ∧ ∀ K, step i v[i] s K = K s') (hf : ∀ s, I v.length s → Q (fin s)) :
    ∀ (c i : Nat), c = v.length - i → i ≤ v.length → ∀ s, I i s → Q (foldK step fin (v.drop i) i s) := by
  intro c
  induction c with
  | zero =>
    intro i hc hi s hI
    rw [List.drop_eq_nil_of_le (by omega)]
    exact hf s (by rwa [show v.length = i by omega])
  | succ c ih =>
    intro i hc hi s hI
    rw [List.drop_eq_getElem_cons (by omega : i < v.length), foldK_cons]
    rcases h i (by omega) s hI with ⟨e, h1, h2⟩ | ⟨s', h1, h2⟩
    · rw [h2]; exact h1
    · rw [h2]; exact ih (i + 1) (by omega) (by omega) s' h1
theorem bind_some {α β : Type} {o : Option α} {f : α → Option β} (h : o.isSome = true) (hf : ∀ a, (f a).isSome = true) : (o.bind f).isSome = true := by
  obtain ⟨a, rfl⟩ := Option.isSome_iff_exists.1 h
  exact hf a
theorem cond_some {β : Type} {c : Bool} {a b : Option β} (ha : c = true → a.isSome = true) (hb : c = false → b.isSome = true) : (bif c then a else b).isSome = true := by
  cases c
  · exact hb rfl
  · exact ha rfl
theorem inR {i n : Nat} (h : i < n) : (decide (0 ≤ (i : Int)) && decide ((i : Int) < (n : Int))) = true := by
  simp only [Bool.and_eq_true, decide_eq_true_eq]; omega
theorem inR' {i n : Nat} (h : i ≤ n) : (decide (0 ≤ (i : Int)) && decide ((i : Int) ≤ (n : Int))) = true := by
  simp only [Bool.and_eq_true, decide_eq_true_eq]; omega
theorem inP {i n : Nat} (h0 : 0 < i) (h : i < n) (hn : n < 9223372036854775807) : (decide (0 ≤ (IntKind.wrap .i64 ((i : Int) - 1))) && decide ((IntKind.wrap .i64 ((i : Int) - 1)) < (n : Int))) = true ∧ Int.toNat (IntKind.wrap .i64 ((i : Int) - 1)) = i - 1 := by
  have e : IntKind.wrap .i64 ((i : Int) - 1) = ((i - 1 : Nat) : Int) := by
    rw [show (i : Int) - 1 = ((i - 1 + 1 : Nat) : Int) - 1 by omega]
    exact i64_pred (by omega)
  rw [e]
  exact ⟨inR (by omega), by simp⟩

/-! ### What answers on a value -/
theorem vname_some (n : Nat) (s : List UInt8) (hn : s.length < n) : (value_Name n s).isSome = true := by
  rw [value_Name_eq]
  refine cond_some (fun _ => rfl) fun h0 => cond_some (fun _ => rfl) fun h1 => ?_
  have hne : 0 < s.length := by
    cases s with
    | nil => cases h0
    | cons a l => simp
  have hle : s.length ≤ 16 := by have := of_decide_eq_false h1; omega
  have hr : (decide (0 ≤ (0 : Int)) && decide ((0 : Int) < (s.length : Int))) = true := by simp; omega
  rw [hr]
  refine cond_some (fun _ => cond_some (fun _ => rfl) fun _ => cond_some (fun _ => cond_some (fun _ => rfl) fun _ => ?_) fun h => by cases h) fun h => by cases h
  have hli : (ints s).length = s.length := by simp [ints]
  have := value_Name_l0_fold n (ints s) (by omega) n 0 (by omega) (by omega)
  rw [show ((0 : Nat) : Int) = 0 from rfl] at this
  rw [this]
  refine foldK_some _ (fun i hi s K hK => ?_) (fun _ => rfl) _ 0 rfl (Nat.zero_le _) _
  repeat' first | with_reducible exact hK _ | with_reducible exact Option.isSome_some | with_reducible refine cond_some (fun _ => ?_) fun _ => ?_
theorem vsize_some (n : Nat) : ∀ (d : Nat) (v : ApiValue), vw v ≤ d → vw v < n → vw v < 9223372036854775807 → (value_Size d n v).isSome = true
  | 0, v, h, _, _ => by have := vw_eq v; omega
  | d + 1, v, h, hn, hm => by
    rw [value_Size_eq]
    have hl := (vw_len v).1
    have := value_Size_l0_fold d n v.Fields 1 (by omega) n 0 (by omega) (by omega)
    rw [show ((0 : Nat) : Int) = 0 from rfl] at this
    rw [this]
    refine foldK_some _ (fun i hi s K hK => ?_) (fun _ => rfl) _ 0 rfl (Nat.zero_le _) _
    have := vw_lt (List.getElem_mem hi)
    exact bind_some (vsize_some n d _ (by omega) (by omega) (by omega)) fun r => hK _
theorem vdeep_some (n : Nat) : ∀ (d : Nat) (v : ApiValue), vw v ≤ d → vw v < n → vw v < 9223372036854775807 → (value_Deep d n v).isSome = true
  | 0, v, h, _, _ => by have := vw_eq v; omega
  | d + 1, v, h, hn, hm => by
    rw [value_Deep_eq]
    have hl := (vw_len v).1
    have := value_Deep_l0_fold d n v.Fields 0 (by omega) n 0 (by omega) (by omega)
    rw [show ((0 : Nat) : Int) = 0 from rfl] at this
    rw [this]
    refine foldK_some _ (fun i hi s K hK => ?_) (fun _ => rfl) _ 0 rfl (Nat.zero_le _) _
    have := vw_lt (List.getElem_mem hi)
    exact bind_some (vdeep_some n d _ (by omega) (by omega) (by omega)) fun r => hK _
theorem scalar_some (n : Nat) (k : Int) : (value_Scalar n k).isSome = true := by
  rw [value_Scalar_eq]
  repeat' first | with_reducible exact Option.isSome_some | with_reducible refine cond_some (fun _ => ?_) fun _ => ?_
theorem unused_some (n : Nat) (v : ApiValue) : (value_unused n v).isSome = true := by
  rw [value_unused_eq]
  repeat' first | with_reducible exact Option.isSome_some | (with_reducible refine bind_some (scalar_some n _) fun _ => ?_) | with_reducible refine cond_some (fun _ => ?_) fun _ => ?_
theorem number_some (n : Nat) (v : ApiValue) : (value_number n v).isSome = true := by
  rw [value_number_eq]
  repeat' first | with_reducible exact Option.isSome_some | with_reducible refine cond_some (fun _ => ?_) fun _ => ?_
theorem fidx_some (n : Nat) (l : List ApiField) (f : ApiField) (hl : l.length < 9223372036854775807) (hn : l.length < n) : (slices_ContainsFunc_Field_by_value_names_1 n l (f, ())).isSome = true := by
  rw [slices_ContainsFunc_Field_by_value_names_1_eq, slices_IndexFunc_Field_by_value_names_1_eq]
  refine bind_some ?_ fun _ => rfl
  have := slices_IndexFunc_Field_by_value_names_1_l0_fold n l f hl n 0 (by omega) (by omega)
  rw [show ((0 : Nat) : Int) = 0 from rfl] at this
  rw [this]
  refine foldK_some _ (fun i hi s K hK => ?_) (fun _ => rfl) _ 0 rfl (Nat.zero_le _) _
  rw [value_names_1_eq]
  exact bind_some rfl fun _ => cond_some (fun _ => rfl) fun _ => hK _
theorem names_some (n : Nat) (v : ApiValue) (hn : vw v < n) (hm : vw v < 9223372036854775807) : (value_names n v.Fields).isSome = true := by
  have hl := (vw_len v).1
  rw [value_names_eq]
  have := value_names_l0_fold n v.Fields v.Fields (by omega) n 0 (by omega) (by omega)
  rw [show ((0 : Nat) : Int) = 0 from rfl] at this
  rw [this]
  refine foldK_some _ (fun i hi s K hK => ?_) (fun _ => rfl) _ 0 rfl (Nat.zero_le _) _
  have := vw_lt (List.getElem_mem hi)
  refine bind_some (vname_some n _ (by omega)) fun r => cond_some (fun _ => rfl) fun _ => ?_
  rw [inR' (by omega : i ≤ v.Fields.length)]
  exact bind_some (fidx_some n _ _ (by simp; omega) (by simp; omega)) fun _ => cond_some (fun _ => rfl) fun _ => hK _
theorem keys_some (n : Nat) (v : ApiValue) (hn : vw v < n) (hm : vw v < 9223372036854775807) : (value_keys n v).isSome = true := by
  have hl := (vw_len v).1
  rw [value_keys_eq]
  have := value_keys_l0_fold n v.Fields v (by omega) n 0 (by omega) (by omega)
  rw [show ((0 : Nat) : Int) = 0 from rfl] at this
  rw [this]
  refine foldK_some _ (fun i hi s K hK => ?_) (fun _ => rfl) _ 0 rfl (Nat.zero_le _) _
  have key : 0 < i → (decide (0 ≤ (IntKind.wrap .i64 ((i : Int) - 1))) && decide ((IntKind.wrap .i64 ((i : Int) - 1)) < (v.Fields.length : Int))) = true := fun h => (inP h (by omega) (by omega)).1
  repeat' first | with_reducible exact hK _ | with_reducible exact Option.isSome_some | exact absurd ((key (by have h := of_decide_eq_true ‹decide ((i : Int) > 0) = true›; omega)).symm.trans ‹(decide (0 ≤ IntKind.wrap .i64 ((i : Int) - 1)) && decide (IntKind.wrap .i64 ((i : Int) - 1) < (v.Fields.length : Int))) = false›) (by decide) | with_reducible refine cond_some (fun _ => ?_) fun _ => ?_
theorem fields_some (n : Nat) (v : ApiValue) (hn : vw v < n) (hm : vw v < 9223372036854775807) : (value_fields n v).isSome = true := by
  rw [value_fields_eq]
  repeat' first | with_reducible exact Option.isSome_some | (with_reducible refine bind_some (names_some n v hn hm) fun _ => ?_) | (with_reducible refine bind_some (keys_some n v hn hm) fun _ => ?_) | with_reducible refine cond_some (fun _ => ?_) fun _ => ?_
theorem node_some (n : Nat) : ∀ (d : Nat) (v : ApiValue) (b : Bool), vw v ≤ d → vw v < n → vw v < 9223372036854775807 → (value_node d n v b).isSome = true
  | 0, v, b, h, _, _ => by have := vw_eq v; omega
  | d + 1, v, b, h, hn, hm => by
    have hl := (vw_len v).1
    have hloop : (value_node_l1 (d + 1) n n v.Fields (List.length v.Fields : Int) 0).isSome = true := by
      have := value_node_l1_fold d n v.Fields (by omega) n 0 (by omega) (by omega)
      rw [show ((0 : Nat) : Int) = 0 from rfl] at this
      rw [this]
      refine foldK_some _ (fun i hi s K hK => ?_) (fun _ => rfl) _ 0 rfl (Nat.zero_le _) _
      have := vw_lt (List.getElem_mem hi)
      exact bind_some (node_some n d _ _ (by omega) (by omega) (by omega)) fun r => cond_some (fun _ => rfl) fun _ => hK _
    rw [value_node_eq]
    repeat' first | with_reducible exact Option.isSome_some | with_reducible exact hloop | (with_reducible refine bind_some (unused_some n v) fun _ => ?_) | (with_reducible refine bind_some (number_some n v) fun _ => ?_) | (with_reducible refine bind_some (fields_some n v hn hm) fun _ => ?_) | with_reducible refine cond_some (fun _ => ?_) fun _ => ?_
theorem vcheck_some (n : Nat) (v : ApiValue) (hn : vw v < n) (hm : vw v < 9223372036854775807) : (value_Check n v).isSome = true := by
  rw [value_Check_eq]
  refine bind_some (vsize_some n n v (by omega) hn hm) fun _ => cond_some (fun _ => rfl) fun _ => bind_some (vdeep_some n n v (by omega) hn hm) fun _ => cond_some (fun _ => rfl) fun _ => bind_some (node_some n n v true (by omega) hn hm) fun _ => rfl

/-! ### The order of values -/
def icmp (x y : Int) : Int := bif decide (x < y) then -1 else bif decide (x > y) then 1 else 0
def or2 (a b : Int) : Int := bif !decide (a = 0) then a else b
def Tr3 (x y z : Int) : Prop := (x ≤ 0 → y ≤ 0 → z ≤ 0) ∧ (x ≤ 0 → y ≤ 0 → z = 0 → x = 0 ∧ y = 0) ∧ (x = 0 → y = 0 → z = 0)
theorem icmp_val (x y : Int) : (x < y ∧ icmp x y = -1) ∨ (x = y ∧ icmp x y = 0) ∨ (y < x ∧ icmp x y = 1) := by
  unfold icmp
  rcases Int.lt_trichotomy x y with h | h | h
  · exact .inl ⟨h, by simp [h]⟩
  · exact .inr (.inl ⟨h, by simp [h]⟩)
  · exact .inr (.inr ⟨h, by rw [decide_eq_false (by omega), decide_eq_true h]; rfl⟩)
theorem icmp_anti (x y : Int) : icmp y x = -icmp x y := by
  rcases icmp_val x y with ⟨h, e⟩ | ⟨h, e⟩ | ⟨h, e⟩ <;> rcases icmp_val y x with ⟨h', e'⟩ | ⟨h', e'⟩ | ⟨h', e'⟩ <;> omega
theorem icmp_tr (x y z : Int) : Tr3 (icmp x y) (icmp y z) (icmp x z) := by
  rcases icmp_val x y with ⟨h, e⟩ | ⟨h, e⟩ | ⟨h, e⟩ <;> rcases icmp_val y z with ⟨h', e'⟩ | ⟨h', e'⟩ | ⟨h', e'⟩ <;> rcases icmp_val x z with ⟨h2, e2⟩ | ⟨h2, e2⟩ | ⟨h2, e2⟩ <;>
    rw [e, e', e2] <;> refine ⟨?_, ?_, ?_⟩ <;> intros <;> first | omega | (refine ⟨?_, ?_⟩ <;> omega)
theorem or2_val (a b : Int) : (a ≠ 0 ∧ or2 a b = a) ∨ (a = 0 ∧ or2 a b = b) := by
  unfold or2
  by_cases h : a = 0
  · exact .inr ⟨h, by simp [h]⟩
  · exact .inl ⟨h, by simp [h]⟩
theorem or2_neg {a b a' b' : Int} (h : a' = -a) (h' : b' = -b) : or2 a' b' = -or2 a b := by
  rcases or2_val a b with ⟨h1, e⟩ | ⟨h1, e⟩ <;> rcases or2_val a' b' with ⟨h2, e'⟩ | ⟨h2, e'⟩ <;> omega
theorem or2_tr {x y z x' y' z' : Int} (h : Tr3 x y z) (h' : Tr3 x' y' z') : Tr3 (or2 x x') (or2 y y') (or2 z z') := by
  obtain ⟨a1, a2, a3⟩ := h
  obtain ⟨b1, b2, b3⟩ := h'
  rcases or2_val x x' with ⟨h1, e1⟩ | ⟨h1, e1⟩ <;> rcases or2_val y y' with ⟨h2, e2⟩ | ⟨h2, e2⟩ <;> rcases or2_val z z' with ⟨h3, e3⟩ | ⟨h3, e3⟩ <;>
    rw [e1, e2, e3] <;> refine ⟨?_, ?_, ?_⟩ <;> intros <;> first | omega | (refine ⟨?_, ?_⟩ <;> omega)
theorem cb_anti : ∀ a b : List UInt8, Go.Lib.compareBytes b a = -Go.Lib.compareBytes a b
  | [], [] => rfl
  | [], _ :: _ => rfl
  | _ :: _, [] => rfl
  | a :: xs, b :: ys => by
    simp only [Go.Lib.compareBytes]
    have := cb_anti xs ys
    by_cases h : a < b
    · have h2 : ¬ b < a := by rw [UInt8.lt_iff_toNat_lt] at h ⊢; omega
      rw [if_pos h, if_neg h2, if_pos h]; rfl
    · by_cases h2 : b < a
      · rw [if_pos h2, if_neg h, if_pos h2]
      · rw [if_neg h, if_neg h2, if_neg h2, if_neg h]; exact this
theorem cb_tr : ∀ a b c : List UInt8, Tr3 (Go.Lib.compareBytes a b) (Go.Lib.compareBytes b c) (Go.Lib.compareBytes a c)
  | [], [], [] => by simp [Go.Lib.compareBytes, Tr3]
  | [], [], _ :: _ => by simp [Go.Lib.compareBytes, Tr3]
  | [], _ :: _, [] => by simp [Go.Lib.compareBytes, Tr3]
  | [], _ :: _, _ :: _ => by simp [Go.Lib.compareBytes, Tr3]
  | _ :: _, [], [] => by simp [Go.Lib.compareBytes, Tr3]
  | _ :: _, [], _ :: _ => by simp [Go.Lib.compareBytes, Tr3]
  | _ :: _, _ :: _, [] => by simp [Go.Lib.compareBytes, Tr3]
  | a :: xs, b :: ys, c :: zs => by
    have ih := cb_tr xs ys zs
    have key : ∀ (a b : UInt8) (r : Int), (if a < b then (-1 : Int) else if b < a then 1 else r) = or2 (icmp a.toNat b.toNat) r := by
      intro a b r
      rcases icmp_val a.toNat b.toNat with ⟨h, e⟩ | ⟨h, e⟩ | ⟨h, e⟩
      · rw [if_pos (by rw [UInt8.lt_iff_toNat_lt]; omega), e]; rfl
      · rw [if_neg (by rw [UInt8.lt_iff_toNat_lt]; omega), if_neg (by rw [UInt8.lt_iff_toNat_lt]; omega), e]; rfl
      · rw [if_neg (by rw [UInt8.lt_iff_toNat_lt]; omega), if_pos (by rw [UInt8.lt_iff_toNat_lt]; omega), e]; rfl
    simp only [Go.Lib.compareBytes, key]
    exact or2_tr (icmp_tr _ _ _) ih

def ordF (x : Int) : Int := bif decide (x < 0) then IntKind.wrap .i64 ((-1 : Int) - (Fv.bits .and .i64 x 9223372036854775807)) else x
def keyN (v : ApiValue) : Int := bif decide (v.Kind = 3) then ordF v.N else v.N
mutual
def vcmp : ApiValue → ApiValue → Int
  | ⟨k, x, s, fs⟩, w => or2 (or2 (icmp k w.Kind) (or2 (icmp (bif decide (k = 3) then ordF x else x) (bif decide (k = 3) then ordF w.N else w.N)) (Go.Lib.compareBytes s w.S))) (fcmp fs w.Fields)
def fcmp : List ApiField → List ApiField → Int
  | [], l => bif l.isEmpty then 0 else -1
  | f :: r, l => match l with
    | [] => 1
    | g :: t => or2 (gcmp f g) (fcmp r t)
def gcmp : ApiField → ApiField → Int
  | ⟨nm, v⟩, g => or2 (Go.Lib.compareBytes nm g.Name) (vcmp v g.Val)
end
theorem vcmp_eq (v w : ApiValue) : vcmp v w = or2 (or2 (icmp v.Kind w.Kind) (or2 (icmp (bif decide (v.Kind = 3) then ordF v.N else v.N) (bif decide (v.Kind = 3) then ordF w.N else w.N)) (Go.Lib.compareBytes v.S w.S))) (fcmp v.Fields w.Fields) := by cases v; simp only [vcmp]
theorem gcmp_eq (f g : ApiField) : gcmp f g = or2 (Go.Lib.compareBytes f.Name g.Name) (vcmp f.Val g.Val) := by cases f; simp only [gcmp]
/-- The number by the kind of the one that has it. -/
theorem vcmp_key (v w : ApiValue) : vcmp v w = or2 (icmp v.Kind w.Kind) (or2 (or2 (icmp (keyN v) (keyN w)) (Go.Lib.compareBytes v.S w.S)) (fcmp v.Fields w.Fields)) := by
  rw [vcmp_eq]
  rcases icmp_val v.Kind w.Kind with ⟨h, e⟩ | ⟨h, e⟩ | ⟨h, e⟩
  · rw [e]; rfl
  · rw [e]
    unfold keyN
    rw [h]
    rfl
  · rw [e]; rfl
theorem vcmp_anti : ∀ v w : ApiValue, vcmp w v = -vcmp v w := by
  intro v
  refine val_ind (P := fun v => ∀ w, vcmp w v = -vcmp v w) (fun v ih w => ?_) v
  rw [vcmp_key v w, vcmp_key w v]
  refine or2_neg (icmp_anti _ _) (or2_neg (or2_neg (icmp_anti _ _) (cb_anti _ _)) ?_)
  have key : ∀ (l m : List ApiField), (∀ f ∈ l, ∀ w, vcmp w f.Val = -vcmp f.Val w) → fcmp m l = -fcmp l m := by
    intro l
    induction l with
    | nil => intro m _; cases m <;> simp [fcmp]
    | cons f l ihl =>
      intro m h
      cases m with
      | nil => simp [fcmp]
      | cons g m =>
        simp only [fcmp]
        refine or2_neg ?_ (ihl m fun x hx => h x (by simp [hx]))
        rw [gcmp_eq, gcmp_eq]
        exact or2_neg (cb_anti _ _) (h f (by simp) _)
  exact key _ _ ih
theorem vcmp_tr : ∀ v w x : ApiValue, Tr3 (vcmp v w) (vcmp w x) (vcmp v x) := by
  intro v
  refine val_ind (P := fun v => ∀ w x, Tr3 (vcmp v w) (vcmp w x) (vcmp v x)) (fun v ih w x => ?_) v
  rw [vcmp_key v w, vcmp_key w x, vcmp_key v x]
  refine or2_tr (icmp_tr _ _ _) (or2_tr (or2_tr (icmp_tr _ _ _) (cb_tr _ _ _)) ?_)
  have key : ∀ (l m p : List ApiField), (∀ f ∈ l, ∀ w x, Tr3 (vcmp f.Val w) (vcmp w x) (vcmp f.Val x)) → Tr3 (fcmp l m) (fcmp m p) (fcmp l p) := by
    intro l
    induction l with
    | nil => intro m p _; cases m <;> cases p <;> simp [fcmp, Tr3]
    | cons f l ihl =>
      intro m p h
      cases m with
      | nil => cases p <;> simp [fcmp, Tr3]
      | cons g m =>
        cases p with
        | nil => simp [fcmp, Tr3]
        | cons q p =>
          simp only [fcmp]
          refine or2_tr ?_ (ihl m p fun x hx => h x (by simp [hx]))
          rw [gcmp_eq, gcmp_eq, gcmp_eq]
          exact or2_tr (cb_tr _ _ _) (h f (by simp) _ _)
  exact key _ _ _ ih
theorem vcmp_refl (v : ApiValue) : vcmp v v = 0 := by have := vcmp_anti v v; omega

/-! ### The program's comparison -/
theorem compare_ok (n : Nat) (x y : Int) : cmp_Compare_int n x y = some (icmp x y) := by
  rw [cmp_Compare_int_eq, cmp_isNaN_int_eq, cmp_isNaN_int_eq]
  simp only [Option.bind_some, decide_true, Bool.not_true, cond_false]
  unfold icmp
  cases decide (x < y) <;> cases decide (x > y) <;> rfl
theorem or2_opt (a b : Int) : (bif !decide (a = 0) then some a else some b) = some (or2 a b) := by
  unfold or2
  cases decide (a = 0) <;> rfl
theorem or_ok (n : Nat) : ∀ l : List Int, l.length < n → l.length < 9223372036854775807 → cmp_Or_int n l = some (l.foldr or2 0) := by
  intro l hn hl
  rw [cmp_Or_int_eq]
  have := cmp_Or_int_l0_fold n 0 l hl n 0 (by omega) (by omega)
  rw [show ((0 : Nat) : Int) = 0 from rfl] at this
  rw [this, List.drop_zero]
  have key : ∀ (l : List Int) (i : Nat), foldK (S := Unit) (fun i (a : Int) s K => (bif (!decide (a = 0)) then (some a) else (K ()))) (fun s => (some (0 : Int))) l i () = some (l.foldr or2 0) := by
    intro l
    induction l with
    | nil => intro i; rfl
    | cons a l ih =>
      intro i
      rw [foldK_cons]
      dsimp only
      rw [ih, List.foldr_cons]
      exact or2_opt _ _
  exact key l 0
theorem or2_zero (a : Int) : or2 a 0 = a := by rcases or2_val a 0 with ⟨_, e⟩ | ⟨h, e⟩ <;> omega
theorem bind_ret {α : Type} (o : Option α) : (o.bind fun r => some r) = o := by cases o <;> rfl
theorem vcmp_ok (n : Nat) (hn3 : 3 < n) : ∀ (k : Nat) (v w : ApiValue) (d : Nat), vw v ≤ k → 3 * vw v ≤ d → vw v < n → vw v < 9223372036854775807 → value_Cmp d n v w = some (vcmp v w)
  | 0, v, w, d, h, _, _, _ => by have := vw_eq v; omega
  | k + 1, v, w, d, h, hd, hn, hm => by
    have hl := (vw_len v).1
    have hv0 := vw_eq v
    obtain ⟨d, rfl⟩ : ∃ e, d = e + 3 := ⟨d - 3, by omega⟩
    have hfun : slices_CompareFunc_Field_by_value_Cmp_1 (d + 2) n v.Fields w.Fields () = some (fcmp v.Fields w.Fields) := by
      rw [slices_CompareFunc_Field_by_value_Cmp_1_eq]
      have := slices_CompareFunc_Field_by_value_Cmp_1_l0_fold (d + 1) n v.Fields w.Fields v.Fields (by omega) n 0 (by omega) (by omega)
      rw [show ((0 : Nat) : Int) = 0 from rfl] at this
      rw [this]
      have key : ∀ (c i : Nat), c = v.Fields.length - i → i ≤ v.Fields.length → i ≤ w.Fields.length ∨ True → foldK (S := Unit) (fun i (a : ApiField) s K => (bif (decide ((i : Int) ≥ (List.length w.Fields : Int))) then (some 1) else (bif (decide (0 ≤ (i : Int)) && decide ((i : Int) < List.length w.Fields)) then (Option.bind (value_Cmp_1 (d + 1) n a (List.getD w.Fields (Int.toNat (i : Int)) (ApiField.mk [] (ApiValue.mk 0 0 [] [])))) fun r1 => (bif (!decide (r1 = 0)) then (some r1) else (K ()))) else none))) (fun s => (bif (decide ((List.length v.Fields : Int) < (List.length w.Fields : Int))) then (some (-1)) else (some 0))) (List.drop i v.Fields) i () = some (fcmp (v.Fields.drop i) (w.Fields.drop i)) := by
        intro c
        induction c with
        | zero =>
          intro i hc hi _
          rw [List.drop_eq_nil_of_le (by omega : v.Fields.length ≤ i), foldK_nil]
          by_cases h1 : v.Fields.length < w.Fields.length
          · rw [decide_eq_true (by omega), List.drop_eq_getElem_cons (by omega : i < w.Fields.length)]
            rfl
          · rw [decide_eq_false (by omega), List.drop_eq_nil_of_le (by omega : w.Fields.length ≤ i)]
            rfl
        | succ c ih =>
          intro i hc hi _
          have hlt : i < v.Fields.length := by omega
          rw [List.drop_eq_getElem_cons hlt, foldK_cons]
          by_cases h1 : i < w.Fields.length
          · rw [decide_eq_false (by omega), inR h1, cond_false, cond_true, show Int.toNat (i : Int) = i from rfl, getD_lt _ h1, List.drop_eq_getElem_cons h1, value_Cmp_1_eq]
            have hv := vw_lt (List.getElem_mem hlt)
            rw [vcmp_ok n hn3 k _ _ d (by omega) (by omega) (by omega) (by omega), Option.bind_some, or_ok n _ (by simp; omega) (by simp), Option.bind_some, Option.bind_some]
            dsimp only
            rw [ih (i + 1) (by omega) (by omega) (.inr trivial)]
            simp only [fcmp, List.foldr_cons, List.foldr_nil, or2_zero]
            rw [← gcmp_eq]
            exact or2_opt _ _
          · rw [decide_eq_true (by omega), List.drop_eq_nil_of_le (by omega : w.Fields.length ≤ i)]
            rfl
      exact key _ 0 rfl (Nat.zero_le _) (.inr trivial)
    rw [value_Cmp_eq, hfun, vcmp_eq, value_order_eq, value_order_eq]
    have e1 : ∀ x : Int, (bif (decide (x < 0)) then (some (IntKind.wrap .i64 ((-1 : Int) - (Fv.bits .and .i64 x 9223372036854775807)))) else (some x)) = some (ordF x) := fun x => by
      unfold ordF; cases decide (x < 0) <;> rfl
    rw [e1, e1]
    simp only [compare_ok, Option.bind_some]
    rw [or_ok n _ (by simp; omega) (by simp), or_ok n _ (by simp; omega) (by simp)]
    simp only [Option.bind_some, List.foldr_cons, List.foldr_nil, or2_zero]
    cases decide (v.Kind = 3) <;> exact or2_opt _ _

/-! ### Rows -/
def LV (l : List ApiValue) : ApiValue := ApiValue.mk 8 0 [] (l.map fun v => ApiField.mk [] v)
def lw (l : List ApiValue) : Nat := vw (LV l)
theorem lw_nil : lw [] = 1 := by simp [lw, LV, vw, fw]
theorem lw_cons (v : ApiValue) (l : List ApiValue) : lw (v :: l) = vw v + 1 + lw l := by
  simp [lw, LV, vw, fw, gw]; omega
theorem lw_len : ∀ l : List ApiValue, l.length < lw l
  | [] => by rw [lw_nil]; simp
  | v :: l => by have := lw_len l; rw [lw_cons, List.length_cons]; have := vw_eq v; omega
theorem lw_mem {v : ApiValue} : ∀ {l : List ApiValue}, v ∈ l → vw v < lw l
  | [], h => by simp at h
  | w :: l, h => by
    rw [lw_cons]
    rcases List.mem_cons.1 h with rfl | h
    · omega
    · have := lw_mem h; omega
def rcmp (a b : List ApiValue) : Int := vcmp (LV a) (LV b)
theorem rcmp_f (a b : List ApiValue) : rcmp a b = fcmp (a.map fun v => ApiField.mk [] v) (b.map fun v => ApiField.mk [] v) := by
  unfold rcmp
  rw [vcmp_eq]
  rfl
theorem rcmp_nn : rcmp [] [] = 0 := by rw [rcmp_f]; simp [fcmp]
theorem rcmp_nc (w : ApiValue) (b : List ApiValue) : rcmp [] (w :: b) = -1 := by rw [rcmp_f]; simp [fcmp]
theorem rcmp_cn (v : ApiValue) (a : List ApiValue) : rcmp (v :: a) [] = 1 := by rw [rcmp_f]; simp [fcmp]
theorem rcmp_cc (v w : ApiValue) (a b : List ApiValue) : rcmp (v :: a) (w :: b) = or2 (vcmp v w) (rcmp a b) := by
  rw [rcmp_f, rcmp_f]
  simp only [List.map_cons, fcmp, gcmp_eq]
  rfl
theorem rcmp_anti (a b : List ApiValue) : rcmp b a = -rcmp a b := vcmp_anti _ _
theorem rcmp_tr (a b c : List ApiValue) : Tr3 (rcmp a b) (rcmp b c) (rcmp a c) := vcmp_tr _ _ _
theorem rcmp_ok (n : Nat) (a b : List ApiValue) (h : 3 * lw a < n) (hm : lw a < 4611686018427387904) : rel_Cmp n a b = some (rcmp a b) := by
  have hl := lw_len a
  rw [rel_Cmp_eq]
  have hmn : mnI (a.length : Int) (b.length : Int) = ((min a.length b.length : Nat) : Int) := by
    unfold mnI
    by_cases h : b.length < a.length
    · rw [decide_eq_true (by omega), Nat.min_eq_right (by omega)]; rfl
    · rw [decide_eq_false (by omega), Nat.min_eq_left (by omega)]; rfl
  rw [hmn]
  have key : ∀ (c i m : Nat), c = min a.length b.length - i → i ≤ min a.length b.length → c < m → rel_Cmp_l0 n m a b ((min a.length b.length : Nat) : Int) (i : Int) = some (rcmp (a.drop i) (b.drop i)) := by
    intro c
    induction c with
    | zero =>
      intro i m hc hi hm'
      obtain ⟨m, rfl⟩ : ∃ k, m = k + 1 := ⟨m - 1, by omega⟩
      rw [rel_Cmp_l0_eq, decide_eq_false (by omega), cond_false, compare_ok, Option.bind_some]
      congr 1
      rcases Nat.lt_trichotomy a.length b.length with h1 | h1 | h1
      · rw [List.drop_eq_nil_of_le (by omega : a.length ≤ i), List.drop_eq_getElem_cons (by omega : i < b.length), rcmp_nc]
        rcases icmp_val a.length b.length with ⟨_, e⟩ | ⟨_, e⟩ | ⟨_, e⟩ <;> omega
      · rw [List.drop_eq_nil_of_le (by omega : a.length ≤ i), List.drop_eq_nil_of_le (by omega : b.length ≤ i), rcmp_nn]
        rcases icmp_val a.length b.length with ⟨_, e⟩ | ⟨_, e⟩ | ⟨_, e⟩ <;> omega
      · rw [List.drop_eq_getElem_cons (by omega : i < a.length), List.drop_eq_nil_of_le (by omega : b.length ≤ i), rcmp_cn]
        rcases icmp_val a.length b.length with ⟨_, e⟩ | ⟨_, e⟩ | ⟨_, e⟩ <;> omega
    | succ c ih =>
      intro i m hc hi hm'
      obtain ⟨m, rfl⟩ : ∃ k, m = k + 1 := ⟨m - 1, by omega⟩
      have h1 : i < a.length := by omega
      have h2 : i < b.length := by omega
      rw [rel_Cmp_l0_eq, decide_eq_true (by omega), inR h1, inR h2, cond_true, cond_true, cond_true, show Int.toNat (i : Int) = i from rfl, getD_lt _ h1, getD_lt _ h2]
      have hv := lw_mem (List.getElem_mem h1)
      rw [vcmp_ok n (by omega) _ _ _ n (Nat.le_refl _) (by omega) (by omega) (by omega), Option.bind_some, i64_succ (by omega), ih (i + 1) m (by omega) (by omega) (by omega), List.drop_eq_getElem_cons h1, List.drop_eq_getElem_cons h2, rcmp_cc]
      exact or2_opt _ _
  have := key _ 0 n rfl (Nat.zero_le _) (by omega)
  exact this
theorem appOK {α : Type} (s : List α) (x : α) (h : s.length < 4294967296) : (decide (List.length s = List.length s) && decide (List.length s + List.length [x] ≤ 4294967296)) = true := by
  rw [decide_eq_true (rfl : List.length s = List.length s), decide_eq_true (show List.length s + List.length [x] ≤ 4294967296 by simp only [List.length_singleton]; omega)]
  rfl
theorem order1_ok (n : Nat) (a : List ApiValue) (hn : a.length < n) (hm : a.length < 4294967296) : ref2_Order_1 n a = some (LV a) := by
  rw [ref2_Order_1_eq]
  have := ref2_Order_1_l0_fold n a (ApiValue.mk 0 0 [] []) 8 0 [] [] (by omega) n 0 (by omega) (by omega)
  rw [show ((0 : Nat) : Int) = 0 from rfl] at this
  rw [this, List.drop_zero]
  have key : ∀ (l : List ApiValue) (i : Nat) (s : List ApiField), s.length + l.length < 4294967296 → foldK (S := (List ApiField)) (fun i (a : ApiValue) s K => (bif (decide ((List.length s) = List.length s) && decide (List.length s + List.length ([(ApiField.mk [] a)] : List ApiField) ≤ 4294967296)) then (K (s ++ [(ApiField.mk [] a)])) else none)) (fun s => (some (ApiValue.mk 8 0 [] s))) l i s = some (ApiValue.mk 8 0 [] (s ++ l.map fun v => ApiField.mk [] v)) := by
    intro l
    induction l with
    | nil => intro i s _; simp [foldK]
    | cons v l ih =>
      intro i s hs
      rw [foldK_cons, appOK s _ (by omega), cond_true]
      dsimp only
      rw [ih (i + 1) _ (by simp at hs ⊢; omega)]
      simp
  exact key a 0 [] (by simpa using hm)
theorem order_ok (n : Nat) (a b : List ApiValue) (ha : 3 * lw a < n) (hb : b.length < n) (hma : lw a < 4611686018427387904) (hla : a.length < 4294967296) (hmb : b.length < 4294967296) : ref2_Order n a b = some (rcmp a b) := by
  have := lw_len a
  rw [ref2_Order_eq, order1_ok n a (by omega) (by omega), order1_ok n b hb hmb, Option.bind_some, Option.bind_some, vcmp_ok n (by omega) _ (LV a) _ n (Nat.le_refl _) (by have : lw a = vw (LV a) := rfl; omega) (by have : lw a = vw (LV a) := rfl; omega) (by have : lw a = vw (LV a) := rfl; omega), Option.bind_some]
  rfl

/-! ### Heads and rows -/
structure RB (B : Nat) (r : Rel) : Prop where
  nm : r.Name.length ≤ B
  cl : r.Cols.length ≤ B
  cn : ∀ c ∈ r.Cols, c.Name.length ≤ B
  kl : r.Key.length ≤ B
  rl : r.Rows.length ≤ B
  rw : ∀ l ∈ r.Rows, lw l ≤ B
theorem foldK_ix {A : Type} (p : A → Bool) (l : List A) : foldK (S := Unit) (fun i a _ K => bif p a then some (i : Int) else K ()) (fun _ => some (-1)) l 0 () = some (ixI p l) := by
  rw [foldK_idx]
  unfold ixI
  cases List.findIdx? p l <;> simp

theorem cidx_ok (n : Nat) (v : List Col) (c : Col) (hl : v.length < 9223372036854775807) (hn : v.length < n) : slices_ContainsFunc_Col_by_rel_head_1 n v (c, ()) = some (v.any fun a => a.Name == c.Name) := by
  have h := slices_IndexFunc_Col_by_rel_head_1_l0_fold n v c hl n 0 (Nat.zero_le _) (by omega)
  rw [show ((0 : Nat) : Int) = 0 from rfl] at h
  simp only [rel_head_1_eq, bind_some2] at h
  rw [slices_ContainsFunc_Col_by_rel_head_1_eq, slices_IndexFunc_Col_by_rel_head_1_eq, h, List.drop_zero, foldK_ix fun a : Col => a.Name == c.Name, bind_some2, ixI_pos]
theorem col_ok (n : Nat) (r : Rel) (s : List UInt8) (hl : r.Cols.length < 9223372036854775807) (hn : r.Cols.length < n) : rel_Col n r s = some (mxI 0 (ixI (fun a => a.Name == s) r.Cols), r.Cols.any fun a => a.Name == s) := by
  have h := slices_IndexFunc_Col_by_rel_Col_1_l0_fold n r.Cols s hl n 0 (Nat.zero_le _) (by omega)
  rw [show ((0 : Nat) : Int) = 0 from rfl] at h
  simp only [rel_Col_1_eq, bind_some2] at h
  rw [rel_Col_eq, slices_IndexFunc_Col_by_rel_Col_1_eq, h, List.drop_zero, foldK_ix fun a : Col => a.Name == s, bind_some2, ixI_pos]
theorem column_ok (n : Nat) (r : Rel) (s : List UInt8) (hl : r.Cols.length < 9223372036854775807) (hn : r.Cols.length < n) : ref2_column n r s = some (ixI (fun a => a.Name == s) r.Cols) := by
  have h := ref2_column_l0_fold n s r.Cols hl n 0 (Nat.zero_le _) (by omega)
  rw [show ((0 : Nat) : Int) = 0 from rfl] at h
  rw [ref2_column_eq, h, List.drop_zero, foldK_ix fun a : Col => a.Name == s]
theorem sindex_ok (n : Nat) (v : List (List UInt8)) (s : List UInt8) (hl : v.length < 9223372036854775807) (hn : v.length < n) : slices_Contains_string n v s = some (v.any fun a => s == a) := by
  have h := slices_Index_string_l0_fold n v s hl n 0 (Nat.zero_le _) (by omega)
  rw [show ((0 : Nat) : Int) = 0 from rfl] at h
  rw [slices_Contains_string_eq, slices_Index_string_eq, h, List.drop_zero, foldK_ix fun a : List UInt8 => s == a, bind_some2, ixI_pos]
theorem any_take {α : Type} (l : List α) (p : α → Bool) {i : Nat} (h : i < l.length) : (l.take (i + 1)).any p = ((l.take i).any p || p l[i]) := by
  rw [List.take_succ_eq_append_getElem h, List.any_append]
  simp
theorem seen_set {A : Type} {l : List A} {nm : A → List UInt8} {i : Nat} (hi : i < l.length) {w : List (List UInt8 × Bool)} (hI : ∀ s, has w s = (l.take i).any fun a => nm a == s) (s : List UInt8) : has (smset (nm l[i]) true w) s = (l.take (i + 1)).any fun a => nm a == s := by
  rw [has_set, any_take _ _ hi, hI]
  by_cases he : s = nm l[i]
  · rw [if_pos he]; simp [he]
  · rw [if_neg he]
    have : (nm l[i] == s) = false := by simpa using fun h => he h.symm
    rw [this, Bool.or_false]
abbrev KeyIn (r : Rel) (k : List UInt8) : Prop := (r.Cols.any fun a => a.Name == k) = true
theorem beq_sym (a b : List UInt8) : (a == b) = (b == a) := by
  by_cases h : a = b
  · simp [h]
  · rw [show (a == b) = false by simpa using h, show (b == a) = false by simpa using fun e => h e.symm]
theorem keys_par {n : Nat} {r : Rel} (hc : r.Cols.length < 4294967296) (hk : r.Key.length < 4294967296) (hcn : r.Cols.length < n) (hkn : r.Key.length < n) {w : List (List UInt8 × Bool)} (hI : ∀ s, has w s = r.Cols.any fun a => a.Name == s) :
    rel_head_l4 n n r.Key (List.length r.Key : Int) 0 r = ref2_HeadErr_l3 n n r.Key (List.length r.Key : Int) 0 w [] := by
  have f3 := rel_head_l4_fold n r.Key r (by omega) n 0 (Nat.zero_le _) (by omega)
  have f4 := ref2_HeadErr_l3_fold n r.Key w [] (by omega) n 0 (Nat.zero_le _) (by omega)
  rw [show ((0 : Nat) : Int) = 0 from rfl] at f3 f4
  rw [f3, f4]
  refine foldK_par r.Key (S := Unit) (S' := List (List UInt8 × Bool)) (fun i _ u => ∀ s, has u s = (r.Key.take i).any fun a => a == s) ?_ (fun _ _ _ => rfl) _ 0 rfl (Nat.zero_le _) _ _ (by intro s; rfl)
  intro i hi s u K K' hJ hK
  rw [col_ok n r _ (by omega) (by omega), inR' (by omega : i ≤ r.Key.length), show Int.toNat (i : Int) = i from rfl, sindex_ok n _ _ (by simp; omega) (by simp; omega), mgetD_s, mgetD_s, mset_s, hI, hJ]
  simp only [bind_some2, cond_true]
  rw [show (fun a : List UInt8 => r.Key[i] == a) = fun a => a == r.Key[i] from funext fun a => beq_sym _ _]
  cases r.Cols.any fun a => a.Name == r.Key[i] with
  | false => simp only [Bool.not_false, cond_true]
  | true =>
    cases (r.Key.take i).any fun a => a == r.Key[i] with
    | true => simp only [Bool.not_true, cond_true, cond_false]
    | false =>
      simp only [Bool.not_true, cond_false]
      exact hK _ _ fun s => seen_set (nm := fun a => a) hi hJ s
theorem keys_case {n : Nat} {r : Rel} (hc : r.Cols.length < 4294967296) (hk : r.Key.length < 4294967296) (hcn : r.Cols.length < n) (hkn : r.Key.length < n) :
    ∃ e : Int, rel_head_l4 n n r.Key (List.length r.Key : Int) 0 r = some e ∧ (e = 0 → ∀ k ∈ r.Key, KeyIn r k) := by
  have f3 := rel_head_l4_fold n r.Key r (by omega) n 0 (Nat.zero_le _) (by omega)
  rw [show ((0 : Nat) : Int) = 0 from rfl] at f3
  rw [f3]
  refine foldK_case r.Key (S := Unit) (fun i _ => ∀ k ∈ r.Key.take i, KeyIn r k) (fun o => ∃ e : Int, o = some e ∧ (e = 0 → ∀ k ∈ r.Key, KeyIn r k)) ?_ ?_ _ 0 rfl (Nat.zero_le _) _ (by simp)
  · intro i hi s hI
    rw [col_ok n r _ (by omega) (by omega), inR' (by omega : i ≤ r.Key.length), show Int.toNat (i : Int) = i from rfl, sindex_ok n _ _ (by simp; omega) (by simp; omega)]
    simp only [bind_some2, cond_true]
    cases hc : r.Cols.any fun a => a.Name == r.Key[i] with
    | false => exact .inl ⟨some 15, ⟨_, rfl, fun h => by omega⟩, fun _ => by simp only [Bool.not_false, cond_true]⟩
    | true =>
      cases (r.Key.take i).any fun a => r.Key[i] == a with
      | true => exact .inl ⟨some 5, ⟨_, rfl, fun h => by omega⟩, fun _ => by simp only [Bool.not_true, cond_true, cond_false]⟩
      | false =>
        refine .inr ⟨(), fun k hk => ?_, fun _ => by simp only [Bool.not_true, cond_false]⟩
        rw [List.take_succ_eq_append_getElem hi] at hk
        rcases List.mem_append.1 hk with hk | hk
        · exact hI k hk
        · rw [List.mem_singleton.1 hk]; exact hc
  · intro s hI
    exact ⟨0, rfl, fun _ => by rwa [List.take_length] at hI⟩
theorem cols_par {n : Nat} {r : Rel} (hc : r.Cols.length < 4294967296) (hk : r.Key.length < 4294967296) (hcn : r.Cols.length < n) (hkn : r.Key.length < n) (hs : ∀ c ∈ r.Cols, c.Name.length < n) :
    rel_head_l1 n n r.Cols (List.length r.Cols : Int) 0 r = ref2_HeadErr_l0 n n r.Cols (List.length r.Cols : Int) 0 r [] [] := by
  have f1 := rel_head_l1_fold n r.Cols r (by omega) n 0 (Nat.zero_le _) (by omega)
  have f2 := ref2_HeadErr_l0_fold n r.Cols r [] [] (by omega) n 0 (Nat.zero_le _) (by omega)
  rw [show ((0 : Nat) : Int) = 0 from rfl] at f1 f2
  rw [f1, f2]
  refine foldK_par r.Cols (S := Unit) (S' := List (List UInt8 × Bool)) (fun i _ w => ∀ s, has w s = (r.Cols.take i).any fun a => a.Name == s) ?_ ?_ _ 0 rfl (Nat.zero_le _) _ _ (by intro s; rfl)
  · intro i hi s w K K' hI hK
    have hm := List.getElem_mem hi
    obtain ⟨b2, hb2⟩ := Option.isSome_iff_exists.1 (vname_some n r.Cols[i].Name (hs _ hm))
    rw [hb2, inR' (by omega : i ≤ r.Cols.length), show Int.toNat (i : Int) = i from rfl, cidx_ok n _ _ (by simp; omega) (by simp; omega), rel_Column_eq, mgetD_s, mset_s, hI]
    simp only [bind_some2, cond_true]
    cases b2 with
    | false => simp only [Bool.not_false, cond_true]
    | true =>
      simp only [Bool.not_true, cond_false]
      cases (r.Cols.take i).any fun a => a.Name == r.Cols[i].Name with
      | true => simp only [cond_true]
      | false =>
        simp only [cond_false]
        by_cases hk1 : r.Cols[i].Kind < 1
        · rw [decide_eq_false (by omega : ¬ r.Cols[i].Kind ≥ 1), decide_eq_true hk1]; simp only [bind_some2, cond_false, Bool.not_false, cond_true]
        · rw [decide_eq_true (by omega : r.Cols[i].Kind ≥ 1), decide_eq_false hk1]
          by_cases hk2 : r.Cols[i].Kind > 5
          · rw [decide_eq_false (by omega : ¬ r.Cols[i].Kind ≤ 5), decide_eq_true hk2]; simp only [bind_some2, cond_true, cond_false, Bool.not_false]
          · rw [decide_eq_true (by omega : r.Cols[i].Kind ≤ 5), decide_eq_false hk2]
            simp only [cond_true, cond_false, bind_some2, Bool.not_true]
            exact hK _ _ fun s => seen_set (nm := fun a : Col => a.Name) hi hI s
  · intro _ w hI
    exact keys_par hc hk hcn hkn (by rwa [List.take_length] at hI)
theorem cols_case {n : Nat} {r : Rel} (hc : r.Cols.length < 4294967296) (hk : r.Key.length < 4294967296) (hcn : r.Cols.length < n) (hkn : r.Key.length < n) (hs : ∀ c ∈ r.Cols, c.Name.length < n) :
    ∃ e : Int, rel_head_l1 n n r.Cols (List.length r.Cols : Int) 0 r = some e ∧ (e = 0 → ∀ k ∈ r.Key, KeyIn r k) := by
  have f1 := rel_head_l1_fold n r.Cols r (by omega) n 0 (Nat.zero_le _) (by omega)
  rw [show ((0 : Nat) : Int) = 0 from rfl] at f1
  rw [f1]
  refine foldK_case r.Cols (S := Unit) (fun _ _ => True) (fun o => ∃ e : Int, o = some e ∧ (e = 0 → ∀ k ∈ r.Key, KeyIn r k)) ?_ (fun _ _ => keys_case hc hk hcn hkn) _ 0 rfl (Nat.zero_le _) _ trivial
  intro i hi s _
  have hm := List.getElem_mem hi
  obtain ⟨b2, hb2⟩ := Option.isSome_iff_exists.1 (vname_some n r.Cols[i].Name (hs _ hm))
  rw [hb2, inR' (by omega : i ≤ r.Cols.length), show Int.toNat (i : Int) = i from rfl, cidx_ok n _ _ (by simp; omega) (by simp; omega), rel_Column_eq]
  simp only [bind_some2, cond_true]
  cases b2 with
  | false => exact .inl ⟨some 15, ⟨_, rfl, fun h => by omega⟩, fun _ => by simp only [Bool.not_false, cond_true]⟩
  | true =>
    cases (r.Cols.take i).any fun a => a.Name == r.Cols[i].Name with
    | true => exact .inl ⟨some 5, ⟨_, rfl, fun h => by omega⟩, fun _ => by simp only [Bool.not_true, cond_false, cond_true]⟩
    | false =>
      cases decide (r.Cols[i].Kind ≥ 1) with
      | false => exact .inl ⟨some 8, ⟨_, rfl, fun h => by omega⟩, fun _ => by simp only [Bool.not_true, Bool.not_false, cond_false, cond_true, bind_some2]⟩
      | true =>
        cases decide (r.Cols[i].Kind ≤ 5) with
        | false => exact .inl ⟨some 8, ⟨_, rfl, fun h => by omega⟩, fun _ => by simp only [Bool.not_true, Bool.not_false, cond_false, cond_true, bind_some2]⟩
        | true => exact .inr ⟨(), trivial, fun _ => by simp only [Bool.not_true, cond_false, cond_true, bind_some2]⟩
/-- Both heads answer alike, and where they are right each key has its column. -/
theorem head_ok {B n : Nat} {r : Rel} (hr : RB B r) (hB : B < 4294967296) (hn : B < n) : rel_head n r = ref2_HeadErr n r ∧ ∃ e : Int, rel_head n r = some e ∧ (e = 0 → ∀ k ∈ r.Key, KeyIn r k) := by
  have h1 := hr.cl
  have h2 := hr.kl
  have hs : ∀ c ∈ r.Cols, c.Name.length < n := fun c hc => by have := hr.cn c hc; omega
  obtain ⟨b, hb⟩ := Option.isSome_iff_exists.1 (vname_some n r.Name (by have := hr.nm; omega))
  rw [rel_head_eq, ref2_HeadErr_eq, hb, bind_some2, bind_some2, cols_par (by omega) (by omega) (by omega) (by omega) hs]
  refine ⟨rfl, ?_⟩
  rw [← cols_par (by omega) (by omega) (by omega) (by omega) hs]
  cases b with
  | false => exact ⟨15, by simp only [Bool.not_false, cond_true], fun h => by omega⟩
  | true =>
    simp only [Bool.not_true, cond_false]
    cases decide ((r.Cols.length : Int) = 0) with
    | true => exact ⟨3, by simp only [cond_true], fun h => by omega⟩
    | false =>
      cases decide ((r.Cols.length : Int) > 12) with
      | true => exact ⟨2, by simp only [cond_true, cond_false], fun h => by omega⟩
      | false =>
        simp only [cond_false]
        exact cols_case (by omega) (by omega) (by omega) (by omega) hs

theorem row_ok {n : Nat} {r : Rel} {l : List ApiValue} (hl : lw l < 4294967296) (hn : lw l < n) : rel_row n r l = ref2_RowErr n r l ∧ ∃ e : Int, rel_row n r l = some e ∧ (e = 0 → l.length = r.Cols.length) := by
  have hll := lw_len l
  rw [rel_row_eq, ref2_RowErr_eq]
  by_cases hc : l.length = r.Cols.length
  · rw [decide_eq_true (by omega : (l.length : Int) = (r.Cols.length : Int)), decide_eq_true (by omega : (r.Cols.length : Int) = (l.length : Int))]
    simp only [Bool.not_true, cond_false]
    have f1 := rel_row_l0_fold n l r (by omega) n 0 (Nat.zero_le _) (by omega)
    have f2 := ref2_RowErr_l0_fold n l r (by omega) n 0 (Nat.zero_le _) (by omega)
    rw [show ((0 : Nat) : Int) = 0 from rfl] at f1 f2
    rw [f1, f2]
    have chk : ∀ i (hi : i < l.length), ∃ e, value_Check n l[i] = some e := fun i hi => by
      have := lw_mem (List.getElem_mem hi)
      exact Option.isSome_iff_exists.1 (vcheck_some n _ (by omega) (by omega))
    constructor
    · refine foldK_par l (S := Unit) (S' := Unit) (fun _ _ _ => True) ?_ (fun _ _ _ => rfl) _ 0 rfl (Nat.zero_le _) _ _ trivial
      intro i hi s s' K K' _ hK
      obtain ⟨e, he⟩ := chk i hi
      rw [he, inR hi, inR (by omega : i < r.Cols.length)]
      simp only [bind_some2, cond_true]
      by_cases h0 : e = 0
      · rw [decide_eq_true h0]
        simp only [Bool.not_true, cond_false, cond_true]
        cases decide (l[i].Kind = (List.getD r.Cols (Int.toNat (i : Int)) (Col.mk [] 0)).Kind) <;> cases decide (l[i].Kind = 11) <;> simp only [Bool.not_true, Bool.not_false, cond_true, cond_false] <;> first | exact hK _ _ trivial | (rw [decide_eq_false (by omega : ¬ (8 : Int) = 0)]; simp only [Bool.not_false, cond_true])
      · rw [decide_eq_false h0]
        simp only [Bool.not_false, cond_true, cond_false]
    · refine foldK_case l (S := Unit) (fun _ _ => True) (fun o => ∃ e : Int, o = some e ∧ (e = 0 → l.length = r.Cols.length)) ?_ (fun _ _ => ⟨0, rfl, fun _ => hc⟩) _ 0 rfl (Nat.zero_le _) _ trivial
      intro i hi s _
      obtain ⟨e, he⟩ := chk i hi
      rw [he, inR (by omega : i < r.Cols.length)]
      simp only [bind_some2, cond_true]
      cases decide (e = 0) with
      | false => exact .inl ⟨some e, ⟨e, rfl, fun _ => hc⟩, fun _ => by simp only [Bool.not_false, cond_true]⟩
      | true =>
        cases decide (l[i].Kind = (List.getD r.Cols (Int.toNat (i : Int)) (Col.mk [] 0)).Kind) with
        | true => exact .inr ⟨(), trivial, fun _ => by simp only [Bool.not_true, cond_false]⟩
        | false => cases decide (l[i].Kind = 11) with
          | true => exact .inr ⟨(), trivial, fun _ => by simp only [Bool.not_true, Bool.not_false, cond_true, cond_false]⟩
          | false => exact .inl ⟨some 8, ⟨8, rfl, fun _ => hc⟩, fun _ => by simp only [Bool.not_true, Bool.not_false, cond_true, cond_false]⟩
  · rw [decide_eq_false (by omega : ¬ (l.length : Int) = (r.Cols.length : Int)), decide_eq_false (by omega : ¬ (r.Cols.length : Int) = (l.length : Int))]
    simp only [Bool.not_false, cond_true]
    exact ⟨trivial, 3, rfl, fun h => by omega⟩

/-! ### Keys of rows -/
/-- The value of a row under a key. -/
def kval (r : Rel) (l : List ApiValue) (k : List UInt8) : ApiValue := l.getD (r.Cols.findIdx fun a => a.Name == k) (ApiValue.mk 0 0 [] [])
def keyOf (r : Rel) (l : List ApiValue) : List ApiValue := r.Key.map (kval r l)
theorem kidx {r : Rel} {k : List UInt8} (h : KeyIn r k) : ixI (fun a => a.Name == k) r.Cols = ((r.Cols.findIdx fun a => a.Name == k : Nat) : Int) ∧ (r.Cols.findIdx fun a => a.Name == k) < r.Cols.length := by
  refine ⟨by rw [ixI_eq, if_pos h], List.findIdx_lt_length_of_exists ?_⟩
  obtain ⟨c, h1, h2⟩ := List.any_eq_true.1 h
  exact ⟨c, h1, h2⟩
theorem kval_mem {r : Rel} {l : List ApiValue} {k : List UInt8} (h : KeyIn r k) (hl : l.length = r.Cols.length) : kval r l k ∈ l := by
  obtain ⟨_, h2⟩ := kidx h
  unfold kval
  rw [List.getD_of_lt _ _ _ (by omega)]
  exact List.getElem_mem _
theorem agree1_ok {B n : Nat} {r : Rel} (hr : RB B r) (hB : B < 4294967296) (hn : 3 * B + 10 < n) {a b : List ApiValue} (ha : a ∈ r.Rows) (hla : a.length = r.Cols.length) (hlb : b.length = r.Cols.length) {k : List UInt8} (hk : KeyIn r k) :
    rel_agree_1 n k r a b = some (!decide (vcmp (kval r a k) (kval r b k) = 0)) := by
  have h1 := hr.cl
  obtain ⟨e, hlt⟩ := kidx hk
  have hmx : mxI 0 (ixI (fun a => a.Name == k) r.Cols) = ((r.Cols.findIdx fun a => a.Name == k : Nat) : Int) := by
    rw [e]
    unfold mxI
    cases r.Cols.findIdx fun a => a.Name == k with
    | zero => rfl
    | succ j => rw [decide_eq_true (by omega)]; rfl
  rw [rel_agree_1_eq, col_ok n r k (by omega) (by omega)]
  simp only [bind_some2]
  rw [hmx, inR (by omega : _ < a.length), inR (by omega : _ < b.length), cond_true, cond_true, value_Same_eq]
  have hv := lw_mem (kval_mem hk hla)
  have hw := hr.rw a ha
  show Option.bind (Option.bind (value_Cmp n n (kval r a k) (kval r b k)) _) _ = _
  rw [vcmp_ok n (by omega) _ _ _ n (Nat.le_refl _) (by omega) (by omega) (by omega)]
  rfl
theorem agree_ok {B n : Nat} {r : Rel} (hr : RB B r) (hB : B < 4294967296) (hn : 3 * B + 10 < n) (hk : ∀ k ∈ r.Key, KeyIn r k) {a b : List ApiValue} (ha : a ∈ r.Rows) (hla : a.length = r.Cols.length) (hlb : b.length = r.Cols.length) :
    rel_agree n r a b = some (decide (rcmp (keyOf r a) (keyOf r b) = 0)) := by
  have h1 := hr.kl
  have h := slices_IndexFunc_string_by_rel_agree_1_l0_fold n r.Key r a b (by omega) n 0 (Nat.zero_le _) (by omega)
  rw [show ((0 : Nat) : Int) = 0 from rfl] at h
  rw [rel_agree_eq, slices_ContainsFunc_string_by_rel_agree_1_eq, slices_IndexFunc_string_by_rel_agree_1_eq]
  simp only []
  rw [h, List.drop_zero]
  have e : foldK (S := Unit) (fun i (x : (List UInt8)) s K => (Option.bind (rel_agree_1 n x r a b) fun r1 => (bif r1 then (some (i : Int)) else (K ())))) (fun s => (some (-1))) r.Key 0 () = foldK (S := Unit) (fun i x _ K => bif !decide (vcmp (kval r a x) (kval r b x) = 0) then some (i : Int) else K ()) (fun _ => some (-1)) r.Key 0 () :=
    foldK_congr (fun _ => rfl) r.Key 0 () fun i x s K hx => by rw [agree1_ok hr hB hn ha hla hlb (hk x hx), bind_some2]
  rw [e, foldK_ix fun x => !decide (vcmp (kval r a x) (kval r b x) = 0), bind_some2, bind_some2, ixI_pos]
  have key : ∀ l : List (List UInt8), (!l.any fun x => !decide (vcmp (kval r a x) (kval r b x) = 0)) = decide (rcmp (l.map (kval r a)) (l.map (kval r b)) = 0) := by
    intro l
    induction l with
    | nil => simp [rcmp_nn]
    | cons x l ih =>
      rw [List.any_cons, List.map_cons, List.map_cons, rcmp_cc, Bool.not_or, Bool.not_not, ih, ← Bool.decide_and]
      congr 1
      rcases or2_val (vcmp (kval r a x) (kval r b x)) (rcmp (l.map (kval r a)) (l.map (kval r b))) with ⟨h1, h2⟩ | ⟨h1, h2⟩ <;> rw [h2] <;> simp [h1]
  rw [key]
  rfl
theorem keyOf_ok {B n : Nat} {r : Rel} (hr : RB B r) (hB : B < 4294967295) (hn : B < n) (hk : ∀ k ∈ r.Key, KeyIn r k) {l : List ApiValue} (hl : l.length = r.Cols.length) : ref2_keyOf n r l = some (keyOf r l) := by
  have h1 := hr.kl
  have h2 := hr.cl
  have h := ref2_keyOf_l0_fold n l r.Key r [] (by omega) n 0 (Nat.zero_le _) (by omega)
  rw [show ((0 : Nat) : Int) = 0 from rfl] at h
  rw [ref2_keyOf_eq, h, List.drop_zero]
  have key : ∀ (m : List (List UInt8)) (i : Nat) (s : List ApiValue), (∀ k ∈ m, KeyIn r k) → s.length + m.length < 4294967296 → foldK (S := (List ApiValue)) (fun i (a : (List UInt8)) s K => (Option.bind (ref2_column n r a) fun r1 => (bif (decide (0 ≤ r1) && decide (r1 < List.length l)) then (bif (decide ((List.length s) = List.length s) && decide (List.length s + List.length ([(List.getD l (Int.toNat r1) (ApiValue.mk 0 0 [] []))] : List ApiValue) ≤ 4294967296)) then (K (s ++ [(List.getD l (Int.toNat r1) (ApiValue.mk 0 0 [] []))])) else none) else none))) (fun s => (some s)) m i s = some (s ++ m.map (kval r l)) := by
    intro m
    induction m with
    | nil => intro i s _ _; simp [foldK]
    | cons k m ih =>
      intro i s hk hs
      obtain ⟨e, hlt⟩ := kidx (hk k (by simp))
      rw [foldK_cons, column_ok n r k (by omega) (by omega), bind_some2, e, inR (by omega : _ < l.length), cond_true, appOK s _ (by simp at hs; omega), cond_true]
      dsimp only
      rw [ih (i + 1) _ (fun k hk' => hk k (by simp [hk'])) (by simp at hs ⊢; omega)]
      simp [kval]
  exact key r.Key 0 [] hk (by simp; omega)

/-! ### Keys that are alike -/
theorem sortO_ord {A : Type} (cmp : A → A → Option Int) (c : A → A → Int) (ha : ∀ a b, c b a = -c a b) (ht : ∀ a b d, Tr3 (c a b) (c b d) (c a d)) (xs : List A) (hl : xs.length < 4611686018427387904) (h : ∀ a ∈ xs, ∀ b ∈ xs, cmp a b = some (c a b)) :
    ∃ ys, sortO cmp xs = some ys ∧ ys.Perm xs ∧ ys.Pairwise fun a b => c a b ≤ 0 := by
  cases xs with
  | nil => exact ⟨[], rfl, .nil, .nil⟩
  | cons x t =>
    have hcf : ∀ i j : Fin (t.length + 1), cmp ((x :: t).get i) ((x :: t).get j) = some (cfOf cmp x t i j) ∧ cfOf cmp x t i j = c ((x :: t).get i) ((x :: t).get j) := by
      intro i j
      have h1 := h _ (List.get_mem (x :: t) i) _ (List.get_mem (x :: t) j)
      have e : cfOf cmp x t i j = c ((x :: t).get i) ((x :: t).get j) := by
        show (cmp ((x :: t).get i) ((x :: t).get j)).getD 0 = _
        rw [h1]
        rfl
      rw [e]
      exact ⟨h1, rfl⟩
    have hlt : ∀ i j : Fin (t.length + 1), ltI (cfOf cmp x t) i j = decide (c ((x :: t).get i) ((x :: t).get j) < 0) := by
      intro i j
      show decide (cfOf cmp x t i j < 0) = _
      rw [(hcf i j).2]
    have hswo : Go.Sort.SWO (ltI (cfOf cmp x t)) := by
      refine ⟨fun i => ?_, fun i j k h1 h2 => ?_, fun i j k h1 h2 => ?_⟩
      · rw [hlt]
        have := ha ((x :: t).get i) ((x :: t).get i)
        exact decide_eq_false (by omega)
      · rw [hlt] at h1 h2 ⊢
        have h1 := of_decide_eq_true h1
        have h2 := of_decide_eq_true h2
        obtain ⟨t1, t2, _⟩ := ht ((x :: t).get i) ((x :: t).get j) ((x :: t).get k)
        have t1 := t1 (by omega) (by omega)
        have t2 := t2 (by omega) (by omega)
        exact decide_eq_true (by omega)
      · rw [hlt] at h1 h2 ⊢
        have h1 := of_decide_eq_false h1
        have h2 := of_decide_eq_false h2
        obtain ⟨t1, t2, _⟩ := ht ((x :: t).get k) ((x :: t).get j) ((x :: t).get i)
        have a1 := ha ((x :: t).get i) ((x :: t).get j)
        have a2 := ha ((x :: t).get j) ((x :: t).get k)
        have a3 := ha ((x :: t).get i) ((x :: t).get k)
        have t1 := t1 (by omega) (by omega)
        exact decide_eq_false (by omega)
    obtain ⟨p1, p2, p3⟩ := swo_pdq hswo
    refine ⟨(pdqL (cfOf cmp x t)).map fun i => (x :: t).get i, ?_, ?_, ?_⟩
    · rw [sortO, if_pos ⟨by simpa using hl, fun i j => by rw [(hcf i j).1]; rfl, hswo⟩]
    · have e : (List.ofFn (n := t.length + 1) id).map (fun i => (x :: t).get i) = x :: t := by
        apply List.ext_getElem
        · simp
        · intro i h1 h2
          simp only [List.getElem_map, List.getElem_ofFn, id, List.get_eq_getElem]
      have := p1.map fun i => (x :: t).get i
      rwa [e] at this
    · rw [List.pairwise_map, List.pairwise_iff_getElem]
      intro i j hi hj hij
      have := p3 i j hi hj hij
      rw [hlt] at this
      have := of_decide_eq_false this
      have a1 := ha ((x :: t).get (pdqL (cfOf cmp x t))[i]) ((x :: t).get (pdqL (cfOf cmp x t))[j])
      omega
structure Big (B n : Nat) : Prop where
  b : B < 4000000000
  n1 : 3 * (B * (B + 1) + 1) + 3 * B + 100 < n
  m1 : B * (B + 1) + 1 < 4611686018427387904

/-- No two are alike. -/
def PW (l : List (List ApiValue)) : Prop := l.Pairwise fun a b => rcmp a b ≠ 0
theorem PW_perm {l m : List (List ApiValue)} (h : l.Perm m) : PW l ↔ PW m := h.pairwise_iff fun h1 h2 => h1 (by have := rcmp_anti _ _ ▸ h2; have := rcmp_anti; omega)
theorem PW_adj {l : List (List ApiValue)} (hs : l.Pairwise fun a b => rcmp a b ≤ 0) : PW l ↔ ∀ i, 0 < i → (hi : i < l.length) → rcmp (l[i - 1]'(by omega)) l[i] ≠ 0 := by
  unfold PW
  rw [List.pairwise_iff_getElem]
  rw [List.pairwise_iff_getElem] at hs
  constructor
  · intro h i h0 hi
    exact h (i - 1) i (by omega) hi (by omega)
  · intro h i j hi hj hij he
    by_cases h1 : i = j - 1
    · subst h1
      exact h j (by omega) hj he
    · obtain ⟨_, t2, _⟩ := rcmp_tr l[i] (l[j - 1]'(by omega)) l[j]
      exact h j (by omega) hj (t2 (hs i (j - 1) hi (by omega) (by omega)) (hs (j - 1) j (by omega) hj (by omega)) he).2
theorem lw_map {B : Nat} (f : List UInt8 → ApiValue) : ∀ l : List (List UInt8), (∀ k ∈ l, vw (f k) ≤ B) → lw (l.map f) ≤ l.length * (B + 1) + 1
  | [], _ => by rw [List.map_nil, lw_nil]; omega
  | k :: l, h => by
    rw [List.map_cons, lw_cons, List.length_cons, Nat.succ_mul]
    have := lw_map f l fun x hx => h x (by simp [hx])
    have := h k (by simp)
    omega
theorem key_lw {B : Nat} {r : Rel} (hr : RB B r) (hk : ∀ k ∈ r.Key, KeyIn r k) {l : List ApiValue} (hl : l ∈ r.Rows) (hll : l.length = r.Cols.length) : lw (keyOf r l) ≤ B * (B + 1) + 1 ∧ (keyOf r l).length ≤ B := by
  refine ⟨Nat.le_trans (lw_map (B := B) (kval r l) r.Key fun k hk' => ?_) ?_, by simp [keyOf]; exact hr.kl⟩
  · have := lw_mem (kval_mem (hk k hk') hll)
    have := hr.rw l hl
    omega
  · have := Nat.mul_le_mul_right (B + 1) hr.kl
    omega
open Classical in
theorem check2_ok {B n : Nat} {r : Rel} (hr : RB B r) (hB : Big B n) (hk : ∀ k ∈ r.Key, KeyIn r k) (hrow : ∀ l ∈ r.Rows, l.length = r.Cols.length) :
    ∀ (c i m : Nat), c = r.Rows.length - i → i ≤ r.Rows.length → c < m → PW ((r.Rows.take i).map (keyOf r)) → rel_Check_l2 n m r.Rows (r.Rows.length : Int) (i : Int) r = some (if PW (r.Rows.map (keyOf r)) then 0 else 16) := by
  have h1 := hr.rl
  have hb1 := hB.b
  have hb2 := hB.n1
  intro c
  induction c with
  | zero =>
    intro i m hc hi hm hp
    obtain ⟨m, rfl⟩ : ∃ q, m = q + 1 := ⟨m - 1, by omega⟩
    rw [rel_Check_l2_eq, decide_eq_false (by omega), cond_false]
    rw [List.take_of_length_le (by omega)] at hp
    rw [if_pos hp]
  | succ c ih =>
    intro i m hc hi hm hp
    obtain ⟨m, rfl⟩ : ∃ q, m = q + 1 := ⟨m - 1, by omega⟩
    have hlt : i < r.Rows.length := by omega
    have hmem := List.getElem_mem hlt
    rw [rel_Check_l2_eq, inR hlt, inR' hi, decide_eq_true (by omega), cond_true, cond_true, cond_true, show Int.toNat (i : Int) = i from rfl, getD_lt _ hlt]
    have f := rel_Check_l4_fold n m r.Rows[i] r.Rows (r.Rows.length : Int) (i : Int) (r.Rows.take i) r (by simp; omega) n 0 (Nat.zero_le _) (by simp; omega)
    rw [show ((0 : Nat) : Int) = 0 from rfl] at f
    rw [f, List.drop_zero, foldK_find (fun a => decide (rcmp (keyOf r r.Rows[i]) (keyOf r a) = 0)) (fun _ _ => some 16) _ _ _ fun j a s K ha => by
      rw [agree_ok hr (by omega) (by omega) hk hmem (hrow _ hmem) (hrow _ (List.mem_of_mem_take ha)), bind_some2]]
    cases hfi : (r.Rows.take i).find? fun a => decide (rcmp (keyOf r r.Rows[i]) (keyOf r a) = 0) with
    | some a =>
      have ha := List.mem_of_find?_eq_some hfi
      have hz := List.find?_some hfi
      have hz := of_decide_eq_true hz
      obtain ⟨j, hj, rfl⟩ := List.getElem_of_mem ha
      have hj' : j < i := by simp at hj; omega
      rw [if_neg]
      intro hpw
      unfold PW at hpw
      rw [List.pairwise_iff_getElem] at hpw
      have := hpw j i (by simp; omega) (by simp; omega) hj'
      simp only [List.getElem_map, List.getElem_take] at this hz
      have h2 := rcmp_anti (keyOf r r.Rows[i]) (keyOf r r.Rows[j])
      omega
    | none =>
      rw [List.find?_eq_none] at hfi
      dsimp only
      rw [i64_succ (by omega)]
      refine ih (i + 1) m (by omega) (by omega) (by omega) ?_
      rw [List.take_succ_eq_append_getElem hlt, List.map_append]
      unfold PW
      rw [List.pairwise_append]
      refine ⟨hp, by simp, fun a ha b hb => ?_⟩
      simp only [List.map_cons, List.map_nil, List.mem_singleton] at hb
      subst hb
      obtain ⟨x, hx, rfl⟩ := List.mem_map.1 ha
      have h2 := hfi x hx
      simp only [decide_eq_true_eq] at h2
      have h3 := rcmp_anti (keyOf r r.Rows[i]) (keyOf r x)
      omega
open Classical in
theorem adj_ok {B n : Nat} (hB : Big B n) (ys : List (List ApiValue)) (hl : ys.length ≤ B) (hw : ∀ y ∈ ys, lw y ≤ B * (B + 1) + 1 ∧ y.length ≤ B) :
    ref2_RelErr_l4 n n ys.length (ys.length : Int) 0 ys = some (if ∀ i, 0 < i → (hi : i < ys.length) → rcmp (ys[i - 1]'(by omega)) ys[i] ≠ 0 then 0 else 16) := by
  have hb1 := hB.b
  have hb2 := hB.n1
  have hb3 := hB.m1
  have f := ref2_RelErr_l4_fold n ys.length ys ys.length (by omega) n 0 (Nat.zero_le _) (by omega)
  rw [show ((0 : Nat) : Int) = 0 from rfl] at f
  rw [f]
  have key : ∀ (c i : Nat), c + i = ys.length → (∀ j, 0 < j → (hj : j < ys.length) → j < i → rcmp (ys[j - 1]'(by omega)) ys[j] ≠ 0) → foldN (S := Unit) (fun i s K => (bif (decide ((i : Int) > 0)) then (bif (decide (0 ≤ (IntKind.wrap .i64 ((i : Int) - 1))) && decide ((IntKind.wrap .i64 ((i : Int) - 1)) < (ys.length : Int))) then (bif (decide ((0 + (Int.toNat (IntKind.wrap .i64 ((i : Int) - 1)))) < List.length ys)) then (bif (decide (0 ≤ (i : Int)) && decide ((i : Int) < (ys.length : Int))) then (bif (decide ((0 + (Int.toNat (i : Int))) < List.length ys)) then (Option.bind (ref2_Order n (List.getD ys (0 + (Int.toNat (IntKind.wrap .i64 ((i : Int) - 1)))) []) (List.getD ys (0 + (Int.toNat (i : Int))) [])) fun r6 => (bif (decide (r6 = 0)) then (some 16) else (K ()))) else none) else none) else none) else none) else (K ()))) (fun s => (some 0)) c i () = some (if ∀ i, 0 < i → (hi : i < ys.length) → rcmp (ys[i - 1]'(by omega)) ys[i] ≠ 0 then (0 : Int) else 16) := by
    intro c
    induction c with
    | zero =>
      intro i hc hp
      rw [if_pos fun j h0 hj => hp j h0 hj (by omega)]
      rfl
    | succ c ih =>
      intro i hc hp
      have hlt : i < ys.length := by omega
      rw [foldN]
      by_cases h0 : 0 < i
      · obtain ⟨e1, e2⟩ := inP h0 hlt (by omega)
        have hlt' : i - 1 < ys.length := by omega
        rw [decide_eq_true (by omega : (i : Int) > 0), e1, e2, decide_eq_true (by omega : 0 + (i - 1) < ys.length), inR hlt, show Int.toNat (i : Int) = i from rfl, decide_eq_true (by omega : 0 + i < ys.length), cond_true, cond_true, cond_true, cond_true, cond_true, Nat.zero_add (i - 1), Nat.zero_add i, getD_lt _ hlt, getD_lt _ hlt']
        have w1 := hw _ (List.getElem_mem hlt')
        have w2 := hw _ (List.getElem_mem hlt)
        rw [order_ok n _ _ (by omega) (by omega) (by omega) (by omega) (by omega), bind_some2]
        by_cases hz : rcmp ys[i - 1] ys[i] = 0
        · rw [decide_eq_true hz, cond_true, if_neg fun h => h i h0 hlt hz]
        · rw [decide_eq_false hz, cond_false]
          refine ih (i + 1) (by omega) fun j j0 hj hj2 => ?_
          by_cases hji : j = i
          · subst hji; exact hz
          · exact hp j j0 hj (by omega)
      · rw [decide_eq_false (by omega : ¬ (i : Int) > 0), cond_false]
        exact ih (i + 1) (by omega) fun j j0 hj hj2 => by omega
  exact key _ 0 (by omega) fun j _ _ h => by omega
open Classical in
theorem err2_ok {B n : Nat} {r : Rel} (hr : RB B r) (hB : Big B n) (hk : ∀ k ∈ r.Key, KeyIn r k) (hrow : ∀ l ∈ r.Rows, l.length = r.Cols.length) :
    ref2_RelErr_l2 n n r.Rows (r.Rows.length : Int) 0 r [] = some (if PW (r.Rows.map (keyOf r)) then 0 else 16) := by
  have h1 := hr.rl
  have hb1 := hB.b
  have hb2 := hB.n1
  have hb3 := hB.m1
  have f := ref2_RelErr_l2_fold n r.Rows r [] (by omega) n 0 (Nat.zero_le _) (by omega)
  rw [show ((0 : Nat) : Int) = 0 from rfl] at f
  rw [f, List.drop_zero]
  have key : ∀ (m : List (List ApiValue)) (i : Nat) (s : List (List ApiValue)) (fin : List (List ApiValue) → Option Int), (∀ l ∈ m, l ∈ r.Rows) → s.length + m.length < 4294967296 → foldK (S := (List (List ApiValue))) (fun i (a : (List ApiValue)) s K => (Option.bind (ref2_keyOf n r a) fun r4 => (bif (decide ((List.length s) = List.length s) && decide (List.length s + List.length ([r4] : List (List ApiValue)) ≤ 4294967296)) then (K (s ++ [r4])) else none))) fin m i s = fin (s ++ m.map (keyOf r)) := by
    intro m
    induction m with
    | nil => intro i s fin _ _; simp [foldK]
    | cons l m ih =>
      intro i s fin hm hs
      have hl := hm l (by simp)
      rw [foldK_cons, keyOf_ok hr (by omega) (by omega) hk (hrow l hl), bind_some2, appOK s _ (by simp at hs; omega), cond_true]
      dsimp only
      rw [ih (i + 1) _ fin (fun x hx => hm x (by simp [hx])) (by simp at hs ⊢; omega)]
      simp
  rw [key r.Rows 0 [] _ (fun _ h => h) (by simp; omega), List.nil_append]
  have hmem : ∀ a ∈ r.Rows.map (keyOf r), lw a ≤ B * (B + 1) + 1 ∧ a.length ≤ B := by
    intro a ha
    obtain ⟨l, hl, rfl⟩ := List.mem_map.1 ha
    exact key_lw hr hk hl (hrow l hl)
  obtain ⟨ys, g1, g2, g3⟩ := sortO_ord (fun a b => Option.bind (ref2_Order n a b) fun r => some r) rcmp (fun a b => rcmp_anti a b) rcmp_tr (r.Rows.map (keyOf r)) (by simp; omega) fun a ha b hb => by
    have w1 := hmem a ha
    have w2 := hmem b hb
    rw [order_ok n a b (by omega) (by omega) (by omega) (by omega) (by omega), bind_some2]
  rw [List.take_length, g1, bind_some2]
  have hlen : ys.length = (r.Rows.map (keyOf r)).length := g2.length_eq
  have ho : over (r.Rows.map (keyOf r)) ys 0 = ys := by
    unfold over
    rw [List.take_zero, List.nil_append, Nat.zero_add, hlen, List.drop_length, List.append_nil]
  rw [ho, ← hlen, adj_ok hB ys (by rw [hlen]; simpa using h1) fun y hy => hmem y (g2.mem_iff.1 hy)]
  congr 1
  have e : PW (r.Rows.map (keyOf r)) ↔ _ := (PW_perm g2).symm.trans (PW_adj g3)
  by_cases hp : PW (r.Rows.map (keyOf r))
  · rw [if_pos hp, if_pos (e.1 hp)]
  · rw [if_neg hp, if_neg fun h => hp (e.2 h)]

/-! ### Whole relations -/
theorem rows_par {B n : Nat} {r : Rel} (hr : RB B r) (hB : Big B n) (hk : ∀ k ∈ r.Key, KeyIn r k) :
    rel_Check_l0 n n r.Rows (r.Rows.length : Int) 0 r = ref2_RelErr_l0 n n r.Rows (r.Rows.length : Int) 0 r ∧ (rel_Check_l0 n n r.Rows (r.Rows.length : Int) 0 r).isSome = true := by
  have h1 := hr.rl
  have hb1 := hB.b
  have hb2 := hB.n1
  have hb3 := hB.m1
  have f1 := rel_Check_l0_fold n r.Rows r (by omega) n 0 (Nat.zero_le _) (by omega)
  have f2 := ref2_RelErr_l0_fold n r.Rows r (by omega) n 0 (Nat.zero_le _) (by omega)
  rw [show ((0 : Nat) : Int) = 0 from rfl] at f1 f2
  rw [f1, f2]
  have next : ∀ {i : Nat} (hi : i < r.Rows.length), (∀ l ∈ r.Rows.take i, l.length = r.Cols.length) → r.Rows[i].length = r.Cols.length → ∀ l ∈ r.Rows.take (i + 1), l.length = r.Cols.length := by
    intro i hi hI h l hl
    rw [List.take_succ_eq_append_getElem hi] at hl
    rcases List.mem_append.1 hl with hl | hl
    · exact hI l hl
    · rw [List.mem_singleton.1 hl]; exact h
  constructor
  · refine foldK_par r.Rows (S := Unit) (S' := Unit) (fun i _ _ => ∀ l ∈ r.Rows.take i, l.length = r.Cols.length) ?_ ?_ _ 0 rfl (Nat.zero_le _) _ _ (by simp)
    · intro i hi s s' K K' hI hK
      have hm := List.getElem_mem hi
      have hw := hr.rw _ hm
      obtain ⟨e1, e, e2, e3⟩ := row_ok (r := r) (n := n) (l := r.Rows[i]) (by omega) (by omega)
      rw [← e1, e2, bind_some2, bind_some2]
      by_cases h0 : e = 0
      · rw [decide_eq_true h0, Bool.not_true, cond_false, cond_false]
        by_cases hp : 0 < i
        · obtain ⟨p1, p2⟩ := inP hp hi (by omega)
          have hlt : i - 1 < r.Rows.length := by omega
          rw [decide_eq_true (by omega : (i : Int) > 0), p1, p2, cond_true, cond_true, cond_true, cond_true, getD_lt _ hlt]
          have hw2 := hr.rw _ (List.getElem_mem hlt)
          have l1 := lw_len r.Rows[i]
          have l2 := lw_len r.Rows[i - 1]
          rw [rcmp_ok n _ _ (by omega) (by omega), order_ok n _ _ (by omega) (by omega) (by omega) (by omega) (by omega), bind_some2, bind_some2]
          have ha := rcmp_anti r.Rows[i - 1] r.Rows[i]
          by_cases hc : rcmp r.Rows[i - 1] r.Rows[i] ≥ 0
          · rw [decide_eq_true hc, decide_eq_true (by omega : rcmp r.Rows[i] r.Rows[i - 1] ≤ 0), cond_true, cond_true]
          · rw [decide_eq_false hc, decide_eq_false (by omega : ¬ rcmp r.Rows[i] r.Rows[i - 1] ≤ 0), cond_false, cond_false]
            exact hK _ _ (next hi hI (e3 h0))
        · rw [decide_eq_false (by omega : ¬ (i : Int) > 0), cond_false, cond_false]
          exact hK _ _ (next hi hI (e3 h0))
      · rw [decide_eq_false h0, Bool.not_false, cond_true, cond_true]
    · intro _ _ hI
      rw [List.take_length] at hI
      cases decide ((r.Key.length : Int) = 0) with
      | true => rw [cond_true, cond_true]
      | false => rw [cond_false, cond_false, err2_ok hr hB hk hI, ← check2_ok hr hB hk hI _ 0 n rfl (Nat.zero_le _) (by omega) (by simp [PW])]; rfl
  · refine foldK_case r.Rows (S := Unit) (fun i _ => ∀ l ∈ r.Rows.take i, l.length = r.Cols.length) (fun o => o.isSome = true) ?_ ?_ _ 0 rfl (Nat.zero_le _) _ (by simp)
    · intro i hi s hI
      have hm := List.getElem_mem hi
      have hw := hr.rw _ hm
      obtain ⟨e1, e, e2, e3⟩ := row_ok (r := r) (n := n) (l := r.Rows[i]) (by omega) (by omega)
      rw [e2]
      simp only [bind_some2]
      by_cases h0 : e = 0
      · rw [decide_eq_true h0]
        by_cases hp : 0 < i
        · obtain ⟨p1, p2⟩ := inP hp hi (by omega)
          have hlt : i - 1 < r.Rows.length := by omega
          rw [decide_eq_true (by omega : (i : Int) > 0), p1, p2, getD_lt _ hlt]
          have hw2 := hr.rw _ (List.getElem_mem hlt)
          rw [rcmp_ok n _ _ (by omega) (by omega)]
          simp only [bind_some2, Bool.not_true, cond_false, cond_true]
          cases decide (rcmp r.Rows[i - 1] r.Rows[i] ≥ 0) with
          | true => exact .inl ⟨some 9, rfl, fun _ => by rw [cond_true]⟩
          | false => exact .inr ⟨(), next hi hI (e3 h0), fun _ => by rw [cond_false]⟩
        · rw [decide_eq_false (by omega : ¬ (i : Int) > 0)]
          exact .inr ⟨(), next hi hI (e3 h0), fun _ => by rw [Bool.not_true, cond_false, cond_false]⟩
      · rw [decide_eq_false h0]
        exact .inl ⟨some e, rfl, fun _ => by rw [Bool.not_false, cond_true]⟩
    · intro _ hI
      rw [List.take_length] at hI
      cases decide ((r.Key.length : Int) = 0) with
      | true => rfl
      | false =>
        rw [cond_false]
        have := check2_ok hr hB hk hI _ 0 n rfl (Nat.zero_le _) (by omega) (by simp [PW])
        rw [show ((0 : Nat) : Int) = 0 from rfl] at this
        rw [this]
        rfl
theorem check_ok {B n : Nat} {r : Rel} (hr : RB B r) (hB : Big B n) : rel_Check n r = ref2_RelErr n r ∧ ∃ e, rel_Check n r = some e := by
  have hb1 := hB.b
  have hb2 := hB.n1
  obtain ⟨e1, e, e2, e3⟩ := head_ok (n := n) hr (by omega) (by omega)
  rw [rel_Check_eq, ref2_RelErr_eq, ← e1, e2, bind_some2, bind_some2]
  by_cases h0 : e = 0
  · rw [decide_eq_true h0, Bool.not_true, cond_false, cond_false]
    cases decide ((r.Rows.length : Int) > 300) with
    | true => rw [cond_true, cond_true]; exact ⟨rfl, 2, rfl⟩
    | false =>
      rw [cond_false, cond_false]
      obtain ⟨p1, p2⟩ := rows_par hr hB (e3 h0)
      exact ⟨p1, Option.isSome_iff_exists.1 p2⟩
  · rw [decide_eq_false h0, Bool.not_false, cond_true, cond_true]
    exact ⟨rfl, e, rfl⟩
/-! ### What is handed over -/
def bV (g : Nat) (v : ApiValue) : Nat := BulkN E g 1 v
def bF (g : Nat) (f : ApiField) : Nat := BulkN E g 2 f
def bC (g : Nat) (c : Col) : Nat := BulkN E g 0 c
def bR (g : Nat) (r : Rel) : Nat := BulkN E g 3 r
theorem bV_eq (g : Nat) (v : ApiValue) : bV (g + 1) v = 1 + (1 + ((v.S.length + 1) + ((v.Fields.map (bF g)).sum + 1))) := rfl
theorem bF_eq (g : Nat) (f : ApiField) : bF (g + 1) f = (f.Name.length + 1) + bV g f.Val := rfl
theorem bC_eq (g : Nat) (c : Col) : bC (g + 1) c = (c.Name.length + 1) + 1 := rfl
theorem bR_eq (g : Nat) (r : Rel) : bR (g + 1) r = (r.Name.length + 1) + (((r.Cols.map (bC g)).sum + 1) + (((r.Key.map fun s : List UInt8 => s.length + 1).sum + 1) + ((r.Rows.map fun l : List ApiValue => (l.map (bV g)).sum + 1).sum + 1))) := rfl
theorem vw_bulk : ∀ (k : Nat) (v : ApiValue) (g : Nat), vw v ≤ k → 2 * k ≤ g → vw v + 1 ≤ bV g v
  | 0, v, g, h, _ => by have := vw_eq v; omega
  | k + 1, v, g, h, hg => by
    obtain ⟨g, rfl⟩ : ∃ e, g = e + 2 := ⟨g - 2, by omega⟩
    have key : ∀ l : List ApiField, (∀ f ∈ l, vw f.Val ≤ k) → fw l ≤ (l.map (bF (g + 1))).sum := by
      intro l
      induction l with
      | nil => intro _; simp [fw]
      | cons f l ih =>
        intro hl
        have := ih fun x hx => hl x (by simp [hx])
        have := vw_bulk k f.Val g (hl f (by simp)) (by omega)
        have := gw_eq f
        have e3 := bF_eq g f
        rw [List.map_cons, List.sum_cons]
        simp only [fw]
        omega
    have := key v.Fields fun f hf => by have := (vw_lt hf).1; omega
    have := vw_eq v
    have : bV (g + 2) v = _ := bV_eq (g + 1) v
    omega
theorem lw_le {f : ApiValue → Nat} : ∀ l : List ApiValue, (∀ v ∈ l, vw v + 1 ≤ f v) → lw l ≤ (l.map f).sum + 1
  | [], _ => by rw [lw_nil]; simp
  | v :: l, h => by
    have := lw_le l fun x hx => h x (by simp [hx])
    have := h v (by simp)
    rw [lw_cons, List.map_cons, List.sum_cons]
    omega
theorem row_bulk {l : List ApiValue} {N : Nat} (h : ∀ g, (l.map (bV g)).sum + 1 ≤ N) : lw l ≤ N := by
  have h := h (2 * lw l)
  have := lw_le (f := bV (2 * lw l)) l fun v hv => vw_bulk (lw l) v _ (by have := lw_mem hv; omega) (Nat.le_refl _)
  omega
theorem rel_bulk {r : Rel} {N : Nat} (h : ∀ g, bR g r ≤ N) : RB N r := by
  have h2 := h 2
  rw [bR_eq] at h2
  have k1 := sum_gm (bC 1) r.Cols fun c _ => by rw [bC_eq]; omega
  have k2 := sum_gm (fun s : List UInt8 => s.length + 1) r.Key fun s _ => by omega
  have k3 := sum_gm (fun l : List ApiValue => (l.map (bV 1)).sum + 1) r.Rows fun s _ => by omega
  refine ⟨by omega, by omega, fun c hc => ?_, by omega, by omega, fun l hl => ?_⟩
  · have : bC 1 c ≤ (r.Cols.map (bC 1)).sum := mem_sum (List.mem_map.2 ⟨c, hc, rfl⟩)
    rw [bC_eq] at this
    omega
  · refine row_bulk fun g => ?_
    have h3 := h (g + 1)
    rw [bR_eq] at h3
    have : (l.map (bV g)).sum + 1 ≤ (r.Rows.map fun l : List ApiValue => (l.map (bV g)).sum + 1).sum := mem_sum (List.mem_map.2 ⟨l, hl, rfl⟩)
    omega
theorem base_bulk {b : List Rel} {N : Nat} (h : ∀ g, (b.map (bR g)).sum + 1 ≤ N) : b.length ≤ N ∧ ∀ r ∈ b, RB N r := by
  refine ⟨?_, fun r hr => rel_bulk fun g => ?_⟩
  · have := h 1
    have k := sum_gm (bR 1) b fun r _ => by rw [bR_eq]; omega
    omega
  · have h1 := h g
    have : bR g r ≤ (b.map (bR g)).sum := mem_sum (List.mem_map.2 ⟨r, hr, rfl⟩)
    omega
theorem big_ex : ∃ n, Big 1048576 n := by
  obtain ⟨n, hn⟩ : ∃ n : Nat, 3 * (1048576 * (1048576 + 1) + 1) + 3 * 1048576 + 100 < n := ⟨_, Nat.lt_succ_self _⟩
  exact ⟨n, by decide, hn, by decide⟩

/-! ### Copies -/
theorem clone_ok (n : Nat) (l : List ApiField) (h : l.length < 4294967296) : slices_Clone_Field_nn n l = some l := by
  rw [slices_Clone_Field_nn_eq, decide_eq_true (by simp : 0 = List.length ([] : List ApiField)), decide_eq_true (by simp; omega : List.length ([] : List ApiField) + List.length l ≤ 4294967296), decide_eq_true rfl]
  rfl
theorem copy_ok (n : Nat) : ∀ (k : Nat) (v : ApiValue) (d : Nat), vw v ≤ k → vw v ≤ d → vw v < n → vw v < 4294967296 → value_Copy d n v = some v
  | 0, v, d, h, _, _, _ => by have := vw_eq v; omega
  | k + 1, v, d, h, hd, hn, hm => by
    have hv0 := vw_eq v
    have hl := (vw_len v).1
    obtain ⟨d, rfl⟩ : ∃ e, d = e + 1 := ⟨d - 1, by omega⟩
    rw [value_Copy_eq, clone_ok n _ (by omega), bind_some2]
    have f := value_Copy_l0_fold d n v.Kind v.N v.S v.Fields.length (ApiValue.mk 0 0 [] []) v.Fields.length v.Fields (by omega) n 0 (Nat.zero_le _) (by omega)
    rw [show ((0 : Nat) : Int) = 0 from rfl] at f
    rw [f]
    have key : ∀ (c i : Nat), c + i = v.Fields.length → foldN (S := (List ApiField)) (fun i s K => (bif (decide (0 ≤ (i : Int)) && decide ((i : Int) < (v.Fields.length : Int))) then (bif (decide ((0 + (Int.toNat (i : Int))) < List.length s)) then (Option.bind (value_Copy d n ((List.getD s (0 + (Int.toNat (i : Int))) (ApiField.mk [] (ApiValue.mk 0 0 [] []))).Val)) fun r2 => (bif (decide (0 ≤ (i : Int)) && decide ((i : Int) < (v.Fields.length : Int))) then (bif (decide ((0 + (Int.toNat (i : Int))) < List.length s)) then (K (List.set s (0 + (Int.toNat (i : Int))) (ApiField.mk ((List.getD s (0 + (Int.toNat (i : Int))) (ApiField.mk [] (ApiValue.mk 0 0 [] []))).Name) r2))) else none) else none)) else none) else none)) (fun s => (bif (((decide (0 + v.Fields.length ≤ List.length s)) && true) && true) then (some (ApiValue.mk v.Kind v.N v.S (List.take v.Fields.length s))) else none)) c i v.Fields = some v := by
      intro c
      induction c with
      | zero =>
        intro i hc
        rw [foldN, decide_eq_true (by omega : 0 + v.Fields.length ≤ v.Fields.length), List.take_length]
        show some (ApiValue.mk v.Kind v.N v.S v.Fields) = some v
        cases v
        rfl
      | succ c ih =>
        intro i hc
        have hlt : i < v.Fields.length := by omega
        have hv := vw_lt (List.getElem_mem hlt)
        rw [foldN, inR hlt, show Int.toNat (i : Int) = i from rfl, Nat.zero_add i, decide_eq_true hlt, cond_true, cond_true, getD_lt _ hlt, copy_ok n k _ d (by omega) (by omega) (by omega) (by omega), bind_some2, cond_true, cond_true]
        have : v.Fields.set i (ApiField.mk v.Fields[i].Name v.Fields[i].Val) = v.Fields := by
          rw [show ApiField.mk v.Fields[i].Name v.Fields[i].Val = v.Fields[i] by cases v.Fields[i]; rfl]
          exact List.set_getElem_self hlt
        rw [this]
        exact ih (i + 1) (by omega)
    exact key _ 0 (by omega)


/-! ### Copies of relations, as rows -/
theorem cloneC_ok (n : Nat) (l : List Col) (h : l.length < 4294967296) : slices_Clone_Col_nn n l = some l := by
  rw [slices_Clone_Col_nn_eq, decide_eq_true (by simp; omega : List.length ([] : List Col) + List.length l ≤ 4294967296), decide_eq_true rfl]
  rfl
theorem cloneS_ok (n : Nat) (l : List (List UInt8)) (h : l.length < 4294967296) : slices_Clone_string_nn n l = some l := by
  rw [slices_Clone_string_nn_eq, decide_eq_true (by simp; omega : List.length ([] : List (List UInt8)) + List.length l ≤ 4294967296), decide_eq_true rfl]
  rfl
theorem copy2_ok {n : Nat} {l : List ApiValue} (hn : lw l < n) (hm : lw l < 4294967296) (m0 : Nat) (v3 v8 : List (List ApiValue)) (h3 : v3.length < 4294967296) (v9 v10 : Int) (w : List ApiValue) (hw : w.length = l.length) :
    rel_copies_l2 n m0 n l l.length v8 v9 v10 (l.length : Int) 0 v3 w = rel_copies_l0 n m0 v8 v9 (IntKind.wrap .i64 (v10 + 1)) (v3 ++ [l]) := by
  have hl := lw_len l
  have f := rel_copies_l2_fold n m0 l l.length v8 v9 v10 v3 w (by omega) n 0 (Nat.zero_le _) (by omega)
  rw [show ((0 : Nat) : Int) = 0 from rfl] at f
  rw [f]
  have key : ∀ (c i : Nat) (s : List ApiValue) (fin : List ApiValue → Option (List (List ApiValue))), c = l.length - i → i ≤ l.length → s.length = l.length → (∀ j (hj : j < l.length) (hs : j < s.length), j < i → s[j] = l[j]) → foldK (S := (List ApiValue)) (fun i (a : ApiValue) s K => (Option.bind (value_Copy n n a) fun r1 => (bif (decide (0 ≤ (i : Int)) && decide ((i : Int) < (l.length : Int))) then (bif (decide ((0 + (Int.toNat (i : Int))) < List.length s)) then (K (List.set s (0 + (Int.toNat (i : Int))) r1)) else none) else none))) fin (List.drop i l) i s = fin l := by
    intro c
    induction c with
    | zero =>
      intro i s fin hc hi hs hp
      rw [List.drop_eq_nil_of_le (by omega), foldK_nil]
      have : s = l := List.ext_getElem hs fun j h1 h2 => hp j h2 h1 (by omega)
      rw [this]
    | succ c ih =>
      intro i s fin hc hi hs hp
      have hlt : i < l.length := by omega
      have hv := lw_mem (List.getElem_mem hlt)
      rw [List.drop_eq_getElem_cons hlt, foldK_cons, copy_ok n _ _ n (Nat.le_refl _) (by omega) (by omega) (by omega), bind_some2, inR hlt, cond_true, show Int.toNat (i : Int) = i from rfl, Nat.zero_add i, decide_eq_true (by omega : i < s.length), cond_true]
      dsimp only
      refine ih (i + 1) _ fin (by omega) (by omega) (by simp [hs]) fun j hj hs' hji => ?_
      rw [List.getElem_set]
      split
      · rename_i h; subst h; rfl
      · exact hp j hj (by omega) (by omega)
  have hd : l = List.drop 0 l := rfl
  rw [key _ 0 w _ rfl (Nat.zero_le _) hw (fun j _ _ h => by omega), decide_eq_true (by omega : 0 + l.length ≤ l.length), List.take_length, Bool.and_self, cond_true, appOK v3 _ h3, cond_true]
theorem copies_ok {n : Nat} (l : List (List ApiValue)) (hl : l.length < n) (hm : l.length < 4294967296) (hw : ∀ x ∈ l, lw x < n ∧ lw x < 4294967296) : rel_copies n l = some l := by
  rw [rel_copies_eq]
  have key : ∀ (c i m : Nat), c = l.length - i → i ≤ l.length → c < m → rel_copies_l0 n m l (l.length : Int) (i : Int) (l.take i) = some l := by
    intro c
    induction c with
    | zero =>
      intro i m hc hi hm'
      obtain ⟨m, rfl⟩ : ∃ q, m = q + 1 := ⟨m - 1, by omega⟩
      rw [rel_copies_l0_eq, decide_eq_false (by omega), cond_false, List.take_of_length_le (by omega), decide_eq_true rfl, cond_true]
    | succ c ih =>
      intro i m hc hi hm'
      obtain ⟨m, rfl⟩ : ∃ q, m = q + 1 := ⟨m - 1, by omega⟩
      have hlt : i < l.length := by omega
      have hx := hw _ (List.getElem_mem hlt)
      have hll := lw_len l[i]
      rw [rel_copies_l0_eq, inR hlt, decide_eq_true (by omega), cond_true, cond_true, show Int.toNat (i : Int) = i from rfl, getD_lt _ hlt, show Int.toNat (l[i].length : Int) = l[i].length from rfl, decide_eq_true (by omega : (0 : Int) ≤ (l[i].length : Int)), decide_eq_true (Int.le_refl (l[i].length : Int)), decide_eq_true (by omega : (l[i].length : Int) ≤ 4294967296), Bool.and_self, Bool.and_self, cond_true, copy2_ok hx.1 hx.2 m _ _ (by simp; omega) _ _ _ (by simp), i64_succ (by omega)]
      rw [← List.take_succ_eq_append_getElem hlt]
      exact ih (i + 1) m (by omega) (by omega) (by omega)
  exact key _ 0 n rfl (Nat.zero_le _) (by omega)
theorem relcopy_ok {B n : Nat} {r : Rel} (hr : RB B r) (hB : B < 4294967296) (hn : B < n) : rel_Copy n r = some (r.Name, r.Cols, r.Key, r.Rows) := by
  have h1 := hr.cl
  have h2 := hr.kl
  have h3 := hr.rl
  rw [rel_Copy_eq, cloneC_ok n _ (by omega), bind_some2, cloneS_ok n _ (by omega), bind_some2, copies_ok _ (by omega) (by omega) fun x hx => by have := hr.rw x hx; omega, bind_some2, decide_eq_true rfl, cond_true]

/-! ### The same -/
theorem eqC_refl (n : Nat) (l : List Col) (hn : l.length < n) (hm : l.length < 4294967296) : slices_Equal_Col n l l = some true := by
  rw [slices_Equal_Col_eq, decide_eq_true rfl, Bool.not_true, cond_false]
  have f := slices_Equal_Col_l0_fold n l l (by omega) n 0 (Nat.zero_le _) (by omega)
  rw [show ((0 : Nat) : Int) = 0 from rfl] at f
  rw [f]
  refine foldK_case l (S := Unit) (fun _ _ => True) (fun o => o = some true) ?_ (fun _ _ => rfl) _ 0 rfl (Nat.zero_le _) _ trivial
  intro i hi _ _
  refine .inr ⟨(), trivial, fun K => ?_⟩
  rw [inR hi, cond_true, show Int.toNat (i : Int) = i from rfl, getD_lt _ hi, beq_self_eq_true, beq_self_eq_true, Bool.and_self, Bool.not_true, cond_false]
theorem eqStr_refl (n : Nat) (l : List (List UInt8)) (hn : l.length < n) (hm : l.length < 4294967296) : slices_Equal_string n l l = some true := by
  rw [slices_Equal_string_eq, decide_eq_true rfl, Bool.not_true, cond_false]
  have f := slices_Equal_string_l0_fold n l l (by omega) n 0 (Nat.zero_le _) (by omega)
  rw [show ((0 : Nat) : Int) = 0 from rfl] at f
  rw [f]
  refine foldK_case l (S := Unit) (fun _ _ => True) (fun o => o = some true) ?_ (fun _ _ => rfl) _ 0 rfl (Nat.zero_le _) _ trivial
  intro i hi _ _
  refine .inr ⟨(), trivial, fun K => ?_⟩
  rw [inR hi, cond_true, show Int.toNat (i : Int) = i from rfl, getD_lt _ hi, beq_self_eq_true, Bool.not_true, cond_false]
theorem samerel_refl {B n : Nat} {r : Rel} (hr : RB B r) (hB : B < 4294967296) (hn : 3 * B + 10 < n) : ref2_SameRel n r r = some true := by
  have h1 := hr.cl
  have h2 := hr.kl
  have h3 := hr.rl
  rw [ref2_SameRel_eq, beq_self_eq_true, Bool.not_true, cond_false, eqC_refl n _ (by omega) (by omega), bind_some2, Bool.not_true, cond_false, eqStr_refl n _ (by omega) (by omega), bind_some2, Bool.not_true, cond_false, decide_eq_true rfl, Bool.not_true, cond_false]
  have f := ref2_SameRel_l0_fold n r r r.Rows.length (by omega) n 0 (Nat.zero_le _) (by omega)
  rw [show ((0 : Nat) : Int) = 0 from rfl] at f
  rw [f]
  have key : ∀ (c i : Nat), c + i = r.Rows.length → foldN (S := Unit) (fun i s K => (bif (decide (0 ≤ (i : Int)) && decide ((i : Int) < List.length r.Rows)) then (bif (decide (0 ≤ (i : Int)) && decide ((i : Int) < List.length r.Rows)) then (Option.bind (ref2_Order n (List.getD r.Rows (Int.toNat (i : Int)) []) (List.getD r.Rows (Int.toNat (i : Int)) [])) fun r3 => (bif (!decide (r3 = 0)) then (some false) else (K ()))) else none) else none)) (fun s => (some true)) c i () = some true := by
    intro c
    induction c with
    | zero => intro i _; rfl
    | succ c ih =>
      intro i hc
      have hlt : i < r.Rows.length := by omega
      have hw := hr.rw _ (List.getElem_mem hlt)
      have hl := lw_len r.Rows[i]
      have ha := rcmp_anti r.Rows[i] r.Rows[i]
      rw [foldN, inR hlt, cond_true, cond_true, show Int.toNat (i : Int) = i from rfl, getD_lt _ hlt, order_ok n _ _ (by omega) (by omega) (by omega) (by omega) (by omega), bind_some2, decide_eq_true (by omega : rcmp r.Rows[i] r.Rows[i] = 0), Bool.not_true, cond_false]
      exact ih (i + 1) (by omega)
  exact key _ 0 (by omega)

/-! ### The order of texts -/
theorem bl_cb : ∀ x y : List UInt8, bytesLess x y = decide (Go.Lib.compareBytes x y < 0) ∧ (x == y) = decide (Go.Lib.compareBytes x y = 0)
  | [], [] => by simp [bytesLess, Go.Lib.compareBytes]
  | [], b :: y => by simp [bytesLess, Go.Lib.compareBytes]
  | a :: x, [] => by simp [bytesLess, Go.Lib.compareBytes]
  | a :: x, b :: y => by
    obtain ⟨h1, h2⟩ := bl_cb x y
    have hc : Go.Lib.compareBytes (a :: x) (b :: y) = if a < b then -1 else if b < a then 1 else Go.Lib.compareBytes x y := rfl
    have hb : bytesLess (a :: x) (b :: y) = (decide (a < b) || (a == b && bytesLess x y)) := rfl
    rcases Nat.lt_trichotomy a.toNat b.toNat with h | h | h
    · have l1 : a < b := UInt8.lt_iff_toNat_lt.2 h
      have l3 : (a :: x == b :: y) = false := by simp only [beq_eq_false_iff_ne, ne_eq, List.cons.injEq, not_and]; intro e; rw [e] at h; omega
      have e : Go.Lib.compareBytes (a :: x) (b :: y) = -1 := by rw [hc, if_pos l1]
      rw [hb, decide_eq_true l1, l3, e]; exact ⟨rfl, rfl⟩
    · have e : a = b := UInt8.toNat_inj.1 h
      subst e
      have l1 : ¬ a < a := by rw [UInt8.lt_iff_toNat_lt]; omega
      have l3 : (a :: x == a :: y) = (x == y) := by simp
      have e : Go.Lib.compareBytes (a :: x) (a :: y) = Go.Lib.compareBytes x y := by rw [hc, if_neg l1, if_neg l1]
      rw [hb, e, decide_eq_false l1, beq_self_eq_true, l3]
      exact ⟨by rw [Bool.false_or, Bool.true_and]; exact h1, h2⟩
    · have l1 : ¬ a < b := by rw [UInt8.lt_iff_toNat_lt]; omega
      have l2 : b < a := UInt8.lt_iff_toNat_lt.2 h
      have l4 : (a == b) = false := by simp only [beq_eq_false_iff_ne, ne_eq]; intro e; rw [e] at h; omega
      have l3 : (a :: x == b :: y) = false := by simp only [beq_eq_false_iff_ne, ne_eq, List.cons.injEq, not_and]; intro e; rw [e] at h; omega
      have e : Go.Lib.compareBytes (a :: x) (b :: y) = 1 := by rw [hc, if_neg l1, if_pos l2]
      rw [hb, decide_eq_false l1, l3, l4, e]; exact ⟨rfl, rfl⟩
def cb (x y : List UInt8) : Int := Go.Lib.compareBytes x y
theorem bl_iff (x y : List UInt8) : bytesLess x y = decide (cb x y < 0) := (bl_cb x y).1
theorem eq_iff (x y : List UInt8) : (x == y) = decide (cb x y = 0) := (bl_cb x y).2
theorem cb_sym (x y : List UInt8) : cb y x = -cb x y := cb_anti x y
theorem cb_tri (x y z : List UInt8) : Tr3 (cb x y) (cb y z) (cb x z) := cb_tr x y z
theorem cb_lt_tr {x y z : List UInt8} (h : cb x y < 0) (h' : cb y z < 0) : cb x z < 0 := by
  obtain ⟨a, b, _⟩ := cb_tri x y z
  have a := a (by omega) (by omega)
  have b := b (by omega) (by omega)
  omega
theorem cb_le_lt {x y z : List UInt8} (h : cb x y ≤ 0) (h' : cb y z < 0) : cb x z < 0 := by
  obtain ⟨a, b, _⟩ := cb_tri x y z
  have a := a (by omega) (by omega)
  have b := b (by omega) (by omega)
  omega
theorem cb_lt_le {x y z : List UInt8} (h : cb x y < 0) (h' : cb y z ≤ 0) : cb x z < 0 := by
  obtain ⟨a, b, _⟩ := cb_tri x y z
  have a := a (by omega) (by omega)
  have b := b (by omega) (by omega)
  omega
theorem cb_refl (x : List UInt8) : cb x x = 0 := by have := cb_sym x x; omega
/-- The middle of two places. -/
theorem mid_ok {lo hi : Nat} (h : lo + hi < 4611686018427387904) : IntKind.wrap .i64 (shr .u64 (IntKind.wrap .u64 (IntKind.wrap .i64 ((lo : Int) + (hi : Int)))) 1) = (((lo + hi) / 2 : Nat) : Int) := by
  have e1 : IntKind.wrap .i64 ((lo : Int) + (hi : Int)) = ((lo + hi : Nat) : Int) := by rw [w64 (by omega) (by omega)]; omega
  have e2 : IntKind.wrap .u64 ((lo + hi : Nat) : Int) = ((lo + hi : Nat) : Int) := by
    show (((lo + hi : Nat) : Int) % 18446744073709551616) = _
    exact Int.emod_eq_of_lt (by omega) (by omega)
  have e3 : shr .u64 ((lo + hi : Nat) : Int) 1 = (((lo + hi) / 2 : Nat) : Int) := by
    show (((lo + hi : Nat) : Int)).fdiv (2 ^ 1) = _
    rw [Int.fdiv_eq_ediv_of_nonneg _ (by decide)]
    show ((lo + hi : Nat) : Int) / 2 = _
    omega
  rw [e1, e2, e3, w64 (by omega) (by omega)]

/-- Rows that are alike. -/
def rall : List (List ApiValue) → List (List ApiValue) → Bool
  | a :: l, b :: m => decide (rcmp a b = 0) && rall l m
  | _, _ => true

/-! ### Rows in order, each once -/
def SS (l : List (List ApiValue)) : Prop := l.Pairwise fun a b => rcmp a b < 0
theorem rc_eq {a b c : List ApiValue} (h : rcmp a b = 0) (h' : rcmp b c = 0) : rcmp a c = 0 := (rcmp_tr a b c).2.2 h h'
theorem rc_lt1 {a b c : List ApiValue} (h : rcmp a b < 0) (h' : rcmp b c ≤ 0) : rcmp a c < 0 := by
  obtain ⟨t1, t2, _⟩ := rcmp_tr a b c
  have t1 := t1 (by omega) (by omega)
  have t2 := t2 (by omega) (by omega)
  omega
theorem rc_lt2 {a b c : List ApiValue} (h : rcmp a b ≤ 0) (h' : rcmp b c < 0) : rcmp a c < 0 := by
  obtain ⟨t1, t2, _⟩ := rcmp_tr a b c
  have t1 := t1 (by omega) (by omega)
  have t2 := t2 (by omega) (by omega)
  omega
theorem rc_self (a : List ApiValue) : rcmp a a = 0 := by have := rcmp_anti a a; omega
theorem ss_uniq : ∀ (l m : List (List ApiValue)), SS l → SS m → (∀ a ∈ l, ∃ b ∈ m, rcmp a b = 0) → (∀ b ∈ m, ∃ a ∈ l, rcmp a b = 0) → l.length = m.length ∧ rall l m = true
  | [], [], _, _, _, _ => ⟨rfl, rfl⟩
  | [], b :: m, _, _, _, h => by obtain ⟨a, ha, _⟩ := h b (by simp); simp at ha
  | a :: l, [], _, _, h, _ => by obtain ⟨b, hb, _⟩ := h a (by simp); simp at hb
  | a :: l, b :: m, hl, hm, h1, h2 => by
    obtain ⟨ha, hl⟩ := List.pairwise_cons.1 hl
    obtain ⟨hb, hm⟩ := List.pairwise_cons.1 hm
    have e0 : rcmp a b = 0 := by
      obtain ⟨b', hb', e1⟩ := h1 a (by simp)
      obtain ⟨a', ha', e2⟩ := h2 b (by simp)
      rcases List.mem_cons.1 hb' with rfl | hb'
      · exact e1
      · rcases List.mem_cons.1 ha' with rfl | ha'
        · exact e2
        · have x1 := hb b' hb'
          have x2 := ha a' ha'
          have x3 := rcmp_anti a b'
          have x4 := rc_lt1 x1 (by omega : rcmp b' a ≤ 0)
          have x5 := rc_lt1 x4 (by omega : rcmp a a' ≤ 0)
          have x6 := rcmp_anti a' b
          omega
    have k1 : ∀ a' ∈ l, ∃ b' ∈ m, rcmp a' b' = 0 := by
      intro a' ha'
      obtain ⟨b', hb', e1⟩ := h1 a' (by simp [ha'])
      rcases List.mem_cons.1 hb' with rfl | hb'
      · have x1 := ha a' ha'
        have x2 := rc_lt1 x1 (by omega : rcmp a' b' ≤ 0)
        omega
      · exact ⟨b', hb', e1⟩
    have k2 : ∀ b' ∈ m, ∃ a' ∈ l, rcmp a' b' = 0 := by
      intro b' hb'
      obtain ⟨a', ha', e1⟩ := h2 b' (by simp [hb'])
      rcases List.mem_cons.1 ha' with rfl | ha'
      · have x1 := hb b' hb'
        have x2 := rcmp_anti a' b'
        have x3 := rc_lt1 x1 (by omega : rcmp b' a' ≤ 0)
        have x4 := rcmp_anti a' b
        omega
      · exact ⟨a', ha', e1⟩
    obtain ⟨r1, r2⟩ := ss_uniq l m hl hm k1 k2
    exact ⟨by simp [r1], by rw [rall, r2, decide_eq_true e0]; rfl⟩
/-- What is kept behind an element. -/
def kp : List ApiValue → List (List ApiValue) → List (List ApiValue)
  | _, [] => []
  | p, x :: l => bif decide (rcmp x p = 0) then kp x l else x :: kp x l
theorem kp_mem : ∀ (p : List ApiValue) (l : List (List ApiValue)), ∀ x ∈ kp p l, x ∈ l
  | _, [], x, h => h
  | p, y :: l, x, h => by
    rw [kp] at h
    cases hd : decide (rcmp y p = 0) with
    | true => rw [hd] at h; exact List.mem_cons_of_mem _ (kp_mem y l x h)
    | false =>
      rw [hd] at h
      rcases List.mem_cons.1 h with rfl | h
      · simp
      · exact List.mem_cons_of_mem _ (kp_mem y l x h)
theorem kp_cov : ∀ (p : List ApiValue) (l : List (List ApiValue)), ∀ y ∈ l, ∃ x ∈ p :: kp p l, rcmp y x = 0
  | _, [], y, h => by simp at h
  | p, z :: l, y, h => by
    have ih : ∀ y ∈ z :: l, ∃ x ∈ z :: kp z l, rcmp y x = 0 := by
      intro y hy
      rcases List.mem_cons.1 hy with rfl | hy
      · exact ⟨y, by simp, rc_self y⟩
      · exact kp_cov z l y hy
    obtain ⟨x, hx, e⟩ := ih y h
    rw [kp]
    cases hd : decide (rcmp z p = 0) with
    | true =>
      simp only [cond_true]
      rcases List.mem_cons.1 hx with rfl | hx
      · exact ⟨p, by simp, rc_eq e (of_decide_eq_true hd)⟩
      · exact ⟨x, by simp [hx], e⟩
    | false => exact ⟨x, List.mem_cons_of_mem _ hx, e⟩
theorem kp_ss : ∀ (p : List ApiValue) (l : List (List ApiValue)), (p :: l).Pairwise (fun a b => rcmp a b ≤ 0) → SS (p :: kp p l)
  | p, [], _ => by simp [kp, SS]
  | p, z :: l, h => by
    obtain ⟨h1, h2⟩ := List.pairwise_cons.1 h
    have ih := kp_ss z l h2
    obtain ⟨i1, i2⟩ := List.pairwise_cons.1 ih
    have hz := h1 z (by simp)
    rw [kp]
    cases hd : decide (rcmp z p = 0) with
    | true =>
      simp only [cond_true]
      refine List.pairwise_cons.2 ⟨fun x hx => ?_, i2⟩
      exact rc_lt2 hz (i1 x hx)
    | false =>
      have hd := of_decide_eq_false hd
      have ha := rcmp_anti z p
      refine List.pairwise_cons.2 ⟨fun x hx => ?_, ih⟩
      have hzp : rcmp p z < 0 := by omega
      rcases List.mem_cons.1 hx with rfl | hx
      · exact hzp
      · have := i1 x hx
        exact rc_lt1 hzp (by omega)
def comp : List (List ApiValue) → List (List ApiValue)
  | [] => []
  | a :: l => a :: kp a l
/-- A row, put in at its place. -/
def insR (x : List ApiValue) : List (List ApiValue) → List (List ApiValue)
  | [] => [x]
  | a :: l => bif decide (rcmp a x < 0) then a :: insR x l else bif decide (rcmp a x = 0) then a :: l else x :: a :: l
theorem insR_mem (x : List ApiValue) : ∀ (l : List (List ApiValue)) (y : List ApiValue), y ∈ insR x l → y = x ∨ y ∈ l
  | [], y, h => by simpa [insR] using h
  | a :: l, y, h => by
    rw [insR] at h
    cases h1 : decide (rcmp a x < 0) with
    | true =>
      rw [h1, cond_true] at h
      rcases List.mem_cons.1 h with rfl | h
      · exact .inr (by simp)
      · exact (insR_mem x l y h).imp id fun h => List.mem_cons_of_mem _ h
    | false =>
      rw [h1, cond_false] at h
      cases h2 : decide (rcmp a x = 0) with
      | true => rw [h2, cond_true] at h; exact .inr h
      | false =>
        rw [h2, cond_false] at h
        exact List.mem_cons.1 h
theorem insR_old (x : List ApiValue) : ∀ (l : List (List ApiValue)) (y : List ApiValue), y ∈ l → y ∈ insR x l
  | [], y, h => by simp at h
  | a :: l, y, h => by
    rw [insR]
    cases decide (rcmp a x < 0) with
    | true =>
      rw [cond_true]
      rcases List.mem_cons.1 h with rfl | h
      · simp
      · exact List.mem_cons_of_mem _ (insR_old x l y h)
    | false =>
      rw [cond_false]
      cases decide (rcmp a x = 0) with
      | true => exact h
      | false => exact List.mem_cons_of_mem _ h
theorem insR_new (x : List ApiValue) : ∀ (l : List (List ApiValue)), ∃ y ∈ insR x l, rcmp y x = 0
  | [] => ⟨x, by simp [insR], rc_self x⟩
  | a :: l => by
    rw [insR]
    cases decide (rcmp a x < 0) with
    | true =>
      obtain ⟨y, h, e⟩ := insR_new x l
      exact ⟨y, List.mem_cons_of_mem _ h, e⟩
    | false =>
      rw [cond_false]
      cases h2 : decide (rcmp a x = 0) with
      | true => exact ⟨a, by simp, of_decide_eq_true h2⟩
      | false => exact ⟨x, by simp, rc_self x⟩
theorem insR_ss (x : List ApiValue) : ∀ (l : List (List ApiValue)), SS l → SS (insR x l)
  | [], _ => by simp [insR, SS]
  | a :: l, h => by
    obtain ⟨h1, h2⟩ := List.pairwise_cons.1 h
    rw [insR]
    cases d1 : decide (rcmp a x < 0) with
    | true =>
      refine List.pairwise_cons.2 ⟨fun y hy => ?_, insR_ss x l h2⟩
      rcases insR_mem x l y hy with rfl | hy
      · exact of_decide_eq_true d1
      · exact h1 y hy
    | false =>
      rw [cond_false]
      cases d2 : decide (rcmp a x = 0) with
      | true => exact h
      | false =>
        have d1 := of_decide_eq_false d1
        have d2 := of_decide_eq_false d2
        have ha := rcmp_anti a x
        have hxa : rcmp x a < 0 := by omega
        refine List.pairwise_cons.2 ⟨fun y hy => ?_, h⟩
        rcases List.mem_cons.1 hy with rfl | hy
        · exact hxa
        · exact rc_lt1 hxa (by have := h1 y hy; omega)
theorem insR_len (x : List ApiValue) : ∀ l : List (List ApiValue), (insR x l).length ≤ l.length + 1
  | [] => by simp [insR]
  | a :: l => by
    rw [insR]
    cases decide (rcmp a x < 0) with
    | true => have := insR_len x l; simp; omega
    | false => cases decide (rcmp a x = 0) <;> simp
def tidy (l : List (List ApiValue)) : List (List ApiValue) := l.foldl (fun out x => insR x out) []
theorem tidy_snoc (l : List (List ApiValue)) (x : List ApiValue) : tidy (l ++ [x]) = insR x (tidy l) := by simp [tidy]
theorem tidy_facts (l : List (List ApiValue)) : ∀ k, k ≤ l.length → SS (tidy (l.take k)) ∧ (∀ y ∈ tidy (l.take k), y ∈ l.take k) ∧ (∀ x ∈ l.take k, ∃ y ∈ tidy (l.take k), rcmp y x = 0) ∧ (tidy (l.take k)).length ≤ k
  | 0, _ => by simp [tidy, SS]
  | k + 1, h => by
    obtain ⟨h1, h2, h3, h4⟩ := tidy_facts l k (by omega)
    rw [List.take_succ_eq_append_getElem (by omega), tidy_snoc]
    refine ⟨insR_ss _ _ h1, fun y hy => ?_, fun x hx => ?_, ?_⟩
    · rcases insR_mem _ _ _ hy with rfl | hy
      · exact List.mem_append_right _ (List.mem_singleton.2 rfl)
      · exact List.mem_append_left _ (h2 y hy)
    · rcases List.mem_append.1 hx with hx | hx
      · obtain ⟨y, k1, k2⟩ := h3 x hx
        exact ⟨y, insR_old _ _ _ k1, k2⟩
      · rw [List.mem_singleton] at hx
        subst hx
        exact insR_new _ _
    · have := insR_len l[k] (tidy (l.take k)); omega
theorem comp_tidy {rows ys : List (List ApiValue)} (hp : ys.Perm rows) (hs : ys.Pairwise fun a b => rcmp a b ≤ 0) : (comp ys).length = (tidy rows).length ∧ rall (comp ys) (tidy rows) = true := by
  obtain ⟨t1, t2, t3, _⟩ := tidy_facts rows rows.length (Nat.le_refl _)
  rw [List.take_length] at t1 t2 t3
  have c1 : SS (comp ys) := by
    cases ys with
    | nil => simp [comp, SS]
    | cons a l => exact kp_ss a l hs
  have c2 : ∀ x ∈ comp ys, x ∈ ys := by
    cases ys with
    | nil => simp [comp]
    | cons a l =>
      intro x hx
      rcases List.mem_cons.1 hx with rfl | hx
      · simp
      · exact List.mem_cons_of_mem _ (kp_mem a l x hx)
  have c3 : ∀ y ∈ ys, ∃ x ∈ comp ys, rcmp y x = 0 := by
    cases ys with
    | nil => simp
    | cons a l =>
      intro y hy
      rcases List.mem_cons.1 hy with rfl | hy
      · exact ⟨y, by simp [comp], rc_self y⟩
      · exact kp_cov a l y hy
  refine ss_uniq _ _ c1 t1 (fun a ha => ?_) (fun b hb => ?_)
  · obtain ⟨y, k1, k2⟩ := t3 a (hp.mem_iff.1 (c2 a ha))
    exact ⟨y, k1, by have := rcmp_anti y a; omega⟩
  · obtain ⟨x, k1, k2⟩ := c3 b (hp.mem_iff.2 (t2 b hb))
    exact ⟨x, k1, by have := rcmp_anti b x; omega⟩

/-! ### A relation with other rows -/
theorem head_same {n : Nat} (r : Rel) (rows : List (List ApiValue)) (hc : r.Cols.length < 4294967296) (hk : r.Key.length < 4294967296) (hcn : r.Cols.length < n) (hkn : r.Key.length < n) :
    rel_head n (Rel.mk r.Name r.Cols r.Key rows) = rel_head n r := by
  have l4 : rel_head_l4 n n r.Key (r.Key.length : Int) 0 (Rel.mk r.Name r.Cols r.Key rows) = rel_head_l4 n n r.Key (r.Key.length : Int) 0 r := by
    have f1 := rel_head_l4_fold n r.Key (Rel.mk r.Name r.Cols r.Key rows) (by omega) n 0 (Nat.zero_le _) (by omega)
    have f2 := rel_head_l4_fold n r.Key r (by omega) n 0 (Nat.zero_le _) (by omega)
    rw [show ((0 : Nat) : Int) = 0 from rfl] at f1 f2
    rw [f1, f2]
    refine foldK_par r.Key (S := Unit) (S' := Unit) (fun _ _ _ => True) ?_ (fun _ _ _ => rfl) _ 0 rfl (Nat.zero_le _) _ _ trivial
    intro i hi s s' K K' _ hK
    rw [col_ok n (Rel.mk r.Name r.Cols r.Key rows) _ (by show r.Cols.length < _; omega) (by show r.Cols.length < _; omega), col_ok n r _ (by omega) (by omega)]
    simp only [bind_some2, hK () () trivial]
  have l1 : rel_head_l1 n n r.Cols (r.Cols.length : Int) 0 (Rel.mk r.Name r.Cols r.Key rows) = rel_head_l1 n n r.Cols (r.Cols.length : Int) 0 r := by
    have f1 := rel_head_l1_fold n r.Cols (Rel.mk r.Name r.Cols r.Key rows) (by omega) n 0 (Nat.zero_le _) (by omega)
    have f2 := rel_head_l1_fold n r.Cols r (by omega) n 0 (Nat.zero_le _) (by omega)
    rw [show ((0 : Nat) : Int) = 0 from rfl] at f1 f2
    rw [f1, f2]
    refine foldK_par r.Cols (S := Unit) (S' := Unit) (fun _ _ _ => True) ?_ (fun _ _ _ => l4) _ 0 rfl (Nat.zero_le _) _ _ trivial
    intro i hi s s' K K' _ hK
    simp only [hK () () trivial]
  rw [rel_head_eq, rel_head_eq]
  simp only [l1]
theorem row_same {n : Nat} (r : Rel) (rows : List (List ApiValue)) (l : List ApiValue) (hl : l.length < 4294967296) (hn : l.length < n) : rel_row n (Rel.mk r.Name r.Cols r.Key rows) l = rel_row n r l := by
  rw [rel_row_eq, rel_row_eq]
  have f1 := rel_row_l0_fold n l (Rel.mk r.Name r.Cols r.Key rows) (by omega) n 0 (Nat.zero_le _) (by omega)
  have f2 := rel_row_l0_fold n l r (by omega) n 0 (Nat.zero_le _) (by omega)
  rw [show ((0 : Nat) : Int) = 0 from rfl] at f1 f2
  simp only [f1, f2]
/-- What a right relation has. -/
structure Chk (n : Nat) (r : Rel) : Prop where
  head : rel_head n r = some 0
  keys : ∀ k ∈ r.Key, KeyIn r k
  len : r.Rows.length ≤ 300
  rows : ∀ l ∈ r.Rows, rel_row n r l = some 0 ∧ l.length = r.Cols.length
  ss : SS r.Rows
  pw : r.Key = [] ∨ PW (r.Rows.map (keyOf r))
theorem ss_adj {l : List (List ApiValue)} (h : ∀ i, 0 < i → (hi : i < l.length) → rcmp (l[i - 1]'(by omega)) l[i] < 0) : SS l := by
  unfold SS
  rw [List.pairwise_iff_getElem]
  intro i j hi hj hij
  have key : ∀ (d i : Nat) (hi : i < l.length) (hj : i + d + 1 < l.length), rcmp l[i] l[i + d + 1] < 0 := by
    intro d
    induction d with
    | zero =>
      intro i hi hj
      have := h (i + 1) (by omega) hj
      simpa using this
    | succ d ih =>
      intro i hi hj
      have h1 := ih i hi (by omega)
      have h2 := h (i + (d + 1) + 1) (by omega) hj
      have h2 : rcmp l[i + d + 1] l[i + (d + 1) + 1] < 0 := by
        have e : i + (d + 1) + 1 - 1 = i + d + 1 := by omega
        simpa only [e] using h2
      exact rc_lt1 h1 (by omega)
  have := key (j - i - 1) i hi (by omega)
  have e : i + (j - i - 1) + 1 = j := by omega
  simpa only [e] using this
open Classical in
/-- The loop over the rows, where all are right. -/
theorem rows_good {B n : Nat} {r : Rel} (hr : RB B r) (hB : Big B n) (hk : ∀ k ∈ r.Key, KeyIn r k) (hrow : ∀ l ∈ r.Rows, rel_row n r l = some 0 ∧ l.length = r.Cols.length) (hs : SS r.Rows) :
    rel_Check_l0 n n r.Rows (r.Rows.length : Int) 0 r = some (if r.Key = [] then 0 else if PW (r.Rows.map (keyOf r)) then 0 else 16) := by
  have h1 := hr.rl
  have hb1 := hB.b
  have hb2 := hB.n1
  have hb3 := hB.m1
  have f1 := rel_Check_l0_fold n r.Rows r (by omega) n 0 (Nat.zero_le _) (by omega)
  rw [show ((0 : Nat) : Int) = 0 from rfl] at f1
  rw [f1]
  refine foldK_case r.Rows (S := Unit) (fun _ _ => True) (fun o => o = _) ?_ ?_ _ 0 rfl (Nat.zero_le _) _ trivial
  · intro i hi s _
    obtain ⟨e1, e2⟩ := hrow _ (List.getElem_mem hi)
    refine .inr ⟨(), trivial, fun K => ?_⟩
    rw [e1, bind_some2, decide_eq_true rfl, Bool.not_true, cond_false]
    by_cases hp : 0 < i
    · obtain ⟨p1, p2⟩ := inP hp hi (by omega)
      have hlt : i - 1 < r.Rows.length := by omega
      have hw2 := hr.rw _ (List.getElem_mem hlt)
      have hlt' := (List.pairwise_iff_getElem.1 hs) (i - 1) i hlt hi (by omega)
      rw [decide_eq_true (by omega : (i : Int) > 0), cond_true, p1, cond_true, p2, getD_lt _ hlt, rcmp_ok n _ _ (by omega) (by omega), bind_some2, decide_eq_false (by omega), cond_false]
    · rw [decide_eq_false (by omega : ¬ (i : Int) > 0), cond_false]
  · intro _ _
    by_cases h0 : r.Key = []
    · rw [if_pos h0, decide_eq_true (by rw [h0]; rfl), cond_true]
    · have hpos : ¬ (r.Key.length : Int) = 0 := by
        have : r.Key.length ≠ 0 := fun h => h0 (List.length_eq_zero_iff.1 h)
        omega
      have := check2_ok hr hB hk (fun l hl => (hrow l hl).2) _ 0 n rfl (Nat.zero_le _) (by omega) (by simp [PW])
      rw [show ((0 : Nat) : Int) = 0 from rfl] at this
      rw [decide_eq_false hpos, cond_false, this, if_neg h0]
open Classical in
theorem check_good {B n : Nat} {r : Rel} (hr : RB B r) (hB : Big B n) (hh : rel_head n r = some 0) (hk : ∀ k ∈ r.Key, KeyIn r k) (hrow : ∀ l ∈ r.Rows, rel_row n r l = some 0 ∧ l.length = r.Cols.length) (hs : SS r.Rows) :
    rel_Check n r = some (if 300 < r.Rows.length then 2 else if r.Key = [] then 0 else if PW (r.Rows.map (keyOf r)) then 0 else 16) := by
  rw [rel_Check_eq, hh, bind_some2, decide_eq_true rfl, Bool.not_true, cond_false]
  by_cases h : 300 < r.Rows.length
  · rw [if_pos h, decide_eq_true (by omega), cond_true]
  · rw [if_neg h, decide_eq_false (by omega), cond_false, rows_good hr hB hk hrow hs]
theorem check0_all {B n : Nat} {r : Rel} (hr : RB B r) (hB : Big B n) (h : rel_Check n r = some 0) : Chk n r := by
  have h1 := hr.rl
  have hb1 := hB.b
  have hb2 := hB.n1
  have hb3 := hB.m1
  have h' := h
  obtain ⟨_, e, e2, e3⟩ := head_ok (n := n) hr (by omega) (by omega)
  rw [rel_Check_eq, e2, bind_some2] at h
  by_cases h0 : e = 0
  · subst h0
    rw [decide_eq_true rfl, Bool.not_true, cond_false] at h
    by_cases hc : (r.Rows.length : Int) > 300
    · rw [decide_eq_true hc, cond_true] at h; cases h
    · rw [decide_eq_false hc, cond_false] at h
      have f1 := rel_Check_l0_fold n r.Rows r (by omega) n 0 (Nat.zero_le _) (by omega)
      rw [show ((0 : Nat) : Int) = 0 from rfl] at f1
      rw [f1] at h
      have all : (∀ l ∈ r.Rows, rel_row n r l = some 0 ∧ l.length = r.Cols.length) ∧ ∀ i, 0 < i → (hi : i < r.Rows.length) → rcmp (r.Rows[i - 1]'(by omega)) r.Rows[i] < 0 := by
        revert h
        refine foldK_case r.Rows (S := Unit) (fun i _ => (∀ l ∈ r.Rows.take i, rel_row n r l = some 0 ∧ l.length = r.Cols.length) ∧ ∀ j, 0 < j → (hj : j < r.Rows.length) → j < i → rcmp (r.Rows[j - 1]'(by omega)) r.Rows[j] < 0) (fun o => o = some 0 → (∀ l ∈ r.Rows, rel_row n r l = some 0 ∧ l.length = r.Cols.length) ∧ ∀ i, 0 < i → (hi : i < r.Rows.length) → rcmp (r.Rows[i - 1]'(by omega)) r.Rows[i] < 0) ?_ (fun _ hI _ => ⟨by have := hI.1; rwa [List.take_length] at this, fun i h0 hi => hI.2 i h0 hi hi⟩) _ 0 rfl (Nat.zero_le _) _ ⟨by simp, fun j _ _ h => by omega⟩
        intro i hi s hI
        have hm := List.getElem_mem hi
        have hw := hr.rw _ hm
        obtain ⟨_, e, e2, e3⟩ := row_ok (r := r) (n := n) (l := r.Rows[i]) (by omega) (by omega)
        have next : e = 0 → ∀ l ∈ r.Rows.take (i + 1), rel_row n r l = some 0 ∧ l.length = r.Cols.length := by
          intro h0 l hl
          rw [List.take_succ_eq_append_getElem hi] at hl
          rcases List.mem_append.1 hl with hl | hl
          · exact hI.1 l hl
          · rw [List.mem_singleton.1 hl]; exact ⟨by rw [e2, h0], e3 h0⟩
        rw [e2]
        simp only [bind_some2]
        by_cases h0 : e = 0
        · rw [decide_eq_true h0]
          by_cases hp : 0 < i
          · obtain ⟨p1, p2⟩ := inP hp hi (by omega)
            have hlt : i - 1 < r.Rows.length := by omega
            rw [decide_eq_true (by omega : (i : Int) > 0), p1, p2, getD_lt _ hlt]
            have hw2 := hr.rw _ (List.getElem_mem hlt)
            rw [rcmp_ok n _ _ (by omega) (by omega)]
            simp only [bind_some2, Bool.not_true, cond_false, cond_true]
            cases hd : decide (rcmp r.Rows[i - 1] r.Rows[i] ≥ 0) with
            | true => exact .inl ⟨some 9, fun h => (by cases h), fun _ => by rw [cond_true]⟩
            | false =>
              refine .inr ⟨(), ⟨next h0, fun j j0 hj hji => ?_⟩, fun _ => by rw [cond_false]⟩
              rcases Nat.lt_or_ge j i with h | h
              · exact hI.2 j j0 hj h
              · have : j = i := by omega
                subst this
                have := of_decide_eq_false hd
                omega
          · rw [decide_eq_false (by omega : ¬ (i : Int) > 0)]
            refine .inr ⟨(), ⟨next h0, fun j j0 hj hji => ?_⟩, fun _ => by rw [Bool.not_true, cond_false, cond_false]⟩
            omega
        · rw [decide_eq_false h0]
          exact .inl ⟨some e, fun h => absurd (Option.some.inj h) h0, fun _ => by rw [Bool.not_false, cond_true]⟩
      have hss := ss_adj all.2
      have g := check_good hr hB e2 (e3 rfl) all.1 hss
      rw [h', if_neg (by omega)] at g
      refine ⟨e2, e3 rfl, by omega, all.1, hss, ?_⟩
      by_cases hk : r.Key = []
      · exact .inl hk
      · rw [if_neg hk] at g
        by_cases hp : PW (r.Rows.map (keyOf r))
        · exact .inr hp
        · rw [if_neg hp] at g; cases g
  · rw [decide_eq_false h0, Bool.not_false, cond_true] at h
    exact absurd (Option.some.inj h) h0

/-! ### Where a row belongs -/
def rpos (rows : List (List ApiValue)) (l : List ApiValue) : Nat := rows.findIdx fun a => decide (0 ≤ rcmp a l)
def rthr (rows : List (List ApiValue)) (l : List ApiValue) : Bool := rows.any fun a => decide (rcmp a l = 0)
theorem rpos_le (rows : List (List ApiValue)) (l : List ApiValue) : rpos rows l ≤ rows.length := List.findIdx_le_length
theorem rpos_lt {rows : List (List ApiValue)} {l : List ApiValue} {j : Nat} (hj : j < rows.length) (h : j < rpos rows l) : rcmp rows[j] l < 0 := by
  have h2 : decide (0 ≤ rcmp rows[j] l) = false := List.not_of_lt_findIdx (p := fun a => decide (0 ≤ rcmp a l)) h
  have h2 := of_decide_eq_false h2
  omega
theorem rpos_at {rows : List (List ApiValue)} {l : List ApiValue} (h : rpos rows l < rows.length) : 0 ≤ rcmp (rows[rpos rows l]'h) l := by
  have := List.findIdx_getElem (p := fun a => decide (0 ≤ rcmp a l)) (w := h)
  exact of_decide_eq_true this
theorem rpos_ge {rows : List (List ApiValue)} (hs : SS rows) {l : List ApiValue} {j : Nat} (hj : j < rows.length) (h : rpos rows l < j) : 0 < rcmp rows[j] l := by
  have hp : rpos rows l < rows.length := by omega
  have h1 := rpos_at hp
  have h2 := List.pairwise_iff_getElem.1 hs _ _ hp hj h
  have a1 := rcmp_anti rows[rpos rows l] l
  have a2 := rcmp_anti rows[j] l
  have := rc_lt2 (by omega : rcmp l rows[rpos rows l] ≤ 0) h2
  omega
theorem rthr_at {rows : List (List ApiValue)} (hs : SS rows) {l : List ApiValue} (hp : rpos rows l < rows.length) : rthr rows l = decide (rcmp (rows[rpos rows l]'hp) l = 0) := by
  unfold rthr
  by_cases h : rcmp (rows[rpos rows l]'hp) l = 0
  · rw [decide_eq_true h, List.any_eq_true]
    exact ⟨_, List.getElem_mem hp, decide_eq_true h⟩
  · rw [decide_eq_false h, List.any_eq_false]
    intro x hx
    obtain ⟨j, hj, rfl⟩ := List.getElem_of_mem hx
    intro hz
    have hz := of_decide_eq_true hz
    rcases Nat.lt_trichotomy j (rpos rows l) with h1 | h1 | h1
    · have := rpos_lt hj h1; omega
    · subst h1; exact h hz
    · have := rpos_ge hs hj h1; omega
theorem rthr_end {rows : List (List ApiValue)} {l : List ApiValue} (hp : ¬ rpos rows l < rows.length) : rthr rows l = false := by
  unfold rthr
  rw [List.any_eq_false]
  intro x hx
  obtain ⟨j, hj, rfl⟩ := List.getElem_of_mem hx
  intro hz
  have hz := of_decide_eq_true hz
  have := rpos_lt (rows := rows) (l := l) hj (by omega)
  omega
theorem rsearch_ok {B n : Nat} (hB : B < 4294967296) (hn : 3 * B + 10 < n) {rows : List (List ApiValue)} (hs : SS rows) (l : List ApiValue) (hl : rows.length ≤ B) (hw : ∀ x ∈ rows, lw x ≤ B) : slices_BinarySearchFunc_LValue_by_rel_Cmp n rows l () = some ((rpos rows l : Int), rthr rows l) := by
  rw [slices_BinarySearchFunc_LValue_by_rel_Cmp_eq]
  have hple := rpos_le rows l
  have key : ∀ (c lo hi m : Nat), hi - lo ≤ c → lo ≤ rpos rows l → rpos rows l ≤ hi → hi ≤ rows.length → c < m → slices_BinarySearchFunc_LValue_by_rel_Cmp_l0 n m rows l (rows.length : Int) (lo : Int) (hi : Int) = some ((rpos rows l : Int), rthr rows l) := by
    have fin : ∀ m, slices_BinarySearchFunc_LValue_by_rel_Cmp_l0 n (m + 1) rows l (rows.length : Int) (rpos rows l : Int) (rpos rows l : Int) = some ((rpos rows l : Int), rthr rows l) := by
      intro m
      rw [slices_BinarySearchFunc_LValue_by_rel_Cmp_l0_eq, decide_eq_false (by omega : ¬ ((rpos rows l : Nat) : Int) < ((rpos rows l : Nat) : Int)), cond_false]
      by_cases hp : rpos rows l < rows.length
      · have hx := hw _ (List.getElem_mem hp)
        rw [inR hp, decide_eq_true (by omega : ((rpos rows l : Nat) : Int) < (rows.length : Int)), cond_true, cond_true, show Int.toNat ((rpos rows l : Nat) : Int) = rpos rows l from rfl, getD_lt _ hp, rcmp_ok n _ _ (by omega) (by omega), bind_some2, rthr_at hs hp]
      · rw [decide_eq_false (by omega : ¬ ((rpos rows l : Nat) : Int) < (rows.length : Int)), cond_false, rthr_end hp]
    intro c
    induction c with
    | zero =>
      intro lo hi m hc h1 h2 h3 hm
      obtain ⟨m, rfl⟩ : ∃ q, m = q + 1 := ⟨m - 1, by omega⟩
      have e : lo = rpos rows l := by omega
      have e' : hi = rpos rows l := by omega
      rw [e, e']
      exact fin m
    | succ c ih =>
      intro lo hi m hc h1 h2 h3 hm
      obtain ⟨m, rfl⟩ : ∃ q, m = q + 1 := ⟨m - 1, by omega⟩
      by_cases hlt : lo < hi
      · have hmid : (lo + hi) / 2 < hi ∧ lo ≤ (lo + hi) / 2 := by omega
        have hml : (lo + hi) / 2 < rows.length := by omega
        have hx := hw _ (List.getElem_mem hml)
        rw [slices_BinarySearchFunc_LValue_by_rel_Cmp_l0_eq, mid_ok (by omega), inR hml, decide_eq_true (by omega : (lo : Int) < (hi : Int)), show decide (0 ≤ 1) = true from rfl, cond_true, cond_true, cond_true, show Int.toNat (((lo + hi) / 2 : Nat) : Int) = (lo + hi) / 2 from rfl, getD_lt _ hml, rcmp_ok n _ _ (by omega) (by omega), bind_some2]
        by_cases hz : rcmp rows[(lo + hi) / 2] l < 0
        · rw [decide_eq_true hz, cond_true, i64_succ (by omega)]
          refine ih _ _ m (by omega) ?_ h2 h3 (by omega)
          rcases Nat.lt_or_ge ((lo + hi) / 2) (rpos rows l) with h | h
          · omega
          · rcases Nat.eq_or_lt_of_le h with h | h
            · have := rpos_at (rows := rows) (l := l) (by omega)
              simp only [h] at this
              omega
            · have := rpos_ge hs hml h
              omega
        · rw [decide_eq_false hz, cond_false]
          refine ih _ _ m (by omega) h1 ?_ (by omega) (by omega)
          rcases Nat.lt_or_ge ((lo + hi) / 2) (rpos rows l) with h | h
          · exact absurd (rpos_lt hml h) hz
          · exact h
      · have e : lo = rpos rows l := by omega
        have e' : hi = rpos rows l := by omega
        rw [e, e']
        exact fin m
  have h0 : slices_BinarySearchFunc_LValue_by_rel_Cmp_l0 n n rows l (rows.length : Int) ((0 : Nat) : Int) (rows.length : Int) = _ := key rows.length 0 rows.length n (by omega) (Nat.zero_le _) hple (Nat.le_refl _) (by omega)
  exact h0
theorem insR_new' {l : List ApiValue} : ∀ (rows : List (List ApiValue)), SS rows → rthr rows l = false → insR l rows = rows.take (rpos rows l) ++ [l] ++ rows.drop (rpos rows l)
  | [], _, _ => rfl
  | a :: rows, hs, ht => by
    obtain ⟨h1, h2⟩ := List.pairwise_cons.1 hs
    have ht' : decide (rcmp a l = 0) = false ∧ rthr rows l = false := by
      unfold rthr at ht
      rw [List.any_cons, Bool.or_eq_false_iff] at ht
      exact ht
    have e0 : rcmp a l ≠ 0 := of_decide_eq_false ht'.1
    rw [insR]
    unfold rpos
    rw [List.findIdx_cons]
    by_cases h : rcmp a l < 0
    · rw [decide_eq_true h, decide_eq_false (by omega : ¬ 0 ≤ rcmp a l), cond_true, cond_false, insR_new' rows h2 ht'.2]
      rfl
    · rw [decide_eq_false h, decide_eq_false e0, decide_eq_true (by omega : 0 ≤ rcmp a l), cond_false, cond_false, cond_true]
      rfl
theorem insR_last {x : List ApiValue} : ∀ (m : List (List ApiValue)), (∀ a ∈ m, rcmp a x < 0) → insR x m = m ++ [x]
  | [], _ => rfl
  | a :: m, h => by
    rw [insR, decide_eq_true (h a (by simp)), cond_true, insR_last m fun b hb => h b (by simp [hb])]
    rfl
theorem tidy_ss {rows : List (List ApiValue)} (hs : SS rows) : tidy rows = rows := by
  have key : ∀ k, k ≤ rows.length → tidy (rows.take k) = rows.take k := by
    intro k
    induction k with
    | zero => intro _; rfl
    | succ k ih =>
      intro hk
      rw [List.take_succ_eq_append_getElem (by omega), tidy_snoc, ih (by omega), insR_last]
      intro a ha
      obtain ⟨j, hj, rfl⟩ := List.getElem_of_mem ha
      rw [List.length_take] at hj
      rw [List.getElem_take]
      exact List.pairwise_iff_getElem.1 hs _ _ (by omega) (by omega) (by omega)
  have := key rows.length (Nat.le_refl _)
  rwa [List.take_length] at this
/-! ### Less a row -/

/-! ### Tidying -/
theorem insO_at {A : Type} (xs : List A) (k : Nat) (v : A) (hk : k ≤ xs.length) (hb : xs.length < 1000000000) : insO xs xs.length (k : Int) [v] = some (xs.take k ++ [v] ++ xs.drop k) := by
  unfold insO
  rw [decide_eq_true ⟨rfl, by omega, by omega, by simp; omega⟩]
  rfl
theorem tidy2_ok {B n : Nat} (hB : B < 500000000) (hn : 3 * B + 10 < n) (m0 : Nat) (x : List ApiValue) (hx : lw x ≤ B) (v8 : List (List ApiValue)) (v9 : Int) (v10 : Int) (w1 w2 : Rel) (l : List (List ApiValue)) (hl : l.length ≤ B) (hw : ∀ y ∈ l, lw y ≤ B) :
    ∀ (c k m : Nat), c + k = l.length → c < m → insR x l = l.take k ++ insR x (l.drop k) →
      ref2_Tidy_l2 n m0 m x (k : Int) v8 v9 v10 w1 w2 l = ref2_Tidy_l0 n m0 v8 v9 (IntKind.wrap .i64 (v10 + 1)) w1 w2 (insR x l) := by
  have hlx := lw_len x
  intro c
  induction c with
  | zero =>
    intro k m hc hm he
    obtain ⟨m, rfl⟩ : ∃ q, m = q + 1 := ⟨m - 1, by omega⟩
    have hk : k = l.length := by omega
    subst hk
    rw [ref2_Tidy_l2_eq, decide_eq_false (by omega : ¬ (l.length : Int) < (l.length : Int)), cond_false, decide_eq_true rfl, cond_true, insO_at l _ x (Nat.le_refl _) (by omega), bind_some2, he, List.drop_length, insR, List.append_nil]
  | succ c ih =>
    intro k m hc hm he
    obtain ⟨m, rfl⟩ : ∃ q, m = q + 1 := ⟨m - 1, by omega⟩
    have hk : k < l.length := by omega
    have hy := hw _ (List.getElem_mem hk)
    have hly := lw_len l[k]
    have hd : l.drop k = l[k] :: l.drop (k + 1) := List.drop_eq_getElem_cons hk
    rw [ref2_Tidy_l2_eq, inR hk, decide_eq_true (by omega : (k : Int) < (l.length : Int)), cond_true, cond_true, show Int.toNat (k : Int) = k from rfl, Nat.zero_add, decide_eq_true hk, cond_true, getD_lt _ hk, order_ok n _ _ (by omega) (by omega) (by omega) (by omega) (by omega), bind_some2]
    rw [hd, insR] at he
    cases h1 : decide (rcmp l[k] x < 0) with
    | true =>
      rw [h1, cond_true] at he
      rw [cond_true, i64_succ (by omega)]
      exact ih (k + 1) m (by omega) (by omega) (by rw [he, List.take_succ_eq_append_getElem hk, List.append_assoc]; rfl)
    | false =>
      rw [h1, cond_false] at he
      rw [cond_false, decide_eq_false (by omega : ¬ (k : Int) = (l.length : Int)), cond_false, bind_some2]
      cases h2 : decide (rcmp l[k] x = 0) with
      | true =>
        rw [h2, cond_true, ← hd, List.take_append_drop] at he
        rw [Bool.not_true, cond_false, he]
        rfl
      | false =>
        rw [h2, cond_false, ← hd] at he
        rw [Bool.not_false, cond_true, insO_at l k x (by omega) (by omega), bind_some2, he, List.append_assoc]
        rfl
theorem tidy_ok {B n : Nat} (hB : B < 500000000) (hn : 3 * B + 10 < n) {r : Rel} (hr : RB B r) : ref2_Tidy n r = some (Rel.mk r.Name r.Cols r.Key (tidy r.Rows)) := by
  have h3 := hr.rl
  have key : ∀ (c i m : Nat), c + i = r.Rows.length → c < m → ref2_Tidy_l0 n m r.Rows (r.Rows.length : Int) (i : Int) r (Rel.mk [] [] [] []) (tidy (r.Rows.take i)) = some (Rel.mk r.Name r.Cols r.Key (tidy r.Rows)) := by
    intro c
    induction c with
    | zero =>
      intro i m hc hm
      obtain ⟨m, rfl⟩ : ∃ q, m = q + 1 := ⟨m - 1, by omega⟩
      rw [ref2_Tidy_l0_eq, decide_eq_false (by omega), cond_false, decide_eq_true rfl, List.take_of_length_le (by omega)]
      rfl
    | succ c ih =>
      intro i m hc hm
      obtain ⟨m, rfl⟩ : ∃ q, m = q + 1 := ⟨m - 1, by omega⟩
      have hi : i < r.Rows.length := by omega
      obtain ⟨t1, t2, t3, t4⟩ := tidy_facts r.Rows i (by omega)
      have hx := hr.rw _ (List.getElem_mem hi)
      have t := tidy2_ok hB hn m r.Rows[i] hx r.Rows (r.Rows.length : Int) (i : Int) r (Rel.mk [] [] [] []) (tidy (r.Rows.take i)) (by omega) (fun y hy => hr.rw y (List.mem_of_mem_take (t2 y hy))) (tidy (r.Rows.take i)).length 0 n (by omega) (by omega) rfl
      rw [show ((0 : Nat) : Int) = 0 from rfl] at t
      rw [ref2_Tidy_l0_eq, inR hi, decide_eq_true (by omega), cond_true, cond_true, show Int.toNat (i : Int) = i from rfl, getD_lt _ hi, t, i64_succ (by omega), ← tidy_snoc, ← List.take_succ_eq_append_getElem hi]
      exact ih (i + 1) m (by omega) (by omega)
  rw [ref2_Tidy_eq]
  exact key r.Rows.length 0 n rfl (by omega)

/-! ### The law -/
theorem keyOf_same (r : Rel) (rows : List (List ApiValue)) (l : List ApiValue) : keyOf (Rel.mk r.Name r.Cols r.Key rows) l = keyOf r l := rfl
theorem PW_mid {a c : List (List ApiValue)} {x : List ApiValue} (h : PW (a ++ c)) : PW (a ++ [x] ++ c) ↔ ∀ z ∈ a ++ c, rcmp z x ≠ 0 := by
  unfold PW at h ⊢
  rw [List.pairwise_append] at h
  obtain ⟨h1, h2, h3⟩ := h
  constructor
  · intro hp
    rw [List.append_assoc, List.pairwise_append] at hp
    obtain ⟨_, p2, p3⟩ := hp
    have p2 : (x :: c).Pairwise _ := p2
    obtain ⟨q1, _⟩ := List.pairwise_cons.1 p2
    intro z hz
    rcases List.mem_append.1 hz with hz | hz
    · exact p3 z hz x (by simp)
    · have := q1 z hz
      have := rcmp_anti x z
      omega
  · intro hz
    rw [List.append_assoc, List.pairwise_append]
    refine ⟨h1, ?_, fun y hy z hz' => ?_⟩
    · show (x :: c).Pairwise _
      refine List.pairwise_cons.2 ⟨fun z hz' => ?_, h2⟩
      have := hz z (List.mem_append_right _ hz')
      have := rcmp_anti x z
      omega
    · have hz'' : z ∈ x :: c := hz'
      rcases List.mem_cons.1 hz'' with rfl | hz''
      · exact hz y (List.mem_append_left _ hy)
      · exact h3 y hy z hz''
theorem cpy1_ok {n : Nat} {l : List ApiValue} (hn : lw l < n) (h1 : 1 < n) (hm : lw l < 4294967296) : rel_copies n [l] = some [l] := copies_ok [l] (by simpa using h1) (by simp) fun x hx => by
  rw [List.mem_singleton] at hx
  subst hx
  exact ⟨hn, hm⟩
theorem cont_ok {B n : Nat} {r : Rel} (hr : RB B r) (hB : Big B n) (hk : ∀ k ∈ r.Key, KeyIn r k) (hrow : ∀ l ∈ r.Rows, l.length = r.Cols.length) {l : List ApiValue} (hl : l.length = r.Cols.length) :
    slices_ContainsFunc_LValue_by_rel_Insert_1 n r.Rows (r, l, ()) = some (r.Rows.any fun z => decide (rcmp (keyOf r z) (keyOf r l) = 0)) := by
  have h1 := hr.rl
  have hb1 := hB.b
  have hb2 := hB.n1
  have f := slices_IndexFunc_LValue_by_rel_Insert_1_l0_fold n r.Rows r l (by omega) n 0 (Nat.zero_le _) (by omega)
  rw [show ((0 : Nat) : Int) = 0 from rfl] at f
  have g : foldK (S := Unit) (fun i (a : (List ApiValue)) s K => (Option.bind (rel_Insert_1 n a r l) fun r1 => (bif r1 then (some (i : Int)) else (K ())))) (fun s => (some (-1))) (List.drop 0 r.Rows) 0 () = foldK (S := Unit) (fun i a _ K => bif decide (rcmp (keyOf r a) (keyOf r l) = 0) then some (i : Int) else K ()) (fun _ => some (-1)) (List.drop 0 r.Rows) 0 () := by
    refine foldK_par r.Rows (S := Unit) (S' := Unit) (fun _ _ _ => True) ?_ (fun _ _ _ => rfl) _ 0 rfl (Nat.zero_le _) _ _ trivial
    intro i hi s s' K K' _ hK
    have hm := List.getElem_mem hi
    rw [rel_Insert_1_eq, agree_ok hr (by omega) (by omega) hk hm (hrow _ hm) hl]
    simp only [bind_some2, hK () () trivial]
  rw [slices_ContainsFunc_LValue_by_rel_Insert_1_eq, slices_IndexFunc_LValue_by_rel_Insert_1_eq, f, g, List.drop_zero, foldK_ix fun a : List ApiValue => decide (rcmp (keyOf r a) (keyOf r l) = 0), bind_some2, ixI_pos]
/-- What is put in. -/
def put1 (r : Rel) (l : List ApiValue) : Rel := Rel.mk r.Name r.Cols r.Key (r.Rows.take (rpos r.Rows l) ++ [l] ++ r.Rows.drop (rpos r.Rows l))
def keyHit (r : Rel) (l : List ApiValue) : Bool := r.Rows.any fun z => decide (rcmp (keyOf r z) (keyOf r l) = 0)
theorem put1_ok {B n : Nat} {r : Rel} (hr : RB B r) (hB : B < 500000000) (hn : 3 * B + 10 < n) (l : List ApiValue) (hl : lw l ≤ B) :
    (Option.bind (rel_Copy n r) fun r5 => (Option.bind (rel_copies n [l]) fun r6 => (bif (decide (0 ≤ (0 : Int)) && decide ((0 : Int) < ((List.length r6) : Int))) then (bif (decide ((0 + (Int.toNat (0 : Int))) < List.length r6)) then (Option.bind (insO r5.2.2.2 (List.length r5.2.2.2) (rpos r.Rows l : Int) [(List.getD r6 (0 + (Int.toNat (0 : Int))) [])]) fun r7 => (bif (((decide ((List.length r7) = List.length r7)) && true) && true) then (some ((Rel.mk r5.1 r5.2.1 r5.2.2.1 r7), (0 : Int))) else none)) else none) else none))) = some (put1 r l, 0) := by
  have h1 := hr.rl
  have hp := rpos_le r.Rows l
  rw [relcopy_ok hr (by omega) (by omega), bind_some2, cpy1_ok (by omega) (by omega) (by omega), bind_some2]
  have e : insO r.Rows r.Rows.length (rpos r.Rows l : Int) [l] = some (r.Rows.take (rpos r.Rows l) ++ [l] ++ r.Rows.drop (rpos r.Rows l)) := insO_at _ _ _ hp (by omega)
  have e' : insO r.Rows r.Rows.length (rpos r.Rows l : Int) [(List.getD [l] (0 + (Int.toNat (0 : Int))) [])] = some (r.Rows.take (rpos r.Rows l) ++ [l] ++ r.Rows.drop (rpos r.Rows l)) := e
  rw [e', bind_some2, decide_eq_true rfl]
  rfl
theorem insert_ok {B n : Nat} {r : Rel} (hr : RB B r) (hB : Big B n) (hB5 : B < 500000000) (hc : Chk n r) (h0 : rel_Check n r = some 0) (l : List ApiValue) (hl : lw l ≤ B) :
    ∃ e, rel_row n r l = some e ∧ ref2_RowErr n r l = some e ∧ (e ≠ 0 → rel_Insert n r l = some (Rel.mk [] [] [] [], e)) ∧ (e = 0 → l.length = r.Cols.length ∧ rel_Insert n r l = some (if rthr r.Rows l then (Rel.mk [] [] [] [], 5) else if r.Key ≠ [] ∧ keyHit r l = true then (Rel.mk [] [] [] [], 16) else if r.Rows.length = 300 then (Rel.mk [] [] [] [], 6) else (put1 r l, 0))) := by
  have hb1 := hB.b
  have hb2 := hB.n1
  obtain ⟨e1, e, e2, e3⟩ := row_ok (r := r) (n := n) (l := l) (by omega) (by omega)
  refine ⟨e, e2, by rw [← e1]; exact e2, fun he => ?_, fun he => ⟨e3 he, ?_⟩⟩
  · rw [rel_Insert_eq, h0, bind_some2, decide_eq_true rfl, Bool.not_true, cond_false, e2, bind_some2, decide_eq_false he, Bool.not_false, cond_true]
  · subst he
    have hput := put1_ok (n := n) hr hB5 (by omega) l hl
    rw [rel_Insert_eq, h0, bind_some2, decide_eq_true rfl, Bool.not_true, cond_false, e2, bind_some2, decide_eq_true rfl, Bool.not_true, cond_false, rsearch_ok (B := B) (n := n) (by omega) (by omega) hc.ss l hr.rl hr.rw, bind_some2]
    cases ht : rthr r.Rows l with
    | true => rfl
    | false =>
      rw [cond_false]
      have c1 : (if false = true then ((Rel.mk [] [] [] [], 5) : Rel × Int) else if r.Key ≠ [] ∧ keyHit r l = true then (Rel.mk [] [] [] [], 16) else if r.Rows.length = 300 then (Rel.mk [] [] [] [], 6) else (put1 r l, 0)) = if r.Key ≠ [] ∧ keyHit r l = true then (Rel.mk [] [] [] [], 16) else if r.Rows.length = 300 then (Rel.mk [] [] [] [], 6) else (put1 r l, 0) := rfl
      rw [c1]
      have tail : (bif (decide ((List.length r.Rows : Int) = 300)) then (some ((Rel.mk [] [] [] []), 6)) else some (put1 r l, 0)) = some (if r.Rows.length = 300 then ((Rel.mk [] [] [] [], 6) : Rel × Int) else (put1 r l, 0)) := by
        by_cases h3 : r.Rows.length = 300
        · rw [if_pos h3, decide_eq_true (by omega), cond_true]
        · rw [if_neg h3, decide_eq_false (by omega), cond_false]
      rw [hput]
      by_cases hk : r.Key = []
      · rw [if_neg (by simp [hk]), decide_eq_false (by rw [hk]; simp), cond_false, tail]
      · have hpos : (r.Key.length : Int) > 0 := by
          have : r.Key.length ≠ 0 := fun h => hk (List.length_eq_zero_iff.1 h)
          omega
        rw [decide_eq_true hpos, cond_true, cont_ok hr hB hc.keys (fun z hz => (hc.rows z hz).2) (e3 rfl), bind_some2]
        cases hh : keyHit r l with
        | true =>
          rw [if_pos ⟨hk, rfl⟩]
          have : (r.Rows.any fun z => decide (rcmp (keyOf r z) (keyOf r l) = 0)) = true := hh
          rw [this, cond_true]
        | false =>
          rw [if_neg (by simp)]
          have : (r.Rows.any fun z => decide (rcmp (keyOf r z) (keyOf r l) = 0)) = false := hh
          rw [this, cond_false, tail]

/-! ### The reference's side -/
theorem cloneR_ok (n : Nat) (l : List (List ApiValue)) (h : l.length < 4294967296) : slices_Clone_LValue_nn n l = some l := by
  rw [slices_Clone_LValue_nn_eq, decide_eq_true (by simp : 0 = List.length ([] : List (List ApiValue))), decide_eq_true (by simp; omega : List.length ([] : List (List ApiValue)) + List.length l ≤ 4294967296), decide_eq_true rfl]
  rfl
theorem key_lw' {B : Nat} {r : Rel} (hr : RB B r) (hk : ∀ k ∈ r.Key, KeyIn r k) {l : List ApiValue} (hl : lw l ≤ B) (hll : l.length = r.Cols.length) : lw (keyOf r l) ≤ B * (B + 1) + 1 ∧ (keyOf r l).length ≤ B := by
  refine ⟨Nat.le_trans (lw_map (B := B) (kval r l) r.Key fun k hk' => ?_) ?_, by simp [keyOf]; exact hr.kl⟩
  · have := lw_mem (kval_mem (hk k hk') hll)
    omega
  · have := Nat.mul_le_mul_right (B + 1) hr.kl
    omega
theorem full_loop {B n : Nat} {r : Rel} (hr : RB B r) (hB : Big B n) (hk : ∀ k ∈ r.Key, KeyIn r k) (hrow : ∀ l ∈ r.Rows, l.length = r.Cols.length) {l : List ApiValue} (hll : lw l ≤ B) (hl : l.length = r.Cols.length) (w4 w9 : Rel) :
    ref2_Inserted_l2 n n l 6 r.Rows (r.Rows.length : Int) 0 r w4 w9 = some (Rel.mk [] [] [] [], if r.Key ≠ [] ∧ keyHit r l = true then 16 else 6) := by
  have h1 := hr.rl
  have hb1 := hB.b
  have hb2 := hB.n1
  have hb3 := hB.m1
  have f := ref2_Inserted_l2_fold n l r.Rows r w4 w9 6 (by omega) n 0 (Nat.zero_le _) (by omega)
  rw [show ((0 : Nat) : Int) = 0 from rfl] at f
  rw [f]
  refine foldK_case r.Rows (S := Int) (fun i s => s = if r.Key ≠ [] ∧ (r.Rows.take i).any (fun z => decide (rcmp (keyOf r z) (keyOf r l) = 0)) = true then 16 else 6) (fun o => o = _) ?_ ?_ _ 0 rfl (Nat.zero_le _) _ (by simp)
  · intro i hi s hI
    have hm := List.getElem_mem hi
    refine .inr ?_
    by_cases h0 : r.Key = []
    · refine ⟨s, ?_, fun K => by rw [decide_eq_false (by rw [h0]; simp), cond_false]⟩
      rw [hI, if_neg (by simp [h0]), if_neg (by simp [h0])]
    · have hpos : (r.Key.length : Int) > 0 := by
        have : r.Key.length ≠ 0 := fun h => h0 (List.length_eq_zero_iff.1 h)
        omega
      obtain ⟨w1, w2⟩ := key_lw hr hk hm (hrow _ hm)
      obtain ⟨w3, w4'⟩ := key_lw' hr hk hll hl
      have ho : ref2_Order n (keyOf r r.Rows[i]) (keyOf r l) = some (rcmp (keyOf r r.Rows[i]) (keyOf r l)) := order_ok n _ _ (by omega) (by omega) (by omega) (by omega) (by omega)
      have hstep : ∀ K : Int → Option (Rel × Int), (bif (decide ((List.length r.Key : Int) > 0)) then (Option.bind (ref2_keyOf n r r.Rows[i]) fun r7 => (Option.bind (ref2_keyOf n r l) fun r8 => (Option.bind (ref2_Order n r7 r8) fun r9 => (bif (decide (r9 = 0)) then (K 16) else (K s))))) else (K s)) = bif decide (rcmp (keyOf r r.Rows[i]) (keyOf r l) = 0) then K 16 else K s := by
        intro K
        rw [decide_eq_true hpos, cond_true, keyOf_ok hr (by omega) (by omega) hk (hrow _ hm), bind_some2, keyOf_ok hr (by omega) (by omega) hk hl, bind_some2, ho, bind_some2]
      by_cases hz : rcmp (keyOf r r.Rows[i]) (keyOf r l) = 0
      · refine ⟨16, ?_, fun K => by rw [hstep, decide_eq_true hz, cond_true]⟩
        rw [if_pos ⟨h0, by rw [any_take r.Rows _ hi]; simp [hz]⟩]
      · refine ⟨s, ?_, fun K => by rw [hstep, decide_eq_false hz, cond_false]⟩
        rw [hI, any_take r.Rows _ hi, decide_eq_false hz, Bool.or_false]
  · intro s hI
    rw [List.take_length] at hI
    have hs0 : ¬ s = 0 := by
      rw [hI]
      split <;> simp
    rw [decide_eq_false hs0, Bool.not_false, cond_true, hI]
    rfl
open Classical in
theorem inserted_ok {B n : Nat} {r : Rel} (hr : RB B r) (hB : Big (B + 1) n) (hB' : Big B n) (hB5 : B + 1 < 500000000) (hc : Chk n r) (h0 : ref2_RelErr n r = some 0) (l : List ApiValue) (hl : lw l ≤ B) :
    ∀ e, ref2_RowErr n r l = some e → rel_row n r l = some e → (e ≠ 0 → ref2_Inserted n r l = some (Rel.mk [] [] [] [], e)) ∧ (e = 0 → l.length = r.Cols.length → ref2_Inserted n r l = some (if rthr r.Rows l then (Rel.mk [] [] [] [], 5) else if r.Key ≠ [] ∧ keyHit r l = true then (Rel.mk [] [] [] [], 16) else if r.Rows.length = 300 then (Rel.mk [] [] [] [], 6) else (put1 r l, 0))) := by
  have hb1 := hB.b
  have hb2 := hB.n1
  have hb3 := hB.m1
  have h1 := hr.rl
  have h3 := hc.len
  have h4 := hr.cl
  have h5 := hr.kl
  have hlx := lw_len l
  have hple := rpos_le r.Rows l
  intro e e1 e2
  refine ⟨fun he => ?_, fun he hlen => ?_⟩
  · rw [ref2_Inserted_eq, h0, bind_some2, decide_eq_true rfl, cond_true, e1, bind_some2, decide_eq_false he, Bool.not_false, cond_true]
  · subst he
    rw [ref2_Inserted_eq, h0, bind_some2, decide_eq_true rfl, cond_true, e1, bind_some2, decide_eq_true rfl, Bool.not_true, cond_false]
    have f := ref2_Inserted_l0_fold n l r.Rows r (Rel.mk [] [] [] []) (by omega) n 0 (Nat.zero_le _) (by omega)
    rw [show ((0 : Nat) : Int) = 0 from rfl] at f
    rw [f]
    refine foldK_case r.Rows (S := Unit) (fun i _ => ∀ j (hj : j < r.Rows.length), j < i → rcmp r.Rows[j] l ≠ 0) (fun o => o = _) ?_ ?_ _ 0 rfl (Nat.zero_le _) _ (fun j _ h => by omega)
    · intro i hi s hI
      have hx := hr.rw _ (List.getElem_mem hi)
      have hlx2 := lw_len r.Rows[i]
      have ho : ref2_Order n r.Rows[i] l = some (rcmp r.Rows[i] l) := order_ok n _ _ (by omega) (by omega) (by omega) (by omega) (by omega)
      by_cases h : rcmp r.Rows[i] l = 0
      · have hth : rthr r.Rows l = true := List.any_eq_true.2 ⟨_, List.getElem_mem hi, decide_eq_true h⟩
        exact .inl ⟨_, by rw [hth, if_pos rfl], fun K => by rw [ho, bind_some2, decide_eq_true h, cond_true]⟩
      · refine .inr ⟨(), fun j hj hji => ?_, fun K => by rw [ho, bind_some2, decide_eq_false h, cond_false]⟩
        rcases Nat.lt_or_ge j i with h1 | h1
        · exact hI j hj h1
        · have : j = i := by omega
          subst this
          exact h
    · intro _ hI
      have hth : rthr r.Rows l = false := by
        unfold rthr
        rw [List.any_eq_false]
        intro x hx
        obtain ⟨j, hj, rfl⟩ := List.getElem_of_mem hx
        simp only [decide_eq_true_eq]
        exact hI j hj hj
      have hr2 : RB (B + 1) (Rel.mk r.Name r.Cols r.Key (r.Rows ++ [l])) := by
        refine ⟨Nat.le_succ_of_le hr.nm, Nat.le_succ_of_le hr.cl, fun c h => Nat.le_succ_of_le (hr.cn c h), Nat.le_succ_of_le hr.kl, ?_, fun x hx => ?_⟩
        · show (r.Rows ++ [l]).length ≤ B + 1
          simp; omega
        · have hx : x ∈ r.Rows ++ [l] := hx
          rcases List.mem_append.1 hx with hx | hx
          · have := hr.rw x hx; omega
          · rw [List.mem_singleton.1 hx]; omega
      have hr3 : RB (B + 1) (put1 r l) := by
        refine ⟨Nat.le_succ_of_le hr.nm, Nat.le_succ_of_le hr.cl, fun c h => Nat.le_succ_of_le (hr.cn c h), Nat.le_succ_of_le hr.kl, ?_, fun x hx => ?_⟩
        · show (r.Rows.take (rpos r.Rows l) ++ [l] ++ r.Rows.drop (rpos r.Rows l)).length ≤ B + 1
          simp; omega
        · have hx : x ∈ r.Rows.take (rpos r.Rows l) ++ [l] ++ r.Rows.drop (rpos r.Rows l) := hx
          rcases List.mem_append.1 hx with hx | hx
          · rcases List.mem_append.1 hx with hx | hx
            · have := hr.rw x (List.mem_of_mem_take hx); omega
            · rw [List.mem_singleton.1 hx]; omega
          · have := hr.rw x (List.mem_of_mem_drop hx); omega
      have htd : tidy (r.Rows ++ [l]) = r.Rows.take (rpos r.Rows l) ++ [l] ++ r.Rows.drop (rpos r.Rows l) := by
        rw [tidy_snoc, tidy_ss hc.ss, insR_new' _ hc.ss hth]
      have hti : ref2_Tidy n (Rel.mk r.Name r.Cols r.Key (r.Rows ++ [l])) = some (put1 r l) := by
        rw [tidy_ok (n := n) hB5 (by omega) hr2]
        show some (Rel.mk r.Name r.Cols r.Key (tidy (r.Rows ++ [l]))) = _
        rw [htd]
        rfl
      have hmem : ∀ x ∈ (put1 r l).Rows, x = l ∨ x ∈ r.Rows := by
        intro x hx
        have hx : x ∈ r.Rows.take (rpos r.Rows l) ++ [l] ++ r.Rows.drop (rpos r.Rows l) := hx
        rcases List.mem_append.1 hx with hx | hx
        · rcases List.mem_append.1 hx with hx | hx
          · exact .inr (List.mem_of_mem_take hx)
          · exact .inl (List.mem_singleton.1 hx)
        · exact .inr (List.mem_of_mem_drop hx)
      have hlen3 : (put1 r l).Rows.length = r.Rows.length + 1 := by
        show (r.Rows.take (rpos r.Rows l) ++ [l] ++ r.Rows.drop (rpos r.Rows l)).length = _
        simp; omega
      have hss3 : SS (put1 r l).Rows := by
        show SS (r.Rows.take (rpos r.Rows l) ++ [l] ++ r.Rows.drop (rpos r.Rows l))
        rw [← insR_new' _ hc.ss hth]
        exact insR_ss l _ hc.ss
      have hrow3 : ∀ x ∈ (put1 r l).Rows, rel_row n (put1 r l) x = some 0 ∧ x.length = (put1 r l).Cols.length := by
        intro x hx
        have hw := hr3.rw x hx
        have hxl := lw_len x
        have hrs : rel_row n (put1 r l) x = rel_row n r x := row_same r _ x (by omega) (by omega)
        rcases hmem x hx with rfl | hx
        · exact ⟨by rw [hrs]; exact e2, hlen⟩
        · exact ⟨by rw [hrs]; exact (hc.rows x hx).1, (hc.rows x hx).2⟩
      have hhead : rel_head n (put1 r l) = some 0 := (head_same r _ (by omega) (by omega) (by omega) (by omega)).trans hc.head
      have hchk := check_good hr3 hB hhead hc.keys hrow3 hss3
      rw [(check_ok hr3 hB).1, hlen3] at hchk
      have hpw : r.Key ≠ [] → (PW ((put1 r l).Rows.map (keyOf (put1 r l))) ↔ keyHit r l = false) := by
        intro hk
        have hpw0 := hc.pw.resolve_left hk
        have e5 : (put1 r l).Rows.map (keyOf (put1 r l)) = (r.Rows.take (rpos r.Rows l)).map (keyOf r) ++ [keyOf r l] ++ (r.Rows.drop (rpos r.Rows l)).map (keyOf r) := by
          show (r.Rows.take (rpos r.Rows l) ++ [l] ++ r.Rows.drop (rpos r.Rows l)).map (keyOf r) = _
          simp
        have e6 : r.Rows.map (keyOf r) = (r.Rows.take (rpos r.Rows l)).map (keyOf r) ++ (r.Rows.drop (rpos r.Rows l)).map (keyOf r) := by
          rw [← List.map_append, List.take_append_drop]
        rw [e6] at hpw0
        rw [e5, PW_mid hpw0, ← e6]
        unfold keyHit
        rw [List.any_eq_false]
        constructor
        · intro h z hz
          simp only [decide_eq_true_eq]
          exact h _ (List.mem_map_of_mem hz)
        · intro h z hz
          obtain ⟨y, hy, rfl⟩ := List.mem_map.1 hz
          have := h y hy
          simpa only [decide_eq_true_eq] using this
      rw [cloneR_ok n _ (by omega), bind_some2, appOK r.Rows l (by omega), cond_true, decide_eq_true rfl, Bool.and_self, Bool.and_self, cond_true, hti, bind_some2, hchk, bind_some2, hth]
      have c1 : (if false = true then ((Rel.mk [] [] [] [], 5) : Rel × Int) else if r.Key ≠ [] ∧ keyHit r l = true then (Rel.mk [] [] [] [], 16) else if r.Rows.length = 300 then (Rel.mk [] [] [] [], 6) else (put1 r l, 0)) = if r.Key ≠ [] ∧ keyHit r l = true then (Rel.mk [] [] [] [], 16) else if r.Rows.length = 300 then (Rel.mk [] [] [] [], 6) else (put1 r l, 0) := rfl
      rw [c1]
      by_cases hf : r.Rows.length = 300
      · rw [if_pos (by omega : 300 < r.Rows.length + 1), decide_eq_true rfl, cond_true, full_loop hr hB' hc.keys (fun z hz => (hc.rows z hz).2) hl hlen, if_pos hf]
        by_cases hk : r.Key ≠ [] ∧ keyHit r l = true
        · rw [if_pos hk, if_pos hk]
        · rw [if_neg hk, if_neg hk]
      · rw [if_neg (by omega : ¬ 300 < r.Rows.length + 1), if_neg hf]
        by_cases hk : r.Key = []
        · have hk1 : (put1 r l).Key = [] := hk
          rw [if_pos hk1, decide_eq_false (by decide), cond_false, decide_eq_true rfl, Bool.not_true, cond_false, if_neg (by simp [hk])]
        · have hk' : ¬ (put1 r l).Key = [] := hk
          rw [if_neg hk']
          cases hh : keyHit r l with
          | true =>
            have : ¬ PW ((put1 r l).Rows.map (keyOf (put1 r l))) := fun h => by have := (hpw hk).1 h; rw [hh] at this; cases this
            rw [if_neg this, decide_eq_false (by decide), cond_false, decide_eq_false (by decide), Bool.not_false, cond_true, if_pos ⟨hk, rfl⟩]
          | false =>
            rw [if_pos ((hpw hk).2 hh), decide_eq_false (by decide), cond_false, decide_eq_true rfl, Bool.not_true, cond_false, if_neg (by simp)]

/-! ### Two loops over one list, told together -/
theorem foldK_two {A S S' R R' : Type} (v : List A) {step : Nat → A → S → (S → Option R) → Option R} {fin : S → Option R} {step' : Nat → A → S' → (S' → Option R') → Option R'} {fin' : S' → Option R'} (I : Nat → S → S' → Prop) (Q : Option R → Option R' → Prop)
    (h : ∀ i (hi : i < v.length) s s', I i s s' → (∃ o o', Q o o' ∧ (∀ K, step i v[i] s K = o) ∧ ∀ K, step' i v[i] s' K = o') ∨ ∃ t t', I (i + 1) t t' ∧ (∀ K, step i v[i] s K = K t) ∧ ∀ K, step' i v[i] s' K = K t')
    (hf : ∀ s s', I v.length s s' → Q (fin s) (fin' s')) : ∀ (c i : Nat), c = v.length - i → i ≤ v.length → ∀ s s', I i s s' → Q (foldK step fin (v.drop i) i s) (foldK step' fin' (v.drop i) i s') := by
  intro c
  induction c with
  | zero =>
    intro i hc hi s s' hI
    rw [List.drop_eq_nil_of_le (by omega)]
    exact hf s s' (by rwa [show v.length = i by omega])
  | succ c ih =>
    intro i hc hi s s' hI
    rw [List.drop_eq_getElem_cons (by omega : i < v.length), foldK_cons, foldK_cons]
    rcases h i (by omega) s s' hI with ⟨o, o', h1, h2, h3⟩ | ⟨t, t', h1, h2, h3⟩
    · rw [h2, h3]; exact h1
    · rw [h2, h3]; exact ih (i + 1) (by omega) (by omega) t t' h1

/-! ### Numbers' texts, read -/
theorem parse_eq (s : List UInt8) : Go.Lib.parseIntB 64 s = Go.Lib.atoiAll s := by
  have h1 : ∀ (l : List UInt8) (acc : Nat), Go.Lib.parseUintM (2 ^ 64 - 1) acc l = Go.Lib.parseUint10 acc l := by
    intro l
    induction l with
    | nil => intro acc; rfl
    | cons c r ih =>
      intro acc
      simp only [Go.Lib.parseUintM, Go.Lib.parseUint10]
      by_cases h : 48 ≤ c.toNat ∧ c.toNat ≤ 57
      · rw [if_pos h, if_pos h]
        by_cases h2 : 1844674407370955162 ≤ acc
        · rw [if_pos h2, if_pos h2]
        · rw [if_neg h2, if_neg h2]
          by_cases h3 : 18446744073709551616 ≤ acc * 10 + (c.toNat - 48)
          · rw [if_pos (by omega), if_pos h3]
          · rw [if_neg (by omega), if_neg h3]
            exact ih _
      · rw [if_neg h, if_neg h]
  have h2 : ∀ l : List UInt8, Go.Lib.parseUintB 64 l = Go.Lib.parseMag l := fun l => by
    unfold Go.Lib.parseUintB Go.Lib.parseMag
    rw [h1]
  cases s with
  | nil => rfl
  | cons c r =>
    simp only [Go.Lib.parseIntB, Go.Lib.atoiAll, h2]
    rfl
def dval (l : List UInt8) (acc : Nat) : Nat := l.foldl (fun a c => a * 10 + (c.toNat - 48)) acc
abbrev Dig (l : List UInt8) : Prop := ∀ c ∈ l, 48 ≤ c.toNat ∧ c.toNat ≤ 57
theorem pu_val : ∀ (l : List UInt8) (acc u : Nat), Go.Lib.parseUint10 acc l = .ok u → Dig l ∧ u = dval l acc
  | [], acc, u, h => by
    have h : Go.Lib.NumEnd.ok acc = .ok u := h
    injection h with h
    exact ⟨fun c hc => absurd hc List.not_mem_nil, h.symm⟩
  | c :: r, acc, u, h => by
    simp only [Go.Lib.parseUint10] at h
    split at h
    · rename_i hc
      split at h
      · cases h
      · split at h
        · cases h
        · obtain ⟨h1, h2⟩ := pu_val r _ u h
          exact ⟨fun x hx => by rcases List.mem_cons.1 hx with rfl | hx; exact hc; exact h1 x hx, h2⟩
    · cases h
theorem mag_val {l : List UInt8} {u : Nat} (h : Go.Lib.parseMag l = .ok u) : l ≠ [] ∧ Dig l ∧ u = dval l 0 := by
  unfold Go.Lib.parseMag at h
  split at h
  · cases h
  · rename_i h0
    exact ⟨h0, pu_val l 0 u h⟩
theorem dval_snoc (m : List UInt8) (c : UInt8) (acc : Nat) : dval (m ++ [c]) acc = dval m acc * 10 + (c.toNat - 48) := by simp [dval]
theorem u8_dig {c : UInt8} (h : 48 ≤ c.toNat ∧ c.toNat ≤ 57) : UInt8.ofNat (48 + (c.toNat - 48)) = c := by
  rw [show 48 + (c.toNat - 48) = c.toNat by omega]
  exact UInt8.ofNat_toNat
theorem dval_pos : ∀ (l : List UInt8), Dig l → l.getD 0 0 ≠ 48 → l ≠ [] → ∀ acc, 1 ≤ dval l acc
  | [], _, _, h, _ => absurd rfl h
  | c :: r, hd, h, _, acc => by
    have key : ∀ (r : List UInt8) (a : Nat), a ≤ dval r a := by
      intro r
      induction r with
      | nil => intro a; exact Nat.le_refl _
      | cons x r ih => intro a; exact Nat.le_trans (by omega) (ih (a * 10 + (x.toNat - 48)))
    have hc := hd c (by simp)
    have h : c ≠ 48 := h
    have : c.toNat ≠ 48 := fun e => h (UInt8.toNat_inj.1 e)
    exact Nat.le_trans (by omega) (key r (acc * 10 + (c.toNat - 48)))
/-- Digits without zeros ahead are those of their number. -/
theorem dec_canon : ∀ (k : Nat) (l : List UInt8), l.length = k → Dig l → l ≠ [] → (l.getD 0 0 ≠ 48 ∨ l = [48]) → Go.Lib.decDigits (dval l 0) = l
  | 0, l, hk, _, h0, _ => absurd (List.length_eq_zero_iff.1 hk) h0
  | k + 1, l, hk, hd, h0, hc => by
    obtain ⟨m, c, rfl⟩ : ∃ m c, l = m ++ [c] := ⟨l.dropLast, l.getLast h0, (List.dropLast_concat_getLast h0).symm⟩
    have hcd := hd c (by simp)
    rw [dval_snoc]
    cases m with
    | nil =>
      show Go.Lib.decDigits (0 * 10 + (c.toNat - 48)) = [c]
      rw [Nat.zero_mul, Nat.zero_add, Go.Lib.decDigits_one (by omega), u8_dig hcd]
    | cons x m =>
      have hx : x ≠ 48 := by
        rcases hc with h | h
        · exact h
        · have := congrArg List.length h
          simp at this
      have hdm : Dig (x :: m) := fun y hy => hd y (List.mem_append_left _ hy)
      have ih := dec_canon k (x :: m) (by simpa using hk) hdm (by simp) (.inl hx)
      have hp := dval_pos (x :: m) hdm hx (by simp) 0
      rw [Go.Lib.decDigits, dif_neg (by omega), show (dval (x :: m) 0 * 10 + (c.toNat - 48)) / 10 = dval (x :: m) 0 by omega, show (dval (x :: m) 0 * 10 + (c.toNat - 48)) % 10 = c.toNat - 48 by omega, ih, u8_dig hcd]
theorem dec_head1 : ∀ (u : Nat), (Go.Lib.decDigits u).getD 0 0 ≠ 43 ∧ (Go.Lib.decDigits u).getD 0 0 ≠ 45 ∧ (1 ≤ u → (Go.Lib.decDigits u).getD 0 0 ≠ 48) ∧ Go.Lib.decDigits u ≠ [] := by
  intro u
  induction u using Nat.strongRecOn with
  | ind u ih =>
    by_cases h : u < 10
    · rw [Go.Lib.decDigits_one h]
      have : u = 0 ∨ u = 1 ∨ u = 2 ∨ u = 3 ∨ u = 4 ∨ u = 5 ∨ u = 6 ∨ u = 7 ∨ u = 8 ∨ u = 9 := by omega
      rcases this with rfl | rfl | rfl | rfl | rfl | rfl | rfl | rfl | rfl | rfl <;> decide
    · rw [Go.Lib.decDigits, dif_neg h]
      obtain ⟨h1, h2, h3, h4⟩ := ih (u / 10) (by omega)
      have h3 := h3 (by omega)
      cases hd : Go.Lib.decDigits (u / 10) with
      | nil => exact absurd hd h4
      | cons a r =>
        rw [hd] at h1 h2 h3
        exact ⟨h1, h2, fun _ => h3, by simp⟩
theorem dec_zero : Go.Lib.decDigits 0 = [48] := Go.Lib.decDigits_one (by decide)
/-- Digits are those of their number, or have a zero ahead. -/
theorem dec_iff {l : List UInt8} (hd : Dig l) (h0 : l ≠ []) : (Go.Lib.decDigits (dval l 0) = l) ↔ (l.getD 0 0 ≠ 48 ∨ l = [48]) := by
  refine ⟨fun h => ?_, fun h => dec_canon l.length l rfl hd h0 h⟩
  by_cases h1 : l.getD 0 0 = 48
  · right
    rcases Nat.eq_zero_or_pos (dval l 0) with hz | hz
    · rw [hz, dec_zero] at h; exact h.symm
    · rw [← h] at h1
      exact absurd h1 ((dec_head1 _).2.2.1 hz)
  · exact .inl h1
/-- A number's own text: no zero too many ahead, no plus sign. -/
theorem own_text {s : List UInt8} {v : Int} (h : Go.Lib.atoiAll s = .ok v) : (Go.Lib.itoa v = s) ↔ (((Go.Lib.trimPrefix s [45]).getD 0 0 ≠ 48 ∨ s = [48]) ∧ (Go.Lib.trimPrefix s [45]).getD 0 0 ≠ 43) := by
  cases s with
  | nil => cases h
  | cons c r =>
    by_cases h45 : c = 45
    · subst h45
      rw [Go.Lib.atoiAll_minus] at h
      have ht : Go.Lib.trimPrefix (45 :: r) [45] = r := by simp [Go.Lib.trimPrefix, Go.Lib.hasPrefix]
      rw [ht]
      cases hm : Go.Lib.parseMag r with
      | range => rw [hm] at h; cases h
      | ok u =>
        rw [hm] at h
        obtain ⟨h0, hd, rfl⟩ := mag_val hm
        simp only [Go.Lib.signed] at h
        split at h
        · cases h
        · injection h with h
          subst h
          have h43 : r.getD 0 0 ≠ 43 := by
            cases r with
            | nil => exact absurd rfl h0
            | cons x r =>
              intro e
              have e : x = 43 := e
              have := hd x (by simp)
              rw [e] at this
              exact absurd this (by decide)
          rcases Nat.eq_zero_or_pos (dval r 0) with hz | hz
          · rw [hz]
            refine ⟨fun e => ?_, fun e => ?_⟩
            · have e : Go.Lib.decDigits 0 = 45 :: r := e
              rw [dec_zero] at e
              cases e
            · rcases e.1 with e1 | e1
              · exact absurd (dval_pos r hd e1 h0 0) (by omega)
              · cases e1
          · have hi : Go.Lib.itoa (-((dval r 0 : Nat) : Int)) = 45 :: Go.Lib.decDigits (dval r 0) := by
              unfold Go.Lib.itoa
              rw [if_pos (by omega)]
              simp
            rw [hi, List.cons.injEq, dec_iff hd h0]
            simp only [true_and]
            refine ⟨fun e => ⟨.inl ?_, h43⟩, fun e => .inl (e.1.resolve_right (by intro h; cases h))⟩
            rcases e with e | e
            · exact e
            · rw [e] at hz
              exact absurd hz (by decide)
      | _ => rw [hm] at h; cases h
    · have ht : Go.Lib.trimPrefix (c :: r) [45] = c :: r := by
        have : ¬ (45 : UInt8) = c := fun e => h45 e.symm
        simp [Go.Lib.trimPrefix, Go.Lib.hasPrefix, this]
      have n45 : c.toNat ≠ 45 := fun e => h45 (UInt8.toNat_inj.1 e)
      rw [ht]
      by_cases h43 : c = 43
      · subst h43
        refine ⟨fun e => ?_, fun e => absurd rfl e.2⟩
        exfalso
        have hh : (Go.Lib.itoa v).getD 0 0 = 43 := by rw [e]; rfl
        unfold Go.Lib.itoa at hh
        split at hh
        · exact absurd hh (by show (45 : UInt8) ≠ 43; decide)
        · exact (dec_head1 _).1 hh
      · have n43 : c.toNat ≠ 43 := fun e => h43 (UInt8.toNat_inj.1 e)
        rw [Go.Lib.atoiAll_plain c r n43 n45] at h
        cases hm : Go.Lib.parseMag (c :: r) with
        | range => rw [hm] at h; cases h
        | ok u =>
          rw [hm] at h
          obtain ⟨h0, hd, rfl⟩ := mag_val hm
          simp only [Go.Lib.signless] at h
          split at h
          · cases h
          · injection h with h
            subst h
            have hi : Go.Lib.itoa ((dval (c :: r) 0 : Nat) : Int) = Go.Lib.decDigits (dval (c :: r) 0) := by
              unfold Go.Lib.itoa
              rw [if_neg (by omega)]
              simp
            rw [hi, dec_iff hd h0]
            exact ⟨fun e => ⟨e, h43⟩, fun e => e.1⟩
        | _ => rw [hm] at h; cases h

/-! ### Texts as values -/
theorem scl_check (n : Nat) (hn : 0 < n) (k N : Int) (S : List UInt8) : value_Check n (ApiValue.mk k N S []) = Option.bind (value_node n n (ApiValue.mk k N S []) true) fun r => some r := by
  obtain ⟨m, rfl⟩ : ∃ m, n = m + 1 := ⟨n - 1, by omega⟩
  rw [value_Check_eq, value_Size_eq, value_Deep_eq]
  show (Option.bind (value_Size_l0 (m + 1) (m + 1) (m + 1) 1 [] 0 0) fun r1 => (bif (decide (r1 > 2000)) then (some 2) else (Option.bind (value_Deep_l0 (m + 1) (m + 1) (m + 1) 0 [] 0 0) fun r2 => (bif (decide (r2 > 40)) then (some 2) else (Option.bind (value_node (m + 1) (m + 1) (ApiValue.mk k N S []) true) fun r3 => (some r3)))))) = _
  rw [value_Size_l0_eq, value_Deep_l0_eq]
  rfl
theorem text_check (n : Nat) (hn : 0 < n) (S : List UInt8) : value_Check n (ApiValue.mk 5 0 S []) = some (bif decide ((S.length : Int) > 4000) then 2 else 0) := by
  rw [scl_check n hn]
  obtain ⟨m, rfl⟩ : ∃ m, n = m + 1 := ⟨n - 1, by omega⟩
  rw [value_node_eq]
  simp only [value_unused_eq, value_number_eq, value_fields_eq, value_Scalar_eq]
  show (Option.bind (Option.bind (bif decide ((S.length : Int) > 4000) then some (2 : Int) else some 0) fun r => (bif !decide (r = 0) then some r else value_node_l1 (m + 1) (m + 1) (m + 1) [] 0 0)) fun r => some r) = _
  cases decide ((S.length : Int) > 4000) with
  | true => rfl
  | false => rfl
theorem bool_check (n : Nat) (hn : 0 < n) : value_Check n (ApiValue.mk 1 0 [] []) = some 0 ∧ value_Check n (ApiValue.mk 1 1 [] []) = some 0 := by
  rw [scl_check n hn, scl_check n hn]
  obtain ⟨m, rfl⟩ : ∃ m, n = m + 1 := ⟨n - 1, by omega⟩
  rw [value_node_eq, value_node_eq]
  simp only [value_unused_eq, value_number_eq, value_fields_eq, value_Scalar_eq]
  exact ⟨rfl, rfl⟩
theorem sidx_ok (n : Nat) (v : List (List UInt8)) (s : List UInt8) (hl : v.length < 9223372036854775807) (hn : v.length < n) : slices_Index_string n v s = some (ixI (fun a => s == a) v) := by
  have h := slices_Index_string_l0_fold n v s hl n 0 (Nat.zero_le _) (by omega)
  rw [show ((0 : Nat) : Int) = 0 from rfl] at h
  rw [slices_Index_string_eq, h, List.drop_zero, foldK_ix fun a : List UInt8 => s == a]
theorem trim_ne {s : List UInt8} {v : Int} (h : Go.Lib.atoiAll s = .ok v) : 0 < (Go.Lib.trimPrefix s [45]).length := by
  cases s with
  | nil => cases h
  | cons c r =>
    by_cases h45 : c = 45
    · subst h45
      rw [Go.Lib.atoiAll_minus] at h
      have ht : Go.Lib.trimPrefix (45 :: r) [45] = r := by simp [Go.Lib.trimPrefix, Go.Lib.hasPrefix]
      rw [ht]
      cases r with
      | nil => cases h
      | cons x r => simp
    · have ht : Go.Lib.trimPrefix (c :: r) [45] = c :: r := by
        have : ¬ (45 : UInt8) = c := fun e => h45 e.symm
        simp [Go.Lib.trimPrefix, Go.Lib.hasPrefix, this]
      rw [ht]
      simp
theorem u8i (c : UInt8) (k : Nat) (hk : k < 256) : decide (((c.toNat : Nat) : Int) = (k : Int)) = decide (c = UInt8.ofNat k) := by
  congr 1
  simp only [eq_iff_iff]
  constructor
  · intro h
    have h : c.toNat = k := by omega
    rw [← h]; exact UInt8.ofNat_toNat.symm
  · intro h
    rw [h, UInt8.toNat_ofNat', Nat.mod_eq_of_lt hk]
theorem num_core {R : Type} (s : List UInt8) (hs : s.length ≤ 281474976710656) (bad : Option R) (C : Int → Option R) :
    (Option.bind (atoiO s) fun r3 => (bif (!r3.2) then bad else (Option.bind (itoaO r3.1) fun r4 => (bif (!(r4 == s)) then bad else C r3.1)))) =
    (Option.bind (parseO s 10 64) fun r1 => (bif (!r1.2) then bad else (bif (decide (0 ≤ (0 : Int)) && decide ((0 : Int) < List.length (Go.Lib.trimPrefix s ([45] : List UInt8)))) then (bif (decide (((UInt8.toNat (List.getD (Go.Lib.trimPrefix s ([45] : List UInt8)) (Int.toNat (0 : Int)) 0) : Nat) : Int) = 48)) then (bif (!(s == [48])) then bad else (bif (decide (0 ≤ (0 : Int)) && decide ((0 : Int) < List.length (Go.Lib.trimPrefix s ([45] : List UInt8)))) then (bif (decide (((UInt8.toNat (List.getD (Go.Lib.trimPrefix s ([45] : List UInt8)) (Int.toNat (0 : Int)) 0) : Nat) : Int) = 43)) then bad else C r1.1) else none)) else (bif (decide (0 ≤ (0 : Int)) && decide ((0 : Int) < List.length (Go.Lib.trimPrefix s ([45] : List UInt8)))) then (bif (decide (((UInt8.toNat (List.getD (Go.Lib.trimPrefix s ([45] : List UInt8)) (Int.toNat (0 : Int)) 0) : Nat) : Int) = 43)) then bad else C r1.1) else none)) else none))) := by
  have e1 : atoiO s = some (numR Go.Lib.atoiSat s (Go.Lib.atoiAll s)) := by
    unfold atoiO numO
    rw [decide_eq_true hs]; rfl
  have e2 : parseO s 10 64 = some (numR (Go.Lib.intSat 64) s (Go.Lib.atoiAll s)) := by
    unfold parseO numO
    rw [decide_eq_true hs, ← parse_eq]; rfl
  rw [e1, e2, bind_some2, bind_some2]
  cases ha : Go.Lib.atoiAll s with
  | range => rfl
  | ok v =>
    have hb := Go.Lib.atoiAll_bounds ha
    have hi : itoaO v = some (Go.Lib.itoa v) := by
      unfold itoaO i64R
      rw [decide_eq_true hb.1, decide_eq_true hb.2]; rfl
    have ht := trim_ne ha
    have hw := own_text ha
    show (Option.bind (itoaO v) fun r4 => (bif (!(r4 == s)) then bad else C v)) = _
    rw [hi, bind_some2]
    show _ = (bif (decide (0 ≤ (0 : Int)) && decide ((0 : Int) < List.length (Go.Lib.trimPrefix s ([45] : List UInt8)))) then _ else none)
    have h0 : (decide (0 ≤ (0 : Int)) && decide ((0 : Int) < ((List.length (Go.Lib.trimPrefix s ([45] : List UInt8)) : Nat) : Int))) = true := by
      rw [decide_eq_true (by omega), decide_eq_true (by omega)]; rfl
    rw [h0, cond_true, cond_true]
    have c48 := u8i (List.getD (Go.Lib.trimPrefix s ([45] : List UInt8)) (Int.toNat (0 : Int)) 0) 48 (by decide)
    have c43 := u8i (List.getD (Go.Lib.trimPrefix s ([45] : List UInt8)) (Int.toNat (0 : Int)) 0) 43 (by decide)
    rw [show ((48 : Nat) : Int) = 48 from rfl] at c48
    rw [show ((43 : Nat) : Int) = 43 from rfl] at c43
    rw [c48, c43]
    generalize hd : List.getD (Go.Lib.trimPrefix s ([45] : List UInt8)) (Int.toNat (0 : Int)) 0 = d
    have hd' : (Go.Lib.trimPrefix s ([45] : List UInt8)).getD 0 0 = d := hd
    rw [hd'] at hw
    have hbeq : (Go.Lib.itoa v == s) = decide ((d ≠ 48 ∨ s = [48]) ∧ d ≠ 43) := by
      rw [← decide_eq_decide.2 hw]
      by_cases h : Go.Lib.itoa v = s
      · rw [decide_eq_true h]; simpa using h
      · rw [decide_eq_false h]; simpa using h
    rw [hbeq]
    by_cases h48 : d = 48
    · have h43 : ¬ d = 43 := by rw [h48]; decide
      rw [decide_eq_true (show d = UInt8.ofNat 48 from h48), decide_eq_false (show ¬ d = UInt8.ofNat 43 from h43), cond_true]
      by_cases hs48 : s = [48]
      · rw [decide_eq_true ⟨.inr hs48, h43⟩, hs48]; rfl
      · rw [decide_eq_false (fun h => h.1.elim (fun h => h h48) hs48), show (s == [48]) = false by simpa using hs48]; rfl
    · rw [decide_eq_false (show ¬ d = UInt8.ofNat 48 from h48), cond_false]
      by_cases h43 : d = 43
      · rw [decide_eq_false (fun h => h.2 h43), decide_eq_true (show d = UInt8.ofNat 43 from h43)]; rfl
      · rw [decide_eq_true ⟨.inl h48, h43⟩, decide_eq_false (show ¬ d = UInt8.ofNat 43 from h43)]; rfl
  | _ => rfl
theorem scalar_ok (n : Nat) (k : Int) (s : List UInt8) (hn : 10 < n) (hs : s.length ≤ 281474976710656) : ∃ v e, load_Scalar n k s = some (v, e) ∧ ref2_Told n k s = some (v, e) ∧ vw v ≤ s.length + 1 := by
  have num : ∀ k : Int, ∃ v e, (Option.bind (parseO s 10 64) fun r1 => (bif (!r1.2) then some ((ApiValue.mk 0 0 [] [], 14) : ApiValue × Int) else (bif (decide (0 ≤ (0 : Int)) && decide ((0 : Int) < List.length (Go.Lib.trimPrefix s ([45] : List UInt8)))) then (bif (decide (((UInt8.toNat (List.getD (Go.Lib.trimPrefix s ([45] : List UInt8)) (Int.toNat (0 : Int)) 0) : Nat) : Int) = 48)) then (bif (!(s == [48])) then some (ApiValue.mk 0 0 [] [], 14) else (bif (decide (0 ≤ (0 : Int)) && decide ((0 : Int) < List.length (Go.Lib.trimPrefix s ([45] : List UInt8)))) then (bif (decide (((UInt8.toNat (List.getD (Go.Lib.trimPrefix s ([45] : List UInt8)) (Int.toNat (0 : Int)) 0) : Nat) : Int) = 43)) then some (ApiValue.mk 0 0 [] [], 14) else (Option.bind (value_Check n (ApiValue.mk k r1.1 [] [])) fun r2 => (bif (!decide (r2 = 0)) then (some ((ApiValue.mk 0 0 [] []), r2)) else (some ((ApiValue.mk k r1.1 [] []), 0))))) else none)) else (bif (decide (0 ≤ (0 : Int)) && decide ((0 : Int) < List.length (Go.Lib.trimPrefix s ([45] : List UInt8)))) then (bif (decide (((UInt8.toNat (List.getD (Go.Lib.trimPrefix s ([45] : List UInt8)) (Int.toNat (0 : Int)) 0) : Nat) : Int) = 43)) then some (ApiValue.mk 0 0 [] [], 14) else (Option.bind (value_Check n (ApiValue.mk k r1.1 [] [])) fun r2 => (bif (!decide (r2 = 0)) then (some ((ApiValue.mk 0 0 [] []), r2)) else (some ((ApiValue.mk k r1.1 [] []), 0))))) else none)) else none))) = some (v, e) ∧
      (Option.bind (atoiO s) fun r3 => (bif (!r3.2) then (some ((ApiValue.mk 0 0 [] [], 14) : ApiValue × Int)) else (Option.bind (itoaO r3.1) fun r4 => (bif (!(r4 == s)) then (some (ApiValue.mk 0 0 [] [], 14)) else (Option.bind (value_Check n (ApiValue.mk k r3.1 [] [])) fun r5 => (bif (!decide (r5 = 0)) then (some (ApiValue.mk 0 0 [] [], r5)) else (some (ApiValue.mk k r3.1 [] [], 0)))))))) = some (v, e) ∧ vw v ≤ s.length + 1 := by
    intro k
    have h := num_core s hs (some ((ApiValue.mk 0 0 [] [], 14) : ApiValue × Int)) fun z => (Option.bind (value_Check n (ApiValue.mk k z [] [])) fun r5 => (bif (!decide (r5 = 0)) then (some (ApiValue.mk 0 0 [] [], r5)) else (some (ApiValue.mk k z [] [], 0))))
    rw [← h]
    have w0 : ∀ k z : Int, vw (ApiValue.mk k z [] []) ≤ s.length + 1 := fun k z => by simp [vw, fw]
    have e1 : atoiO s = some (numR Go.Lib.atoiSat s (Go.Lib.atoiAll s)) := by
      unfold atoiO numO
      rw [decide_eq_true hs]; rfl
    rw [e1, bind_some2]
    cases ha : Go.Lib.atoiAll s with
    | range => exact ⟨_, _, rfl, rfl, w0 _ _⟩
    | ok v =>
      have hb := Go.Lib.atoiAll_bounds ha
      have hi : itoaO v = some (Go.Lib.itoa v) := by
        unfold itoaO i64R
        rw [decide_eq_true hb.1, decide_eq_true hb.2]; rfl
      show ∃ v1 e1, (Option.bind (itoaO v) fun r4 => _) = some (v1, e1) ∧ (Option.bind (itoaO v) fun r4 => _) = some (v1, e1) ∧ _
      rw [hi, bind_some2]
      cases Go.Lib.itoa v == s with
      | false => exact ⟨_, _, rfl, rfl, w0 _ _⟩
      | true =>
        obtain ⟨e, he⟩ := Option.isSome_iff_exists.1 (vcheck_some n (ApiValue.mk k v [] []) (by simp [vw, fw]; omega) (by simp [vw, fw]))
        rw [Bool.not_true, cond_false]
        show ∃ v1 e1, (Option.bind (value_Check n (ApiValue.mk k v [] [])) fun r5 => _) = some (v1, e1) ∧ (Option.bind (value_Check n (ApiValue.mk k v [] [])) fun r5 => _) = some (v1, e1) ∧ _
        rw [he, bind_some2]
        cases decide (e = 0) with
        | true => exact ⟨_, _, rfl, rfl, w0 _ _⟩
        | false => exact ⟨_, _, rfl, rfl, w0 _ _⟩
    | _ => exact ⟨_, _, rfl, rfl, w0 _ _⟩
  rw [load_Scalar_eq, ref2_Told_eq]
  by_cases k1 : k = 1
  · subst k1
    obtain ⟨b0, b1⟩ := bool_check n (by omega)
    rw [decide_eq_true rfl, cond_true, cond_true, sidx_ok n _ s (by decide) (by simp; omega), bind_some2]
    by_cases ht : s = [116, 114, 117, 101]
    · subst ht
      refine ⟨ApiValue.mk 1 1 [] [], 0, ?_, rfl, by simp [vw, fw]⟩
      show (Option.bind (value_Check n (ApiValue.mk 1 1 [] [])) fun r2 => _) = _
      rw [b1]; rfl
    · by_cases hf : s = [102, 97, 108, 115, 101]
      · subst hf
        refine ⟨ApiValue.mk 1 0 [] [], 0, ?_, rfl, by simp [vw, fw]⟩
        show (Option.bind (value_Check n (ApiValue.mk 1 0 [] [])) fun r2 => _) = _
        rw [b0]; rfl
      · have h1 : (s == [116, 114, 117, 101]) = false := by simpa using ht
        have h2 : (s == [102, 97, 108, 115, 101]) = false := by simpa using hf
        have h3 : ixI (fun a => s == a) [[102, 97, 108, 115, 101], [116, 114, 117, 101]] = -1 := by
          rw [ixI_eq]
          simp only [List.any_cons, List.any_nil, h1, h2, Bool.or_self, Bool.false_eq_true, if_false]
        rw [h3, h1, h2]
        exact ⟨ApiValue.mk 0 0 [] [], 14, rfl, rfl, by simp [vw, fw]⟩
  · rw [decide_eq_false k1, cond_false, cond_false]
    by_cases k2 : k = 2
    · subst k2
      rw [decide_eq_true rfl, cond_true, cond_true, cond_true, cond_true]
      obtain ⟨v, e, g1, g2, g3⟩ := num 2
      exact ⟨v, e, g2, g1, g3⟩
    · rw [decide_eq_false k2, cond_false, cond_false]
      by_cases k4 : k = 4
      · subst k4
        rw [decide_eq_true rfl, cond_true, cond_true]
        obtain ⟨v, e, g1, g2, g3⟩ := num 4
        exact ⟨v, e, g2, g1, g3⟩
      · rw [decide_eq_false k4, cond_false, cond_false]
        by_cases k5 : k = 5
        · subst k5
          rw [decide_eq_true rfl, cond_true, cond_true, text_check n (by omega), bind_some2]
          cases decide ((s.length : Int) > 4000) with
          | true => exact ⟨_, _, rfl, rfl, by simp [vw, fw]⟩
          | false => exact ⟨_, _, rfl, rfl, by simp [vw, fw]⟩
        · rw [decide_eq_false k5, cond_false, cond_false]
          exact ⟨_, _, rfl, rfl, by simp [vw, fw]⟩

/-! ### A row more -/
theorem put1_good {B n : Nat} {r : Rel} (hr : RB B r) (hB : Big B n) (hB3 : 300 ≤ B) (hc : Chk n r) (l : List ApiValue) (hl : lw l ≤ B) (e2 : rel_row n r l = some 0) (hlen : l.length = r.Cols.length) (hth : rthr r.Rows l = false) (hkk : ¬ (r.Key ≠ [] ∧ keyHit r l = true)) (hne : r.Rows.length ≠ 300) :
    RB B (put1 r l) ∧ rel_Check n (put1 r l) = some 0 := by
  have hb1 := hB.b
  have hb2 := hB.n1
  have h1 := hr.rl
  have h3 := hc.len
  have h4 := hr.cl
  have h5 := hr.kl
  have hple := rpos_le r.Rows l
  have hlen3 : (put1 r l).Rows.length = r.Rows.length + 1 := by
    show (r.Rows.take (rpos r.Rows l) ++ [l] ++ r.Rows.drop (rpos r.Rows l)).length = _
    simp; omega
  have hmem : ∀ x ∈ (put1 r l).Rows, x = l ∨ x ∈ r.Rows := by
    intro x hx
    have hx : x ∈ r.Rows.take (rpos r.Rows l) ++ [l] ++ r.Rows.drop (rpos r.Rows l) := hx
    rcases List.mem_append.1 hx with hx | hx
    · rcases List.mem_append.1 hx with hx | hx
      · exact .inr (List.mem_of_mem_take hx)
      · exact .inl (List.mem_singleton.1 hx)
    · exact .inr (List.mem_of_mem_drop hx)
  have hr3 : RB B (put1 r l) := by
    refine ⟨hr.nm, hr.cl, hr.cn, hr.kl, by omega, fun x hx => ?_⟩
    rcases hmem x hx with rfl | hx
    · exact hl
    · exact hr.rw x hx
  have hss3 : SS (put1 r l).Rows := by
    show SS (r.Rows.take (rpos r.Rows l) ++ [l] ++ r.Rows.drop (rpos r.Rows l))
    rw [← insR_new' _ hc.ss hth]
    exact insR_ss l _ hc.ss
  have hrow3 : ∀ x ∈ (put1 r l).Rows, rel_row n (put1 r l) x = some 0 ∧ x.length = (put1 r l).Cols.length := by
    intro x hx
    have hw := hr3.rw x hx
    have hxl := lw_len x
    have hrs : rel_row n (put1 r l) x = rel_row n r x := row_same r _ x (by omega) (by omega)
    rcases hmem x hx with rfl | hx
    · exact ⟨by rw [hrs]; exact e2, hlen⟩
    · exact ⟨by rw [hrs]; exact (hc.rows x hx).1, (hc.rows x hx).2⟩
  have hhead : rel_head n (put1 r l) = some 0 := (head_same r _ (by omega) (by omega) (by omega) (by omega)).trans hc.head
  have hchk := check_good hr3 hB hhead hc.keys hrow3 hss3
  refine ⟨hr3, ?_⟩
  rw [hchk, hlen3, if_neg (by omega)]
  by_cases hk : r.Key = []
  · have hk1 : (put1 r l).Key = [] := hk
    rw [if_pos hk1]
  · have hk' : ¬ (put1 r l).Key = [] := hk
    have hpw0 := hc.pw.resolve_left hk
    have e5 : (put1 r l).Rows.map (keyOf (put1 r l)) = (r.Rows.take (rpos r.Rows l)).map (keyOf r) ++ [keyOf r l] ++ (r.Rows.drop (rpos r.Rows l)).map (keyOf r) := by
      show (r.Rows.take (rpos r.Rows l) ++ [l] ++ r.Rows.drop (rpos r.Rows l)).map (keyOf r) = _
      simp
    have e6 : r.Rows.map (keyOf r) = (r.Rows.take (rpos r.Rows l)).map (keyOf r) ++ (r.Rows.drop (rpos r.Rows l)).map (keyOf r) := by
      rw [← List.map_append, List.take_append_drop]
    have hpw : PW ((put1 r l).Rows.map (keyOf (put1 r l))) := by
      rw [e6] at hpw0
      rw [e5, PW_mid hpw0, ← e6]
      intro z hz
      obtain ⟨y, hy, rfl⟩ := List.mem_map.1 hz
      have hh : keyHit r l = false := by
        cases h : keyHit r l with
        | false => rfl
        | true => exact absurd ⟨hk, h⟩ hkk
      unfold keyHit at hh
      rw [List.any_eq_false] at hh
      have := hh y hy
      simpa only [decide_eq_true_eq] using this
    rw [if_neg hk', if_pos hpw]
theorem step_ok {B n : Nat} {r : Rel} (hr : RB B r) (hB : Big (B + 1) n) (hB' : Big B n) (hB5 : B + 1 < 500000000) (hB3 : 300 ≤ B) (h0 : rel_Check n r = some 0) (l : List ApiValue) (hl : lw l ≤ B) :
    ∃ r' e, rel_Insert n r l = some (r', e) ∧ ref2_Inserted n r l = some (r', e) ∧ (e = 0 → RB B r' ∧ rel_Check n r' = some 0 ∧ r'.Cols = r.Cols) := by
  have hc := check0_all hr hB' h0
  have c3 := h0
  rw [(check_ok hr hB').1] at c3
  obtain ⟨e, q1, q2, q3, q4⟩ := insert_ok hr hB' (by omega) hc h0 l hl
  obtain ⟨p1, p2⟩ := inserted_ok hr hB hB' hB5 hc c3 l hl e q2 q1
  by_cases he : e = 0
  · obtain ⟨hlen, q5⟩ := q4 he
    have p5 := p2 he hlen
    by_cases ht : rthr r.Rows l = true
    · rw [if_pos ht] at q5 p5
      exact ⟨_, _, q5, p5, fun h => by cases h⟩
    · rw [if_neg ht] at q5 p5
      by_cases hk : r.Key ≠ [] ∧ keyHit r l = true
      · rw [if_pos hk] at q5 p5
        exact ⟨_, _, q5, p5, fun h => by cases h⟩
      · rw [if_neg hk] at q5 p5
        by_cases h300 : r.Rows.length = 300
        · rw [if_pos h300] at q5 p5
          exact ⟨_, _, q5, p5, fun h => by cases h⟩
        · rw [if_neg h300] at q5 p5
          obtain ⟨g1, g2⟩ := put1_good hr hB' hB3 hc l hl (by rw [q1, he]) hlen (by simpa using ht) hk h300
          exact ⟨_, _, q5, p5, fun _ => ⟨g1, g2, rfl⟩⟩
  · exact ⟨_, _, q3 he, p1 he, fun h => absurd h he⟩
def tw (l : List (List UInt8)) : Nat := (l.map fun s => s.length + 2).sum
theorem tw_cons (s : List UInt8) (l : List (List UInt8)) : tw (s :: l) = s.length + 2 + tw l := by simp [tw]
theorem lw_snoc : ∀ (l : List ApiValue) (v : ApiValue), lw (l ++ [v]) = lw l + vw v + 1
  | [], v => by rw [List.nil_append, lw_cons, lw_nil]; omega
  | a :: l, v => by
    have := lw_snoc l v
    rw [List.cons_append, lw_cons, lw_cons, this]; omega
theorem okApp {α : Type} (s : List α) (x : α) (h : s.length < 4294967296) : (decide (List.length s = List.length s) && decide (List.length s + List.length [x] ≤ 4294967296)) = true := by
  rw [decide_eq_true rfl, decide_eq_true (by simp; omega)]
  rfl
/-- A round of the reference's loop over the texts of a row. -/
noncomputable def tkStep (n : Nat) (cols : List Col) {R : Type} : Nat → List UInt8 → (List ApiValue) × Refused → ((List ApiValue) × Refused → Option R) → Option R := fun i a s K => (bif (decide (s.2.Why = 0)) then (bif (decide (0 ≤ (i : Int)) && decide ((i : Int) < List.length cols)) then (Option.bind (ref2_Told n ((List.getD cols (Int.toNat (i : Int)) (Col.mk [] 0)).Kind) a) fun r1 => (bif (decide ((List.length s.1) = List.length s.1) && decide (List.length s.1 + List.length ([r1.1] : List ApiValue) ≤ 4294967296)) then (bif (!decide (r1.2 = 0)) then (K ((s.1 ++ [r1.1]), (Refused.mk s.2.Row (i : Int) r1.2))) else (K ((s.1 ++ [r1.1]), s.2))) else none)) else none) else (K (s.1, s.2)))
theorem tk_skip (n : Nat) (cols : List Col) {R : Type} (fin : (List ApiValue) × Refused → Option R) : ∀ (l : List (List UInt8)) (i : Nat) (x : List ApiValue) (q : Refused), q.Why ≠ 0 → foldK (S := (List ApiValue) × Refused) (tkStep n cols) fin l i (x, q) = fin (x, q)
  | [], _, _, _, _ => rfl
  | a :: l, i, x, q, h => by
    rw [foldK_cons]
    show (bif (decide (q.Why = 0)) then _ else (foldK _ fin l (i + 1) (x, q))) = _
    rw [decide_eq_false h, cond_false]
    exact tk_skip n cols fin l (i + 1) x q h
theorem one_run {n : Nat} (hn : 10 < n) (cols : List Col) (texts : List (List UInt8)) (k : Int) (hlen : texts.length = cols.length) (hll : texts.length < 4294967296) (hs : ∀ s ∈ texts, s.length ≤ 281474976710656) {R : Type} (fin : (List ApiValue) × Refused → Option R) :
    ∀ (c i : Nat) (s : List ApiValue), c + i = cols.length → s.length = i →
    (∃ at_ e x, e ≠ 0 ∧ foldK (S := (List ApiValue)) (fun i (a : Col) s K => (bif (decide (0 ≤ (i : Int)) && decide ((i : Int) < List.length texts)) then (Option.bind (load_Scalar n (a.Kind) (List.getD texts (Int.toNat (i : Int)) [])) fun r1 => (bif (!decide (r1.2 = 0)) then (some (([] : List ApiValue), (i : Int), r1.2)) else (bif (decide ((List.length s) = List.length s) && decide (List.length s + List.length ([r1.1] : List ApiValue) ≤ 4294967296)) then (K (s ++ [r1.1])) else none))) else none)) (fun s => (some (s, 0, 0))) (cols.drop i) i s = some ([], at_, e) ∧
      foldK (S := (List ApiValue) × Refused) (tkStep n cols) fin (texts.drop i) i (s, Refused.mk k (-1) 0) = fin (x, Refused.mk k at_ e)) ∨
    (∃ row, foldK (S := (List ApiValue)) (fun i (a : Col) s K => (bif (decide (0 ≤ (i : Int)) && decide ((i : Int) < List.length texts)) then (Option.bind (load_Scalar n (a.Kind) (List.getD texts (Int.toNat (i : Int)) [])) fun r1 => (bif (!decide (r1.2 = 0)) then (some (([] : List ApiValue), (i : Int), r1.2)) else (bif (decide ((List.length s) = List.length s) && decide (List.length s + List.length ([r1.1] : List ApiValue) ≤ 4294967296)) then (K (s ++ [r1.1])) else none))) else none)) (fun s => (some (s, 0, 0))) (cols.drop i) i s = some (row, 0, 0) ∧
      foldK (S := (List ApiValue) × Refused) (tkStep n cols) fin (texts.drop i) i (s, Refused.mk k (-1) 0) = fin (row, Refused.mk k (-1) 0) ∧ lw row ≤ lw s + tw (texts.drop i)) := by
  intro c
  induction c with
  | zero =>
    intro i s hc hsl
    rw [List.drop_eq_nil_of_le (show cols.length ≤ i by omega), List.drop_eq_nil_of_le (show texts.length ≤ i by omega)]
    exact .inr ⟨s, rfl, rfl, Nat.le_add_right _ _⟩
  | succ c ih =>
    intro i s hc hsl
    have h1 : i < cols.length := by omega
    have h2 : i < texts.length := by omega
    obtain ⟨v, e, g1, g2, g3⟩ := scalar_ok n cols[i].Kind texts[i] hn (hs _ (List.getElem_mem h2))
    rw [List.drop_eq_getElem_cons h1, List.drop_eq_getElem_cons h2, foldK_cons, foldK_cons, tw_cons]
    have t1 : ∀ K : (List ApiValue) × Refused → Option R, tkStep n cols i texts[i] (s, Refused.mk k (-1) 0) K = bif !decide (e = 0) then K (s ++ [v], Refused.mk k (i : Int) e) else K (s ++ [v], Refused.mk k (-1) 0) := by
      intro K
      show (bif (decide ((0 : Int) = 0)) then (bif (decide (0 ≤ (i : Int)) && decide ((i : Int) < List.length cols)) then (Option.bind (ref2_Told n ((List.getD cols (Int.toNat (i : Int)) (Col.mk [] 0)).Kind) texts[i]) fun r1 => (bif (decide ((List.length s) = List.length s) && decide (List.length s + List.length ([r1.1] : List ApiValue) ≤ 4294967296)) then (bif (!decide (r1.2 = 0)) then (K ((s ++ [r1.1]), (Refused.mk k (i : Int) r1.2))) else (K ((s ++ [r1.1]), Refused.mk k (-1) 0))) else none)) else none) else _) = _
      rw [decide_eq_true rfl, cond_true, inR h1, cond_true, Int.toNat_natCast, getD_lt _ h1, g2, bind_some2, okApp s v (by omega), cond_true]
    rw [t1, inR h2, cond_true, Int.toNat_natCast, getD_lt _ h2, g1, bind_some2, okApp s v (by omega), cond_true]
    by_cases he : e = 0
    · rw [decide_eq_true he, Bool.not_true, cond_false, cond_false]
      rcases ih (i + 1) (s ++ [v]) (by omega) (by simp; omega) with h | ⟨row, k1, k2, k3⟩
      · exact .inl h
      · refine .inr ⟨row, k1, k2, ?_⟩
        rw [lw_snoc] at k3
        omega
    · rw [decide_eq_false he, Bool.not_false, cond_true, cond_true]
      exact .inl ⟨(i : Int), e, s ++ [v], he, rfl, tk_skip n cols fin _ _ _ _ he⟩
/-- A row of texts, read both ways. -/
theorem one_ok {n : Nat} (hn : 10 < n) (cols : List Col) (texts : List (List UInt8)) (k : Int) (hcn : cols.length < n) (hll : texts.length < 4294967296) (hcl : cols.length < 4294967296) (hs : ∀ s ∈ texts, s.length ≤ 281474976710656) {R : Type} (fin : (List ApiValue) × Refused → Option R) :
    ∃ row at_ e, load_one n cols texts = some (row, at_, e) ∧
      ((e ≠ 0 ∧ ∃ x, foldK (S := (List ApiValue) × Refused) (tkStep n cols) fin texts 0 ([], Refused.mk k (-1) (bif !decide ((texts.length : Int) = (cols.length : Int)) then 3 else 0)) = fin (x, Refused.mk k at_ e)) ∨
       (e = 0 ∧ foldK (S := (List ApiValue) × Refused) (tkStep n cols) fin texts 0 ([], Refused.mk k (-1) (bif !decide ((texts.length : Int) = (cols.length : Int)) then 3 else 0)) = fin (row, Refused.mk k (-1) 0) ∧ lw row ≤ 1 + tw texts)) := by
  rw [load_one_eq]
  by_cases h : (texts.length : Int) = (cols.length : Int)
  · rw [decide_eq_true h, Bool.not_true, cond_false, cond_false]
    have f := load_one_l0_fold n texts cols [] (by omega) n 0 (Nat.zero_le _) (by omega)
    rw [show ((0 : Nat) : Int) = 0 from rfl] at f
    rw [f]
    rcases one_run hn cols texts k (by omega) hll hs fin cols.length 0 [] (by omega) rfl with ⟨at_, e, x, g1, g2, g3⟩ | ⟨row, g1, g2, g3⟩
    · rw [List.drop_zero] at g2 g3
      exact ⟨[], at_, e, g2, .inl ⟨g1, x, g3⟩⟩
    · rw [List.drop_zero] at g1 g2 g3
      rw [lw_nil] at g3
      exact ⟨row, 0, 0, g1, .inr ⟨rfl, g2, g3⟩⟩
  · rw [decide_eq_false h, Bool.not_false, cond_true, cond_true]
    exact ⟨[], -1, 3, rfl, .inl ⟨by decide, [], tk_skip n cols fin _ _ _ _ (show (3 : Int) ≠ 0 by decide)⟩⟩

/-! ### All rows -/
theorem rows_run {B n : Nat} (hB : Big (B + 1) n) (hB' : Big B n) (hB5 : B + 1 < 500000000) (hB3 : 300 ≤ B) (cols : List Col) (rows : List (List (List UInt8))) (hrl : rows.length < 4294967296) (ht : ∀ t ∈ rows, t.length ≤ B ∧ 1 + tw t ≤ B ∧ ∀ s ∈ t, s.length ≤ B) (w8 w4 : Rel) :
    ∀ (c i m : Nat) (r : Rel) (out : List Refused), c + i = rows.length → c < m → out.length ≤ i → RB B r → rel_Check n r = some 0 → r.Cols = cols →
    ∃ r' out', foldK (S := (List Refused) × Rel) (fun i (a : (List (List UInt8))) s K => (Option.bind (load_one n cols a) fun r4 => (bif (decide (r4.2.2 = 0)) then (Option.bind (rel_Insert n s.2 r4.1) fun r5 => (bif (decide (r5.2 = 0)) then (bif (!decide (r4.2.2 = 0)) then (bif (decide ((List.length s.1) = List.length s.1) && decide (List.length s.1 + List.length ([(Refused.mk (i : Int) r4.2.1 r4.2.2)] : List Refused) ≤ 4294967296)) then (K ((s.1 ++ [(Refused.mk (i : Int) r4.2.1 r4.2.2)]), r5.1)) else none) else (K (s.1, r5.1))) else (bif (!decide (r5.2 = 5)) then (bif (!decide (r5.2 = 0)) then (bif (decide ((List.length s.1) = List.length s.1) && decide (List.length s.1 + List.length ([(Refused.mk (i : Int) (-1) r5.2)] : List Refused) ≤ 4294967296)) then (K ((s.1 ++ [(Refused.mk (i : Int) (-1) r5.2)]), s.2)) else none) else (K (s.1, s.2))) else (bif (!decide (r4.2.2 = 0)) then (bif (decide ((List.length s.1) = List.length s.1) && decide (List.length s.1 + List.length ([(Refused.mk (i : Int) r4.2.1 r4.2.2)] : List Refused) ≤ 4294967296)) then (K ((s.1 ++ [(Refused.mk (i : Int) r4.2.1 r4.2.2)]), s.2)) else none) else (K (s.1, s.2)))))) else (bif (!decide (r4.2.2 = 0)) then (bif (decide ((List.length s.1) = List.length s.1) && decide (List.length s.1 + List.length ([(Refused.mk (i : Int) r4.2.1 r4.2.2)] : List Refused) ≤ 4294967296)) then (K ((s.1 ++ [(Refused.mk (i : Int) r4.2.1 r4.2.2)]), s.2)) else none) else (K (s.1, s.2)))))) (fun s => (some (s.2, s.1, (0 : Int)))) (List.drop i rows) i (out, r) = some (r', out', 0) ∧
      ref2_Taken_l0 n m out rows (rows.length : Int) (i : Int) r w4 = some (r', out') ∧ RB B r' ∧ rel_Check n r' = some 0 ∧ out'.length ≤ rows.length := by
  have hb1 := hB'.b
  have hb2 := hB'.n1
  intro c
  induction c with
  | zero =>
    intro i m r out hc hm ho hr h0 hcol
    obtain ⟨m, rfl⟩ : ∃ m0, m = m0 + 1 := ⟨m - 1, by omega⟩
    rw [List.drop_eq_nil_of_le (by omega), ref2_Taken_l0_eq, dlt, dF (by omega : ¬ i < rows.length), cond_false]
    exact ⟨r, out, rfl, rfl, hr, h0, by omega⟩
  | succ c ih =>
    intro i m r out hc hm ho hr h0 hcol
    obtain ⟨m, rfl⟩ : ∃ m0, m = m0 + 1 := ⟨m - 1, by omega⟩
    have hlt : i < rows.length := by omega
    obtain ⟨t1, t2, t3⟩ := ht _ (List.getElem_mem hlt)
    have hcl := hr.cl
    rw [List.drop_eq_getElem_cons hlt, foldK_cons, ref2_Taken_l0_eq]
    rw [dlt, dT hlt, d0, Bool.and_self, cond_true, cond_true, Int.toNat_natCast, getD_lt _ hlt, hcol]
    generalize hrow : rows[i] = texts at t1 t2 t3
    have hcl' : cols.length ≤ B := by rw [← hcol]; exact hcl
    have fT := ref2_Taken_l2_fold n m out rows (rows.length : Int) (i : Int) texts r w4 [] (Refused.mk (i : Int) (-1) (bif !decide ((texts.length : Int) = (cols.length : Int)) then 3 else 0)) (by omega) n 0 (Nat.zero_le _) (by omega)
    rw [show ((0 : Nat) : Int) = 0 from rfl, List.drop_zero, hcol] at fT
    have hsel : (bif (!decide ((texts.length : Int) = (cols.length : Int))) then ref2_Taken_l2 n m n out [] rows (rows.length : Int) (i : Int) texts (texts.length : Int) 0 r w4 (Refused.mk (i : Int) (-1) 3) else ref2_Taken_l2 n m n out [] rows (rows.length : Int) (i : Int) texts (texts.length : Int) 0 r w4 (Refused.mk (i : Int) (-1) 0)) = ref2_Taken_l2 n m n out [] rows (rows.length : Int) (i : Int) texts (texts.length : Int) 0 r w4 (Refused.mk (i : Int) (-1) (bif !decide ((texts.length : Int) = (cols.length : Int)) then 3 else 0)) := by
      cases decide ((texts.length : Int) = (cols.length : Int)) <;> rfl
    rw [hsel]
    obtain ⟨row, at_, e, g1, g2⟩ := one_ok (n := n) (by omega) cols texts (i : Int) (by omega) (by omega) (by omega) (fun s hs => by have := t3 s hs; omega) (R := Rel × List Refused) (fun s => (bif (decide (s.2.Why = 0)) then (Option.bind (ref2_Inserted n r s.1) fun r2 => (bif (decide (r2.2 = 0)) then (bif (!decide (s.2.Why = 0)) then (bif (decide ((List.length out) = List.length out) && decide (List.length out + List.length ([s.2] : List Refused) ≤ 4294967296)) then (ref2_Taken_l0 n m (out ++ [s.2]) rows (rows.length : Int) (IntKind.wrap .i64 ((i : Int) + 1)) r2.1 w4) else none) else (ref2_Taken_l0 n m out rows (rows.length : Int) (IntKind.wrap .i64 ((i : Int) + 1)) r2.1 w4)) else (bif (!decide (r2.2 = 5)) then (bif (!decide (r2.2 = 0)) then (bif (decide ((List.length out) = List.length out) && decide (List.length out + List.length ([(Refused.mk s.2.Row s.2.Col r2.2)] : List Refused) ≤ 4294967296)) then (ref2_Taken_l0 n m (out ++ [(Refused.mk s.2.Row s.2.Col r2.2)]) rows (rows.length : Int) (IntKind.wrap .i64 ((i : Int) + 1)) r w4) else none) else (ref2_Taken_l0 n m out rows (rows.length : Int) (IntKind.wrap .i64 ((i : Int) + 1)) r w4)) else (bif (!decide (s.2.Why = 0)) then (bif (decide ((List.length out) = List.length out) && decide (List.length out + List.length ([s.2] : List Refused) ≤ 4294967296)) then (ref2_Taken_l0 n m (out ++ [s.2]) rows (rows.length : Int) (IntKind.wrap .i64 ((i : Int) + 1)) r w4) else none) else (ref2_Taken_l0 n m out rows (rows.length : Int) (IntKind.wrap .i64 ((i : Int) + 1)) r w4))))) else (bif (!decide (s.2.Why = 0)) then (bif (decide ((List.length out) = List.length out) && decide (List.length out + List.length ([s.2] : List Refused) ≤ 4294967296)) then (ref2_Taken_l0 n m (out ++ [s.2]) rows (rows.length : Int) (IntKind.wrap .i64 ((i : Int) + 1)) r w4) else none) else (ref2_Taken_l0 n m out rows (rows.length : Int) (IntKind.wrap .i64 ((i : Int) + 1)) r w4))))
    rw [g1, bind_some2]
    rcases g2 with ⟨he, x, g3⟩ | ⟨he, g3, g4⟩
    · refine Exists.elim (ih (i + 1) m r (out ++ [Refused.mk (i : Int) at_ e]) (by omega) (by omega) (by simp; omega) hr h0 hcol) fun r' h => Exists.elim h fun out' h => ⟨r', out', ?_, ?_, h.2.2⟩
      · rw [decide_eq_false he, cond_false, Bool.not_false, cond_true, okApp out _ (by omega), cond_true]
        exact h.1
      · refine Eq.trans (fT.trans g3) ?_
        show (bif (decide (e = 0)) then _ else (bif (!decide (e = 0)) then (bif (decide ((List.length out) = List.length out) && decide (List.length out + List.length ([Refused.mk (i : Int) at_ e] : List Refused) ≤ 4294967296)) then (ref2_Taken_l0 n m (out ++ [Refused.mk (i : Int) at_ e]) rows (rows.length : Int) (IntKind.wrap .i64 ((i : Int) + 1)) r w4) else none) else _)) = _
        rw [decide_eq_false he, cond_false, Bool.not_false, cond_true, okApp out _ (by omega), cond_true, i64_succ (by omega)]
        exact h.2.1
    · subst he
      obtain ⟨r5, e5, k1, k2, k3⟩ := step_ok hr hB hB' hB5 hB3 h0 row (by omega)
      rw [decide_eq_true rfl, cond_true]
      rw [k1, bind_some2]
      have g5 : ∀ z, (bif (decide ((0 : Int) = 0)) then (Option.bind (ref2_Inserted n r row) fun r2 => (bif (decide (r2.2 = 0)) then (bif (!decide ((0 : Int) = 0)) then (bif (decide ((List.length out) = List.length out) && decide (List.length out + List.length ([Refused.mk (i : Int) (-1) 0] : List Refused) ≤ 4294967296)) then (ref2_Taken_l0 n m (out ++ [Refused.mk (i : Int) (-1) 0]) rows (rows.length : Int) (IntKind.wrap .i64 ((i : Int) + 1)) r2.1 w4) else none) else (ref2_Taken_l0 n m out rows (rows.length : Int) (IntKind.wrap .i64 ((i : Int) + 1)) r2.1 w4)) else (bif (!decide (r2.2 = 5)) then (bif (!decide (r2.2 = 0)) then (bif (decide ((List.length out) = List.length out) && decide (List.length out + List.length ([(Refused.mk (i : Int) (-1) r2.2)] : List Refused) ≤ 4294967296)) then (ref2_Taken_l0 n m (out ++ [(Refused.mk (i : Int) (-1) r2.2)]) rows (rows.length : Int) (IntKind.wrap .i64 ((i : Int) + 1)) r w4) else none) else (ref2_Taken_l0 n m out rows (rows.length : Int) (IntKind.wrap .i64 ((i : Int) + 1)) r w4)) else (bif (!decide ((0 : Int) = 0)) then (bif (decide ((List.length out) = List.length out) && decide (List.length out + List.length ([Refused.mk (i : Int) (-1) 0] : List Refused) ≤ 4294967296)) then (ref2_Taken_l0 n m (out ++ [Refused.mk (i : Int) (-1) 0]) rows (rows.length : Int) (IntKind.wrap .i64 ((i : Int) + 1)) r w4) else none) else (ref2_Taken_l0 n m out rows (rows.length : Int) (IntKind.wrap .i64 ((i : Int) + 1)) r w4))))) else z) =
          bif decide (e5 = 0) then ref2_Taken_l0 n m out rows (rows.length : Int) ((i + 1 : Nat) : Int) r5 w4 else bif !decide (e5 = 5) then ref2_Taken_l0 n m (out ++ [Refused.mk (i : Int) (-1) e5]) rows (rows.length : Int) ((i + 1 : Nat) : Int) r w4 else ref2_Taken_l0 n m out rows (rows.length : Int) ((i + 1 : Nat) : Int) r w4 := by
        intro z
        rw [decide_eq_true (rfl : (0 : Int) = 0), cond_true, k2, bind_some2, i64_succ (by omega), Bool.not_true, cond_false, cond_false]
        by_cases h5 : e5 = 0
        · rw [decide_eq_true h5, cond_true, cond_true]
        · rw [decide_eq_false h5, cond_false, cond_false, Bool.not_false, cond_true, okApp out _ (by omega), cond_true]
      by_cases h5 : e5 = 0
      · obtain ⟨j1, j2, j3⟩ := k3 h5
        refine Exists.elim (ih (i + 1) m r5 out (by omega) (by omega) (by omega) j1 j2 (j3.trans hcol)) fun r' h => Exists.elim h fun out' h => ⟨r', out', ?_, ?_, h.2.2⟩
        · rw [decide_eq_true h5, cond_true, Bool.not_true, cond_false]
          exact h.1
        · refine Eq.trans (fT.trans g3) (Eq.trans (g5 _) ?_)
          rw [decide_eq_true h5, cond_true]
          exact h.2.1
      · by_cases h55 : e5 = 5
        · refine Exists.elim (ih (i + 1) m r out (by omega) (by omega) (by omega) hr h0 hcol) fun r' h => Exists.elim h fun out' h => ⟨r', out', ?_, ?_, h.2.2⟩
          · rw [decide_eq_false h5, cond_false, decide_eq_true h55, Bool.not_true, cond_false, cond_false]
            exact h.1
          · refine Eq.trans (fT.trans g3) (Eq.trans (g5 _) ?_)
            rw [decide_eq_false h5, cond_false, decide_eq_true h55, Bool.not_true, cond_false]
            exact h.2.1
        · refine Exists.elim (ih (i + 1) m r (out ++ [Refused.mk (i : Int) (-1) e5]) (by omega) (by omega) (by simp; omega) hr h0 hcol) fun r' h => Exists.elim h fun out' h => ⟨r', out', ?_, ?_, h.2.2⟩
          · rw [decide_eq_false h5, cond_false, decide_eq_false h55, Bool.not_false, cond_true, cond_true, okApp out _ (by omega), cond_true]
            exact h.1
          · refine Eq.trans (fT.trans g3) (Eq.trans (g5 _) ?_)
            rw [decide_eq_false h5, cond_false, decide_eq_false h55, Bool.not_false, cond_true]
            exact h.2.1

/-! ### The law -/
theorem eqR_ok (n : Nat) (l : List Refused) (hn : l.length < n) (hm : l.length < 4294967296) : slices_Equal_Refused n l l = some true := by
  have f := slices_Equal_Refused_l0_fold n l l (by omega) n 0 (Nat.zero_le _) (by omega)
  rw [show ((0 : Nat) : Int) = 0 from rfl] at f
  rw [slices_Equal_Refused_eq, decide_eq_true rfl, Bool.not_true, cond_false, f]
  refine foldK_case l (S := Unit) (fun _ _ => True) (fun o => o = some true) ?_ (fun _ _ => rfl) _ 0 rfl (Nat.zero_le _) _ trivial
  intro i hi s _
  refine .inr ⟨(), trivial, fun K => ?_⟩
  rw [inR hi, cond_true, Int.toNat_natCast, getD_lt _ hi, beq_self_eq_true, beq_self_eq_true, beq_self_eq_true, Bool.and_self, Bool.and_self, Bool.not_true, cond_false]
theorem loads_ok (n : Nat) (hn : 10 < n) : law2_loads n = some true := by
  obtain ⟨v, e, h1, h2, h3⟩ := scalar_ok n 2 [45, 53] hn (by decide)
  have ha : atoiO [45, 53] = some (-5, true) := by decide
  have hi : itoaO (-5) = some [45, 53] := by
    unfold itoaO i64R Go.Lib.itoa
    rw [if_pos (by decide), show (-5 : Int).natAbs = 5 from rfl, Go.Lib.decDigits_one (by decide)]
    rfl
  have hc : value_Check n (ApiValue.mk 2 (-5) [] []) = some 0 := by
    rw [scl_check n (by omega)]
    obtain ⟨m, rfl⟩ : ∃ m, n = m + 1 := ⟨n - 1, by omega⟩
    rw [value_node_eq]
    simp only [value_unused_eq, value_number_eq, value_fields_eq, value_Scalar_eq]
    rfl
  rw [law2_loads_eq, load_Scalar_eq]
  rw [decide_eq_false (by decide : ¬ (2 : Int) = 1), cond_false, decide_eq_true (rfl : (2 : Int) = 2), cond_true, cond_true, ha]
  simp only [bind_some2, Bool.not_true, cond_false]
  rw [hi, bind_some2, beq_self_eq_true, Bool.not_true, cond_false, hc]
  rfl
theorem tw_le (t : List (List UInt8)) : tw t ≤ 2 * (t.map fun s => s.length + 1).sum ∧ t.length ≤ (t.map fun s => s.length + 1).sum ∧ ∀ s ∈ t, s.length ≤ (t.map fun s => s.length + 1).sum := by
  induction t with
  | nil => exact ⟨by simp [tw], by simp, by simp⟩
  | cons s t ih =>
    rw [tw_cons, List.map_cons, List.sum_cons, List.length_cons]
    refine ⟨by omega, by omega, fun x hx => ?_⟩
    rcases List.mem_cons.1 hx with rfl | hx
    · omega
    · have := ih.2.2 x hx; omega
theorem big_ex3 : ∃ n, Big 3000001 n := by
  obtain ⟨n, hn⟩ : ∃ n : Nat, 3 * (3000001 * (3000001 + 1) + 1) + 3 * 3000001 + 100 < n := ⟨_, Nat.lt_succ_self _⟩
  exact ⟨n, by decide, hn, by decide⟩
theorem Big.less1 {B n : Nat} (h : Big (B + 1) n) : Big B n := by
  have h1 := h.b
  have h2 := h.n1
  have h3 := h.m1
  have hle : B * (B + 1) ≤ (B + 1) * (B + 1 + 1) := Nat.mul_le_mul (by omega) (by omega)
  exact ⟨by omega, by omega, by omega⟩
theorem law_ok (x0 : List UInt8) (x1 : List Col) (x2 : List (List UInt8)) (x3 : List (List (List UInt8))) (h0 : ∀ g, Fv.Good E g .str x0) (h1 : ∀ g, Fv.Good E g (.sl (.nm 0)) x1) (h2 : ∀ g, Fv.Good E g (.sl .str) x2) (h3 : ∀ g, Fv.Good E g (.sl (.sl .str)) x3) (hb : ∀ g, Bulk E g .str x0 + Bulk E g (.sl (.nm 0)) x1 + Bulk E g (.sl .str) x2 + Bulk E g (.sl (.sl .str)) x3 ≤ 1048576) : ∃ n, law2_LoadRows n x0 x1 x2 x3 = some true := by
  obtain ⟨n, hB⟩ := big_ex3
  refine ⟨n, ?_⟩
  have hB' : Big 3000000 n := hB.less1
  have hb : ∀ g, (x0.length + 1) + ((x1.map (bC g)).sum + 1) + ((x2.map fun s : List UInt8 => s.length + 1).sum + 1) + ((x3.map fun t : List (List UInt8) => (t.map fun s : List UInt8 => s.length + 1).sum + 1).sum + 1) ≤ 1048576 := hb
  have hb1 := hb 1
  have k1 := sum_gm (bC 1) x1 fun c _ => by rw [bC_eq]; omega
  have k2 := sum_gm (fun s : List UInt8 => s.length + 1) x2 fun s _ => by omega
  have k3 := sum_gm (fun t : List (List UInt8) => (t.map fun s : List UInt8 => s.length + 1).sum + 1) x3 fun s _ => by omega
  have hr : RB 3000000 (Rel.mk x0 x1 x2 []) := by
    refine ⟨show x0.length ≤ _ by omega, show x1.length ≤ _ by omega, fun c hc => ?_, show x2.length ≤ _ by omega, Nat.zero_le _, fun l hl => by cases hl⟩
    have hc : c ∈ x1 := hc
    have : bC 1 c ≤ (x1.map (bC 1)).sum := mem_sum (List.mem_map.2 ⟨c, hc, rfl⟩)
    rw [bC_eq] at this
    omega
  have ht : ∀ t ∈ x3, t.length ≤ 3000000 ∧ 1 + tw t ≤ 3000000 ∧ ∀ s ∈ t, s.length ≤ 3000000 := by
    intro t h
    have : (t.map fun s : List UInt8 => s.length + 1).sum + 1 ≤ (x3.map fun t : List (List UInt8) => (t.map fun s : List UInt8 => s.length + 1).sum + 1).sum := mem_sum (List.mem_map.2 ⟨t, h, rfl⟩)
    obtain ⟨t1, t2, t3⟩ := tw_le t
    exact ⟨by omega, by omega, fun s hs => by have := t3 s hs; omega⟩
  have hn := hB'.n1
  obtain ⟨c1, e, c2⟩ := check_ok hr hB'
  have s0 : ref2_SameRel n (Rel.mk [] [] [] []) (Rel.mk [] [] [] []) = some true := samerel_refl (B := 0) ⟨by simp, by simp, by simp, by simp, by simp, by simp⟩ (by omega) (by omega)
  have ld := loads_ok n (by omega)
  have z2 : decide ((List.length ([] : List Refused) : Int) = 0) = true := rfl
  have hL : load_Rows n x0 x1 x2 x3 = _ := load_Rows_eq n x0 x1 x2 x3
  rw [cloneC_ok n x1 (by omega), bind_some2, cloneS_ok n x2 (by omega), bind_some2, c2, bind_some2] at hL
  rw [law2_LoadRows_eq, ← c1, c2]
  by_cases he : e = 0
  · subst he
    rw [decide_eq_true rfl, Bool.not_true, cond_false] at hL
    by_cases hl : (x3.length : Int) > 1000
    · rw [decide_eq_true hl, cond_true] at hL
      rw [hL, bind_some2, bind_some2, decide_eq_true rfl, cond_true, decide_eq_true hl, cond_true, decide_eq_false (by decide : ¬ (2 : Int) = 0), Bool.not_false, cond_true, ld, bind_some2, cond_true, decide_eq_true rfl, cond_true, z2, cond_true, s0]
      rfl
    · rw [decide_eq_false hl, cond_false] at hL
      have f := load_Rows_l0_fold n x1 x3 (Rel.mk [] [] [] []) [] (Rel.mk x0 x1 x2 []) (by omega) n 0 (Nat.zero_le _) (by omega)
      rw [show ((0 : Nat) : Int) = 0 from rfl] at f
      obtain ⟨r', out', g1, g2, g3, g4, g5⟩ := rows_run hB hB' (by decide) (by decide) x1 x3 (by omega) ht (Rel.mk [] [] [] []) (Rel.mk [] [] [] []) x3.length 0 n (Rel.mk x0 x1 x2 []) [] (by omega) (by omega) (by simp) hr c2 rfl
      rw [show ((0 : Nat) : Int) = 0 from rfl] at g2
      have s1 : ref2_SameRel n r' r' = some true := samerel_refl g3 (by omega) (by omega)
      have hL2 : load_Rows n x0 x1 x2 x3 = some (r', out', 0) := hL.trans (f.trans g1)
      rw [hL2, bind_some2, bind_some2, decide_eq_true rfl, cond_true, decide_eq_false hl, cond_false, Bool.not_true, cond_false, ref2_Taken_eq, g2, bind_some2, ld, bind_some2, cond_true, cond_true]
      show Option.bind (ref2_SameRel n r' r') _ = _
      rw [s1, bind_some2, cond_true]
      show Option.bind (slices_Equal_Refused n out' out') _ = _
      rw [eqR_ok n out' (by omega) (by omega)]
      rfl
  · rw [decide_eq_false he, Bool.not_false, cond_true] at hL
    rw [hL, bind_some2, bind_some2, decide_eq_false he, cond_false, Bool.not_false, cond_true, ld, bind_some2, cond_true, decide_eq_true rfl, cond_true, z2, cond_true, s0]
    rfl
end Go.Proofs.YtbbiogeemhohaaaGreatDoor.PLoadRows
