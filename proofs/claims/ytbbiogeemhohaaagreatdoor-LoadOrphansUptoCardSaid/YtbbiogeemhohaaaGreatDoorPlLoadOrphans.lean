/- The plain law LoadOrphans. No condition. -/
import Derived.Test.YtbbiogeemhohaaaGreatDoorFnLoadOrphans
-- UPTO
set_option linter.unusedVariables false
set_option linter.unusedSimpArgs false
namespace Go.Proofs.YtbbiogeemhohaaaGreatDoor.PLoadOrphans
open Go Go.Proofs Go.Proofs.YtbbiogeemhohaaaGreatDoor.Fv


/-! ### Values: a measure, and an induction -/
mutual
def vw : ApiValue → Nat
  | ⟨_, _, s, fs⟩ => fw fs + s.length + 1
def fw : List ApiField → Nat
  | [] => 0
  | f :: r => gw f + fw r
def gw : ApiField → Nat
  | ⟨nm, v⟩ => nm.length + 1 + vw v
end
theorem vw_eq (v : ApiValue) : vw v = fw v.Fields + v.S.length + 1 := by cases v; simp [vw]
theorem gw_eq (f : ApiField) : gw f = f.Name.length + 1 + vw f.Val := by cases f; simp [gw]
theorem fw_mem {f : ApiField} : ∀ {l : List ApiField}, f ∈ l → gw f ≤ fw l
  | [], h => by simp at h
  | g :: l, h => by
    simp only [fw]
    rcases List.mem_cons.1 h with rfl | h
    · omega
    · have := fw_mem h; omega
theorem fw_len : ∀ l : List ApiField, l.length ≤ fw l
  | [] => by simp [fw]
  | f :: l => by have := fw_len l; have := gw_eq f; simp only [fw, List.length_cons]; omega
theorem vw_lt {v : ApiValue} {f : ApiField} (h : f ∈ v.Fields) : vw f.Val < vw v ∧ f.Name.length < vw v := by
  have h1 := fw_mem h
  have h2 := gw_eq f
  have h3 := vw_eq v
  omega
theorem vw_len (v : ApiValue) : v.Fields.length < vw v ∧ v.S.length < vw v := by
  have := fw_len v.Fields
  have := vw_eq v
  omega
theorem val_ind {P : ApiValue → Prop} (h : ∀ v : ApiValue, (∀ f ∈ v.Fields, P f.Val) → P v) : ∀ v, P v := by
  have key : ∀ (k : Nat) (v : ApiValue), vw v ≤ k → P v := by
    intro k
    induction k with
    | zero => intro v hv; have := vw_eq v; omega
    | succ k ih => exact fun v hv => h v fun f hf => ih f.Val (by have := (vw_lt hf).1; omega)
  exact fun v => key _ v (Nat.le_refl _)

/-! ### Loops that answer -/
theorem foldK_some {A S R : Type} (v : List A) {step : Nat → A → S → (S → Option R) → Option R} {fin : S → Option R}
    (h : ∀ i (hi : i < v.length) s K, (∀ s', (K s').isSome = true) → (step i v[i] s K).isSome = true) (hf : ∀ s, (fin s).isSome = true) :
    ∀ (c i : Nat), c = v.length - i → i ≤ v.length → ∀ s, (foldK step fin (v.drop i) i s).isSome = true := by
  intro c
  induction c with
  | zero =>
    intro i hc hi s
    rw [List.drop_eq_nil_of_le (by omega)]
    exact hf s
  | succ c ih =>
    intro i hc hi s
    rw [List.drop_eq_getElem_cons (by omega : i < v.length), foldK_cons]
    exact h i (by omega) s _ fun s' => ih (i + 1) (by omega) (by omega) s'
theorem foldK_par {A S S' R : Type} (v : List A) {step : Nat → A → S → (S → Option R) → Option R} {fin : S → Option R} {step' : Nat → A → S' → (S' → Option R) → Option R} {fin' : S' → Option R} (I : Nat → S → S' → Prop)
    (h : ∀ i (hi : i < v.length) s s' K K', I i s s' → (∀ t t', I (i + 1) t t' → K t = K' t') → step i v[i] s K = step' i v[i] s' K') (hf : ∀ s s', I v.length s s' → fin s = fin' s') :
    ∀ (c i : Nat), c = v.length - i → i ≤ v.length → ∀ s s', I i s s' → foldK step fin (v.drop i) i s = foldK step' fin' (v.drop i) i s' := by
  intro c
  induction c with
  | zero =>
    intro i hc hi s s' hI
    rw [List.drop_eq_nil_of_le (by omega)]
    exact hf s s' (by rwa [show v.length = i by omega])
  | succ c ih =>
    intro i hc hi s s' hI
    rw [List.drop_eq_getElem_cons (by omega : i < v.length), foldK_cons, foldK_cons]
    exact h i (by omega) s s' _ _ hI fun t t' ht => ih (i + 1) (by omega) (by omega) t t' ht
/-- A loop ends early, or each of its rounds went on. -/
theorem foldK_case {A S R : Type} (v : List A) {step : Nat → A → S → (S → Option R) → Option R} {fin : S → Option R} (I : Nat → S → Prop) (Q : Option R → Prop)
    (h : ∀ i (hi : i < v.length) s, I i s → (∃ e, Q e ∧ ∀ K, step i v[i] s K = e) ∨ ∃ s', I (i + 1) s' ∧ ∀ K, step i v[i] s K = K s') (hf : ∀ s, I v.length s → Q (fin s)) :
    ∀ (c i : Nat), c = v.length - i → i ≤ v.length → ∀ s, I i s → Q (foldK step fin (v.drop i) i s) := by
  intro c
  induction c with
  | zero =>
    intro i hc hi s hI
    rw [List.drop_eq_nil_of_le (by omega)]
    exact hf s (by rwa [show v.length = i by omega])
  | succ c ih =>
    intro i hc hi s hI
    rw [List.drop_eq_getElem_cons (by omega : i < v.length), foldK_cons]
    rcases h i (by omega) s hI with ⟨e, h1, h2⟩ | ⟨s', h1, h2⟩
    · rw [h2]; exact h1
    · rw [h2]; exact ih (i + 1) (by omega) (by omega) s' h1
theorem bind_some {α β : Type} {o : Option α} {f : α → Option β} (h : o.isSome = true) (hf : ∀ a, (f a).isSome = true) : (o.bind f).isSome = true := by
  obtain ⟨a, rfl⟩ := Option.isSome_iff_exists.1 h
  exact hf a
theorem cond_some {β : Type} {c : Bool} {a b : Option β} (ha : c = true → a.isSome = true) (hb : c = false → b.isSome = true) : (bif c then a else b).isSome = true := by
  cases c
  · exact hb rfl
  · exact ha rfl
theorem inR {i n : Nat} (h : i < n) : (decide (0 ≤ (i : Int)) && decide ((i : Int) < (n : Int))) = true := by
  simp only [Bool.and_eq_true, decide_eq_true_eq]; omega
theorem inR' {i n : Nat} (h : i ≤ n) : (decide (0 ≤ (i : Int)) && decide ((i : Int) ≤ (n : Int))) = true := by
  simp only [Bool.and_eq_true, decide_eq_true_eq]; omega
theorem inP {i n : Nat} (h0 : 0 < i) (h : i < n) (hn : n < 9223372036854775807) : (decide (0 ≤ (IntKind.wrap .i64 ((i : Int) - 1))) && decide ((IntKind.wrap .i64 ((i : Int) - 1)) < (n : Int))) = true ∧ Int.toNat (IntKind.wrap .i64 ((i : Int) - 1)) = i - 1 := by
  have e : IntKind.wrap .i64 ((i : Int) - 1) = ((i - 1 : Nat) : Int) := by
    rw [show (i : Int) - 1 = ((i - 1 + 1 : Nat) : Int) - 1 by omega]
    exact i64_pred (by omega)
  rw [e]
  exact ⟨inR (by omega), by simp⟩

/-! ### What answers on a value -/
theorem vname_some (n : Nat) (s : List UInt8) (hn : s.length < n) : (value_Name n s).isSome = true := by
  rw [value_Name_eq]
  refine cond_some (fun _ => rfl) fun h0 => cond_some (fun _ => rfl) fun h1 => ?_
  have hne : 0 < s.length := by
    cases s with
    | nil => cases h0
    | cons a l => simp
  have hle : s.length ≤ 16 := by have := of_decide_eq_false h1; omega
  have hr : (decide (0 ≤ (0 : Int)) && decide ((0 : Int) < (s.length : Int))) = true := by simp; omega
  rw [hr]
  refine cond_some (fun _ => cond_some (fun _ => rfl) fun _ => cond_some (fun _ => cond_some (fun _ => rfl) fun _ => ?_) fun h => by cases h) fun h => by cases h
  have hli : (ints s).length = s.length := by simp [ints]
  have := value_Name_l0_fold n (ints s) (by omega) n 0 (by omega) (by omega)
  rw [show ((0 : Nat) : Int) = 0 from rfl] at this
  rw [this]
  refine foldK_some _ (fun i hi s K hK => ?_) (fun _ => rfl) _ 0 rfl (Nat.zero_le _) _
  repeat' first | with_reducible exact hK _ | with_reducible exact Option.isSome_some | with_reducible refine cond_some (fun _ => ?_) fun _ => ?_
theorem vsize_some (n : Nat) : ∀ (d : Nat) (v : ApiValue), vw v ≤ d → vw v < n → vw v < 9223372036854775807 → (value_Size d n v).isSome = true
  | 0, v, h, _, _ => by have := vw_eq v; omega
  | d + 1, v, h, hn, hm => by
    rw [value_Size_eq]
    have hl := (vw_len v).1
    have := value_Size_l0_fold d n v.Fields 1 (by omega) n 0 (by omega) (by omega)
    rw [show ((0 : Nat) : Int) = 0 from rfl] at this
    rw [this]
    refine foldK_some _ (fun i hi s K hK => ?_) (fun _ => rfl) _ 0 rfl (Nat.zero_le _) _
    have := vw_lt (List.getElem_mem hi)
    exact bind_some (vsize_some n d _ (by omega) (by omega) (by omega)) fun r => hK _
theorem vdeep_some (n : Nat) : ∀ (d : Nat) (v : ApiValue), vw v ≤ d → vw v < n → vw v < 9223372036854775807 → (value_Deep d n v).isSome = true
  | 0, v, h, _, _ => by have := vw_eq v; omega
  | d + 1, v, h, hn, hm => by
    rw [value_Deep_eq]
    have hl := (vw_len v).1
    have := value_Deep_l0_fold d n v.Fields 0 (by omega) n 0 (by omega) (by omega)
    rw [show ((0 : Nat) : Int) = 0 from rfl] at this
    rw [this]
    refine foldK_some _ (fun i hi s K hK => ?_) (fun _ => rfl) _ 0 rfl (Nat.zero_le _) _
    have := vw_lt (List.getElem_mem hi)
    exact bind_some (vdeep_some n d _ (by omega) (by omega) (by omega)) fun r => hK _
theorem scalar_some (n : Nat) (k : Int) : (value_Scalar n k).isSome = true := by
  rw [value_Scalar_eq]
  repeat' first | with_reducible exact Option.isSome_some | with_reducible refine cond_some (fun _ => ?_) fun _ => ?_
theorem unused_some (n : Nat) (v : ApiValue) : (value_unused n v).isSome = true := by
  rw [value_unused_eq]
  repeat' first | with_reducible exact Option.isSome_some | (with_reducible refine bind_some (scalar_some n _) fun _ => ?_) | with_reducible refine cond_some (fun _ => ?_) fun _ => ?_
theorem number_some (n : Nat) (v : ApiValue) : (value_number n v).isSome = true := by
  rw [value_number_eq]
  repeat' first | with_reducible exact Option.isSome_some | with_reducible refine cond_some (fun _ => ?_) fun _ => ?_
theorem fidx_some (n : Nat) (l : List ApiField) (f : ApiField) (hl : l.length < 9223372036854775807) (hn : l.length < n) : (slices_ContainsFunc_Field_by_value_names_1 n l (f, ())).isSome = true := by
  rw [slices_ContainsFunc_Field_by_value_names_1_eq, slices_IndexFunc_Field_by_value_names_1_eq]
  refine bind_some ?_ fun _ => rfl
  have := slices_IndexFunc_Field_by_value_names_1_l0_fold n l f hl n 0 (by omega) (by omega)
  rw [show ((0 : Nat) : Int) = 0 from rfl] at this
  rw [this]
  refine foldK_some _ (fun i hi s K hK => ?_) (fun _ => rfl) _ 0 rfl (Nat.zero_le _) _
  rw [value_names_1_eq]
  exact bind_some rfl fun _ => cond_some (fun _ => rfl) fun _ => hK _
theorem names_some (n : Nat) (v : ApiValue) (hn : vw v < n) (hm : vw v < 9223372036854775807) : (value_names n v.Fields).isSome = true := by
  have hl := (vw_len v).1
  rw [value_names_eq]
  have := value_names_l0_fold n v.Fields v.Fields (by omega) n 0 (by omega) (by omega)
  rw [show ((0 : Nat) : Int) = 0 from rfl] at this
  rw [this]
  refine foldK_some _ (fun i hi s K hK => ?_) (fun _ => rfl) _ 0 rfl (Nat.zero_le _) _
  have := vw_lt (List.getElem_mem hi)
  refine bind_some (vname_some n _ (by omega)) fun r => cond_some (fun _ => rfl) fun _ => ?_
  rw [inR' (by omega : i ≤ v.Fields.length)]
  exact bind_some (fidx_some n _ _ (by simp; omega) (by simp; omega)) fun _ => cond_some (fun _ => rfl) fun _ => hK _
theorem keys_some (n : Nat) (v : ApiValue) (hn : vw v < n) (hm : vw v < 9223372036854775807) : (value_keys n v).isSome = true := by
  have hl := (vw_len v).1
  rw [value_keys_eq]
  have := value_keys_l0_fold n v.Fields v (by omega) n 0 (by omega) (by omega)
  rw [show ((0 : Nat) : Int) = 0 from rfl] at this
  rw [this]
  refine foldK_some _ (fun i hi s K hK => ?_) (fun _ => rfl) _ 0 rfl (Nat.zero_le _) _
  have key : 0 < i → (decide (0 ≤ (IntKind.wrap .i64 ((i : Int) - 1))) && decide ((IntKind.wrap .i64 ((i : Int) - 1)) < (v.Fields.length : Int))) = true := fun h => (inP h (by omega) (by omega)).1
  repeat' first | with_reducible exact hK _ | with_reducible exact Option.isSome_some | exact absurd ((key (by have h := of_decide_eq_true ‹decide ((i : Int) > 0) = true›; omega)).symm.trans ‹(decide (0 ≤ IntKind.wrap .i64 ((i : Int) - 1)) && decide (IntKind.wrap .i64 ((i : Int) - 1) < (v.Fields.length : Int))) = false›) (by decide) | with_reducible refine cond_some (fun _ => ?_) fun _ => ?_
theorem fields_some (n : Nat) (v : ApiValue) (hn : vw v < n) (hm : vw v < 9223372036854775807) : (value_fields n v).isSome = true := by
  rw [value_fields_eq]
  repeat' first | with_reducible exact Option.isSome_some | (with_reducible refine bind_some (names_some n v hn hm) fun _ => ?_) | (with_reducible refine bind_some (keys_some n v hn hm) fun _ => ?_) | with_reducible refine cond_some (fun _ => ?_) fun _ => ?_
theorem node_some (n : Nat) : ∀ (d : Nat) (v : ApiValue) (b : Bool), vw v ≤ d → vw v < n → vw v < 9223372036854775807 → (value_node d n v b).isSome = true
  | 0, v, b, h, _, _ => by have := vw_eq v; omega
  | d + 1, v, b, h, hn, hm => by
    have hl := (vw_len v).1
    have hloop : (value_node_l1 (d + 1) n n v.Fields (List.length v.Fields : Int) 0).isSome = true := by
      have := value_node_l1_fold d n v.Fields (by omega) n 0 (by omega) (by omega)
      rw [show ((0 : Nat) : Int) = 0 from rfl] at this
      rw [this]
      refine foldK_some _ (fun i hi s K hK => ?_) (fun _ => rfl) _ 0 rfl (Nat.zero_le _) _
      have := vw_lt (List.getElem_mem hi)
      exact bind_some (node_some n d _ _ (by omega) (by omega) (by omega)) fun r => cond_some (fun _ => rfl) fun _ => hK _
    rw [value_node_eq]
    repeat' first | with_reducible exact Option.isSome_some | with_reducible exact hloop | (with_reducible refine bind_some (unused_some n v) fun _ => ?_) | (with_reducible refine bind_some (number_some n v) fun _ => ?_) | (with_reducible refine bind_some (fields_some n v hn hm) fun _ => ?_) | with_reducible refine cond_some (fun _ => ?_) fun _ => ?_
theorem vcheck_some (n : Nat) (v : ApiValue) (hn : vw v < n) (hm : vw v < 9223372036854775807) : (value_Check n v).isSome = true := by
  rw [value_Check_eq]
  refine bind_some (vsize_some n n v (by omega) hn hm) fun _ => cond_some (fun _ => rfl) fun _ => bind_some (vdeep_some n n v (by omega) hn hm) fun _ => cond_some (fun _ => rfl) fun _ => bind_some (node_some n n v true (by omega) hn hm) fun _ => rfl

/-! ### The order of values -/
def icmp (x y : Int) : Int := bif decide (x < y) then -1 else bif decide (x > y) then 1 else 0
def or2 (a b : Int) : Int := bif !decide (a = 0) then a else b
def Tr3 (x y z : Int) : Prop := (x ≤ 0 → y ≤ 0 → z ≤ 0) ∧ (x ≤ 0 → y ≤ 0 → z = 0 → x = 0 ∧ y = 0) ∧ (x = 0 → y = 0 → z = 0)
theorem icmp_val (x y : Int) : (x < y ∧ icmp x y = -1) ∨ (x = y ∧ icmp x y = 0) ∨ (y < x ∧ icmp x y = 1) := by
  unfold icmp
  rcases Int.lt_trichotomy x y with h | h | h
  · exact .inl ⟨h, by simp [h]⟩
  · exact .inr (.inl ⟨h, by simp [h]⟩)
  · exact .inr (.inr ⟨h, by rw [decide_eq_false (by omega), decide_eq_true h]; rfl⟩)
theorem icmp_anti (x y : Int) : icmp y x = -icmp x y := by
  rcases icmp_val x y with ⟨h, e⟩ | ⟨h, e⟩ | ⟨h, e⟩ <;> rcases icmp_val y x with ⟨h', e'⟩ | ⟨h', e'⟩ | ⟨h', e'⟩ <;> omega
theorem icmp_tr (x y z : Int) : Tr3 (icmp x y) (icmp y z) (icmp x z) := by
  rcases icmp_val x y with ⟨h, e⟩ | ⟨h, e⟩ | ⟨h, e⟩ <;> rcases icmp_val y z with ⟨h', e'⟩ | ⟨h', e'⟩ | ⟨h', e'⟩ <;> rcases icmp_val x z with ⟨h2, e2⟩ | ⟨h2, e2⟩ | ⟨h2, e2⟩ <;>
    rw [e, e', e2] <;> refine ⟨?_, ?_, ?_⟩ <;> intros <;> first | omega | (refine ⟨?_, ?_⟩ <;> omega)
theorem or2_val (a b : Int) : (a ≠ 0 ∧ or2 a b = a) ∨ (a = 0 ∧ or2 a b = b) := by
  unfold or2
  by_cases h : a = 0
  · exact .inr ⟨h, by simp [h]⟩
  · exact .inl ⟨h, by simp [h]⟩
theorem or2_neg {a b a' b' : Int} (h : a' = -a) (h' : b' = -b) : or2 a' b' = -or2 a b := by
  rcases or2_val a b with ⟨h1, e⟩ | ⟨h1, e⟩ <;> rcases or2_val a' b' with ⟨h2, e'⟩ | ⟨h2, e'⟩ <;> omega
theorem or2_tr {x y z x' y' z' : Int} (h : Tr3 x y z) (h' : Tr3 x' y' z') : Tr3 (or2 x x') (or2 y y') (or2 z z') := by
  obtain ⟨a1, a2, a3⟩ := h
  obtain ⟨b1, b2, b3⟩ := h'
  rcases or2_val x x' with ⟨h1, e1⟩ | ⟨h1, e1⟩ <;> rcases or2_val y y' with ⟨h2, e2⟩ | ⟨h2, e2⟩ <;> rcases or2_val z z' with ⟨h3, e3⟩ | ⟨h3, e3⟩ <;>
    rw [e1, e2, e3] <;> refine ⟨?_, ?_, ?_⟩ <;> intros <;> first | omega | (refine ⟨?_, ?_⟩ <;> omega)
theorem cb_anti : ∀ a b : List UInt8, Go.Lib.compareBytes b a = -Go.Lib.compareBytes a b
  | [], [] => rfl
  | [], _ :: _ => rfl
  | _ :: _, [] => rfl
  | a :: xs, b :: ys => by
    simp only [Go.Lib.compareBytes]
    have := cb_anti xs ys
    by_cases h : a < b
    · have h2 : ¬ b < a := by rw [UInt8.lt_iff_toNat_lt] at h ⊢; omega
      rw [if_pos h, if_neg h2, if_pos h]; rfl
    · by_cases h2 : b < a
      · rw [if_pos h2, if_neg h, if_pos h2]
      · rw [if_neg h, if_neg h2, if_neg h2, if_neg h]; exact this
theorem cb_tr : ∀ a b c : List UInt8, Tr3 (Go.Lib.compareBytes a b) (Go.Lib.compareBytes b c) (Go.Lib.compareBytes a c)
  | [], [], [] => by simp [Go.Lib.compareBytes, Tr3]
  | [], [], _ :: _ => by simp [Go.Lib.compareBytes, Tr3]
  | [], _ :: _, [] => by simp [Go.Lib.compareBytes, Tr3]
  | [], _ :: _, _ :: _ => by simp [Go.Lib.compareBytes, Tr3]
  | _ :: _, [], [] => by simp [Go.Lib.compareBytes, Tr3]
  | _ :: _, [], _ :: _ => by simp [Go.Lib.compareBytes, Tr3]
  | _ :: _, _ :: _, [] => by simp [Go.Lib.compareBytes, Tr3]
  | a :: xs, b :: ys, c :: zs => by
    have ih := cb_tr xs ys zs
    have key : ∀ (a b : UInt8) (r : Int), (if a < b then (-1 : Int) else if b < a then 1 else r) = or2 (icmp a.toNat b.toNat) r := by
      intro a b r
      rcases icmp_val a.toNat b.toNat with ⟨h, e⟩ | ⟨h, e⟩ | ⟨h, e⟩
      · rw [if_pos (by rw [UInt8.lt_iff_toNat_lt]; omega), e]; rfl
      · rw [if_neg (by rw [UInt8.lt_iff_toNat_lt]; omega), if_neg (by rw [UInt8.lt_iff_toNat_lt]; omega), e]; rfl
      · rw [if_neg (by rw [UInt8.lt_iff_toNat_lt]; omega), if_pos (by rw [UInt8.lt_iff_toNat_lt]; omega), e]; rfl
    simp only [Go.Lib.compareBytes, key]
    exact or2_tr (icmp_tr _ _ _) ih

def ordF (x : Int) : Int := bif decide (x < 0) then IntKind.wrap .i64 ((-1 : Int) - (Fv.bits .and .i64 x 9223372036854775807)) else x
def keyN (v : ApiValue) : Int := bif decide (v.Kind = 3) then ordF v.N else v.N
mutual
def vcmp : ApiValue → ApiValue → Int
  | ⟨k, x, s, fs⟩, w => or2 (or2 (icmp k w.Kind) (or2 (icmp (bif decide (k = 3) then ordF x else x) (bif decide (k = 3) then ordF w.N else w.N)) (Go.Lib.compareBytes s w.S))) (fcmp fs w.Fields)
def fcmp : List ApiField → List ApiField → Int
  | [], l => bif l.isEmpty then 0 else -1
  | f :: r, l => match l with
    | [] => 1
    | g :: t => or2 (gcmp f g) (fcmp r t)
def gcmp : ApiField → ApiField → Int
  | ⟨nm, v⟩, g => or2 (Go.Lib.compareBytes nm g.Name) (vcmp v g.Val)
end
theorem vcmp_eq (v w : ApiValue) : vcmp v w = or2 (or2 (icmp v.Kind w.Kind) (or2 (icmp (bif decide (v.Kind = 3) then ordF v.N else v.N) (bif decide (v.Kind = 3) then ordF w.N else w.N)) (Go.Lib.compareBytes v.S w.S))) (fcmp v.Fields w.Fields) := by cases v; simp only [vcmp]
theorem gcmp_eq (f g : ApiField) : gcmp f g = or2 (Go.Lib.compareBytes f.Name g.Name) (vcmp f.Val g.Val) := by cases f; simp only [gcmp]
/-- The number by the kind of the one that has it. -/
theorem vcmp_key (v w : ApiValue) : vcmp v w = or2 (icmp v.Kind w.Kind) (or2 (or2 (icmp (keyN v) (keyN w)) (Go.Lib.compareBytes v.S w.S)) (fcmp v.Fields w.Fields)) := by
  rw [vcmp_eq]
  rcases icmp_val v.Kind w.Kind with ⟨h, e⟩ | ⟨h, e⟩ | ⟨h, e⟩
  · rw [e]; rfl
  · rw [e]
    unfold keyN
    rw [h]
    rfl
  · rw [e]; rfl
theorem vcmp_anti : ∀ v w : ApiValue, vcmp w v = -vcmp v w := by
  intro v
  refine val_ind (P := fun v => ∀ w, vcmp w v = -vcmp v w) (fun v ih w => ?_) v
  rw [vcmp_key v w, vcmp_key w v]
  refine or2_neg (icmp_anti _ _) (or2_neg (or2_neg (icmp_anti _ _) (cb_anti _ _)) ?_)
  have key : ∀ (l m : List ApiField), (∀ f ∈ l, ∀ w, vcmp w f.Val = -vcmp f.Val w) → fcmp m l = -fcmp l m := by
    intro l
    induction l with
    | nil => intro m _; cases m <;> simp [fcmp]
    | cons f l ihl =>
      intro m h
      cases m with
      | nil => simp [fcmp]
      | cons g m =>
        simp only [fcmp]
        refine or2_neg ?_ (ihl m fun x hx => h x (by simp [hx]))
        rw [gcmp_eq, gcmp_eq]
        exact or2_neg (cb_anti _ _) (h f (by simp) _)
  exact key _ _ ih
theorem vcmp_tr : ∀ v w x : ApiValue, Tr3 (vcmp v w) (vcmp w x) (vcmp v x) := by
  intro v
  refine val_ind (P := fun v => ∀ w x, Tr3 (vcmp v w) (vcmp w x) (vcmp v x)) (fun v ih w x => ?_) v
  rw [vcmp_key v w, vcmp_key w x, vcmp_key v x]
  refine or2_tr (icmp_tr _ _ _) (or2_tr (or2_tr (icmp_tr _ _ _) (cb_tr _ _ _)) ?_)
  have key : ∀ (l m p : List ApiField), (∀ f ∈ l, ∀ w x, Tr3 (vcmp f.Val w) (vcmp w x) (vcmp f.Val x)) → Tr3 (fcmp l m) (fcmp m p) (fcmp l p) := by
    intro l
    induction l with
    | nil => intro m p _; cases m <;> cases p <;> simp [fcmp, Tr3]
    | cons f l ihl =>
      intro m p h
      cases m with
      | nil => cases p <;> simp [fcmp, Tr3]
      | cons g m =>
        cases p with
        | nil => simp [fcmp, Tr3]
        | cons q p =>
          simp only [fcmp]
          refine or2_tr ?_ (ihl m p fun x hx => h x (by simp [hx]))
          rw [gcmp_eq, gcmp_eq, gcmp_eq]
          exact or2_tr (cb_tr _ _ _) (h f (by simp) _ _)
  exact key _ _ _ ih
theorem vcmp_refl (v : ApiValue) : vcmp v v = 0 := by have := vcmp_anti v v; omega

/-! ### The program's comparison -/
theorem compare_ok (n : Nat) (x y : Int) : cmp_Compare_int n x y = some (icmp x y) := by
  rw [cmp_Compare_int_eq, cmp_isNaN_int_eq, cmp_isNaN_int_eq]
  simp only [Option.bind_some, decide_true, Bool.not_true, cond_false]
  unfold icmp
  cases decide (x < y) <;> cases decide (x > y) <;> rfl
theorem or2_opt (a b : Int) : (bif !decide (a = 0) then some a else some b) = some (or2 a b) := by
  unfold or2
  cases decide (a = 0) <;> rfl
theorem or_ok (n : Nat) : ∀ l : List Int, l.length < n → l.length < 9223372036854775807 → cmp_Or_int n l = some (l.foldr or2 0) := by
  intro l hn hl
  rw [cmp_Or_int_eq]
  have := cmp_Or_int_l0_fold n 0 l hl n 0 (by omega) (by omega)
  rw [show ((0 : Nat) : Int) = 0 from rfl] at this
  rw [this, List.drop_zero]
  have key : ∀ (l : List Int) (i : Nat), foldK (S := Unit) (fun i (a : Int) s K => (bif (!decide (a = 0)) then (some a) else (K ()))) (fun s => (some (0 : Int))) l i () = some (l.foldr or2 0) := by
    intro l
    induction l with
    | nil => intro i; rfl
    | cons a l ih =>
      intro i
      rw [foldK_cons]
      dsimp only
      rw [ih, List.foldr_cons]
      exact or2_opt _ _
  exact key l 0
theorem or2_zero (a : Int) : or2 a 0 = a := by rcases or2_val a 0 with ⟨_, e⟩ | ⟨h, e⟩ <;> omega
theorem bind_ret {α : Type} (o : Option α) : (o.bind fun r => some r) = o := by cases o <;> rfl
theorem vcmp_ok (n : Nat) (hn3 : 3 < n) : ∀ (k : Nat) (v w : ApiValue) (d : Nat), vw v ≤ k → 3 * vw v ≤ d → vw v < n → vw v < 9223372036854775807 → value_Cmp d n v w = some (vcmp v w)
  | 0, v, w, d, h, _, _, _ => by have := vw_eq v; omega
  | k + 1, v, w, d, h, hd, hn, hm => by
    have hl := (vw_len v).1
    have hv0 := vw_eq v
    obtain ⟨d, rfl⟩ : ∃ e, d = e + 3 := ⟨d - 3, by omega⟩
    have hfun : slices_CompareFunc_Field_by_value_Cmp_1 (d + 2) n v.Fields w.Fields () = some (fcmp v.Fields w.Fields) := by
      rw [slices_CompareFunc_Field_by_value_Cmp_1_eq]
      have := slices_CompareFunc_Field_by_value_Cmp_1_l0_fold (d + 1) n v.Fields w.Fields v.Fields (by omega) n 0 (by omega) (by omega)
      rw [show ((0 : Nat) : Int) = 0 from rfl] at this
      rw [this]
      have key : ∀ (c i : Nat), c = v.Fields.length - i → i ≤ v.Fields.length → i ≤ w.Fields.length ∨ True → foldK (S := Unit) (fun i (a : ApiField) s K => (bif (decide ((i : Int) ≥ (List.length w.Fields : Int))) then (some 1) else (bif (decide (0 ≤ (i : Int)) && decide ((i : Int) < List.length w.Fields)) then (Option.bind (value_Cmp_1 (d + 1) n a (List.getD w.Fields (Int.toNat (i : Int)) (ApiField.mk [] (ApiValue.mk 0 0 [] [])))) fun r1 => (bif (!decide (r1 = 0)) then (some r1) else (K ()))) else none))) (fun s => (bif (decide ((List.length v.Fields : Int) < (List.length w.Fields : Int))) then (some (-1)) else (some 0))) (List.drop i v.Fields) i () = some (fcmp (v.Fields.drop i) (w.Fields.drop i)) := by
        intro c
        induction c with
        | zero =>
          intro i hc hi _
          rw [List.drop_eq_nil_of_le (by omega : v.Fields.length ≤ i), foldK_nil]
          by_cases h1 : v.Fields.length < w.Fields.length
          · rw [decide_eq_true (by omega), List.drop_eq_getElem_cons (by omega : i < w.Fields.length)]
            rfl
          · rw [decide_eq_false (by omega), List.drop_eq_nil_of_le (by omega : w.Fields.length ≤ i)]
            rfl
        | succ c ih =>
          intro i hc hi _
          have hlt : i < v.Fields.length := by omega
          rw [List.drop_eq_getElem_cons hlt, foldK_cons]
          by_cases h1 : i < w.Fields.length
          · rw [decide_eq_false (by omega), inR h1, cond_false, cond_true, show Int.toNat (i : Int) = i from rfl, getD_lt _ h1, List.drop_eq_getElem_cons h1, value_Cmp_1_eq]
            have hv := vw_lt (List.getElem_mem hlt)
            rw [vcmp_ok n hn3 k _ _ d (by omega) (by omega) (by omega) (by omega), Option.bind_some, or_ok n _ (by simp; omega) (by simp), Option.bind_some, Option.bind_some]
            dsimp only
            rw [ih (i + 1) (by omega) (by omega) (.inr trivial)]
            simp only [fcmp, List.foldr_cons, List.foldr_nil, or2_zero]
            rw [← gcmp_eq]
            exact or2_opt _ _
          · rw [decide_eq_true (by omega), List.drop_eq_nil_of_le (by omega : w.Fields.length ≤ i)]
            rfl
      exact key _ 0 rfl (Nat.zero_le _) (.inr trivial)
    rw [value_Cmp_eq, hfun, vcmp_eq, value_order_eq, value_order_eq]
    have e1 : ∀ x : Int, (bif (decide (x < 0)) then (some (IntKind.wrap .i64 ((-1 : Int) - (Fv.bits .and .i64 x 9223372036854775807)))) else (some x)) = some (ordF x) := fun x => by
      unfold ordF; cases decide (x < 0) <;> rfl
    rw [e1, e1]
    simp only [compare_ok, Option.bind_some]
    rw [or_ok n _ (by simp; omega) (by simp), or_ok n _ (by simp; omega) (by simp)]
    simp only [Option.bind_some, List.foldr_cons, List.foldr_nil, or2_zero]
    cases decide (v.Kind = 3) <;> exact or2_opt _ _

/-! ### Rows -/
def LV (l : List ApiValue) : ApiValue := ApiValue.mk 8 0 [] (l.map fun v => ApiField.mk [] v)
def lw (l : List ApiValue) : Nat := vw (LV l)
theorem lw_nil : lw [] = 1 := by simp [lw, LV, vw, fw]
theorem lw_cons (v : ApiValue) (l : List ApiValue) : lw (v :: l) = vw v + 1 + lw l := by
  simp [lw, LV, vw, fw, gw]; omega
theorem lw_len : ∀ l : List ApiValue, l.length < lw l
  | [] => by rw [lw_nil]; simp
  | v :: l => by have := lw_len l; rw [lw_cons, List.length_cons]; have := vw_eq v; omega
theorem lw_mem {v : ApiValue} : ∀ {l : List ApiValue}, v ∈ l → vw v < lw l
  | [], h => by simp at h
  | w :: l, h => by
    rw [lw_cons]
    rcases List.mem_cons.1 h with rfl | h
    · omega
    · have := lw_mem h; omega
def rcmp (a b : List ApiValue) : Int := vcmp (LV a) (LV b)
theorem rcmp_f (a b : List ApiValue) : rcmp a b = fcmp (a.map fun v => ApiField.mk [] v) (b.map fun v => ApiField.mk [] v) := by
  unfold rcmp
  rw [vcmp_eq]
  rfl
theorem rcmp_nn : rcmp [] [] = 0 := by rw [rcmp_f]; simp [fcmp]
theorem rcmp_nc (w : ApiValue) (b : List ApiValue) : rcmp [] (w :: b) = -1 := by rw [rcmp_f]; simp [fcmp]
theorem rcmp_cn (v : ApiValue) (a : List ApiValue) : rcmp (v :: a) [] = 1 := by rw [rcmp_f]; simp [fcmp]
theorem rcmp_cc (v w : ApiValue) (a b : List ApiValue) : rcmp (v :: a) (w :: b) = or2 (vcmp v w) (rcmp a b) := by
  rw [rcmp_f, rcmp_f]
  simp only [List.map_cons, fcmp, gcmp_eq]
  rfl
theorem rcmp_anti (a b : List ApiValue) : rcmp b a = -rcmp a b := vcmp_anti _ _
theorem rcmp_tr (a b c : List ApiValue) : Tr3 (rcmp a b) (rcmp b c) (rcmp a c) := vcmp_tr _ _ _
theorem rcmp_ok (n : Nat) (a b : List ApiValue) (h : 3 * lw a < n) (hm : lw a < 4611686018427387904) : rel_Cmp n a b = some (rcmp a b) := by
  have hl := lw_len a
  rw [rel_Cmp_eq]
  have hmn : mnI (a.length : Int) (b.length : Int) = ((min a.length b.length : Nat) : Int) := by
    unfold mnI
    by_cases h : b.length < a.length
    · rw [decide_eq_true (by omega), Nat.min_eq_right (by omega)]; rfl
    · rw [decide_eq_false (by omega), Nat.min_eq_left (by omega)]; rfl
  rw [hmn]
  have key : ∀ (c i m : Nat), c = min a.length b.length - i → i ≤ min a.length b.length → c < m → rel_Cmp_l0 n m a b ((min a.length b.length : Nat) : Int) (i : Int) = some (rcmp (a.drop i) (b.drop i)) := by
    intro c
    induction c with
    | zero =>
      intro i m hc hi hm'
      obtain ⟨m, rfl⟩ : ∃ k, m = k + 1 := ⟨m - 1, by omega⟩
      rw [rel_Cmp_l0_eq, decide_eq_false (by omega), cond_false, compare_ok, Option.bind_some]
      congr 1
      rcases Nat.lt_trichotomy a.length b.length with h1 | h1 | h1
      · rw [List.drop_eq_nil_of_le (by omega : a.length ≤ i), List.drop_eq_getElem_cons (by omega : i < b.length), rcmp_nc]
        rcases icmp_val a.length b.length with ⟨_, e⟩ | ⟨_, e⟩ | ⟨_, e⟩ <;> omega
      · rw [List.drop_eq_nil_of_le (by omega : a.length ≤ i), List.drop_eq_nil_of_le (by omega : b.length ≤ i), rcmp_nn]
        rcases icmp_val a.length b.length with ⟨_, e⟩ | ⟨_, e⟩ | ⟨_, e⟩ <;> omega
      · rw [List.drop_eq_getElem_cons (by omega : i < a.length), List.drop_eq_nil_of_le (by omega : b.length ≤ i), rcmp_cn]
        rcases icmp_val a.length b.length with ⟨_, e⟩ | ⟨_, e⟩ | ⟨_, e⟩ <;> omega
    | succ c ih =>
      intro i m hc hi hm'
      obtain ⟨m, rfl⟩ : ∃ k, m = k + 1 := ⟨m - 1, by omega⟩
      have h1 : i < a.length := by omega
      have h2 : i < b.length := by omega
      rw [rel_Cmp_l0_eq, decide_eq_true (by omega), inR h1, inR h2, cond_true, cond_true, cond_true, show Int.toNat (i : Int) = i from rfl, getD_lt _ h1, getD_lt _ h2]
      have hv := lw_mem (List.getElem_mem h1)
      rw [vcmp_ok n (by omega) _ _ _ n (Nat.le_refl _) (by omega) (by omega) (by omega), Option.bind_some, i64_succ (by omega), ih (i + 1) m (by omega) (by omega) (by omega), List.drop_eq_getElem_cons h1, List.drop_eq_getElem_cons h2, rcmp_cc]
      exact or2_opt _ _
  have := key _ 0 n rfl (Nat.zero_le _) (by omega)
  exact this
theorem appOK {α : Type} (s : List α) (x : α) (h : s.length < 4294967296) : (decide (List.length s = List.length s) && decide (List.length s + List.length [x] ≤ 4294967296)) = true := by
  rw [decide_eq_true (rfl : List.length s = List.length s), decide_eq_true (show List.length s + List.length [x] ≤ 4294967296 by simp only [List.length_singleton]; omega)]
  rfl
theorem order1_ok (n : Nat) (a : List ApiValue) (hn : a.length < n) (hm : a.length < 4294967296) : ref2_Order_1 n a = some (LV a) := by
  rw [ref2_Order_1_eq]
  have := ref2_Order_1_l0_fold n a (ApiValue.mk 0 0 [] []) 8 0 [] [] (by omega) n 0 (by omega) (by omega)
  rw [show ((0 : Nat) : Int) = 0 from rfl] at this
  rw [this, List.drop_zero]
  have key : ∀ (l : List ApiValue) (i : Nat) (s : List ApiField), s.length + l.length < 4294967296 → foldK (S := (List ApiField)) (fun i (a : ApiValue) s K => (bif (decide ((List.length s) = List.length s) && decide (List.length s + List.length ([(ApiField.mk [] a)] : List ApiField) ≤ 4294967296)) then (K (s ++ [(ApiField.mk [] a)])) else none)) (fun s => (some (ApiValue.mk 8 0 [] s))) l i s = some (ApiValue.mk 8 0 [] (s ++ l.map fun v => ApiField.mk [] v)) := by
    intro l
    induction l with
    | nil => intro i s _; simp [foldK]
    | cons v l ih =>
      intro i s hs
      rw [foldK_cons, appOK s _ (by omega), cond_true]
      dsimp only
      rw [ih (i + 1) _ (by simp at hs ⊢; omega)]
      simp
  exact key a 0 [] (by simpa using hm)
theorem order_ok (n : Nat) (a b : List ApiValue) (ha : 3 * lw a < n) (hb : b.length < n) (hma : lw a < 4611686018427387904) (hla : a.length < 4294967296) (hmb : b.length < 4294967296) : ref2_Order n a b = some (rcmp a b) := by
  have := lw_len a
  rw [ref2_Order_eq, order1_ok n a (by omega) (by omega), order1_ok n b hb hmb, Option.bind_some, Option.bind_some, vcmp_ok n (by omega) _ (LV a) _ n (Nat.le_refl _) (by have : lw a = vw (LV a) := rfl; omega) (by have : lw a = vw (LV a) := rfl; omega) (by have : lw a = vw (LV a) := rfl; omega), Option.bind_some]
  rfl

/-! ### Heads and rows -/
structure RB (B : Nat) (r : Rel) : Prop where
  nm : r.Name.length ≤ B
  cl : r.Cols.length ≤ B
  cn : ∀ c ∈ r.Cols, c.Name.length ≤ B
  kl : r.Key.length ≤ B
  rl : r.Rows.length ≤ B
  rw : ∀ l ∈ r.Rows, lw l ≤ B
theorem foldK_ix {A : Type} (p : A → Bool) (l : List A) : foldK (S := Unit) (fun i a _ K => bif p a then some (i : Int) else K ()) (fun _ => some (-1)) l 0 () = some (ixI p l) := by
  rw [foldK_idx]
  unfold ixI
  cases List.findIdx? p l <;> simp

theorem cidx_ok (n : Nat) (v : List Col) (c : Col) (hl : v.length < 9223372036854775807) (hn : v.length < n) : slices_ContainsFunc_Col_by_rel_head_1 n v (c, ()) = some (v.any fun a => a.Name == c.Name) := by
  have h := slices_IndexFunc_Col_by_rel_head_1_l0_fold n v c hl n 0 (Nat.zero_le _) (by omega)
  rw [show ((0 : Nat) : Int) = 0 from rfl] at h
  simp only [rel_head_1_eq, bind_some2] at h
  rw [slices_ContainsFunc_Col_by_rel_head_1_eq, slices_IndexFunc_Col_by_rel_head_1_eq, h, List.drop_zero, foldK_ix fun a : Col => a.Name == c.Name, bind_some2, ixI_pos]
theorem col_ok (n : Nat) (r : Rel) (s : List UInt8) (hl : r.Cols.length < 9223372036854775807) (hn : r.Cols.length < n) : rel_Col n r s = some (mxI 0 (ixI (fun a => a.Name == s) r.Cols), r.Cols.any fun a => a.Name == s) := by
  have h := slices_IndexFunc_Col_by_rel_Col_1_l0_fold n r.Cols s hl n 0 (Nat.zero_le _) (by omega)
  rw [show ((0 : Nat) : Int) = 0 from rfl] at h
  simp only [rel_Col_1_eq, bind_some2] at h
  rw [rel_Col_eq, slices_IndexFunc_Col_by_rel_Col_1_eq, h, List.drop_zero, foldK_ix fun a : Col => a.Name == s, bind_some2, ixI_pos]
theorem column_ok (n : Nat) (r : Rel) (s : List UInt8) (hl : r.Cols.length < 9223372036854775807) (hn : r.Cols.length < n) : ref2_column n r s = some (ixI (fun a => a.Name == s) r.Cols) := by
  have h := ref2_column_l0_fold n s r.Cols hl n 0 (Nat.zero_le _) (by omega)
  rw [show ((0 : Nat) : Int) = 0 from rfl] at h
  rw [ref2_column_eq, h, List.drop_zero, foldK_ix fun a : Col => a.Name == s]
theorem sindex_ok (n : Nat) (v : List (List UInt8)) (s : List UInt8) (hl : v.length < 9223372036854775807) (hn : v.length < n) : slices_Contains_string n v s = some (v.any fun a => s == a) := by
  have h := slices_Index_string_l0_fold n v s hl n 0 (Nat.zero_le _) (by omega)
  rw [show ((0 : Nat) : Int) = 0 from rfl] at h
  rw [slices_Contains_string_eq, slices_Index_string_eq, h, List.drop_zero, foldK_ix fun a : List UInt8 => s == a, bind_some2, ixI_pos]
theorem any_take {α : Type} (l : List α) (p : α → Bool) {i : Nat} (h : i < l.length) : (l.take (i + 1)).any p = ((l.take i).any p || p l[i]) := by
  rw [List.take_succ_eq_append_getElem h, List.any_append]
  simp
theorem seen_set {A : Type} {l : List A} {nm : A → List UInt8} {i : Nat} (hi : i < l.length) {w : List (List UInt8 × Bool)} (hI : ∀ s, has w s = (l.take i).any fun a => nm a == s) (s : List UInt8) : has (smset (nm l[i]) true w) s = (l.take (i + 1)).any fun a => nm a == s := by
  rw [has_set, any_take _ _ hi, hI]
  by_cases he : s = nm l[i]
  · rw [if_pos he]; simp [he]
  · rw [if_neg he]
    have : (nm l[i] == s) = false := by simpa using fun h => he h.symm
    rw [this, Bool.or_false]
abbrev KeyIn (r : Rel) (k : List UInt8) : Prop := (r.Cols.any fun a => a.Name == k) = true
theorem beq_sym (a b : List UInt8) : (a == b) = (b == a) := by
  by_cases h : a = b
  · simp [h]
  · rw [show (a == b) = false by simpa using h, show (b == a) = false by simpa using fun e => h e.symm]
theorem keys_par {n : Nat} {r : Rel} (hc : r.Cols.length < 4294967296) (hk : r.Key.length < 4294967296) (hcn : r.Cols.length < n) (hkn : r.Key.length < n) {w : List (List UInt8 × Bool)} (hI : ∀ s, has w s = r.Cols.any fun a => a.Name == s) :
    rel_head_l4 n n r.Key (List.length r.Key : Int) 0 r = ref2_HeadErr_l3 n n r.Key (List.length r.Key : Int) 0 w [] := by
  have f3 := rel_head_l4_fold n r.Key r (by omega) n 0 (Nat.zero_le _) (by omega)
  have f4 := ref2_HeadErr_l3_fold n r.Key w [] (by omega) n 0 (Nat.zero_le _) (by omega)
  rw [show ((0 : Nat) : Int) = 0 from rfl] at f3 f4
  rw [f3, f4]
  refine foldK_par r.Key (S := Unit) (S' := List (List UInt8 × Bool)) (fun i _ u => ∀ s, has u s = (r.Key.take i).any fun a => a == s) ?_ (fun _ _ _ => rfl) _ 0 rfl (Nat.zero_le _) _ _ (by intro s; rfl)
  intro i hi s u K K' hJ hK
  rw [col_ok n r _ (by omega) (by omega), inR' (by omega : i ≤ r.Key.length), show Int.toNat (i : Int) = i from rfl, sindex_ok n _ _ (by simp; omega) (by simp; omega), mgetD_s, mgetD_s, mset_s, hI, hJ]
  simp only [bind_some2, cond_true]
  rw [show (fun a : List UInt8 => r.Key[i] == a) = fun a => a == r.Key[i] from funext fun a => beq_sym _ _]
  cases r.Cols.any fun a => a.Name == r.Key[i] with
  | false => simp only [Bool.not_false, cond_true]
  | true =>
    cases (r.Key.take i).any fun a => a == r.Key[i] with
    | true => simp only [Bool.not_true, cond_true, cond_false]
    | false =>
      simp only [Bool.not_true, cond_false]
      exact hK _ _ fun s => seen_set (nm := fun a => a) hi hJ s
theorem keys_case {n : Nat} {r : Rel} (hc : r.Cols.length < 4294967296) (hk : r.Key.length < 4294967296) (hcn : r.Cols.length < n) (hkn : r.Key.length < n) :
    ∃ e : Int, rel_head_l4 n n r.Key (List.length r.Key : Int) 0 r = some e ∧ (e = 0 → ∀ k ∈ r.Key, KeyIn r k) := by
  have f3 := rel_head_l4_fold n r.Key r (by omega) n 0 (Nat.zero_le _) (by omega)
  rw [show ((0 : Nat) : Int) = 0 from rfl] at f3
  rw [f3]
  refine foldK_case r.Key (S := Unit) (fun i _ => ∀ k ∈ r.Key.take i, KeyIn r k) (fun o => ∃ e : Int, o = some e ∧ (e = 0 → ∀ k ∈ r.Key, KeyIn r k)) ?_ ?_ _ 0 rfl (Nat.zero_le _) _ (by simp)
  · intro i hi s hI
    rw [col_ok n r _ (by omega) (by omega), inR' (by omega : i ≤ r.Key.length), show Int.toNat (i : Int) = i from rfl, sindex_ok n _ _ (by simp; omega) (by simp; omega)]
    simp only [bind_some2, cond_true]
    cases hc : r.Cols.any fun a => a.Name == r.Key[i] with
    | false => exact .inl ⟨some 15, ⟨_, rfl, fun h => by omega⟩, fun _ => by simp only [Bool.not_false, cond_true]⟩
    | true =>
      cases (r.Key.take i).any fun a => r.Key[i] == a with
      | true => exact .inl ⟨some 5, ⟨_, rfl, fun h => by omega⟩, fun _ => by simp only [Bool.not_true, cond_true, cond_false]⟩
      | false =>
        refine .inr ⟨(), fun k hk => ?_, fun _ => by simp only [Bool.not_true, cond_false]⟩
        rw [List.take_succ_eq_append_getElem hi] at hk
        rcases List.mem_append.1 hk with hk | hk
        · exact hI k hk
        · rw [List.mem_singleton.1 hk]; exact hc
  · intro s hI
    exact ⟨0, rfl, fun _ => by rwa [List.take_length] at hI⟩
theorem cols_par {n : Nat} {r : Rel} (hc : r.Cols.length < 4294967296) (hk : r.Key.length < 4294967296) (hcn : r.Cols.length < n) (hkn : r.Key.length < n) (hs : ∀ c ∈ r.Cols, c.Name.length < n) :
    rel_head_l1 n n r.Cols (List.length r.Cols : Int) 0 r = ref2_HeadErr_l0 n n r.Cols (List.length r.Cols : Int) 0 r [] [] := by
  have f1 := rel_head_l1_fold n r.Cols r (by omega) n 0 (Nat.zero_le _) (by omega)
  have f2 := ref2_HeadErr_l0_fold n r.Cols r [] [] (by omega) n 0 (Nat.zero_le _) (by omega)
  rw [show ((0 : Nat) : Int) = 0 from rfl] at f1 f2
  rw [f1, f2]
  refine foldK_par r.Cols (S := Unit) (S' := List (List UInt8 × Bool)) (fun i _ w => ∀ s, has w s = (r.Cols.take i).any fun a => a.Name == s) ?_ ?_ _ 0 rfl (Nat.zero_le _) _ _ (by intro s; rfl)
  · intro i hi s w K K' hI hK
    have hm := List.getElem_mem hi
    obtain ⟨b2, hb2⟩ := Option.isSome_iff_exists.1 (vname_some n r.Cols[i].Name (hs _ hm))
    rw [hb2, inR' (by omega : i ≤ r.Cols.length), show Int.toNat (i : Int) = i from rfl, cidx_ok n _ _ (by simp; omega) (by simp; omega), rel_Column_eq, mgetD_s, mset_s, hI]
    simp only [bind_some2, cond_true]
    cases b2 with
    | false => simp only [Bool.not_false, cond_true]
    | true =>
      simp only [Bool.not_true, cond_false]
      cases (r.Cols.take i).any fun a => a.Name == r.Cols[i].Name with
      | true => simp only [cond_true]
      | false =>
        simp only [cond_false]
        by_cases hk1 : r.Cols[i].Kind < 1
        · rw [decide_eq_false (by omega : ¬ r.Cols[i].Kind ≥ 1), decide_eq_true hk1]; simp only [bind_some2, cond_false, Bool.not_false, cond_true]
        · rw [decide_eq_true (by omega : r.Cols[i].Kind ≥ 1), decide_eq_false hk1]
          by_cases hk2 : r.Cols[i].Kind > 5
          · rw [decide_eq_false (by omega : ¬ r.Cols[i].Kind ≤ 5), decide_eq_true hk2]; simp only [bind_some2, cond_true, cond_false, Bool.not_false]
          · rw [decide_eq_true (by omega : r.Cols[i].Kind ≤ 5), decide_eq_false hk2]
            simp only [cond_true, cond_false, bind_some2, Bool.not_true]
            exact hK _ _ fun s => seen_set (nm := fun a : Col => a.Name) hi hI s
  · intro _ w hI
    exact keys_par hc hk hcn hkn (by rwa [List.take_length] at hI)
theorem cols_case {n : Nat} {r : Rel} (hc : r.Cols.length < 4294967296) (hk : r.Key.length < 4294967296) (hcn : r.Cols.length < n) (hkn : r.Key.length < n) (hs : ∀ c ∈ r.Cols, c.Name.length < n) :
    ∃ e : Int, rel_head_l1 n n r.Cols (List.length r.Cols : Int) 0 r = some e ∧ (e = 0 → ∀ k ∈ r.Key, KeyIn r k) := by
  have f1 := rel_head_l1_fold n r.Cols r (by omega) n 0 (Nat.zero_le _) (by omega)
  rw [show ((0 : Nat) : Int) = 0 from rfl] at f1
  rw [f1]
  refine foldK_case r.Cols (S := Unit) (fun _ _ => True) (fun o => ∃ e : Int, o = some e ∧ (e = 0 → ∀ k ∈ r.Key, KeyIn r k)) ?_ (fun _ _ => keys_case hc hk hcn hkn) _ 0 rfl (Nat.zero_le _) _ trivial
  intro i hi s _
  have hm := List.getElem_mem hi
  obtain ⟨b2, hb2⟩ := Option.isSome_iff_exists.1 (vname_some n r.Cols[i].Name (hs _ hm))
  rw [hb2, inR' (by omega : i ≤ r.Cols.length), show Int.toNat (i : Int) = i from rfl, cidx_ok n _ _ (by simp; omega) (by simp; omega), rel_Column_eq]
  simp only [bind_some2, cond_true]
  cases b2 with
  | false => exact .inl ⟨some 15, ⟨_, rfl, fun h => by omega⟩, fun _ => by simp only [Bool.not_false, cond_true]⟩
  | true =>
    cases (r.Cols.take i).any fun a => a.Name == r.Cols[i].Name with
    | true => exact .inl ⟨some 5, ⟨_, rfl, fun h => by omega⟩, fun _ => by simp only [Bool.not_true, cond_false, cond_true]⟩
    | false =>
      cases decide (r.Cols[i].Kind ≥ 1) with
      | false => exact .inl ⟨some 8, ⟨_, rfl, fun h => by omega⟩, fun _ => by simp only [Bool.not_true, Bool.not_false, cond_false, cond_true, bind_some2]⟩
      | true =>
        cases decide (r.Cols[i].Kind ≤ 5) with
        | false => exact .inl ⟨some 8, ⟨_, rfl, fun h => by omega⟩, fun _ => by simp only [Bool.not_true, Bool.not_false, cond_false, cond_true, bind_some2]⟩
        | true => exact .inr ⟨(), trivial, fun _ => by simp only [Bool.not_true, cond_false, cond_true, bind_some2]⟩
/-- Both heads answer alike, and where they are right each key has its column. -/
theorem head_ok {B n : Nat} {r : Rel} (hr : RB B r) (hB : B < 4294967296) (hn : B < n) : rel_head n r = ref2_HeadErr n r ∧ ∃ e : Int, rel_head n r = some e ∧ (e = 0 → ∀ k ∈ r.Key, KeyIn r k) := by
  have h1 := hr.cl
  have h2 := hr.kl
  have hs : ∀ c ∈ r.Cols, c.Name.length < n := fun c hc => by have := hr.cn c hc; omega
  obtain ⟨b, hb⟩ := Option.isSome_iff_exists.1 (vname_some n r.Name (by have := hr.nm; omega))
  rw [rel_head_eq, ref2_HeadErr_eq, hb, bind_some2, bind_some2, cols_par (by omega) (by omega) (by omega) (by omega) hs]
  refine ⟨rfl, ?_⟩
  rw [← cols_par (by omega) (by omega) (by omega) (by omega) hs]
  cases b with
  | false => exact ⟨15, by simp only [Bool.not_false, cond_true], fun h => by omega⟩
  | true =>
    simp only [Bool.not_true, cond_false]
    cases decide ((r.Cols.length : Int) = 0) with
    | true => exact ⟨3, by simp only [cond_true], fun h => by omega⟩
    | false =>
      cases decide ((r.Cols.length : Int) > 12) with
      | true => exact ⟨2, by simp only [cond_true, cond_false], fun h => by omega⟩
      | false =>
        simp only [cond_false]
        exact cols_case (by omega) (by omega) (by omega) (by omega) hs

theorem row_ok {n : Nat} {r : Rel} {l : List ApiValue} (hl : lw l < 4294967296) (hn : lw l < n) : rel_row n r l = ref2_RowErr n r l ∧ ∃ e : Int, rel_row n r l = some e ∧ (e = 0 → l.length = r.Cols.length) := by
  have hll := lw_len l
  rw [rel_row_eq, ref2_RowErr_eq]
  by_cases hc : l.length = r.Cols.length
  · rw [decide_eq_true (by omega : (l.length : Int) = (r.Cols.length : Int)), decide_eq_true (by omega : (r.Cols.length : Int) = (l.length : Int))]
    simp only [Bool.not_true, cond_false]
    have f1 := rel_row_l0_fold n l r (by omega) n 0 (Nat.zero_le _) (by omega)
    have f2 := ref2_RowErr_l0_fold n l r (by omega) n 0 (Nat.zero_le _) (by omega)
    rw [show ((0 : Nat) : Int) = 0 from rfl] at f1 f2
    rw [f1, f2]
    have chk : ∀ i (hi : i < l.length), ∃ e, value_Check n l[i] = some e := fun i hi => by
      have := lw_mem (List.getElem_mem hi)
      exact Option.isSome_iff_exists.1 (vcheck_some n _ (by omega) (by omega))
    constructor
    · refine foldK_par l (S := Unit) (S' := Unit) (fun _ _ _ => True) ?_ (fun _ _ _ => rfl) _ 0 rfl (Nat.zero_le _) _ _ trivial
      intro i hi s s' K K' _ hK
      obtain ⟨e, he⟩ := chk i hi
      rw [he, inR hi, inR (by omega : i < r.Cols.length)]
      simp only [bind_some2, cond_true]
      by_cases h0 : e = 0
      · rw [decide_eq_true h0]
        simp only [Bool.not_true, cond_false, cond_true]
        cases decide (l[i].Kind = (List.getD r.Cols (Int.toNat (i : Int)) (Col.mk [] 0)).Kind) <;> cases decide (l[i].Kind = 11) <;> simp only [Bool.not_true, Bool.not_false, cond_true, cond_false] <;> first | exact hK _ _ trivial | (rw [decide_eq_false (by omega : ¬ (8 : Int) = 0)]; simp only [Bool.not_false, cond_true])
      · rw [decide_eq_false h0]
        simp only [Bool.not_false, cond_true, cond_false]
    · refine foldK_case l (S := Unit) (fun _ _ => True) (fun o => ∃ e : Int, o = some e ∧ (e = 0 → l.length = r.Cols.length)) ?_ (fun _ _ => ⟨0, rfl, fun _ => hc⟩) _ 0 rfl (Nat.zero_le _) _ trivial
      intro i hi s _
      obtain ⟨e, he⟩ := chk i hi
      rw [he, inR (by omega : i < r.Cols.length)]
      simp only [bind_some2, cond_true]
      cases decide (e = 0) with
      | false => exact .inl ⟨some e, ⟨e, rfl, fun _ => hc⟩, fun _ => by simp only [Bool.not_false, cond_true]⟩
      | true =>
        cases decide (l[i].Kind = (List.getD r.Cols (Int.toNat (i : Int)) (Col.mk [] 0)).Kind) with
        | true => exact .inr ⟨(), trivial, fun _ => by simp only [Bool.not_true, cond_false]⟩
        | false => cases decide (l[i].Kind = 11) with
          | true => exact .inr ⟨(), trivial, fun _ => by simp only [Bool.not_true, Bool.not_false, cond_true, cond_false]⟩
          | false => exact .inl ⟨some 8, ⟨8, rfl, fun _ => hc⟩, fun _ => by simp only [Bool.not_true, Bool.not_false, cond_true, cond_false]⟩
  · rw [decide_eq_false (by omega : ¬ (l.length : Int) = (r.Cols.length : Int)), decide_eq_false (by omega : ¬ (r.Cols.length : Int) = (l.length : Int))]
    simp only [Bool.not_false, cond_true]
    exact ⟨trivial, 3, rfl, fun h => by omega⟩

/-! ### Keys of rows -/
/-- The value of a row under a key. -/
def kval (r : Rel) (l : List ApiValue) (k : List UInt8) : ApiValue := l.getD (r.Cols.findIdx fun a => a.Name == k) (ApiValue.mk 0 0 [] [])
def keyOf (r : Rel) (l : List ApiValue) : List ApiValue := r.Key.map (kval r l)
theorem kidx {r : Rel} {k : List UInt8} (h : KeyIn r k) : ixI (fun a => a.Name == k) r.Cols = ((r.Cols.findIdx fun a => a.Name == k : Nat) : Int) ∧ (r.Cols.findIdx fun a => a.Name == k) < r.Cols.length := by
  refine ⟨by rw [ixI_eq, if_pos h], List.findIdx_lt_length_of_exists ?_⟩
  obtain ⟨c, h1, h2⟩ := List.any_eq_true.1 h
  exact ⟨c, h1, h2⟩
theorem kval_mem {r : Rel} {l : List ApiValue} {k : List UInt8} (h : KeyIn r k) (hl : l.length = r.Cols.length) : kval r l k ∈ l := by
  obtain ⟨_, h2⟩ := kidx h
  unfold kval
  rw [List.getD_of_lt _ _ _ (by omega)]
  exact List.getElem_mem _
theorem agree1_ok {B n : Nat} {r : Rel} (hr : RB B r) (hB : B < 4294967296) (hn : 3 * B + 10 < n) {a b : List ApiValue} (ha : a ∈ r.Rows) (hla : a.length = r.Cols.length) (hlb : b.length = r.Cols.length) {k : List UInt8} (hk : KeyIn r k) :
    rel_agree_1 n k r a b = some (!decide (vcmp (kval r a k) (kval r b k) = 0)) := by
  have h1 := hr.cl
  obtain ⟨e, hlt⟩ := kidx hk
  have hmx : mxI 0 (ixI (fun a => a.Name == k) r.Cols) = ((r.Cols.findIdx fun a => a.Name == k : Nat) : Int) := by
    rw [e]
    unfold mxI
    cases r.Cols.findIdx fun a => a.Name == k with
    | zero => rfl
    | succ j => rw [decide_eq_true (by omega)]; rfl
  rw [rel_agree_1_eq, col_ok n r k (by omega) (by omega)]
  simp only [bind_some2]
  rw [hmx, inR (by omega : _ < a.length), inR (by omega : _ < b.length), cond_true, cond_true, value_Same_eq]
  have hv := lw_mem (kval_mem hk hla)
  have hw := hr.rw a ha
  show Option.bind (Option.bind (value_Cmp n n (kval r a k) (kval r b k)) _) _ = _
  rw [vcmp_ok n (by omega) _ _ _ n (Nat.le_refl _) (by omega) (by omega) (by omega)]
  rfl
theorem agree_ok {B n : Nat} {r : Rel} (hr : RB B r) (hB : B < 4294967296) (hn : 3 * B + 10 < n) (hk : ∀ k ∈ r.Key, KeyIn r k) {a b : List ApiValue} (ha : a ∈ r.Rows) (hla : a.length = r.Cols.length) (hlb : b.length = r.Cols.length) :
    rel_agree n r a b = some (decide (rcmp (keyOf r a) (keyOf r b) = 0)) := by
  have h1 := hr.kl
  have h := slices_IndexFunc_string_by_rel_agree_1_l0_fold n r.Key r a b (by omega) n 0 (Nat.zero_le _) (by omega)
  rw [show ((0 : Nat) : Int) = 0 from rfl] at h
  rw [rel_agree_eq, slices_ContainsFunc_string_by_rel_agree_1_eq, slices_IndexFunc_string_by_rel_agree_1_eq]
  simp only []
  rw [h, List.drop_zero]
  have e : foldK (S := Unit) (fun i (x : (List UInt8)) s K => (Option.bind (rel_agree_1 n x r a b) fun r1 => (bif r1 then (some (i : Int)) else (K ())))) (fun s => (some (-1))) r.Key 0 () = foldK (S := Unit) (fun i x _ K => bif !decide (vcmp (kval r a x) (kval r b x) = 0) then some (i : Int) else K ()) (fun _ => some (-1)) r.Key 0 () :=
    foldK_congr (fun _ => rfl) r.Key 0 () fun i x s K hx => by rw [agree1_ok hr hB hn ha hla hlb (hk x hx), bind_some2]
  rw [e, foldK_ix fun x => !decide (vcmp (kval r a x) (kval r b x) = 0), bind_some2, bind_some2, ixI_pos]
  have key : ∀ l : List (List UInt8), (!l.any fun x => !decide (vcmp (kval r a x) (kval r b x) = 0)) = decide (rcmp (l.map (kval r a)) (l.map (kval r b)) = 0) := by
    intro l
    induction l with
    | nil => simp [rcmp_nn]
    | cons x l ih =>
      rw [List.any_cons, List.map_cons, List.map_cons, rcmp_cc, Bool.not_or, Bool.not_not, ih, ← Bool.decide_and]
      congr 1
      rcases or2_val (vcmp (kval r a x) (kval r b x)) (rcmp (l.map (kval r a)) (l.map (kval r b))) with ⟨h1, h2⟩ | ⟨h1, h2⟩ <;> rw [h2] <;> simp [h1]
  rw [key]
  rfl
theorem keyOf_ok {B n : Nat} {r : Rel} (hr : RB B r) (hB : B < 4294967295) (hn : B < n) (hk : ∀ k ∈ r.Key, KeyIn r k) {l : List ApiValue} (hl : l.length = r.Cols.length) : ref2_keyOf n r l = some (keyOf r l) := by
  have h1 := hr.kl
  have h2 := hr.cl
  have h := ref2_keyOf_l0_fold n l r.Key r [] (by omega) n 0 (Nat.zero_le _) (by omega)
  rw [show ((0 : Nat) : Int) = 0 from rfl] at h
  rw [ref2_keyOf_eq, h, List.drop_zero]
  have key : ∀ (m : List (List UInt8)) (i : Nat) (s : List ApiValue), (∀ k ∈ m, KeyIn r k) → s.length + m.length < 4294967296 → foldK (S := (List ApiValue)) (fun i (a : (List UInt8)) s K => (Option.bind (ref2_column n r a) fun r1 => (bif (decide (0 ≤ r1) && decide (r1 < List.length l)) then (bif (decide ((List.length s) = List.length s) && decide (List.length s + List.length ([(List.getD l (Int.toNat r1) (ApiValue.mk 0 0 [] []))] : List ApiValue) ≤ 4294967296)) then (K (s ++ [(List.getD l (Int.toNat r1) (ApiValue.mk 0 0 [] []))])) else none) else none))) (fun s => (some s)) m i s = some (s ++ m.map (kval r l)) := by
    intro m
    induction m with
    | nil => intro i s _ _; simp [foldK]
    | cons k m ih =>
      intro i s hk hs
      obtain ⟨e, hlt⟩ := kidx (hk k (by simp))
      rw [foldK_cons, column_ok n r k (by omega) (by omega), bind_some2, e, inR (by omega : _ < l.length), cond_true, appOK s _ (by simp at hs; omega), cond_true]
      dsimp only
      rw [ih (i + 1) _ (fun k hk' => hk k (by simp [hk'])) (by simp at hs ⊢; omega)]
      simp [kval]
  exact key r.Key 0 [] hk (by simp; omega)

/-! ### Keys that are alike -/
theorem sortO_ord {A : Type} (cmp : A → A → Option Int) (c : A → A → Int) (ha : ∀ a b, c b a = -c a b) (ht : ∀ a b d, Tr3 (c a b) (c b d) (c a d)) (xs : List A) (hl : xs.length < 4611686018427387904) (h : ∀ a ∈ xs, ∀ b ∈ xs, cmp a b = some (c a b)) :
    ∃ ys, sortO cmp xs = some ys ∧ ys.Perm xs ∧ ys.Pairwise fun a b => c a b ≤ 0 := by
  cases xs with
  | nil => exact ⟨[], rfl, .nil, .nil⟩
  | cons x t =>
    have hcf : ∀ i j : Fin (t.length + 1), cmp ((x :: t).get i) ((x :: t).get j) = some (cfOf cmp x t i j) ∧ cfOf cmp x t i j = c ((x :: t).get i) ((x :: t).get j) := by
      intro i j
      have h1 := h _ (List.get_mem (x :: t) i) _ (List.get_mem (x :: t) j)
      have e : cfOf cmp x t i j = c ((x :: t).get i) ((x :: t).get j) := by
        show (cmp ((x :: t).get i) ((x :: t).get j)).getD 0 = _
        rw [h1]
        rfl
      rw [e]
      exact ⟨h1, rfl⟩
    have hlt : ∀ i j : Fin (t.length + 1), ltI (cfOf cmp x t) i j = decide (c ((x :: t).get i) ((x :: t).get j) < 0) := by
      intro i j
      show decide (cfOf cmp x t i j < 0) = _
      rw [(hcf i j).2]
    have hswo : Go.Sort.SWO (ltI (cfOf cmp x t)) := by
      refine ⟨fun i => ?_, fun i j k h1 h2 => ?_, fun i j k h1 h2 => ?_⟩
      · rw [hlt]
        have := ha ((x :: t).get i) ((x :: t).get i)
        exact decide_eq_false (by omega)
      · rw [hlt] at h1 h2 ⊢
        have h1 := of_decide_eq_true h1
        have h2 := of_decide_eq_true h2
        obtain ⟨t1, t2, _⟩ := ht ((x :: t).get i) ((x :: t).get j) ((x :: t).get k)
        have t1 := t1 (by omega) (by omega)
        have t2 := t2 (by omega) (by omega)
        exact decide_eq_true (by omega)
      · rw [hlt] at h1 h2 ⊢
        have h1 := of_decide_eq_false h1
        have h2 := of_decide_eq_false h2
        obtain ⟨t1, t2, _⟩ := ht ((x :: t).get k) ((x :: t).get j) ((x :: t).get i)
        have a1 := ha ((x :: t).get i) ((x :: t).get j)
        have a2 := ha ((x :: t).get j) ((x :: t).get k)
        have a3 := ha ((x :: t).get i) ((x :: t).get k)
        have t1 := t1 (by omega) (by omega)
        exact decide_eq_false (by omega)
    obtain ⟨p1, p2, p3⟩ := swo_pdq hswo
    refine ⟨(pdqL (cfOf cmp x t)).map fun i => (x :: t).get i, ?_, ?_, ?_⟩
    · rw [sortO, if_pos ⟨by simpa using hl, fun i j => by rw [(hcf i j).1]; rfl, hswo⟩]
    · have e : (List.ofFn (n := t.length + 1) id).map (fun i => (x :: t).get i) = x :: t := by
        apply List.ext_getElem
        · simp
        · intro i h1 h2
          simp only [List.getElem_map, List.getElem_ofFn, id, List.get_eq_getElem]
      have := p1.map fun i => (x :: t).get i
      rwa [e] at this
    · rw [List.pairwise_map, List.pairwise_iff_getElem]
      intro i j hi hj hij
      have := p3 i j hi hj hij
      rw [hlt] at this
      have := of_decide_eq_false this
      have a1 := ha ((x :: t).get (pdqL (cfOf cmp x t))[i]) ((x :: t).get (pdqL (cfOf cmp x t))[j])
      omega
structure Big (B n : Nat) : Prop where
  b : B < 4000000000
  n1 : 3 * (B * (B + 1) + 1) + 3 * B + 100 < n
  m1 : B * (B + 1) + 1 < 4611686018427387904

/-- No two are alike. -/
def PW (l : List (List ApiValue)) : Prop := l.Pairwise fun a b => rcmp a b ≠ 0
theorem PW_perm {l m : List (List ApiValue)} (h : l.Perm m) : PW l ↔ PW m := h.pairwise_iff fun h1 h2 => h1 (by have := rcmp_anti _ _ ▸ h2; have := rcmp_anti; omega)
theorem PW_adj {l : List (List ApiValue)} (hs : l.Pairwise fun a b => rcmp a b ≤ 0) : PW l ↔ ∀ i, 0 < i → (hi : i < l.length) → rcmp (l[i - 1]'(by omega)) l[i] ≠ 0 := by
  unfold PW
  rw [List.pairwise_iff_getElem]
  rw [List.pairwise_iff_getElem] at hs
  constructor
  · intro h i h0 hi
    exact h (i - 1) i (by omega) hi (by omega)
  · intro h i j hi hj hij he
    by_cases h1 : i = j - 1
    · subst h1
      exact h j (by omega) hj he
    · obtain ⟨_, t2, _⟩ := rcmp_tr l[i] (l[j - 1]'(by omega)) l[j]
      exact h j (by omega) hj (t2 (hs i (j - 1) hi (by omega) (by omega)) (hs (j - 1) j (by omega) hj (by omega)) he).2
theorem lw_map {B : Nat} (f : List UInt8 → ApiValue) : ∀ l : List (List UInt8), (∀ k ∈ l, vw (f k) ≤ B) → lw (l.map f) ≤ l.length * (B + 1) + 1
  | [], _ => by rw [List.map_nil, lw_nil]; omega
  | k :: l, h => by
    rw [List.map_cons, lw_cons, List.length_cons, Nat.succ_mul]
    have := lw_map f l fun x hx => h x (by simp [hx])
    have := h k (by simp)
    omega
theorem key_lw {B : Nat} {r : Rel} (hr : RB B r) (hk : ∀ k ∈ r.Key, KeyIn r k) {l : List ApiValue} (hl : l ∈ r.Rows) (hll : l.length = r.Cols.length) : lw (keyOf r l) ≤ B * (B + 1) + 1 ∧ (keyOf r l).length ≤ B := by
  refine ⟨Nat.le_trans (lw_map (B := B) (kval r l) r.Key fun k hk' => ?_) ?_, by simp [keyOf]; exact hr.kl⟩
  · have := lw_mem (kval_mem (hk k hk') hll)
    have := hr.rw l hl
    omega
  · have := Nat.mul_le_mul_right (B + 1) hr.kl
    omega
open Classical in
theorem check2_ok {B n : Nat} {r : Rel} (hr : RB B r) (hB : Big B n) (hk : ∀ k ∈ r.Key, KeyIn r k) (hrow : ∀ l ∈ r.Rows, l.length = r.Cols.length) :
    ∀ (c i m : Nat), c = r.Rows.length - i → i ≤ r.Rows.length → c < m → PW ((r.Rows.take i).map (keyOf r)) → rel_Check_l2 n m r.Rows (r.Rows.length : Int) (i : Int) r = some (if PW (r.Rows.map (keyOf r)) then 0 else 16) := by
  have h1 := hr.rl
  have hb1 := hB.b
  have hb2 := hB.n1
  intro c
  induction c with
  | zero =>
    intro i m hc hi hm hp
    obtain ⟨m, rfl⟩ : ∃ q, m = q + 1 := ⟨m - 1, by omega⟩
    rw [rel_Check_l2_eq, decide_eq_false (by omega), cond_false]
    rw [List.take_of_length_le (by omega)] at hp
    rw [if_pos hp]
  | succ c ih =>
    intro i m hc hi hm hp
    obtain ⟨m, rfl⟩ : ∃ q, m = q + 1 := ⟨m - 1, by omega⟩
    have hlt : i < r.Rows.length := by omega
    have hmem := List.getElem_mem hlt
    rw [rel_Check_l2_eq, inR hlt, inR' hi, decide_eq_true (by omega), cond_true, cond_true, cond_true, show Int.toNat (i : Int) = i from rfl, getD_lt _ hlt]
    have f := rel_Check_l4_fold n m r.Rows[i] r.Rows (r.Rows.length : Int) (i : Int) (r.Rows.take i) r (by simp; omega) n 0 (Nat.zero_le _) (by simp; omega)
    rw [show ((0 : Nat) : Int) = 0 from rfl] at f
    rw [f, List.drop_zero, foldK_find (fun a => decide (rcmp (keyOf r r.Rows[i]) (keyOf r a) = 0)) (fun _ _ => some 16) _ _ _ fun j a s K ha => by
      rw [agree_ok hr (by omega) (by omega) hk hmem (hrow _ hmem) (hrow _ (List.mem_of_mem_take ha)), bind_some2]]
    cases hfi : (r.Rows.take i).find? fun a => decide (rcmp (keyOf r r.Rows[i]) (keyOf r a) = 0) with
    | some a =>
      have ha := List.mem_of_find?_eq_some hfi
      have hz := List.find?_some hfi
      have hz := of_decide_eq_true hz
      obtain ⟨j, hj, rfl⟩ := List.getElem_of_mem ha
      have hj' : j < i := by simp at hj; omega
      rw [if_neg]
      intro hpw
      unfold PW at hpw
      rw [List.pairwise_iff_getElem] at hpw
      have := hpw j i (by simp; omega) (by simp; omega) hj'
      simp only [List.getElem_map, List.getElem_take] at this hz
      have h2 := rcmp_anti (keyOf r r.Rows[i]) (keyOf r r.Rows[j])
      omega
    | none =>
      rw [List.find?_eq_none] at hfi
      dsimp only
      rw [i64_succ (by omega)]
      refine ih (i + 1) m (by omega) (by omega) (by omega) ?_
      rw [List.take_succ_eq_append_getElem hlt, List.map_append]
      unfold PW
      rw [List.pairwise_append]
      refine ⟨hp, by simp, fun a ha b hb => ?_⟩
      simp only [List.map_cons, List.map_nil, List.mem_singleton] at hb
      subst hb
      obtain ⟨x, hx, rfl⟩ := List.mem_map.1 ha
      have h2 := hfi x hx
      simp only [decide_eq_true_eq] at h2
      have h3 := rcmp_anti (keyOf r r.Rows[i]) (keyOf r x)
      omega
open Classical in
theorem adj_ok {B n : Nat} (hB : Big B n) (ys : List (List ApiValue)) (hl : ys.length ≤ B) (hw : ∀ y ∈ ys, lw y ≤ B * (B + 1) + 1 ∧ y.length ≤ B) :
    ref2_RelErr_l4 n n ys.length (ys.length : Int) 0 ys = some (if ∀ i, 0 < i → (hi : i < ys.length) → rcmp (ys[i - 1]'(by omega)) ys[i] ≠ 0 then 0 else 16) := by
  have hb1 := hB.b
  have hb2 := hB.n1
  have hb3 := hB.m1
  have f := ref2_RelErr_l4_fold n ys.length ys ys.length (by omega) n 0 (Nat.zero_le _) (by omega)
  rw [show ((0 : Nat) : Int) = 0 from rfl] at f
  rw [f]
  have key : ∀ (c i : Nat), c + i = ys.length → (∀ j, 0 < j → (hj : j < ys.length) → j < i → rcmp (ys[j - 1]'(by omega)) ys[j] ≠ 0) → foldN (S := Unit) (fun i s K => (bif (decide ((i : Int) > 0)) then (bif (decide (0 ≤ (IntKind.wrap .i64 ((i : Int) - 1))) && decide ((IntKind.wrap .i64 ((i : Int) - 1)) < (ys.length : Int))) then (bif (decide ((0 + (Int.toNat (IntKind.wrap .i64 ((i : Int) - 1)))) < List.length ys)) then (bif (decide (0 ≤ (i : Int)) && decide ((i : Int) < (ys.length : Int))) then (bif (decide ((0 + (Int.toNat (i : Int))) < List.length ys)) then (Option.bind (ref2_Order n (List.getD ys (0 + (Int.toNat (IntKind.wrap .i64 ((i : Int) - 1)))) []) (List.getD ys (0 + (Int.toNat (i : Int))) [])) fun r6 => (bif (decide (r6 = 0)) then (some 16) else (K ()))) else none) else none) else none) else none) else (K ()))) (fun s => (some 0)) c i () = some (if ∀ i, 0 < i → (hi : i < ys.length) → rcmp (ys[i - 1]'(by omega)) ys[i] ≠ 0 then (0 : Int) else 16) := by
    intro c
    induction c with
    | zero =>
      intro i hc hp
      rw [if_pos fun j h0 hj => hp j h0 hj (by omega)]
      rfl
    | succ c ih =>
      intro i hc hp
      have hlt : i < ys.length := by omega
      rw [foldN]
      by_cases h0 : 0 < i
      · obtain ⟨e1, e2⟩ := inP h0 hlt (by omega)
        have hlt' : i - 1 < ys.length := by omega
        rw [decide_eq_true (by omega : (i : Int) > 0), e1, e2, decide_eq_true (by omega : 0 + (i - 1) < ys.length), inR hlt, show Int.toNat (i : Int) = i from rfl, decide_eq_true (by omega : 0 + i < ys.length), cond_true, cond_true, cond_true, cond_true, cond_true, Nat.zero_add (i - 1), Nat.zero_add i, getD_lt _ hlt, getD_lt _ hlt']
        have w1 := hw _ (List.getElem_mem hlt')
        have w2 := hw _ (List.getElem_mem hlt)
        rw [order_ok n _ _ (by omega) (by omega) (by omega) (by omega) (by omega), bind_some2]
        by_cases hz : rcmp ys[i - 1] ys[i] = 0
        · rw [decide_eq_true hz, cond_true, if_neg fun h => h i h0 hlt hz]
        · rw [decide_eq_false hz, cond_false]
          refine ih (i + 1) (by omega) fun j j0 hj hj2 => ?_
          by_cases hji : j = i
          · subst hji; exact hz
          · exact hp j j0 hj (by omega)
      · rw [decide_eq_false (by omega : ¬ (i : Int) > 0), cond_false]
        exact ih (i + 1) (by omega) fun j j0 hj hj2 => by omega
  exact key _ 0 (by omega) fun j _ _ h => by omega
open Classical in
theorem err2_ok {B n : Nat} {r : Rel} (hr : RB B r) (hB : Big B n) (hk : ∀ k ∈ r.Key, KeyIn r k) (hrow : ∀ l ∈ r.Rows, l.length = r.Cols.length) :
    ref2_RelErr_l2 n n r.Rows (r.Rows.length : Int) 0 r [] = some (if PW (r.Rows.map (keyOf r)) then 0 else 16) := by
  have h1 := hr.rl
  have hb1 := hB.b
  have hb2 := hB.n1
  have hb3 := hB.m1
  have f := ref2_RelErr_l2_fold n r.Rows r [] (by omega) n 0 (Nat.zero_le _) (by omega)
  rw [show ((0 : Nat) : Int) = 0 from rfl] at f
  rw [f, List.drop_zero]
  have key : ∀ (m : List (List ApiValue)) (i : Nat) (s : List (List ApiValue)) (fin : List (List ApiValue) → Option Int), (∀ l ∈ m, l ∈ r.Rows) → s.length + m.length < 4294967296 → foldK (S := (List (List ApiValue))) (fun i (a : (List ApiValue)) s K => (Option.bind (ref2_keyOf n r a) fun r4 => (bif (decide ((List.length s) = List.length s) && decide (List.length s + List.length ([r4] : List (List ApiValue)) ≤ 4294967296)) then (K (s ++ [r4])) else none))) fin m i s = fin (s ++ m.map (keyOf r)) := by
    intro m
    induction m with
    | nil => intro i s fin _ _; simp [foldK]
    | cons l m ih =>
      intro i s fin hm hs
      have hl := hm l (by simp)
      rw [foldK_cons, keyOf_ok hr (by omega) (by omega) hk (hrow l hl), bind_some2, appOK s _ (by simp at hs; omega), cond_true]
      dsimp only
      rw [ih (i + 1) _ fin (fun x hx => hm x (by simp [hx])) (by simp at hs ⊢; omega)]
      simp
  rw [key r.Rows 0 [] _ (fun _ h => h) (by simp; omega), List.nil_append]
  have hmem : ∀ a ∈ r.Rows.map (keyOf r), lw a ≤ B * (B + 1) + 1 ∧ a.length ≤ B := by
    intro a ha
    obtain ⟨l, hl, rfl⟩ := List.mem_map.1 ha
    exact key_lw hr hk hl (hrow l hl)
  obtain ⟨ys, g1, g2, g3⟩ := sortO_ord (fun a b => Option.bind (ref2_Order n a b) fun r => some r) rcmp (fun a b => rcmp_anti a b) rcmp_tr (r.Rows.map (keyOf r)) (by simp; omega) fun a ha b hb => by
    have w1 := hmem a ha
    have w2 := hmem b hb
    rw [order_ok n a b (by omega) (by omega) (by omega) (by omega) (by omega), bind_some2]
  rw [List.take_length, g1, bind_some2]
  have hlen : ys.length = (r.Rows.map (keyOf r)).length := g2.length_eq
  have ho : over (r.Rows.map (keyOf r)) ys 0 = ys := by
    unfold over
    rw [List.take_zero, List.nil_append, Nat.zero_add, hlen, List.drop_length, List.append_nil]
  rw [ho, ← hlen, adj_ok hB ys (by rw [hlen]; simpa using h1) fun y hy => hmem y (g2.mem_iff.1 hy)]
  congr 1
  have e : PW (r.Rows.map (keyOf r)) ↔ _ := (PW_perm g2).symm.trans (PW_adj g3)
  by_cases hp : PW (r.Rows.map (keyOf r))
  · rw [if_pos hp, if_pos (e.1 hp)]
  · rw [if_neg hp, if_neg fun h => hp (e.2 h)]

/-! ### Whole relations -/
theorem rows_par {B n : Nat} {r : Rel} (hr : RB B r) (hB : Big B n) (hk : ∀ k ∈ r.Key, KeyIn r k) :
    rel_Check_l0 n n r.Rows (r.Rows.length : Int) 0 r = ref2_RelErr_l0 n n r.Rows (r.Rows.length : Int) 0 r ∧ (rel_Check_l0 n n r.Rows (r.Rows.length : Int) 0 r).isSome = true := by
  have h1 := hr.rl
  have hb1 := hB.b
  have hb2 := hB.n1
  have hb3 := hB.m1
  have f1 := rel_Check_l0_fold n r.Rows r (by omega) n 0 (Nat.zero_le _) (by omega)
  have f2 := ref2_RelErr_l0_fold n r.Rows r (by omega) n 0 (Nat.zero_le _) (by omega)
  rw [show ((0 : Nat) : Int) = 0 from rfl] at f1 f2
  rw [f1, f2]
  have next : ∀ {i : Nat} (hi : i < r.Rows.length), (∀ l ∈ r.Rows.take i, l.length = r.Cols.length) → r.Rows[i].length = r.Cols.length → ∀ l ∈ r.Rows.take (i + 1), l.length = r.Cols.length := by
    intro i hi hI h l hl
    rw [List.take_succ_eq_append_getElem hi] at hl
    rcases List.mem_append.1 hl with hl | hl
    · exact hI l hl
    · rw [List.mem_singleton.1 hl]; exact h
  constructor
  · refine foldK_par r.Rows (S := Unit) (S' := Unit) (fun i _ _ => ∀ l ∈ r.Rows.take i, l.length = r.Cols.length) ?_ ?_ _ 0 rfl (Nat.zero_le _) _ _ (by simp)
    · intro i hi s s' K K' hI hK
      have hm := List.getElem_mem hi
      have hw := hr.rw _ hm
      obtain ⟨e1, e, e2, e3⟩ := row_ok (r := r) (n := n) (l := r.Rows[i]) (by omega) (by omega)
      rw [← e1, e2, bind_some2, bind_some2]
      by_cases h0 : e = 0
      · rw [decide_eq_true h0, Bool.not_true, cond_false, cond_false]
        by_cases hp : 0 < i
        · obtain ⟨p1, p2⟩ := inP hp hi (by omega)
          have hlt : i - 1 < r.Rows.length := by omega
          rw [decide_eq_true (by omega : (i : Int) > 0), p1, p2, cond_true, cond_true, cond_true, cond_true, getD_lt _ hlt]
          have hw2 := hr.rw _ (List.getElem_mem hlt)
          have l1 := lw_len r.Rows[i]
          have l2 := lw_len r.Rows[i - 1]
          rw [rcmp_ok n _ _ (by omega) (by omega), order_ok n _ _ (by omega) (by omega) (by omega) (by omega) (by omega), bind_some2, bind_some2]
          have ha := rcmp_anti r.Rows[i - 1] r.Rows[i]
          by_cases hc : rcmp r.Rows[i - 1] r.Rows[i] ≥ 0
          · rw [decide_eq_true hc, decide_eq_true (by omega : rcmp r.Rows[i] r.Rows[i - 1] ≤ 0), cond_true, cond_true]
          · rw [decide_eq_false hc, decide_eq_false (by omega : ¬ rcmp r.Rows[i] r.Rows[i - 1] ≤ 0), cond_false, cond_false]
            exact hK _ _ (next hi hI (e3 h0))
        · rw [decide_eq_false (by omega : ¬ (i : Int) > 0), cond_false, cond_false]
          exact hK _ _ (next hi hI (e3 h0))
      · rw [decide_eq_false h0, Bool.not_false, cond_true, cond_true]
    · intro _ _ hI
      rw [List.take_length] at hI
      cases decide ((r.Key.length : Int) = 0) with
      | true => rw [cond_true, cond_true]
      | false => rw [cond_false, cond_false, err2_ok hr hB hk hI, ← check2_ok hr hB hk hI _ 0 n rfl (Nat.zero_le _) (by omega) (by simp [PW])]; rfl
  · refine foldK_case r.Rows (S := Unit) (fun i _ => ∀ l ∈ r.Rows.take i, l.length = r.Cols.length) (fun o => o.isSome = true) ?_ ?_ _ 0 rfl (Nat.zero_le _) _ (by simp)
    · intro i hi s hI
      have hm := List.getElem_mem hi
      have hw := hr.rw _ hm
      obtain ⟨e1, e, e2, e3⟩ := row_ok (r := r) (n := n) (l := r.Rows[i]) (by omega) (by omega)
      rw [e2]
      simp only [bind_some2]
      by_cases h0 : e = 0
      · rw [decide_eq_true h0]
        by_cases hp : 0 < i
        · obtain ⟨p1, p2⟩ := inP hp hi (by omega)
          have hlt : i - 1 < r.Rows.length := by omega
          rw [decide_eq_true (by omega : (i : Int) > 0), p1, p2, getD_lt _ hlt]
          have hw2 := hr.rw _ (List.getElem_mem hlt)
          rw [rcmp_ok n _ _ (by omega) (by omega)]
          simp only [bind_some2, Bool.not_true, cond_false, cond_true]
          cases decide (rcmp r.Rows[i - 1] r.Rows[i] ≥ 0) with
          | true => exact .inl ⟨some 9, rfl, fun _ => by rw [cond_true]⟩
          | false => exact .inr ⟨(), next hi hI (e3 h0), fun _ => by rw [cond_false]⟩
        · rw [decide_eq_false (by omega : ¬ (i : Int) > 0)]
          exact .inr ⟨(), next hi hI (e3 h0), fun _ => by rw [Bool.not_true, cond_false, cond_false]⟩
      · rw [decide_eq_false h0]
        exact .inl ⟨some e, rfl, fun _ => by rw [Bool.not_false, cond_true]⟩
    · intro _ hI
      rw [List.take_length] at hI
      cases decide ((r.Key.length : Int) = 0) with
      | true => rfl
      | false =>
        rw [cond_false]
        have := check2_ok hr hB hk hI _ 0 n rfl (Nat.zero_le _) (by omega) (by simp [PW])
        rw [show ((0 : Nat) : Int) = 0 from rfl] at this
        rw [this]
        rfl
theorem check_ok {B n : Nat} {r : Rel} (hr : RB B r) (hB : Big B n) : rel_Check n r = ref2_RelErr n r ∧ ∃ e, rel_Check n r = some e := by
  have hb1 := hB.b
  have hb2 := hB.n1
  obtain ⟨e1, e, e2, e3⟩ := head_ok (n := n) hr (by omega) (by omega)
  rw [rel_Check_eq, ref2_RelErr_eq, ← e1, e2, bind_some2, bind_some2]
  by_cases h0 : e = 0
  · rw [decide_eq_true h0, Bool.not_true, cond_false, cond_false]
    cases decide ((r.Rows.length : Int) > 300) with
    | true => rw [cond_true, cond_true]; exact ⟨rfl, 2, rfl⟩
    | false =>
      rw [cond_false, cond_false]
      obtain ⟨p1, p2⟩ := rows_par hr hB (e3 h0)
      exact ⟨p1, Option.isSome_iff_exists.1 p2⟩
  · rw [decide_eq_false h0, Bool.not_false, cond_true, cond_true]
    exact ⟨rfl, e, rfl⟩

/-! ### Databases -/
theorem bl_total : ∀ x y : List UInt8, (!bytesLess x y) = (bytesLess y x || (y == x))
  | [], [] => rfl
  | [], b :: y => by simp [bytesLess]
  | a :: x, [] => by simp [bytesLess]
  | a :: x, b :: y => by
    have ih := bl_total x y
    simp only [bytesLess]
    rcases Nat.lt_trichotomy a.toNat b.toNat with h | h | h
    · have h1 : (decide (a < b)) = true := decide_eq_true (UInt8.lt_iff_toNat_lt.2 h)
      have h2 : (decide (b < a)) = false := decide_eq_false (by rw [UInt8.lt_iff_toNat_lt]; omega)
      have h3 : (b == a) = false := by simp only [beq_eq_false_iff_ne, ne_eq]; intro e; rw [e] at h; omega
      have h4 : (b :: y == a :: x) = false := by simp only [beq_eq_false_iff_ne, ne_eq, List.cons.injEq, not_and]; intro e; rw [e] at h; omega
      rw [h1, h2, h3, h4]; rfl
    · have e : a = b := UInt8.toNat_inj.1 h
      subst e
      have h1 : (decide (a < a)) = false := decide_eq_false (by rw [UInt8.lt_iff_toNat_lt]; omega)
      have h4 : (a :: y == a :: x) = (y == x) := by simp
      rw [h1, h4, beq_self_eq_true, Bool.true_and, Bool.true_and, Bool.false_or, Bool.false_or]
      exact ih
    · have h1 : (decide (a < b)) = false := decide_eq_false (by rw [UInt8.lt_iff_toNat_lt]; omega)
      have h2 : (decide (b < a)) = true := decide_eq_true (UInt8.lt_iff_toNat_lt.2 h)
      have h3 : (a == b) = false := by simp only [beq_eq_false_iff_ne, ne_eq]; intro e; rw [e] at h; omega
      rw [h1, h2, h3]; rfl
theorem base_ok {B n : Nat} {b : List Rel} (hl : b.length ≤ B) (hb : ∀ r ∈ b, RB B r) (hB : Big B n) : rel_CheckBase n b = ref2_BaseErr n b ∧ ∃ e, rel_CheckBase n b = some e := by
  have hb1 := hB.b
  have hb2 := hB.n1
  rw [rel_CheckBase_eq, ref2_BaseErr_eq]
  cases decide ((b.length : Int) > 12) with
  | true => rw [cond_true, cond_true]; exact ⟨rfl, 2, rfl⟩
  | false =>
    rw [cond_false, cond_false]
    have f1 := rel_CheckBase_l0_fold n b b (by omega) n 0 (Nat.zero_le _) (by omega)
    have f2 := ref2_BaseErr_l0_fold n b [] (by omega) n 0 (Nat.zero_le _) (by omega)
    rw [show ((0 : Nat) : Int) = 0 from rfl] at f1 f2
    rw [f1, f2]
    constructor
    · refine foldK_par b (S := Unit) (S' := List UInt8) (fun i _ s => ∀ (_ : 0 < i) (hi : i ≤ b.length), s = (b[i - 1]'(by omega)).Name) ?_ (fun _ _ _ => rfl) _ 0 rfl (Nat.zero_le _) _ _ (fun h => by omega)
      intro i hi s s' K K' hI hK
      obtain ⟨e1, e, e2⟩ := check_ok (hb _ (List.getElem_mem hi)) hB
      rw [← e1, e2, bind_some2, bind_some2]
      cases decide (e = 0) with
      | false => rw [Bool.not_false, cond_true, cond_true]
      | true =>
        rw [Bool.not_true, cond_false, cond_false]
        by_cases hp : 0 < i
        · obtain ⟨p1, p2⟩ := inP hp hi (by omega)
          have hlt : i - 1 < b.length := by omega
          rw [decide_eq_true (by omega : (i : Int) > 0), p1, p2, cond_true, cond_true, cond_true, getD_lt _ hlt, hI hp (by omega), bl_total]
          cases bytesLess b[i].Name b[i - 1].Name || b[i].Name == b[i - 1].Name with
          | true => rw [cond_true, cond_true]
          | false => rw [cond_false, cond_false]; exact hK _ _ fun _ _ => rfl
        · rw [decide_eq_false (by omega : ¬ (i : Int) > 0), cond_false, cond_false]
          exact hK _ _ fun _ _ => rfl
    · refine foldK_case b (S := Unit) (fun _ _ => True) (fun o => ∃ e, o = some e) ?_ (fun _ _ => ⟨0, rfl⟩) _ 0 rfl (Nat.zero_le _) _ trivial
      intro i hi s _
      obtain ⟨e1, e, e2⟩ := check_ok (hb _ (List.getElem_mem hi)) hB
      rw [e2]
      simp only [bind_some2]
      cases decide (e = 0) with
      | false => exact .inl ⟨some e, ⟨e, rfl⟩, fun _ => by rw [Bool.not_false, cond_true]⟩
      | true =>
        by_cases hp : 0 < i
        · obtain ⟨p1, p2⟩ := inP hp hi (by omega)
          have hlt : i - 1 < b.length := by omega
          rw [decide_eq_true (by omega : (i : Int) > 0), p1, p2, getD_lt _ hlt]
          cases bytesLess b[i - 1].Name b[i].Name with
          | true => exact .inr ⟨(), trivial, fun _ => by rw [Bool.not_true, cond_false, cond_true, cond_true, cond_false]⟩
          | false => exact .inl ⟨some 9, ⟨9, rfl⟩, fun _ => by rw [Bool.not_true, cond_false, cond_true, cond_true, Bool.not_false, cond_true]⟩
        · rw [decide_eq_false (by omega : ¬ (i : Int) > 0)]
          exact .inr ⟨(), trivial, fun _ => by rw [Bool.not_true, cond_false, cond_false]⟩
/-! ### What is handed over -/
def bV (g : Nat) (v : ApiValue) : Nat := BulkN E g 1 v
def bF (g : Nat) (f : ApiField) : Nat := BulkN E g 2 f
def bC (g : Nat) (c : Col) : Nat := BulkN E g 0 c
def bR (g : Nat) (r : Rel) : Nat := BulkN E g 3 r
theorem bV_eq (g : Nat) (v : ApiValue) : bV (g + 1) v = 1 + (1 + ((v.S.length + 1) + ((v.Fields.map (bF g)).sum + 1))) := rfl
theorem bF_eq (g : Nat) (f : ApiField) : bF (g + 1) f = (f.Name.length + 1) + bV g f.Val := rfl
theorem bC_eq (g : Nat) (c : Col) : bC (g + 1) c = (c.Name.length + 1) + 1 := rfl
theorem bR_eq (g : Nat) (r : Rel) : bR (g + 1) r = (r.Name.length + 1) + (((r.Cols.map (bC g)).sum + 1) + (((r.Key.map fun s : List UInt8 => s.length + 1).sum + 1) + ((r.Rows.map fun l : List ApiValue => (l.map (bV g)).sum + 1).sum + 1))) := rfl
theorem vw_bulk : ∀ (k : Nat) (v : ApiValue) (g : Nat), vw v ≤ k → 2 * k ≤ g → vw v + 1 ≤ bV g v
  | 0, v, g, h, _ => by have := vw_eq v; omega
  | k + 1, v, g, h, hg => by
    obtain ⟨g, rfl⟩ : ∃ e, g = e + 2 := ⟨g - 2, by omega⟩
    have key : ∀ l : List ApiField, (∀ f ∈ l, vw f.Val ≤ k) → fw l ≤ (l.map (bF (g + 1))).sum := by
      intro l
      induction l with
      | nil => intro _; simp [fw]
      | cons f l ih =>
        intro hl
        have := ih fun x hx => hl x (by simp [hx])
        have := vw_bulk k f.Val g (hl f (by simp)) (by omega)
        have := gw_eq f
        have e3 := bF_eq g f
        rw [List.map_cons, List.sum_cons]
        simp only [fw]
        omega
    have := key v.Fields fun f hf => by have := (vw_lt hf).1; omega
    have := vw_eq v
    have : bV (g + 2) v = _ := bV_eq (g + 1) v
    omega
theorem lw_le {f : ApiValue → Nat} : ∀ l : List ApiValue, (∀ v ∈ l, vw v + 1 ≤ f v) → lw l ≤ (l.map f).sum + 1
  | [], _ => by rw [lw_nil]; simp
  | v :: l, h => by
    have := lw_le l fun x hx => h x (by simp [hx])
    have := h v (by simp)
    rw [lw_cons, List.map_cons, List.sum_cons]
    omega
theorem row_bulk {l : List ApiValue} {N : Nat} (h : ∀ g, (l.map (bV g)).sum + 1 ≤ N) : lw l ≤ N := by
  have h := h (2 * lw l)
  have := lw_le (f := bV (2 * lw l)) l fun v hv => vw_bulk (lw l) v _ (by have := lw_mem hv; omega) (Nat.le_refl _)
  omega
theorem rel_bulk {r : Rel} {N : Nat} (h : ∀ g, bR g r ≤ N) : RB N r := by
  have h2 := h 2
  rw [bR_eq] at h2
  have k1 := sum_gm (bC 1) r.Cols fun c _ => by rw [bC_eq]; omega
  have k2 := sum_gm (fun s : List UInt8 => s.length + 1) r.Key fun s _ => by omega
  have k3 := sum_gm (fun l : List ApiValue => (l.map (bV 1)).sum + 1) r.Rows fun s _ => by omega
  refine ⟨by omega, by omega, fun c hc => ?_, by omega, by omega, fun l hl => ?_⟩
  · have : bC 1 c ≤ (r.Cols.map (bC 1)).sum := mem_sum (List.mem_map.2 ⟨c, hc, rfl⟩)
    rw [bC_eq] at this
    omega
  · refine row_bulk fun g => ?_
    have h3 := h (g + 1)
    rw [bR_eq] at h3
    have : (l.map (bV g)).sum + 1 ≤ (r.Rows.map fun l : List ApiValue => (l.map (bV g)).sum + 1).sum := mem_sum (List.mem_map.2 ⟨l, hl, rfl⟩)
    omega
theorem base_bulk {b : List Rel} {N : Nat} (h : ∀ g, (b.map (bR g)).sum + 1 ≤ N) : b.length ≤ N ∧ ∀ r ∈ b, RB N r := by
  refine ⟨?_, fun r hr => rel_bulk fun g => ?_⟩
  · have := h 1
    have k := sum_gm (bR 1) b fun r _ => by rw [bR_eq]; omega
    omega
  · have h1 := h g
    have : bR g r ≤ (b.map (bR g)).sum := mem_sum (List.mem_map.2 ⟨r, hr, rfl⟩)
    omega
theorem big_ex : ∃ n, Big 1048576 n := by
  obtain ⟨n, hn⟩ : ∃ n : Nat, 3 * (1048576 * (1048576 + 1) + 1) + 3 * 1048576 + 100 < n := ⟨_, Nat.lt_succ_self _⟩
  exact ⟨n, by decide, hn, by decide⟩

/-! ### Copies -/
theorem clone_ok (n : Nat) (l : List ApiField) (h : l.length < 4294967296) : slices_Clone_Field_nn n l = some l := by
  rw [slices_Clone_Field_nn_eq, decide_eq_true (by simp : 0 = List.length ([] : List ApiField)), decide_eq_true (by simp; omega : List.length ([] : List ApiField) + List.length l ≤ 4294967296), decide_eq_true rfl]
  rfl
theorem copy_ok (n : Nat) : ∀ (k : Nat) (v : ApiValue) (d : Nat), vw v ≤ k → vw v ≤ d → vw v < n → vw v < 4294967296 → value_Copy d n v = some v
  | 0, v, d, h, _, _, _ => by have := vw_eq v; omega
  | k + 1, v, d, h, hd, hn, hm => by
    have hv0 := vw_eq v
    have hl := (vw_len v).1
    obtain ⟨d, rfl⟩ : ∃ e, d = e + 1 := ⟨d - 1, by omega⟩
    rw [value_Copy_eq, clone_ok n _ (by omega), bind_some2]
    have f := value_Copy_l0_fold d n v.Kind v.N v.S v.Fields.length (ApiValue.mk 0 0 [] []) v.Fields.length v.Fields (by omega) n 0 (Nat.zero_le _) (by omega)
    rw [show ((0 : Nat) : Int) = 0 from rfl] at f
    rw [f]
    have key : ∀ (c i : Nat), c + i = v.Fields.length → foldN (S := (List ApiField)) (fun i s K => (bif (decide (0 ≤ (i : Int)) && decide ((i : Int) < (v.Fields.length : Int))) then (bif (decide ((0 + (Int.toNat (i : Int))) < List.length s)) then (Option.bind (value_Copy d n ((List.getD s (0 + (Int.toNat (i : Int))) (ApiField.mk [] (ApiValue.mk 0 0 [] []))).Val)) fun r2 => (bif (decide (0 ≤ (i : Int)) && decide ((i : Int) < (v.Fields.length : Int))) then (bif (decide ((0 + (Int.toNat (i : Int))) < List.length s)) then (K (List.set s (0 + (Int.toNat (i : Int))) (ApiField.mk ((List.getD s (0 + (Int.toNat (i : Int))) (ApiField.mk [] (ApiValue.mk 0 0 [] []))).Name) r2))) else none) else none)) else none) else none)) (fun s => (bif (((decide (0 + v.Fields.length ≤ List.length s)) && true) && true) then (some (ApiValue.mk v.Kind v.N v.S (List.take v.Fields.length s))) else none)) c i v.Fields = some v := by
      intro c
      induction c with
      | zero =>
        intro i hc
        rw [foldN, decide_eq_true (by omega : 0 + v.Fields.length ≤ v.Fields.length), List.take_length]
        show some (ApiValue.mk v.Kind v.N v.S v.Fields) = some v
        cases v
        rfl
      | succ c ih =>
        intro i hc
        have hlt : i < v.Fields.length := by omega
        have hv := vw_lt (List.getElem_mem hlt)
        rw [foldN, inR hlt, show Int.toNat (i : Int) = i from rfl, Nat.zero_add i, decide_eq_true hlt, cond_true, cond_true, getD_lt _ hlt, copy_ok n k _ d (by omega) (by omega) (by omega) (by omega), bind_some2, cond_true, cond_true]
        have : v.Fields.set i (ApiField.mk v.Fields[i].Name v.Fields[i].Val) = v.Fields := by
          rw [show ApiField.mk v.Fields[i].Name v.Fields[i].Val = v.Fields[i] by cases v.Fields[i]; rfl]
          exact List.set_getElem_self hlt
        rw [this]
        exact ih (i + 1) (by omega)
    exact key _ 0 (by omega)


/-! ### Copies of relations, as rows -/
theorem cloneC_ok (n : Nat) (l : List Col) (h : l.length < 4294967296) : slices_Clone_Col_nn n l = some l := by
  rw [slices_Clone_Col_nn_eq, decide_eq_true (by simp; omega : List.length ([] : List Col) + List.length l ≤ 4294967296), decide_eq_true rfl]
  rfl
theorem cloneS_ok (n : Nat) (l : List (List UInt8)) (h : l.length < 4294967296) : slices_Clone_string_nn n l = some l := by
  rw [slices_Clone_string_nn_eq, decide_eq_true (by simp; omega : List.length ([] : List (List UInt8)) + List.length l ≤ 4294967296), decide_eq_true rfl]
  rfl
theorem copy2_ok {n : Nat} {l : List ApiValue} (hn : lw l < n) (hm : lw l < 4294967296) (m0 : Nat) (v3 v8 : List (List ApiValue)) (h3 : v3.length < 4294967296) (v9 v10 : Int) (w : List ApiValue) (hw : w.length = l.length) :
    rel_copies_l2 n m0 n l l.length v8 v9 v10 (l.length : Int) 0 v3 w = rel_copies_l0 n m0 v8 v9 (IntKind.wrap .i64 (v10 + 1)) (v3 ++ [l]) := by
  have hl := lw_len l
  have f := rel_copies_l2_fold n m0 l l.length v8 v9 v10 v3 w (by omega) n 0 (Nat.zero_le _) (by omega)
  rw [show ((0 : Nat) : Int) = 0 from rfl] at f
  rw [f]
  have key : ∀ (c i : Nat) (s : List ApiValue) (fin : List ApiValue → Option (List (List ApiValue))), c = l.length - i → i ≤ l.length → s.length = l.length → (∀ j (hj : j < l.length) (hs : j < s.length), j < i → s[j] = l[j]) → foldK (S := (List ApiValue)) (fun i (a : ApiValue) s K => (Option.bind (value_Copy n n a) fun r1 => (bif (decide (0 ≤ (i : Int)) && decide ((i : Int) < (l.length : Int))) then (bif (decide ((0 + (Int.toNat (i : Int))) < List.length s)) then (K (List.set s (0 + (Int.toNat (i : Int))) r1)) else none) else none))) fin (List.drop i l) i s = fin l := by
    intro c
    induction c with
    | zero =>
      intro i s fin hc hi hs hp
      rw [List.drop_eq_nil_of_le (by omega), foldK_nil]
      have : s = l := List.ext_getElem hs fun j h1 h2 => hp j h2 h1 (by omega)
      rw [this]
    | succ c ih =>
      intro i s fin hc hi hs hp
      have hlt : i < l.length := by omega
      have hv := lw_mem (List.getElem_mem hlt)
      rw [List.drop_eq_getElem_cons hlt, foldK_cons, copy_ok n _ _ n (Nat.le_refl _) (by omega) (by omega) (by omega), bind_some2, inR hlt, cond_true, show Int.toNat (i : Int) = i from rfl, Nat.zero_add i, decide_eq_true (by omega : i < s.length), cond_true]
      dsimp only
      refine ih (i + 1) _ fin (by omega) (by omega) (by simp [hs]) fun j hj hs' hji => ?_
      rw [List.getElem_set]
      split
      · rename_i h; subst h; rfl
      · exact hp j hj (by omega) (by omega)
  have hd : l = List.drop 0 l := rfl
  rw [key _ 0 w _ rfl (Nat.zero_le _) hw (fun j _ _ h => by omega), decide_eq_true (by omega : 0 + l.length ≤ l.length), List.take_length, Bool.and_self, cond_true, appOK v3 _ h3, cond_true]
theorem copies_ok {n : Nat} (l : List (List ApiValue)) (hl : l.length < n) (hm : l.length < 4294967296) (hw : ∀ x ∈ l, lw x < n ∧ lw x < 4294967296) : rel_copies n l = some l := by
  rw [rel_copies_eq]
  have key : ∀ (c i m : Nat), c = l.length - i → i ≤ l.length → c < m → rel_copies_l0 n m l (l.length : Int) (i : Int) (l.take i) = some l := by
    intro c
    induction c with
    | zero =>
      intro i m hc hi hm'
      obtain ⟨m, rfl⟩ : ∃ q, m = q + 1 := ⟨m - 1, by omega⟩
      rw [rel_copies_l0_eq, decide_eq_false (by omega), cond_false, List.take_of_length_le (by omega), decide_eq_true rfl, cond_true]
    | succ c ih =>
      intro i m hc hi hm'
      obtain ⟨m, rfl⟩ : ∃ q, m = q + 1 := ⟨m - 1, by omega⟩
      have hlt : i < l.length := by omega
      have hx := hw _ (List.getElem_mem hlt)
      have hll := lw_len l[i]
      rw [rel_copies_l0_eq, inR hlt, decide_eq_true (by omega), cond_true, cond_true, show Int.toNat (i : Int) = i from rfl, getD_lt _ hlt, show Int.toNat (l[i].length : Int) = l[i].length from rfl, decide_eq_true (by omega : (0 : Int) ≤ (l[i].length : Int)), decide_eq_true (Int.le_refl (l[i].length : Int)), decide_eq_true (by omega : (l[i].length : Int) ≤ 4294967296), Bool.and_self, Bool.and_self, cond_true, copy2_ok hx.1 hx.2 m _ _ (by simp; omega) _ _ _ (by simp), i64_succ (by omega)]
      rw [← List.take_succ_eq_append_getElem hlt]
      exact ih (i + 1) m (by omega) (by omega) (by omega)
  exact key _ 0 n rfl (Nat.zero_le _) (by omega)
theorem relcopy_ok {B n : Nat} {r : Rel} (hr : RB B r) (hB : B < 4294967296) (hn : B < n) : rel_Copy n r = some (r.Name, r.Cols, r.Key, r.Rows) := by
  have h1 := hr.cl
  have h2 := hr.kl
  have h3 := hr.rl
  rw [rel_Copy_eq, cloneC_ok n _ (by omega), bind_some2, cloneS_ok n _ (by omega), bind_some2, copies_ok _ (by omega) (by omega) fun x hx => by have := hr.rw x hx; omega, bind_some2, decide_eq_true rfl, cond_true]
theorem find_ok {B n : Nat} (hB : B < 4294967296) (hn : 3 * B + 10 < n) (b : List Rel) (s : List UInt8) (hl : b.length ≤ B) (hb : ∀ r ∈ b, RB B r) :
    (rel_Find n b s = some (Rel.mk [] [] [] [], false) ∧ ixI (fun a : Rel => a.Name == s) b = -1) ∨ ∃ i, ∃ hi : i < b.length, rel_Find n b s = some (b[i], true) ∧ ixI (fun a : Rel => a.Name == s) b = (i : Int) := by
  have f := rel_Find_l0_fold n s b (Rel.mk [] [] [] []) (by omega) n 0 (Nat.zero_le _) (by omega)
  rw [show ((0 : Nat) : Int) = 0 from rfl] at f
  rw [rel_Find_eq, f]
  have g := foldK_ix (fun a : Rel => a.Name == s) b
  have key : ∀ (c i : Nat), c + i = b.length → ∀ z, foldK (S := Unit) (fun i (a : Rel) _ K => bif a.Name == s then some (i : Int) else K ()) (fun _ => some (-1)) (b.drop i) i () = some z →
      (foldK (S := Unit) (fun i (a : Rel) s_ K => (bif ((a.Name) == s) then (Option.bind (rel_Copy n a) fun r1 => (bif (((decide ((List.length r1.2.2.2) = List.length r1.2.2.2)) && true) && true) then (some ((Rel.mk r1.1 r1.2.1 r1.2.2.1 r1.2.2.2), true)) else none)) else (K ()))) (fun s => (some ((Rel.mk [] [] [] []), false))) (List.drop i b) i () = some (Rel.mk [] [] [] [], false) ∧ z = -1) ∨
      ∃ j, ∃ hj : j < b.length, foldK (S := Unit) (fun i (a : Rel) s_ K => (bif ((a.Name) == s) then (Option.bind (rel_Copy n a) fun r1 => (bif (((decide ((List.length r1.2.2.2) = List.length r1.2.2.2)) && true) && true) then (some ((Rel.mk r1.1 r1.2.1 r1.2.2.1 r1.2.2.2), true)) else none)) else (K ()))) (fun s => (some ((Rel.mk [] [] [] []), false))) (List.drop i b) i () = some (b[j], true) ∧ z = (j : Int) := by
    intro c
    induction c with
    | zero =>
      intro i hc z hz
      rw [List.drop_eq_nil_of_le (show b.length ≤ i by omega)] at hz ⊢
      cases hz
      exact .inl ⟨rfl, rfl⟩
    | succ c ih =>
      intro i hc z hz
      have hlt : i < b.length := by omega
      rw [List.drop_eq_getElem_cons hlt, foldK_cons] at hz
      rw [List.drop_eq_getElem_cons hlt, foldK_cons]
      cases hnm : (b[i].Name == s) with
      | true =>
        rw [hnm, cond_true] at hz
        cases hz
        refine .inr ⟨i, hlt, ?_, rfl⟩
        rw [cond_true, relcopy_ok (hb _ (List.getElem_mem hlt)) hB (by omega), bind_some2, decide_eq_true rfl]
        rfl
      | false =>
        rw [hnm, cond_false] at hz
        rw [cond_false]
        exact ih (i + 1) (by omega) z hz
  exact key b.length 0 rfl _ g

/-- Rows that are alike. -/
def rall : List (List ApiValue) → List (List ApiValue) → Bool
  | a :: l, b :: m => decide (rcmp a b = 0) && rall l m
  | _, _ => true

/-! ### Rows in order, each once -/
def SS (l : List (List ApiValue)) : Prop := l.Pairwise fun a b => rcmp a b < 0
theorem rc_eq {a b c : List ApiValue} (h : rcmp a b = 0) (h' : rcmp b c = 0) : rcmp a c = 0 := (rcmp_tr a b c).2.2 h h'
theorem rc_lt1 {a b c : List ApiValue} (h : rcmp a b < 0) (h' : rcmp b c ≤ 0) : rcmp a c < 0 := by
  obtain ⟨t1, t2, _⟩ := rcmp_tr a b c
  have t1 := t1 (by omega) (by omega)
  have t2 := t2 (by omega) (by omega)
  omega
theorem rc_lt2 {a b c : List ApiValue} (h : rcmp a b ≤ 0) (h' : rcmp b c < 0) : rcmp a c < 0 := by
  obtain ⟨t1, t2, _⟩ := rcmp_tr a b c
  have t1 := t1 (by omega) (by omega)
  have t2 := t2 (by omega) (by omega)
  omega
theorem rc_self (a : List ApiValue) : rcmp a a = 0 := by have := rcmp_anti a a; omega
theorem ss_uniq : ∀ (l m : List (List ApiValue)), SS l → SS m → (∀ a ∈ l, ∃ b ∈ m, rcmp a b = 0) → (∀ b ∈ m, ∃ a ∈ l, rcmp a b = 0) → l.length = m.length ∧ rall l m = true
  | [], [], _, _, _, _ => ⟨rfl, rfl⟩
  | [], b :: m, _, _, _, h => by obtain ⟨a, ha, _⟩ := h b (by simp); simp at ha
  | a :: l, [], _, _, h, _ => by obtain ⟨b, hb, _⟩ := h a (by simp); simp at hb
  | a :: l, b :: m, hl, hm, h1, h2 => by
    obtain ⟨ha, hl⟩ := List.pairwise_cons.1 hl
    obtain ⟨hb, hm⟩ := List.pairwise_cons.1 hm
    have e0 : rcmp a b = 0 := by
      obtain ⟨b', hb', e1⟩ := h1 a (by simp)
      obtain ⟨a', ha', e2⟩ := h2 b (by simp)
      rcases List.mem_cons.1 hb' with rfl | hb'
      · exact e1
      · rcases List.mem_cons.1 ha' with rfl | ha'
        · exact e2
        · have x1 := hb b' hb'
          have x2 := ha a' ha'
          have x3 := rcmp_anti a b'
          have x4 := rc_lt1 x1 (by omega : rcmp b' a ≤ 0)
          have x5 := rc_lt1 x4 (by omega : rcmp a a' ≤ 0)
          have x6 := rcmp_anti a' b
          omega
    have k1 : ∀ a' ∈ l, ∃ b' ∈ m, rcmp a' b' = 0 := by
      intro a' ha'
      obtain ⟨b', hb', e1⟩ := h1 a' (by simp [ha'])
      rcases List.mem_cons.1 hb' with rfl | hb'
      · have x1 := ha a' ha'
        have x2 := rc_lt1 x1 (by omega : rcmp a' b' ≤ 0)
        omega
      · exact ⟨b', hb', e1⟩
    have k2 : ∀ b' ∈ m, ∃ a' ∈ l, rcmp a' b' = 0 := by
      intro b' hb'
      obtain ⟨a', ha', e1⟩ := h2 b' (by simp [hb'])
      rcases List.mem_cons.1 ha' with rfl | ha'
      · have x1 := hb b' hb'
        have x2 := rcmp_anti a' b'
        have x3 := rc_lt1 x1 (by omega : rcmp b' a' ≤ 0)
        have x4 := rcmp_anti a' b
        omega
      · exact ⟨a', ha', e1⟩
    obtain ⟨r1, r2⟩ := ss_uniq l m hl hm k1 k2
    exact ⟨by simp [r1], by rw [rall, r2, decide_eq_true e0]; rfl⟩
/-- What is kept behind an element. -/
def kp : List ApiValue → List (List ApiValue) → List (List ApiValue)
  | _, [] => []
  | p, x :: l => bif decide (rcmp x p = 0) then kp x l else x :: kp x l
theorem kp_mem : ∀ (p : List ApiValue) (l : List (List ApiValue)), ∀ x ∈ kp p l, x ∈ l
  | _, [], x, h => h
  | p, y :: l, x, h => by
    rw [kp] at h
    cases hd : decide (rcmp y p = 0) with
    | true => rw [hd] at h; exact List.mem_cons_of_mem _ (kp_mem y l x h)
    | false =>
      rw [hd] at h
      rcases List.mem_cons.1 h with rfl | h
      · simp
      · exact List.mem_cons_of_mem _ (kp_mem y l x h)
theorem kp_cov : ∀ (p : List ApiValue) (l : List (List ApiValue)), ∀ y ∈ l, ∃ x ∈ p :: kp p l, rcmp y x = 0
  | _, [], y, h => by simp at h
  | p, z :: l, y, h => by
    have ih : ∀ y ∈ z :: l, ∃ x ∈ z :: kp z l, rcmp y x = 0 := by
      intro y hy
      rcases List.mem_cons.1 hy with rfl | hy
      · exact ⟨y, by simp, rc_self y⟩
      · exact kp_cov z l y hy
    obtain ⟨x, hx, e⟩ := ih y h
    rw [kp]
    cases hd : decide (rcmp z p = 0) with
    | true =>
      simp only [cond_true]
      rcases List.mem_cons.1 hx with rfl | hx
      · exact ⟨p, by simp, rc_eq e (of_decide_eq_true hd)⟩
      · exact ⟨x, by simp [hx], e⟩
    | false => exact ⟨x, List.mem_cons_of_mem _ hx, e⟩
theorem kp_ss : ∀ (p : List ApiValue) (l : List (List ApiValue)), (p :: l).Pairwise (fun a b => rcmp a b ≤ 0) → SS (p :: kp p l)
  | p, [], _ => by simp [kp, SS]
  | p, z :: l, h => by
    obtain ⟨h1, h2⟩ := List.pairwise_cons.1 h
    have ih := kp_ss z l h2
    obtain ⟨i1, i2⟩ := List.pairwise_cons.1 ih
    have hz := h1 z (by simp)
    rw [kp]
    cases hd : decide (rcmp z p = 0) with
    | true =>
      simp only [cond_true]
      refine List.pairwise_cons.2 ⟨fun x hx => ?_, i2⟩
      exact rc_lt2 hz (i1 x hx)
    | false =>
      have hd := of_decide_eq_false hd
      have ha := rcmp_anti z p
      refine List.pairwise_cons.2 ⟨fun x hx => ?_, ih⟩
      have hzp : rcmp p z < 0 := by omega
      rcases List.mem_cons.1 hx with rfl | hx
      · exact hzp
      · have := i1 x hx
        exact rc_lt1 hzp (by omega)
def comp : List (List ApiValue) → List (List ApiValue)
  | [] => []
  | a :: l => a :: kp a l
/-- A row, put in at its place. -/
def insR (x : List ApiValue) : List (List ApiValue) → List (List ApiValue)
  | [] => [x]
  | a :: l => bif decide (rcmp a x < 0) then a :: insR x l else bif decide (rcmp a x = 0) then a :: l else x :: a :: l
theorem insR_mem (x : List ApiValue) : ∀ (l : List (List ApiValue)) (y : List ApiValue), y ∈ insR x l → y = x ∨ y ∈ l
  | [], y, h => by simpa [insR] using h
  | a :: l, y, h => by
    rw [insR] at h
    cases h1 : decide (rcmp a x < 0) with
    | true =>
      rw [h1, cond_true] at h
      rcases List.mem_cons.1 h with rfl | h
      · exact .inr (by simp)
      · exact (insR_mem x l y h).imp id fun h => List.mem_cons_of_mem _ h
    | false =>
      rw [h1, cond_false] at h
      cases h2 : decide (rcmp a x = 0) with
      | true => rw [h2, cond_true] at h; exact .inr h
      | false =>
        rw [h2, cond_false] at h
        exact List.mem_cons.1 h
theorem insR_old (x : List ApiValue) : ∀ (l : List (List ApiValue)) (y : List ApiValue), y ∈ l → y ∈ insR x l
  | [], y, h => by simp at h
  | a :: l, y, h => by
    rw [insR]
    cases decide (rcmp a x < 0) with
    | true =>
      rw [cond_true]
      rcases List.mem_cons.1 h with rfl | h
      · simp
      · exact List.mem_cons_of_mem _ (insR_old x l y h)
    | false =>
      rw [cond_false]
      cases decide (rcmp a x = 0) with
      | true => exact h
      | false => exact List.mem_cons_of_mem _ h
theorem insR_new (x : List ApiValue) : ∀ (l : List (List ApiValue)), ∃ y ∈ insR x l, rcmp y x = 0
  | [] => ⟨x, by simp [insR], rc_self x⟩
  | a :: l => by
    rw [insR]
    cases decide (rcmp a x < 0) with
    | true =>
      obtain ⟨y, h, e⟩ := insR_new x l
      exact ⟨y, List.mem_cons_of_mem _ h, e⟩
    | false =>
      rw [cond_false]
      cases h2 : decide (rcmp a x = 0) with
      | true => exact ⟨a, by simp, of_decide_eq_true h2⟩
      | false => exact ⟨x, by simp, rc_self x⟩
theorem insR_ss (x : List ApiValue) : ∀ (l : List (List ApiValue)), SS l → SS (insR x l)
  | [], _ => by simp [insR, SS]
  | a :: l, h => by
    obtain ⟨h1, h2⟩ := List.pairwise_cons.1 h
    rw [insR]
    cases d1 : decide (rcmp a x < 0) with
    | true =>
      refine List.pairwise_cons.2 ⟨fun y hy => ?_, insR_ss x l h2⟩
      rcases insR_mem x l y hy with rfl | hy
      · exact of_decide_eq_true d1
      · exact h1 y hy
    | false =>
      rw [cond_false]
      cases d2 : decide (rcmp a x = 0) with
      | true => exact h
      | false =>
        have d1 := of_decide_eq_false d1
        have d2 := of_decide_eq_false d2
        have ha := rcmp_anti a x
        have hxa : rcmp x a < 0 := by omega
        refine List.pairwise_cons.2 ⟨fun y hy => ?_, h⟩
        rcases List.mem_cons.1 hy with rfl | hy
        · exact hxa
        · exact rc_lt1 hxa (by have := h1 y hy; omega)
theorem insR_len (x : List ApiValue) : ∀ l : List (List ApiValue), (insR x l).length ≤ l.length + 1
  | [] => by simp [insR]
  | a :: l => by
    rw [insR]
    cases decide (rcmp a x < 0) with
    | true => have := insR_len x l; simp; omega
    | false => cases decide (rcmp a x = 0) <;> simp
def tidy (l : List (List ApiValue)) : List (List ApiValue) := l.foldl (fun out x => insR x out) []
theorem tidy_snoc (l : List (List ApiValue)) (x : List ApiValue) : tidy (l ++ [x]) = insR x (tidy l) := by simp [tidy]
theorem tidy_facts (l : List (List ApiValue)) : ∀ k, k ≤ l.length → SS (tidy (l.take k)) ∧ (∀ y ∈ tidy (l.take k), y ∈ l.take k) ∧ (∀ x ∈ l.take k, ∃ y ∈ tidy (l.take k), rcmp y x = 0) ∧ (tidy (l.take k)).length ≤ k
  | 0, _ => by simp [tidy, SS]
  | k + 1, h => by
    obtain ⟨h1, h2, h3, h4⟩ := tidy_facts l k (by omega)
    rw [List.take_succ_eq_append_getElem (by omega), tidy_snoc]
    refine ⟨insR_ss _ _ h1, fun y hy => ?_, fun x hx => ?_, ?_⟩
    · rcases insR_mem _ _ _ hy with rfl | hy
      · exact List.mem_append_right _ (List.mem_singleton.2 rfl)
      · exact List.mem_append_left _ (h2 y hy)
    · rcases List.mem_append.1 hx with hx | hx
      · obtain ⟨y, k1, k2⟩ := h3 x hx
        exact ⟨y, insR_old _ _ _ k1, k2⟩
      · rw [List.mem_singleton] at hx
        subst hx
        exact insR_new _ _
    · have := insR_len l[k] (tidy (l.take k)); omega
theorem comp_tidy {rows ys : List (List ApiValue)} (hp : ys.Perm rows) (hs : ys.Pairwise fun a b => rcmp a b ≤ 0) : (comp ys).length = (tidy rows).length ∧ rall (comp ys) (tidy rows) = true := by
  obtain ⟨t1, t2, t3, _⟩ := tidy_facts rows rows.length (Nat.le_refl _)
  rw [List.take_length] at t1 t2 t3
  have c1 : SS (comp ys) := by
    cases ys with
    | nil => simp [comp, SS]
    | cons a l => exact kp_ss a l hs
  have c2 : ∀ x ∈ comp ys, x ∈ ys := by
    cases ys with
    | nil => simp [comp]
    | cons a l =>
      intro x hx
      rcases List.mem_cons.1 hx with rfl | hx
      · simp
      · exact List.mem_cons_of_mem _ (kp_mem a l x hx)
  have c3 : ∀ y ∈ ys, ∃ x ∈ comp ys, rcmp y x = 0 := by
    cases ys with
    | nil => simp
    | cons a l =>
      intro y hy
      rcases List.mem_cons.1 hy with rfl | hy
      · exact ⟨y, by simp [comp], rc_self y⟩
      · exact kp_cov a l y hy
  refine ss_uniq _ _ c1 t1 (fun a ha => ?_) (fun b hb => ?_)
  · obtain ⟨y, k1, k2⟩ := t3 a (hp.mem_iff.1 (c2 a ha))
    exact ⟨y, k1, by have := rcmp_anti y a; omega⟩
  · obtain ⟨x, k1, k2⟩ := c3 b (hp.mem_iff.2 (t2 b hb))
    exact ⟨x, k1, by have := rcmp_anti b x; omega⟩

/-! ### A relation with other rows -/
theorem head_same {n : Nat} (r : Rel) (rows : List (List ApiValue)) (hc : r.Cols.length < 4294967296) (hk : r.Key.length < 4294967296) (hcn : r.Cols.length < n) (hkn : r.Key.length < n) :
    rel_head n (Rel.mk r.Name r.Cols r.Key rows) = rel_head n r := by
  have l4 : rel_head_l4 n n r.Key (r.Key.length : Int) 0 (Rel.mk r.Name r.Cols r.Key rows) = rel_head_l4 n n r.Key (r.Key.length : Int) 0 r := by
    have f1 := rel_head_l4_fold n r.Key (Rel.mk r.Name r.Cols r.Key rows) (by omega) n 0 (Nat.zero_le _) (by omega)
    have f2 := rel_head_l4_fold n r.Key r (by omega) n 0 (Nat.zero_le _) (by omega)
    rw [show ((0 : Nat) : Int) = 0 from rfl] at f1 f2
    rw [f1, f2]
    refine foldK_par r.Key (S := Unit) (S' := Unit) (fun _ _ _ => True) ?_ (fun _ _ _ => rfl) _ 0 rfl (Nat.zero_le _) _ _ trivial
    intro i hi s s' K K' _ hK
    rw [col_ok n (Rel.mk r.Name r.Cols r.Key rows) _ (by show r.Cols.length < _; omega) (by show r.Cols.length < _; omega), col_ok n r _ (by omega) (by omega)]
    simp only [bind_some2, hK () () trivial]
  have l1 : rel_head_l1 n n r.Cols (r.Cols.length : Int) 0 (Rel.mk r.Name r.Cols r.Key rows) = rel_head_l1 n n r.Cols (r.Cols.length : Int) 0 r := by
    have f1 := rel_head_l1_fold n r.Cols (Rel.mk r.Name r.Cols r.Key rows) (by omega) n 0 (Nat.zero_le _) (by omega)
    have f2 := rel_head_l1_fold n r.Cols r (by omega) n 0 (Nat.zero_le _) (by omega)
    rw [show ((0 : Nat) : Int) = 0 from rfl] at f1 f2
    rw [f1, f2]
    refine foldK_par r.Cols (S := Unit) (S' := Unit) (fun _ _ _ => True) ?_ (fun _ _ _ => l4) _ 0 rfl (Nat.zero_le _) _ _ trivial
    intro i hi s s' K K' _ hK
    simp only [hK () () trivial]
  rw [rel_head_eq, rel_head_eq]
  simp only [l1]
theorem row_same {n : Nat} (r : Rel) (rows : List (List ApiValue)) (l : List ApiValue) (hl : l.length < 4294967296) (hn : l.length < n) : rel_row n (Rel.mk r.Name r.Cols r.Key rows) l = rel_row n r l := by
  rw [rel_row_eq, rel_row_eq]
  have f1 := rel_row_l0_fold n l (Rel.mk r.Name r.Cols r.Key rows) (by omega) n 0 (Nat.zero_le _) (by omega)
  have f2 := rel_row_l0_fold n l r (by omega) n 0 (Nat.zero_le _) (by omega)
  rw [show ((0 : Nat) : Int) = 0 from rfl] at f1 f2
  simp only [f1, f2]
/-- What a right relation has. -/
structure Chk (n : Nat) (r : Rel) : Prop where
  head : rel_head n r = some 0
  keys : ∀ k ∈ r.Key, KeyIn r k
  len : r.Rows.length ≤ 300
  rows : ∀ l ∈ r.Rows, rel_row n r l = some 0 ∧ l.length = r.Cols.length
  ss : SS r.Rows
  pw : r.Key = [] ∨ PW (r.Rows.map (keyOf r))
theorem ss_adj {l : List (List ApiValue)} (h : ∀ i, 0 < i → (hi : i < l.length) → rcmp (l[i - 1]'(by omega)) l[i] < 0) : SS l := by
  unfold SS
  rw [List.pairwise_iff_getElem]
  intro i j hi hj hij
  have key : ∀ (d i : Nat) (hi : i < l.length) (hj : i + d + 1 < l.length), rcmp l[i] l[i + d + 1] < 0 := by
    intro d
    induction d with
    | zero =>
      intro i hi hj
      have := h (i + 1) (by omega) hj
      simpa using this
    | succ d ih =>
      intro i hi hj
      have h1 := ih i hi (by omega)
      have h2 := h (i + (d + 1) + 1) (by omega) hj
      have h2 : rcmp l[i + d + 1] l[i + (d + 1) + 1] < 0 := by
        have e : i + (d + 1) + 1 - 1 = i + d + 1 := by omega
        simpa only [e] using h2
      exact rc_lt1 h1 (by omega)
  have := key (j - i - 1) i hi (by omega)
  have e : i + (j - i - 1) + 1 = j := by omega
  simpa only [e] using this
open Classical in
/-- The loop over the rows, where all are right. -/
theorem rows_good {B n : Nat} {r : Rel} (hr : RB B r) (hB : Big B n) (hk : ∀ k ∈ r.Key, KeyIn r k) (hrow : ∀ l ∈ r.Rows, rel_row n r l = some 0 ∧ l.length = r.Cols.length) (hs : SS r.Rows) :
    rel_Check_l0 n n r.Rows (r.Rows.length : Int) 0 r = some (if r.Key = [] then 0 else if PW (r.Rows.map (keyOf r)) then 0 else 16) := by
  have h1 := hr.rl
  have hb1 := hB.b
  have hb2 := hB.n1
  have hb3 := hB.m1
  have f1 := rel_Check_l0_fold n r.Rows r (by omega) n 0 (Nat.zero_le _) (by omega)
  rw [show ((0 : Nat) : Int) = 0 from rfl] at f1
  rw [f1]
  refine foldK_case r.Rows (S := Unit) (fun _ _ => True) (fun o => o = _) ?_ ?_ _ 0 rfl (Nat.zero_le _) _ trivial
  · intro i hi s _
    obtain ⟨e1, e2⟩ := hrow _ (List.getElem_mem hi)
    refine .inr ⟨(), trivial, fun K => ?_⟩
    rw [e1, bind_some2, decide_eq_true rfl, Bool.not_true, cond_false]
    by_cases hp : 0 < i
    · obtain ⟨p1, p2⟩ := inP hp hi (by omega)
      have hlt : i - 1 < r.Rows.length := by omega
      have hw2 := hr.rw _ (List.getElem_mem hlt)
      have hlt' := (List.pairwise_iff_getElem.1 hs) (i - 1) i hlt hi (by omega)
      rw [decide_eq_true (by omega : (i : Int) > 0), cond_true, p1, cond_true, p2, getD_lt _ hlt, rcmp_ok n _ _ (by omega) (by omega), bind_some2, decide_eq_false (by omega), cond_false]
    · rw [decide_eq_false (by omega : ¬ (i : Int) > 0), cond_false]
  · intro _ _
    by_cases h0 : r.Key = []
    · rw [if_pos h0, decide_eq_true (by rw [h0]; rfl), cond_true]
    · have hpos : ¬ (r.Key.length : Int) = 0 := by
        have : r.Key.length ≠ 0 := fun h => h0 (List.length_eq_zero_iff.1 h)
        omega
      have := check2_ok hr hB hk (fun l hl => (hrow l hl).2) _ 0 n rfl (Nat.zero_le _) (by omega) (by simp [PW])
      rw [show ((0 : Nat) : Int) = 0 from rfl] at this
      rw [decide_eq_false hpos, cond_false, this, if_neg h0]
open Classical in
theorem check_good {B n : Nat} {r : Rel} (hr : RB B r) (hB : Big B n) (hh : rel_head n r = some 0) (hk : ∀ k ∈ r.Key, KeyIn r k) (hrow : ∀ l ∈ r.Rows, rel_row n r l = some 0 ∧ l.length = r.Cols.length) (hs : SS r.Rows) :
    rel_Check n r = some (if 300 < r.Rows.length then 2 else if r.Key = [] then 0 else if PW (r.Rows.map (keyOf r)) then 0 else 16) := by
  rw [rel_Check_eq, hh, bind_some2, decide_eq_true rfl, Bool.not_true, cond_false]
  by_cases h : 300 < r.Rows.length
  · rw [if_pos h, decide_eq_true (by omega), cond_true]
  · rw [if_neg h, decide_eq_false (by omega), cond_false, rows_good hr hB hk hrow hs]
theorem check0_all {B n : Nat} {r : Rel} (hr : RB B r) (hB : Big B n) (h : rel_Check n r = some 0) : Chk n r := by
  have h1 := hr.rl
  have hb1 := hB.b
  have hb2 := hB.n1
  have hb3 := hB.m1
  have h' := h
  obtain ⟨_, e, e2, e3⟩ := head_ok (n := n) hr (by omega) (by omega)
  rw [rel_Check_eq, e2, bind_some2] at h
  by_cases h0 : e = 0
  · subst h0
    rw [decide_eq_true rfl, Bool.not_true, cond_false] at h
    by_cases hc : (r.Rows.length : Int) > 300
    · rw [decide_eq_true hc, cond_true] at h; cases h
    · rw [decide_eq_false hc, cond_false] at h
      have f1 := rel_Check_l0_fold n r.Rows r (by omega) n 0 (Nat.zero_le _) (by omega)
      rw [show ((0 : Nat) : Int) = 0 from rfl] at f1
      rw [f1] at h
      have all : (∀ l ∈ r.Rows, rel_row n r l = some 0 ∧ l.length = r.Cols.length) ∧ ∀ i, 0 < i → (hi : i < r.Rows.length) → rcmp (r.Rows[i - 1]'(by omega)) r.Rows[i] < 0 := by
        revert h
        refine foldK_case r.Rows (S := Unit) (fun i _ => (∀ l ∈ r.Rows.take i, rel_row n r l = some 0 ∧ l.length = r.Cols.length) ∧ ∀ j, 0 < j → (hj : j < r.Rows.length) → j < i → rcmp (r.Rows[j - 1]'(by omega)) r.Rows[j] < 0) (fun o => o = some 0 → (∀ l ∈ r.Rows, rel_row n r l = some 0 ∧ l.length = r.Cols.length) ∧ ∀ i, 0 < i → (hi : i < r.Rows.length) → rcmp (r.Rows[i - 1]'(by omega)) r.Rows[i] < 0) ?_ (fun _ hI _ => ⟨by have := hI.1; rwa [List.take_length] at this, fun i h0 hi => hI.2 i h0 hi hi⟩) _ 0 rfl (Nat.zero_le _) _ ⟨by simp, fun j _ _ h => by omega⟩
        intro i hi s hI
        have hm := List.getElem_mem hi
        have hw := hr.rw _ hm
        obtain ⟨_, e, e2, e3⟩ := row_ok (r := r) (n := n) (l := r.Rows[i]) (by omega) (by omega)
        have next : e = 0 → ∀ l ∈ r.Rows.take (i + 1), rel_row n r l = some 0 ∧ l.length = r.Cols.length := by
          intro h0 l hl
          rw [List.take_succ_eq_append_getElem hi] at hl
          rcases List.mem_append.1 hl with hl | hl
          · exact hI.1 l hl
          · rw [List.mem_singleton.1 hl]; exact ⟨by rw [e2, h0], e3 h0⟩
        rw [e2]
        simp only [bind_some2]
        by_cases h0 : e = 0
        · rw [decide_eq_true h0]
          by_cases hp : 0 < i
          · obtain ⟨p1, p2⟩ := inP hp hi (by omega)
            have hlt : i - 1 < r.Rows.length := by omega
            rw [decide_eq_true (by omega : (i : Int) > 0), p1, p2, getD_lt _ hlt]
            have hw2 := hr.rw _ (List.getElem_mem hlt)
            rw [rcmp_ok n _ _ (by omega) (by omega)]
            simp only [bind_some2, Bool.not_true, cond_false, cond_true]
            cases hd : decide (rcmp r.Rows[i - 1] r.Rows[i] ≥ 0) with
            | true => exact .inl ⟨some 9, fun h => (by cases h), fun _ => by rw [cond_true]⟩
            | false =>
              refine .inr ⟨(), ⟨next h0, fun j j0 hj hji => ?_⟩, fun _ => by rw [cond_false]⟩
              rcases Nat.lt_or_ge j i with h | h
              · exact hI.2 j j0 hj h
              · have : j = i := by omega
                subst this
                have := of_decide_eq_false hd
                omega
          · rw [decide_eq_false (by omega : ¬ (i : Int) > 0)]
            refine .inr ⟨(), ⟨next h0, fun j j0 hj hji => ?_⟩, fun _ => by rw [Bool.not_true, cond_false, cond_false]⟩
            omega
        · rw [decide_eq_false h0]
          exact .inl ⟨some e, fun h => absurd (Option.some.inj h) h0, fun _ => by rw [Bool.not_false, cond_true]⟩
      have hss := ss_adj all.2
      have g := check_good hr hB e2 (e3 rfl) all.1 hss
      rw [h', if_neg (by omega)] at g
      refine ⟨e2, e3 rfl, by omega, all.1, hss, ?_⟩
      by_cases hk : r.Key = []
      · exact .inl hk
      · rw [if_neg hk] at g
        by_cases hp : PW (r.Rows.map (keyOf r))
        · exact .inr hp
        · rw [if_neg hp] at g; cases g
  · rw [decide_eq_false h0, Bool.not_false, cond_true] at h
    exact absurd (Option.some.inj h) h0

/-! ### Two loops over one list, told together -/
theorem foldK_two {A S S' R R' : Type} (v : List A) {step : Nat → A → S → (S → Option R) → Option R} {fin : S → Option R} {step' : Nat → A → S' → (S' → Option R') → Option R'} {fin' : S' → Option R'} (I : Nat → S → S' → Prop) (Q : Option R → Option R' → Prop)
    (h : ∀ i (hi : i < v.length) s s', I i s s' → (∃ o o', Q o o' ∧ (∀ K, step i v[i] s K = o) ∧ ∀ K, step' i v[i] s' K = o') ∨ ∃ t t', I (i + 1) t t' ∧ (∀ K, step i v[i] s K = K t) ∧ ∀ K, step' i v[i] s' K = K t')
    (hf : ∀ s s', I v.length s s' → Q (fin s) (fin' s')) : ∀ (c i : Nat), c = v.length - i → i ≤ v.length → ∀ s s', I i s s' → Q (foldK step fin (v.drop i) i s) (foldK step' fin' (v.drop i) i s') := by
  intro c
  induction c with
  | zero =>
    intro i hc hi s s' hI
    rw [List.drop_eq_nil_of_le (by omega)]
    exact hf s s' (by rwa [show v.length = i by omega])
  | succ c ih =>
    intro i hc hi s s' hI
    rw [List.drop_eq_getElem_cons (by omega : i < v.length), foldK_cons, foldK_cons]
    rcases h i (by omega) s s' hI with ⟨o, o', h1, h2, h3⟩ | ⟨t, t', h1, h2, h3⟩
    · rw [h2, h3]; exact h1
    · rw [h2, h3]; exact ih (i + 1) (by omega) (by omega) t t' h1

/-! ### Bases that are right -/
theorem base0_all {B n : Nat} {b : List Rel} (hl : b.length ≤ B) (hb : ∀ r ∈ b, RB B r) (hB : Big B n) (h : rel_CheckBase n b = some 0) : ∀ r ∈ b, rel_Check n r = some 0 := by
  have hb1 := hB.b
  have hb2 := hB.n1
  rw [rel_CheckBase_eq] at h
  cases hc : decide ((b.length : Int) > 12) with
  | true => rw [hc, cond_true] at h; cases h
  | false =>
    rw [hc, cond_false] at h
    have f1 := rel_CheckBase_l0_fold n b b (by omega) n 0 (Nat.zero_le _) (by omega)
    rw [show ((0 : Nat) : Int) = 0 from rfl] at f1
    rw [f1] at h
    revert h
    refine foldK_case b (S := Unit) (fun i _ => ∀ r ∈ b.take i, rel_Check n r = some 0) (fun o => o = some 0 → ∀ r ∈ b, rel_Check n r = some 0) ?_ (fun _ hI _ => by rwa [List.take_length] at hI) _ 0 rfl (Nat.zero_le _) _ (by simp)
    intro i hi s hI
    obtain ⟨e1, e, e2⟩ := check_ok (hb _ (List.getElem_mem hi)) hB
    rw [e2]
    simp only [bind_some2]
    by_cases h0 : e = 0
    · subst h0
      have next : ∀ r ∈ b.take (i + 1), rel_Check n r = some 0 := by
        intro r hr
        rw [List.take_succ_eq_append_getElem hi] at hr
        rcases List.mem_append.1 hr with hr | hr
        · exact hI r hr
        · rw [List.mem_singleton.1 hr]; exact e2
      rw [decide_eq_true rfl]
      by_cases hp : 0 < i
      · obtain ⟨p1, p2⟩ := inP hp hi (by omega)
        have hlt : i - 1 < b.length := by omega
        rw [decide_eq_true (by omega : (i : Int) > 0), p1, p2, getD_lt _ hlt]
        cases bytesLess b[i - 1].Name b[i].Name with
        | true => exact .inr ⟨(), next, fun _ => by rw [Bool.not_true, cond_false, cond_true, cond_true, cond_false]⟩
        | false => exact .inl ⟨some 9, fun h => (by cases h), fun _ => by rw [Bool.not_true, cond_false, cond_true, cond_true, Bool.not_false, cond_true]⟩
      · rw [decide_eq_false (by omega : ¬ (i : Int) > 0)]
        exact .inr ⟨(), next, fun _ => by rw [Bool.not_true, cond_false, cond_false]⟩
    · rw [decide_eq_false h0]
      exact .inl ⟨some e, fun h => absurd (Option.some.inj h) h0, fun _ => by rw [Bool.not_false, cond_true]⟩

/-! ### Where a foreign key leads -/
abbrev cix (r : Rel) (s : List UInt8) : Nat := r.Cols.findIdx fun a => a.Name == s
def prs (from_ to : Rel) : List (List UInt8) → List (List UInt8) → List (List Int)
  | s :: l, k :: m => [((cix from_ s : Nat) : Int), ((cix to k : Nat) : Int)] :: prs from_ to l m
  | _, _ => []
theorem prs_snoc (from_ to : Rel) : ∀ (l m : List (List UInt8)) (s k : List UInt8), l.length = m.length → prs from_ to (l ++ [s]) (m ++ [k]) = prs from_ to l m ++ [[((cix from_ s : Nat) : Int), ((cix to k : Nat) : Int)]]
  | [], [], _, _, _ => rfl
  | [], _ :: _, _, _, h => by simp at h
  | _ :: _, [], _, _, h => by simp at h
  | a :: l, b :: m, s, k, h => by
    have ih := prs_snoc from_ to l m s k (by simpa using h)
    show [_, _] :: prs from_ to (l ++ [s]) (m ++ [k]) = _
    rw [ih]
    rfl
theorem prs_len (from_ to : Rel) : ∀ (l m : List (List UInt8)), (prs from_ to l m).length ≤ l.length
  | [], _ => Nat.le_refl _
  | _ :: _, [] => Nat.zero_le _
  | _ :: l, _ :: m => Nat.succ_le_succ (prs_len from_ to l m)
theorem mx_ix {A : Type} {p : A → Bool} {l : List A} (h : l.any p = true) : mxI 0 (ixI p l) = ((l.findIdx p : Nat) : Int) ∧ l.findIdx p < l.length ∧ ixI p l = ((l.findIdx p : Nat) : Int) := by
  have e : ixI p l = ((l.findIdx p : Nat) : Int) := by rw [ixI_eq, if_pos h]
  refine ⟨?_, List.findIdx_lt_length_of_exists (by obtain ⟨c, h1, h2⟩ := List.any_eq_true.1 h; exact ⟨c, h1, h2⟩), e⟩
  rw [e]
  unfold mxI
  cases l.findIdx p with
  | zero => rfl
  | succ j => rw [decide_eq_true (by omega)]; rfl
theorem ix1_ok (n : Nat) (b : List Rel) (f : Foreign) (hl : b.length < 9223372036854775807) (hn : b.length < n) : slices_IndexFunc_Rel_by_ref2_ForeignErr_1 n b (f, ()) = some (ixI (fun a : Rel => a.Name == f.From) b) := by
  have h := slices_IndexFunc_Rel_by_ref2_ForeignErr_1_l0_fold n b f hl n 0 (Nat.zero_le _) (by omega)
  rw [show ((0 : Nat) : Int) = 0 from rfl] at h
  simp only [ref2_ForeignErr_1_eq, bind_some2] at h
  rw [slices_IndexFunc_Rel_by_ref2_ForeignErr_1_eq, h, List.drop_zero, foldK_ix fun a : Rel => a.Name == f.From]
theorem ix2_ok (n : Nat) (b : List Rel) (f : Foreign) (hl : b.length < 9223372036854775807) (hn : b.length < n) : slices_IndexFunc_Rel_by_ref2_ForeignErr_2 n b (f, ()) = some (ixI (fun a : Rel => a.Name == f.To) b) := by
  have h := slices_IndexFunc_Rel_by_ref2_ForeignErr_2_l0_fold n b f hl n 0 (Nat.zero_le _) (by omega)
  rw [show ((0 : Nat) : Int) = 0 from rfl] at h
  simp only [ref2_ForeignErr_2_eq, bind_some2] at h
  rw [slices_IndexFunc_Rel_by_ref2_ForeignErr_2_eq, h, List.drop_zero, foldK_ix fun a : Rel => a.Name == f.To]
theorem ix3_ok (n : Nat) (b : List Rel) (f : Foreign) (hl : b.length < 9223372036854775807) (hn : b.length < n) : slices_IndexFunc_Rel_by_ref2_Lonely_1 n b (f, ()) = some (ixI (fun a : Rel => a.Name == f.From) b) := by
  have h := slices_IndexFunc_Rel_by_ref2_Lonely_1_l0_fold n b f hl n 0 (Nat.zero_le _) (by omega)
  rw [show ((0 : Nat) : Int) = 0 from rfl] at h
  simp only [ref2_Lonely_1_eq, bind_some2] at h
  rw [slices_IndexFunc_Rel_by_ref2_Lonely_1_eq, h, List.drop_zero, foldK_ix fun a : Rel => a.Name == f.From]
theorem ix4_ok (n : Nat) (b : List Rel) (f : Foreign) (hl : b.length < 9223372036854775807) (hn : b.length < n) : slices_IndexFunc_Rel_by_ref2_Lonely_2 n b (f, ()) = some (ixI (fun a : Rel => a.Name == f.To) b) := by
  have h := slices_IndexFunc_Rel_by_ref2_Lonely_2_l0_fold n b f hl n 0 (Nat.zero_le _) (by omega)
  rw [show ((0 : Nat) : Int) = 0 from rfl] at h
  simp only [ref2_Lonely_2_eq, bind_some2] at h
  rw [slices_IndexFunc_Rel_by_ref2_Lonely_2_eq, h, List.drop_zero, foldK_ix fun a : Rel => a.Name == f.To]

/-- A foreign key that is right. -/
structure FOK (b : List Rel) (f : Foreign) (i j : Nat) : Prop where
  hi : i < b.length
  hj : j < b.length
  fi : ixI (fun a : Rel => a.Name == f.From) b = (i : Int)
  fj : ixI (fun a : Rel => a.Name == f.To) b = (j : Int)
  len : b[j].Key.length = f.Cols.length
  cols : ∀ s ∈ f.Cols, KeyIn b[i] s
theorem place_ok {B n : Nat} {b : List Rel} {l : List Foreign} {k : Nat} (hl : b.length ≤ B) (hb : ∀ r ∈ b, RB B r) (hB : Big B n) (hg : ∀ r ∈ b, rel_Check n r = some 0) (hk : k < l.length) (hll : l.length < 4294967296) (hc : l[k].Cols.length ≤ B) :
    (∃ e p1 p2 p3, e ≠ 0 ∧ load_places n b l[k] = some (p1, p2, p3, e) ∧ ∀ m, ref2_ForeignErr_l0 n (m + 1) b l (l.length : Int) (k : Int) = some e) ∨
    (∃ i j, ∃ h : FOK b l[k] i j, load_places n b l[k] = some (b[i]'h.hi, b[j]'h.hj, prs (b[i]'h.hi) (b[j]'h.hj) l[k].Cols (b[j]'h.hj).Key, 0) ∧ ∀ m, ref2_ForeignErr_l0 n (m + 1) b l (l.length : Int) (k : Int) = ref2_ForeignErr_l0 n m b l (l.length : Int) ((k + 1 : Nat) : Int)) := by
  have hb1 := hB.b
  have hb2 := hB.n1
  have hm : ∀ m, ref2_ForeignErr_l0 n (m + 1) b l (l.length : Int) (k : Int) = _ := fun m => ref2_ForeignErr_l0_eq n m b l (l.length : Int) (k : Int)
  simp only [dlt, dT hk, d0, Bool.and_self, cond_true, Int.toNat_natCast, getD_lt _ hk] at hm
  generalize l[k] = f at hm hc ⊢
  rw [load_places_eq]
  simp only [ix1_ok n b f (by omega) (by omega), ix2_ok n b f (by omega) (by omega), bind_some2] at hm
  rcases find_ok (B := B) (n := n) (by omega) (by omega) b f.From hl hb with ⟨e1, e2⟩ | ⟨i, hi, e1, e2⟩
  · left
    rcases find_ok (B := B) (n := n) (by omega) (by omega) b f.To hl hb with ⟨d1, d2⟩ | ⟨j, hj, d1, d2⟩
    · refine ⟨4, Rel.mk [] [] [] [], Rel.mk [] [] [] [], [], by decide, by rw [e1, d1]; rfl, fun m => ?_⟩
      rw [hm, e2, d2]; rfl
    · refine ⟨4, Rel.mk [] [] [] [], b[j], [], by decide, by rw [e1, d1]; rfl, fun m => ?_⟩
      have hmn : decide (mnI (-1) (j : Int) < 0) = true := by
        unfold mnI
        rw [decide_eq_false (by omega : ¬ (j : Int) < -1), cond_false]
        rfl
      rw [hm, e2, d2, hmn, cond_true]
  · rcases find_ok (B := B) (n := n) (by omega) (by omega) b f.To hl hb with ⟨d1, d2⟩ | ⟨j, hj, d1, d2⟩
    · left
      refine ⟨4, b[i], Rel.mk [] [] [] [], [], by decide, by rw [e1, d1]; rfl, fun m => ?_⟩
      have hmn : decide (mnI (i : Int) (-1) < 0) = true := by
        unfold mnI
        rw [decide_eq_true (by omega : (-1 : Int) < (i : Int)), cond_true]
        rfl
      rw [hm, e2, d2, hmn, cond_true]
    · have hmn : decide (mnI (i : Int) (j : Int) < 0) = false := by
        unfold mnI
        apply decide_eq_false
        cases decide ((j : Int) < (i : Int)) <;> simp only [cond_true, cond_false] <;> omega
      rw [e1, d1]
      simp only [bind_some2, Bool.not_true, cond_false]
      simp only [e2, d2, hmn, cond_false, inR hj, cond_true, Int.toNat_natCast, getD_lt _ hj] at hm
      have hrj := hb _ (List.getElem_mem hj)
      have hri := hb _ (List.getElem_mem hi)
      have k1 := hrj.kl
      have k2 := hrj.cl
      have k3 := hri.cl
      by_cases h0 : ((List.length b[j].Key : Int) = 0)
      · left
        rw [decide_eq_true h0, cond_true]
        exact ⟨3, _, _, _, by decide, rfl, fun m => by rw [hm, decide_eq_true h0, cond_true]⟩
      · rw [decide_eq_false h0, cond_false]
        by_cases hlen : b[j].Key.length = f.Cols.length
        · have hck := check0_all hrj hB (hg _ (List.getElem_mem hj))
          rw [decide_eq_true (by omega : (f.Cols.length : Int) = (b[j].Key.length : Int)), Bool.not_true, cond_false]
          have f1 := load_places_l0_fold n f.Cols (Rel.mk [] [] [] []) (Rel.mk [] [] [] []) b[i] b[j] [] (by omega) n 0 (Nat.zero_le _) (by omega)
          rw [show ((0 : Nat) : Int) = 0 from rfl] at f1
          have hm2 : ∀ m, ref2_ForeignErr_l0 n (m + 1) b l (l.length : Int) (k : Int) = ref2_ForeignErr_l2 n m n b (i : Int) (j : Int) l (l.length : Int) (k : Int) f.Cols (f.Cols.length : Int) 0 := fun m => by
            rw [hm, decide_eq_false h0, cond_false, decide_eq_true (by omega : (b[j].Key.length : Int) = (f.Cols.length : Int)), Bool.not_true, cond_false]
          have key : ∀ m, (∃ e p1 p2 p3, e ≠ 0 ∧ ref2_ForeignErr_l0 n (m + 1) b l (l.length : Int) (k : Int) = some e ∧ load_places_l0 n n [] f.Cols (f.Cols.length : Int) 0 (Rel.mk [] [] [] []) (Rel.mk [] [] [] []) b[i] b[j] = some (p1, p2, p3, e)) ∨
              (ref2_ForeignErr_l0 n (m + 1) b l (l.length : Int) (k : Int) = ref2_ForeignErr_l0 n m b l (l.length : Int) ((k + 1 : Nat) : Int) ∧ load_places_l0 n n [] f.Cols (f.Cols.length : Int) 0 (Rel.mk [] [] [] []) (Rel.mk [] [] [] []) b[i] b[j] = some (b[i], b[j], prs b[i] b[j] f.Cols b[j].Key, 0) ∧ ∀ s ∈ f.Cols, KeyIn b[i] s) := by
            intro m
            have f2 := ref2_ForeignErr_l2_fold n m b (i : Int) (j : Int) l (l.length : Int) (k : Int) f.Cols (by omega) n 0 (Nat.zero_le _) (by omega)
            rw [show ((0 : Nat) : Int) = 0 from rfl] at f2
            rw [hm2, f2, f1]
            refine foldK_two f.Cols (S := Unit) (S' := List (List Int)) (fun q _ s => s = prs b[i] b[j] (f.Cols.take q) (b[j].Key.take q) ∧ ∀ x ∈ f.Cols.take q, KeyIn b[i] x)
              (fun o o' => (∃ e p1 p2 p3, e ≠ 0 ∧ o = some e ∧ o' = some (p1, p2, p3, e)) ∨ (o = ref2_ForeignErr_l0 n m b l (l.length : Int) ((k + 1 : Nat) : Int) ∧ o' = some (b[i], b[j], prs b[i] b[j] f.Cols b[j].Key, 0) ∧ ∀ s ∈ f.Cols, KeyIn b[i] s)) ?_ ?_ _ 0 rfl (Nat.zero_le _) () [] ⟨rfl, by simp⟩
            · intro q hq s s' hI
              obtain ⟨rfl, hI2⟩ := hI
              have hqj : q < b[j].Key.length := by omega
              have hkj : KeyIn b[j] b[j].Key[q] := hck.keys _ (List.getElem_mem hqj)
              have c1 := fun s => col_ok n b[i] s (by omega) (by omega)
              have c2 := fun s => col_ok n b[j] s (by omega) (by omega)
              have c3 := fun s => column_ok n b[i] s (by omega) (by omega)
              have c4 := fun s => column_ok n b[j] s (by omega) (by omega)
              simp only [inR hqj, inR hi, inR hj, Int.toNat_natCast, getD_lt _ hqj, getD_lt _ hi, getD_lt _ hj, c1, c2, c3, c4, bind_some2, cond_true]
              obtain ⟨m1, m2, m3⟩ := mx_ix hkj
              rw [m1, m3, inR m2]
              by_cases hka : KeyIn b[i] f.Cols[q]
              · obtain ⟨n1, n2, n3⟩ := mx_ix hka
                have hka' : (b[i].Cols.any fun a => a.Name == f.Cols[q]) = true := hka
                rw [n1, n3, hka', inR n2, decide_eq_false (by omega : ¬ (((b[i].Cols.findIdx fun a => a.Name == f.Cols[q] : Nat)) : Int) < 0)]
                simp only [cond_false, cond_true, Bool.not_true]
                cases decide ((List.getD b[i].Cols (Int.toNat ((b[i].Cols.findIdx fun a => a.Name == f.Cols[q] : Nat) : Int)) (Col.mk [] 0)).Kind = (List.getD b[j].Cols (Int.toNat ((b[j].Cols.findIdx fun a => a.Name == b[j].Key[q] : Nat) : Int)) (Col.mk [] 0)).Kind) with
                | false => exact .inl ⟨_, _, .inl ⟨8, b[i], b[j], [], by decide, rfl, rfl⟩, fun K => rfl, fun K => rfl⟩
                | true =>
                  refine .inr ⟨(), prs b[i] b[j] (f.Cols.take q) (b[j].Key.take q) ++ [[((b[i].Cols.findIdx fun a => a.Name == f.Cols[q] : Nat) : Int), ((b[j].Cols.findIdx fun a => a.Name == b[j].Key[q] : Nat) : Int)]], ⟨?_, ?_⟩, fun K => rfl, fun K => ?_⟩
                  · rw [List.take_succ_eq_append_getElem hq, List.take_succ_eq_append_getElem hqj, prs_snoc _ _ _ _ _ _ (by simp; omega)]
                  · intro x hx
                    rw [List.take_succ_eq_append_getElem hq] at hx
                    rcases List.mem_append.1 hx with hx | hx
                    · exact hI2 x hx
                    · rw [List.mem_singleton.1 hx]; exact hka
                  · have hpl := prs_len b[i] b[j] (f.Cols.take q) (b[j].Key.take q)
                    rw [List.length_take] at hpl
                    rw [decide_eq_true trivial, decide_eq_true (by simp; omega)]
                    rfl
              · have hka' : (b[i].Cols.any fun a => a.Name == f.Cols[q]) = false := by simpa using hka
                rw [hka', show ixI (fun a => a.Name == f.Cols[q]) b[i].Cols = -1 by rw [ixI_eq, hka']; rfl]
                exact .inl ⟨_, _, .inl ⟨15, b[i], b[j], [], by decide, rfl, rfl⟩, fun K => rfl, fun K => rfl⟩
            · intro _ s' hI
              obtain ⟨rfl, hI2⟩ := hI
              rw [List.take_length] at hI2
              rw [List.take_length, show List.take f.Cols.length b[j].Key = b[j].Key from List.take_of_length_le (by omega)]
              refine .inr ⟨?_, rfl, hI2⟩
              rw [i64_succ (by omega)]
          rcases key 0 with ⟨e, p1, p2, p3, g1, g2, g3⟩ | ⟨g1, g2, g3⟩
          · left
            refine ⟨e, p1, p2, p3, g1, g3, fun m => ?_⟩
            rcases key m with ⟨e', p1', p2', p3', g1', g2', g3'⟩ | ⟨_, g2', _⟩
            · have := g3.symm.trans g3'
              cases this
              exact g2'
            · have := g3.symm.trans g2'
              cases this
              exact absurd rfl g1
          · right
            refine ⟨i, j, ⟨hi, hj, e2, d2, hlen, g3⟩, g2, fun m => ?_⟩
            rcases key m with ⟨e', p1', p2', p3', g1', g2', g3'⟩ | ⟨g1', _, _⟩
            · have := g2.symm.trans g3'
              cases this
              exact absurd rfl g1'
            · exact g1'
        · left
          rw [decide_eq_false (by omega : ¬ (f.Cols.length : Int) = (b[j].Key.length : Int)), Bool.not_false, cond_true]
          exact ⟨3, _, _, _, by decide, rfl, fun m => by rw [hm, decide_eq_false h0, cond_false, decide_eq_false (by omega : ¬ (b[j].Key.length : Int) = (f.Cols.length : Int)), Bool.not_false, cond_true]⟩

/-! ### The two checks -/
theorem foreign_ok {B n : Nat} {b : List Rel} {l : List Foreign} (hl : b.length ≤ B) (hb : ∀ r ∈ b, RB B r) (hB : Big B n) (hll : l.length ≤ B) (hc : ∀ f ∈ l, f.Cols.length ≤ B) :
    ∃ e, ref2_ForeignErr n b l = some e ∧ load_Check n b l = some e ∧ (e = 0 → (∀ r ∈ b, rel_Check n r = some 0) ∧ l.length ≤ 12 ∧ ∀ k (hk : k < l.length), ∃ i j, ∃ h : FOK b l[k] i j, load_places n b l[k] = some (b[i]'h.hi, b[j]'h.hj, prs (b[i]'h.hi) (b[j]'h.hj) l[k].Cols (b[j]'h.hj).Key, 0)) := by
  have hb1 := hB.b
  have hb2 := hB.n1
  obtain ⟨e1, e, e2⟩ := base_ok hl hb hB
  rw [ref2_ForeignErr_eq, load_Check_eq, ← e1, e2, bind_some2, bind_some2]
  by_cases h0 : e = 0
  · subst h0
    have hg := base0_all hl hb hB e2
    rw [decide_eq_true rfl, Bool.not_true, cond_false, cond_false]
    by_cases h12 : (l.length : Int) > 12
    · rw [decide_eq_true h12, cond_true, cond_true]
      exact ⟨2, rfl, rfl, fun h => by cases h⟩
    · rw [decide_eq_false h12, cond_false, cond_false]
      have f1 := load_Check_l0_fold n b l (by omega) n 0 (Nat.zero_le _) (by omega)
      rw [show ((0 : Nat) : Int) = 0 from rfl] at f1
      rw [f1, List.drop_zero]
      have key : ∀ (c k m : Nat), c + k = l.length → c < m → ∃ e, ref2_ForeignErr_l0 n m b l (l.length : Int) (k : Int) = some e ∧ foldK (S := Unit) (fun i (a : Foreign) s K => (Option.bind (load_places n b a) fun r2 => (bif (!decide (r2.2.2.2 = 0)) then (some r2.2.2.2) else (K ())))) (fun s => (some 0)) (l.drop k) k () = some e ∧
          (e = 0 → ∀ q (hq : q < l.length), k ≤ q → ∃ i j, ∃ h : FOK b l[q] i j, load_places n b l[q] = some (b[i]'h.hi, b[j]'h.hj, prs (b[i]'h.hi) (b[j]'h.hj) l[q].Cols (b[j]'h.hj).Key, 0)) := by
        intro c
        induction c with
        | zero =>
          intro k m hk hm
          obtain ⟨m, rfl⟩ : ∃ m', m = m' + 1 := ⟨m - 1, by omega⟩
          refine ⟨0, ?_, ?_, fun _ q hq hkq => by omega⟩
          · rw [ref2_ForeignErr_l0_eq, dlt, dF (by omega : ¬ k < l.length), cond_false]
          · rw [List.drop_eq_nil_of_le (by omega)]; rfl
        | succ c ih =>
          intro k m hk hm
          obtain ⟨m, rfl⟩ : ∃ m', m = m' + 1 := ⟨m - 1, by omega⟩
          have hlt : k < l.length := by omega
          rw [List.drop_eq_getElem_cons hlt, foldK_cons]
          rcases place_ok (k := k) hl hb hB hg hlt (by omega) (hc _ (List.getElem_mem hlt)) with ⟨e, p1, p2, p3, g1, g2, g3⟩ | ⟨i, j, h, g2, g3⟩
          · refine ⟨e, g3 m, ?_, fun h => absurd h g1⟩
            rw [g2, bind_some2, decide_eq_false g1]
            rfl
          · obtain ⟨e, k1, k2, k3⟩ := ih (k + 1) m (by omega) (by omega)
            refine ⟨e, by rw [g3, k1], ?_, fun he q hq hkq => ?_⟩
            · rw [g2, bind_some2, decide_eq_true rfl]
              exact k2
            · rcases Nat.lt_or_ge k q with h' | h'
              · exact k3 he q hq h'
              · obtain rfl : q = k := by omega
                exact ⟨i, j, h, g2⟩
      obtain ⟨e, k1, k2, k3⟩ := key l.length 0 n (by omega) (by omega)
      rw [show ((0 : Nat) : Int) = 0 from rfl] at k1
      rw [List.drop_zero] at k2
      exact ⟨e, k1, k2, fun he => ⟨hg, by omega, fun k hk => k3 he k hk (Nat.zero_le _)⟩⟩
  · rw [decide_eq_false h0]
    exact ⟨e, rfl, rfl, fun h => absurd h h0⟩

/-! ### Rows that lead nowhere -/
def lead (from_ to : Rel) (cols key : List (List UInt8)) (x y : List ApiValue) : Bool := decide (rcmp (key.map (kval to y)) (cols.map (kval from_ x)) = 0)
theorem lead_cc (from_ to : Rel) (s k : List UInt8) (cols key : List (List UInt8)) (x y : List ApiValue) : lead from_ to (s :: cols) (k :: key) x y = (decide (vcmp (kval to y k) (kval from_ x s) = 0) && lead from_ to cols key x y) := by
  unfold lead
  rw [List.map_cons, List.map_cons, rcmp_cc, ← Bool.decide_and]
  congr 1
  rcases or2_val (vcmp (kval to y k) (kval from_ x s)) (rcmp (key.map (kval to y)) (cols.map (kval from_ x))) with ⟨h1, h2⟩ | ⟨h1, h2⟩ <;> rw [h2] <;> simp [h1]
theorem leads_ok {B n : Nat} (hB : B < 4294967296) (hn : 3 * B + 10 < n) {from_ to : Rel} (cols key : List (List UInt8)) (hlen : key.length = cols.length) (hcl : cols.length ≤ B) (hc : ∀ s ∈ cols, KeyIn from_ s) (hk : ∀ s ∈ key, KeyIn to s) {x y : List ApiValue} (hx : lw x ≤ B) (hxl : x.length = from_.Cols.length) (hyl : y.length = to.Cols.length) :
    load_leads n x y (prs from_ to cols key) = some (lead from_ to cols key x y) := by
  have hpl := prs_len from_ to cols key
  have h := slices_IndexFunc_2int_by_load_leads_1_l0_fold n (prs from_ to cols key) x y (by omega) n 0 (Nat.zero_le _) (by omega)
  rw [show ((0 : Nat) : Int) = 0 from rfl] at h
  rw [load_leads_eq, slices_ContainsFunc_2int_by_load_leads_1_eq, slices_IndexFunc_2int_by_load_leads_1_eq]
  simp only []
  rw [h, List.drop_zero]
  have one : ∀ s k, KeyIn from_ s → KeyIn to k → load_leads_1 n [((cix from_ s : Nat) : Int), ((cix to k : Nat) : Int)] x y = some (!decide (vcmp (kval to y k) (kval from_ x s) = 0)) := by
    intro s k h1 h2
    obtain ⟨_, m2, _⟩ := mx_ix h1
    obtain ⟨_, n2, _⟩ := mx_ix h2
    have g1 : cix from_ s < x.length := by rw [hxl]; exact m2
    have g2 : cix to k < y.length := by rw [hyl]; exact n2
    rw [load_leads_1_eq]
    show (bif (decide (0 ≤ ((cix from_ s : Nat) : Int)) && decide (((cix from_ s : Nat) : Int) < (x.length : Int))) then (bif (decide (0 ≤ ((cix to k : Nat) : Int)) && decide (((cix to k : Nat) : Int) < (y.length : Int))) then (Option.bind (value_Same n (List.getD x (Int.toNat ((cix from_ s : Nat) : Int)) (ApiValue.mk 0 0 [] [])) (List.getD y (Int.toNat ((cix to k : Nat) : Int)) (ApiValue.mk 0 0 [] []))) fun r1 => (some (!r1))) else none) else none) = _
    rw [inR g1, inR g2, cond_true, cond_true, value_Same_eq]
    have hv := lw_mem (kval_mem (r := from_) h1 hxl)
    show Option.bind (Option.bind (value_Cmp n n (kval from_ x s) (kval to y k)) _) _ = _
    rw [vcmp_ok n (by omega) _ _ _ n (Nat.le_refl _) (by omega) (by omega) (by omega)]
    have ha := vcmp_anti (kval from_ x s) (kval to y k)
    show some (!decide (vcmp (kval from_ x s) (kval to y k) = 0)) = _
    rw [ha]
    congr 2
    simp only [decide_eq_decide]
    omega
  have all : ∀ (cols key : List (List UInt8)), key.length = cols.length → (∀ s ∈ cols, KeyIn from_ s) → (∀ s ∈ key, KeyIn to s) → ∀ i, ∃ z, foldK (S := Unit) (fun i (a : (List Int)) s K => (Option.bind (load_leads_1 n a x y) fun r1 => (bif r1 then (some (i : Int)) else (K ())))) (fun s => (some (-1))) (prs from_ to cols key) i () = some z ∧ decide (z ≥ 0) = !lead from_ to cols key x y := by
    intro cols
    induction cols with
    | nil =>
      intro key hl _ _ i
      have : key = [] := List.length_eq_zero_iff.1 hl
      subst this
      refine ⟨-1, rfl, ?_⟩
      show false = !decide (rcmp [] [] = 0)
      rw [rcmp_nn]; rfl
    | cons s cols ih =>
      intro key hl h1 h2 i
      cases key with
      | nil => simp at hl
      | cons k key =>
        show ∃ z, foldK _ _ ([((cix from_ s : Nat) : Int), ((cix to k : Nat) : Int)] :: prs from_ to cols key) i () = some z ∧ _
        rw [foldK_cons, one s k (h1 s (by simp)) (h2 k (by simp)), bind_some2, lead_cc]
        cases decide (vcmp (kval to y k) (kval from_ x s) = 0) with
        | false =>
          rw [Bool.not_false, cond_true, Bool.false_and, Bool.not_false]
          exact ⟨(i : Int), rfl, by simp⟩
        | true =>
          rw [Bool.not_true, cond_false, Bool.true_and]
          exact ih key (by simpa using hl) (fun s hs => h1 s (by simp [hs])) (fun s hs => h2 s (by simp [hs])) (i + 1)
  obtain ⟨z, h1, h2⟩ := all cols key hlen hc hk 0
  rw [h1, bind_some2, bind_some2, h2, Bool.not_not]
theorem some1_ok {B n : Nat} (hB : B < 4294967296) (hn : 3 * B + 10 < n) {from_ to : Rel} (hto : RB B to) (hrow : ∀ y ∈ to.Rows, y.length = to.Cols.length) (cols key : List (List UInt8)) (hlen : key.length = cols.length) (hcl : cols.length ≤ B) (hc : ∀ s ∈ cols, KeyIn from_ s) (hk : ∀ s ∈ key, KeyIn to s) {x : List ApiValue} (hx : lw x ≤ B) (hxl : x.length = from_.Cols.length) :
    slices_ContainsFunc_LValue_by_load_Orphans_1 n to.Rows (x, prs from_ to cols key, ()) = some (to.Rows.any fun y => lead from_ to cols key x y) := by
  have h1 := hto.rl
  have h := slices_IndexFunc_LValue_by_load_Orphans_1_l0_fold n to.Rows x (prs from_ to cols key) (by omega) n 0 (Nat.zero_le _) (by omega)
  rw [show ((0 : Nat) : Int) = 0 from rfl] at h
  rw [slices_ContainsFunc_LValue_by_load_Orphans_1_eq, slices_IndexFunc_LValue_by_load_Orphans_1_eq]
  simp only []
  rw [h, List.drop_zero]
  have e : foldK (S := Unit) (fun i (a : (List ApiValue)) s K => (Option.bind (load_Orphans_1 n a x (prs from_ to cols key)) fun r1 => (bif r1 then (some (i : Int)) else (K ())))) (fun s => (some (-1))) to.Rows 0 () = foldK (S := Unit) (fun i y _ K => bif lead from_ to cols key x y then some (i : Int) else K ()) (fun _ => some (-1)) to.Rows 0 () :=
    foldK_congr (fun _ => rfl) to.Rows 0 () fun i y s K hy => by rw [load_Orphans_1_eq, leads_ok hB hn cols key hlen hcl hc hk hx hxl (hrow y hy), bind_some2, bind_some2]
  rw [e, foldK_ix fun y => lead from_ to cols key x y, bind_some2, ixI_pos]
theorem some2_ok {B n : Nat} (hB : B < 2000000) (hn : 3 * (B * (B + 1) + 1) + 3 * B + 100 < n) {from_ to : Rel} (hto : RB B to) (hrow : ∀ y ∈ to.Rows, y.length = to.Cols.length) (cols : List (List UInt8)) (hlen : to.Key.length = cols.length) (hc : ∀ s ∈ cols, KeyIn from_ s) (hk : ∀ s ∈ to.Key, KeyIn to s) {x : List ApiValue} (hx : lw x ≤ B) (hxl : x.length = from_.Cols.length) :
    slices_ContainsFunc_LValue_by_ref2_Lonely_3 n to.Rows (to, cols.map (kval from_ x), ()) = some (to.Rows.any fun y => lead from_ to cols to.Key x y) := by
  have h1 := hto.rl
  have h2 := hto.kl
  have h := slices_IndexFunc_LValue_by_ref2_Lonely_3_l0_fold n to.Rows to (cols.map (kval from_ x)) (by omega) n 0 (Nat.zero_le _) (by omega)
  rw [show ((0 : Nat) : Int) = 0 from rfl] at h
  rw [slices_ContainsFunc_LValue_by_ref2_Lonely_3_eq, slices_IndexFunc_LValue_by_ref2_Lonely_3_eq]
  simp only []
  rw [h, List.drop_zero]
  have e : foldK (S := Unit) (fun i (a : (List ApiValue)) s K => (Option.bind (ref2_Lonely_3 n a to (cols.map (kval from_ x))) fun r1 => (bif r1 then (some (i : Int)) else (K ())))) (fun s => (some (-1))) to.Rows 0 () = foldK (S := Unit) (fun i y _ K => bif lead from_ to cols to.Key x y then some (i : Int) else K ()) (fun _ => some (-1)) to.Rows 0 () :=
    foldK_congr (fun _ => rfl) to.Rows 0 () fun i y s K hy => by
      obtain ⟨w1, w2⟩ := key_lw hto hk hy (hrow y hy)
      have hbb : B * (B + 1) ≤ 2000000 * 2000001 := Nat.mul_le_mul (by omega) (by omega)
      rw [ref2_Lonely_3_eq, keyOf_ok hto (by omega) (by omega) hk (hrow y hy), bind_some2, order_ok n _ _ (by omega) (by rw [List.length_map]; omega) (by omega) (by omega) (by rw [List.length_map]; omega), bind_some2, bind_some2]
      rfl
  rw [e, foldK_ix fun y => lead from_ to cols to.Key x y, bind_some2, ixI_pos]

/-! ### All orphans -/
def lone (k : Nat) (from_ to : Rel) (cols : List (List UInt8)) : List (List ApiValue) → Nat → List Orphan
  | [], _ => []
  | x :: r, q => (bif to.Rows.any (fun y => lead from_ to cols to.Key x y) then [] else [Orphan.mk (k : Int) (q : Int)]) ++ lone k from_ to cols r (q + 1)
theorem lone_len (k : Nat) (from_ to : Rel) (cols : List (List UInt8)) : ∀ (r : List (List ApiValue)) (q : Nat), (lone k from_ to cols r q).length ≤ r.length
  | [], _ => Nat.le_refl _
  | x :: r, q => by
    have ih := lone_len k from_ to cols r (q + 1)
    show ((bif _ then [] else [_]) ++ lone k from_ to cols r (q + 1)).length ≤ _
    rw [List.length_append, List.length_cons]
    cases to.Rows.any fun y => lead from_ to cols to.Key x y <;> simp only [cond_true, cond_false, List.length_nil, List.length_singleton] <;> omega
theorem okApp {α : Type} (s : List α) (x : α) (h : s.length < 4294967296) : (decide (List.length s = List.length s) && decide (List.length s + List.length [x] ≤ 4294967296)) = true := by
  rw [decide_eq_true rfl, decide_eq_true (by simp; omega)]
  rfl
theorem keyrun {n : Nat} {from_ : Rel} {x : List ApiValue} (hcl : from_.Cols.length < 9223372036854775807) (hcn : from_.Cols.length < n) (hxl : x.length = from_.Cols.length) (cols : List (List UInt8)) (hl : cols.length < 4294967296) (hc : ∀ s ∈ cols, KeyIn from_ s) {R : Type} (fin : List ApiValue → Option R) :
    foldK (S := (List ApiValue)) (fun i (a : (List UInt8)) s K => (Option.bind (ref2_column n from_ a) fun r3 => (bif (decide (0 ≤ r3) && decide (r3 < List.length x)) then (bif (decide ((List.length s) = List.length s) && decide (List.length s + List.length ([(List.getD x (Int.toNat r3) (ApiValue.mk 0 0 [] []))] : List ApiValue) ≤ 4294967296)) then (K (s ++ [(List.getD x (Int.toNat r3) (ApiValue.mk 0 0 [] []))])) else none) else none))) fin cols 0 [] = fin (cols.map (kval from_ x)) := by
  refine foldK_case cols (S := List ApiValue) (fun q s => s = (cols.take q).map (kval from_ x)) (fun o => o = fin (cols.map (kval from_ x))) ?_ (fun s hI => by rw [hI, List.take_length]) _ 0 rfl (Nat.zero_le _) _ rfl
  intro q hq s hI
  subst hI
  obtain ⟨m1, m2, m3⟩ := mx_ix (hc _ (List.getElem_mem hq))
  refine .inr ⟨(cols.take (q + 1)).map (kval from_ x), rfl, fun K => ?_⟩
  rw [column_ok n from_ _ hcl hcn, bind_some2, m3, inR (by rw [hxl]; exact m2), cond_true, okApp _ _ (by rw [List.length_map, List.length_take]; omega), cond_true, List.take_succ_eq_append_getElem hq, List.map_append]
  rfl
theorem rows_run {B n : Nat} {b : List Rel} {l : List Foreign} (hB : B < 2000000) (hn : 3 * (B * (B + 1) + 1) + 3 * B + 100 < n) {from_ to : Rel} (hfr : RB B from_) (hto : RB B to) (hrf : ∀ x ∈ from_.Rows, x.length = from_.Cols.length) (hrt : ∀ y ∈ to.Rows, y.length = to.Cols.length)
    (f : Foreign) (hfl : f.Cols.length ≤ B) (hlen : to.Key.length = f.Cols.length) (hc : ∀ s ∈ f.Cols, KeyIn from_ s) (hk : ∀ s ∈ to.Key, KeyIn to s) (k m m' : Nat) : ∀ (c q mm : Nat) (s : List Orphan), c + q = from_.Rows.length → c < mm → s.length + c < 4294967296 →
    foldK (S := (List Orphan)) (fun i (a : (List ApiValue)) s K => (Option.bind (slices_ContainsFunc_LValue_by_load_Orphans_1 n to.Rows (a, prs from_ to f.Cols to.Key, ())) fun r3 => (bif (!r3) then (bif (decide ((List.length s) = List.length s) && decide (List.length s + List.length ([(Orphan.mk (k : Int) (i : Int))] : List Orphan) ≤ 4294967296)) then (K (s ++ [(Orphan.mk (k : Int) (i : Int))])) else none) else (K s)))) (fun s => (load_Orphans_l0 n m b s l (l.length : Int) (IntKind.wrap .i64 ((k : Int) + 1)))) (List.drop q from_.Rows) q s =
      load_Orphans_l0 n m b (s ++ lone k from_ to f.Cols (from_.Rows.drop q) q) l (l.length : Int) (IntKind.wrap .i64 ((k : Int) + 1)) ∧
    ref2_Lonely_l2 n m' mm b s (k : Int) l (l.length : Int) (k : Int) from_.Rows (from_.Rows.length : Int) (q : Int) f from_ to = ref2_Lonely_l0 n m' b (s ++ lone k from_ to f.Cols (from_.Rows.drop q) q) l (l.length : Int) (IntKind.wrap .i64 ((k : Int) + 1)) := by
  have h1 := hfr.rl
  have h2 := hfr.cl
  have h3 := hto.kl
  intro c
  induction c with
  | zero =>
    intro q mm s hq hm hs
    obtain ⟨mm, rfl⟩ : ∃ m', mm = m' + 1 := ⟨mm - 1, by omega⟩
    rw [List.drop_eq_nil_of_le (by omega), ref2_Lonely_l2_eq, dlt, dF (by omega : ¬ q < from_.Rows.length), cond_false]
    simp only [lone, List.append_nil, foldK_nil]
    exact ⟨trivial, trivial⟩
  | succ c ih =>
    intro q mm s hq hm hs
    obtain ⟨mm, rfl⟩ : ∃ m', mm = m' + 1 := ⟨mm - 1, by omega⟩
    have hlt : q < from_.Rows.length := by omega
    have hmem := List.getElem_mem hlt
    have hw := hfr.rw _ hmem
    have hxl := hrf _ hmem
    rw [List.drop_eq_getElem_cons hlt, foldK_cons, ref2_Lonely_l2_eq, dlt, dT hlt, d0, Bool.and_self, cond_true, cond_true, Int.toNat_natCast, getD_lt _ hlt]
    have f4 := ref2_Lonely_l4_fold n m' mm b s (k : Int) (q : Int) from_.Rows[q] l (l.length : Int) (k : Int) from_.Rows (from_.Rows.length : Int) (q : Int) f.Cols f from_ to [] (by omega) n 0 (Nat.zero_le _) (by omega)
    rw [show ((0 : Nat) : Int) = 0 from rfl] at f4
    rw [f4, List.drop_zero, keyrun (by omega) (by omega) hxl f.Cols (by omega) hc, some1_ok (by omega) (by omega) hto hrt f.Cols to.Key hlen hfl hc hk hw hxl, some2_ok hB hn hto hrt f.Cols hlen hc hk hw hxl, bind_some2, bind_some2]
    unfold lone
    cases to.Rows.any fun y => lead from_ to f.Cols to.Key from_.Rows[q] y with
    | true =>
      rw [Bool.not_true, cond_false, cond_false, cond_true, List.nil_append, i64_succ (k := q) (by omega)]
      exact ih (q + 1) mm s (by omega) (by omega) (by omega)
    | false =>
      rw [Bool.not_false, cond_true, cond_true, cond_false, okApp s _ (by omega), cond_true, cond_true, i64_succ (k := q) (by omega), ← List.append_assoc]
      exact ih (q + 1) mm (s ++ [Orphan.mk (k : Int) (q : Int)]) (by omega) (by omega) (by simp; omega)
theorem orph_run {B n : Nat} {b : List Rel} {l : List Foreign} (hB : B < 2000000) (hBig : Big B n) (hb : ∀ r ∈ b, RB B r) (hg : ∀ r ∈ b, rel_Check n r = some 0) (hll : l.length ≤ 12) (hlb : b.length ≤ B) (hc : ∀ f ∈ l, f.Cols.length ≤ B)
    (hp : ∀ k (hk : k < l.length), ∃ i j, ∃ h : FOK b l[k] i j, load_places n b l[k] = some (b[i]'h.hi, b[j]'h.hj, prs (b[i]'h.hi) (b[j]'h.hj) l[k].Cols (b[j]'h.hj).Key, 0)) :
    ∀ (c k m m' : Nat) (s : List Orphan), c + k = l.length → c < m → c < m' → s.length ≤ k * B → ∃ out, load_Orphans_l0 n m b s l (l.length : Int) (k : Int) = some (out, 0) ∧ ref2_Lonely_l0 n m' b s l (l.length : Int) (k : Int) = some out ∧ out.length ≤ l.length * B := by
  have hn := hBig.n1
  intro c
  induction c with
  | zero =>
    intro k m m' s hk hm hm' hs
    obtain ⟨m, rfl⟩ : ∃ m0, m = m0 + 1 := ⟨m - 1, by omega⟩
    obtain ⟨m', rfl⟩ : ∃ m0, m' = m0 + 1 := ⟨m' - 1, by omega⟩
    obtain rfl : k = l.length := by omega
    refine ⟨s, ?_, ?_, hs⟩
    · rw [load_Orphans_l0_eq, dlt, dF (by omega : ¬ l.length < l.length), cond_false]
    · rw [ref2_Lonely_l0_eq, dlt, dF (by omega : ¬ l.length < l.length), cond_false]
  | succ c ih =>
    intro k m m' s hk hm hm' hs
    obtain ⟨m, rfl⟩ : ∃ m0, m = m0 + 1 := ⟨m - 1, by omega⟩
    obtain ⟨m', rfl⟩ : ∃ m0, m' = m0 + 1 := ⟨m' - 1, by omega⟩
    have hlt : k < l.length := by omega
    obtain ⟨i, j, h, hpl⟩ := hp k hlt
    have hi := h.hi
    have hj := h.hj
    have hfc := hc _ (List.getElem_mem hlt)
    have hfr := hb _ (List.getElem_mem hi)
    have hto := hb _ (List.getElem_mem hj)
    have c1 := check0_all hfr hBig (hg _ (List.getElem_mem hi))
    have c2 := check0_all hto hBig (hg _ (List.getElem_mem hj))
    have hrl := hfr.rl
    have hkB : k * B ≤ 12 * B := Nat.mul_le_mul (by omega) (Nat.le_refl _)
    rw [load_Orphans_l0_eq, ref2_Lonely_l0_eq]
    simp only [dlt, dT hlt, d0, Bool.and_self, cond_true, Int.toNat_natCast, getD_lt _ hlt]
    rw [hpl, bind_some2]
    rw [ix3_ok n b _ (by omega) (by omega), ix4_ok n b _ (by omega) (by omega), h.fi, h.fj]
    simp only [bind_some2, inR hi, inR hj, cond_true, Int.toNat_natCast, getD_lt _ hi, getD_lt _ hj]
    have f1 := load_Orphans_l2_fold n m b (k : Int) l (l.length : Int) (k : Int) b[i].Rows b[j] (prs b[i] b[j] l[k].Cols b[j].Key) s (by omega) n 0 (Nat.zero_le _) (by omega)
    rw [show ((0 : Nat) : Int) = 0 from rfl] at f1
    obtain ⟨r1, r2⟩ := rows_run (b := b) (l := l) hB hn hfr hto (fun x hx => (c1.rows x hx).2) (fun y hy => (c2.rows y hy).2) l[k] hfc h.len h.cols c2.keys k m m' b[i].Rows.length 0 n s (by omega) (by omega) (by omega)
    rw [show ((0 : Nat) : Int) = 0 from rfl] at r2
    rw [f1, r1, r2, i64_succ (by omega), List.drop_zero]
    have hll := lone_len k b[i] b[j] l[k].Cols b[i].Rows 0
    exact ih (k + 1) m m' _ (by omega) (by omega) (by omega) (by rw [List.length_append, Nat.succ_mul]; omega)
theorem eqO_ok (n : Nat) (l : List Orphan) (hn : l.length < n) (hm : l.length < 4294967296) : slices_Equal_Orphan n l l = some true := by
  have f := slices_Equal_Orphan_l0_fold n l l (by omega) n 0 (Nat.zero_le _) (by omega)
  rw [show ((0 : Nat) : Int) = 0 from rfl] at f
  rw [slices_Equal_Orphan_eq, decide_eq_true rfl, Bool.not_true, cond_false, f]
  refine foldK_case l (S := Unit) (fun _ _ => True) (fun o => o = some true) ?_ (fun _ _ => rfl) _ 0 rfl (Nat.zero_le _) _ trivial
  intro i hi s _
  refine .inr ⟨(), trivial, fun K => ?_⟩
  rw [inR hi, cond_true, Int.toNat_natCast, getD_lt _ hi, beq_self_eq_true, beq_self_eq_true, Bool.and_self, Bool.not_true, cond_false]
theorem loads_ok (n : Nat) (hn : 5 < n) : law2_loads n = some true := by
  have h1 : atoiO [45, 53] = some (-5, true) := by decide
  have h2 : itoaO (-5) = some [45, 53] := by
    unfold itoaO i64R Go.Lib.itoa
    rw [if_pos (by decide), show (-5 : Int).natAbs = 5 from rfl, Go.Lib.decDigits_one (by decide)]
    rfl
  have h3 : value_Check n (ApiValue.mk 2 (-5) [] []) = some 0 := by
    obtain ⟨m, rfl⟩ : ∃ m, n = m + 1 := ⟨n - 1, by omega⟩
    rw [value_Check_eq, value_Size_eq, value_Deep_eq]
    show (Option.bind (value_Size_l0 (m + 1) (m + 1) (m + 1) 1 [] 0 0) fun r1 => (bif (decide (r1 > 2000)) then (some 2) else (Option.bind (value_Deep_l0 (m + 1) (m + 1) (m + 1) 0 [] 0 0) fun r2 => (bif (decide (r2 > 40)) then (some 2) else (Option.bind (value_node (m + 1) (m + 1) (ApiValue.mk 2 (-5) [] []) true) fun r3 => (some r3)))))) = some 0
    rw [value_Size_l0_eq, value_Deep_l0_eq, value_node_eq]
    simp only [value_unused_eq, value_number_eq, value_fields_eq, value_Scalar_eq]
    rfl
  rw [law2_loads_eq, load_Scalar_eq]
  rw [decide_eq_false (by decide : ¬ (2 : Int) = 1), cond_false, decide_eq_true (rfl : (2 : Int) = 2), cond_true, cond_true, h1]
  simp only [bind_some2, Bool.not_true, cond_false]
  rw [h2, bind_some2, beq_self_eq_true, Bool.not_true, cond_false, h3]
  rfl
/-! ### The law -/
def bG (g : Nat) (f : Foreign) : Nat := BulkN E g 4 f
theorem bG_eq (g : Nat) (f : Foreign) : bG (g + 1) f = (f.From.length + 1) + (((f.Cols.map fun s : List UInt8 => s.length + 1).sum + 1) + (f.To.length + 1)) := rfl
theorem fs_bulk {l : List Foreign} {N : Nat} (h : ∀ g, (l.map (bG g)).sum + 1 ≤ N) : l.length ≤ N ∧ ∀ f ∈ l, f.Cols.length ≤ N := by
  have h1 := h 1
  refine ⟨?_, fun f hf => ?_⟩
  · have k := sum_gm (bG 1) l fun f _ => by rw [bG_eq]; omega
    omega
  · have : bG 1 f ≤ (l.map (bG 1)).sum := mem_sum (List.mem_map.2 ⟨f, hf, rfl⟩)
    rw [bG_eq] at this
    have k2 := sum_gm (fun s : List UInt8 => s.length + 1) f.Cols fun s _ => by omega
    omega
theorem law_ok (x0 : List Rel) (x1 : List Foreign) (h0 : ∀ g, Fv.Good E g (.sl (.nm 3)) x0) (h1 : ∀ g, Fv.Good E g (.sl (.nm 4)) x1) (hb : ∀ g, Bulk E g (.sl (.nm 3)) x0 + Bulk E g (.sl (.nm 4)) x1 ≤ 1048576) : ∃ n, law2_LoadOrphans n x0 x1 = some true := by
  obtain ⟨n, hB⟩ := big_ex
  refine ⟨n, ?_⟩
  have hb : ∀ g, ((x0.map (bR g)).sum + 1) + ((x1.map (bG g)).sum + 1) ≤ 1048576 := hb
  obtain ⟨k1, k2⟩ := base_bulk (b := x0) (N := 1048576) fun g => by have := hb g; omega
  obtain ⟨k3, k4⟩ := fs_bulk (l := x1) (N := 1048576) fun g => by have := hb g; omega
  have hn := hB.n1
  obtain ⟨e, e1, e2, e3⟩ := foreign_ok k1 k2 hB k3 k4
  rw [law2_LoadOrphans_eq, e1, bind_some2, load_Orphans_eq, e2, bind_some2]
  by_cases h0 : e = 0
  · subst h0
    obtain ⟨g1, g2, g3⟩ := e3 rfl
    obtain ⟨out, o1, o2, o3⟩ := orph_run (B := 1048576) (by decide) hB k2 g1 g2 k1 k4 g3 x1.length 0 n n [] (by omega) (by omega) (by omega) (by simp)
    have hle : x1.length * 1048576 ≤ 12 * 1048576 := Nat.mul_le_mul g2 (Nat.le_refl _)
    rw [show ((0 : Nat) : Int) = 0 from rfl] at o1 o2
    rw [decide_eq_true rfl, Bool.not_true, cond_false, o1, bind_some2, loads_ok n (by omega), bind_some2, Bool.not_true, cond_false, bind_some2, decide_eq_true rfl, Bool.not_true, cond_false, cond_false, cond_false, ref2_Lonely_eq, o2, bind_some2]
    show Option.bind (slices_Equal_Orphan n out out) _ = _
    rw [eqO_ok n out (by omega) (by omega)]
    rfl
  · rw [decide_eq_false h0, Bool.not_false, cond_true, bind_some2, loads_ok n (by omega), bind_some2, Bool.not_true, cond_false, bind_some2, decide_eq_true rfl, Bool.not_true, cond_false]
    rfl
end Go.Proofs.YtbbiogeemhohaaaGreatDoor.PLoadOrphans
