/- The plain law RelPuts. No condition. -/
import Derived.Test.YtcdnhlcafkomfaaFnRelPuts
-- UPTO
set_option linter.unusedVariables false
set_option linter.unusedSimpArgs false
namespace Go.Proofs.Ytcdnhlcafkomfaa.PRelPuts
open Go Go.Proofs Go.Proofs.Ytcdnhlcafkomfaa.Fv


/-! ### Values: a measure, and an induction -/
mutual
def vw : ApiValue → Nat
  | ⟨_, _, s, fs⟩ => fw fs + s.length + 1
def fw : List ApiField → Nat
  | [] => 0
  | f :: r => gw f + fw r
def gw : ApiField → Nat
  | ⟨nm, v⟩ => nm.length + 1 + vw v
end
theorem vw_eq (v : ApiValue) : vw v = fw v.Fields + v.S.length + 1 := by cases v; simp [vw]
theorem gw_eq (f : ApiField) : gw f = f.Name.length + 1 + vw f.Val := by cases f; simp [gw]
theorem fw_mem {f : ApiField} : ∀ {l : List ApiField}, f ∈ l → gw f ≤ fw l
  | [], h => by simp at h
  | g :: l, h => by
    simp only [fw]
    rcases List.mem_cons.1 h with rfl | h
    · omega
    · have := fw_mem h; omega
theorem fw_len : ∀ l : List ApiField, l.length ≤ fw l
  | [] => by simp [fw]
  | f :: l => by have := fw_len l; have := gw_eq f; simp only [fw, List.length_cons]; omega
theorem vw_lt {v : ApiValue} {f : ApiField} (h : f ∈ v.Fields) : vw f.Val < vw v ∧ f.Name.length < vw v := by
  have h1 := fw_mem h
  have h2 := gw_eq f
  have h3 := vw_eq v
  omega
theorem vw_len (v : ApiValue) : v.Fields.length < vw v ∧ v.S.length < vw v := by
  have := fw_len v.Fields
  have := vw_eq v
  omega
theorem val_ind {P : ApiValue → Prop} (h : ∀ v : ApiValue, (∀ f ∈ v.Fields, P f.Val) → P v) : ∀ v, P v := by
  have key : ∀ (k : Nat) (v : ApiValue), vw v ≤ k → P v := by
    intro k
    induction k with
    | zero => intro v hv; have := vw_eq v; omega
    | succ k ih => exact fun v hv => h v fun f hf => ih f.Val (by have := (vw_lt hf).1; omega)
  exact fun v => key _ v (Nat.le_refl _)

/-! ### Loops that answer -/
theorem foldK_some {A S R : Type} (v : List A) {step : Nat → A → S → (S → Option R) → Option R} {fin : S → Option R}
    (h : ∀ i (hi : i < v.length) s K, (∀ s', (K s').isSome = true) → (step i v[i] s K).isSome = true) (hf : ∀ s, (fin s).isSome = true) :
    ∀ (c i : Nat), c = v.length - i → i ≤ v.length → ∀ s, (foldK step fin (v.drop i) i s).isSome = true := by
  intro c
  induction c with
  | zero =>
    intro i hc hi s
    rw [List.drop_eq_nil_of_le (by omega)]
    exact hf s
  | succ c ih =>
    intro i hc hi s
    rw [List.drop_eq_getElem_cons (by omega : i < v.length), foldK_cons]
    exact h i (by omega) s _ fun s' => ih (i + 1) (by omega) (by omega) s'
theorem foldK_par {A S S' R : Type} (v : List A) {step : Nat → A → S → (S → Option R) → Option R} {fin : S → Option R} {step' : Nat → A → S' → (S' → Option R) → Option R} {fin' : S' → Option R} (I : Nat → S → S' → Prop)
    (h : ∀ i (hi : i < v.length) s s' K K', I i s s' → (∀ t t', I (i + 1) t t' → K t = K' t') → step i v[i] s K = step' i v[i] s' K') (hf : ∀ s s', I v.length s s' → fin s = fin' s') :
    ∀ (c i : Nat), c = v.length - i → i ≤ v.length → ∀ s s', I i s s' → foldK step fin (v.drop i) i s = foldK step' fin' (v.drop i) i s' := by
  intro c
  induction c with
  | zero =>
    intro i hc hi s s' hI
    rw [List.drop_eq_nil_of_le (by omega)]
    exact hf s s' (by rwa [show v.length = i by omega])
  | succ c ih =>
    intro i hc hi s s' hI
    rw [List.drop_eq_getElem_cons (by omega : i < v.length), foldK_cons, foldK_cons]
    exact h i (by omega) s s' _ _ hI fun t t' ht => ih (i + 1) (by omega) (by omega) t t' ht
/-- A loop ends early, or each of its rounds went on. -/
theorem foldK_case {A S R : Type} (v : List A) {step : Nat → A → S → (S → Option R) → Option R} {fin : S → Option R} (I : Nat → S → Prop) (Q : Option R → Prop)
    (h : ∀ i (hi : i < v.length) s, I i s → (∃ e, Q e ∧ ∀ K, step i v[i] s K = e) ∨ ∃ s', I (i + 1) s' ∧ ∀ K, step i v[i] s K = K s') (hf : ∀ s, I v.length s → Q (fin s)) :
    ∀ (c i : Nat), c = v.length - i → i ≤ v.length → ∀ s, I i s → Q (foldK step fin (v.drop i) i s) := by
  intro c
  induction c with
  | zero =>
    intro i hc hi s hI
    rw [List.drop_eq_nil_of_le (by omega)]
    exact hf s (by rwa [show v.length = i by omega])
  | succ c ih =>
    intro i hc hi s hI
    rw [List.drop_eq_getElem_cons (by omega : i < v.length), foldK_cons]
    rcases h i (by omega) s hI with ⟨e, h1, h2⟩ | ⟨s', h1, h2⟩
    · rw [h2]; exact h1
    · rw [h2]; exact ih (i + 1) (by omega) (by omega) s' h1
theorem bind_some {α β : Type} {o : Option α} {f : α → Option β} (h : o.isSome = true) (hf : ∀ a, (f a).isSome = true) : (o.bind f).isSome = true := by
  obtain ⟨a, rfl⟩ := Option.isSome_iff_exists.1 h
  exact hf a
theorem cond_some {β : Type} {c : Bool} {a b : Option β} (ha : c = true → a.isSome = true) (hb : c = false → b.isSome = true) : (bif c then a else b).isSome = true := by
  cases c
  · exact hb rfl
  · exact ha rfl
theorem inR {i n : Nat} (h : i < n) : (decide (0 ≤ (i : Int)) && decide ((i : Int) < (n : Int))) = true := by
  simp only [Bool.and_eq_true, decide_eq_true_eq]; omega
theorem inR' {i n : Nat} (h : i ≤ n) : (decide (0 ≤ (i : Int)) && decide ((i : Int) ≤ (n : Int))) = true := by
  simp only [Bool.and_eq_true, decide_eq_true_eq]; omega
theorem inP {i n : Nat} (h0 : 0 < i) (h : i < n) (hn : n < 9223372036854775807) : (decide (0 ≤ (IntKind.wrap .i64 ((i : Int) - 1))) && decide ((IntKind.wrap .i64 ((i : Int) - 1)) < (n : Int))) = true ∧ Int.toNat (IntKind.wrap .i64 ((i : Int) - 1)) = i - 1 := by
  have e : IntKind.wrap .i64 ((i : Int) - 1) = ((i - 1 : Nat) : Int) := by
    rw [show (i : Int) - 1 = ((i - 1 + 1 : Nat) : Int) - 1 by omega]
    exact i64_pred (by omega)
  rw [e]
  exact ⟨inR (by omega), by simp⟩

/-! ### What answers on a value -/
theorem vname_some (n : Nat) (s : List UInt8) (hn : s.length < n) : (value_Name n s).isSome = true := by
  rw [value_Name_eq]
  refine cond_some (fun _ => rfl) fun h0 => cond_some (fun _ => rfl) fun h1 => ?_
  have hne : 0 < s.length := by
    cases s with
    | nil => cases h0
    | cons a l => simp
  have hle : s.length ≤ 16 := by have := of_decide_eq_false h1; omega
  have hr : (decide (0 ≤ (0 : Int)) && decide ((0 : Int) < (s.length : Int))) = true := by simp; omega
  rw [hr]
  refine cond_some (fun _ => cond_some (fun _ => rfl) fun _ => cond_some (fun _ => cond_some (fun _ => rfl) fun _ => ?_) fun h => by cases h) fun h => by cases h
  have hli : (ints s).length = s.length := by simp [ints]
  have := value_Name_l0_fold n (ints s) (by omega) n 0 (by omega) (by omega)
  rw [show ((0 : Nat) : Int) = 0 from rfl] at this
  rw [this]
  refine foldK_some _ (fun i hi s K hK => ?_) (fun _ => rfl) _ 0 rfl (Nat.zero_le _) _
  repeat' first | with_reducible exact hK _ | with_reducible exact Option.isSome_some | with_reducible refine cond_some (fun _ => ?_) fun _ => ?_
theorem vsize_some (n : Nat) : ∀ (d : Nat) (v : ApiValue), vw v ≤ d → vw v < n → vw v < 9223372036854775807 → (value_Size d n v).isSome = true
  | 0, v, h, _, _ => by have := vw_eq v; omega
  | d + 1, v, h, hn, hm => by
    rw [value_Size_eq]
    have hl := (vw_len v).1
    have := value_Size_l0_fold d n v.Fields 1 (by omega) n 0 (by omega) (by omega)
    rw [show ((0 : Nat) : Int) = 0 from rfl] at this
    rw [this]
    refine foldK_some _ (fun i hi s K hK => ?_) (fun _ => rfl) _ 0 rfl (Nat.zero_le _) _
    have := vw_lt (List.getElem_mem hi)
    exact bind_some (vsize_some n d _ (by omega) (by omega) (by omega)) fun r => hK _
theorem vdeep_some (n : Nat) : ∀ (d : Nat) (v : ApiValue), vw v ≤ d → vw v < n → vw v < 9223372036854775807 → (value_Deep d n v).isSome = true
  | 0, v, h, _, _ => by have := vw_eq v; omega
  | d + 1, v, h, hn, hm => by
    rw [value_Deep_eq]
    have hl := (vw_len v).1
    have := value_Deep_l0_fold d n v.Fields 0 (by omega) n 0 (by omega) (by omega)
    rw [show ((0 : Nat) : Int) = 0 from rfl] at this
    rw [this]
    refine foldK_some _ (fun i hi s K hK => ?_) (fun _ => rfl) _ 0 rfl (Nat.zero_le _) _
    have := vw_lt (List.getElem_mem hi)
    exact bind_some (vdeep_some n d _ (by omega) (by omega) (by omega)) fun r => hK _
theorem scalar_some (n : Nat) (k : Int) : (value_Scalar n k).isSome = true := by
  rw [value_Scalar_eq]
  repeat' first | with_reducible exact Option.isSome_some | with_reducible refine cond_some (fun _ => ?_) fun _ => ?_
theorem unused_some (n : Nat) (v : ApiValue) : (value_unused n v).isSome = true := by
  rw [value_unused_eq]
  repeat' first | with_reducible exact Option.isSome_some | (with_reducible refine bind_some (scalar_some n _) fun _ => ?_) | with_reducible refine cond_some (fun _ => ?_) fun _ => ?_
theorem number_some (n : Nat) (v : ApiValue) : (value_number n v).isSome = true := by
  rw [value_number_eq]
  repeat' first | with_reducible exact Option.isSome_some | with_reducible refine cond_some (fun _ => ?_) fun _ => ?_
theorem fidx_some (n : Nat) (l : List ApiField) (f : ApiField) (hl : l.length < 9223372036854775807) (hn : l.length < n) : (slices_ContainsFunc_Field_by_value_names_1 n l (f, ())).isSome = true := by
  rw [slices_ContainsFunc_Field_by_value_names_1_eq, slices_IndexFunc_Field_by_value_names_1_eq]
  refine bind_some ?_ fun _ => rfl
  have := slices_IndexFunc_Field_by_value_names_1_l0_fold n l f hl n 0 (by omega) (by omega)
  rw [show ((0 : Nat) : Int) = 0 from rfl] at this
  rw [this]
  refine foldK_some _ (fun i hi s K hK => ?_) (fun _ => rfl) _ 0 rfl (Nat.zero_le _) _
  rw [value_names_1_eq]
  exact bind_some rfl fun _ => cond_some (fun _ => rfl) fun _ => hK _
theorem names_some (n : Nat) (v : ApiValue) (hn : vw v < n) (hm : vw v < 9223372036854775807) : (value_names n v.Fields).isSome = true := by
  have hl := (vw_len v).1
  rw [value_names_eq]
  have := value_names_l0_fold n v.Fields v.Fields (by omega) n 0 (by omega) (by omega)
  rw [show ((0 : Nat) : Int) = 0 from rfl] at this
  rw [this]
  refine foldK_some _ (fun i hi s K hK => ?_) (fun _ => rfl) _ 0 rfl (Nat.zero_le _) _
  have := vw_lt (List.getElem_mem hi)
  refine bind_some (vname_some n _ (by omega)) fun r => cond_some (fun _ => rfl) fun _ => ?_
  rw [inR' (by omega : i ≤ v.Fields.length)]
  exact bind_some (fidx_some n _ _ (by simp; omega) (by simp; omega)) fun _ => cond_some (fun _ => rfl) fun _ => hK _
theorem keys_some (n : Nat) (v : ApiValue) (hn : vw v < n) (hm : vw v < 9223372036854775807) : (value_keys n v).isSome = true := by
  have hl := (vw_len v).1
  rw [value_keys_eq]
  have := value_keys_l0_fold n v.Fields v (by omega) n 0 (by omega) (by omega)
  rw [show ((0 : Nat) : Int) = 0 from rfl] at this
  rw [this]
  refine foldK_some _ (fun i hi s K hK => ?_) (fun _ => rfl) _ 0 rfl (Nat.zero_le _) _
  have key : 0 < i → (decide (0 ≤ (IntKind.wrap .i64 ((i : Int) - 1))) && decide ((IntKind.wrap .i64 ((i : Int) - 1)) < (v.Fields.length : Int))) = true := fun h => (inP h (by omega) (by omega)).1
  repeat' first | with_reducible exact hK _ | with_reducible exact Option.isSome_some | exact absurd ((key (by have h := of_decide_eq_true ‹decide ((i : Int) > 0) = true›; omega)).symm.trans ‹(decide (0 ≤ IntKind.wrap .i64 ((i : Int) - 1)) && decide (IntKind.wrap .i64 ((i : Int) - 1) < (v.Fields.length : Int))) = false›) (by decide) | with_reducible refine cond_some (fun _ => ?_) fun _ => ?_
theorem fields_some (n : Nat) (v : ApiValue) (hn : vw v < n) (hm : vw v < 9223372036854775807) : (value_fields n v).isSome = true := by
  rw [value_fields_eq]
  repeat' first | with_reducible exact Option.isSome_some | (with_reducible refine bind_some (names_some n v hn hm) fun _ => ?_) | (with_reducible refine bind_some (keys_some n v hn hm) fun _ => ?_) | with_reducible refine cond_some (fun _ => ?_) fun _ => ?_
theorem node_some (n : Nat) : ∀ (d : Nat) (v : ApiValue) (b : Bool), vw v ≤ d → vw v < n → vw v < 9223372036854775807 → (value_node d n v b).isSome = true
  | 0, v, b, h, _, _ => by have := vw_eq v; omega
  | d + 1, v, b, h, hn, hm => by
    have hl := (vw_len v).1
    have hloop : (value_node_l1 (d + 1) n n v.Fields (List.length v.Fields : Int) 0).isSome = true := by
      have := value_node_l1_fold d n v.Fields (by omega) n 0 (by omega) (by omega)
      rw [show ((0 : Nat) : Int) = 0 from rfl] at this
      rw [this]
      refine foldK_some _ (fun i hi s K hK => ?_) (fun _ => rfl) _ 0 rfl (Nat.zero_le _) _
      have := vw_lt (List.getElem_mem hi)
      exact bind_some (node_some n d _ _ (by omega) (by omega) (by omega)) fun r => cond_some (fun _ => rfl) fun _ => hK _
    rw [value_node_eq]
    repeat' first | with_reducible exact Option.isSome_some | with_reducible exact hloop | (with_reducible refine bind_some (unused_some n v) fun _ => ?_) | (with_reducible refine bind_some (number_some n v) fun _ => ?_) | (with_reducible refine bind_some (fields_some n v hn hm) fun _ => ?_) | with_reducible refine cond_some (fun _ => ?_) fun _ => ?_
theorem vcheck_some (n : Nat) (v : ApiValue) (hn : vw v < n) (hm : vw v < 9223372036854775807) : (value_Check n v).isSome = true := by
  rw [value_Check_eq]
  refine bind_some (vsize_some n n v (by omega) hn hm) fun _ => cond_some (fun _ => rfl) fun _ => bind_some (vdeep_some n n v (by omega) hn hm) fun _ => cond_some (fun _ => rfl) fun _ => bind_some (node_some n n v true (by omega) hn hm) fun _ => rfl

/-! ### The order of values -/
def icmp (x y : Int) : Int := bif decide (x < y) then -1 else bif decide (x > y) then 1 else 0
def or2 (a b : Int) : Int := bif !decide (a = 0) then a else b
def Tr3 (x y z : Int) : Prop := (x ≤ 0 → y ≤ 0 → z ≤ 0) ∧ (x ≤ 0 → y ≤ 0 → z = 0 → x = 0 ∧ y = 0) ∧ (x = 0 → y = 0 → z = 0)
theorem icmp_val (x y : Int) : (x < y ∧ icmp x y = -1) ∨ (x = y ∧ icmp x y = 0) ∨ (y < x ∧ icmp x y = 1) := by
  unfold icmp
  rcases Int.lt_trichotomy x y with h | h | h
  · exact .inl ⟨h, by simp [h]⟩
  · exact .inr (.inl ⟨h, by simp [h]⟩)
  · exact .inr (.inr ⟨h, by rw [decide_eq_false (by omega), decide_eq_true h]; rfl⟩)
theorem icmp_anti (x y : Int) : icmp y x = -icmp x y := by
  rcases icmp_val x y with ⟨h, e⟩ | ⟨h, e⟩ | ⟨h, e⟩ <;> rcases icmp_val y x with ⟨h', e'⟩ | ⟨h', e'⟩ | ⟨h', e'⟩ <;> omega
theorem icmp_tr (x y z : Int) : Tr3 (icmp x y) (icmp y z) (icmp x z) := by
  rcases icmp_val x y with ⟨h, e⟩ | ⟨h, e⟩ | ⟨h, e⟩ <;> rcases icmp_val y z with ⟨h', e'⟩ | ⟨h', e'⟩ | ⟨h', e'⟩ <;> rcases icmp_val x z with ⟨h2, e2⟩ | ⟨h2, e2⟩ | ⟨h2, e2⟩ <;>
    rw [e, e', e2] <;> refine ⟨?_, ?_, ?_⟩ <;> intros <;> first | omega | (refine ⟨?_, ?_⟩ <;> omega)
theorem or2_val (a b : Int) : (a ≠ 0 ∧ or2 a b = a) ∨ (a = 0 ∧ or2 a b = b) := by
  unfold or2
  by_cases h : a = 0
  · exact .inr ⟨h, by simp [h]⟩
  · exact .inl ⟨h, by simp [h]⟩
theorem or2_neg {a b a' b' : Int} (h : a' = -a) (h' : b' = -b) : or2 a' b' = -or2 a b := by
  rcases or2_val a b with ⟨h1, e⟩ | ⟨h1, e⟩ <;> rcases or2_val a' b' with ⟨h2, e'⟩ | ⟨h2, e'⟩ <;> omega
theorem or2_tr {x y z x' y' z' : Int} (h : Tr3 x y z) (h' : Tr3 x' y' z') : Tr3 (or2 x x') (or2 y y') (or2 z z') := by
  obtain ⟨a1, a2, a3⟩ := h
  obtain ⟨b1, b2, b3⟩ := h'
  rcases or2_val x x' with ⟨h1, e1⟩ | ⟨h1, e1⟩ <;> rcases or2_val y y' with ⟨h2, e2⟩ | ⟨h2, e2⟩ <;> rcases or2_val z z' with ⟨h3, e3⟩ | ⟨h3, e3⟩ <;>
    rw [e1, e2, e3] <;> refine ⟨?_, ?_, ?_⟩ <;> intros <;> first | omega | (refine ⟨?_, ?_⟩ <;> omega)
theorem cb_anti : ∀ a b : List UInt8, Go.Lib.compareBytes b a = -Go.Lib.compareBytes a b
  | [], [] => rfl
  | [], _ :: _ => rfl
  | _ :: _, [] => rfl
  | a :: xs, b :: ys => by
    simp only [Go.Lib.compareBytes]
    have := cb_anti xs ys
    by_cases h : a < b
    · have h2 : ¬ b < a := by rw [UInt8.lt_iff_toNat_lt] at h ⊢; omega
      rw [if_pos h, if_neg h2, if_pos h]; rfl
    · by_cases h2 : b < a
      · rw [if_pos h2, if_neg h, if_pos h2]
      · rw [if_neg h, if_neg h2, if_neg h2, if_neg h]; exact this
theorem cb_tr : ∀ a b c : List UInt8, Tr3 (Go.Lib.compareBytes a b) (Go.Lib.compareBytes b c) (Go.Lib.compareBytes a c)
  | [], [], [] => by simp [Go.Lib.compareBytes, Tr3]
  | [], [], _ :: _ => by simp [Go.Lib.compareBytes, Tr3]
  | [], _ :: _, [] => by simp [Go.Lib.compareBytes, Tr3]
  | [], _ :: _, _ :: _ => by simp [Go.Lib.compareBytes, Tr3]
  | _ :: _, [], [] => by simp [Go.Lib.compareBytes, Tr3]
  | _ :: _, [], _ :: _ => by simp [Go.Lib.compareBytes, Tr3]
  | _ :: _, _ :: _, [] => by simp [Go.Lib.compareBytes, Tr3]
  | a :: xs, b :: ys, c :: zs => by
    have ih := cb_tr xs ys zs
    have key : ∀ (a b : UInt8) (r : Int), (if a < b then (-1 : Int) else if b < a then 1 else r) = or2 (icmp a.toNat b.toNat) r := by
      intro a b r
      rcases icmp_val a.toNat b.toNat with ⟨h, e⟩ | ⟨h, e⟩ | ⟨h, e⟩
      · rw [if_pos (by rw [UInt8.lt_iff_toNat_lt]; omega), e]; rfl
      · rw [if_neg (by rw [UInt8.lt_iff_toNat_lt]; omega), if_neg (by rw [UInt8.lt_iff_toNat_lt]; omega), e]; rfl
      · rw [if_neg (by rw [UInt8.lt_iff_toNat_lt]; omega), if_pos (by rw [UInt8.lt_iff_toNat_lt]; omega), e]; rfl
    simp only [Go.Lib.compareBytes, key]
    exact or2_tr (icmp_tr _ _ _) ih

def ordF (x : Int) : Int := bif decide (x < 0) then IntKind.wrap .i64 ((-1 : Int) - (Fv.bits .and .i64 x 9223372036854775807)) else x
def keyN (v : ApiValue) : Int := bif decide (v.Kind = 3) then ordF v.N else v.N
mutual
def vcmp : ApiValue → ApiValue → Int
  | ⟨k, x, s, fs⟩, w => or2 (or2 (icmp k w.Kind) (or2 (icmp (bif decide (k = 3) then ordF x else x) (bif decide (k = 3) then ordF w.N else w.N)) (Go.Lib.compareBytes s w.S))) (fcmp fs w.Fields)
def fcmp : List ApiField → List ApiField → Int
  | [], l => bif l.isEmpty then 0 else -1
  | f :: r, l => match l with
    | [] => 1
    | g :: t => or2 (gcmp f g) (fcmp r t)
def gcmp : ApiField → ApiField → Int
  | ⟨nm, v⟩, g => or2 (Go.Lib.compareBytes nm g.Name) (vcmp v g.Val)
end
theorem vcmp_eq (v w : ApiValue) : vcmp v w = or2 (or2 (icmp v.Kind w.Kind) (or2 (icmp (bif decide (v.Kind = 3) then ordF v.N else v.N) (bif decide (v.Kind = 3) then ordF w.N else w.N)) (Go.Lib.compareBytes v.S w.S))) (fcmp v.Fields w.Fields) := by cases v; simp only [vcmp]
theorem gcmp_eq (f g : ApiField) : gcmp f g = or2 (Go.Lib.compareBytes f.Name g.Name) (vcmp f.Val g.Val) := by cases f; simp only [gcmp]
/-- The number by the kind of the one that has it. -/
theorem vcmp_key (v w : ApiValue) : vcmp v w = or2 (icmp v.Kind w.Kind) (or2 (or2 (icmp (keyN v) (keyN w)) (Go.Lib.compareBytes v.S w.S)) (fcmp v.Fields w.Fields)) := by
  rw [vcmp_eq]
  rcases icmp_val v.Kind w.Kind with ⟨h, e⟩ | ⟨h, e⟩ | ⟨h, e⟩
  · rw [e]; rfl
  · rw [e]
    unfold keyN
    rw [h]
    rfl
  · rw [e]; rfl
theorem vcmp_anti : ∀ v w : ApiValue, vcmp w v = -vcmp v w := by
  intro v
  refine val_ind (P := fun v => ∀ w, vcmp w v = -vcmp v w) (fun v ih w => ?_) v
  rw [vcmp_key v w, vcmp_key w v]
  refine or2_neg (icmp_anti _ _) (or2_neg (or2_neg (icmp_anti _ _) (cb_anti _ _)) ?_)
  have key : ∀ (l m : List ApiField), (∀ f ∈ l, ∀ w, vcmp w f.Val = -vcmp f.Val w) → fcmp m l = -fcmp l m := by
    intro l
    induction l with
    | nil => intro m _; cases m <;> simp [fcmp]
    | cons f l ihl =>
      intro m h
      cases m with
      | nil => simp [fcmp]
      | cons g m =>
        simp only [fcmp]
        refine or2_neg ?_ (ihl m fun x hx => h x (by simp [hx]))
        rw [gcmp_eq, gcmp_eq]
        exact or2_neg (cb_anti _ _) (h f (by simp) _)
  exact key _ _ ih
theorem vcmp_tr : ∀ v w x : ApiValue, Tr3 (vcmp v w) (vcmp w x) (vcmp v x) := by
  intro v
  refine val_ind (P := fun v => ∀ w x, Tr3 (vcmp v w) (vcmp w x) (vcmp v x)) (fun v ih w x => ?_) v
  rw [vcmp_key v w, vcmp_key w x, vcmp_key v x]
  refine or2_tr (icmp_tr _ _ _) (or2_tr (or2_tr (icmp_tr _ _ _) (cb_tr _ _ _)) ?_)
  have key : ∀ (l m p : List ApiField), (∀ f ∈ l, ∀ w x, Tr3 (vcmp f.Val w) (vcmp w x) (vcmp f.Val x)) → Tr3 (fcmp l m) (fcmp m p) (fcmp l p) := by
    intro l
    induction l with
    | nil => intro m p _; cases m <;> cases p <;> simp [fcmp, Tr3]
    | cons f l ihl =>
      intro m p h
      cases m with
      | nil => cases p <;> simp [fcmp, Tr3]
      | cons g m =>
        cases p with
        | nil => simp [fcmp, Tr3]
        | cons q p =>
          simp only [fcmp]
          refine or2_tr ?_ (ihl m p fun x hx => h x (by simp [hx]))
          rw [gcmp_eq, gcmp_eq, gcmp_eq]
          exact or2_tr (cb_tr _ _ _) (h f (by simp) _ _)
  exact key _ _ _ ih
theorem vcmp_refl (v : ApiValue) : vcmp v v = 0 := by have := vcmp_anti v v; omega

/-! ### The program's comparison -/
theorem compare_ok (n : Nat) (x y : Int) : cmp_Compare_int n x y = some (icmp x y) := by
  rw [cmp_Compare_int_eq, cmp_isNaN_int_eq, cmp_isNaN_int_eq]
  simp only [Option.bind_some, decide_true, Bool.not_true, cond_false]
  unfold icmp
  cases decide (x < y) <;> cases decide (x > y) <;> rfl
theorem or2_opt (a b : Int) : (bif !decide (a = 0) then some a else some b) = some (or2 a b) := by
  unfold or2
  cases decide (a = 0) <;> rfl
theorem or_ok (n : Nat) : ∀ l : List Int, l.length < n → l.length < 9223372036854775807 → cmp_Or_int n l = some (l.foldr or2 0) := by
  intro l hn hl
  rw [cmp_Or_int_eq]
  have := cmp_Or_int_l0_fold n 0 l hl n 0 (by omega) (by omega)
  rw [show ((0 : Nat) : Int) = 0 from rfl] at this
  rw [this, List.drop_zero]
  have key : ∀ (l : List Int) (i : Nat), foldK (S := Unit) (fun i (a : Int) s K => (bif (!decide (a = 0)) then (some a) else (K ()))) (fun s => (some (0 : Int))) l i () = some (l.foldr or2 0) := by
    intro l
    induction l with
    | nil => intro i; rfl
    | cons a l ih =>
      intro i
      rw [foldK_cons]
      dsimp only
      rw [ih, List.foldr_cons]
      exact or2_opt _ _
  exact key l 0
theorem or2_zero (a : Int) : or2 a 0 = a := by rcases or2_val a 0 with ⟨_, e⟩ | ⟨h, e⟩ <;> omega
theorem bind_ret {α : Type} (o : Option α) : (o.bind fun r => some r) = o := by cases o <;> rfl
theorem vcmp_ok (n : Nat) (hn3 : 3 < n) : ∀ (k : Nat) (v w : ApiValue) (d : Nat), vw v ≤ k → 3 * vw v ≤ d → vw v < n → vw v < 9223372036854775807 → value_Cmp d n v w = some (vcmp v w)
  | 0, v, w, d, h, _, _, _ => by have := vw_eq v; omega
  | k + 1, v, w, d, h, hd, hn, hm => by
    have hl := (vw_len v).1
    have hv0 := vw_eq v
    obtain ⟨d, rfl⟩ : ∃ e, d = e + 3 := ⟨d - 3, by omega⟩
    have hfun : slices_CompareFunc_Field_by_value_Cmp_1 (d + 2) n v.Fields w.Fields () = some (fcmp v.Fields w.Fields) := by
      rw [slices_CompareFunc_Field_by_value_Cmp_1_eq]
      have := slices_CompareFunc_Field_by_value_Cmp_1_l0_fold (d + 1) n v.Fields w.Fields v.Fields (by omega) n 0 (by omega) (by omega)
      rw [show ((0 : Nat) : Int) = 0 from rfl] at this
      rw [this]
      have key : ∀ (c i : Nat), c = v.Fields.length - i → i ≤ v.Fields.length → i ≤ w.Fields.length ∨ True → foldK (S := Unit) (fun i (a : ApiField) s K => (bif (decide ((i : Int) ≥ (List.length w.Fields : Int))) then (some 1) else (bif (decide (0 ≤ (i : Int)) && decide ((i : Int) < List.length w.Fields)) then (Option.bind (value_Cmp_1 (d + 1) n a (List.getD w.Fields (Int.toNat (i : Int)) (ApiField.mk [] (ApiValue.mk 0 0 [] [])))) fun r1 => (bif (!decide (r1 = 0)) then (some r1) else (K ()))) else none))) (fun s => (bif (decide ((List.length v.Fields : Int) < (List.length w.Fields : Int))) then (some (-1)) else (some 0))) (List.drop i v.Fields) i () = some (fcmp (v.Fields.drop i) (w.Fields.drop i)) := by
        intro c
        induction c with
        | zero =>
          intro i hc hi _
          rw [List.drop_eq_nil_of_le (by omega : v.Fields.length ≤ i), foldK_nil]
          by_cases h1 : v.Fields.length < w.Fields.length
          · rw [decide_eq_true (by omega), List.drop_eq_getElem_cons (by omega : i < w.Fields.length)]
            rfl
          · rw [decide_eq_false (by omega), List.drop_eq_nil_of_le (by omega : w.Fields.length ≤ i)]
            rfl
        | succ c ih =>
          intro i hc hi _
          have hlt : i < v.Fields.length := by omega
          rw [List.drop_eq_getElem_cons hlt, foldK_cons]
          by_cases h1 : i < w.Fields.length
          · rw [decide_eq_false (by omega), inR h1, cond_false, cond_true, show Int.toNat (i : Int) = i from rfl, getD_lt _ h1, List.drop_eq_getElem_cons h1, value_Cmp_1_eq]
            have hv := vw_lt (List.getElem_mem hlt)
            rw [vcmp_ok n hn3 k _ _ d (by omega) (by omega) (by omega) (by omega), Option.bind_some, or_ok n _ (by simp; omega) (by simp), Option.bind_some, Option.bind_some]
            dsimp only
            rw [ih (i + 1) (by omega) (by omega) (.inr trivial)]
            simp only [fcmp, List.foldr_cons, List.foldr_nil, or2_zero]
            rw [← gcmp_eq]
            exact or2_opt _ _
          · rw [decide_eq_true (by omega), List.drop_eq_nil_of_le (by omega : w.Fields.length ≤ i)]
            rfl
      exact key _ 0 rfl (Nat.zero_le _) (.inr trivial)
    rw [value_Cmp_eq, hfun, vcmp_eq, value_order_eq, value_order_eq]
    have e1 : ∀ x : Int, (bif (decide (x < 0)) then (some (IntKind.wrap .i64 ((-1 : Int) - (Fv.bits .and .i64 x 9223372036854775807)))) else (some x)) = some (ordF x) := fun x => by
      unfold ordF; cases decide (x < 0) <;> rfl
    rw [e1, e1]
    simp only [compare_ok, Option.bind_some]
    rw [or_ok n _ (by simp; omega) (by simp), or_ok n _ (by simp; omega) (by simp)]
    simp only [Option.bind_some, List.foldr_cons, List.foldr_nil, or2_zero]
    cases decide (v.Kind = 3) <;> exact or2_opt _ _

/-! ### Rows -/
def LV (l : List ApiValue) : ApiValue := ApiValue.mk 8 0 [] (l.map fun v => ApiField.mk [] v)
def lw (l : List ApiValue) : Nat := vw (LV l)
theorem lw_nil : lw [] = 1 := by simp [lw, LV, vw, fw]
theorem lw_cons (v : ApiValue) (l : List ApiValue) : lw (v :: l) = vw v + 1 + lw l := by
  simp [lw, LV, vw, fw, gw]; omega
theorem lw_len : ∀ l : List ApiValue, l.length < lw l
  | [] => by rw [lw_nil]; simp
  | v :: l => by have := lw_len l; rw [lw_cons, List.length_cons]; have := vw_eq v; omega
theorem lw_mem {v : ApiValue} : ∀ {l : List ApiValue}, v ∈ l → vw v < lw l
  | [], h => by simp at h
  | w :: l, h => by
    rw [lw_cons]
    rcases List.mem_cons.1 h with rfl | h
    · omega
    · have := lw_mem h; omega
def rcmp (a b : List ApiValue) : Int := vcmp (LV a) (LV b)
theorem rcmp_f (a b : List ApiValue) : rcmp a b = fcmp (a.map fun v => ApiField.mk [] v) (b.map fun v => ApiField.mk [] v) := by
  unfold rcmp
  rw [vcmp_eq]
  rfl
theorem rcmp_nn : rcmp [] [] = 0 := by rw [rcmp_f]; simp [fcmp]
theorem rcmp_nc (w : ApiValue) (b : List ApiValue) : rcmp [] (w :: b) = -1 := by rw [rcmp_f]; simp [fcmp]
theorem rcmp_cn (v : ApiValue) (a : List ApiValue) : rcmp (v :: a) [] = 1 := by rw [rcmp_f]; simp [fcmp]
theorem rcmp_cc (v w : ApiValue) (a b : List ApiValue) : rcmp (v :: a) (w :: b) = or2 (vcmp v w) (rcmp a b) := by
  rw [rcmp_f, rcmp_f]
  simp only [List.map_cons, fcmp, gcmp_eq]
  rfl
theorem rcmp_anti (a b : List ApiValue) : rcmp b a = -rcmp a b := vcmp_anti _ _
theorem rcmp_tr (a b c : List ApiValue) : Tr3 (rcmp a b) (rcmp b c) (rcmp a c) := vcmp_tr _ _ _
theorem rcmp_ok (n : Nat) (a b : List ApiValue) (h : 3 * lw a < n) (hm : lw a < 4611686018427387904) : rel_Cmp n a b = some (rcmp a b) := by
  have hl := lw_len a
  rw [rel_Cmp_eq]
  have hmn : mnI (a.length : Int) (b.length : Int) = ((min a.length b.length : Nat) : Int) := by
    unfold mnI
    by_cases h : b.length < a.length
    · rw [decide_eq_true (by omega), Nat.min_eq_right (by omega)]; rfl
    · rw [decide_eq_false (by omega), Nat.min_eq_left (by omega)]; rfl
  rw [hmn]
  have key : ∀ (c i m : Nat), c = min a.length b.length - i → i ≤ min a.length b.length → c < m → rel_Cmp_l0 n m a b ((min a.length b.length : Nat) : Int) (i : Int) = some (rcmp (a.drop i) (b.drop i)) := by
    intro c
    induction c with
    | zero =>
      intro i m hc hi hm'
      obtain ⟨m, rfl⟩ : ∃ k, m = k + 1 := ⟨m - 1, by omega⟩
      rw [rel_Cmp_l0_eq, decide_eq_false (by omega), cond_false, compare_ok, Option.bind_some]
      congr 1
      rcases Nat.lt_trichotomy a.length b.length with h1 | h1 | h1
      · rw [List.drop_eq_nil_of_le (by omega : a.length ≤ i), List.drop_eq_getElem_cons (by omega : i < b.length), rcmp_nc]
        rcases icmp_val a.length b.length with ⟨_, e⟩ | ⟨_, e⟩ | ⟨_, e⟩ <;> omega
      · rw [List.drop_eq_nil_of_le (by omega : a.length ≤ i), List.drop_eq_nil_of_le (by omega : b.length ≤ i), rcmp_nn]
        rcases icmp_val a.length b.length with ⟨_, e⟩ | ⟨_, e⟩ | ⟨_, e⟩ <;> omega
      · rw [List.drop_eq_getElem_cons (by omega : i < a.length), List.drop_eq_nil_of_le (by omega : b.length ≤ i), rcmp_cn]
        rcases icmp_val a.length b.length with ⟨_, e⟩ | ⟨_, e⟩ | ⟨_, e⟩ <;> omega
    | succ c ih =>
      intro i m hc hi hm'
      obtain ⟨m, rfl⟩ : ∃ k, m = k + 1 := ⟨m - 1, by omega⟩
      have h1 : i < a.length := by omega
      have h2 : i < b.length := by omega
      rw [rel_Cmp_l0_eq, decide_eq_true (by omega), inR h1, inR h2, cond_true, cond_true, cond_true, show Int.toNat (i : Int) = i from rfl, getD_lt _ h1, getD_lt _ h2]
      have hv := lw_mem (List.getElem_mem h1)
      rw [vcmp_ok n (by omega) _ _ _ n (Nat.le_refl _) (by omega) (by omega) (by omega), Option.bind_some, i64_succ (by omega), ih (i + 1) m (by omega) (by omega) (by omega), List.drop_eq_getElem_cons h1, List.drop_eq_getElem_cons h2, rcmp_cc]
      exact or2_opt _ _
  have := key _ 0 n rfl (Nat.zero_le _) (by omega)
  exact this
theorem appOK {α : Type} (s : List α) (x : α) (h : s.length < 4294967296) : (decide (List.length s = List.length s) && decide (List.length s + List.length [x] ≤ 4294967296)) = true := by
  rw [decide_eq_true (rfl : List.length s = List.length s), decide_eq_true (show List.length s + List.length [x] ≤ 4294967296 by simp only [List.length_singleton]; omega)]
  rfl
theorem order1_ok (n : Nat) (a : List ApiValue) (hn : a.length < n) (hm : a.length < 4294967296) : ref2_Order_1 n a = some (LV a) := by
  rw [ref2_Order_1_eq]
  have := ref2_Order_1_l0_fold n a (ApiValue.mk 0 0 [] []) 8 0 [] [] (by omega) n 0 (by omega) (by omega)
  rw [show ((0 : Nat) : Int) = 0 from rfl] at this
  rw [this, List.drop_zero]
  have key : ∀ (l : List ApiValue) (i : Nat) (s : List ApiField), s.length + l.length < 4294967296 → foldK (S := (List ApiField)) (fun i (a : ApiValue) s K => (bif (decide ((List.length s) = List.length s) && decide (List.length s + List.length ([(ApiField.mk [] a)] : List ApiField) ≤ 4294967296)) then (K (s ++ [(ApiField.mk [] a)])) else none)) (fun s => (some (ApiValue.mk 8 0 [] s))) l i s = some (ApiValue.mk 8 0 [] (s ++ l.map fun v => ApiField.mk [] v)) := by
    intro l
    induction l with
    | nil => intro i s _; simp [foldK]
    | cons v l ih =>
      intro i s hs
      rw [foldK_cons, appOK s _ (by omega), cond_true]
      dsimp only
      rw [ih (i + 1) _ (by simp at hs ⊢; omega)]
      simp
  exact key a 0 [] (by simpa using hm)
theorem order_ok (n : Nat) (a b : List ApiValue) (ha : 3 * lw a < n) (hb : b.length < n) (hma : lw a < 4611686018427387904) (hla : a.length < 4294967296) (hmb : b.length < 4294967296) : ref2_Order n a b = some (rcmp a b) := by
  have := lw_len a
  rw [ref2_Order_eq, order1_ok n a (by omega) (by omega), order1_ok n b hb hmb, Option.bind_some, Option.bind_some, vcmp_ok n (by omega) _ (LV a) _ n (Nat.le_refl _) (by have : lw a = vw (LV a) := rfl; omega) (by have : lw a = vw (LV a) := rfl; omega) (by have : lw a = vw (LV a) := rfl; omega), Option.bind_some]
  rfl

/-! ### Heads and rows -/
structure RB (B : Nat) (r : Rel) : Prop where
  nm : r.Name.length ≤ B
  cl : r.Cols.length ≤ B
  cn : ∀ c ∈ r.Cols, c.Name.length ≤ B
  kl : r.Key.length ≤ B
  rl : r.Rows.length ≤ B
  rw : ∀ l ∈ r.Rows, lw l ≤ B
theorem foldK_ix {A : Type} (p : A → Bool) (l : List A) : foldK (S := Unit) (fun i a _ K => bif p a then some (i : Int) else K ()) (fun _ => some (-1)) l 0 () = some (ixI p l) := by
  rw [foldK_idx]
  unfold ixI
  cases List.findIdx? p l <;> simp
theorem cidx_ok (n : Nat) (v : List Col) (c : Col) (hl : v.length < 9223372036854775807) (hn : v.length < n) : slices_ContainsFunc_Col_by_rel_head_1 n v (c, ()) = some (v.any fun a => a.Name == c.Name) := by
  have h := slices_IndexFunc_Col_by_rel_head_1_l0_fold n v c hl n 0 (Nat.zero_le _) (by omega)
  rw [show ((0 : Nat) : Int) = 0 from rfl] at h
  simp only [rel_head_1_eq, bind_some2] at h
  rw [slices_ContainsFunc_Col_by_rel_head_1_eq, slices_IndexFunc_Col_by_rel_head_1_eq, h, List.drop_zero, foldK_ix fun a : Col => a.Name == c.Name, bind_some2, ixI_pos]
theorem col_ok (n : Nat) (r : Rel) (s : List UInt8) (hl : r.Cols.length < 9223372036854775807) (hn : r.Cols.length < n) : rel_Col n r s = some (mxI 0 (ixI (fun a => a.Name == s) r.Cols), r.Cols.any fun a => a.Name == s) := by
  have h := slices_IndexFunc_Col_by_rel_Col_1_l0_fold n r.Cols s hl n 0 (Nat.zero_le _) (by omega)
  rw [show ((0 : Nat) : Int) = 0 from rfl] at h
  simp only [rel_Col_1_eq, bind_some2] at h
  rw [rel_Col_eq, slices_IndexFunc_Col_by_rel_Col_1_eq, h, List.drop_zero, foldK_ix fun a : Col => a.Name == s, bind_some2, ixI_pos]
theorem column_ok (n : Nat) (r : Rel) (s : List UInt8) (hl : r.Cols.length < 9223372036854775807) (hn : r.Cols.length < n) : ref2_column n r s = some (ixI (fun a => a.Name == s) r.Cols) := by
  have h := ref2_column_l0_fold n s r.Cols hl n 0 (Nat.zero_le _) (by omega)
  rw [show ((0 : Nat) : Int) = 0 from rfl] at h
  rw [ref2_column_eq, h, List.drop_zero, foldK_ix fun a : Col => a.Name == s]
theorem sindex_ok (n : Nat) (v : List (List UInt8)) (s : List UInt8) (hl : v.length < 9223372036854775807) (hn : v.length < n) : slices_Contains_string n v s = some (v.any fun a => s == a) := by
  have h := slices_Index_string_l0_fold n v s hl n 0 (Nat.zero_le _) (by omega)
  rw [show ((0 : Nat) : Int) = 0 from rfl] at h
  rw [slices_Contains_string_eq, slices_Index_string_eq, h, List.drop_zero, foldK_ix fun a : List UInt8 => s == a, bind_some2, ixI_pos]
theorem any_take {α : Type} (l : List α) (p : α → Bool) {i : Nat} (h : i < l.length) : (l.take (i + 1)).any p = ((l.take i).any p || p l[i]) := by
  rw [List.take_succ_eq_append_getElem h, List.any_append]
  simp
theorem seen_set {A : Type} {l : List A} {nm : A → List UInt8} {i : Nat} (hi : i < l.length) {w : List (List UInt8 × Bool)} (hI : ∀ s, has w s = (l.take i).any fun a => nm a == s) (s : List UInt8) : has (smset (nm l[i]) true w) s = (l.take (i + 1)).any fun a => nm a == s := by
  rw [has_set, any_take _ _ hi, hI]
  by_cases he : s = nm l[i]
  · rw [if_pos he]; simp [he]
  · rw [if_neg he]
    have : (nm l[i] == s) = false := by simpa using fun h => he h.symm
    rw [this, Bool.or_false]
abbrev KeyIn (r : Rel) (k : List UInt8) : Prop := (r.Cols.any fun a => a.Name == k) = true
theorem beq_sym (a b : List UInt8) : (a == b) = (b == a) := by
  by_cases h : a = b
  · simp [h]
  · rw [show (a == b) = false by simpa using h, show (b == a) = false by simpa using fun e => h e.symm]
theorem keys_par {n : Nat} {r : Rel} (hc : r.Cols.length < 4294967296) (hk : r.Key.length < 4294967296) (hcn : r.Cols.length < n) (hkn : r.Key.length < n) {w : List (List UInt8 × Bool)} (hI : ∀ s, has w s = r.Cols.any fun a => a.Name == s) :
    rel_head_l4 n n r.Key (List.length r.Key : Int) 0 r = ref2_HeadErr_l3 n n r.Key (List.length r.Key : Int) 0 w [] := by
  have f3 := rel_head_l4_fold n r.Key r (by omega) n 0 (Nat.zero_le _) (by omega)
  have f4 := ref2_HeadErr_l3_fold n r.Key w [] (by omega) n 0 (Nat.zero_le _) (by omega)
  rw [show ((0 : Nat) : Int) = 0 from rfl] at f3 f4
  rw [f3, f4]
  refine foldK_par r.Key (S := Unit) (S' := List (List UInt8 × Bool)) (fun i _ u => ∀ s, has u s = (r.Key.take i).any fun a => a == s) ?_ (fun _ _ _ => rfl) _ 0 rfl (Nat.zero_le _) _ _ (by intro s; rfl)
  intro i hi s u K K' hJ hK
  rw [col_ok n r _ (by omega) (by omega), inR' (by omega : i ≤ r.Key.length), show Int.toNat (i : Int) = i from rfl, sindex_ok n _ _ (by simp; omega) (by simp; omega), mgetD_s, mgetD_s, mset_s, hI, hJ]
  simp only [bind_some2, cond_true]
  rw [show (fun a : List UInt8 => r.Key[i] == a) = fun a => a == r.Key[i] from funext fun a => beq_sym _ _]
  cases r.Cols.any fun a => a.Name == r.Key[i] with
  | false => simp only [Bool.not_false, cond_true]
  | true =>
    cases (r.Key.take i).any fun a => a == r.Key[i] with
    | true => simp only [Bool.not_true, cond_true, cond_false]
    | false =>
      simp only [Bool.not_true, cond_false]
      exact hK _ _ fun s => seen_set (nm := fun a => a) hi hJ s
theorem keys_case {n : Nat} {r : Rel} (hc : r.Cols.length < 4294967296) (hk : r.Key.length < 4294967296) (hcn : r.Cols.length < n) (hkn : r.Key.length < n) :
    ∃ e : Int, rel_head_l4 n n r.Key (List.length r.Key : Int) 0 r = some e ∧ (e = 0 → ∀ k ∈ r.Key, KeyIn r k) := by
  have f3 := rel_head_l4_fold n r.Key r (by omega) n 0 (Nat.zero_le _) (by omega)
  rw [show ((0 : Nat) : Int) = 0 from rfl] at f3
  rw [f3]
  refine foldK_case r.Key (S := Unit) (fun i _ => ∀ k ∈ r.Key.take i, KeyIn r k) (fun o => ∃ e : Int, o = some e ∧ (e = 0 → ∀ k ∈ r.Key, KeyIn r k)) ?_ ?_ _ 0 rfl (Nat.zero_le _) _ (by simp)
  · intro i hi s hI
    rw [col_ok n r _ (by omega) (by omega), inR' (by omega : i ≤ r.Key.length), show Int.toNat (i : Int) = i from rfl, sindex_ok n _ _ (by simp; omega) (by simp; omega)]
    simp only [bind_some2, cond_true]
    cases hc : r.Cols.any fun a => a.Name == r.Key[i] with
    | false => exact .inl ⟨some 15, ⟨_, rfl, fun h => by omega⟩, fun _ => by simp only [Bool.not_false, cond_true]⟩
    | true =>
      cases (r.Key.take i).any fun a => r.Key[i] == a with
      | true => exact .inl ⟨some 5, ⟨_, rfl, fun h => by omega⟩, fun _ => by simp only [Bool.not_true, cond_true, cond_false]⟩
      | false =>
        refine .inr ⟨(), fun k hk => ?_, fun _ => by simp only [Bool.not_true, cond_false]⟩
        rw [List.take_succ_eq_append_getElem hi] at hk
        rcases List.mem_append.1 hk with hk | hk
        · exact hI k hk
        · rw [List.mem_singleton.1 hk]; exact hc
  · intro s hI
    exact ⟨0, rfl, fun _ => by rwa [List.take_length] at hI⟩
theorem cols_par {n : Nat} {r : Rel} (hc : r.Cols.length < 4294967296) (hk : r.Key.length < 4294967296) (hcn : r.Cols.length < n) (hkn : r.Key.length < n) (hs : ∀ c ∈ r.Cols, c.Name.length < n) :
    rel_head_l1 n n r.Cols (List.length r.Cols : Int) 0 r = ref2_HeadErr_l0 n n r.Cols (List.length r.Cols : Int) 0 r [] [] := by
  have f1 := rel_head_l1_fold n r.Cols r (by omega) n 0 (Nat.zero_le _) (by omega)
  have f2 := ref2_HeadErr_l0_fold n r.Cols r [] [] (by omega) n 0 (Nat.zero_le _) (by omega)
  rw [show ((0 : Nat) : Int) = 0 from rfl] at f1 f2
  rw [f1, f2]
  refine foldK_par r.Cols (S := Unit) (S' := List (List UInt8 × Bool)) (fun i _ w => ∀ s, has w s = (r.Cols.take i).any fun a => a.Name == s) ?_ ?_ _ 0 rfl (Nat.zero_le _) _ _ (by intro s; rfl)
  · intro i hi s w K K' hI hK
    have hm := List.getElem_mem hi
    obtain ⟨b2, hb2⟩ := Option.isSome_iff_exists.1 (vname_some n r.Cols[i].Name (hs _ hm))
    rw [hb2, inR' (by omega : i ≤ r.Cols.length), show Int.toNat (i : Int) = i from rfl, cidx_ok n _ _ (by simp; omega) (by simp; omega), rel_Column_eq, mgetD_s, mset_s, hI]
    simp only [bind_some2, cond_true]
    cases b2 with
    | false => simp only [Bool.not_false, cond_true]
    | true =>
      simp only [Bool.not_true, cond_false]
      cases (r.Cols.take i).any fun a => a.Name == r.Cols[i].Name with
      | true => simp only [cond_true]
      | false =>
        simp only [cond_false]
        by_cases hk1 : r.Cols[i].Kind < 1
        · rw [decide_eq_false (by omega : ¬ r.Cols[i].Kind ≥ 1), decide_eq_true hk1]; simp only [bind_some2, cond_false, Bool.not_false, cond_true]
        · rw [decide_eq_true (by omega : r.Cols[i].Kind ≥ 1), decide_eq_false hk1]
          by_cases hk2 : r.Cols[i].Kind > 5
          · rw [decide_eq_false (by omega : ¬ r.Cols[i].Kind ≤ 5), decide_eq_true hk2]; simp only [bind_some2, cond_true, cond_false, Bool.not_false]
          · rw [decide_eq_true (by omega : r.Cols[i].Kind ≤ 5), decide_eq_false hk2]
            simp only [cond_true, cond_false, bind_some2, Bool.not_true]
            exact hK _ _ fun s => seen_set (nm := fun a : Col => a.Name) hi hI s
  · intro _ w hI
    exact keys_par hc hk hcn hkn (by rwa [List.take_length] at hI)
theorem cols_case {n : Nat} {r : Rel} (hc : r.Cols.length < 4294967296) (hk : r.Key.length < 4294967296) (hcn : r.Cols.length < n) (hkn : r.Key.length < n) (hs : ∀ c ∈ r.Cols, c.Name.length < n) :
    ∃ e : Int, rel_head_l1 n n r.Cols (List.length r.Cols : Int) 0 r = some e ∧ (e = 0 → ∀ k ∈ r.Key, KeyIn r k) := by
  have f1 := rel_head_l1_fold n r.Cols r (by omega) n 0 (Nat.zero_le _) (by omega)
  rw [show ((0 : Nat) : Int) = 0 from rfl] at f1
  rw [f1]
  refine foldK_case r.Cols (S := Unit) (fun _ _ => True) (fun o => ∃ e : Int, o = some e ∧ (e = 0 → ∀ k ∈ r.Key, KeyIn r k)) ?_ (fun _ _ => keys_case hc hk hcn hkn) _ 0 rfl (Nat.zero_le _) _ trivial
  intro i hi s _
  have hm := List.getElem_mem hi
  obtain ⟨b2, hb2⟩ := Option.isSome_iff_exists.1 (vname_some n r.Cols[i].Name (hs _ hm))
  rw [hb2, inR' (by omega : i ≤ r.Cols.length), show Int.toNat (i : Int) = i from rfl, cidx_ok n _ _ (by simp; omega) (by simp; omega), rel_Column_eq]
  simp only [bind_some2, cond_true]
  cases b2 with
  | false => exact .inl ⟨some 15, ⟨_, rfl, fun h => by omega⟩, fun _ => by simp only [Bool.not_false, cond_true]⟩
  | true =>
    cases (r.Cols.take i).any fun a => a.Name == r.Cols[i].Name with
    | true => exact .inl ⟨some 5, ⟨_, rfl, fun h => by omega⟩, fun _ => by simp only [Bool.not_true, cond_false, cond_true]⟩
    | false =>
      cases decide (r.Cols[i].Kind ≥ 1) with
      | false => exact .inl ⟨some 8, ⟨_, rfl, fun h => by omega⟩, fun _ => by simp only [Bool.not_true, Bool.not_false, cond_false, cond_true, bind_some2]⟩
      | true =>
        cases decide (r.Cols[i].Kind ≤ 5) with
        | false => exact .inl ⟨some 8, ⟨_, rfl, fun h => by omega⟩, fun _ => by simp only [Bool.not_true, Bool.not_false, cond_false, cond_true, bind_some2]⟩
        | true => exact .inr ⟨(), trivial, fun _ => by simp only [Bool.not_true, cond_false, cond_true, bind_some2]⟩
/-- Both heads answer alike, and where they are right each key has its column. -/
theorem head_ok {B n : Nat} {r : Rel} (hr : RB B r) (hB : B < 4294967296) (hn : B < n) : rel_head n r = ref2_HeadErr n r ∧ ∃ e : Int, rel_head n r = some e ∧ (e = 0 → ∀ k ∈ r.Key, KeyIn r k) := by
  have h1 := hr.cl
  have h2 := hr.kl
  have hs : ∀ c ∈ r.Cols, c.Name.length < n := fun c hc => by have := hr.cn c hc; omega
  obtain ⟨b, hb⟩ := Option.isSome_iff_exists.1 (vname_some n r.Name (by have := hr.nm; omega))
  rw [rel_head_eq, ref2_HeadErr_eq, hb, bind_some2, bind_some2, cols_par (by omega) (by omega) (by omega) (by omega) hs]
  refine ⟨rfl, ?_⟩
  rw [← cols_par (by omega) (by omega) (by omega) (by omega) hs]
  cases b with
  | false => exact ⟨15, by simp only [Bool.not_false, cond_true], fun h => by omega⟩
  | true =>
    simp only [Bool.not_true, cond_false]
    cases decide ((r.Cols.length : Int) = 0) with
    | true => exact ⟨3, by simp only [cond_true], fun h => by omega⟩
    | false =>
      cases decide ((r.Cols.length : Int) > 12) with
      | true => exact ⟨2, by simp only [cond_true, cond_false], fun h => by omega⟩
      | false =>
        simp only [cond_false]
        exact cols_case (by omega) (by omega) (by omega) (by omega) hs

theorem row_ok {n : Nat} {r : Rel} {l : List ApiValue} (hl : lw l < 4294967296) (hn : lw l < n) : rel_row n r l = ref2_RowErr n r l ∧ ∃ e : Int, rel_row n r l = some e ∧ (e = 0 → l.length = r.Cols.length) := by
  have hll := lw_len l
  rw [rel_row_eq, ref2_RowErr_eq]
  by_cases hc : l.length = r.Cols.length
  · rw [decide_eq_true (by omega : (l.length : Int) = (r.Cols.length : Int)), decide_eq_true (by omega : (r.Cols.length : Int) = (l.length : Int))]
    simp only [Bool.not_true, cond_false]
    have f1 := rel_row_l0_fold n l r (by omega) n 0 (Nat.zero_le _) (by omega)
    have f2 := ref2_RowErr_l0_fold n l r (by omega) n 0 (Nat.zero_le _) (by omega)
    rw [show ((0 : Nat) : Int) = 0 from rfl] at f1 f2
    rw [f1, f2]
    have chk : ∀ i (hi : i < l.length), ∃ e, value_Check n l[i] = some e := fun i hi => by
      have := lw_mem (List.getElem_mem hi)
      exact Option.isSome_iff_exists.1 (vcheck_some n _ (by omega) (by omega))
    constructor
    · refine foldK_par l (S := Unit) (S' := Unit) (fun _ _ _ => True) ?_ (fun _ _ _ => rfl) _ 0 rfl (Nat.zero_le _) _ _ trivial
      intro i hi s s' K K' _ hK
      obtain ⟨e, he⟩ := chk i hi
      rw [he, inR hi, inR (by omega : i < r.Cols.length)]
      simp only [bind_some2, cond_true]
      by_cases h0 : e = 0
      · rw [decide_eq_true h0]
        simp only [Bool.not_true, cond_false, cond_true]
        cases decide (l[i].Kind = (List.getD r.Cols (Int.toNat (i : Int)) (Col.mk [] 0)).Kind) <;> cases decide (l[i].Kind = 11) <;> simp only [Bool.not_true, Bool.not_false, cond_true, cond_false] <;> first | exact hK _ _ trivial | (rw [decide_eq_false (by omega : ¬ (8 : Int) = 0)]; simp only [Bool.not_false, cond_true])
      · rw [decide_eq_false h0]
        simp only [Bool.not_false, cond_true, cond_false]
    · refine foldK_case l (S := Unit) (fun _ _ => True) (fun o => ∃ e : Int, o = some e ∧ (e = 0 → l.length = r.Cols.length)) ?_ (fun _ _ => ⟨0, rfl, fun _ => hc⟩) _ 0 rfl (Nat.zero_le _) _ trivial
      intro i hi s _
      obtain ⟨e, he⟩ := chk i hi
      rw [he, inR (by omega : i < r.Cols.length)]
      simp only [bind_some2, cond_true]
      cases decide (e = 0) with
      | false => exact .inl ⟨some e, ⟨e, rfl, fun _ => hc⟩, fun _ => by simp only [Bool.not_false, cond_true]⟩
      | true =>
        cases decide (l[i].Kind = (List.getD r.Cols (Int.toNat (i : Int)) (Col.mk [] 0)).Kind) with
        | true => exact .inr ⟨(), trivial, fun _ => by simp only [Bool.not_true, cond_false]⟩
        | false => cases decide (l[i].Kind = 11) with
          | true => exact .inr ⟨(), trivial, fun _ => by simp only [Bool.not_true, Bool.not_false, cond_true, cond_false]⟩
          | false => exact .inl ⟨some 8, ⟨8, rfl, fun _ => hc⟩, fun _ => by simp only [Bool.not_true, Bool.not_false, cond_true, cond_false]⟩
  · rw [decide_eq_false (by omega : ¬ (l.length : Int) = (r.Cols.length : Int)), decide_eq_false (by omega : ¬ (r.Cols.length : Int) = (l.length : Int))]
    simp only [Bool.not_false, cond_true]
    exact ⟨trivial, 3, rfl, fun h => by omega⟩

/-! ### Keys of rows -/
/-- The value of a row under a key. -/
def kval (r : Rel) (l : List ApiValue) (k : List UInt8) : ApiValue := l.getD (r.Cols.findIdx fun a => a.Name == k) (ApiValue.mk 0 0 [] [])
def keyOf (r : Rel) (l : List ApiValue) : List ApiValue := r.Key.map (kval r l)
theorem kidx {r : Rel} {k : List UInt8} (h : KeyIn r k) : ixI (fun a => a.Name == k) r.Cols = ((r.Cols.findIdx fun a => a.Name == k : Nat) : Int) ∧ (r.Cols.findIdx fun a => a.Name == k) < r.Cols.length := by
  refine ⟨by rw [ixI_eq, if_pos h], List.findIdx_lt_length_of_exists ?_⟩
  obtain ⟨c, h1, h2⟩ := List.any_eq_true.1 h
  exact ⟨c, h1, h2⟩
theorem kval_mem {r : Rel} {l : List ApiValue} {k : List UInt8} (h : KeyIn r k) (hl : l.length = r.Cols.length) : kval r l k ∈ l := by
  obtain ⟨_, h2⟩ := kidx h
  unfold kval
  rw [List.getD_of_lt _ _ _ (by omega)]
  exact List.getElem_mem _
theorem agree1_ok {B n : Nat} {r : Rel} (hr : RB B r) (hB : B < 4294967296) (hn : 3 * B + 10 < n) {a b : List ApiValue} (ha : a ∈ r.Rows) (hla : a.length = r.Cols.length) (hlb : b.length = r.Cols.length) {k : List UInt8} (hk : KeyIn r k) :
    rel_agree_1 n k r a b = some (!decide (vcmp (kval r a k) (kval r b k) = 0)) := by
  have h1 := hr.cl
  obtain ⟨e, hlt⟩ := kidx hk
  have hmx : mxI 0 (ixI (fun a => a.Name == k) r.Cols) = ((r.Cols.findIdx fun a => a.Name == k : Nat) : Int) := by
    rw [e]
    unfold mxI
    cases r.Cols.findIdx fun a => a.Name == k with
    | zero => rfl
    | succ j => rw [decide_eq_true (by omega)]; rfl
  rw [rel_agree_1_eq, col_ok n r k (by omega) (by omega)]
  simp only [bind_some2]
  rw [hmx, inR (by omega : _ < a.length), inR (by omega : _ < b.length), cond_true, cond_true, value_Same_eq]
  have hv := lw_mem (kval_mem hk hla)
  have hw := hr.rw a ha
  show Option.bind (Option.bind (value_Cmp n n (kval r a k) (kval r b k)) _) _ = _
  rw [vcmp_ok n (by omega) _ _ _ n (Nat.le_refl _) (by omega) (by omega) (by omega)]
  rfl
theorem agree_ok {B n : Nat} {r : Rel} (hr : RB B r) (hB : B < 4294967296) (hn : 3 * B + 10 < n) (hk : ∀ k ∈ r.Key, KeyIn r k) {a b : List ApiValue} (ha : a ∈ r.Rows) (hla : a.length = r.Cols.length) (hlb : b.length = r.Cols.length) :
    rel_agree n r a b = some (decide (rcmp (keyOf r a) (keyOf r b) = 0)) := by
  have h1 := hr.kl
  have h := slices_IndexFunc_string_by_rel_agree_1_l0_fold n r.Key r a b (by omega) n 0 (Nat.zero_le _) (by omega)
  rw [show ((0 : Nat) : Int) = 0 from rfl] at h
  rw [rel_agree_eq, slices_ContainsFunc_string_by_rel_agree_1_eq, slices_IndexFunc_string_by_rel_agree_1_eq]
  simp only []
  rw [h, List.drop_zero]
  have e : foldK (S := Unit) (fun i (x : (List UInt8)) s K => (Option.bind (rel_agree_1 n x r a b) fun r1 => (bif r1 then (some (i : Int)) else (K ())))) (fun s => (some (-1))) r.Key 0 () = foldK (S := Unit) (fun i x _ K => bif !decide (vcmp (kval r a x) (kval r b x) = 0) then some (i : Int) else K ()) (fun _ => some (-1)) r.Key 0 () :=
    foldK_congr (fun _ => rfl) r.Key 0 () fun i x s K hx => by rw [agree1_ok hr hB hn ha hla hlb (hk x hx), bind_some2]
  rw [e, foldK_ix fun x => !decide (vcmp (kval r a x) (kval r b x) = 0), bind_some2, bind_some2, ixI_pos]
  have key : ∀ l : List (List UInt8), (!l.any fun x => !decide (vcmp (kval r a x) (kval r b x) = 0)) = decide (rcmp (l.map (kval r a)) (l.map (kval r b)) = 0) := by
    intro l
    induction l with
    | nil => simp [rcmp_nn]
    | cons x l ih =>
      rw [List.any_cons, List.map_cons, List.map_cons, rcmp_cc, Bool.not_or, Bool.not_not, ih, ← Bool.decide_and]
      congr 1
      rcases or2_val (vcmp (kval r a x) (kval r b x)) (rcmp (l.map (kval r a)) (l.map (kval r b))) with ⟨h1, h2⟩ | ⟨h1, h2⟩ <;> rw [h2] <;> simp [h1]
  rw [key]
  rfl
theorem keyOf_ok {B n : Nat} {r : Rel} (hr : RB B r) (hB : B < 4294967295) (hn : B < n) (hk : ∀ k ∈ r.Key, KeyIn r k) {l : List ApiValue} (hl : l.length = r.Cols.length) : ref2_keyOf n r l = some (keyOf r l) := by
  have h1 := hr.kl
  have h2 := hr.cl
  have h := ref2_keyOf_l0_fold n l r.Key r [] (by omega) n 0 (Nat.zero_le _) (by omega)
  rw [show ((0 : Nat) : Int) = 0 from rfl] at h
  rw [ref2_keyOf_eq, h, List.drop_zero]
  have key : ∀ (m : List (List UInt8)) (i : Nat) (s : List ApiValue), (∀ k ∈ m, KeyIn r k) → s.length + m.length < 4294967296 → foldK (S := (List ApiValue)) (fun i (a : (List UInt8)) s K => (Option.bind (ref2_column n r a) fun r1 => (bif (decide (0 ≤ r1) && decide (r1 < List.length l)) then (bif (decide ((List.length s) = List.length s) && decide (List.length s + List.length ([(List.getD l (Int.toNat r1) (ApiValue.mk 0 0 [] []))] : List ApiValue) ≤ 4294967296)) then (K (s ++ [(List.getD l (Int.toNat r1) (ApiValue.mk 0 0 [] []))])) else none) else none))) (fun s => (some s)) m i s = some (s ++ m.map (kval r l)) := by
    intro m
    induction m with
    | nil => intro i s _ _; simp [foldK]
    | cons k m ih =>
      intro i s hk hs
      obtain ⟨e, hlt⟩ := kidx (hk k (by simp))
      rw [foldK_cons, column_ok n r k (by omega) (by omega), bind_some2, e, inR (by omega : _ < l.length), cond_true, appOK s _ (by simp at hs; omega), cond_true]
      dsimp only
      rw [ih (i + 1) _ (fun k hk' => hk k (by simp [hk'])) (by simp at hs ⊢; omega)]
      simp [kval]
  exact key r.Key 0 [] hk (by simp; omega)

/-! ### Keys that are alike -/
theorem sortO_ord {A : Type} (cmp : A → A → Option Int) (c : A → A → Int) (ha : ∀ a b, c b a = -c a b) (ht : ∀ a b d, Tr3 (c a b) (c b d) (c a d)) (xs : List A) (hl : xs.length < 4611686018427387904) (h : ∀ a ∈ xs, ∀ b ∈ xs, cmp a b = some (c a b)) :
    ∃ ys, sortO cmp xs = some ys ∧ ys.Perm xs ∧ ys.Pairwise fun a b => c a b ≤ 0 := by
  cases xs with
  | nil => exact ⟨[], rfl, .nil, .nil⟩
  | cons x t =>
    have hcf : ∀ i j : Fin (t.length + 1), cmp ((x :: t).get i) ((x :: t).get j) = some (cfOf cmp x t i j) ∧ cfOf cmp x t i j = c ((x :: t).get i) ((x :: t).get j) := by
      intro i j
      have h1 := h _ (List.get_mem (x :: t) i) _ (List.get_mem (x :: t) j)
      have e : cfOf cmp x t i j = c ((x :: t).get i) ((x :: t).get j) := by
        show (cmp ((x :: t).get i) ((x :: t).get j)).getD 0 = _
        rw [h1]
        rfl
      rw [e]
      exact ⟨h1, rfl⟩
    have hlt : ∀ i j : Fin (t.length + 1), ltI (cfOf cmp x t) i j = decide (c ((x :: t).get i) ((x :: t).get j) < 0) := by
      intro i j
      show decide (cfOf cmp x t i j < 0) = _
      rw [(hcf i j).2]
    have hswo : Go.Sort.SWO (ltI (cfOf cmp x t)) := by
      refine ⟨fun i => ?_, fun i j k h1 h2 => ?_, fun i j k h1 h2 => ?_⟩
      · rw [hlt]
        have := ha ((x :: t).get i) ((x :: t).get i)
        exact decide_eq_false (by omega)
      · rw [hlt] at h1 h2 ⊢
        have h1 := of_decide_eq_true h1
        have h2 := of_decide_eq_true h2
        obtain ⟨t1, t2, _⟩ := ht ((x :: t).get i) ((x :: t).get j) ((x :: t).get k)
        have t1 := t1 (by omega) (by omega)
        have t2 := t2 (by omega) (by omega)
        exact decide_eq_true (by omega)
      · rw [hlt] at h1 h2 ⊢
        have h1 := of_decide_eq_false h1
        have h2 := of_decide_eq_false h2
        obtain ⟨t1, t2, _⟩ := ht ((x :: t).get k) ((x :: t).get j) ((x :: t).get i)
        have a1 := ha ((x :: t).get i) ((x :: t).get j)
        have a2 := ha ((x :: t).get j) ((x :: t).get k)
        have a3 := ha ((x :: t).get i) ((x :: t).get k)
        have t1 := t1 (by omega) (by omega)
        exact decide_eq_false (by omega)
    obtain ⟨p1, p2, p3⟩ := swo_pdq hswo
    refine ⟨(pdqL (cfOf cmp x t)).map fun i => (x :: t).get i, ?_, ?_, ?_⟩
    · rw [sortO, if_pos ⟨by simpa using hl, fun i j => by rw [(hcf i j).1]; rfl, hswo⟩]
    · have e : (List.ofFn (n := t.length + 1) id).map (fun i => (x :: t).get i) = x :: t := by
        apply List.ext_getElem
        · simp
        · intro i h1 h2
          simp only [List.getElem_map, List.getElem_ofFn, id, List.get_eq_getElem]
      have := p1.map fun i => (x :: t).get i
      rwa [e] at this
    · rw [List.pairwise_map, List.pairwise_iff_getElem]
      intro i j hi hj hij
      have := p3 i j hi hj hij
      rw [hlt] at this
      have := of_decide_eq_false this
      have a1 := ha ((x :: t).get (pdqL (cfOf cmp x t))[i]) ((x :: t).get (pdqL (cfOf cmp x t))[j])
      omega
/-- No two are alike. -/
def PW (l : List (List ApiValue)) : Prop := l.Pairwise fun a b => rcmp a b ≠ 0
theorem PW_perm {l m : List (List ApiValue)} (h : l.Perm m) : PW l ↔ PW m := h.pairwise_iff fun h1 h2 => h1 (by have := rcmp_anti _ _ ▸ h2; have := rcmp_anti; omega)
theorem PW_adj {l : List (List ApiValue)} (hs : l.Pairwise fun a b => rcmp a b ≤ 0) : PW l ↔ ∀ i, 0 < i → (hi : i < l.length) → rcmp (l[i - 1]'(by omega)) l[i] ≠ 0 := by
  unfold PW
  rw [List.pairwise_iff_getElem]
  rw [List.pairwise_iff_getElem] at hs
  constructor
  · intro h i h0 hi
    exact h (i - 1) i (by omega) hi (by omega)
  · intro h i j hi hj hij he
    by_cases h1 : i = j - 1
    · subst h1
      exact h j (by omega) hj he
    · obtain ⟨_, t2, _⟩ := rcmp_tr l[i] (l[j - 1]'(by omega)) l[j]
      exact h j (by omega) hj (t2 (hs i (j - 1) hi (by omega) (by omega)) (hs (j - 1) j (by omega) hj (by omega)) he).2
theorem lw_map {B : Nat} (f : List UInt8 → ApiValue) : ∀ l : List (List UInt8), (∀ k ∈ l, vw (f k) ≤ B) → lw (l.map f) ≤ l.length * (B + 1) + 1
  | [], _ => by rw [List.map_nil, lw_nil]; omega
  | k :: l, h => by
    rw [List.map_cons, lw_cons, List.length_cons, Nat.succ_mul]
    have := lw_map f l fun x hx => h x (by simp [hx])
    have := h k (by simp)
    omega
structure Big (B n : Nat) : Prop where
  b : B < 4000000000
  n1 : 3 * (B * (B + 1) + 1) + 3 * B + 100 < n
  m1 : B * (B + 1) + 1 < 4611686018427387904
theorem key_lw {B : Nat} {r : Rel} (hr : RB B r) (hk : ∀ k ∈ r.Key, KeyIn r k) {l : List ApiValue} (hl : l ∈ r.Rows) (hll : l.length = r.Cols.length) : lw (keyOf r l) ≤ B * (B + 1) + 1 ∧ (keyOf r l).length ≤ B := by
  refine ⟨Nat.le_trans (lw_map (B := B) (kval r l) r.Key fun k hk' => ?_) ?_, by simp [keyOf]; exact hr.kl⟩
  · have := lw_mem (kval_mem (hk k hk') hll)
    have := hr.rw l hl
    omega
  · have := Nat.mul_le_mul_right (B + 1) hr.kl
    omega
open Classical in
theorem check2_ok {B n : Nat} {r : Rel} (hr : RB B r) (hB : Big B n) (hk : ∀ k ∈ r.Key, KeyIn r k) (hrow : ∀ l ∈ r.Rows, l.length = r.Cols.length) :
    ∀ (c i m : Nat), c = r.Rows.length - i → i ≤ r.Rows.length → c < m → PW ((r.Rows.take i).map (keyOf r)) → rel_Check_l2 n m r.Rows (r.Rows.length : Int) (i : Int) r = some (if PW (r.Rows.map (keyOf r)) then 0 else 16) := by
  have h1 := hr.rl
  have hb1 := hB.b
  have hb2 := hB.n1
  intro c
  induction c with
  | zero =>
    intro i m hc hi hm hp
    obtain ⟨m, rfl⟩ : ∃ q, m = q + 1 := ⟨m - 1, by omega⟩
    rw [rel_Check_l2_eq, decide_eq_false (by omega), cond_false]
    rw [List.take_of_length_le (by omega)] at hp
    rw [if_pos hp]
  | succ c ih =>
    intro i m hc hi hm hp
    obtain ⟨m, rfl⟩ : ∃ q, m = q + 1 := ⟨m - 1, by omega⟩
    have hlt : i < r.Rows.length := by omega
    have hmem := List.getElem_mem hlt
    rw [rel_Check_l2_eq, inR hlt, inR' hi, decide_eq_true (by omega), cond_true, cond_true, cond_true, show Int.toNat (i : Int) = i from rfl, getD_lt _ hlt]
    have f := rel_Check_l4_fold n m r.Rows[i] r.Rows (r.Rows.length : Int) (i : Int) (r.Rows.take i) r (by simp; omega) n 0 (Nat.zero_le _) (by simp; omega)
    rw [show ((0 : Nat) : Int) = 0 from rfl] at f
    rw [f, List.drop_zero, foldK_find (fun a => decide (rcmp (keyOf r r.Rows[i]) (keyOf r a) = 0)) (fun _ _ => some 16) _ _ _ fun j a s K ha => by
      rw [agree_ok hr (by omega) (by omega) hk hmem (hrow _ hmem) (hrow _ (List.mem_of_mem_take ha)), bind_some2]]
    cases hfi : (r.Rows.take i).find? fun a => decide (rcmp (keyOf r r.Rows[i]) (keyOf r a) = 0) with
    | some a =>
      have ha := List.mem_of_find?_eq_some hfi
      have hz := List.find?_some hfi
      have hz := of_decide_eq_true hz
      obtain ⟨j, hj, rfl⟩ := List.getElem_of_mem ha
      have hj' : j < i := by simp at hj; omega
      rw [if_neg]
      intro hpw
      unfold PW at hpw
      rw [List.pairwise_iff_getElem] at hpw
      have := hpw j i (by simp; omega) (by simp; omega) hj'
      simp only [List.getElem_map, List.getElem_take] at this hz
      have h2 := rcmp_anti (keyOf r r.Rows[i]) (keyOf r r.Rows[j])
      omega
    | none =>
      rw [List.find?_eq_none] at hfi
      dsimp only
      rw [i64_succ (by omega)]
      refine ih (i + 1) m (by omega) (by omega) (by omega) ?_
      rw [List.take_succ_eq_append_getElem hlt, List.map_append]
      unfold PW
      rw [List.pairwise_append]
      refine ⟨hp, by simp, fun a ha b hb => ?_⟩
      simp only [List.map_cons, List.map_nil, List.mem_singleton] at hb
      subst hb
      obtain ⟨x, hx, rfl⟩ := List.mem_map.1 ha
      have h2 := hfi x hx
      simp only [decide_eq_true_eq] at h2
      have h3 := rcmp_anti (keyOf r r.Rows[i]) (keyOf r x)
      omega
open Classical in
theorem adj_ok {B n : Nat} (hB : Big B n) (ys : List (List ApiValue)) (hl : ys.length ≤ B) (hw : ∀ y ∈ ys, lw y ≤ B * (B + 1) + 1 ∧ y.length ≤ B) :
    ref2_RelErr_l4 n n ys.length (ys.length : Int) 0 ys = some (if ∀ i, 0 < i → (hi : i < ys.length) → rcmp (ys[i - 1]'(by omega)) ys[i] ≠ 0 then 0 else 16) := by
  have hb1 := hB.b
  have hb2 := hB.n1
  have hb3 := hB.m1
  have f := ref2_RelErr_l4_fold n ys.length ys ys.length (by omega) n 0 (Nat.zero_le _) (by omega)
  rw [show ((0 : Nat) : Int) = 0 from rfl] at f
  rw [f]
  have key : ∀ (c i : Nat), c + i = ys.length → (∀ j, 0 < j → (hj : j < ys.length) → j < i → rcmp (ys[j - 1]'(by omega)) ys[j] ≠ 0) → foldN (S := Unit) (fun i s K => (bif (decide ((i : Int) > 0)) then (bif (decide (0 ≤ (IntKind.wrap .i64 ((i : Int) - 1))) && decide ((IntKind.wrap .i64 ((i : Int) - 1)) < (ys.length : Int))) then (bif (decide ((0 + (Int.toNat (IntKind.wrap .i64 ((i : Int) - 1)))) < List.length ys)) then (bif (decide (0 ≤ (i : Int)) && decide ((i : Int) < (ys.length : Int))) then (bif (decide ((0 + (Int.toNat (i : Int))) < List.length ys)) then (Option.bind (ref2_Order n (List.getD ys (0 + (Int.toNat (IntKind.wrap .i64 ((i : Int) - 1)))) []) (List.getD ys (0 + (Int.toNat (i : Int))) [])) fun r6 => (bif (decide (r6 = 0)) then (some 16) else (K ()))) else none) else none) else none) else none) else (K ()))) (fun s => (some 0)) c i () = some (if ∀ i, 0 < i → (hi : i < ys.length) → rcmp (ys[i - 1]'(by omega)) ys[i] ≠ 0 then (0 : Int) else 16) := by
    intro c
    induction c with
    | zero =>
      intro i hc hp
      rw [if_pos fun j h0 hj => hp j h0 hj (by omega)]
      rfl
    | succ c ih =>
      intro i hc hp
      have hlt : i < ys.length := by omega
      rw [foldN]
      by_cases h0 : 0 < i
      · obtain ⟨e1, e2⟩ := inP h0 hlt (by omega)
        have hlt' : i - 1 < ys.length := by omega
        rw [decide_eq_true (by omega : (i : Int) > 0), e1, e2, decide_eq_true (by omega : 0 + (i - 1) < ys.length), inR hlt, show Int.toNat (i : Int) = i from rfl, decide_eq_true (by omega : 0 + i < ys.length), cond_true, cond_true, cond_true, cond_true, cond_true, Nat.zero_add (i - 1), Nat.zero_add i, getD_lt _ hlt, getD_lt _ hlt']
        have w1 := hw _ (List.getElem_mem hlt')
        have w2 := hw _ (List.getElem_mem hlt)
        rw [order_ok n _ _ (by omega) (by omega) (by omega) (by omega) (by omega), bind_some2]
        by_cases hz : rcmp ys[i - 1] ys[i] = 0
        · rw [decide_eq_true hz, cond_true, if_neg fun h => h i h0 hlt hz]
        · rw [decide_eq_false hz, cond_false]
          refine ih (i + 1) (by omega) fun j j0 hj hj2 => ?_
          by_cases hji : j = i
          · subst hji; exact hz
          · exact hp j j0 hj (by omega)
      · rw [decide_eq_false (by omega : ¬ (i : Int) > 0), cond_false]
        exact ih (i + 1) (by omega) fun j j0 hj hj2 => by omega
  exact key _ 0 (by omega) fun j _ _ h => by omega
open Classical in
theorem err2_ok {B n : Nat} {r : Rel} (hr : RB B r) (hB : Big B n) (hk : ∀ k ∈ r.Key, KeyIn r k) (hrow : ∀ l ∈ r.Rows, l.length = r.Cols.length) :
    ref2_RelErr_l2 n n r.Rows (r.Rows.length : Int) 0 r [] = some (if PW (r.Rows.map (keyOf r)) then 0 else 16) := by
  have h1 := hr.rl
  have hb1 := hB.b
  have hb2 := hB.n1
  have hb3 := hB.m1
  have f := ref2_RelErr_l2_fold n r.Rows r [] (by omega) n 0 (Nat.zero_le _) (by omega)
  rw [show ((0 : Nat) : Int) = 0 from rfl] at f
  rw [f, List.drop_zero]
  have key : ∀ (m : List (List ApiValue)) (i : Nat) (s : List (List ApiValue)) (fin : List (List ApiValue) → Option Int), (∀ l ∈ m, l ∈ r.Rows) → s.length + m.length < 4294967296 → foldK (S := (List (List ApiValue))) (fun i (a : (List ApiValue)) s K => (Option.bind (ref2_keyOf n r a) fun r4 => (bif (decide ((List.length s) = List.length s) && decide (List.length s + List.length ([r4] : List (List ApiValue)) ≤ 4294967296)) then (K (s ++ [r4])) else none))) fin m i s = fin (s ++ m.map (keyOf r)) := by
    intro m
    induction m with
    | nil => intro i s fin _ _; simp [foldK]
    | cons l m ih =>
      intro i s fin hm hs
      have hl := hm l (by simp)
      rw [foldK_cons, keyOf_ok hr (by omega) (by omega) hk (hrow l hl), bind_some2, appOK s _ (by simp at hs; omega), cond_true]
      dsimp only
      rw [ih (i + 1) _ fin (fun x hx => hm x (by simp [hx])) (by simp at hs ⊢; omega)]
      simp
  rw [key r.Rows 0 [] _ (fun _ h => h) (by simp; omega), List.nil_append]
  have hmem : ∀ a ∈ r.Rows.map (keyOf r), lw a ≤ B * (B + 1) + 1 ∧ a.length ≤ B := by
    intro a ha
    obtain ⟨l, hl, rfl⟩ := List.mem_map.1 ha
    exact key_lw hr hk hl (hrow l hl)
  obtain ⟨ys, g1, g2, g3⟩ := sortO_ord (fun a b => Option.bind (ref2_Order n a b) fun r => some r) rcmp (fun a b => rcmp_anti a b) rcmp_tr (r.Rows.map (keyOf r)) (by simp; omega) fun a ha b hb => by
    have w1 := hmem a ha
    have w2 := hmem b hb
    rw [order_ok n a b (by omega) (by omega) (by omega) (by omega) (by omega), bind_some2]
  rw [List.take_length, g1, bind_some2]
  have hlen : ys.length = (r.Rows.map (keyOf r)).length := g2.length_eq
  have ho : over (r.Rows.map (keyOf r)) ys 0 = ys := by
    unfold over
    rw [List.take_zero, List.nil_append, Nat.zero_add, hlen, List.drop_length, List.append_nil]
  rw [ho, ← hlen, adj_ok hB ys (by rw [hlen]; simpa using h1) fun y hy => hmem y (g2.mem_iff.1 hy)]
  congr 1
  have e : PW (r.Rows.map (keyOf r)) ↔ _ := (PW_perm g2).symm.trans (PW_adj g3)
  by_cases hp : PW (r.Rows.map (keyOf r))
  · rw [if_pos hp, if_pos (e.1 hp)]
  · rw [if_neg hp, if_neg fun h => hp (e.2 h)]

/-! ### Whole relations -/
theorem rows_par {B n : Nat} {r : Rel} (hr : RB B r) (hB : Big B n) (hk : ∀ k ∈ r.Key, KeyIn r k) :
    rel_Check_l0 n n r.Rows (r.Rows.length : Int) 0 r = ref2_RelErr_l0 n n r.Rows (r.Rows.length : Int) 0 r ∧ (rel_Check_l0 n n r.Rows (r.Rows.length : Int) 0 r).isSome = true := by
  have h1 := hr.rl
  have hb1 := hB.b
  have hb2 := hB.n1
  have hb3 := hB.m1
  have f1 := rel_Check_l0_fold n r.Rows r (by omega) n 0 (Nat.zero_le _) (by omega)
  have f2 := ref2_RelErr_l0_fold n r.Rows r (by omega) n 0 (Nat.zero_le _) (by omega)
  rw [show ((0 : Nat) : Int) = 0 from rfl] at f1 f2
  rw [f1, f2]
  have next : ∀ {i : Nat} (hi : i < r.Rows.length), (∀ l ∈ r.Rows.take i, l.length = r.Cols.length) → r.Rows[i].length = r.Cols.length → ∀ l ∈ r.Rows.take (i + 1), l.length = r.Cols.length := by
    intro i hi hI h l hl
    rw [List.take_succ_eq_append_getElem hi] at hl
    rcases List.mem_append.1 hl with hl | hl
    · exact hI l hl
    · rw [List.mem_singleton.1 hl]; exact h
  constructor
  · refine foldK_par r.Rows (S := Unit) (S' := Unit) (fun i _ _ => ∀ l ∈ r.Rows.take i, l.length = r.Cols.length) ?_ ?_ _ 0 rfl (Nat.zero_le _) _ _ (by simp)
    · intro i hi s s' K K' hI hK
      have hm := List.getElem_mem hi
      have hw := hr.rw _ hm
      obtain ⟨e1, e, e2, e3⟩ := row_ok (r := r) (n := n) (l := r.Rows[i]) (by omega) (by omega)
      rw [← e1, e2, bind_some2, bind_some2]
      by_cases h0 : e = 0
      · rw [decide_eq_true h0, Bool.not_true, cond_false, cond_false]
        by_cases hp : 0 < i
        · obtain ⟨p1, p2⟩ := inP hp hi (by omega)
          have hlt : i - 1 < r.Rows.length := by omega
          rw [decide_eq_true (by omega : (i : Int) > 0), p1, p2, cond_true, cond_true, cond_true, cond_true, getD_lt _ hlt]
          have hw2 := hr.rw _ (List.getElem_mem hlt)
          have l1 := lw_len r.Rows[i]
          have l2 := lw_len r.Rows[i - 1]
          rw [rcmp_ok n _ _ (by omega) (by omega), order_ok n _ _ (by omega) (by omega) (by omega) (by omega) (by omega), bind_some2, bind_some2]
          have ha := rcmp_anti r.Rows[i - 1] r.Rows[i]
          by_cases hc : rcmp r.Rows[i - 1] r.Rows[i] ≥ 0
          · rw [decide_eq_true hc, decide_eq_true (by omega : rcmp r.Rows[i] r.Rows[i - 1] ≤ 0), cond_true, cond_true]
          · rw [decide_eq_false hc, decide_eq_false (by omega : ¬ rcmp r.Rows[i] r.Rows[i - 1] ≤ 0), cond_false, cond_false]
            exact hK _ _ (next hi hI (e3 h0))
        · rw [decide_eq_false (by omega : ¬ (i : Int) > 0), cond_false, cond_false]
          exact hK _ _ (next hi hI (e3 h0))
      · rw [decide_eq_false h0, Bool.not_false, cond_true, cond_true]
    · intro _ _ hI
      rw [List.take_length] at hI
      cases decide ((r.Key.length : Int) = 0) with
      | true => rw [cond_true, cond_true]
      | false => rw [cond_false, cond_false, err2_ok hr hB hk hI, ← check2_ok hr hB hk hI _ 0 n rfl (Nat.zero_le _) (by omega) (by simp [PW])]; rfl
  · refine foldK_case r.Rows (S := Unit) (fun i _ => ∀ l ∈ r.Rows.take i, l.length = r.Cols.length) (fun o => o.isSome = true) ?_ ?_ _ 0 rfl (Nat.zero_le _) _ (by simp)
    · intro i hi s hI
      have hm := List.getElem_mem hi
      have hw := hr.rw _ hm
      obtain ⟨e1, e, e2, e3⟩ := row_ok (r := r) (n := n) (l := r.Rows[i]) (by omega) (by omega)
      rw [e2]
      simp only [bind_some2]
      by_cases h0 : e = 0
      · rw [decide_eq_true h0]
        by_cases hp : 0 < i
        · obtain ⟨p1, p2⟩ := inP hp hi (by omega)
          have hlt : i - 1 < r.Rows.length := by omega
          rw [decide_eq_true (by omega : (i : Int) > 0), p1, p2, getD_lt _ hlt]
          have hw2 := hr.rw _ (List.getElem_mem hlt)
          rw [rcmp_ok n _ _ (by omega) (by omega)]
          simp only [bind_some2, Bool.not_true, cond_false, cond_true]
          cases decide (rcmp r.Rows[i - 1] r.Rows[i] ≥ 0) with
          | true => exact .inl ⟨some 9, rfl, fun _ => by rw [cond_true]⟩
          | false => exact .inr ⟨(), next hi hI (e3 h0), fun _ => by rw [cond_false]⟩
        · rw [decide_eq_false (by omega : ¬ (i : Int) > 0)]
          exact .inr ⟨(), next hi hI (e3 h0), fun _ => by rw [Bool.not_true, cond_false, cond_false]⟩
      · rw [decide_eq_false h0]
        exact .inl ⟨some e, rfl, fun _ => by rw [Bool.not_false, cond_true]⟩
    · intro _ hI
      rw [List.take_length] at hI
      cases decide ((r.Key.length : Int) = 0) with
      | true => rfl
      | false =>
        rw [cond_false]
        have := check2_ok hr hB hk hI _ 0 n rfl (Nat.zero_le _) (by omega) (by simp [PW])
        rw [show ((0 : Nat) : Int) = 0 from rfl] at this
        rw [this]
        rfl
theorem check_ok {B n : Nat} {r : Rel} (hr : RB B r) (hB : Big B n) : rel_Check n r = ref2_RelErr n r ∧ ∃ e, rel_Check n r = some e := by
  have hb1 := hB.b
  have hb2 := hB.n1
  obtain ⟨e1, e, e2, e3⟩ := head_ok (n := n) hr (by omega) (by omega)
  rw [rel_Check_eq, ref2_RelErr_eq, ← e1, e2, bind_some2, bind_some2]
  by_cases h0 : e = 0
  · rw [decide_eq_true h0, Bool.not_true, cond_false, cond_false]
    cases decide ((r.Rows.length : Int) > 300) with
    | true => rw [cond_true, cond_true]; exact ⟨rfl, 2, rfl⟩
    | false =>
      rw [cond_false, cond_false]
      obtain ⟨p1, p2⟩ := rows_par hr hB (e3 h0)
      exact ⟨p1, Option.isSome_iff_exists.1 p2⟩
  · rw [decide_eq_false h0, Bool.not_false, cond_true, cond_true]
    exact ⟨rfl, e, rfl⟩

/-! ### Databases -/
theorem bl_total : ∀ x y : List UInt8, (!bytesLess x y) = (bytesLess y x || (y == x))
  | [], [] => rfl
  | [], b :: y => by simp [bytesLess]
  | a :: x, [] => by simp [bytesLess]
  | a :: x, b :: y => by
    have ih := bl_total x y
    simp only [bytesLess]
    rcases Nat.lt_trichotomy a.toNat b.toNat with h | h | h
    · have h1 : (decide (a < b)) = true := decide_eq_true (UInt8.lt_iff_toNat_lt.2 h)
      have h2 : (decide (b < a)) = false := decide_eq_false (by rw [UInt8.lt_iff_toNat_lt]; omega)
      have h3 : (b == a) = false := by simp only [beq_eq_false_iff_ne, ne_eq]; intro e; rw [e] at h; omega
      have h4 : (b :: y == a :: x) = false := by simp only [beq_eq_false_iff_ne, ne_eq, List.cons.injEq, not_and]; intro e; rw [e] at h; omega
      rw [h1, h2, h3, h4]; rfl
    · have e : a = b := UInt8.toNat_inj.1 h
      subst e
      have h1 : (decide (a < a)) = false := decide_eq_false (by rw [UInt8.lt_iff_toNat_lt]; omega)
      have h4 : (a :: y == a :: x) = (y == x) := by simp
      rw [h1, h4, beq_self_eq_true, Bool.true_and, Bool.true_and, Bool.false_or, Bool.false_or]
      exact ih
    · have h1 : (decide (a < b)) = false := decide_eq_false (by rw [UInt8.lt_iff_toNat_lt]; omega)
      have h2 : (decide (b < a)) = true := decide_eq_true (UInt8.lt_iff_toNat_lt.2 h)
      have h3 : (a == b) = false := by simp only [beq_eq_false_iff_ne, ne_eq]; intro e; rw [e] at h; omega
      rw [h1, h2, h3]; rfl
theorem base_ok {B n : Nat} {b : List Rel} (hl : b.length ≤ B) (hb : ∀ r ∈ b, RB B r) (hB : Big B n) : rel_CheckBase n b = ref2_BaseErr n b ∧ ∃ e, rel_CheckBase n b = some e := by
  have hb1 := hB.b
  have hb2 := hB.n1
  rw [rel_CheckBase_eq, ref2_BaseErr_eq]
  cases decide ((b.length : Int) > 12) with
  | true => rw [cond_true, cond_true]; exact ⟨rfl, 2, rfl⟩
  | false =>
    rw [cond_false, cond_false]
    have f1 := rel_CheckBase_l0_fold n b b (by omega) n 0 (Nat.zero_le _) (by omega)
    have f2 := ref2_BaseErr_l0_fold n b [] (by omega) n 0 (Nat.zero_le _) (by omega)
    rw [show ((0 : Nat) : Int) = 0 from rfl] at f1 f2
    rw [f1, f2]
    constructor
    · refine foldK_par b (S := Unit) (S' := List UInt8) (fun i _ s => ∀ (_ : 0 < i) (hi : i ≤ b.length), s = (b[i - 1]'(by omega)).Name) ?_ (fun _ _ _ => rfl) _ 0 rfl (Nat.zero_le _) _ _ (fun h => by omega)
      intro i hi s s' K K' hI hK
      obtain ⟨e1, e, e2⟩ := check_ok (hb _ (List.getElem_mem hi)) hB
      rw [← e1, e2, bind_some2, bind_some2]
      cases decide (e = 0) with
      | false => rw [Bool.not_false, cond_true, cond_true]
      | true =>
        rw [Bool.not_true, cond_false, cond_false]
        by_cases hp : 0 < i
        · obtain ⟨p1, p2⟩ := inP hp hi (by omega)
          have hlt : i - 1 < b.length := by omega
          rw [decide_eq_true (by omega : (i : Int) > 0), p1, p2, cond_true, cond_true, cond_true, getD_lt _ hlt, hI hp (by omega), bl_total]
          cases bytesLess b[i].Name b[i - 1].Name || b[i].Name == b[i - 1].Name with
          | true => rw [cond_true, cond_true]
          | false => rw [cond_false, cond_false]; exact hK _ _ fun _ _ => rfl
        · rw [decide_eq_false (by omega : ¬ (i : Int) > 0), cond_false, cond_false]
          exact hK _ _ fun _ _ => rfl
    · refine foldK_case b (S := Unit) (fun _ _ => True) (fun o => ∃ e, o = some e) ?_ (fun _ _ => ⟨0, rfl⟩) _ 0 rfl (Nat.zero_le _) _ trivial
      intro i hi s _
      obtain ⟨e1, e, e2⟩ := check_ok (hb _ (List.getElem_mem hi)) hB
      rw [e2]
      simp only [bind_some2]
      cases decide (e = 0) with
      | false => exact .inl ⟨some e, ⟨e, rfl⟩, fun _ => by rw [Bool.not_false, cond_true]⟩
      | true =>
        by_cases hp : 0 < i
        · obtain ⟨p1, p2⟩ := inP hp hi (by omega)
          have hlt : i - 1 < b.length := by omega
          rw [decide_eq_true (by omega : (i : Int) > 0), p1, p2, getD_lt _ hlt]
          cases bytesLess b[i - 1].Name b[i].Name with
          | true => exact .inr ⟨(), trivial, fun _ => by rw [Bool.not_true, cond_false, cond_true, cond_true, cond_false]⟩
          | false => exact .inl ⟨some 9, ⟨9, rfl⟩, fun _ => by rw [Bool.not_true, cond_false, cond_true, cond_true, Bool.not_false, cond_true]⟩
        · rw [decide_eq_false (by omega : ¬ (i : Int) > 0)]
          exact .inr ⟨(), trivial, fun _ => by rw [Bool.not_true, cond_false, cond_false]⟩

def fullT (k : Int) : ApiType := bif decide (k = 1) then ApiType.mk k [] 0 1 [] [] else bif decide (k = 2) then ApiType.mk k [] (-9007199254740992) 9007199254740992 [] [] else bif decide (k = 4) then ApiType.mk k [] 0 4194304 [] [] else bif decide (k = 5) then ApiType.mk k [] 0 0 [46, 42] [] else ApiType.mk k [] 0 0 [] []
theorem full_ok (n : Nat) (k : Int) : rel_Full n k = some (fullT k) := by
  rw [rel_Full_eq]
  unfold fullT
  cases decide (k = 1) <;> cases decide (k = 2) <;> cases decide (k = 4) <;> cases decide (k = 5) <;> rfl
theorem type_ok (n : Nat) (r : Rel) (hl : r.Cols.length < 4294967296) (hn : r.Cols.length < n) : rel_Type n r = some (ApiType.mk 6 [] 0 0 [] (r.Cols.map fun c => Part.mk c.Name (fullT c.Kind))) := by
  have f := rel_Type_l0_fold n r.Cols (ApiType.mk 0 [] 0 0 [] []) 6 [] 0 0 [] [] (by omega) n 0 (Nat.zero_le _) (by omega)
  rw [show ((0 : Nat) : Int) = 0 from rfl] at f
  rw [rel_Type_eq, f, List.drop_zero]
  have key : ∀ (l : List Col) (i : Nat) (s : List Part), s.length + l.length < 4294967296 → foldK (S := (List Part)) (fun i (a : Col) s K => (Option.bind (rel_Full n (a.Kind)) fun r1 => (bif (decide ((List.length s) = List.length s) && decide (List.length s + List.length ([(Part.mk (a.Name) r1)] : List Part) ≤ 4294967296)) then (K (s ++ [(Part.mk (a.Name) r1)])) else none))) (fun s => (some (ApiType.mk 6 [] 0 0 [] s))) l i s = some (ApiType.mk 6 [] 0 0 [] (s ++ l.map fun c => Part.mk c.Name (fullT c.Kind))) := by
    intro l
    induction l with
    | nil => intro i s _; simp [foldK]
    | cons c l ih =>
      intro i s hs
      rw [foldK_cons, full_ok, bind_some2, appOK s _ (by simp at hs; omega), cond_true]
      dsimp only
      rw [ih (i + 1) _ (by simp at hs ⊢; omega)]
      simp
  exact key r.Cols 0 [] (by simpa using hl)
theorem rels_ok (n : Nat) (hn : 5 < n) : law2_rels n = some true := by
  rw [law2_rels_eq, type_ok n _ (by simp) (by simp; omega), bind_some2, rel_Check_eq, rel_head_eq, value_Name_eq]
  rfl

/-! ### What is handed over -/
def bV (g : Nat) (v : ApiValue) : Nat := BulkN E g 1 v
def bF (g : Nat) (f : ApiField) : Nat := BulkN E g 2 f
def bC (g : Nat) (c : Col) : Nat := BulkN E g 0 c
def bR (g : Nat) (r : Rel) : Nat := BulkN E g 3 r
theorem bV_eq (g : Nat) (v : ApiValue) : bV (g + 1) v = 1 + (1 + ((v.S.length + 1) + ((v.Fields.map (bF g)).sum + 1))) := rfl
theorem bF_eq (g : Nat) (f : ApiField) : bF (g + 1) f = (f.Name.length + 1) + bV g f.Val := rfl
theorem bC_eq (g : Nat) (c : Col) : bC (g + 1) c = (c.Name.length + 1) + 1 := rfl
theorem bR_eq (g : Nat) (r : Rel) : bR (g + 1) r = (r.Name.length + 1) + (((r.Cols.map (bC g)).sum + 1) + (((r.Key.map fun s : List UInt8 => s.length + 1).sum + 1) + ((r.Rows.map fun l : List ApiValue => (l.map (bV g)).sum + 1).sum + 1))) := rfl
theorem vw_bulk : ∀ (k : Nat) (v : ApiValue) (g : Nat), vw v ≤ k → 2 * k ≤ g → vw v + 1 ≤ bV g v
  | 0, v, g, h, _ => by have := vw_eq v; omega
  | k + 1, v, g, h, hg => by
    obtain ⟨g, rfl⟩ : ∃ e, g = e + 2 := ⟨g - 2, by omega⟩
    have key : ∀ l : List ApiField, (∀ f ∈ l, vw f.Val ≤ k) → fw l ≤ (l.map (bF (g + 1))).sum := by
      intro l
      induction l with
      | nil => intro _; simp [fw]
      | cons f l ih =>
        intro hl
        have := ih fun x hx => hl x (by simp [hx])
        have := vw_bulk k f.Val g (hl f (by simp)) (by omega)
        have := gw_eq f
        have e3 := bF_eq g f
        rw [List.map_cons, List.sum_cons]
        simp only [fw]
        omega
    have := key v.Fields fun f hf => by have := (vw_lt hf).1; omega
    have := vw_eq v
    have : bV (g + 2) v = _ := bV_eq (g + 1) v
    omega
theorem lw_le {f : ApiValue → Nat} : ∀ l : List ApiValue, (∀ v ∈ l, vw v + 1 ≤ f v) → lw l ≤ (l.map f).sum + 1
  | [], _ => by rw [lw_nil]; simp
  | v :: l, h => by
    have := lw_le l fun x hx => h x (by simp [hx])
    have := h v (by simp)
    rw [lw_cons, List.map_cons, List.sum_cons]
    omega
theorem row_bulk {l : List ApiValue} {N : Nat} (h : ∀ g, (l.map (bV g)).sum + 1 ≤ N) : lw l ≤ N := by
  have h := h (2 * lw l)
  have := lw_le (f := bV (2 * lw l)) l fun v hv => vw_bulk (lw l) v _ (by have := lw_mem hv; omega) (Nat.le_refl _)
  omega
theorem rel_bulk {r : Rel} {N : Nat} (h : ∀ g, bR g r ≤ N) : RB N r := by
  have h2 := h 2
  rw [bR_eq] at h2
  have k1 := sum_gm (bC 1) r.Cols fun c _ => by rw [bC_eq]; omega
  have k2 := sum_gm (fun s : List UInt8 => s.length + 1) r.Key fun s _ => by omega
  have k3 := sum_gm (fun l : List ApiValue => (l.map (bV 1)).sum + 1) r.Rows fun s _ => by omega
  refine ⟨by omega, by omega, fun c hc => ?_, by omega, by omega, fun l hl => ?_⟩
  · have : bC 1 c ≤ (r.Cols.map (bC 1)).sum := mem_sum (List.mem_map.2 ⟨c, hc, rfl⟩)
    rw [bC_eq] at this
    omega
  · refine row_bulk fun g => ?_
    have h3 := h (g + 1)
    rw [bR_eq] at h3
    have : (l.map (bV g)).sum + 1 ≤ (r.Rows.map fun l : List ApiValue => (l.map (bV g)).sum + 1).sum := mem_sum (List.mem_map.2 ⟨l, hl, rfl⟩)
    omega
theorem base_bulk {b : List Rel} {N : Nat} (h : ∀ g, (b.map (bR g)).sum + 1 ≤ N) : b.length ≤ N ∧ ∀ r ∈ b, RB N r := by
  refine ⟨?_, fun r hr => rel_bulk fun g => ?_⟩
  · have := h 1
    have k := sum_gm (bR 1) b fun r _ => by rw [bR_eq]; omega
    omega
  · have h1 := h g
    have : bR g r ≤ (b.map (bR g)).sum := mem_sum (List.mem_map.2 ⟨r, hr, rfl⟩)
    omega
theorem big_ex : ∃ n, Big 1048576 n := by
  obtain ⟨n, hn⟩ : ∃ n : Nat, 3 * (1048576 * (1048576 + 1) + 1) + 3 * 1048576 + 100 < n := ⟨_, Nat.lt_succ_self _⟩
  exact ⟨n, by decide, hn, by decide⟩

/-! ### Copies -/
theorem clone_ok (n : Nat) (l : List ApiField) (h : l.length < 4294967296) : slices_Clone_Field_nn n l = some l := by
  rw [slices_Clone_Field_nn_eq, decide_eq_true (by simp : 0 = List.length ([] : List ApiField)), decide_eq_true (by simp; omega : List.length ([] : List ApiField) + List.length l ≤ 4294967296), decide_eq_true rfl]
  rfl
theorem copy_ok (n : Nat) : ∀ (k : Nat) (v : ApiValue) (d : Nat), vw v ≤ k → vw v ≤ d → vw v < n → vw v < 4294967296 → value_Copy d n v = some v
  | 0, v, d, h, _, _, _ => by have := vw_eq v; omega
  | k + 1, v, d, h, hd, hn, hm => by
    have hv0 := vw_eq v
    have hl := (vw_len v).1
    obtain ⟨d, rfl⟩ : ∃ e, d = e + 1 := ⟨d - 1, by omega⟩
    rw [value_Copy_eq, clone_ok n _ (by omega), bind_some2]
    have f := value_Copy_l0_fold d n v.Kind v.N v.S v.Fields.length (ApiValue.mk 0 0 [] []) v.Fields.length v.Fields (by omega) n 0 (Nat.zero_le _) (by omega)
    rw [show ((0 : Nat) : Int) = 0 from rfl] at f
    rw [f]
    have key : ∀ (c i : Nat), c + i = v.Fields.length → foldN (S := (List ApiField)) (fun i s K => (bif (decide (0 ≤ (i : Int)) && decide ((i : Int) < (v.Fields.length : Int))) then (bif (decide ((0 + (Int.toNat (i : Int))) < List.length s)) then (Option.bind (value_Copy d n ((List.getD s (0 + (Int.toNat (i : Int))) (ApiField.mk [] (ApiValue.mk 0 0 [] []))).Val)) fun r2 => (bif (decide (0 ≤ (i : Int)) && decide ((i : Int) < (v.Fields.length : Int))) then (bif (decide ((0 + (Int.toNat (i : Int))) < List.length s)) then (K (List.set s (0 + (Int.toNat (i : Int))) (ApiField.mk ((List.getD s (0 + (Int.toNat (i : Int))) (ApiField.mk [] (ApiValue.mk 0 0 [] []))).Name) r2))) else none) else none)) else none) else none)) (fun s => (bif (((decide (0 + v.Fields.length ≤ List.length s)) && true) && true) then (some (ApiValue.mk v.Kind v.N v.S (List.take v.Fields.length s))) else none)) c i v.Fields = some v := by
      intro c
      induction c with
      | zero =>
        intro i hc
        rw [foldN, decide_eq_true (by omega : 0 + v.Fields.length ≤ v.Fields.length), List.take_length]
        show some (ApiValue.mk v.Kind v.N v.S v.Fields) = some v
        cases v
        rfl
      | succ c ih =>
        intro i hc
        have hlt : i < v.Fields.length := by omega
        have hv := vw_lt (List.getElem_mem hlt)
        rw [foldN, inR hlt, show Int.toNat (i : Int) = i from rfl, Nat.zero_add i, decide_eq_true hlt, cond_true, cond_true, getD_lt _ hlt, copy_ok n k _ d (by omega) (by omega) (by omega) (by omega), bind_some2, cond_true, cond_true]
        have : v.Fields.set i (ApiField.mk v.Fields[i].Name v.Fields[i].Val) = v.Fields := by
          rw [show ApiField.mk v.Fields[i].Name v.Fields[i].Val = v.Fields[i] by cases v.Fields[i]; rfl]
          exact List.set_getElem_self hlt
        rw [this]
        exact ih (i + 1) (by omega)
    exact key _ 0 (by omega)


/-! ### Copies of relations -/
theorem cloneC_ok (n : Nat) (l : List Col) (h : l.length < 4294967296) : slices_Clone_Col_nn n l = some l := by
  rw [slices_Clone_Col_nn_eq, decide_eq_true (by simp : 0 = List.length ([] : List Col)), decide_eq_true (by simp; omega : List.length ([] : List Col) + List.length l ≤ 4294967296), decide_eq_true rfl]
  rfl
theorem cloneS_ok (n : Nat) (l : List (List UInt8)) (h : l.length < 4294967296) : slices_Clone_string_nn n l = some l := by
  rw [slices_Clone_string_nn_eq, decide_eq_true (by simp : 0 = List.length ([] : List (List UInt8))), decide_eq_true (by simp; omega : List.length ([] : List (List UInt8)) + List.length l ≤ 4294967296), decide_eq_true rfl]
  rfl
theorem copy2_ok {n : Nat} {l : List ApiValue} (hn : lw l < n) (hm : lw l < 4294967296) (m0 : Nat) (v3 v8 : List (List ApiValue)) (h3 : v3.length < 4294967296) (v9 v10 : Int) (w : List ApiValue) (hw : w.length = l.length) :
    rel_copies_l2 n m0 n v3 l l.length v8 v9 v10 (l.length : Int) 0 w = rel_copies_l0 n m0 (v3 ++ [l]) v8 v9 (IntKind.wrap .i64 (v10 + 1)) := by
  have hl := lw_len l
  have f := rel_copies_l2_fold n m0 v3 l l.length v8 v9 v10 w (by omega) n 0 (Nat.zero_le _) (by omega)
  rw [show ((0 : Nat) : Int) = 0 from rfl] at f
  rw [f]
  have key : ∀ (c i : Nat) (s : List ApiValue) (fin : List ApiValue → Option (List (List ApiValue))), c = l.length - i → i ≤ l.length → s.length = l.length → (∀ j (hj : j < l.length) (hs : j < s.length), j < i → s[j] = l[j]) → foldK (S := (List ApiValue)) (fun i (a : ApiValue) s K => (Option.bind (value_Copy n n a) fun r1 => (bif (decide (0 ≤ (i : Int)) && decide ((i : Int) < (l.length : Int))) then (bif (decide ((0 + (Int.toNat (i : Int))) < List.length s)) then (K (List.set s (0 + (Int.toNat (i : Int))) r1)) else none) else none))) fin (List.drop i l) i s = fin l := by
    intro c
    induction c with
    | zero =>
      intro i s fin hc hi hs hp
      rw [List.drop_eq_nil_of_le (by omega), foldK_nil]
      have : s = l := List.ext_getElem hs fun j h1 h2 => hp j h2 h1 (by omega)
      rw [this]
    | succ c ih =>
      intro i s fin hc hi hs hp
      have hlt : i < l.length := by omega
      have hv := lw_mem (List.getElem_mem hlt)
      rw [List.drop_eq_getElem_cons hlt, foldK_cons, copy_ok n _ _ n (Nat.le_refl _) (by omega) (by omega) (by omega), bind_some2, inR hlt, cond_true, show Int.toNat (i : Int) = i from rfl, Nat.zero_add i, decide_eq_true (by omega : i < s.length), cond_true]
      dsimp only
      refine ih (i + 1) _ fin (by omega) (by omega) (by simp [hs]) fun j hj hs' hji => ?_
      rw [List.getElem_set]
      split
      · rename_i h; subst h; rfl
      · exact hp j hj (by omega) (by omega)
  have hd : l = List.drop 0 l := rfl
  rw [key _ 0 w _ rfl (Nat.zero_le _) hw (fun j _ _ h => by omega), decide_eq_true (by omega : 0 + l.length ≤ l.length), List.take_length, Bool.and_self, cond_true, appOK v3 _ h3, cond_true]
theorem copies_ok {n : Nat} (l : List (List ApiValue)) (hl : l.length < n) (hm : l.length < 4294967296) (hw : ∀ x ∈ l, lw x < n ∧ lw x < 4294967296) : rel_copies n l = some l := by
  rw [rel_copies_eq]
  have key : ∀ (c i m : Nat), c = l.length - i → i ≤ l.length → c < m → rel_copies_l0 n m (l.take i) l (l.length : Int) (i : Int) = some l := by
    intro c
    induction c with
    | zero =>
      intro i m hc hi hm'
      obtain ⟨m, rfl⟩ : ∃ q, m = q + 1 := ⟨m - 1, by omega⟩
      rw [rel_copies_l0_eq, decide_eq_false (by omega), cond_false, List.take_of_length_le (by omega)]
    | succ c ih =>
      intro i m hc hi hm'
      obtain ⟨m, rfl⟩ : ∃ q, m = q + 1 := ⟨m - 1, by omega⟩
      have hlt : i < l.length := by omega
      have hx := hw _ (List.getElem_mem hlt)
      have hll := lw_len l[i]
      rw [rel_copies_l0_eq, inR hlt, decide_eq_true (by omega), cond_true, cond_true, show Int.toNat (i : Int) = i from rfl, getD_lt _ hlt, show Int.toNat (l[i].length : Int) = l[i].length from rfl, decide_eq_true (by omega : (0 : Int) ≤ (l[i].length : Int)), decide_eq_true (Int.le_refl (l[i].length : Int)), decide_eq_true (by omega : (l[i].length : Int) ≤ 4294967296), Bool.and_self, Bool.and_self, cond_true, copy2_ok hx.1 hx.2 m _ _ (by simp; omega) _ _ _ (by simp), i64_succ (by omega)]
      rw [← List.take_succ_eq_append_getElem hlt]
      exact ih (i + 1) m (by omega) (by omega) (by omega)
  exact key _ 0 n rfl (Nat.zero_le _) (by omega)
theorem relcopy_ok {B n : Nat} {r : Rel} (hr : RB B r) (hB : B < 4294967296) (hn : B < n) : rel_Copy n r = some r := by
  have h1 := hr.cl
  have h2 := hr.kl
  have h3 := hr.rl
  rw [rel_Copy_eq, cloneC_ok n _ (by omega), bind_some2, cloneS_ok n _ (by omega), bind_some2, copies_ok _ (by omega) (by omega) fun x hx => by have := hr.rw x hx; omega, bind_some2, decide_eq_true rfl, decide_eq_true rfl]
  rfl

/-! ### The same -/
theorem eqC_refl (n : Nat) (l : List Col) (hn : l.length < n) (hm : l.length < 4294967296) : slices_Equal_Col n l l = some true := by
  rw [slices_Equal_Col_eq, decide_eq_true rfl, Bool.not_true, cond_false]
  have f := slices_Equal_Col_l0_fold n l l (by omega) n 0 (Nat.zero_le _) (by omega)
  rw [show ((0 : Nat) : Int) = 0 from rfl] at f
  rw [f]
  refine foldK_case l (S := Unit) (fun _ _ => True) (fun o => o = some true) ?_ (fun _ _ => rfl) _ 0 rfl (Nat.zero_le _) _ trivial
  intro i hi _ _
  refine .inr ⟨(), trivial, fun K => ?_⟩
  rw [inR hi, cond_true, show Int.toNat (i : Int) = i from rfl, getD_lt _ hi, beq_self_eq_true, beq_self_eq_true, Bool.and_self, Bool.not_true, cond_false]
theorem eqStr_refl (n : Nat) (l : List (List UInt8)) (hn : l.length < n) (hm : l.length < 4294967296) : slices_Equal_string n l l = some true := by
  rw [slices_Equal_string_eq, decide_eq_true rfl, Bool.not_true, cond_false]
  have f := slices_Equal_string_l0_fold n l l (by omega) n 0 (Nat.zero_le _) (by omega)
  rw [show ((0 : Nat) : Int) = 0 from rfl] at f
  rw [f]
  refine foldK_case l (S := Unit) (fun _ _ => True) (fun o => o = some true) ?_ (fun _ _ => rfl) _ 0 rfl (Nat.zero_le _) _ trivial
  intro i hi _ _
  refine .inr ⟨(), trivial, fun K => ?_⟩
  rw [inR hi, cond_true, show Int.toNat (i : Int) = i from rfl, getD_lt _ hi, beq_self_eq_true, Bool.not_true, cond_false]
theorem samerel_refl {B n : Nat} {r : Rel} (hr : RB B r) (hB : B < 4294967296) (hn : 3 * B + 10 < n) : ref2_SameRel n r r = some true := by
  have h1 := hr.cl
  have h2 := hr.kl
  have h3 := hr.rl
  rw [ref2_SameRel_eq, beq_self_eq_true, Bool.not_true, cond_false, eqC_refl n _ (by omega) (by omega), bind_some2, Bool.not_true, cond_false, eqStr_refl n _ (by omega) (by omega), bind_some2, Bool.not_true, cond_false, decide_eq_true rfl, Bool.not_true, cond_false]
  have f := ref2_SameRel_l0_fold n r r r.Rows.length (by omega) n 0 (Nat.zero_le _) (by omega)
  rw [show ((0 : Nat) : Int) = 0 from rfl] at f
  rw [f]
  have key : ∀ (c i : Nat), c + i = r.Rows.length → foldN (S := Unit) (fun i s K => (bif (decide (0 ≤ (i : Int)) && decide ((i : Int) < List.length r.Rows)) then (bif (decide (0 ≤ (i : Int)) && decide ((i : Int) < List.length r.Rows)) then (Option.bind (ref2_Order n (List.getD r.Rows (Int.toNat (i : Int)) []) (List.getD r.Rows (Int.toNat (i : Int)) [])) fun r3 => (bif (!decide (r3 = 0)) then (some false) else (K ()))) else none) else none)) (fun s => (some true)) c i () = some true := by
    intro c
    induction c with
    | zero => intro i _; rfl
    | succ c ih =>
      intro i hc
      have hlt : i < r.Rows.length := by omega
      have hw := hr.rw _ (List.getElem_mem hlt)
      have hl := lw_len r.Rows[i]
      have ha := rcmp_anti r.Rows[i] r.Rows[i]
      rw [foldN, inR hlt, cond_true, cond_true, show Int.toNat (i : Int) = i from rfl, getD_lt _ hlt, order_ok n _ _ (by omega) (by omega) (by omega) (by omega) (by omega), bind_some2, decide_eq_true (by omega : rcmp r.Rows[i] r.Rows[i] = 0), Bool.not_true, cond_false]
      exact ih (i + 1) (by omega)
  exact key _ 0 (by omega)
theorem samebase_refl {B n : Nat} {b : List Rel} (hb : ∀ r ∈ b, RB B r) (hB : B < 4294967296) (hn : 3 * B + 10 < n) (hl : b.length < n) (hm : b.length < 4294967296) : ref2_SameBase n b b = some true := by
  rw [ref2_SameBase_eq, slices_EqualFunc_Rel_by_ref2_SameRel_eq, decide_eq_true rfl, Bool.not_true, cond_false]
  have f := slices_EqualFunc_Rel_by_ref2_SameRel_l0_fold n b b (by omega) n 0 (Nat.zero_le _) (by omega)
  rw [show ((0 : Nat) : Int) = 0 from rfl] at f
  rw [f]
  have h := foldK_case b (S := Unit) (step := fun i (a : Rel) s K => (bif (decide (0 ≤ (i : Int)) && decide ((i : Int) < List.length b)) then (Option.bind (ref2_SameRel n a (List.getD b (Int.toNat (i : Int)) (Rel.mk [] [] [] []))) fun r1 => (bif (!r1) then (some false) else (K ()))) else none)) (fin := fun s => (some true)) (fun _ _ => True) (fun o => o = some true) (by
    intro i hi _ _
    refine .inr ⟨(), trivial, fun K => ?_⟩
    rw [inR hi, cond_true, show Int.toNat (i : Int) = i from rfl, getD_lt _ hi, samerel_refl (hb _ (List.getElem_mem hi)) hB hn, bind_some2, Bool.not_true, cond_false]) (fun _ _ => rfl) _ 0 rfl (Nat.zero_le _) () trivial
  rw [h]
  rfl

/-! ### The order of texts -/
theorem bl_cb : ∀ x y : List UInt8, bytesLess x y = decide (Go.Lib.compareBytes x y < 0) ∧ (x == y) = decide (Go.Lib.compareBytes x y = 0)
  | [], [] => by simp [bytesLess, Go.Lib.compareBytes]
  | [], b :: y => by simp [bytesLess, Go.Lib.compareBytes]
  | a :: x, [] => by simp [bytesLess, Go.Lib.compareBytes]
  | a :: x, b :: y => by
    obtain ⟨h1, h2⟩ := bl_cb x y
    have hc : Go.Lib.compareBytes (a :: x) (b :: y) = if a < b then -1 else if b < a then 1 else Go.Lib.compareBytes x y := rfl
    have hb : bytesLess (a :: x) (b :: y) = (decide (a < b) || (a == b && bytesLess x y)) := rfl
    rcases Nat.lt_trichotomy a.toNat b.toNat with h | h | h
    · have l1 : a < b := UInt8.lt_iff_toNat_lt.2 h
      have l3 : (a :: x == b :: y) = false := by simp only [beq_eq_false_iff_ne, ne_eq, List.cons.injEq, not_and]; intro e; rw [e] at h; omega
      have e : Go.Lib.compareBytes (a :: x) (b :: y) = -1 := by rw [hc, if_pos l1]
      rw [hb, decide_eq_true l1, l3, e]; exact ⟨rfl, rfl⟩
    · have e : a = b := UInt8.toNat_inj.1 h
      subst e
      have l1 : ¬ a < a := by rw [UInt8.lt_iff_toNat_lt]; omega
      have l3 : (a :: x == a :: y) = (x == y) := by simp
      have e : Go.Lib.compareBytes (a :: x) (a :: y) = Go.Lib.compareBytes x y := by rw [hc, if_neg l1, if_neg l1]
      rw [hb, e, decide_eq_false l1, beq_self_eq_true, l3]
      exact ⟨by rw [Bool.false_or, Bool.true_and]; exact h1, h2⟩
    · have l1 : ¬ a < b := by rw [UInt8.lt_iff_toNat_lt]; omega
      have l2 : b < a := UInt8.lt_iff_toNat_lt.2 h
      have l4 : (a == b) = false := by simp only [beq_eq_false_iff_ne, ne_eq]; intro e; rw [e] at h; omega
      have l3 : (a :: x == b :: y) = false := by simp only [beq_eq_false_iff_ne, ne_eq, List.cons.injEq, not_and]; intro e; rw [e] at h; omega
      have e : Go.Lib.compareBytes (a :: x) (b :: y) = 1 := by rw [hc, if_neg l1, if_pos l2]
      rw [hb, decide_eq_false l1, l3, l4, e]; exact ⟨rfl, rfl⟩
def cb (x y : List UInt8) : Int := Go.Lib.compareBytes x y
theorem bl_iff (x y : List UInt8) : bytesLess x y = decide (cb x y < 0) := (bl_cb x y).1
theorem eq_iff (x y : List UInt8) : (x == y) = decide (cb x y = 0) := (bl_cb x y).2
theorem cb_sym (x y : List UInt8) : cb y x = -cb x y := cb_anti x y
theorem cb_tri (x y z : List UInt8) : Tr3 (cb x y) (cb y z) (cb x z) := cb_tr x y z
theorem cb_lt_tr {x y z : List UInt8} (h : cb x y < 0) (h' : cb y z < 0) : cb x z < 0 := by
  obtain ⟨a, b, _⟩ := cb_tri x y z
  have a := a (by omega) (by omega)
  have b := b (by omega) (by omega)
  omega
theorem cb_le_lt {x y z : List UInt8} (h : cb x y ≤ 0) (h' : cb y z < 0) : cb x z < 0 := by
  obtain ⟨a, b, _⟩ := cb_tri x y z
  have a := a (by omega) (by omega)
  have b := b (by omega) (by omega)
  omega
theorem cb_lt_le {x y z : List UInt8} (h : cb x y < 0) (h' : cb y z ≤ 0) : cb x z < 0 := by
  obtain ⟨a, b, _⟩ := cb_tri x y z
  have a := a (by omega) (by omega)
  have b := b (by omega) (by omega)
  omega
theorem cb_refl (x : List UInt8) : cb x x = 0 := by have := cb_sym x x; omega
/-- The middle of two places. -/
theorem mid_ok {lo hi : Nat} (h : lo + hi < 4611686018427387904) : IntKind.wrap .i64 (shr .u64 (IntKind.wrap .u64 (IntKind.wrap .i64 ((lo : Int) + (hi : Int)))) 1) = (((lo + hi) / 2 : Nat) : Int) := by
  have e1 : IntKind.wrap .i64 ((lo : Int) + (hi : Int)) = ((lo + hi : Nat) : Int) := by rw [w64 (by omega) (by omega)]; omega
  have e2 : IntKind.wrap .u64 ((lo + hi : Nat) : Int) = ((lo + hi : Nat) : Int) := by
    show (((lo + hi : Nat) : Int) % 18446744073709551616) = _
    exact Int.emod_eq_of_lt (by omega) (by omega)
  have e3 : shr .u64 ((lo + hi : Nat) : Int) 1 = (((lo + hi) / 2 : Nat) : Int) := by
    show (((lo + hi : Nat) : Int)).fdiv (2 ^ 1) = _
    rw [Int.fdiv_eq_ediv_of_nonneg _ (by decide)]
    show ((lo + hi : Nat) : Int) / 2 = _
    omega
  rw [e1, e2, e3, w64 (by omega) (by omega)]

/-! ### Where a name stands -/
theorem cmpS_ok (n : Nat) (x y : List UInt8) : ∃ z, cmp_Compare_string n x y = some z ∧ (z < 0 ↔ cb x y < 0) ∧ (z = 0 ↔ cb x y = 0) := by
  have e : ∀ s : List UInt8, cmp_isNaN_string n s = some false := fun s => by rw [cmp_isNaN_string_eq, beq_self_eq_true]; rfl
  rw [cmp_Compare_string_eq, e, e, bind_some2, bind_some2, cond_false, cond_false, bl_iff, eq_iff]
  by_cases h : cb x y < 0
  · rw [decide_eq_true h]; exact ⟨-1, rfl, by omega, by omega⟩
  · rw [decide_eq_false h]
    by_cases h0 : cb x y = 0
    · rw [decide_eq_true h0]; exact ⟨0, rfl, by omega, by omega⟩
    · rw [decide_eq_false h0]; exact ⟨1, rfl, by omega, by omega⟩
def Sorted (b : List Rel) : Prop := b.Pairwise fun x y => cb x.Name y.Name < 0
theorem base0 {B n : Nat} {b : List Rel} (hl : b.length ≤ B) (hb : ∀ r ∈ b, RB B r) (hB : Big B n) (h : rel_CheckBase n b = some 0) : Sorted b ∧ b.length ≤ 12 := by
  have hb1 := hB.b
  have hb2 := hB.n1
  rw [rel_CheckBase_eq] at h
  cases hc : decide ((b.length : Int) > 12) with
  | true => rw [hc, cond_true] at h; cases h
  | false =>
    rw [hc, cond_false] at h
    have f1 := rel_CheckBase_l0_fold n b b (by omega) n 0 (Nat.zero_le _) (by omega)
    rw [show ((0 : Nat) : Int) = 0 from rfl] at f1
    rw [f1] at h
    refine ⟨?_, by have := of_decide_eq_false hc; omega⟩
    have adj : ∀ j, 0 < j → (hj : j < b.length) → cb (b[j - 1]'(by omega)).Name b[j].Name < 0 := by
      revert h
      refine foldK_case b (S := Unit) (fun i _ => ∀ j, 0 < j → (hj : j < b.length) → j < i → cb (b[j - 1]'(by omega)).Name b[j].Name < 0) (fun o => o = some 0 → ∀ j, 0 < j → (hj : j < b.length) → cb (b[j - 1]'(by omega)).Name b[j].Name < 0) ?_ (fun _ hI _ j h0 hj => hI j h0 hj hj) _ 0 rfl (Nat.zero_le _) _ (fun j _ _ h => by omega)
      intro i hi s hI
      obtain ⟨e1, e, e2⟩ := check_ok (hb _ (List.getElem_mem hi)) hB
      rw [e2]
      simp only [bind_some2]
      by_cases he : e = 0
      · rw [decide_eq_true he]
        by_cases hp : 0 < i
        · obtain ⟨p1, p2⟩ := inP hp hi (by omega)
          have hlt : i - 1 < b.length := by omega
          rw [decide_eq_true (by omega : (i : Int) > 0), p1, p2, getD_lt _ hlt, bl_iff]
          by_cases hq : cb b[i - 1].Name b[i].Name < 0
          · rw [decide_eq_true hq]
            refine .inr ⟨(), fun j h0 hj hji => ?_, fun _ => by rw [Bool.not_true, cond_false, cond_true, cond_true, cond_false]⟩
            by_cases hj' : j = i
            · subst hj'; exact hq
            · exact hI j h0 hj (by omega)
          · rw [decide_eq_false hq]
            exact .inl ⟨some 9, fun h => (by cases h), fun _ => by rw [Bool.not_true, cond_false, cond_true, cond_true, Bool.not_false, cond_true]⟩
        · rw [decide_eq_false (by omega : ¬ (i : Int) > 0)]
          exact .inr ⟨(), fun j h0 hj hji => by omega, fun _ => by rw [Bool.not_true, cond_false, cond_false]⟩
      · rw [decide_eq_false he]
        exact .inl ⟨some e, fun h => absurd (Option.some.inj h) he, fun _ => by rw [Bool.not_false, cond_true]⟩
    unfold Sorted
    rw [List.pairwise_iff_getElem]
    have key : ∀ (k i : Nat) (hk : i + k + 1 < b.length), cb (b[i]'(by omega)).Name (b[i + k + 1]'hk).Name < 0 := by
      intro k
      induction k with
      | zero => intro i hk; exact adj (i + 1) (by omega) hk
      | succ k ih => intro i hk; exact cb_lt_tr (ih i (by omega)) (adj (i + k + 2) (by omega) hk)
    intro i j hi hj hij
    obtain ⟨k, rfl⟩ : ∃ k, j = i + k + 1 := ⟨j - i - 1, by omega⟩
    exact key k i hj
/-- The first place that isn't less. -/
def pos (b : List Rel) (t : List UInt8) : Nat := b.findIdx fun r => decide (0 ≤ cb r.Name t)
theorem pos_lt {b : List Rel} {t : List UInt8} {j : Nat} (hj : j < b.length) (h : j < pos b t) : cb b[j].Name t < 0 := by
  have := List.not_of_lt_findIdx h
  have := of_decide_eq_false (by simpa using this : decide (0 ≤ cb b[j].Name t) = false)
  omega
theorem pos_ge {b : List Rel} (hs : Sorted b) {t : List UInt8} {j : Nat} (hj : j < b.length) (h : pos b t ≤ j) : 0 ≤ cb b[j].Name t ∧ (pos b t < j → 0 < cb b[j].Name t) := by
  have hp : pos b t < b.length := by omega
  have hp' : b.findIdx (fun r => decide (0 ≤ cb r.Name t)) < b.length := hp
  have h0 := List.findIdx_getElem (w := hp')
  have h0 := of_decide_eq_true h0
  have h0 : 0 ≤ cb (b[pos b t]'hp).Name t := h0
  by_cases he : pos b t = j
  · subst he
    exact ⟨h0, fun h => absurd h (Nat.lt_irrefl _)⟩
  · unfold Sorted at hs
    rw [List.pairwise_iff_getElem] at hs
    have h1 := hs (pos b t) j hp hj (by omega)
    have h2 := cb_sym (b[pos b t]'hp).Name t
    have h3 := cb_sym b[j].Name t
    have h4 := cb_le_lt (x := t) (y := (b[pos b t]'hp).Name) (z := b[j].Name) (by omega) h1
    exact ⟨by omega, fun _ => by omega⟩
theorem pos_le (b : List Rel) (t : List UInt8) : pos b t ≤ b.length := List.findIdx_le_length
def there (b : List Rel) (t : List UInt8) : Bool := b.any fun r => r.Name == t
theorem there_at {b : List Rel} (hs : Sorted b) {t : List UInt8} (hp : pos b t < b.length) : there b t = decide (cb b[pos b t].Name t = 0) := by
  unfold there
  by_cases h : cb b[pos b t].Name t = 0
  · rw [decide_eq_true h, List.any_eq_true]
    exact ⟨_, List.getElem_mem hp, by rw [eq_iff]; exact decide_eq_true h⟩
  · rw [decide_eq_false h, List.any_eq_false]
    intro x hx
    obtain ⟨j, hj, rfl⟩ := List.getElem_of_mem hx
    rw [eq_iff]
    intro hz
    have hz := of_decide_eq_true hz
    rcases Nat.lt_trichotomy j (pos b t) with h1 | h1 | h1
    · have := pos_lt hj h1; omega
    · subst h1; exact h hz
    · have := (pos_ge hs hj (by omega)).2 h1; omega
theorem there_end {b : List Rel} {t : List UInt8} (hp : ¬ pos b t < b.length) : there b t = false := by
  unfold there
  rw [List.any_eq_false]
  intro x hx
  obtain ⟨j, hj, rfl⟩ := List.getElem_of_mem hx
  rw [eq_iff]
  intro hz
  have hz := of_decide_eq_true hz
  have := pos_lt (b := b) (t := t) hj (by omega)
  omega
theorem search_ok (n : Nat) {b : List Rel} (hs : Sorted b) (t : List UInt8) (hl : b.length < 1000000) (hn : b.length < n) : slices_BinarySearchFunc_string_by_rel_Put_1 n b t () = some ((pos b t : Int), there b t) := by
  rw [slices_BinarySearchFunc_string_by_rel_Put_1_eq]
  have key : ∀ (c lo hi m : Nat), hi - lo ≤ c → lo ≤ pos b t → pos b t ≤ hi → hi ≤ b.length → c < m → slices_BinarySearchFunc_string_by_rel_Put_1_l0 n m b t (b.length : Int) (lo : Int) (hi : Int) = some ((pos b t : Int), there b t) := by
    intro c
    induction c with
    | zero =>
      intro lo hi m hc h1 h2 h3 hm
      obtain ⟨m, rfl⟩ : ∃ q, m = q + 1 := ⟨m - 1, by omega⟩
      have e : lo = pos b t := by omega
      subst e
      rw [slices_BinarySearchFunc_string_by_rel_Put_1_l0_eq, decide_eq_false (by omega : ¬ ((pos b t : Nat) : Int) < (hi : Int)), cond_false]
      by_cases hp : pos b t < b.length
      · rw [inR hp, decide_eq_true (by omega : ((pos b t : Nat) : Int) < (b.length : Int)), cond_true, cond_true, show Int.toNat ((pos b t : Nat) : Int) = pos b t from rfl, getD_lt _ hp, rel_Put_1_eq]
        obtain ⟨z, z1, z2, z3⟩ := cmpS_ok n b[pos b t].Name t
        rw [z1, bind_some2, bind_some2, there_at hs hp]
        congr 2
        exact decide_eq_decide.2 z3
      · rw [decide_eq_false (by omega : ¬ ((pos b t : Nat) : Int) < (b.length : Int)), cond_false, there_end hp]
    | succ c ih =>
      intro lo hi m hc h1 h2 h3 hm
      by_cases hlt : lo < hi
      · obtain ⟨m, rfl⟩ : ∃ q, m = q + 1 := ⟨m - 1, by omega⟩
        have hmid : (lo + hi) / 2 < hi ∧ lo ≤ (lo + hi) / 2 := by omega
        have hml : (lo + hi) / 2 < b.length := by omega
        rw [slices_BinarySearchFunc_string_by_rel_Put_1_l0_eq, mid_ok (by omega), inR hml, decide_eq_true (by omega : (lo : Int) < (hi : Int)), show decide (0 ≤ 1) = true from rfl, cond_true, cond_true, cond_true, show Int.toNat (((lo + hi) / 2 : Nat) : Int) = (lo + hi) / 2 from rfl, getD_lt _ hml, rel_Put_1_eq]
        obtain ⟨z, z1, z2, z3⟩ := cmpS_ok n b[(lo + hi) / 2].Name t
        rw [z1, bind_some2, bind_some2]
        by_cases hz : z < 0
        · rw [decide_eq_true hz, cond_true, i64_succ (by omega)]
          refine ih _ _ m (by omega) ?_ h2 h3 (by omega)
          rcases Nat.lt_or_ge ((lo + hi) / 2) (pos b t) with h | h
          · omega
          · have := (pos_ge hs hml h).1
            have := z2.1 hz
            omega
        · rw [decide_eq_false hz, cond_false]
          refine ih _ _ m (by omega) h1 ?_ (by omega) (by omega)
          rcases Nat.lt_or_ge ((lo + hi) / 2) (pos b t) with h | h
          · exact absurd (z2.2 (pos_lt hml h)) hz
          · exact h
      · exact ih lo hi m (by omega) h1 h2 h3 (by omega)
  exact key _ 0 b.length n (Nat.le_refl _) (Nat.zero_le _) (pos_le b t) (Nat.le_refl _) (by omega)

/-! ### Putting -/
/-- What comes of the places from k on. -/
def rest (b : List Rel) (r : Rel) (k : Nat) : List Rel :=
  if k ≤ pos b r.Name then (b.drop k).take (pos b r.Name - k) ++ r :: b.drop (pos b r.Name + bif there b r.Name then 1 else 0) else b.drop k
theorem rest_lt {b : List Rel} {r : Rel} {k : Nat} (hk : k < b.length) (h : k < pos b r.Name) : rest b r k = b[k] :: rest b r (k + 1) := by
  unfold rest
  rw [if_pos (by omega), if_pos (by omega), List.drop_eq_getElem_cons hk, show pos b r.Name - k = (pos b r.Name - (k + 1)) + 1 by omega, List.take_succ_cons]
  rfl
theorem rest_gt {b : List Rel} {r : Rel} {k : Nat} (hk : k < b.length) (h : pos b r.Name < k) : rest b r k = b[k] :: rest b r (k + 1) := by
  unfold rest
  rw [if_neg (by omega), if_neg (by omega), List.drop_eq_getElem_cons hk]
theorem rest_at {b : List Rel} {r : Rel} (hk : pos b r.Name < b.length) : rest b r (pos b r.Name) = if there b r.Name = true then r :: rest b r (pos b r.Name + 1) else r :: b[pos b r.Name] :: rest b r (pos b r.Name + 1) := by
  have e1 : rest b r (pos b r.Name + 1) = b.drop (pos b r.Name + 1) := by unfold rest; rw [if_neg (by omega)]
  have e0 : rest b r (pos b r.Name) = r :: b.drop (pos b r.Name + bif there b r.Name then 1 else 0) := by unfold rest; rw [if_pos (Nat.le_refl _), Nat.sub_self, List.take_zero, List.nil_append]
  rw [e0, e1]
  cases there b r.Name with
  | true => rw [if_pos rfl]; rfl
  | false => rw [if_neg (by simp), cond_false, Nat.add_zero, List.drop_eq_getElem_cons hk]
theorem rest_len (b : List Rel) (r : Rel) : rest b r b.length = if pos b r.Name < b.length then [] else [r] := by
  unfold rest
  have := pos_le b r.Name
  by_cases h : pos b r.Name < b.length
  · rw [if_pos h, if_neg (by omega), List.drop_length]
  · rw [if_neg h, if_pos (by omega), there_end h, cond_false, Nat.add_zero, show pos b r.Name = b.length by omega, List.drop_length, List.take_nil]
    rfl
theorem appT (n : Nat) (h : n + 1 ≤ 4294967296) : (decide True && decide (n + 1 ≤ 4294967296)) = true := by rw [decide_eq_true h]; rfl
theorem put_loop {B n : Nat} {b : List Rel} {r : Rel} (hb : ∀ x ∈ b, RB B x) (hr : RB B r) (hB : B < 4294967296) (hn : B < n) (hl : b.length < 1000) (hln : b.length < n) :
    rel_Put_l0 n n b (pos b r.Name : Int) (there b r.Name) [] b (b.length : Int) 0 r = some (rest b r 0, 0) := by
  have f := rel_Put_l0_fold n b (pos b r.Name : Int) (there b r.Name) b r [] (by omega) n 0 (Nat.zero_le _) (by omega)
  rw [show ((0 : Nat) : Int) = 0 from rfl] at f
  rw [f]
  have cr := relcopy_ok (n := n) hr hB hn
  rw [cr]
  have key : ∀ (c k : Nat) (s : List Rel), c = b.length - k → k ≤ b.length → s.length ≤ 2 * k → foldK (S := (List Rel)) (fun i (a : Rel) s K => (bif (decide ((i : Int) = (pos b r.Name : Int))) then (Option.bind (some r) fun r4 => (bif (decide ((List.length s) = List.length s) && decide (List.length s + List.length ([r4] : List Rel) ≤ 4294967296)) then (bif (!decide ((i : Int) = (pos b r.Name : Int))) then (Option.bind (rel_Copy n a) fun r5 => (bif (decide ((List.length (s ++ [r4])) = List.length (s ++ [r4])) && decide (List.length (s ++ [r4]) + List.length ([r5] : List Rel) ≤ 4294967296)) then (K ((s ++ [r4]) ++ [r5])) else none)) else (bif (!there b r.Name) then (Option.bind (rel_Copy n a) fun r6 => (bif (decide ((List.length (s ++ [r4])) = List.length (s ++ [r4])) && decide (List.length (s ++ [r4]) + List.length ([r6] : List Rel) ≤ 4294967296)) then (K ((s ++ [r4]) ++ [r6])) else none)) else (K (s ++ [r4])))) else none)) else (bif (!decide ((i : Int) = (pos b r.Name : Int))) then (Option.bind (rel_Copy n a) fun r7 => (bif (decide ((List.length s) = List.length s) && decide (List.length s + List.length ([r7] : List Rel) ≤ 4294967296)) then (K (s ++ [r7])) else none)) else (bif (!there b r.Name) then (Option.bind (rel_Copy n a) fun r8 => (bif (decide ((List.length s) = List.length s) && decide (List.length s + List.length ([r8] : List Rel) ≤ 4294967296)) then (K (s ++ [r8])) else none)) else (K s))))) (fun s => (bif (decide ((pos b r.Name : Int) = (List.length b : Int))) then (Option.bind (some r) fun r9 => (bif (decide ((List.length s) = List.length s) && decide (List.length s + List.length ([r9] : List Rel) ≤ 4294967296)) then (some ((s ++ [r9]), (0 : Int))) else none)) else (some (s, 0)))) (List.drop k b) k s = some (s ++ rest b r k, 0) := by
    intro c
    induction c with
    | zero =>
      intro k s hc hk hs
      have := pos_le b r.Name
      rw [List.drop_eq_nil_of_le (by omega), foldK_nil, show k = b.length by omega, rest_len]
      by_cases h : pos b r.Name < b.length
      · rw [if_pos h, decide_eq_false (by omega), cond_false, List.append_nil]
      · rw [if_neg h, decide_eq_true (by omega), cond_true, bind_some2, appOK s _ (by omega), cond_true]
    | succ c ih =>
      intro k s hc hk hs
      have hlt : k < b.length := by omega
      have ca := relcopy_ok (n := n) (hb _ (List.getElem_mem hlt)) hB hn
      rw [List.drop_eq_getElem_cons hlt, foldK_cons, ca]
      rcases Nat.lt_trichotomy k (pos b r.Name) with h | h | h
      · rw [decide_eq_false (by omega : ¬ (k : Int) = (pos b r.Name : Int)), cond_false, Bool.not_false, cond_true, bind_some2, appOK s _ (by omega), cond_true]
        dsimp only
        rw [ih (k + 1) _ (by omega) (by omega) (by simp; omega), rest_lt hlt h, List.append_assoc]
        rfl
      · subst h
        rw [decide_eq_true (rfl : ((pos b r.Name : Nat) : Int) = (pos b r.Name : Int)), cond_true, bind_some2, appOK s _ (by omega), cond_true, Bool.not_true, cond_false, bind_some2, appOK (s ++ [r]) _ (by simp; omega), cond_true, rest_at hlt]
        dsimp only
        rw [ih (pos b r.Name + 1) (s ++ [r]) (by omega) (by omega) (by simp; omega), ih (pos b r.Name + 1) ((s ++ [r]) ++ [b[pos b r.Name]]) (by omega) (by omega) (by simp; omega)]
        cases there b r.Name with
        | true => rw [Bool.not_true, cond_false, if_pos rfl, List.append_assoc]; rfl
        | false => rw [Bool.not_false, cond_true, if_neg (by simp), List.append_assoc, List.append_assoc]; rfl
      · rw [decide_eq_false (by omega : ¬ (k : Int) = (pos b r.Name : Int)), cond_false, Bool.not_false, cond_true, bind_some2, appOK s _ (by omega), cond_true]
        dsimp only
        rw [ih (k + 1) _ (by omega) (by omega) (by simp; omega), rest_gt hlt h, List.append_assoc]
        rfl
  have := key _ 0 [] rfl (Nat.zero_le _) (by simp)
  rw [List.nil_append] at this
  exact this
def wantStep (r : Rel) (i : Nat) (a : Rel) (s : List Rel × Bool) (K : List Rel × Bool → Option Bool) : Option Bool := (bif (!s.2) then (bif (!bytesLess (a.Name) r.Name) then (bif (decide ((List.length s.1) = List.length s.1) && decide (List.length s.1 + List.length ([r] : List Rel) ≤ 4294967296)) then (bif (!((a.Name) == r.Name)) then (bif (decide ((List.length (s.1 ++ [r])) = List.length (s.1 ++ [r])) && decide (List.length (s.1 ++ [r]) + List.length ([a] : List Rel) ≤ 4294967296)) then (K (((s.1 ++ [r]) ++ [a]), true)) else none) else (K ((s.1 ++ [r]), true))) else none) else (bif (!((a.Name) == r.Name)) then (bif (decide ((List.length s.1) = List.length s.1) && decide (List.length s.1 + List.length ([a] : List Rel) ≤ 4294967296)) then (K ((s.1 ++ [a]), s.2)) else none) else (K (s.1, s.2)))) else (bif (!((a.Name) == r.Name)) then (bif (decide ((List.length s.1) = List.length s.1) && decide (List.length s.1 + List.length ([a] : List Rel) ≤ 4294967296)) then (K ((s.1 ++ [a]), s.2)) else none) else (K (s.1, s.2))))
noncomputable def wantFin (n : Nat) (v5 : List Rel) (v6 : Int) (r : Rel) (s : List Rel × Bool) : Option Bool := (bif (!s.2) then (bif (decide ((List.length s.1) = List.length s.1) && decide (List.length s.1 + List.length ([r] : List Rel) ≤ 4294967296)) then (bif (decide (v6 = 0)) then (Option.bind (ref2_SameBase n v5 (s.1 ++ [r])) fun r8 => (some r8)) else (some false)) else none) else (bif (decide (v6 = 0)) then (Option.bind (ref2_SameBase n v5 s.1) fun r9 => (some r9)) else (some false)))
theorem want_loop {n : Nat} {b : List Rel} (hs : Sorted b) {r : Rel} (hl : b.length < 1000) (hln : b.length < n) (v5 : List Rel) (v6 : Int) :
    law2_RelPuts_l0 n n v5 v6 [] false b (b.length : Int) 0 r = bif decide (v6 = 0) then (Option.bind (ref2_SameBase n v5 (rest b r 0)) fun r8 => some r8) else some false := by
  have f := law2_RelPuts_l0_fold n v5 v6 b r [] false (by omega) n 0 (Nat.zero_le _) (by omega)
  rw [show ((0 : Nat) : Int) = 0 from rfl] at f
  rw [f]
  have key : ∀ (c k : Nat) (s : List Rel), c = b.length - k → k ≤ b.length → s.length ≤ 2 * k → foldK (S := (List Rel) × Bool) (wantStep r) (wantFin n v5 v6 r) (List.drop k b) k (s, decide (pos b r.Name < k)) = bif decide (v6 = 0) then (Option.bind (ref2_SameBase n v5 (s ++ rest b r k)) fun r8 => some r8) else some false := by
    intro c
    induction c with
    | zero =>
      intro k s hc hk hs'
      have := pos_le b r.Name
      rw [List.drop_eq_nil_of_le (by omega), foldK_nil, wantFin, show k = b.length by omega, rest_len]
      dsimp only
      by_cases h : pos b r.Name < b.length
      · rw [if_pos h, decide_eq_true h, Bool.not_true, cond_false, List.append_nil]
      · rw [if_neg h, decide_eq_false h, Bool.not_false, cond_true, appOK s _ (by omega), cond_true]
    | succ c ih =>
      intro k s hc hk hs'
      have hlt : k < b.length := by omega
      rw [List.drop_eq_getElem_cons hlt, foldK_cons, wantStep]
      dsimp only
      rw [bl_iff, eq_iff, appOK s r (by omega), appOK s b[k] (by omega), appOK (s ++ [r]) b[k] (by simp; omega)]
      simp only [cond_true]
      rcases Nat.lt_trichotomy k (pos b r.Name) with h | h | h
      · have h1 := pos_lt hlt h
        rw [decide_eq_false (by omega : ¬ pos b r.Name < k), decide_eq_true h1, decide_eq_false (by omega : ¬ cb b[k].Name r.Name = 0), Bool.not_false, Bool.not_true, cond_true, cond_false, cond_true]
        have := ih (k + 1) (s ++ [b[k]]) (by omega) (by omega) (by simp; omega)
        rw [decide_eq_false (by omega : ¬ pos b r.Name < k + 1)] at this
        rw [this, rest_lt hlt h, List.append_assoc]
        rfl
      · subst h
        have h1 := (pos_ge hs hlt (Nat.le_refl _)).1
        rw [decide_eq_false (by omega : ¬ pos b r.Name < pos b r.Name), decide_eq_false (by omega : ¬ cb b[pos b r.Name].Name r.Name < 0), Bool.not_false, cond_true, cond_true, rest_at hlt, there_at hs hlt]
        by_cases h0 : cb b[pos b r.Name].Name r.Name = 0
        · rw [decide_eq_true h0, Bool.not_true, cond_false, if_pos rfl]
          have := ih (pos b r.Name + 1) (s ++ [r]) (by omega) (by omega) (by simp; omega)
          rw [decide_eq_true (by omega : pos b r.Name < pos b r.Name + 1)] at this
          rw [this, List.append_assoc]
          rfl
        · rw [decide_eq_false h0, Bool.not_false, cond_true, if_neg (by simp)]
          have := ih (pos b r.Name + 1) ((s ++ [r]) ++ [b[pos b r.Name]]) (by omega) (by omega) (by simp; omega)
          rw [decide_eq_true (by omega : pos b r.Name < pos b r.Name + 1)] at this
          rw [this, List.append_assoc, List.append_assoc]
          rfl
      · have h1 := (pos_ge hs hlt (by omega)).2 h
        rw [decide_eq_true h, decide_eq_false (by omega : ¬ cb b[k].Name r.Name = 0), Bool.not_true, Bool.not_false, cond_false, cond_true]
        have := ih (k + 1) (s ++ [b[k]]) (by omega) (by omega) (by simp; omega)
        rw [decide_eq_true (by omega : pos b r.Name < k + 1)] at this
        rw [this, rest_gt hlt h, List.append_assoc]
        rfl
  have := key _ 0 [] rfl (Nat.zero_le _) (by simp)
  rw [decide_eq_false (by omega : ¬ pos b r.Name < 0), List.nil_append] at this
  exact this
theorem rest_mem {b : List Rel} {r x : Rel} (h : x ∈ rest b r 0) : x ∈ b ∨ x = r := by
  unfold rest at h
  split at h
  · rcases List.mem_append.1 h with h | h
    · exact .inl (List.mem_of_mem_drop (List.mem_of_mem_take h))
    · rcases List.mem_cons.1 h with h | h
      · exact .inr h
      · exact .inl (List.mem_of_mem_drop h)
  · exact .inl (List.mem_of_mem_drop h)
theorem rest_size (b : List Rel) (r : Rel) : (rest b r 0).length ≤ 2 * b.length + 1 := by
  unfold rest
  split
  · simp only [List.length_append, List.length_take, List.length_drop, List.length_cons]; omega
  · simp only [List.length_drop]; omega
theorem hasn_ok (n : Nat) (b : List Rel) (r : Rel) (hl : b.length < 9223372036854775807) (hn : b.length < n) : slices_ContainsFunc_Rel_by_law2_RelPuts_1 n b (r, ()) = some (there b r.Name) := by
  have h := slices_IndexFunc_Rel_by_law2_RelPuts_1_l0_fold n b r hl n 0 (Nat.zero_le _) (by omega)
  rw [show ((0 : Nat) : Int) = 0 from rfl] at h
  simp only [law2_RelPuts_1_eq, bind_some2] at h
  rw [slices_ContainsFunc_Rel_by_law2_RelPuts_1_eq, slices_IndexFunc_Rel_by_law2_RelPuts_1_eq, h, List.drop_zero, foldK_ix fun a : Rel => a.Name == r.Name, bind_some2, ixI_pos]
  rfl
theorem law_ok (x0 : List Rel) (x1 : Rel) (h0 : ∀ g, Fv.Good E g (.sl (.nm 3)) x0) (h1 : ∀ g, Fv.Good E g (.nm 3) x1) (hb : ∀ g, Bulk E g (.sl (.nm 3)) x0 + Bulk E g (.nm 3) x1 ≤ 1048576) : ∃ n, law2_RelPuts n x0 x1 = some true := by
  obtain ⟨n, hB⟩ := big_ex
  refine ⟨n, ?_⟩
  have hb : ∀ g, ((x0.map (bR g)).sum + 1) + bR g x1 ≤ 1048576 := hb
  obtain ⟨k1, k2⟩ := base_bulk (b := x0) (N := 1048576) fun g => by have := hb g; omega
  have hr : RB 1048576 x1 := rel_bulk fun g => by have := hb g; omega
  have hn := hB.n1
  obtain ⟨a1, e1, a2⟩ := base_ok k1 k2 hB
  obtain ⟨c1, e2, c2⟩ := check_ok hr hB
  have rl := rels_ok n (by omega)
  have hh := hasn_ok n x0 x1 (by omega) (by omega)
  rw [law2_RelPuts_eq, rel_Put_eq, ← a1, ← c1, a2, c2, rl, hh]
  simp only [bind_some2, Bool.not_true, cond_false, cond_true]
  by_cases z1 : e1 = 0
  · subst z1
    obtain ⟨hs, hl⟩ := base0 k1 k2 hB a2
    rw [decide_eq_true (rfl : (0 : Int) = 0)]
    simp only [Bool.not_true, cond_false, cond_true]
    by_cases z2 : e2 = 0
    · subst z2
      rw [decide_eq_true (rfl : (0 : Int) = 0), search_ok n hs x1.Name (by omega) (by omega)]
      simp only [bind_some2, Bool.not_true, cond_false, cond_true]
      have hput := put_loop (r := x1) k2 hr (by omega) (by omega) (by omega) (by omega : x0.length < n)
      have hsame := samebase_refl (n := n) (b := rest x0 x1 0) (B := 1048576) (fun x hx => (rest_mem hx).elim (k2 x) fun e => e ▸ hr) (by omega) (by omega) (by have := rest_size x0 x1; omega) (by have := rest_size x0 x1; omega)
      rw [hput]
      have hw : ∀ v6, law2_RelPuts_l0 n n (rest x0 x1 0) v6 [] false x0 (x0.length : Int) 0 x1 = _ := fun v6 => want_loop hs (by omega) (by omega) (rest x0 x1 0) v6
      cases there x0 x1.Name with
      | true =>
        simp only [Bool.not_true, cond_false, bind_some2]
        rw [hw, hsame]
        cases decide ((x0.length : Int) = 12) <;> rfl
      | false =>
        simp only [Bool.not_false, cond_true]
        cases decide ((x0.length : Int) = 12) with
        | true => rfl
        | false =>
          simp only [cond_false, bind_some2]
          rw [hw, hsame]
          rfl
    · rw [decide_eq_false z2]
      simp only [Bool.not_false, cond_true, cond_false, bind_some2, decide_true]
      rfl
  · rw [decide_eq_false z1]
    simp only [Bool.not_false, cond_true, cond_false, bind_some2, decide_true]
    cases decide ((x0.length : Int) = 12) <;> cases there x0 x1.Name <;> rfl
end Go.Proofs.Ytcdnhlcafkomfaa.PRelPuts
