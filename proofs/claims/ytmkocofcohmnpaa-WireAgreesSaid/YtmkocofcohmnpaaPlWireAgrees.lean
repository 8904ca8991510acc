/- The plain law WireAgrees. No condition. -/
import Derived.Test.YtmkocofcohmnpaaFnWireAgrees
set_option linter.unusedVariables false
set_option linter.unusedSimpArgs false
namespace Go.Proofs.Ytmkocofcohmnpaa.PWireAgrees
open Go Go.Proofs Go.Proofs.Ytmkocofcohmnpaa.Fv

theorem name_loop (n : Nat) (l : List Int) (hl : l.length < 9223372036854775807) : ∀ (m k : Nat), k ≤ l.length → l.length - k < m → ∃ b, value_Name_l0 n m l (l.length : Int) (k : Int) = some b := by
  intro m
  induction m with
  | zero => intro k _ h; omega
  | succ m ih =>
    intro k hk hm
    rw [value_Name_l0_eq, dlt]
    by_cases h : k < l.length
    · have hb := ih (k + 1) (by omega) (by omega)
      rw [i64_succ (by omega)]
      simp only [dT h, d0, Bool.and_self, cond_true]
      repeat (first | exact hb | exact ⟨_, rfl⟩ | apply ex_cond)
    · rw [dF h]
      exact ⟨_, rfl⟩
theorem name_ok (n : Nat) (s : List UInt8) (hs : s.length < 9223372036854775807) (hn : s.length < n) : ∃ b, value_Name n s = some b := by
  rw [value_Name_eq]
  cases s with
  | nil => exact ⟨_, rfl⟩
  | cons c s =>
    have h0 : (0 : Int) < (((c :: s).length : Nat) : Int)   := by simp only [List.length_cons]; omega
    have hl : (ints (c :: s)).length = (c :: s).length := by simp [ints]
    have hb := name_loop n (ints (c :: s)) (by omega) n 0 (Nat.zero_le _) (by omega)
    simp only [dT h0, d00, Bool.and_self, cond_true]
    repeat (first | exact hb | exact ⟨_, rfl⟩ | apply ex_cond)

theorem idx_loop (n : Nat) (l : List Int) (v : Int) (hl : l.length < 9223372036854775807) : ∀ (m k : Nat), k ≤ l.length → l.length - k < m → ∃ r : Int, slices_Index_l0 n m l v (l.length : Int) (k : Int) = some r ∧ decide (r ≥ 0) = (l.drop k).any (fun x => decide (v = x)) := by
  intro m
  induction m with
  | zero => intro k _ h; omega
  | succ m ih =>
    intro k hk hm
    rw [slices_Index_l0_eq, dlt]
    by_cases h : k < l.length
    · obtain ⟨r, h1, h2⟩ := ih (k + 1) (by omega) (by omega)
      rw [i64_succ (by omega)]
      simp only [dT h, d0, Bool.and_self, cond_true, Int.toNat_natCast, dlt, getD_lt _ h]
      rw [any_drop h]
      cases hc : decide (v = l[k]) with
      | true => exact ⟨_, rfl, by simp⟩
      | false => exact ⟨r, h1, by rw [h2]; rfl⟩
    · rw [dF h, drop_len h]
      exact ⟨_, rfl, rfl⟩
theorem contains_ok (n : Nat) (v : Int) (hn : 10 < n) : slices_Contains n [1, 2, 5] v = some (decide (v = 1) || (decide (v = 2) || (decide (v = 5) || false))) := by
  rw [slices_Contains_eq, slices_Index_eq]
  obtain ⟨r, h1, h2⟩ := idx_loop n [1, 2, 5] v (by decide) n 0 (by simp) (by simp; omega)
  rw [show ((0 : Nat) : Int) = 0 from rfl] at h1
  rw [h1, bind_some2, h2]
  rfl

theorem twice_loop (n m0 : Nat) (v0 : List Spec) (v3 : Int) (v12 : List Spec) (v13 v14 : Int) (l : List Spec) (s : Spec) (hl : l.length < 9223372036854775807) : ∀ (m k : Nat) (b : Bool), k ≤ l.length → l.length - k < m →
    ref2_SpecsErr_l2 n m0 m v0 v3 b v12 v13 v14 l (l.length : Int) (k : Int) s = ref2_SpecsErr_l2 n m0 1 v0 v3 (b || (l.drop k).any fun x => x.Name == s.Name) v12 v13 v14 l (l.length : Int) (l.length : Int) s := by
  intro m
  induction m with
  | zero => intro k _ _ h; omega
  | succ m ih =>
    intro k b hk hm
    by_cases h : k < l.length
    · rw [ref2_SpecsErr_l2_eq, dlt]
      rw [i64_succ (by omega)]
      simp only [dT h, d0, Bool.and_self, cond_true, Int.toNat_natCast, dlt, getD_lt _ h]
      rw [any_drop h]
      cases b with
      | true => rw [cond_true, ih (k + 1) true (by omega) (by omega)]; simp
      | false => rw [cond_false, ih (k + 1) _ (by omega) (by omega)]; simp
    · have : k = l.length := by omega
      subst this
      rw [drop_len h, ref2_SpecsErr_l2_eq, ref2_SpecsErr_l2_eq, dlt, dF h]
      simp
theorem has_loop (n : Nat) (l : List Spec) (s : Spec) (hl : l.length < 9223372036854775807) : ∀ (m k : Nat), k ≤ l.length → l.length - k < m → ∃ r : Int, slices_IndexFunc_l0 n m l s (l.length : Int) (k : Int) = some r ∧ decide (r ≥ 0) = (l.drop k).any (fun x => x.Name == s.Name) := by
  intro m
  induction m with
  | zero => intro k _ h; omega
  | succ m ih =>
    intro k hk hm
    rw [slices_IndexFunc_l0_eq, dlt]
    by_cases h : k < l.length
    · obtain ⟨r, h1, h2⟩ := ih (k + 1) (by omega) (by omega)
      rw [i64_succ (by omega)]
      simp only [dT h, d0, Bool.and_self, cond_true, Int.toNat_natCast, dlt, getD_lt _ h, wire_Check_1_eq, bind_some2]
      rw [any_drop h]
      cases hc : (l[k].Name == s.Name) with
      | true => exact ⟨_, rfl, by simp⟩
      | false => exact ⟨r, h1, by rw [h2]; rfl⟩
    · rw [dF h, drop_len h]
      exact ⟨_, rfl, rfl⟩
theorem has_ok (n : Nat) (l : List Spec) (s : Spec) (hl : l.length < 9223372036854775807) (hn : l.length < n) : slices_ContainsFunc n l (s, ()) = some (l.any fun x => x.Name == s.Name) := by
  rw [slices_ContainsFunc_eq, slices_IndexFunc_eq]
  obtain ⟨r, h1, h2⟩ := has_loop n l s hl n 0 (by omega) (by omega)
  rw [show ((0 : Nat) : Int) = 0 from rfl] at h1
  rw [h1, bind_some2, h2]
  rfl

/-- Both look at the descriptions alike. -/
theorem check_loop (n : Nat) (l : List Spec) (hl : l.length < 9223372036854775807) (hn : l.length < n) (hn10 : 10 < n) (hnm : ∀ s ∈ l, ∃ b, value_Name n s.Name = some b) : ∀ (m k : Nat) (last : Int), k ≤ l.length → l.length - k < m → (k = 0 → last = 0) → (∀ j, k = j + 1 → ∃ h : j < l.length, last = l[j].Tag) → (k = 0 ∨ 0 < last) →
    ∃ r, ref2_SpecsErr_l0 n m l last l (l.length : Int) (k : Int) = some r ∧ wire_Check_l0 n m l l (l.length : Int) (k : Int) = some r := by
  intro m
  induction m with
  | zero => intro k _ _ h; omega
  | succ m ih =>
    intro k last hk hm h0 h1 hp
    rw [ref2_SpecsErr_l0_eq, wire_Check_l0_eq, dlt]
    by_cases h : k < l.length
    · rw [i64_succ (by omega)]
      simp only [dT h, d0, Bool.and_self, cond_true, Int.toNat_natCast, dlt, dle, getD_lt _ h, dT hk, Bool.true_and]
      have htl : (l.take k).length = k := by simp; omega
      have ht := twice_loop n m l last l (l.length : Int) (k : Int) (l.take k) l[k] (by omega) n 0 false (by omega) (by omega)
      rw [show ((0 : Nat) : Int) = 0 from rfl] at ht
      rw [ht, ref2_SpecsErr_l2_eq, i64_succ (k := k) (by omega)]
      have hF : ¬ (l.take k).length < (l.take k).length := Nat.lt_irrefl _
      simp only [dlt, dF hF, cond_false, Bool.false_or, List.drop_zero, has_ok n (l.take k) l[k] (by omega) (by omega), bind_some2, contains_ok n _ hn10]
      obtain ⟨b, hb⟩ := hnm l[k] (List.getElem_mem _)
      rw [hb]
      simp only [bind_some2]
      generalize hany : (l.take k).any (fun x => x.Name == l[k].Name) = tw
      by_cases t1 : l[k].Tag ≤ 0
      · have t2 : l[k].Tag < 1 := by omega
        simp only [dT t1, dT t2, cond_true]
        exact ⟨_, rfl, rfl⟩
      have t2 : ¬ l[k].Tag < 1 := by omega
      simp only [dF t1, dF t2, cond_false]
      cases decide (l[k].Tag > 1000)
      case true => exact ⟨_, rfl, rfl⟩
      cases b
      case false => exact ⟨_, rfl, rfl⟩
      have key : ∃ r, (bif tw then some 5 else bif decide (l[k].Tag ≤ last) then some 9 else ref2_SpecsErr_l0 n m l l[k].Tag l (l.length : Int) ((k + 1 : Nat) : Int)) = some r ∧
        (bif tw then some 5 else bif decide ((k : Int) > 0) then (bif decide (0 ≤ IntKind.wrap .i64 ((k : Int) - 1)) && decide (IntKind.wrap .i64 ((k : Int) - 1) < (l.length : Int)) then (bif decide ((List.getD l (Int.toNat (IntKind.wrap .i64 ((k : Int) - 1))) (Spec.mk 0 [] 0 false)).Tag ≥ l[k].Tag) then some 9 else wire_Check_l0 n m l l (l.length : Int) ((k + 1 : Nat) : Int)) else none) else wire_Check_l0 n m l l (l.length : Int) ((k + 1 : Nat) : Int)) = some r := by
        obtain ⟨r, r1, r2⟩ := ih (k + 1) l[k].Tag (by omega) (by omega) (by omega) (fun j hj => ⟨by omega, by congr 1; congr 1; omega⟩) (.inr (by omega))
        cases tw
        case true => exact ⟨_, rfl, rfl⟩
        simp only [cond_false]
        cases k with
        | zero =>
          have := h0 rfl
          subst this
          simp only [dF t1, cond_false]
          exact ⟨r, r1, r2⟩
        | succ j =>
          obtain ⟨hj, hlast⟩ := h1 j rfl
          rw [i64_pred (by omega)]
          have hpos : ((j + 1 : Nat) : Int) > 0 := by omega
          simp only [dT hpos, d0, dlt, dT hj, Bool.and_self, cond_true, Int.toNat_natCast, getD_lt _ hj]
          rw [hlast]
          by_cases hle : l[j + 1].Tag ≤ l[j].Tag
          · have hge : l[j].Tag ≥ l[j + 1].Tag := hle
            simp only [dT hle, dT hge, cond_true]
            exact ⟨_, rfl, rfl⟩
          · have hge : ¬ l[j].Tag ≥ l[j + 1].Tag := hle
            simp only [dF hle, dF hge, cond_false]
            exact ⟨r, r1, r2⟩
      cases decide (l[k].Kind = 1) <;> cases decide (l[k].Kind = 2) <;> cases decide (l[k].Kind = 5) <;> first | exact key | exact ⟨_, rfl, rfl⟩
    · rw [dF h]
      exact ⟨_, rfl, rfl⟩
theorem check_same (n : Nat) (l : List Spec) (hl : l.length < 9223372036854775807) (hn : l.length < n) (hn10 : 10 < n) (hnm : ∀ s ∈ l, ∃ b, value_Name n s.Name = some b) : ∃ r, ref2_SpecsErr n l = some r ∧ wire_Check n l = some r := by
  rw [ref2_SpecsErr_eq, wire_Check_eq]
  cases decide ((l.length : Int) > 24)
  case true => exact ⟨_, rfl, rfl⟩
  exact check_loop n l hl hn hn10 hnm n 0 0 (by omega) (by omega) (fun _ => rfl) (fun j h => by omega) (.inl rfl)

/-! ### Two messages -/
def oneB (t k m c : Bool) : Int := bif t then (bif k && m then 0 else 8) else bif c then 17 else 0
def one (x y : Spec) : Int := oneB (decide (x.Tag = y.Tag)) (decide (x.Kind = y.Kind)) (x.Many == y.Many) (x.Name == y.Name)
def pickI (r : Int) (q : Int) : Int := bif decide (r = 0) then q else r
def row (x : Spec) : List Spec → Int
  | [] => 0
  | y :: ys => pickI (one x y) (row x ys)
def tab (b : List Spec) : List Spec → Int
  | [] => 0
  | x :: xs => pickI (row x b) (tab b xs)

theorem agree_row (n m0 : Nat) (v1 v21 : List Spec) (v22 v23 : Int) (l : List Spec) (x : Spec) (hl : l.length < 9223372036854775807) : ∀ (m k : Nat), k ≤ l.length → l.length - k < m →
    wire_Agree_l2 n m0 m v1 v21 v22 v23 l (l.length : Int) (k : Int) x = bif decide (row x (l.drop k) = 0) then wire_Agree_l0 n m0 v1 v21 v22 (IntKind.wrap .i64 (v23 + 1)) else some (row x (l.drop k)) := by
  intro m
  induction m with
  | zero => intro k _ h; omega
  | succ m ih =>
    intro k hk hm
    rw [wire_Agree_l2_eq, dlt]
    by_cases h : k < l.length
    · rw [i64_succ (k := k) (by omega)]
      simp only [dT h, d0, Bool.and_self, cond_true, Int.toNat_natCast, dlt, getD_lt _ h]
      rw [ih (k + 1) (by omega) (by omega), List.drop_eq_getElem_cons h]
      rw [show row x (l[k] :: List.drop (k + 1) l) = pickI (one x l[k]) (row x (List.drop (k + 1) l)) from rfl, show one x l[k] = oneB (decide (x.Tag = l[k].Tag)) (decide (x.Kind = l[k].Kind)) (x.Many == l[k].Many) (x.Name == l[k].Name) from rfl]
      generalize row x (List.drop (k + 1) l) = rr
      generalize decide (x.Tag = l[k].Tag) = b1
      generalize decide (x.Kind = l[k].Kind) = b2
      generalize (x.Many == l[k].Many) = b3
      generalize (x.Name == l[k].Name) = b4
      cases b1 <;> cases b2 <;> cases b3 <;> cases b4 <;> rfl
    · rw [dF h, drop_len h]
      rfl
theorem agree_tab (n : Nat) (a b : List Spec) (ha : a.length < 9223372036854775807) (hb : b.length < 9223372036854775807) (hn : b.length < n) : ∀ (m k : Nat), k ≤ a.length → a.length - k < m →
    wire_Agree_l0 n m b a (a.length : Int) (k : Int) = some (tab b (a.drop k)) := by
  intro m
  induction m with
  | zero => intro k _ h; omega
  | succ m ih =>
    intro k hk hm
    rw [wire_Agree_l0_eq, dlt]
    by_cases h : k < a.length
    · have hr := agree_row n m b a (a.length : Int) (k : Int) b a[k] hb n 0 (Nat.zero_le _) (by omega)
      rw [show ((0 : Nat) : Int) = 0 from rfl, i64_succ (k := k) (by omega)] at hr
      simp only [dT h, d0, Bool.and_self, cond_true, Int.toNat_natCast, dlt, getD_lt _ h]
      rw [hr, ih (k + 1) (by omega) (by omega), List.drop_eq_getElem_cons h]
      rw [List.drop_zero, show tab b (a[k] :: List.drop (k + 1) a) = pickI (row a[k] b) (tab b (List.drop (k + 1) a)) from rfl]
      unfold pickI
      cases decide (row a[k] b = 0) <;> rfl
    · rw [dF h, drop_len h]
      rfl
theorem law_row (n m0 : Nat) (v0 v1 v16 : List Spec) (v17 v18 : Int) (l : List Spec) (x : Spec) (hl : l.length < 9223372036854775807) : ∀ (m k : Nat) (v : Int), k ≤ l.length → l.length - k < m →
    law2_WireAgrees_l2 n m0 m v0 v1 v v16 v17 v18 l (l.length : Int) (k : Int) x = law2_WireAgrees_l0 n m0 v0 v1 (bif decide (v = 0) then row x (l.drop k) else v) v16 v17 (IntKind.wrap .i64 (v18 + 1)) := by
  intro m
  induction m with
  | zero => intro k _ _ h; omega
  | succ m ih =>
    intro k v hk hm
    rw [law2_WireAgrees_l2_eq, dlt]
    by_cases h : k < l.length
    · rw [i64_succ (k := k) (by omega)]
      simp only [dT h, d0, Bool.and_self, cond_true, Int.toNat_natCast, dlt, getD_lt _ h]
      rw [ih (k + 1) v (by omega) (by omega), ih (k + 1) 8 (by omega) (by omega), ih (k + 1) 17 (by omega) (by omega), List.drop_eq_getElem_cons h]
      rw [show row x (l[k] :: List.drop (k + 1) l) = pickI (one x l[k]) (row x (List.drop (k + 1) l)) from rfl, show one x l[k] = oneB (decide (x.Tag = l[k].Tag)) (decide (x.Kind = l[k].Kind)) (x.Many == l[k].Many) (x.Name == l[k].Name) from rfl]
      cases hv : decide (v = 0) with
      | false => rfl
      | true =>
        have hv := of_decide_eq_true hv
        subst hv
        generalize row x (List.drop (k + 1) l) = rr
        generalize decide (x.Tag = l[k].Tag) = b1
        generalize decide (x.Kind = l[k].Kind) = b2
        generalize (x.Many == l[k].Many) = b3
        generalize (x.Name == l[k].Name) = b4
        cases b1 <;> cases b2 <;> cases b3 <;> cases b4 <;> rfl
    · rw [dF h, drop_len h]
      cases hv : decide (v = 0) with
      | false => rfl
      | true =>
        have hv := of_decide_eq_true hv
        subst hv
        rfl
theorem law_tab (n : Nat) (a b : List Spec) (ha : a.length < 9223372036854775807) (hb : b.length < 9223372036854775807) (hn : b.length < n) (hw : law2_wires n = some true) (q : Int) (hq : wire_Agree n a b = some q) : ∀ (m k : Nat) (v : Int), k ≤ a.length → a.length - k < m →
    law2_WireAgrees_l0 n m a b v a (a.length : Int) (k : Int) = some (decide (q = bif decide (v = 0) then tab b (a.drop k) else v)) := by
  intro m
  induction m with
  | zero => intro k _ _ h; omega
  | succ m ih =>
    intro k v hk hm
    rw [law2_WireAgrees_l0_eq, dlt]
    by_cases h : k < a.length
    · have hr := law_row n m a b a (a.length : Int) (k : Int) b a[k] hb n 0 v (Nat.zero_le _) (by omega)
      rw [show ((0 : Nat) : Int) = 0 from rfl, i64_succ (k := k) (by omega)] at hr
      simp only [dT h, d0, Bool.and_self, cond_true, Int.toNat_natCast, dlt, getD_lt _ h]
      rw [hr, ih (k + 1) _ (by omega) (by omega), List.drop_eq_getElem_cons h]
      rw [List.drop_zero, show tab b (a[k] :: List.drop (k + 1) a) = pickI (row a[k] b) (tab b (List.drop (k + 1) a)) from rfl]
      generalize row a[k] b = rr
      generalize tab b (List.drop (k + 1) a) = qq
      cases hv : decide (v = 0) with
      | false => rw [cond_false, hv]; rfl
      | true =>
        simp only [cond_true, pickI]
        rfl
    · rw [dF h, drop_len h, hw, hq]
      cases hv : decide (v = 0) with
      | false => rfl
      | true =>
        have hv := of_decide_eq_true hv
        subst hv
        rfl
theorem put_small (n m : Nat) (v : List Int) (x : Int) (hx : ¬ x > 127) (hv : v.length + 1 ≤ 4294967296) : wire_put_l0 n (m + 1) v x v.length = some (v ++ [IntKind.wrap .u8 x], (v ++ [IntKind.wrap .u8 x]).length, ()) := by
  rw [wire_put_l0_eq, dF hx, cond_false, dT rfl, dT (by simpa using hv), dT rfl]
  rfl
theorem eq_a (p : Nat) : slices_Equal (p + 12) [1, 1, 97] [1, 1, 97] = some true := by
  have w1 : IntKind.wrap .i64 ((0 : Int) + 1) = 1 := by decide
  have w2 : IntKind.wrap .i64 ((1 : Int) + 1) = 2 := by decide
  have w3 : IntKind.wrap .i64 ((2 : Int) + 1) = 3 := by decide
  rw [slices_Equal_eq, show ([1, 1, 97] : List Int).length = 3 from rfl, show decide (((3 : Nat) : Int) = ((3 : Nat) : Int)) = true from rfl]
  rw [slices_Equal_l0_eq, w1, slices_Equal_l0_eq, w2, slices_Equal_l0_eq, w3, slices_Equal_l0_eq]
  rfl
theorem encode_a (p : Nat) : wire_Encode (p + 12) [Field.mk 1 [97]] = some ([1, 1, 97], 0) := by
  have h1 : wire_put (p + 12) (([] : List Int), 0) 1 = some ([1], 1, ()) := by rw [wire_put_eq]; exact put_small (p + 12) (p + 11) [] 1 (by decide) (by decide)
  have h2 : wire_put (p + 12) (([1] : List Int), 1) ((1 : Nat) : Int) = some ([1, 1], 2, ()) := by rw [wire_put_eq]; exact put_small (p + 12) (p + 11) [1] 1 (by decide) (by decide)
  have w1 : IntKind.wrap .i64 ((0 : Int) + 1) = 1 := by decide
  rw [wire_Encode_eq, wire_Encode_l0_eq, w1]
  rw [show List.getD [Field.mk 1 [97]] (Int.toNat 0) (Field.mk 0 []) = Field.mk 1 [97] from rfl]
  rw [show ([] : List Int).length = 0 from rfl, h1]
  simp only [bind_some2]
  rw [show ([97] : List Int).length = 1 from rfl, h2, bind_some2, wire_Encode_l0_eq]
  rfl
theorem wires_ok (p : Nat) : law2_wires (p + 12) = some true := by
  rw [law2_wires_eq, encode_a, bind_some2, eq_a]
  rfl

theorem law_ok (a b : List Spec) (ha : a.length < 9223372036854775807) (hb : b.length < 9223372036854775807) (hna : ∀ s ∈ a, s.Name.length ≤ 140737488355328) (hnb : ∀ s ∈ b, s.Name.length ≤ 140737488355328) : ∃ n, law2_WireAgrees n a b = some true := by
  obtain ⟨p, hp⟩ : ∃ p : Nat, a.length + b.length + 140737488355329 < p := ⟨_, Nat.lt_succ_self _⟩
  refine ⟨p + 12, ?_⟩
  have hw : law2_wires (p + 12) = some true := wires_ok p
  generalize hN : p + 12 = n at hw ⊢
  obtain ⟨r1, c1, c2⟩ := check_same n a ha (by omega) (by omega) fun s hs => name_ok n s.Name (by have := hna s hs; omega) (by have := hna s hs; omega)
  obtain ⟨r2, c3, c4⟩ := check_same n b hb (by omega) (by omega) fun s hs => name_ok n s.Name (by have := hnb s hs; omega) (by have := hnb s hs; omega)
  have ht := agree_tab n a b ha hb (by omega) n 0 (Nat.zero_le _) (by omega)
  rw [show ((0 : Nat) : Int) = 0 from rfl, List.drop_zero] at ht
  have hq : wire_Agree n a b = some (bif decide (r1 = 0) then (bif decide (r2 = 0) then tab b a else r2) else r1) := by
    rw [wire_Agree_eq, c2, bind_some2, c4]
    cases decide (r1 = 0)
    · rfl
    · simp only [Bool.not_true, cond_false, bind_some2, cond_true]
      cases decide (r2 = 0)
      · rfl
      · simp only [Bool.not_true, cond_false, cond_true, ht]
  have hl := fun v => law_tab n a b ha hb (by omega) hw _ hq n 0 v (Nat.zero_le _) (by omega)
  rw [show ((0 : Nat) : Int) = 0 from rfl] at hl
  rw [law2_WireAgrees_eq, c1, bind_some2, c3]
  cases h1 : decide (r1 = 0)
  · rw [cond_false, hl, h1]
    simp
  · rw [cond_true, bind_some2, hl, h1]
    simp

theorem PWireAgrees.full : ∀ t ∈ ([22, 22] : List Nat), ∃ x, tt t = some x ∧ x.ty.full = true := by
  intro t ht
  have : t = 22 := by simpa using ht
  subst this
  exact ⟨⟨.sl (.nm 0), .slice 26⟩, by kernel_rfl, rfl⟩
theorem PWireAgrees.pure (aa : List (AV E)) (h : Ins E tt [22, 22] aa) : ∃ n outs, callR (C14 n) 3 aa (List.replicate [22, 22].length .none) = some (.t .bool true, outs) := by
  have h22 : tt 22 = some ⟨.sl (.nm 0), .slice 26⟩ := by kernel_rfl
  cases h with
  | cons x hx v hg r =>
    cases r with
    | cons x2 hx2 v2 hg2 r =>
      cases r
      have e1 := Option.some.inj (hx.symm.trans h22)
      have e2 := Option.some.inj (hx2.symm.trans h22)
      subst e1 e2
      obtain ⟨n, hn⟩ := law_ok v v2 (Nat.lt_of_le_of_lt (show List.length (α := Spec) v ≤ reachBytes from (hg 0).1) (by decide)) (Nat.lt_of_le_of_lt (show List.length (α := Spec) v2 ≤ reachBytes from (hg2 0).1) (by decide))
        (fun s hs => by have : s.Name.length ≤ reachBytes := ((hg 1).2 s hs).2.1; have := reach_lt; omega)
        (fun s hs => by have : s.Name.length ≤ reachBytes := ((hg2 1).2 s hs).2.1; have := reach_lt; omega)
      exact ⟨n, _, by rw [show ([22, 22] : List Nat).length = 2 from rfl]; exact (law_call n v v2).trans (by rw [hn]; rfl)⟩
end Go.Proofs.Ytmkocofcohmnpaa.PWireAgrees
