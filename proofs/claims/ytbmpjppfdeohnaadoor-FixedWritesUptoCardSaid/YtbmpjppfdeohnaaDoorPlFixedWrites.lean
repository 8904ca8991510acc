/- The plain law FixedWrites. No condition. -/
import Derived.Test.YtbmpjppfdeohnaaDoorFnFixedWrites
-- UPTO
set_option linter.unusedVariables false
set_option linter.unusedSimpArgs false
namespace Go.Proofs.YtbmpjppfdeohnaaDoor.PFixedWrites
open Go Go.Proofs Go.Proofs.YtbmpjppfdeohnaaDoor.Fv

/-! ### A byte many times -/
theorem wu64s {x : Int} (h0 : 0 ≤ x) (h : x < 18446744073709551616) : IntKind.wrap .u64 x = x := by
  unfold IntKind.wrap
  simp only [IntKind.signed, IntKind.bits]
  simp
  omega
theorem shr32 {x : Int} (h0 : 0 ≤ x) (h : x < 4294967296) : shr .u64 x 32 = 0 := by
  show x.fdiv (2 ^ (min (32 : Int).toNat 64)) = 0
  rw [show (2 : Int) ^ (min (32 : Int).toNat 64) = 4294967296 by decide, Int.fdiv_eq_ediv_of_nonneg _ (by omega)]
  omega
theorem and32 {a : Nat} (h : a < 4294967296) : Fv.bits .and .u64 (a : Int) 4294967295 = (a : Int) := by
  show IntKind.wrap .u64 (((BitVec.ofInt 64 (a : Int) &&& BitVec.ofInt 64 ((4294967295 : Nat) : Int) : BitVec 64).toNat : Nat) : Int) = _
  rw [BitVec.ofInt_natCast, BitVec.ofInt_natCast, BitVec.toNat_and, BitVec.toNat_ofNat, BitVec.toNat_ofNat, Nat.mod_eq_of_lt (by omega), Nat.mod_eq_of_lt (by omega)]
  have : a &&& 4294967295 = a := by
    rw [show (4294967295 : Nat) = 2 ^ 32 - 1 by decide, Nat.and_two_pow_sub_one_eq_mod, Nat.mod_eq_of_lt (by omega)]
  rw [this]
  exact wu64s (by omega) (by omega)
theorem mul_one (n c : Nat) (hc : c < 4294967296) : bits_Mul n 1 (c : Int) = some (0, (c : Int)) := by
  have a1 : Fv.bits .and .u64 1 4294967295 = 1 := and32 (a := 1) (by decide)
  have s1 : shr .u64 1 32 = 0 := shr32 (by decide) (by decide)
  have z : ∀ x : Int, 0 ≤ x → x < 4294967296 → IntKind.wrap .u64 x = x := fun x h0 h => wu64s h0 (by omega)
  have a0 : Fv.bits .and .u64 0 4294967295 = 0 := and32 (a := 0) (by decide)
  have s0 : shr .u64 0 32 = 0 := shr32 (by decide) (by decide)
  have ac := and32 hc
  have sc := shr32 (x := (c : Int)) (by omega) (by omega)
  rw [bits_Mul_eq, bits_Mul64_eq]
  simp only [show decide ((0 : Nat) ≤ 32) = true from rfl, show decide ((0 : Int) ≤ 32) = true from rfl, cond_true, bind_some2, a1, s1, ac, sc, Int.zero_mul, Int.mul_zero, Int.one_mul, z 0 (by omega) (by omega), Int.zero_add, Int.add_zero, z (c : Int) (by omega) (by omega), s0, a0]
theorem rep_loop (n : Nat) (p : Int) (c : Nat) (hc : c < 4294967296) : ∀ (m k : Nat), 1 ≤ k → k ≤ c → c - k < m → slices_Repeat_byte_l0 n m c (k : Int) (List.replicate k p ++ List.replicate (c - k) 0) = some (List.replicate c p) := by
  intro m
  induction m with
  | zero => intro k _ _ h; omega
  | succ m ih =>
    intro k h1 h2 h3
    rw [slices_Repeat_byte_l0_eq, dlt]
    have hl : (List.replicate k p ++ List.replicate (c - k) (0 : Int)).length = c := by rw [List.length_append, List.length_replicate, List.length_replicate]; omega
    by_cases hk : k < c
    · rw [dT hk, cond_true, hl, d0, dle, dT h2, Bool.and_self, cond_true, dT (show (0 : Int) ≤ 0 by omega), dT (show (0 : Int) + (k : Int) ≤ ((c : Nat) : Int) by omega), Bool.and_self, Bool.and_self, cond_true, Int.toNat_natCast, dT (show 0 + k + (c - k) ≤ c by omega), cond_true]
      have e1 : List.take (k - Int.toNat 0) (List.drop (0 + Int.toNat 0) (List.replicate k p ++ List.replicate (c - k) (0 : Int))) = List.replicate k p := by
        show List.take k (List.replicate k p ++ List.replicate (c - k) (0 : Int)) = _
        rw [List.take_left' (List.length_replicate ..)]
      rw [e1, List.length_replicate]
      have e2 : over (List.replicate k p ++ List.replicate (c - k) (0 : Int)) (List.take (c - k) (List.replicate k p)) (0 + k) = List.replicate (k + min k (c - k)) p ++ List.replicate (c - (k + min k (c - k))) 0 := by
        unfold over
        rw [Nat.zero_add, List.take_left' (List.length_replicate ..), List.take_replicate, List.length_replicate, List.drop_append, List.length_replicate, List.drop_of_length_le (by rw [List.length_replicate]; omega), List.nil_append, List.drop_replicate, List.replicate_append_replicate, Nat.min_comm (c - k) k]
        congr 2
        omega
      rw [e2, w64 (by omega) (by omega), show (k : Int) + ((min k (c - k) : Nat) : Int) = ((k + min k (c - k) : Nat) : Int) by omega]
      exact ih _ (by omega) (by omega) (by omega)
    · have : k = c := by omega
      subst this
      rw [dF hk, cond_false, hl, dT rfl, cond_true, Nat.sub_self, List.replicate_zero, List.append_nil]
theorem rep_ok (n : Nat) (p : Int) (c : Nat) (hc : c < 4294967296) (hn : c + 1 < n) : slices_Repeat_byte n [p] (c : Int) = some (List.replicate c p) := by
  rw [slices_Repeat_byte_eq, dF (show ¬ (c : Int) < 0 by omega), cond_false, wu64s (x := (c : Int)) (by omega) (by omega), show IntKind.wrap .u64 ((List.length [p] : Nat) : Int) = 1 from rfl, mul_one n c hc, bind_some2,
    dF (show ¬ (0 : Int) > 0 by omega), cond_false, dF (show ¬ (c : Int) > 9223372036854775807 by omega), cond_false, w64 (by omega) (by omega), d0, dT (show (c : Int) ≤ (c : Int) by omega), dT (show (c : Int) ≤ 4294967296 by omega), Int.toNat_natCast, List.length_replicate, dT (show 0 + c ≤ c by omega)]
  simp only [Bool.and_self, cond_true]
  by_cases h0 : c = 0
  · subst h0
    obtain ⟨m, rfl⟩ : ∃ m, n = m + 1 := ⟨n - 1, by omega⟩
    rw [slices_Repeat_byte_l0_eq]
    rfl
  · have e : over (List.replicate c (0 : Int)) (List.take c [p]) 0 = List.replicate 1 p ++ List.replicate (c - 1) 0 := by
      unfold over
      rw [List.take_zero, List.nil_append, List.take_of_length_le (by simp; omega)]
      simp
    rw [e, show ((min (List.length [p]) c : Nat) : Int) = ((1 : Nat) : Int) by simp; omega]
    exact rep_loop n p c hc n 1 (by omega) (by omega) (by omega)
/-! ### Names -/
theorem name_ex (n : Nat) (s : List UInt8) (hs : s.length < 9223372036854775807) (hn : s.length < n) : ∃ b, value_Name n s = some b := by
  rw [value_Name_eq]
  cases s with
  | nil => exact ⟨_, rfl⟩
  | cons c s =>
    have h0 : (0 : Int) < (((c :: s).length : Nat) : Int) := by simp only [List.length_cons]; omega
    have hl : (ints (c :: s)).length = (c :: s).length := by simp [ints]
    have hb : ∃ b, value_Name_l0 n n (ints (c :: s)) (List.length (ints (c :: s)) : Int) 0 = some b := by
      have h := value_Name_l0_fold n (ints (c :: s)) (by omega) n 0 (Nat.zero_le _) (by omega)
      rw [show ((0 : Nat) : Int) = 0 from rfl] at h
      rw [h]
      exact foldK_ex (fun _ => ⟨_, rfl⟩) _ _ _ fun i a s K _ hK => by repeat (first | exact hK _ | exact ⟨_, rfl⟩ | apply ex_cond)
    simp only [dT h0, d00, Bool.and_self, cond_true]
    repeat (first | exact hb | exact ⟨_, rfl⟩ | apply ex_cond)
noncomputable def nmB (n : Nat) (s : List UInt8) : Bool := (value_Name n s).getD false
theorem name_ok (n : Nat) (s : List UInt8) (hs : s.length < 9223372036854775807) (hn : s.length < n) : value_Name n s = some (nmB n s) := by
  obtain ⟨b, hb⟩ := name_ex n s hs hn
  unfold nmB
  rw [hb]
  rfl
/-! ### Places of digits, one field -/
def digE (f : FixedField) : Int := if f.Kind = 1 then (if f.Signed = true then IntKind.wrap .i64 (f.Wide - 1) else f.Wide) else if f.Kind = 2 then IntKind.wrap .i64 (IntKind.wrap .i64 ((2 : Int) * f.Wide) - 1) else 0
theorem digits_ok (n : Nat) (f : FixedField) : fixed_Digits n f = some (digE f) := by
  rw [fixed_Digits_eq]
  unfold digE
  by_cases h1 : f.Kind = 1
  · rw [dT h1, cond_true, if_pos h1]
    cases f.Signed <;> rfl
  · rw [dF h1, cond_false, if_neg h1]
    by_cases h2 : f.Kind = 2
    · rw [dT h2, cond_true, if_pos h2]
    · rw [dF h2, cond_false, if_neg h2]
theorem places_ok (n : Nat) (f : FixedField) : ref2_Places n f = some (digE f) := by
  rw [ref2_Places_eq]
  unfold digE
  by_cases h0 : f.Kind < 0
  · rw [dT h0, cond_true, if_neg (by omega), if_neg (by omega)]
  rw [dF h0, cond_false]
  by_cases h3 : f.Kind > 2
  · rw [dT h3, cond_true, if_neg (by omega), if_neg (by omega)]
  rw [dF h3, cond_false]
  have hk : f.Kind = 0 ∨ f.Kind = 1 ∨ f.Kind = 2 := by omega
  generalize f.Kind = k at hk
  rcases hk with rfl | rfl | rfl
  · cases f.Signed <;> rfl
  · cases f.Signed <;> rfl
  · cases f.Signed <;> rfl
def Rg (f : FixedField) : Prop := 0 ≤ f.At ∧ f.At ≤ 400 ∧ 1 ≤ f.Wide ∧ f.Wide ≤ 400 - f.At
instance (f : FixedField) : Decidable (Rg f) := by unfold Rg; infer_instance
def oneD (f : FixedField) : Int := if digE f < 1 then 11 else if digE f > 15 then 11 else if f.Scale < 0 then 11 else if f.Scale > digE f then 11 else 0
def oneE (nm : Bool) (f : FixedField) : Int := if nm = false then 15 else if f.Kind < 0 then 8 else if f.Kind > 2 then 8 else if ¬ Rg f then 11 else
  if f.Kind = 0 then (if f.Signed = true then 3 else if f.Scale ≠ 0 then 3 else 0) else (if f.Pad ≠ 0 then 3 else oneD f)
theorem oneD_ok (n : Nat) (f : FixedField) : (bif decide (digE f < 1) then (some 11 : Option Int) else (bif decide (digE f > 15) then some 11 else (bif decide (f.Scale < 0) then some 11 else (bif decide (f.Scale > digE f) then some 11 else some 0)))) = some (oneD f) := by
  unfold oneD
  simp only [cond_ite, decide_eq_true_eq]
  split
  · rfl
  split
  · rfl
  split
  · rfl
  split <;> rfl
theorem one_ok (n : Nat) (f : FixedField) (nm : Bool) (h : value_Name n f.Name = some nm) : fixed_one n f = some (oneE nm f) := by
  rw [fixed_one_eq, h, bind_some2]
  simp only [digits_ok, bind_some2, oneD_ok n]
  unfold oneE
  cases nm with
  | false => rfl
  | true =>
    rw [Bool.not_true, cond_false, if_neg (by simp)]
    by_cases h1 : f.Kind < 0
    · rw [dT h1, cond_true, if_pos h1]
    rw [dF h1, cond_false, if_neg h1]
    by_cases h2 : f.Kind > 2
    · rw [dT (show f.Kind ≥ 3 by omega), cond_true, if_pos h2]
    rw [dF (show ¬ f.Kind ≥ 3 by omega), cond_false, if_neg h2]
    by_cases hr : Rg f
    · have hr' := hr
      unfold Rg at hr'
      rw [dF (show ¬ f.At < 0 by omega), dF (show ¬ f.Wide < 1 by omega), dF (show ¬ f.At > 400 by omega), w64 (by omega) (by omega), dF (show ¬ f.Wide > 400 - f.At by omega), if_neg (not_not_intro hr)]
      simp only [cond_false]
      by_cases hk : f.Kind = 0
      · rw [if_pos hk]
        simp only [hk, decide_true, Bool.not_true, cond_true, cond_false]
        cases f.Signed with
        | true => rfl
        | false =>
          by_cases hs : f.Scale = 0
          · simp [hs]
          · simp [hs]
      · rw [if_neg hk]
        simp only [dF hk, Bool.not_false, cond_true, cond_false]
        by_cases hp : f.Pad = 0
        · simp [hp]
        · simp [hp]
    · rw [if_pos hr]
      unfold Rg at hr
      by_cases a1 : f.At < 0
      · rw [dT a1, cond_true]
      rw [dF a1, cond_false]
      by_cases a2 : f.Wide < 1
      · rw [dT a2, cond_true]
      rw [dF a2, cond_false]
      by_cases a3 : f.At > 400
      · rw [dT a3, cond_true]
      rw [dF a3, cond_false, w64 (by omega) (by omega), dT (show f.Wide > 400 - f.At by omega), cond_true]
theorem oneE_rg {nm : Bool} {f : FixedField} (h : oneE nm f = 0) : Rg f := by
  unfold oneE at h
  cases nm with
  | false => rw [if_pos rfl] at h; omega
  | true =>
    rw [if_neg (by simp)] at h
    split at h
    · omega
    split at h
    · omega
    split at h
    · omega
    · rename_i h1
      exact Decidable.not_not.1 h1

/-- One round of the other check. -/
theorem err_step (n m0 : Nat) (v : List FixedField) (i : Nat) (hi : i < v.length) (w19 : List (Int × Int)) (w20 : List (List UInt8 × Int)) (nm : Bool) (h : value_Name n v[i].Name = some nm) :
    ref2_FieldsErr_l0 n (m0 + 1) v v (v.length : Int) (i : Int) w19 w20 = if oneE nm v[i] = 0 then ref2_FieldsErr_l3 n m0 n v (i : Int) ((smget w20 v[i].Name).getD (v.length : Int)) (v.length : Int) v[i].At v (v.length : Int) (i : Int) v[i] w19 w20 else some (oneE nm v[i]) := by
  rw [ref2_FieldsErr_l0_eq, dlt, dT hi, d0, cond_true, Bool.true_and, cond_true, Int.toNat_natCast, getD_lt _ hi, h, bind_some2]
  generalize v[i] = f at h ⊢
  have hX : (bif (Option.isSome (mget E .str (.int .i64) w20 f.Name)) then (ref2_FieldsErr_l3 n m0 n v (i : Int) (mgetD E .str (.int .i64) w20 f.Name) (List.length v : Int) f.At v (List.length v : Int) (i : Int) f w19 w20) else (ref2_FieldsErr_l3 n m0 n v (i : Int) (List.length v : Int) (List.length v : Int) f.At v (List.length v : Int) (i : Int) f w19 w20)) = ref2_FieldsErr_l3 n m0 n v (i : Int) ((smget w20 f.Name).getD (v.length : Int)) (v.length : Int) f.At v (v.length : Int) (i : Int) f w19 w20 := by
    unfold mgetD
    rw [show mget E .str (.int .i64) w20 f.Name = smget w20 f.Name from rfl]
    cases smget w20 f.Name <;> rfl
  simp only [places_ok, bind_some2, hX]
  generalize ref2_FieldsErr_l3 n m0 n v (i : Int) ((smget w20 f.Name).getD (v.length : Int)) (v.length : Int) f.At v (v.length : Int) (i : Int) f w19 w20 = L
  unfold oneE
  cases nm with
  | false => rfl
  | true =>
    rw [Bool.not_true, cond_false, if_neg (show ¬ true = false by simp)]
    by_cases h1 : f.Kind < 0
    · rw [dT h1, cond_true, if_pos h1]; rfl
    rw [dF h1, cond_false, if_neg h1]
    by_cases h2 : f.Kind > 2
    · rw [dT h2, cond_true, if_pos h2]; rfl
    rw [dF h2, cond_false, if_neg h2]
    by_cases hr : Rg f
    · have hr' := hr
      unfold Rg at hr'
      rw [dF (show ¬ f.At < 0 by omega), dF (show ¬ f.At > 400 by omega), dF (show ¬ f.Wide < 1 by omega), dF (show ¬ f.Wide > 400 by omega), w64 (by omega) (by omega), dF (show ¬ f.At + f.Wide > 400 by omega), if_neg (not_not_intro hr)]
      simp only [cond_false]
      by_cases hk : f.Kind = 0
      · rw [if_pos hk]
        simp only [hk, decide_true, Bool.not_true, cond_true, cond_false]
        cases f.Signed with
        | true => rfl
        | false =>
          by_cases hs : f.Scale = 0
          · simp [hs]
          · simp [hs]
      · rw [if_neg hk]
        simp only [dF hk, Bool.not_false, cond_true, cond_false]
        by_cases hp : f.Pad = 0
        · rw [dT hp, if_neg (show ¬ f.Pad ≠ 0 from not_not_intro hp)]
          simp only [Bool.not_true, cond_false]
          unfold oneD
          by_cases b1 : digE f < 1
          · simp [b1]
          by_cases b2 : digE f > 15
          · simp [b1, b2]
          by_cases b3 : f.Scale < 0
          · simp [b1, b2, b3]
          by_cases b4 : f.Scale > digE f
          · simp [b1, b2, b3, b4]
          · rw [dF b1, dF b2, dF b3, dF b4, if_neg b1, if_neg b2, if_neg b3, if_neg b4, if_pos rfl]
            rfl
        · simp [hp]
    · rw [if_pos hr]
      unfold Rg at hr
      by_cases a1 : f.At < 0
      · rw [dT a1, cond_true]; rfl
      rw [dF a1, cond_false]
      by_cases a3 : f.At > 400
      · rw [dT a3, cond_true]; rfl
      rw [dF a3, cond_false]
      by_cases a2 : f.Wide < 1
      · rw [dT a2, cond_true]; rfl
      rw [dF a2, cond_false]
      by_cases a4 : f.Wide > 400
      · rw [dT a4, cond_true]; rfl
      rw [dF a4, cond_false, w64 (by omega) (by omega), dT (show f.At + f.Wide > 400 by omega), cond_true]; rfl
/-! ### Counted loops by what stays true -/
theorem foldN_inv {S R : Type} {step : Nat → S → (S → Option R) → Option R} {fin : S → Option R} (I : Nat → S → Prop) (N : Nat) (h : ∀ i s, i < N → I i s → ∃ s', I (i + 1) s' ∧ ∀ K, step i s K = K s') : ∀ (c i : Nat) (s : S), c + i = N → I i s → ∃ s', I N s' ∧ foldN step fin c i s = fin s'
  | 0, i, s, hc, hi => ⟨s, by rw [← hc, Nat.zero_add]; exact hi, rfl⟩
  | c + 1, i, s, hc, hi => by
    obtain ⟨s1, h1, h2⟩ := h i s (by omega) hi
    obtain ⟨s2, h3, h4⟩ := foldN_inv I N h (fin := fin) c (i + 1) s1 (by omega) h1
    exact ⟨s2, h3, by rw [← h4]; exact h2 _⟩

theorem fold_use {S R : Type} {L : Option R} {step : Nat → S → (S → Option R) → Option R} {fin : S → Option R} {c i : Nat} {s : S} (hf : L = foldN step fin c i s) (I : Nat → S → Prop) (N : Nat) (hc : c + i = N) (hi : I i s)
    (h : ∀ i s, i < N → I i s → ∃ s', I (i + 1) s' ∧ ∀ K, step i s K = K s') : ∃ s', I N s' ∧ L = fin s' := by
  obtain ⟨s', h1, h2⟩ := foldN_inv (fin := fin) I N h c i s hc hi
  exact ⟨s', h1, by rw [hf, h2]⟩
/-! ### Digits -/
def dch (u : Nat) : UInt8 := UInt8.ofNat (48 + u % 10)
def dgs : Nat → Nat → List UInt8
  | 0, _ => []
  | D + 1, u => dgs D (u / 10) ++ [dch u]
theorem dgs_len : ∀ (D u : Nat), (dgs D u).length = D
  | 0, _ => rfl
  | D + 1, u => by
    show (dgs D (u / 10) ++ [dch u]).length = _
    rw [List.length_append, dgs_len D, List.length_singleton]
theorem dgs_zero : ∀ D : Nat, dgs D 0 = List.replicate D 48
  | 0 => rfl
  | D + 1 => by
    show dgs D (0 / 10) ++ [dch 0] = _
    rw [Nat.zero_div, dgs_zero D, List.replicate_succ']
    rfl
theorem pad_dgs : ∀ (D u : Nat), (Go.Lib.decDigits u).length ≤ D → List.replicate (D - (Go.Lib.decDigits u).length) 48 ++ Go.Lib.decDigits u = dgs D u
  | 0, u, h => by
    have := Go.Lib.nDigits_pos u
    rw [Go.Lib.decDigits_length] at h
    omega
  | D + 1, u, h => by
    show _ = dgs D (u / 10) ++ [dch u]
    by_cases hu : u < 10
    · rw [Go.Lib.decDigits_one hu, show u / 10 = 0 by omega, dgs_zero]
      unfold dch
      rw [Nat.mod_eq_of_lt hu]
      simp
    · have e : Go.Lib.decDigits u = Go.Lib.decDigits (u / 10) ++ [dch u] := by
        rw [Go.Lib.decDigits, dif_neg hu]
        rfl
      rw [e, List.length_append, List.length_singleton] at h
      rw [e, List.length_append, List.length_singleton, ← pad_dgs D (u / 10) (by omega), ← List.append_assoc, show D + 1 - ((Go.Lib.decDigits (u / 10)).length + 1) = D - (Go.Lib.decDigits (u / 10)).length by omega]
theorem dlen_iff : ∀ (D u : Nat), (Go.Lib.decDigits u).length ≤ D + 1 ↔ u < 10 ^ (D + 1)
  | 0, u => by
    rw [Go.Lib.decDigits_length]
    by_cases hu : u < 10
    · rw [Go.Lib.nDigits_small hu]
      exact ⟨fun _ => by simpa using hu, fun _ => Nat.le_refl _⟩
    · rw [Go.Lib.nDigits_big hu]
      have := Go.Lib.nDigits_pos (u / 10)
      constructor
      · intro h; omega
      · intro h; simp at h; omega
  | D + 1, u => by
    have ih := dlen_iff D (u / 10)
    rw [Go.Lib.decDigits_length] at ih ⊢
    by_cases hu : u < 10
    · rw [Go.Lib.nDigits_small hu]
      refine ⟨fun _ => ?_, fun _ => by omega⟩
      have : 10 ^ 1 ≤ 10 ^ (D + 1 + 1) := Nat.pow_le_pow_right (by decide) (by omega)
      omega
    · rw [Go.Lib.nDigits_big hu, show (Go.Lib.nDigits (u / 10) + 1 ≤ D + 1 + 1) ↔ (Go.Lib.nDigits (u / 10) ≤ D + 1) by omega, ih, Nat.pow_succ 10 (D + 1)]
      generalize 10 ^ (D + 1) = z
      omega
theorem tmod_nat (u : Nat) : Int.tmod (u : Int) 10 = ((u % 10 : Nat) : Int) := by rw [Int.tmod_eq_emod_of_nonneg (by omega)]; rfl
theorem tdiv_nat (u : Nat) : Int.tdiv (u : Int) 10 = ((u / 10 : Nat) : Int) := by rw [Int.tdiv_eq_ediv_of_nonneg (by omega)]; rfl
theorem w32 {x : Int} (h1 : -2147483648 ≤ x) (h2 : x < 2147483648) : IntKind.wrap .i32 x = x := by
  unfold IntKind.wrap
  simp only [IntKind.signed, IntKind.bits]
  simp
  omega
theorem shown_loop (n : Nat) (f : FixedField) (D : Nat) (hD : digE f = (D : Int)) (h15 : D ≤ 1000) : ∀ (m u : Nat) (s : List UInt8), u < 18446744073709551616 / 2 + 1 → s.length ≤ D → D - s.length < m → ref2_shown_l0 n m s (u : Int) f = some (dgs (D - s.length) u ++ s) := by
  intro m
  induction m with
  | zero => intro u s _ _ h; omega
  | succ m ih =>
    intro u s hu hs hm
    rw [ref2_shown_l0_eq, places_ok, bind_some2, hD, dlt]
    by_cases hk : s.length < D
    · have hc : IntKind.wrap .i32 (IntKind.wrap .i64 ((48 : Int) + Int.tmod (u : Int) 10)) = ((48 + u % 10 : Nat) : Int) := by
        rw [tmod_nat, w64 (by omega) (by omega), w32 (by omega) (by omega)]
        omega
      rw [dT hk, cond_true, hc, d0, dT (show ((48 + u % 10 : Nat) : Int) < 128 by omega), Bool.and_self, cond_true, Int.toNat_natCast, List.length_singleton, dT (show 1 + s.length ≤ 4294967296 by omega), cond_true, tdiv_nat, w64 (by omega) (by omega)]
      rw [ih (u / 10) ([UInt8.ofNat (48 + u % 10)] ++ s) (by omega) (by simp; omega) (by simp; omega)]
      rw [List.length_append, List.length_singleton, show D - s.length = (D - (1 + s.length)) + 1 by omega]
      show _ = some ((dgs (D - (1 + s.length)) (u / 10) ++ [dch u]) ++ s)
      rw [List.append_assoc]
      rfl
    · rw [dF hk, cond_false, show D - s.length = 0 by omega]
      rfl
theorem power_ok (n D : Nat) (h : D ≤ 15) (hn : 100 < n) : fixed_power n (D : Int) = some ((10 ^ D : Nat) : Int) := by
  have hf := fixed_power_l0_fold n D 1 (by omega) n 0 (Nat.zero_le _) (by omega)
  rw [show ((0 : Nat) : Int) = 0 from rfl] at hf
  obtain ⟨s', h1, h2⟩ := fold_use hf (fun i s => s = ((10 ^ i : Nat) : Int)) D (by omega) rfl fun i s hi hI => by
    subst hI
    refine ⟨_, rfl, fun K => ?_⟩
    have hp : 10 ^ i ≤ 10 ^ 15 := Nat.pow_le_pow_right (by decide) (by omega)
    have e : IntKind.wrap .i64 (((10 ^ i : Nat) : Int) * 10) = ((10 ^ (i + 1) : Nat) : Int) := by
      rw [Nat.pow_succ]
      generalize 10 ^ i = z at hp ⊢
      rw [w64 (by omega) (by omega)]
      omega
    rw [e]
  rw [fixed_power_eq, h2, h1]
/-! ### Where the first is -/
def J {A : Type} (q : A → Bool) : List A → Nat → Option Int
  | [], _ => none
  | a :: r, i => if q a = true then some (i : Int) else J q r (i + 1)
theorem J_cons {A : Type} (q : A → Bool) (a : A) (r : List A) (i : Nat) : J q (a :: r) i = if q a = true then some (i : Int) else J q r (i + 1) := rfl
theorem J_bd {A : Type} (q : A → Bool) : ∀ (l : List A) (i : Nat) (z : Int), J q l i = some z → (i : Int) ≤ z ∧ z < (i + l.length : Nat)
  | [], _, _, h => by cases h
  | a :: r, i, z, h => by
    unfold J at h
    rw [List.length_cons]
    split at h
    · cases h; omega
    · have := J_bd q r (i + 1) z h; omega
theorem J_none {A : Type} {q : A → Bool} : ∀ {l : List A} {i : Nat}, J q l i = none ↔ ∀ a ∈ l, q a = false
  | [], _ => by simp [J]
  | a :: r, i => by
    unfold J
    cases h : q a with
    | true => simp [h]
    | false => simp [h, J_none (q := q) (l := r) (i := i + 1)]
theorem J_app {A : Type} (q : A → Bool) (f : A) : ∀ (l : List A) (i : Nat), J q (l ++ [f]) i = match J q l i with
    | some z => some z
    | none => if q f = true then some ((i + l.length : Nat) : Int) else none
  | [], i => by simp [J]
  | a :: r, i => by
    rw [List.cons_append]
    unfold J
    cases h : q a with
    | true => simp
    | false =>
      simp only [Bool.false_eq_true, if_false]
      rw [J_app q f r (i + 1), List.length_cons, show i + 1 + r.length = i + (r.length + 1) by omega]
theorem J_congr {A : Type} {q q' : A → Bool} : ∀ {l : List A} {i : Nat}, (∀ a ∈ l, q a = q' a) → J q l i = J q' l i
  | [], _, _ => rfl
  | a :: r, i, h => by
    unfold J
    rw [h a (by simp), J_congr (l := r) (i := i + 1) fun b hb => h b (by simp [hb])]
/-- The lesser of two. -/
def mnO : Option Int → Option Int → Option Int
  | some a, some b => some (if b < a then b else a)
  | some a, none => some a
  | none, x => x
theorem J_or {A : Type} (p q : A → Bool) : ∀ (l : List A) (i : Nat), J (fun a => p a || q a) l i = mnO (J p l i) (J q l i)
  | [], _ => rfl
  | a :: r, i => by
    have hp := fun z h => (J_bd p r (i + 1) z h).1
    have hq := fun z h => (J_bd q r (i + 1) z h).1
    unfold J
    cases h1 : p a with
    | true =>
      cases h2 : q a with
      | true => simp [mnO]
      | false =>
        simp only [Bool.true_or, if_true, Bool.false_eq_true, if_false]
        cases h3 : J q r (i + 1) with
        | none => rfl
        | some z =>
          have := hq z h3
          simp only [mnO]
          rw [if_neg (by omega)]
    | false =>
      cases h2 : q a with
      | true =>
        simp only [Bool.or_true, if_true, Bool.false_eq_true, if_false]
        cases h3 : J p r (i + 1) with
        | none => rfl
        | some z =>
          have := hp z h3
          simp only [mnO]
          rw [if_pos (by omega)]
      | false =>
        simp only [Bool.or_self, Bool.false_eq_true, if_false]
        exact J_or p q r (i + 1)
theorem mn_step {o c : Option Int} {L : Int} (h1 : ∀ z, o = some z → z < L) (h2 : ∀ z, c = some z → z < L) : (bif c.isSome then mnI (o.getD L) (c.getD 0) else o.getD L) = (mnO o c).getD L := by
  cases c with
  | none => cases o <;> rfl
  | some z =>
    have := h2 z rfl
    cases o with
    | none =>
      show mnI L z = z
      unfold mnI
      rw [dT this, cond_true]
    | some y =>
      show mnI y z = if z < y then z else y
      unfold mnI
      rw [cond_ite]
      simp

/-! ### Maps of numbers -/
def imset (x y : Int) : List (Int × Int) → List (Int × Int)
  | [] => [(x, y)]
  | p :: r => bif x == p.1 then (x, y) :: r else p :: imset x y r
def imget (w : List (Int × Int)) (s : Int) : Option Int := (w.find? fun p => s == p.1).map (·.2)
theorem imget_set (x y : Int) (s : Int) : ∀ (w : List (Int × Int)), imget (imset x y w) s = if s = x then some y else imget w s
  | [] => by
    unfold imget imset
    by_cases h : s = x
    · simp [h]
    · simp [h]
  | p :: w => by
    have ih := imget_set x y s w
    unfold imget at ih ⊢
    unfold imset
    by_cases h : x = p.1
    · rw [show (x == p.1) = true by simp [h], cond_true, List.find?_cons, List.find?_cons]
      by_cases hs : s = x
      · simp [hs]
      · rw [if_neg hs, show (s == (x, y).1) = false by simpa using hs, show (s == p.1) = false by rw [← h]; simpa using hs]
    · rw [show (x == p.1) = false by simpa using h, cond_false, List.find?_cons, List.find?_cons]
      by_cases hs : s = p.1
      · rw [show (s == p.1) = true by simpa using hs, if_neg (by rw [hs]; exact fun e => h e.symm)]
      · rw [show (s == p.1) = false by simpa using hs]
        exact ih
theorem mset_i (x y : Int) : ∀ (w : List (Int × Int)), mset E (.int .i64) (.int .i64) x y w = imset x y w
  | [] => rfl
  | p :: w => by
    show (bif x == p.1 then (x, y) :: w else p :: mset E (.int .i64) (.int .i64) x y w) = (bif x == p.1 then (x, y) :: w else p :: imset x y w)
    rw [mset_i x y w]
theorem mset_t (x : List UInt8) (y : Int) : ∀ (w : List (List UInt8 × Int)), mset E .str (.int .i64) x y w = smset x y w
  | [] => rfl
  | p :: w => by
    show (bif x == p.1 then (x, y) :: w else p :: mset E .str (.int .i64) x y w) = (bif x == p.1 then (x, y) :: w else p :: smset x y w)
    rw [mset_t x y w]

/-! ### Rounds -/
def cov (b : Int) (g : FixedField) : Bool := decide (g.At ≤ b) && decide (b < g.At + g.Wide)
def ovr (f g : FixedField) : Bool := decide (f.At < g.At + g.Wide) && decide (g.At < f.At + f.Wide)
def ovB (lo b : Int) (g : FixedField) : Bool := decide (lo < b) && (decide (g.At < b) && decide (lo < g.At + g.Wide))
theorem ovB_succ {lo b : Int} {g : FixedField} (hw : 1 ≤ g.Wide) (h : lo ≤ b) : ovB lo (b + 1) g = (ovB lo b g || cov b g) := by
  rw [Bool.eq_iff_iff]
  unfold ovB cov
  simp only [Bool.and_eq_true, Bool.or_eq_true, decide_eq_true_eq]
  omega
theorem l3_loop (n m0 : Nat) (v : List FixedField) (v5 v8 : Int) (v22 v23 : Int) (f : FixedField) (hf : Rg f) (w19 : List (Int × Int)) (w20 : List (List UInt8 × Int)) (p : List FixedField) (hp : ∀ g ∈ p, Rg g) (hpl : p.length ≤ v.length)
    (h19 : ∀ b : Int, imget w19 b = J (cov b) p 0) : ∀ (m : Nat) (b : Int), f.At ≤ b → b ≤ f.At + f.Wide → f.At + f.Wide - b < (m : Int) →
    ∃ m', ref2_FieldsErr_l3 n m0 m v v5 v8 ((J (ovB f.At b) p 0).getD (v.length : Int)) b v v22 v23 f w19 w20 = ref2_FieldsErr_l3 n m0 (m' + 1) v v5 v8 ((J (ovr f) p 0).getD (v.length : Int)) (f.At + f.Wide) v v22 v23 f w19 w20 := by
  have hf' := hf
  unfold Rg at hf'
  intro m
  induction m with
  | zero => intro b h1 h2 h3; exfalso; omega
  | succ m ih =>
    intro b h1 h2 h3
    by_cases hb : b < f.At + f.Wide
    · obtain ⟨m', h⟩ := ih (b + 1) (by omega) (by omega) (by omega)
      refine ⟨m', ?_⟩
      rw [← h, ref2_FieldsErr_l3_eq, w64 (x := f.At + f.Wide) (by omega) (by omega), dT hb, cond_true, w64 (x := b + 1) (by omega) (by omega)]
      have e : (J (ovB f.At (b + 1)) p 0) = mnO (J (ovB f.At b) p 0) (J (cov b) p 0) := by
        rw [← J_or]
        exact J_congr fun g hg => ovB_succ (by have := hp g hg; unfold Rg at this; omega) h1
      rw [e, ← mn_step (L := (v.length : Int)) (fun z hz => by have := J_bd _ _ _ _ hz; omega) (fun z hz => by have := J_bd _ _ _ _ hz; omega), ← h19 b]
      unfold mgetD
      rw [show mget E (.int .i64) (.int .i64) w19 b = imget w19 b from rfl]
      cases imget w19 b <;> rfl
    · refine ⟨m, ?_⟩
      have hb : b = f.At + f.Wide := by omega
      rw [hb]
      have e : J (ovB f.At (f.At + f.Wide)) p 0 = J (ovr f) p 0 := J_congr fun g hg => by
        rw [Bool.eq_iff_iff]
        unfold ovB ovr
        simp only [Bool.and_eq_true, decide_eq_true_eq]
        have := hp g hg
        unfold Rg at this
        omega
      rw [e]
theorem l5_loop (n m0 : Nat) (v : List FixedField) (v5 : Int) (v22 v23 : Int) (f : FixedField) (hf : Rg f) (w20 : List (List UInt8 × Int)) : ∀ (m : Nat) (b : Int) (w19 : List (Int × Int)), f.At ≤ b → b ≤ f.At + f.Wide → f.At + f.Wide - b < (m : Int) →
    ∃ w' : List (Int × Int), (∀ s : Int, imget w' s = if b ≤ s ∧ s < f.At + f.Wide then some v5 else imget w19 s) ∧ ref2_FieldsErr_l5 n m0 m v v5 b v v22 v23 f w19 w20 = ref2_FieldsErr_l0 n m0 v v v22 (IntKind.wrap .i64 (v23 + 1)) w' w20 := by
  have hf' := hf
  unfold Rg at hf'
  intro m
  induction m with
  | zero => intro b w19 h1 h2 h3; exfalso; omega
  | succ m ih =>
    intro b w19 h1 h2 h3
    rw [ref2_FieldsErr_l5_eq, w64 (x := f.At + f.Wide) (by omega) (by omega)]
    by_cases hb : b < f.At + f.Wide
    · rw [dT hb, cond_true, w64 (x := b + 1) (by omega) (by omega), mset_i]
      obtain ⟨w', h4, h5⟩ := ih (b + 1) (imset b v5 w19) (by omega) (by omega) (by omega)
      refine ⟨w', fun s => ?_, h5⟩
      rw [h4 s, imget_set]
      by_cases hs : s = b
      · rw [if_pos hs, if_pos (show b ≤ s ∧ s < f.At + f.Wide by omega)]
        split <;> rfl
      · rw [if_neg hs]
        by_cases hs2 : b ≤ s ∧ s < f.At + f.Wide
        · rw [if_pos hs2, if_pos (by omega)]
        · rw [if_neg hs2, if_neg (by omega)]
    · rw [dF hb, cond_false]
      exact ⟨w19, fun s => by rw [if_neg (by omega)], rfl⟩
/-- What two fields are to each other. -/
def prE (f : FixedField) (p : List FixedField) : Int := match J (fun g => g.Name == f.Name) p 0, J (ovr f) p 0 with
  | some a, some c => if a ≤ c then 5 else 17
  | some _, none => 5
  | none, some _ => 17
  | none, none => 0
theorem pr_loop (f : FixedField) (K : Option Int) (step : Nat → FixedField → Unit → (Unit → Option Int) → Option Int) : ∀ (p : List FixedField) (i : Nat), (∀ i g s k, g ∈ p → step i g s k = bif g.Name == f.Name then some 5 else bif ovr f g then some 17 else k ()) →
    foldK step (fun _ => K) p i () = match J (fun g => g.Name == f.Name) p i, J (ovr f) p i with
      | some a, some c => some (if a ≤ c then 5 else 17)
      | some _, none => some 5
      | none, some _ => some 17
      | none, none => K
  | [], i, _ => rfl
  | g :: p, i, h => by
    rw [foldK_cons, h i g _ _ (by simp), pr_loop f K step p (i + 1) fun i g s k hg => h i g s k (by simp [hg])]
    have hp := fun z h => (J_bd (fun g : FixedField => g.Name == f.Name) p (i + 1) z h).1
    have hq := fun z h => (J_bd (ovr f) p (i + 1) z h).1
    rw [J_cons, J_cons]
    cases h1 : g.Name == f.Name with
    | true =>
      simp only [cond_true, if_true]
      cases h2 : ovr f g with
      | true => simp
      | false =>
        simp only [Bool.false_eq_true, if_false]
        cases h3 : J (ovr f) p (i + 1) with
        | none => rfl
        | some z =>
          have := hq z h3
          simp only []
          rw [if_pos (by omega)]
    | false =>
      simp only [cond_false, Bool.false_eq_true, if_false]
      cases h2 : ovr f g with
      | true =>
        simp only [cond_true, if_true]
        cases h3 : J (fun g => g.Name == f.Name) p (i + 1) with
        | none => rfl
        | some z =>
          have := hp z h3
          simp only []
          rw [if_neg (by omega)]
      | false => simp only [cond_false, Bool.false_eq_true, if_false]

/-- Fields that are in order. -/
def V (l : List FixedField) : Prop := (∀ f ∈ l, Rg f) ∧ l.Pairwise fun g f => ovr f g = false
theorem ovr_comm (f g : FixedField) : ovr f g = ovr g f := by unfold ovr; rw [Bool.and_comm]
theorem V_app {p : List FixedField} {f : FixedField} (hp : V p) (hf : Rg f) (h : ∀ g ∈ p, ovr f g = false) : V (p ++ [f]) := by
  refine ⟨fun g hg => ?_, List.pairwise_append.2 ⟨hp.2, List.pairwise_singleton _ _, fun a ha b hb => ?_⟩⟩
  · rcases List.mem_append.1 hg with hg | hg
    · exact hp.1 g hg
    · rw [List.mem_singleton.1 hg]; exact hf
  · rw [List.mem_singleton.1 hb]
    exact h a ha
theorem both (n : Nat) (hn : 1000 < n) (v : List FixedField) (hv : v.length ≤ 24) (nm : List UInt8 → Bool) (hnm : ∀ f ∈ v, value_Name n f.Name = some (nm f.Name)) :
    ∀ (r p : List FixedField) (w19 : List (Int × Int)) (w20 : List (List UInt8 × Int)) (m m' : Nat), v = p ++ r → V p → (∀ b : Int, imget w19 b = J (cov b) p 0) → (∀ s : List UInt8, smget w20 s = J (fun g => g.Name == s) p 0) → r.length < m → r.length < m' →
      ∃ e, ref2_FieldsErr_l0 n m v v (v.length : Int) (p.length : Int) w19 w20 = some e ∧ fixed_Check_l0 n m' v v (v.length : Int) (p.length : Int) = some e ∧ (e = 0 → V v) := by
  intro r
  induction r with
  | nil =>
    intro p w19 w20 m m' hpr hp h19 h20 hm hm'
    have hpr : v = p := by simpa using hpr
    obtain ⟨m, rfl⟩ : ∃ k, m = k + 1 := ⟨m - 1, by simp only [List.length_nil] at hm; omega⟩
    obtain ⟨m', rfl⟩ : ∃ k, m' = k + 1 := ⟨m' - 1, by simp only [List.length_nil] at hm'; omega⟩
    refine ⟨0, ?_, ?_, fun _ => hpr ▸ hp⟩
    · rw [ref2_FieldsErr_l0_eq, dlt, dF (by rw [hpr]; omega), cond_false]
    · rw [fixed_Check_l0_eq, dlt, dF (by rw [hpr]; omega), cond_false]
  | cons f r ih =>
    intro p w19 w20 m m' hpr hp h19 h20 hm hm'
    rw [List.length_cons] at hm hm'
    obtain ⟨m, rfl⟩ : ∃ k, m = k + 1 := ⟨m - 1, by omega⟩
    obtain ⟨m', rfl⟩ : ∃ k, m' = k + 1 := ⟨m' - 1, by omega⟩
    have hl : v.length = p.length + (r.length + 1) := by rw [hpr, List.length_append, List.length_cons]
    have hi : p.length < v.length := by omega
    have hvi : v[p.length] = f := by simp [hpr]
    have hnf := hnm f (by rw [hpr]; simp)
    have htk : List.take p.length v = p := by rw [hpr]; simp
    rw [err_step n m v p.length hi w19 w20 (nm f.Name) (by rw [hvi]; exact hnf), hvi, fixed_Check_l0_eq, dlt, dT hi, d0, cond_true, Bool.true_and, cond_true, Int.toNat_natCast, getD_lt _ hi, hvi, one_ok n f _ hnf, bind_some2, dle, dT (Nat.le_of_lt hi), Bool.and_self, cond_true, htk]
    by_cases ho : oneE (nm f.Name) f = 0
    · have hrf := oneE_rg ho
      have hrf' := hrf
      unfold Rg at hrf'
      rw [if_pos ho, dT ho, Bool.not_true, cond_false]
      have hfold := fixed_Check_l2_fold n m' v v (v.length : Int) (p.length : Int) p f (by omega) n 0 (Nat.zero_le _) (by omega)
      rw [show ((0 : Nat) : Int) = 0 from rfl, List.drop_zero, pr_loop f (fixed_Check_l0 n m' v v (List.length v) (IntKind.wrap .i64 ((p.length : Int) + 1))) _ p 0 ?_] at hfold
      · rw [hfold, h20]
        obtain ⟨m2, h3⟩ := l3_loop n m v (p.length : Int) ((J (fun g => g.Name == f.Name) p 0).getD (v.length : Int)) (v.length : Int) (p.length : Int) f hrf w19 w20 p hp.1 (by omega) h19 n f.At (by omega) (by omega) (by omega)
        rw [show (J (ovB f.At f.At) p 0) = none from J_none.2 fun g _ => by unfold ovB; rw [dF (by omega), Bool.false_and]] at h3
        rw [show (Option.none (α := Int)).getD (v.length : Int) = (v.length : Int) from rfl] at h3
        rw [h3, ref2_FieldsErr_l3_eq, w64 (x := f.At + f.Wide) (by omega) (by omega), dF (show ¬ f.At + f.Wide < f.At + f.Wide by omega), cond_false]
        have b1 := fun z h => J_bd (fun g : FixedField => g.Name == f.Name) p 0 z h
        have b2 := fun z h => J_bd (ovr f) p 0 z h
        cases h1 : J (fun g => g.Name == f.Name) p 0 with
        | some a =>
          have := b1 a h1
          simp only [Option.getD_some]
          rw [dT (show a < (v.length : Int) by omega), cond_true]
          cases h2 : J (ovr f) p 0 with
          | some c =>
            have := b2 c h2
            simp only [Option.getD_some]
            by_cases hac : a ≤ c
            · rw [dT hac, cond_true, if_pos hac]
              exact ⟨5, rfl, rfl, fun h => absurd h (by decide)⟩
            · rw [dF hac, cond_false, dT (show c < (v.length : Int) by omega), cond_true, if_neg hac]
              exact ⟨17, rfl, rfl, fun h => absurd h (by decide)⟩
          | none =>
            simp only [Option.getD_none]
            rw [dT (show a ≤ (v.length : Int) by omega), cond_true]
            exact ⟨5, rfl, rfl, fun h => absurd h (by decide)⟩
        | none =>
          simp only [Option.getD_none]
          rw [dF (show ¬ (v.length : Int) < (v.length : Int) by omega), cond_false]
          cases h2 : J (ovr f) p 0 with
          | some c =>
            have := b2 c h2
            simp only [Option.getD_some]
            rw [dT (show c < (v.length : Int) by omega), cond_true]
            exact ⟨17, rfl, rfl, fun h => absurd h (by decide)⟩
          | none =>
            simp only [Option.getD_none]
            rw [dF (show ¬ (v.length : Int) < (v.length : Int) by omega), cond_false, mset_t]
            obtain ⟨w', h4, h5⟩ := l5_loop n m v (p.length : Int) (v.length : Int) (p.length : Int) f hrf (smset f.Name (p.length : Int) w20) n f.At w19 (by omega) (by omega) (by omega)
            rw [h5, i64_succ (by omega)]
            have e1 : p.length + 1 = (p ++ [f]).length := by simp
            rw [e1]
            refine ih (p ++ [f]) w' _ m m' (by rw [hpr]; simp) (V_app hp hrf (J_none.1 h2)) (fun b => ?_) (fun s => ?_) (by omega) (by omega)
            · rw [h4 b, h19 b, J_app]
              have hc : cov b f = decide (f.At ≤ b ∧ b < f.At + f.Wide) := by
                unfold cov
                rw [Bool.eq_iff_iff]
                simp
              by_cases hb : f.At ≤ b ∧ b < f.At + f.Wide
              · rw [if_pos hb, show J (cov b) p 0 = none from J_none.2 fun g hg => by
                  have := J_none.1 h2 g hg
                  have hg := hp.1 g hg
                  unfold ovr at this
                  unfold Rg at hg
                  unfold cov
                  rw [Bool.and_eq_false_iff, decide_eq_false_iff_not, decide_eq_false_iff_not] at this ⊢
                  omega, hc, dT hb]
                simp
              · rw [if_neg hb, hc, dF hb]
                cases J (cov b) p 0 <;> rfl
            · rw [smget_set, J_app, h20]
              by_cases hs : s = f.Name
              · rw [if_pos hs, hs, h1]
                simp
              · rw [if_neg hs]
                cases J (fun g => g.Name == s) p 0 with
                | some z => rfl
                | none =>
                  have hne : ¬ (f.Name == s) = true := fun e => hs (beq_iff_eq.1 e).symm
                  show none = if (f.Name == s) = true then _ else none
                  rw [if_neg hne]
      · intro i g s k hg
        have hg := hp.1 g hg
        unfold Rg at hg
        rw [w64 (x := g.At + g.Wide) (by omega) (by omega), w64 (x := f.At + f.Wide) (by omega) (by omega)]
        unfold ovr
        cases g.Name == f.Name with
        | true => rfl
        | false =>
          rw [cond_false, cond_false]
          cases decide (f.At < g.At + g.Wide) <;> cases decide (g.At < f.At + f.Wide) <;> rfl
    · rw [if_neg ho, dF ho, Bool.not_false, cond_true]
      exact ⟨_, rfl, rfl, fun h => absurd h ho⟩
theorem check_ok (n : Nat) (hn : 1000 < n) (v : List FixedField) (nm : List UInt8 → Bool) (hnm : ∀ f ∈ v, value_Name n f.Name = some (nm f.Name)) :
    ∃ e, ref2_FieldsErr n v = some e ∧ fixed_Check n v = some e ∧ (e = 0 → V v ∧ v.length ≤ 24) := by
  rw [ref2_FieldsErr_eq, fixed_Check_eq]
  by_cases hv : v.length ≤ 24
  · rw [dF (show ¬ (v.length : Int) > 24 by omega), cond_false, cond_false]
    obtain ⟨e, h1, h2, h3⟩ := both n hn v hv nm hnm v [] [] [] n n rfl ⟨by simp, .nil⟩ (fun _ => rfl) (fun _ => rfl) (by omega) (by omega)
    exact ⟨e, h1, h2, fun h => ⟨h3 h, hv⟩⟩
  · rw [dT (show (v.length : Int) > 24 by omega), cond_true, cond_true]
    exact ⟨2, rfl, rfl, fun h => absurd h (by decide)⟩
/-! ### What a field in order is -/
theorem fieldD {nm : Bool} {f : FixedField} (h : oneE nm f = 0) : (f.Kind = 0 ∨ f.Kind = 1 ∨ f.Kind = 2) ∧ (f.Kind ≠ 0 → 1 ≤ digE f ∧ digE f ≤ 15) := by
  unfold oneE at h
  cases nm with
  | false => rw [if_pos rfl] at h; omega
  | true =>
    rw [if_neg (by simp)] at h
    split at h
    · omega
    split at h
    · omega
    split at h
    · omega
    refine ⟨by omega, fun hk => ?_⟩
    rw [if_neg hk] at h
    split at h
    · omega
    unfold oneD at h
    split at h
    · omega
    split at h
    · omega
    · omega
theorem check_all (n : Nat) (hn : 1000 < n) (v : List FixedField) (hv : v.length ≤ 24) (nm : List UInt8 → Bool) (hnm : ∀ f ∈ v, value_Name n f.Name = some (nm f.Name)) :
    ∀ (r p : List FixedField) (m : Nat), v = p ++ r → (∀ g ∈ p, Rg g) → r.length < m → fixed_Check_l0 n m v v (v.length : Int) (p.length : Int) = some 0 → ∀ f ∈ r, oneE (nm f.Name) f = 0 := by
  intro r
  induction r with
  | nil => intro p m _ _ _ _ f hf; simp at hf
  | cons f r ih =>
    intro p m hpr hp hm h
    rw [List.length_cons] at hm
    obtain ⟨m, rfl⟩ : ∃ k, m = k + 1 := ⟨m - 1, by omega⟩
    have hl : v.length = p.length + (r.length + 1) := by rw [hpr, List.length_append, List.length_cons]
    have hi : p.length < v.length := by omega
    have hvi : v[p.length] = f := by simp [hpr]
    have hnf := hnm f (by rw [hpr]; simp)
    have htk : List.take p.length v = p := by rw [hpr]; simp
    rw [fixed_Check_l0_eq, dlt, dT hi, d0, cond_true, Bool.true_and, cond_true, Int.toNat_natCast, getD_lt _ hi, hvi, one_ok n f _ hnf, bind_some2, dle, dT (Nat.le_of_lt hi), Bool.and_self, cond_true, htk] at h
    by_cases ho : oneE (nm f.Name) f = 0
    · have hrf := oneE_rg ho
      have hrf' := hrf
      unfold Rg at hrf'
      rw [dT ho, Bool.not_true, cond_false] at h
      have hfold := fixed_Check_l2_fold n m v v (v.length : Int) (p.length : Int) p f (by omega) n 0 (Nat.zero_le _) (by omega)
      have hstep : ∀ (i : Nat) (g : FixedField) (s : Unit) (k : Unit → Option Int), g ∈ p → (bif ((g.Name) == f.Name) then (some 5) else (bif (decide (f.At < (IntKind.wrap .i64 ((g.At) + (g.Wide))))) then (bif (decide ((g.At) < (IntKind.wrap .i64 (f.At + f.Wide)))) then (some 17) else (k ())) else (k ()))) = bif g.Name == f.Name then some 5 else bif ovr f g then some 17 else k () := by
        intro i g s k hg
        have hg := hp g hg
        unfold Rg at hg
        rw [w64 (x := g.At + g.Wide) (by omega) (by omega), w64 (x := f.At + f.Wide) (by omega) (by omega)]
        unfold ovr
        cases g.Name == f.Name with
        | true => rfl
        | false =>
          rw [cond_false, cond_false]
          cases decide (f.At < g.At + g.Wide) <;> cases decide (g.At < f.At + f.Wide) <;> rfl
      rw [show ((0 : Nat) : Int) = 0 from rfl, List.drop_zero, pr_loop f (fixed_Check_l0 n m v v (List.length v) (IntKind.wrap .i64 ((p.length : Int) + 1))) _ p 0 hstep] at hfold
      rw [hfold] at h
      have hK : fixed_Check_l0 n m v v (List.length v) (IntKind.wrap .i64 ((p.length : Int) + 1)) = some 0 := by
        cases h1 : J (fun g => g.Name == f.Name) p 0 with
        | some a =>
          cases h2 : J (ovr f) p 0 with
          | some c =>
            rw [h1, h2] at h
            have h := Option.some.inj h
            split at h <;> omega
          | none =>
            rw [h1, h2] at h
            have h := Option.some.inj h
            omega
        | none =>
          cases h2 : J (ovr f) p 0 with
          | some c =>
            rw [h1, h2] at h
            have h := Option.some.inj h
            omega
          | none =>
            rw [h1, h2] at h
            exact h
      rw [i64_succ (by omega), show p.length + 1 = (p ++ [f]).length by simp] at hK
      intro x hx
      rcases List.mem_cons.1 hx with rfl | hx
      · exact ho
      · refine ih (p ++ [f]) m (by rw [hpr]; simp) (fun g hg => ?_) (by omega) hK x hx
        rcases List.mem_append.1 hg with hg | hg
        · exact hp g hg
        · rw [List.mem_singleton.1 hg]; exact hrf
    · rw [dF ho, Bool.not_false, cond_true] at h
      exact absurd (Option.some.inj h) ho
theorem check_one (n : Nat) (hn : 1000 < n) (v : List FixedField) (nm : List UInt8 → Bool) (hnm : ∀ f ∈ v, value_Name n f.Name = some (nm f.Name)) (h : fixed_Check n v = some 0) : v.length ≤ 24 ∧ ∀ f ∈ v, oneE (nm f.Name) f = 0 := by
  rw [fixed_Check_eq] at h
  by_cases hv : v.length ≤ 24
  · rw [dF (show ¬ (v.length : Int) > 24 by omega), cond_false] at h
    exact ⟨hv, check_all n hn v hv nm hnm v [] n rfl (by simp) (by omega) h⟩
  · rw [dT (show (v.length : Int) > 24 by omega), cond_true] at h
    exact absurd (Option.some.inj h) (by decide)
/-! ### Two digits in a byte -/
def IsD (c : UInt8) : Prop := 48 ≤ c.toNat ∧ c.toNat ≤ 57
def pv (c : UInt8) : Nat := c.toNat - 48
def pkL (t : Nat) : List UInt8 → List UInt8
  | [] => []
  | [a] => [UInt8.ofNat (16 * pv a + t)]
  | a :: b :: r => UInt8.ofNat (16 * pv a + pv b) :: pkL t r
theorem dgs_isD : ∀ (D u : Nat), ∀ c ∈ dgs D u, IsD c
  | 0, _, c, h => by cases h
  | D + 1, u, c, h => by
    rcases List.mem_append.1 (show c ∈ dgs D (u / 10) ++ [dch u] from h) with h | h
    · exact dgs_isD D _ c h
    · rw [List.mem_singleton.1 h]
      unfold IsD dch
      have : u % 10 < 10 := Nat.mod_lt _ (by decide)
      rw [UInt8.toNat_ofNat']
      omega
theorem wu8s {x : Int} (h0 : 0 ≤ x) (h : x < 256) : IntKind.wrap .u8 x = x := by
  unfold IntKind.wrap
  simp only [IntKind.signed, IntKind.bits]
  simp
  omega
theorem orD0 : ∀ (a : Fin 10) (b : Fin 16), Fv.bits .or .u8 (shl .u8 (a.val : Int) 4) (b.val : Int) = ((16 * a.val + b.val : Nat) : Int) := by decide +kernel
theorem orD (a b : Nat) (ha : a < 10) (hb : b < 16) : Fv.bits .or .u8 (shl .u8 (a : Int) 4) (b : Int) = ((16 * a + b : Nat) : Int) := orD0 ⟨a, ha⟩ ⟨b, hb⟩
theorem chD {c : UInt8} (h : IsD c) : IntKind.wrap .u8 (((UInt8.toNat c : Nat) : Int) - 48) = (pv c : Int) ∧ pv c < 10 := by
  unfold IsD at h
  unfold pv
  rw [wu8s (by omega) (by omega)]
  omega
theorem ints_one (k : Nat) (h : k < 256) : ints [UInt8.ofNat k] = [(k : Int)] := by
  show [((UInt8.ofNat k).toNat : Int)] = _
  rw [UInt8.toNat_ofNat', Nat.mod_eq_of_lt (by omega)]
theorem pack_loop (n : Nat) (s : List UInt8) (t : Nat) (ht : t < 16) (hs : ∀ c ∈ s, IsD c) (hl : s.length ≤ 2000) : ∀ (r p : List UInt8) (w : List Int) (m : Nat), s = p ++ r → r.length % 2 = 1 → w.length + r.length ≤ 5000 → r.length < m →
    fixed_bytes_l0 n m s (t : Int) (p.length : Int) w = some (w ++ ints (pkL t r))
  | [], p, w, m, _, h, _, _ => by simp at h
  | [a], p, w, m, hp, h, hw, hm => by
    obtain ⟨m, rfl⟩ : ∃ k, m = k + 1 := ⟨m - 1, by simp at hm; omega⟩
    have hsl : s.length = p.length + 1 := by rw [hp]; simp
    have hg : List.getD s p.length 0 = a := by rw [hp]; simp [List.getD]
    obtain ⟨c1, c2⟩ := chD (hs a (by rw [hp]; simp))
    rw [fixed_bytes_l0_eq, i64_succ (by omega), dlt, dF (by omega), cond_false]
    have hlast : IntKind.wrap .i64 ((s.length : Int) - 1) = (p.length : Int) := by rw [hsl]; exact i64_pred (by omega)
    rw [hlast, d0, dlt, dT (show p.length < s.length by omega), Bool.and_self, cond_true, show decide ((0 : Nat) ≤ 4) = true from rfl, cond_true, Int.toNat_natCast, hg, c1, orD _ _ c2 ht, dT rfl, List.length_singleton, dT (show w.length + 1 ≤ 4294967296 by simp at hw; omega), Bool.and_self, cond_true, dT rfl, cond_true]
    show some (w ++ [((16 * pv a + t : Nat) : Int)]) = some (w ++ ints [UInt8.ofNat (16 * pv a + t)])
    rw [ints_one _ (by omega)]
  | a :: b :: r, p, w, m, hp, h, hw, hm => by
    simp only [List.length_cons] at h hw hm
    obtain ⟨m, rfl⟩ : ∃ k, m = k + 1 := ⟨m - 1, by omega⟩
    have hsl : s.length = p.length + (r.length + 2) := by rw [hp]; simp
    have hg : List.getD s p.length 0 = a := by rw [hp]; simp [List.getD]
    have hg2 : List.getD s (p.length + 1) 0 = b := by rw [hp]; simp [List.getD]
    obtain ⟨c1, c2⟩ := chD (hs a (by rw [hp]; simp))
    obtain ⟨c3, c4⟩ := chD (hs b (by rw [hp]; simp))
    rw [fixed_bytes_l0_eq, i64_succ (by omega), dlt, dT (by omega), cond_true, d0, dlt, dT (show p.length < s.length by omega), Bool.and_self, cond_true, show decide ((0 : Nat) ≤ 4) = true from rfl, cond_true, d0, Bool.true_and, cond_true, Int.toNat_natCast, Int.toNat_natCast, hg, hg2, c1, c3, orD _ _ c2 (by omega), dT rfl, List.length_singleton, dT (show w.length + 1 ≤ 4294967296 by omega), Bool.and_self, cond_true, w64 (by omega) (by omega), show (p.length : Int) + 2 = ((p ++ [a, b]).length : Nat) by simp]
    rw [pack_loop n s t ht hs hl r (p ++ [a, b]) _ m (by rw [hp]; simp) (by omega) (by simp; omega) (by omega)]
    show some (w ++ [((16 * pv a + pv b : Nat) : Int)] ++ ints (pkL t r)) = some (w ++ ints (UInt8.ofNat (16 * pv a + pv b) :: pkL t r))
    rw [List.append_assoc, show ints (UInt8.ofNat (16 * pv a + pv b) :: pkL t r) = ints [UInt8.ofNat (16 * pv a + pv b)] ++ ints (pkL t r) from rfl, ints_one _ (by omega)]
theorem hexD_d {c : UInt8} (h : IsD c) : hexD c = some (pv c) := by
  unfold IsD at h
  unfold hexD pv
  rw [if_pos h]
theorem pu_two {a b : UInt8} {x y : Nat} (ha : hexD a = some x) (hb : hexD b = some y) (hx : x < 16) (hy : y < 16) : pu16O [a, b] 16 8 = some ((16 * x + y : Nat) : Int) := by
  have : hexL 0 [a, b] = some (16 * x + y) := by
    simp only [hexL, ha, hb]
    rw [if_pos (by omega), if_pos (by omega)]
    congr 1
    omega
  show (hexL 0 [a, b]).map (fun n => (n : Int)) = _
  rw [this]
  rfl
theorem byts_one (k : Nat) (h : k < 256) : byts [IntKind.wrap .u8 (k : Int)] = [UInt8.ofNat k] := by
  rw [wu8s (by omega) (by omega)]
  rfl
theorem put_loop3 (n : Nat) (s : List UInt8) (ch : UInt8) (t : Nat) (hch : hexD ch = some t) (ht : t < 16) (hs : ∀ c ∈ s, IsD c) (hl : s.length ≤ 2000) : ∀ (r p : List UInt8) (w : List UInt8) (m : Nat), s = p ++ r → r.length % 2 = 1 → w.length + r.length ≤ 5000 → r.length + 1 < m →
    ref2_Put_l3 n m (s ++ [ch]) w (p.length : Int) = some (w ++ pkL t r, 0)
  | [], p, w, m, _, h, _, _ => by simp at h
  | [a], p, w, m, hp, h, hw, hm => by
    simp only [List.length_singleton] at hm hw
    obtain ⟨m, rfl⟩ : ∃ k, m = k + 2 := ⟨m - 2, by omega⟩
    have hsl : (s ++ [ch]).length = p.length + 2 := by rw [hp]; simp
    have hpc : List.drop p.length (List.take (p.length + 2) (s ++ [ch])) = [a, ch] := by
      rw [hp, List.append_assoc, List.take_append, List.take_of_length_le (by omega), show p.length + 2 - p.length = 2 by omega, List.drop_left]
      rfl
    have hsl0 : s.length = p.length + 1 := by rw [hp]; simp
    have hD := hs a (by rw [hp]; simp)
    obtain ⟨_, c2⟩ := chD hD
    rw [ref2_Put_l3_eq, w64 (x := (p.length : Int) + 2) (by omega) (by omega), show (p.length : Int) + 2 = ((p.length + 2 : Nat) : Int) by omega, hsl, dlt, dT (by omega), cond_true, d0, dle, dT (by omega), dle, dT (Nat.le_refl _), Bool.and_self, Bool.and_self, cond_true, Int.toNat_natCast, Int.toNat_natCast, hpc,
      pu_two (hexD_d hD) hch (by omega) ht, bind_some2, byts_one _ (by omega), List.length_singleton, dT (show w.length + 1 ≤ 4294967296 by omega), cond_true, ref2_Put_l3_eq, hsl, dlt, dF (by omega), cond_false]
    rfl
  | a :: b :: r, p, w, m, hp, h, hw, hm => by
    simp only [List.length_cons] at h hw hm
    obtain ⟨m, rfl⟩ : ∃ k, m = k + 1 := ⟨m - 1, by omega⟩
    have hsl : (s ++ [ch]).length = p.length + (r.length + 3) := by rw [hp]; simp
    have hpc : List.drop p.length (List.take (p.length + 2) (s ++ [ch])) = [a, b] := by
      rw [hp, List.append_assoc, List.take_append, List.take_of_length_le (by omega), show p.length + 2 - p.length = 2 by omega, List.drop_left]
      rfl
    have hsl0 : s.length = p.length + (r.length + 2) := by rw [hp]; simp
    have hD := hs a (by rw [hp]; simp)
    have hD2 := hs b (by rw [hp]; simp)
    obtain ⟨_, c2⟩ := chD hD
    obtain ⟨_, c4⟩ := chD hD2
    rw [ref2_Put_l3_eq, w64 (x := (p.length : Int) + 2) (by omega) (by omega), show (p.length : Int) + 2 = ((p.length + 2 : Nat) : Int) by omega, hsl, dlt, dT (by omega), cond_true, d0, dle, dT (by omega), dle, dT (by omega), Bool.and_self, Bool.and_self, cond_true, Int.toNat_natCast, Int.toNat_natCast, hpc,
      pu_two (hexD_d hD) (hexD_d hD2) (by omega) (by omega), bind_some2, byts_one _ (by omega), List.length_singleton, dT (show w.length + 1 ≤ 4294967296 by omega), cond_true, show ((p.length + 2 : Nat) : Int) = ((p ++ [a, b]).length : Nat) by simp]
    rw [put_loop3 n s ch t hch ht hs hl r (p ++ [a, b]) _ m (by rw [hp]; simp) (by omega) (by simp; omega) (by omega)]
    show some (w ++ [UInt8.ofNat (16 * pv a + pv b)] ++ pkL t r, 0) = some (w ++ (UInt8.ofNat (16 * pv a + pv b) :: pkL t r), 0)
    rw [List.append_assoc]
    rfl
/-! ### One value of one field -/
theorem ints_app (a b : List UInt8) : ints (a ++ b) = ints a ++ ints b := List.map_append ..
theorem ints_rep (k : Nat) (c : UInt8) : ints (List.replicate k c) = List.replicate k ((c.toNat : Nat) : Int) := List.map_replicate ..
theorem ints_len (a : List UInt8) : (ints a).length = a.length := List.length_map _
theorem suf_one (l : List UInt8) (a c : UInt8) : Go.Lib.hasSuffix (l ++ [a]) [c] = (c == a) := by
  unfold Go.Lib.hasSuffix
  simp [List.isSuffixOf, List.isPrefixOf]
theorem put_pad (n : Nat) (f : FixedField) (c : UInt8) (hc : byts [f.Pad] = [c]) (W : Nat) (hW : f.Wide = (W : Int)) (hW4 : W ≤ 400) : ∀ (m : Nat) (x : ApiValue), x.S.length ≤ W → W - x.S.length < m → ref2_Put_l1 n m f x = some (x.S ++ List.replicate (W - x.S.length) c, 0) := by
  intro m
  induction m with
  | zero => intro x _ h; omega
  | succ m ih =>
    intro x h1 h2
    rw [ref2_Put_l1_eq, hW, dlt]
    by_cases hk : x.S.length < W
    · rw [dT hk, cond_true, hc, List.length_singleton, dT (show x.S.length + 1 ≤ 4294967296 by omega), cond_true, ih (ApiValue.mk x.Kind x.N (x.S ++ [c]) x.Fields) (by simp; omega) (by simp; omega)]
      show some ((x.S ++ [c]) ++ List.replicate (W - (x.S ++ [c]).length) c, 0) = _
      rw [List.length_append, List.length_singleton, show W - x.S.length = (W - (x.S.length + 1)) + 1 by omega, List.replicate_succ, List.append_assoc]
      rfl
    · rw [dF hk, cond_false, show W - x.S.length = 0 by omega, List.replicate_zero, List.append_nil]
theorem text_ok (n : Nat) (hn : 5000 < n) (f : FixedField) (hr : Rg f) (hk : f.Kind = 0) (hp : 0 ≤ f.Pad ∧ f.Pad < 256) (x : ApiValue) (hS : x.S.length ≤ 4194304) :
    (∃ e, e ≠ 0 ∧ fixed_fits n f x = some e ∧ ref2_Put n f x = some ([], e)) ∨ (∃ s, fixed_fits n f x = some 0 ∧ ref2_Put n f x = some (s, 0) ∧ fixed_bytes n f x = some (ints s) ∧ s.length ≤ 2000) := by
  unfold Rg at hr
  obtain ⟨W, hW⟩ : ∃ W : Nat, f.Wide = (W : Int) := ⟨f.Wide.toNat, by omega⟩
  obtain ⟨q, hq⟩ : ∃ q : Nat, f.Pad = (q : Int) := ⟨f.Pad.toNat, by omega⟩
  have hc : byts [f.Pad] = [UInt8.ofNat q] := by rw [hq]; rfl
  have hct : (UInt8.ofNat q).toNat = q := by rw [UInt8.toNat_ofNat']; omega
  rw [fixed_fits_eq, ref2_Put_eq, dT hk, cond_true, cond_true]
  by_cases h5 : x.Kind = 5
  · rw [dT h5, Bool.not_true, cond_false, cond_false]
    by_cases hL : W < x.S.length
    · rw [dT (show (x.S.length : Int) > f.Wide by omega), cond_true, cond_true]
      exact .inl ⟨2, by decide, rfl, rfl⟩
    · rw [dF (show ¬ (x.S.length : Int) > f.Wide by omega), cond_false, cond_false, hc]
      have hsf : hasSufO x.S [UInt8.ofNat q] = some (Go.Lib.hasSuffix x.S [UInt8.ofNat q]) := by
        unfold hasSufO
        rw [dT (show x.S.length ≤ 4294967296 by omega)]
        rfl
      rw [hsf, bind_some2]
      have good : Go.Lib.hasSuffix x.S [UInt8.ofNat q] = false → ∃ s, ref2_Put_l1 n n f x = some (s, 0) ∧ fixed_bytes n f x = some (ints s) ∧ s.length ≤ 2000 := by
        intro _
        refine ⟨_, put_pad n f _ hc W hW (by omega) n x (by omega) (by omega), ?_, by rw [List.length_append, List.length_replicate]; omega⟩
        rw [fixed_bytes_eq, dT hk, cond_true, w64 (by omega) (by omega), show f.Wide - (x.S.length : Int) = ((W - x.S.length : Nat) : Int) by omega, rep_ok n f.Pad (W - x.S.length) (by omega) (by omega), bind_some2, dT rfl, List.take_length, ints_len, List.length_replicate, dT (show x.S.length + (W - x.S.length) ≤ 4294967296 by omega), Bool.and_self, cond_true, dT rfl, cond_true, ints_app, ints_rep, hct, hq]
      rcases List.eq_nil_or_concat x.S with h0 | ⟨l, a, h0⟩
      · obtain ⟨s, g1, g2, g3⟩ := good (by rw [h0]; rfl)
        refine .inr ⟨s, ?_, ?_, g2, g3⟩
        · rw [h0]; rfl
        · rw [show Go.Lib.hasSuffix x.S [UInt8.ofNat q] = false by rw [h0]; rfl, cond_false]
          exact g1
      · rw [List.concat_eq_append] at h0
        have hne : (x.S == []) = false := by rw [h0]; cases l <;> rfl
        have hlen : x.S.length = l.length + 1 := by rw [h0]; simp
        have hlast : IntKind.wrap .i64 ((x.S.length : Int) - 1) = (l.length : Int) := by rw [hlen]; exact i64_pred (by omega)
        have hg : List.getD x.S l.length 0 = a := by rw [h0]; simp [List.getD]
        rw [hne, Bool.not_false, cond_true, hlast, d0, dlt, dT (show l.length < x.S.length by omega), Bool.and_self, cond_true, Int.toNat_natCast, hg]
        have hsuf : Go.Lib.hasSuffix x.S [UInt8.ofNat q] = (UInt8.ofNat q == a) := by rw [h0, suf_one]
        by_cases he : UInt8.ofNat q = a
        · rw [hsuf, show (UInt8.ofNat q == a) = true by rw [he]; simp, cond_true, ← he, hct, dT hq.symm, cond_true]
          exact .inl ⟨18, by decide, rfl, rfl⟩
        · have hb : (UInt8.ofNat q == a) = false := beq_eq_false_iff_ne.2 he
          have hn2 : ¬ ((a.toNat : Nat) : Int) = f.Pad := fun h => he (by
            apply UInt8.toNat_inj.1
            rw [hct]
            omega)
          obtain ⟨s, g1, g2, g3⟩ := good (by rw [hsuf, hb])
          refine .inr ⟨s, ?_, ?_, g2, g3⟩
          · rw [dF hn2, cond_false]
          · rw [hsuf, hb, cond_false]
            exact g1
  · rw [dF h5, Bool.not_false, cond_true, cond_true]
    exact .inl ⟨8, by decide, rfl, rfl⟩
/-! ### How wide -/
def endF (f : FixedField) : Int := f.At + f.Wide
def mxL (l : List FixedField) : Int := l.foldl (fun s a => mxI s (IntKind.wrap .i64 (a.At + a.Wide))) 0
theorem wide_ok (n : Nat) (l : List FixedField) (hl : l.length < 4611686018427387904) (hn : l.length < n) : fixed_Wide n l = some (mxL l) := by
  have h := fixed_Wide_l0_fold n l 0 (by omega) n 0 (Nat.zero_le _) (by omega)
  rw [show ((0 : Nat) : Int) = 0 from rfl] at h
  rw [fixed_Wide_eq, h, List.drop_zero, foldK_all (fun s a => mxI s (IntKind.wrap .i64 (a.At + a.Wide))) l 0 0 fun i a s K _ => rfl]
  rfl
theorem breadth_ok (n : Nat) (l : List FixedField) (hl : l.length < 4611686018427387904) (hn : l.length < n) : ref2_Breadth n l = some (mxL l) := by
  have h := ref2_Breadth_l0_fold n l 0 (by omega) n 0 (Nat.zero_le _) (by omega)
  rw [show ((0 : Nat) : Int) = 0 from rfl] at h
  rw [ref2_Breadth_eq, h, List.drop_zero, foldK_all (fun s a => mxI s (IntKind.wrap .i64 (a.At + a.Wide))) l 0 0 fun i a s K _ => by
    show (bif _ then _ else _) = K (bif _ then _ else _)
    cases decide (IntKind.wrap .i64 (a.At + a.Wide) > s) <;> rfl]
  rfl
theorem mxL_spec : ∀ (l : List FixedField) (s : Int), (∀ f ∈ l, Rg f) → (∀ f ∈ l, endF f ≤ l.foldl (fun s a => mxI s (IntKind.wrap .i64 (a.At + a.Wide))) s) ∧ s ≤ l.foldl (fun s a => mxI s (IntKind.wrap .i64 (a.At + a.Wide))) s ∧
    (l.foldl (fun s a => mxI s (IntKind.wrap .i64 (a.At + a.Wide))) s = s ∨ ∃ f ∈ l, l.foldl (fun s a => mxI s (IntKind.wrap .i64 (a.At + a.Wide))) s = endF f)
  | [], s, _ => ⟨by simp, Int.le_refl _, .inl rfl⟩
  | f :: r, s, h => by
    have hf := h f (by simp)
    unfold Rg at hf
    obtain ⟨i1, i2, i3⟩ := mxL_spec r (mxI s (IntKind.wrap .i64 (f.At + f.Wide))) fun g hg => h g (by simp [hg])
    rw [List.foldl_cons]
    have e : (mxI s (IntKind.wrap .i64 (f.At + f.Wide)) = s ∧ endF f ≤ s) ∨ (mxI s (IntKind.wrap .i64 (f.At + f.Wide)) = endF f ∧ s ≤ endF f) := by
      rw [w64 (by omega) (by omega)]
      unfold mxI endF
      by_cases hc : f.At + f.Wide > s
      · rw [dT hc, cond_true]; exact .inr ⟨rfl, by omega⟩
      · rw [dF hc, cond_false]; exact .inl ⟨rfl, by omega⟩
    generalize List.foldl (fun s a => mxI s (IntKind.wrap .i64 (a.At + a.Wide))) (mxI s (IntKind.wrap .i64 (f.At + f.Wide))) r = z at i1 i2 i3 ⊢
    refine ⟨fun g hg => ?_, by omega, ?_⟩
    · rcases List.mem_cons.1 hg with rfl | hg
      · omega
      · exact i1 g hg
    · rcases i3 with h3 | ⟨g, hg, h3⟩
      · rcases e with ⟨e, _⟩ | ⟨e, _⟩
        · exact .inl (h3.trans e)
        · exact .inr ⟨f, by simp, h3.trans e⟩
      · exact .inr ⟨g, by simp [hg], h3⟩
/-! ### A number with a point -/
theorem dec_head : ∀ (u : Nat), ∀ c ∈ Go.Lib.decDigits u, c ≠ 45 := by
  intro u
  induction u using Nat.strongRecOn with
  | _ u ih =>
    intro c hc
    rw [Go.Lib.decDigits] at hc
    split at hc
    · rename_i h
      rw [List.mem_singleton.1 hc]
      have h10 : ∀ k : Fin 10, UInt8.ofNat (48 + k.val) ≠ 45 := by decide
      exact h10 ⟨u, h⟩
    · rename_i h
      rcases List.mem_append.1 hc with hc | hc
      · exact ih (u / 10) (by omega) c hc
      · rw [List.mem_singleton.1 hc]
        have h10 : ∀ k : Fin 10, UInt8.ofNat (48 + k.val) ≠ 45 := by decide
        exact h10 ⟨u % 10, by omega⟩
theorem trim_dec (u : Nat) : Go.Lib.trimPrefix (Go.Lib.decDigits u) [45] = Go.Lib.decDigits u := by
  have h := dec_head u
  unfold Go.Lib.trimPrefix Go.Lib.hasPrefix
  cases hd : Go.Lib.decDigits u with
  | nil => rfl
  | cons c r =>
    rw [hd] at h
    have := h c (by simp)
    rw [if_neg]
    simp only [List.isPrefixOf, Bool.and_true, beq_iff_eq]
    exact fun e => this e.symm
theorem trim_neg (s : List UInt8) : Go.Lib.trimPrefix (45 :: s) [45] = s := by
  unfold Go.Lib.trimPrefix Go.Lib.hasPrefix
  rw [if_pos (by simp [List.isPrefixOf])]
  rfl
theorem rep_zero : ∀ k : Nat, Go.Lib.repeatL [48] k = List.replicate k 48
  | 0 => rfl
  | k + 1 => by
    show [48] ++ Go.Lib.repeatL [48] k = _
    rw [rep_zero k]
    rfl
def padL (k : Nat) (d : List UInt8) : List UInt8 := List.replicate (k + 1 - d.length) 48 ++ d
def pntL (k : Nat) (t : List UInt8) : List UInt8 := if 0 < k then List.take (t.length - k) t ++ [46] ++ List.drop (t.length - k) t else t
def shE (z : Int) (k : Nat) : List UInt8 := if z < 0 then 45 :: pntL k (padL k (Go.Lib.decDigits z.natAbs)) else pntL k (padL k (Go.Lib.decDigits z.natAbs))
theorem padL_len (k : Nat) (d : List UInt8) : k + 1 ≤ (padL k d).length ∧ (padL k d).length ≤ k + 1 + d.length := by
  unfold padL
  rw [List.length_append, List.length_replicate]
  omega
theorem scale_nat (z : Int) : ∃ k : Nat, mxI (0 : Int) (mnI (15 : Int) z) = (k : Int) ∧ k ≤ 15 ∧ k = z.toNat.min 15 := by
  have e : mxI (0 : Int) (mnI (15 : Int) z) = (z.toNat.min 15 : Nat) := by
    unfold mxI mnI
    by_cases h : z < 15
    · rw [dT h, cond_true]
      by_cases h2 : z > 0
      · rw [dT h2, cond_true]
        have : z.toNat.min 15 = z.toNat := Nat.min_eq_left (by omega)
        rw [this]; omega
      · rw [dF h2, cond_false]
        have : z.toNat = 0 := by omega
        rw [this]; rfl
    · rw [dF h, cond_false, dT (by decide), cond_true]
      have : z.toNat.min 15 = 15 := Nat.min_eq_right (by omega)
      rw [this]; rfl
  exact ⟨_, e, Nat.min_le_right _ _, rfl⟩
theorem abs_ok {z : Int} (h1 : -9223372036854775808 ≤ z) (h2 : z < 9223372036854775808) : IntKind.wrap .u64 (mxI z (IntKind.wrap .i64 (0 - z))) = (z.natAbs : Int) ∧ z.natAbs ≤ 9223372036854775808 := by
  have wu : ∀ x : Int, IntKind.wrap .u64 x = x % 18446744073709551616 := fun x => by unfold IntKind.wrap; simp [IntKind.signed, IntKind.bits]
  rw [wu]
  by_cases hm : z = -9223372036854775808
  · subst hm
    exact ⟨by decide, by decide⟩
  · rw [w64 (by omega) (by omega)]
    unfold mxI
    by_cases h : 0 - z > z
    · rw [dT h, cond_true]; omega
    · rw [dF h, cond_false]; omega
theorem dec_len (z : Int) (h : z.natAbs ≤ 9223372036854775808) : 1 ≤ (Go.Lib.decDigits z.natAbs).length ∧ (Go.Lib.decDigits z.natAbs).length ≤ 20 := by
  rw [Go.Lib.decDigits_length]
  refine ⟨Go.Lib.nDigits_pos _, ?_⟩
  by_cases h0 : z.natAbs = 0
  · rw [h0, Go.Lib.nDigits_small (by decide)]; decide
  · obtain ⟨a, b⟩ := Go.Lib.numDigits_eq z.natAbs (by omega) (by omega)
    split at a <;> omega
/-- The point and the sign. -/
theorem tail_ok (z : Int) (k : Nat) (hk : k ≤ 15) (t : List UInt8) (ht : k + 1 ≤ t.length) (ht2 : t.length ≤ 1000) :
    (bif (decide ((k : Int) > 0)) then (bif (decide (0 ≤ (IntKind.wrap .i64 ((List.length t : Int) - (k : Int)))) && decide ((IntKind.wrap .i64 ((List.length t : Int) - (k : Int))) ≤ (List.length t))) then (bif (decide (List.length (List.take (Int.toNat (IntKind.wrap .i64 ((List.length t : Int) - (k : Int)))) t) + List.length [46] ≤ 4294967296)) then (bif (decide (0 ≤ (IntKind.wrap .i64 ((List.length t : Int) - (k : Int)))) && decide ((IntKind.wrap .i64 ((List.length t : Int) - (k : Int))) ≤ (List.length t))) then (bif (decide (List.length ((List.take (Int.toNat (IntKind.wrap .i64 ((List.length t : Int) - (k : Int)))) t) ++ [46]) + List.length (List.drop (Int.toNat (IntKind.wrap .i64 ((List.length t : Int) - (k : Int)))) t) ≤ 4294967296)) then (bif (decide (z < 0)) then (bif (decide (List.length ([45] : List UInt8) + List.length (((List.take (Int.toNat (IntKind.wrap .i64 ((List.length t : Int) - (k : Int)))) t) ++ [46]) ++ (List.drop (Int.toNat (IntKind.wrap .i64 ((List.length t : Int) - (k : Int)))) t)) ≤ 4294967296)) then (some (([45] : List UInt8) ++ (((List.take (Int.toNat (IntKind.wrap .i64 ((List.length t : Int) - (k : Int)))) t) ++ [46]) ++ (List.drop (Int.toNat (IntKind.wrap .i64 ((List.length t : Int) - (k : Int)))) t)))) else none) else (some (((List.take (Int.toNat (IntKind.wrap .i64 ((List.length t : Int) - (k : Int)))) t) ++ [46]) ++ (List.drop (Int.toNat (IntKind.wrap .i64 ((List.length t : Int) - (k : Int)))) t)))) else none) else none) else none) else none) else (bif (decide (z < 0)) then (bif (decide (List.length ([45] : List UInt8) + List.length t ≤ 4294967296)) then (some (([45] : List UInt8) ++ t)) else none) else (some t)))
      = some (if z < 0 then 45 :: pntL k t else pntL k t) := by
  have hw : IntKind.wrap .i64 ((List.length t : Int) - (k : Int)) = ((t.length - k : Nat) : Int) := by rw [w64 (by omega) (by omega)]; omega
  rw [hw, Int.toNat_natCast, d0, dle, dT (show t.length - k ≤ t.length by omega)]
  unfold pntL
  have l1 : List.length (List.take (t.length - k) t) + List.length [46] ≤ 4294967296 := by rw [List.length_take, List.length_singleton]; omega
  have l2 : (List.take (t.length - k) t ++ [46]).length + (List.drop (t.length - k) t).length ≤ 4294967296 := by rw [List.length_append, List.length_take, List.length_singleton, List.length_drop]; omega
  have l3 : [(45 : UInt8)].length + (List.take (t.length - k) t ++ [46] ++ List.drop (t.length - k) t).length ≤ 4294967296 := by rw [List.length_append, List.length_append, List.length_take, List.length_singleton, List.length_drop, List.length_singleton]; omega
  have l4 : [(45 : UInt8)].length + t.length ≤ 4294967296 := by rw [List.length_singleton]; omega
  rw [dT l1, dT l2, dT l3, dT l4]
  simp only [Bool.and_self, cond_true]
  by_cases hk0 : 0 < k
  · rw [dT (show (k : Int) > 0 by omega), if_pos hk0]
    by_cases hz : z < 0
    · rw [dT hz, if_pos hz]; rfl
    · rw [dF hz, if_neg hz]; rfl
  · rw [dF (show ¬ (k : Int) > 0 by omega), if_neg hk0]
    by_cases hz : z < 0
    · rw [dT hz, if_pos hz]; rfl
    · rw [dF hz, if_neg hz]; rfl
theorem shown_ok (n : Nat) (z s : Int) (h1 : -9223372036854775808 ≤ z) (h2 : z < 9223372036854775808) : fixed_Shown n z s = some (shE z (s.toNat.min 15)) := by
  obtain ⟨k, hk, hk15, e⟩ := scale_nat s
  obtain ⟨ha, hb⟩ := abs_ok h1 h2
  obtain ⟨d1, d2⟩ := dec_len z hb
  rw [← e, fixed_Shown_eq, hk, ha]
  have hf : fmtuO ((z.natAbs : Nat) : Int) 10 = some (Go.Lib.decDigits z.natAbs) := by
    unfold fmtuO u64R
    rw [d0, dT (by omega), dT rfl, Int.toNat_natCast]
    rfl
  rw [hf, bind_some2]
  unfold shE
  generalize Go.Lib.decDigits z.natAbs = d at d1 d2 ⊢
  have hpl := padL_len k d
  by_cases hd : d.length ≤ k
  · rw [dle, dT hd, cond_true]
    have hr : repO [48] (IntKind.wrap .i64 (IntKind.wrap .i64 ((k : Int) + 1) - (d.length : Int))) = some (List.replicate (k + 1 - d.length) 48) := by
      rw [w64 (x := (k : Int) + 1) (by omega) (by omega), w64 (by omega) (by omega)]
      unfold repO
      rw [dT (show (0 : Int) ≤ (k : Int) + 1 - (d.length : Int) by omega), dT (show (k : Int) + 1 - (d.length : Int) ≤ 4294967296 by omega), dT (show List.length [(48 : UInt8)] ≤ 32768 by decide), show ((k : Int) + 1 - (d.length : Int)).toNat = k + 1 - d.length by omega, rep_zero]
      rfl
    rw [hr, bind_some2, dT (show List.length (List.replicate (k + 1 - d.length) (48 : UInt8)) + d.length ≤ 4294967296 by rw [List.length_replicate]; omega), cond_true]
    have ht := tail_ok z k hk15 (padL k d) hpl.1 (by omega)
    unfold padL at ht ⊢
    exact ht
  · rw [dle, dF hd, cond_false]
    have hp : padL k d = d := by unfold padL; rw [show k + 1 - d.length = 0 by omega]; rfl
    rw [hp] at hpl ⊢
    exact tail_ok z k hk15 d hpl.1 (by omega)
theorem widths_ok (n : Nat) : law2_widths n = some true := by
  have e1 : fixed_Shown n (-5) 2 = some [45, 48, 46, 48, 53] := by
    rw [shown_ok n (-5) 2 (by decide) (by decide)]
    unfold shE
    rw [if_pos (by decide), show (-5 : Int).natAbs = 5 from rfl, Go.Lib.decDigits_one (by decide)]
    rfl
  have e2 : fixed_Shown n 7 0 = some [55] := by
    rw [shown_ok n 7 0 (by decide) (by decide)]
    unfold shE
    rw [if_neg (by decide), show (7 : Int).natAbs = 7 from rfl, Go.Lib.decDigits_one (by decide)]
    rfl
  rw [law2_widths_eq, e1, bind_some2, e2, bind_some2]
  rfl
theorem num_ok (n : Nat) (hn : 5000 < n) (f : FixedField) (hr : Rg f) (hk : f.Kind = 1 ∨ f.Kind = 2) (hd : 1 ≤ digE f ∧ digE f ≤ 15) (x : ApiValue) (hN : -9223372036854775808 ≤ x.N ∧ x.N < 9223372036854775808) :
    (∃ e, e ≠ 0 ∧ fixed_fits n f x = some e ∧ ref2_Put n f x = some ([], e)) ∨ (∃ s, fixed_fits n f x = some 0 ∧ ref2_Put n f x = some (s, 0) ∧ fixed_bytes n f x = some (ints s) ∧ s.length ≤ 2000) := by
  unfold Rg at hr
  obtain ⟨D, hD⟩ : ∃ D : Nat, digE f = (D : Int) := ⟨(digE f).toNat, by omega⟩
  have hD1 : 1 ≤ D ∧ D ≤ 15 := by omega
  have hk0 : ¬ f.Kind = 0 := by omega
  obtain ⟨u, hu⟩ : ∃ u : Nat, x.N.natAbs = u := ⟨_, rfl⟩
  have hp15 : 10 ^ D ≤ 10 ^ 15 := Nat.pow_le_pow_right (by decide) hD1.2
  have hdl : (Go.Lib.decDigits u).length ≤ D ↔ u < 10 ^ D := by
    obtain ⟨D', rfl⟩ : ∃ D', D = D' + 1 := ⟨D - 1, by omega⟩
    exact dlen_iff D' u
  rw [fixed_fits_eq, ref2_Put_eq, dF hk0, cond_false, cond_false, digits_ok, bind_some2, hD, power_ok n D hD1.2 (by omega), bind_some2]
  generalize hz : 10 ^ D = z at hp15 hdl
  by_cases h2 : x.Kind = 2
  · rw [dT h2, Bool.not_true, cond_false, cond_false]
    have hi : itoaO x.N = some (Go.Lib.itoa x.N) := by
      unfold itoaO i64R
      rw [dT hN.1, dT (show x.N ≤ 9223372036854775807 by omega)]
      rfl
    have ht : Go.Lib.trimPrefix (Go.Lib.itoa x.N) [45] = Go.Lib.decDigits u := by
      unfold Go.Lib.itoa
      by_cases hz : x.N < 0
      · rw [if_pos hz, trim_neg, hu]
      · rw [if_neg hz, trim_dec, show x.N.toNat = u by omega]
    have hw : IntKind.wrap .i64 (0 - (z : Int)) = -(z : Int) := by rw [w64 (by omega) (by omega)]; omega
    simp only [hi, bind_some2, places_ok, hD, ht, hw]
    by_cases hbig : z ≤ u
    · have hgt : ((Go.Lib.decDigits u).length : Int) > (D : Int) := by
        have := mt hdl.1 (by omega)
        omega
      refine .inl ⟨11, by decide, ?_, ?_⟩
      · by_cases ha : x.N ≥ (z : Int)
        · rw [dT ha, cond_true]
        · rw [dF ha, cond_false, dT (show x.N ≤ -(z : Int) by omega), cond_true]
      · rw [dT hgt, cond_true]
        cases decide (x.N < 0) <;> cases f.Signed <;> rfl
    · have hle : (Go.Lib.decDigits u).length ≤ D := hdl.2 (by omega)
      have hngt : ¬ ((Go.Lib.decDigits u).length : Int) > (D : Int) := by omega
      rw [dF hngt, cond_false, dF (show ¬ x.N ≥ (z : Int) by omega), cond_false, dF (show ¬ x.N ≤ -(z : Int) by omega), cond_false]
      by_cases hsg : x.N < 0 ∧ f.Signed = false
      · rw [dT hsg.1, hsg.2]
        exact .inl ⟨11, by decide, rfl, rfl⟩
      · right
        have hfit : (bif decide (x.N < 0) then bif !f.Signed then some (11 : Int) else some 0 else some 0) = some 0 := by
          by_cases hn0 : x.N < 0
          · have : f.Signed = true := by
              cases hf : f.Signed with
              | true => rfl
              | false => exact absurd ⟨hn0, hf⟩ hsg
            rw [dT hn0, this]; rfl
          · rw [dF hn0]; rfl
        rw [hfit]
        have hmx : mxI x.N (IntKind.wrap .i64 (0 - x.N)) = (u : Int) := by
          rw [w64 (by omega) (by omega)]
          unfold mxI
          by_cases h : 0 - x.N > x.N
          · rw [dT h, cond_true]; omega
          · rw [dF h, cond_false]; omega
        have hsh : ref2_shown n f x.N = some (dgs D u) := by
          rw [ref2_shown_eq, hmx, shown_loop n f D hD (by omega) n u [] (by omega) (by simp) (by simp; omega), List.length_nil, Nat.sub_zero, List.append_nil]
        have hiu : itoaO (u : Int) = some (Go.Lib.decDigits u) := by
          unfold itoaO i64R
          rw [dT (show (-9223372036854775808 : Int) ≤ (u : Int) by omega), dT (show (u : Int) ≤ 9223372036854775807 by omega), Go.Lib.itoa_nonneg]
          rfl
        have hrp : repO [48] (IntKind.wrap .i64 ((D : Int) - ((Go.Lib.decDigits u).length : Int))) = some (List.replicate (D - (Go.Lib.decDigits u).length) 48) := by
          rw [w64 (by omega) (by omega)]
          unfold repO
          rw [dT (show (0 : Int) ≤ (D : Int) - ((Go.Lib.decDigits u).length : Int) by omega), dT (show (D : Int) - ((Go.Lib.decDigits u).length : Int) ≤ 4294967296 by omega), dT (show List.length [(48 : UInt8)] ≤ 32768 by decide), show ((D : Int) - ((Go.Lib.decDigits u).length : Int)).toNat = D - (Go.Lib.decDigits u).length by omega, rep_zero]
          rfl
        have hpad := pad_dgs D u hle
        have hdl2 := dgs_len D u
        have hlen3 : (List.replicate (D - (Go.Lib.decDigits u).length) (48 : UInt8)).length + (Go.Lib.decDigits u).length ≤ 4294967296 := by rw [List.length_replicate]; omega
        have hbit : ∀ b : Bool, ref2_bit n b = some (if b = true then 1 else 0) := fun b => by rw [ref2_bit_eq]; cases b <;> rfl
        rw [fixed_bytes_eq, dF hk0, cond_false]
        simp only [hsh, bind_some2, hmx, hiu, digits_ok, hD, hrp, dT hlen3, cond_true, hpad, hbit]
        rcases hk with hk1 | hk2
        · rw [dT hk1]
          simp only [cond_true]
          by_cases hs : f.Signed = true
          · rw [hs]
            simp only [cond_true, Bool.not_true, cond_false]
            have l1 : ∀ c : UInt8, [c].length + (dgs D u).length ≤ 4294967296 := fun c => by rw [List.length_singleton, hdl2]; omega
            by_cases hn0 : x.N < 0
            · rw [dT hn0]
              refine ⟨[45] ++ dgs D u, by first | rfl | trivial, ?_, ?_, by rw [List.length_append, hdl2, List.length_singleton]; omega⟩
              · simp only [cond_true, if_true]
                show (bif decide (([45] : List UInt8).length + (dgs D u).length ≤ 4294967296) then some ([45] ++ dgs D u, (0 : Int)) else none) = _
                rw [dT (l1 45)]; rfl
              · simp only [cond_true]
                rw [dT (l1 45), cond_true]
                first | rfl | (rw [dT rfl]; rfl)
            · rw [dF hn0]
              refine ⟨[43] ++ dgs D u, by first | rfl | trivial, ?_, ?_, by rw [List.length_append, hdl2, List.length_singleton]; omega⟩
              · simp only [cond_false, Bool.false_eq_true, if_false]
                show (bif decide (([43] : List UInt8).length + (dgs D u).length ≤ 4294967296) then some ([43] ++ dgs D u, (0 : Int)) else none) = _
                rw [dT (l1 43)]; rfl
              · simp only [cond_false]
                rw [dT (l1 43), cond_true]
                first | rfl | (rw [dT rfl]; rfl)
          · have hs : f.Signed = false := by cases hf : f.Signed with | true => exact absurd hf hs | false => rfl
            have hn0 : ¬ x.N < 0 := fun h => hsg ⟨h, hs⟩
            rw [hs, dF hn0]
            simp only [cond_false]
            refine ⟨dgs D u, by first | rfl | trivial, by first | rfl | trivial, ?_, by rw [hdl2]; omega⟩
            first | rfl | (rw [dT rfl]; rfl)
        · have hk1 : ¬ f.Kind = 1 := by omega
          rw [dF hk1]
          simp only [cond_false]
          have hodd : (dgs D u).length % 2 = 1 := by
            rw [hdl2]
            unfold digE at hD
            rw [if_neg hk1, if_pos hk2, w64 (x := (2 : Int) * f.Wide) (by omega) (by omega), w64 (by omega) (by omega)] at hD
            omega
          have hisD := dgs_isD D u
          have pl : ∀ (ch : UInt8) (t : Nat), hexD ch = some t → t < 16 → ref2_Put_l3 n n (dgs D u ++ [ch]) [] 0 = some (pkL t (dgs D u), 0) ∧ fixed_bytes_l0 n n (dgs D u) (t : Int) 0 [] = some (ints (pkL t (dgs D u))) := by
            intro ch t h1 h2
            have a := put_loop3 n (dgs D u) ch t h1 h2 hisD (by omega) (dgs D u) [] [] n rfl hodd (by simp; omega) (by omega)
            have b := pack_loop n (dgs D u) t h2 hisD (by omega) (dgs D u) [] [] n rfl hodd (by simp; omega) (by omega)
            exact ⟨a, b⟩
          have pkl : ∀ (t : Nat) (l : List UInt8), (pkL t l).length ≤ l.length := by
            intro t l
            induction l using pkL.induct with
            | case1 => simp [pkL]
            | case2 a => simp [pkL]
            | case3 a b r ih => simp only [pkL, List.length_cons]; omega
          have l1 : ∀ c : UInt8, (dgs D u).length + [c].length ≤ 4294967296 := fun c => by rw [List.length_singleton, hdl2]; omega
          by_cases hn0 : x.N < 0
          · have hs : f.Signed = true := by
              cases hf : f.Signed with
              | true => rfl
              | false => exact absurd ⟨hn0, hf⟩ hsg
            obtain ⟨g1, g2⟩ := pl 100 13 (by decide) (by decide)
            rw [dT hn0, hs]
            refine ⟨_, by first | rfl | trivial, ?_, g2, by have := pkl 13 (dgs D u); omega⟩
            simp only [cond_true, if_true, Bool.not_true, cond_false]
            show (bif decide ((dgs D u).length + ([100] : List UInt8).length ≤ 4294967296) then ref2_Put_l3 n n (dgs D u ++ [100]) [] 0 else none) = _
            rw [dT (l1 100)]
            exact g1
          · obtain ⟨g1, g2⟩ := pl 99 12 (by decide) (by decide)
            rw [dF hn0]
            refine ⟨_, by first | rfl | trivial, ?_, g2, by have := pkl 12 (dgs D u); omega⟩
            simp only [cond_false, Bool.false_eq_true, if_false]
            show (bif decide ((dgs D u).length + ([99] : List UInt8).length ≤ 4294967296) then ref2_Put_l3 n n (dgs D u ++ [99]) [] 0 else none) = _
            rw [dT (l1 99)]
            exact g1
  · rw [dF h2, Bool.not_false, cond_true, cond_true]
    exact .inl ⟨8, by decide, rfl, rfl⟩
/-! ### The whole record -/
def Alt (stepW stepR : Nat → FixedField → List Int → (List Int → Option (List Int × Int)) → Option (List Int × Int)) (L i : Nat) (a : FixedField) (s : List Int) : Prop :=
  (∃ e : Int, (∀ K, stepW i a s K = some ([], e)) ∧ ∀ K, stepR i a s K = some ([], e)) ∨ (∃ s', s'.length = L ∧ (∀ K, stepW i a s K = K s') ∧ ∀ K, stepR i a s K = K s')
theorem two_folds {stepW stepR : Nat → FixedField → List Int → (List Int → Option (List Int × Int)) → Option (List Int × Int)} {finW finR : List Int → Option (List Int × Int)} (L : Nat) (hf : ∀ s, s.length = L → finW s = some (s, 0) ∧ finR s = some (s, 0)) :
    ∀ (r : List FixedField) (i : Nat) (s : List Int), s.length = L → (∀ j a s, r[j]? = some a → s.length = L → Alt stepW stepR L (i + j) a s) → ∃ b e, foldK stepW finW r i s = some (b, e) ∧ foldK stepR finR r i s = some (b, e) ∧ b.length ≤ L
  | [], i, s, hs, _ => ⟨s, 0, (hf s hs).1, (hf s hs).2, by omega⟩
  | a :: r, i, s, hs, h => by
    rw [foldK_cons, foldK_cons]
    rcases h 0 a s rfl hs with ⟨e, h1, h2⟩ | ⟨s', h0, h1, h2⟩
    · exact ⟨[], e, h1 _, h2 _, Nat.zero_le _⟩
    · rw [Nat.add_zero] at h1 h2
      rw [h1, h2]
      exact two_folds L hf r (i + 1) s' h0 fun j b s hj hs => by
        have := h (j + 1) b s (by simpa using hj) hs
        rwa [show i + 1 + j = i + (j + 1) by omega]
theorem two_folds400 (stepW stepR : Nat → FixedField → List Int → (List Int → Option (List Int × Int)) → Option (List Int × Int)) (finW finR : List Int → Option (List Int × Int)) (L : Nat) (h400 : L ≤ 400) (hf : ∀ s, s.length = L → finW s = some (s, 0) ∧ finR s = some (s, 0))
    (r : List FixedField) (i : Nat) (s : List Int) (hs : s.length = L) (h : ∀ j a s, r[j]? = some a → s.length = L → Alt stepW stepR L (i + j) a s) : ∃ b e, foldK stepW finW r i s = some (b, e) ∧ foldK stepR finR r i s = some (b, e) ∧ b.length ≤ 400 := by
  obtain ⟨b, e, h1, h2, h3⟩ := two_folds L hf r i s hs h
  exact ⟨b, e, h1, h2, by omega⟩
theorem over_len2 (s y : List Int) (o : Nat) (h : o + y.length ≤ s.length) : (over s y o).length = s.length := by
  unfold over
  rw [List.length_append, List.length_append, List.length_take, List.length_drop]
  omega
theorem write_ok (n : Nat) (hn : 5000 < n) (l : List FixedField) (x : ApiValue) (nm : List UInt8 → Bool) (hl : l.length ≤ 24) (ho : ∀ f ∈ l, oneE (nm f.Name) f = 0) (hp : ∀ f ∈ l, 0 ≤ f.Pad ∧ f.Pad < 256)
    (hx : ∀ f ∈ x.Fields, f.Val.S.length ≤ 4194304 ∧ -9223372036854775808 ≤ f.Val.N ∧ f.Val.N < 9223372036854775808) (hc : fixed_Check n l = some 0) : ∃ b e, fixed_Write n l x = some (b, e) ∧ ref2_Recorded n l x = some (b, e) ∧ b.length ≤ 400 := by
  rw [fixed_Write_eq, ref2_Recorded_eq, hc, bind_some2, dT rfl, Bool.not_true, cond_false]
  by_cases hk : x.Kind = 6
  · rw [dT hk, Bool.not_true, cond_false, cond_false]
    by_cases hlen : l.length = x.Fields.length
    · rw [dT (show (x.Fields.length : Int) = (l.length : Int) by omega), dT (show (l.length : Int) = (x.Fields.length : Int) by omega), Bool.not_true, cond_false, cond_false, wide_ok n l (by omega) (by omega), bind_some2, breadth_ok n l (by omega) (by omega), bind_some2]
      have hrg : ∀ f ∈ l, Rg f := fun f hf => oneE_rg (ho f hf)
      obtain ⟨m1, m2, m3⟩ := mxL_spec l 0 hrg
      have hmx : 0 ≤ mxL l ∧ mxL l ≤ 400 := by
        refine ⟨m2, ?_⟩
        rcases m3 with h | ⟨f, hf, h⟩
        · show mxL l ≤ 400
          unfold mxL
          omega
        · have := hrg f hf
          unfold Rg at this
          unfold endF at h
          show mxL l ≤ 400
          unfold mxL
          omega
      obtain ⟨L, hL⟩ : ∃ L : Nat, mxL l = (L : Int) := ⟨(mxL l).toNat, by omega⟩
      have hrep : repO [32] (L : Int) = some (List.replicate L 32) := by
        unfold repO
        rw [dT (show (0 : Int) ≤ (L : Int) by omega), dT (show (L : Int) ≤ 4294967296 by omega), dT (show List.length [(32 : UInt8)] ≤ 32768 by decide), Int.toNat_natCast]
        have : ∀ k : Nat, Go.Lib.repeatL [32] k = List.replicate k 32 := by
          intro k
          induction k with
          | zero => rfl
          | succ k ih => show [32] ++ Go.Lib.repeatL [32] k = _; rw [ih]; rfl
        rw [this]
        rfl
      rw [hL, rep_ok n 32 L (by omega) (by omega), bind_some2, hrep, bind_some2, ints_rep, show (((32 : UInt8).toNat : Nat) : Int) = 32 from rfl, List.length_replicate]
      have hfW := fixed_Write_l0_fold n L l x (List.replicate L 32) (by omega) n 0 (Nat.zero_le _) (by omega)
      have hfR := ref2_Recorded_l0_fold n L l x (List.replicate L 32) (by omega) n 0 (Nat.zero_le _) (by omega)
      rw [show ((0 : Nat) : Int) = 0 from rfl, List.drop_zero] at hfW hfR
      rw [hfW, hfR]
      have two := @two_folds400
      refine two _ _ _ _ L (by omega) (fun s hs => ?_) l 0 (List.replicate L 32) (List.length_replicate ..) (fun j a s hj hs => ?_)
      · constructor
        · show (bif (decide (0 + L ≤ List.length s)) && true then some (List.take L s, (0 : Int)) else none) = _
          rw [dT (by omega), List.take_of_length_le (by omega)]
          rfl
        · show (bif (decide (0 + L ≤ List.length s)) && true then some (List.take L s, (0 : Int)) else none) = _
          rw [dT (by omega), List.take_of_length_le (by omega)]
          rfl
      · obtain ⟨hjl, hja⟩ := List.getElem?_eq_some_iff.1 hj
        have ha : a ∈ l := by rw [← hja]; exact List.getElem_mem _
        have hjf : j < x.Fields.length := by omega
        have hra := hrg a ha
        have hra' := hra
        unfold Rg at hra'
        have hend := m1 a ha
        have hAt : a.At ≤ (L : Int) := by
          have : endF a ≤ mxL l := hend
          unfold endF at this
          omega
        obtain ⟨A, hA⟩ : ∃ A : Nat, a.At = (A : Int) := ⟨a.At.toNat, by omega⟩
        have hv := hx x.Fields[j] (List.getElem_mem _)
        have hd := fieldD (ho a ha)
        have hput : (∃ e, e ≠ 0 ∧ fixed_fits n a x.Fields[j].Val = some e ∧ ref2_Put n a x.Fields[j].Val = some ([], e)) ∨ (∃ s, fixed_fits n a x.Fields[j].Val = some 0 ∧ ref2_Put n a x.Fields[j].Val = some (s, 0) ∧ fixed_bytes n a x.Fields[j].Val = some (ints s) ∧ s.length ≤ 2000) := by
          by_cases hk0 : a.Kind = 0
          · exact text_ok n hn a hra hk0 (hp a ha) _ hv.1
          · exact num_ok n hn a hra (by omega) (hd.2 hk0) _ hv.2
        unfold Alt
        rw [Nat.zero_add]
        simp only [d0, dlt, dT hjf, Bool.and_self, cond_true, Int.toNat_natCast, getD_lt _ hjf]
        by_cases hnm : x.Fields[j].Name = a.Name
        · have b1 : (x.Fields[j].Name == a.Name) = true := by rw [hnm]; simp
          have b2 : (a.Name == x.Fields[j].Name) = true := by rw [hnm]; simp
          simp only [b1, b2, Bool.not_true, cond_false]
          rcases hput with ⟨e, g0, g1, g2⟩ | ⟨t, g1, g2, g3, g4⟩
          · left
            refine ⟨e, fun K => ?_, fun K => ?_⟩
            · rw [g1, bind_some2, dF g0]; rfl
            · rw [g2, bind_some2, dF (show ¬ ((([] : List UInt8), e).2 = 0) from g0)]; rfl
          · right
            refine ⟨over s (List.take (L - A) (ints t)) A, by rw [over_len2 _ _ _ (by rw [List.length_take]; omega)]; exact hs, fun K => ?_, fun K => ?_⟩
            · rw [g1, bind_some2, dT rfl, Bool.not_true, cond_false, hA, d0, dle, dT (show A ≤ L by omega), Bool.and_self, cond_true, g3, bind_some2, Int.toNat_natCast, dT (show 0 + A + (L - A) ≤ s.length by omega), cond_true, List.take_length, Nat.zero_add]
            · rw [g2, bind_some2, dT rfl, Bool.not_true, cond_false, hA, d0, dle, dT (show A ≤ L by omega), Bool.and_self, cond_true, Int.toNat_natCast, dT (show 0 + A + (L - A) ≤ s.length by omega), cond_true, Nat.zero_add]
        · have b1 : (x.Fields[j].Name == a.Name) = false := beq_eq_false_iff_ne.2 hnm
          have b2 : (a.Name == x.Fields[j].Name) = false := beq_eq_false_iff_ne.2 fun h => hnm h.symm
          left
          refine ⟨15, fun K => ?_, fun K => ?_⟩
          · rw [b1]; rfl
          · rw [b2]; rfl
    · rw [dF (show ¬ (x.Fields.length : Int) = (l.length : Int) by omega), dF (show ¬ (l.length : Int) = (x.Fields.length : Int) by omega)]
      exact ⟨[], 8, rfl, rfl, by decide⟩
  · rw [dF hk]
    exact ⟨[], 8, rfl, rfl, by decide⟩
theorem equal8 (n : Nat) (v : List Int) (hv : v.length < 4611686018427387904) (hn : v.length < n) : slices_Equal_byte n v v = some true := by
  have h := slices_Equal_byte_l0_fold n v v (by omega) n 0 (Nat.zero_le _) (by omega)
  rw [show ((0 : Nat) : Int) = 0 from rfl] at h
  rw [slices_Equal_byte_eq, dT rfl, Bool.not_true, cond_false, h, List.drop_zero]
  have e : ∀ (r p : List Int), v = p ++ r → foldK (S := Unit) (fun i (a : Int) s K => (bif (decide (0 ≤ (i : Int)) && decide ((i : Int) < List.length v)) then (bif (!decide (a = (List.getD v (Int.toNat (i : Int)) (0 : Int)))) then (some false) else (K ())) else none)) (fun s => (some true)) r p.length () = some true := by
    intro r
    induction r with
    | nil => intro p _; rfl
    | cons a r ih =>
      intro p hp
      have hi : p.length < v.length := by rw [hp]; simp
      have ha : v[p.length] = a := by simp [hp]
      have h2 := ih (p ++ [a]) (by rw [hp]; simp)
      rw [foldK_cons, d0, dlt, dT hi, Bool.and_self, cond_true, Int.toNat_natCast, getD_lt _ hi, ha, dT rfl, Bool.not_true, cond_false]
      rw [show (p ++ [a]).length = p.length + 1 by simp] at h2
      exact h2
  exact e v [] rfl
/-! ### The law -/
theorem law_ok (x0 : List FixedField) (x1 : ApiValue) (h0 : ∀ g, Fv.Good E g (.sl (.nm 0)) x0) (h1 : ∀ g, Fv.Good E g (.nm 1) x1)
    (hb : ∀ g, Bulk E g (.sl (.nm 0)) x0 + Bulk E g (.nm 1) x1 ≤ 1048576) : ∃ n, law2_FixedWrites n x0 x1 = some true := by
  have bn : ∀ s ∈ x0, s.Name.length ≤ 1048576 := by
    intro s hs
    have h := hb 1
    have hm : Bulk E 1 (.nm 0) s ≤ (List.map (Bulk E 1 (.nm 0)) x0).sum := mem_sum (List.mem_map.2 ⟨s, hs, rfl⟩)
    have h5 : Bulk E 1 (.sl (.nm 0)) x0 = (List.map (Bulk E 1 (.nm 0)) x0).sum + 1 := rfl
    have h6 : Bulk E 1 (.nm 0) s = (s.Name.length + 1) + (1 + (1 + (1 + (1 + (1 + 1))))) := rfl
    omega
  have hp : ∀ f ∈ x0, 0 ≤ f.Pad ∧ f.Pad < 256 := by
    intro f hf
    have h := (h0 1).2 f hf
    have h : (Lit.int .u8 f.Pad).wf = true := h.2.2.2.2.1
    simp [Lit.wf, IntKind.min, IntKind.max, IntKind.signed, IntKind.bits] at h
    omega
  have hx : ∀ f ∈ x1.Fields, f.Val.S.length ≤ 4194304 ∧ -9223372036854775808 ≤ f.Val.N ∧ f.Val.N < 9223372036854775808 := by
    intro f hf
    have hg : Fv.Good E 2 (.nm 2) f := (h1 3).2.2.2.2 f hf
    have hv : Fv.Good E 1 (.nm 1) f.Val := hg.2
    have hN : (Lit.int .i64 f.Val.N).wf = true := hv.2.1
    simp [Lit.wf, IntKind.min, IntKind.max, IntKind.signed, IntKind.bits] at hN
    refine ⟨?_, by omega⟩
    have h := hb 3
    have hm : Bulk E 2 (.nm 2) f ≤ (List.map (Bulk E 2 (.nm 2)) x1.Fields).sum := mem_sum (List.mem_map.2 ⟨f, hf, rfl⟩)
    have h6 : Bulk E 3 (.nm 1) x1 = 1 + (1 + ((x1.S.length + 1) + ((List.map (Bulk E 2 (.nm 2)) x1.Fields).sum + 1))) := rfl
    have h7 : Bulk E 2 (.nm 2) f = (f.Name.length + 1) + Bulk E 1 (.nm 1) f.Val := rfl
    have h8 : Bulk E 1 (.nm 1) f.Val = 1 + (1 + ((f.Val.S.length + 1) + ((List.map (Bulk E 0 (.nm 2)) f.Val.Fields).sum + 1))) := rfl
    omega
  obtain ⟨n, hn⟩ : ∃ p : Nat, 10000000 < p := ⟨_, Nat.lt_succ_self _⟩
  refine ⟨n, ?_⟩
  have hnm : ∀ f ∈ x0, value_Name n f.Name = some (nmB n f.Name) := fun f hf => by
    have := bn f hf
    exact name_ok n f.Name (by omega) (by omega)
  obtain ⟨e, c1, c2, c3⟩ := check_ok n (by omega) x0 (nmB n) hnm
  rw [law2_FixedWrites_eq]
  by_cases he : e = 0
  · subst he
    obtain ⟨hl, ho⟩ := check_one n (by omega) x0 (nmB n) hnm c2
    obtain ⟨b, e, w1, w2, w3⟩ := write_ok n (by omega) x0 x1 (nmB n) hl ho hp hx c2
    rw [w1, bind_some2, c1, bind_some2, dT rfl, Bool.not_true, cond_false, w2, bind_some2, widths_ok, bind_some2, cond_true, dT rfl, cond_true, equal8 n b (by omega) (by omega)]
    rfl
  · have w1 : fixed_Write n x0 x1 = some ([], e) := by
      rw [fixed_Write_eq, c2, bind_some2, dF he]
      rfl
    rw [w1, bind_some2, c1, bind_some2, dF he, Bool.not_false, cond_true, widths_ok, bind_some2, cond_true, dT rfl, cond_true]
    rfl
end Go.Proofs.YtbmpjppfdeohnaaDoor.PFixedWrites
