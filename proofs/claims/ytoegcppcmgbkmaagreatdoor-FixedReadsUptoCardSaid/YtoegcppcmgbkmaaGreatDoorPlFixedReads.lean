/- The plain law FixedReads. No condition. -/
import Derived.Test.YtoegcppcmgbkmaaGreatDoorFnFixedReads
-- UPTO
set_option linter.unusedVariables false
set_option linter.unusedSimpArgs false
namespace Go.Proofs.YtoegcppcmgbkmaaGreatDoor.PFixedReads
open Go Go.Proofs Go.Proofs.YtoegcppcmgbkmaaGreatDoor.Fv

/-! ### Names -/
theorem name_ex (n : Nat) (s : List UInt8) (hs : s.length < 9223372036854775807) (hn : s.length < n) : ∃ b, value_Name n s = some b := by
  rw [value_Name_eq]
  cases s with
  | nil => exact ⟨_, rfl⟩
  | cons c s =>
    have h0 : (0 : Int) < (((c :: s).length : Nat) : Int) := by simp only [List.length_cons]; omega
    have hl : (ints (c :: s)).length = (c :: s).length := by simp [ints]
    have hb : ∃ b, value_Name_l0 n n (ints (c :: s)) (List.length (ints (c :: s)) : Int) 0 = some b := by
      have h := value_Name_l0_fold n (ints (c :: s)) (by omega) n 0 (Nat.zero_le _) (by omega)
      rw [show ((0 : Nat) : Int) = 0 from rfl] at h
      rw [h]
      exact foldK_ex (fun _ => ⟨_, rfl⟩) _ _ _ fun i a s K _ hK => by repeat (first | exact hK _ | exact ⟨_, rfl⟩ | apply ex_cond)
    simp only [dT h0, d00, Bool.and_self, cond_true]
    repeat (first | exact hb | exact ⟨_, rfl⟩ | apply ex_cond)
noncomputable def nmB (n : Nat) (s : List UInt8) : Bool := (value_Name n s).getD false
theorem name_ok (n : Nat) (s : List UInt8) (hs : s.length < 9223372036854775807) (hn : s.length < n) : value_Name n s = some (nmB n s) := by
  obtain ⟨b, hb⟩ := name_ex n s hs hn
  unfold nmB
  rw [hb]
  rfl
/-! ### Places of digits, one field -/
def digE (f : FixedField) : Int := if f.Kind = 1 then (if f.Signed = true then IntKind.wrap .i64 (f.Wide - 1) else f.Wide) else if f.Kind = 2 then IntKind.wrap .i64 (IntKind.wrap .i64 ((2 : Int) * f.Wide) - 1) else 0
theorem digits_ok (n : Nat) (f : FixedField) : fixed_Digits n f = some (digE f) := by
  rw [fixed_Digits_eq]
  unfold digE
  by_cases h1 : f.Kind = 1
  · rw [dT h1, cond_true, if_pos h1]
    cases f.Signed <;> rfl
  · rw [dF h1, cond_false, if_neg h1]
    by_cases h2 : f.Kind = 2
    · rw [dT h2, cond_true, if_pos h2]
    · rw [dF h2, cond_false, if_neg h2]
theorem places_ok (n : Nat) (f : FixedField) : ref2_Places n f = some (digE f) := by
  rw [ref2_Places_eq]
  unfold digE
  by_cases h0 : f.Kind < 0
  · rw [dT h0, cond_true, if_neg (by omega), if_neg (by omega)]
  rw [dF h0, cond_false]
  by_cases h3 : f.Kind > 2
  · rw [dT h3, cond_true, if_neg (by omega), if_neg (by omega)]
  rw [dF h3, cond_false]
  have hk : f.Kind = 0 ∨ f.Kind = 1 ∨ f.Kind = 2 := by omega
  generalize f.Kind = k at hk
  rcases hk with rfl | rfl | rfl
  · cases f.Signed <;> rfl
  · cases f.Signed <;> rfl
  · cases f.Signed <;> rfl
def Rg (f : FixedField) : Prop := 0 ≤ f.At ∧ f.At ≤ 400 ∧ 1 ≤ f.Wide ∧ f.Wide ≤ 400 - f.At
instance (f : FixedField) : Decidable (Rg f) := by unfold Rg; infer_instance
def oneD (f : FixedField) : Int := if digE f < 1 then 11 else if digE f > 15 then 11 else if f.Scale < 0 then 11 else if f.Scale > digE f then 11 else 0
def oneE (nm : Bool) (f : FixedField) : Int := if nm = false then 15 else if f.Kind < 0 then 8 else if f.Kind > 2 then 8 else if ¬ Rg f then 11 else
  if f.Kind = 0 then (if f.Signed = true then 3 else if f.Scale ≠ 0 then 3 else 0) else (if f.Pad ≠ 0 then 3 else oneD f)
theorem oneD_ok (n : Nat) (f : FixedField) : (bif decide (digE f < 1) then (some 11 : Option Int) else (bif decide (digE f > 15) then some 11 else (bif decide (f.Scale < 0) then some 11 else (bif decide (f.Scale > digE f) then some 11 else some 0)))) = some (oneD f) := by
  unfold oneD
  simp only [cond_ite, decide_eq_true_eq]
  split
  · rfl
  split
  · rfl
  split
  · rfl
  split <;> rfl
theorem one_ok (n : Nat) (f : FixedField) (nm : Bool) (h : value_Name n f.Name = some nm) : fixed_one n f = some (oneE nm f) := by
  rw [fixed_one_eq, h, bind_some2]
  simp only [digits_ok, bind_some2, oneD_ok n]
  unfold oneE
  cases nm with
  | false => rfl
  | true =>
    rw [Bool.not_true, cond_false, if_neg (by simp)]
    by_cases h1 : f.Kind < 0
    · rw [dT h1, cond_true, if_pos h1]
    rw [dF h1, cond_false, if_neg h1]
    by_cases h2 : f.Kind > 2
    · rw [dT (show f.Kind ≥ 3 by omega), cond_true, if_pos h2]
    rw [dF (show ¬ f.Kind ≥ 3 by omega), cond_false, if_neg h2]
    by_cases hr : Rg f
    · have hr' := hr
      unfold Rg at hr'
      rw [dF (show ¬ f.At < 0 by omega), dF (show ¬ f.Wide < 1 by omega), dF (show ¬ f.At > 400 by omega), w64 (by omega) (by omega), dF (show ¬ f.Wide > 400 - f.At by omega), if_neg (not_not_intro hr)]
      simp only [cond_false]
      by_cases hk : f.Kind = 0
      · rw [if_pos hk]
        simp only [hk, decide_true, Bool.not_true, cond_true, cond_false]
        cases f.Signed with
        | true => rfl
        | false =>
          by_cases hs : f.Scale = 0
          · simp [hs]
          · simp [hs]
      · rw [if_neg hk]
        simp only [dF hk, Bool.not_false, cond_true, cond_false]
        by_cases hp : f.Pad = 0
        · simp [hp]
        · simp [hp]
    · rw [if_pos hr]
      unfold Rg at hr
      by_cases a1 : f.At < 0
      · rw [dT a1, cond_true]
      rw [dF a1, cond_false]
      by_cases a2 : f.Wide < 1
      · rw [dT a2, cond_true]
      rw [dF a2, cond_false]
      by_cases a3 : f.At > 400
      · rw [dT a3, cond_true]
      rw [dF a3, cond_false, w64 (by omega) (by omega), dT (show f.Wide > 400 - f.At by omega), cond_true]
theorem oneE_rg {nm : Bool} {f : FixedField} (h : oneE nm f = 0) : Rg f := by
  unfold oneE at h
  cases nm with
  | false => rw [if_pos rfl] at h; omega
  | true =>
    rw [if_neg (by simp)] at h
    split at h
    · omega
    split at h
    · omega
    split at h
    · omega
    · rename_i h1
      exact Decidable.not_not.1 h1

/-- One round of the other check. -/
theorem err_step (n m0 : Nat) (v : List FixedField) (i : Nat) (hi : i < v.length) (w19 : List (Int × Int)) (w20 : List (List UInt8 × Int)) (nm : Bool) (h : value_Name n v[i].Name = some nm) :
    ref2_FieldsErr_l0 n (m0 + 1) v v (v.length : Int) (i : Int) w19 w20 = if oneE nm v[i] = 0 then ref2_FieldsErr_l3 n m0 n v (i : Int) ((smget w20 v[i].Name).getD (v.length : Int)) (v.length : Int) v[i].At v (v.length : Int) (i : Int) v[i] w19 w20 else some (oneE nm v[i]) := by
  rw [ref2_FieldsErr_l0_eq, dlt, dT hi, d0, cond_true, Bool.true_and, cond_true, Int.toNat_natCast, getD_lt _ hi, h, bind_some2]
  generalize v[i] = f at h ⊢
  have hX : (bif (Option.isSome (mget E .str (.int .i64) w20 f.Name)) then (ref2_FieldsErr_l3 n m0 n v (i : Int) (mgetD E .str (.int .i64) w20 f.Name) (List.length v : Int) f.At v (List.length v : Int) (i : Int) f w19 w20) else (ref2_FieldsErr_l3 n m0 n v (i : Int) (List.length v : Int) (List.length v : Int) f.At v (List.length v : Int) (i : Int) f w19 w20)) = ref2_FieldsErr_l3 n m0 n v (i : Int) ((smget w20 f.Name).getD (v.length : Int)) (v.length : Int) f.At v (v.length : Int) (i : Int) f w19 w20 := by
    unfold mgetD
    rw [show mget E .str (.int .i64) w20 f.Name = smget w20 f.Name from rfl]
    cases smget w20 f.Name <;> rfl
  simp only [places_ok, bind_some2, hX]
  generalize ref2_FieldsErr_l3 n m0 n v (i : Int) ((smget w20 f.Name).getD (v.length : Int)) (v.length : Int) f.At v (v.length : Int) (i : Int) f w19 w20 = L
  unfold oneE
  cases nm with
  | false => rfl
  | true =>
    rw [Bool.not_true, cond_false, if_neg (show ¬ true = false by simp)]
    by_cases h1 : f.Kind < 0
    · rw [dT h1, cond_true, if_pos h1]; rfl
    rw [dF h1, cond_false, if_neg h1]
    by_cases h2 : f.Kind > 2
    · rw [dT h2, cond_true, if_pos h2]; rfl
    rw [dF h2, cond_false, if_neg h2]
    by_cases hr : Rg f
    · have hr' := hr
      unfold Rg at hr'
      rw [dF (show ¬ f.At < 0 by omega), dF (show ¬ f.At > 400 by omega), dF (show ¬ f.Wide < 1 by omega), dF (show ¬ f.Wide > 400 by omega), w64 (by omega) (by omega), dF (show ¬ f.At + f.Wide > 400 by omega), if_neg (not_not_intro hr)]
      simp only [cond_false]
      by_cases hk : f.Kind = 0
      · rw [if_pos hk]
        simp only [hk, decide_true, Bool.not_true, cond_true, cond_false]
        cases f.Signed with
        | true => rfl
        | false =>
          by_cases hs : f.Scale = 0
          · simp [hs]
          · simp [hs]
      · rw [if_neg hk]
        simp only [dF hk, Bool.not_false, cond_true, cond_false]
        by_cases hp : f.Pad = 0
        · rw [dT hp, if_neg (show ¬ f.Pad ≠ 0 from not_not_intro hp)]
          simp only [Bool.not_true, cond_false]
          unfold oneD
          by_cases b1 : digE f < 1
          · simp [b1]
          by_cases b2 : digE f > 15
          · simp [b1, b2]
          by_cases b3 : f.Scale < 0
          · simp [b1, b2, b3]
          by_cases b4 : f.Scale > digE f
          · simp [b1, b2, b3, b4]
          · rw [dF b1, dF b2, dF b3, dF b4, if_neg b1, if_neg b2, if_neg b3, if_neg b4, if_pos rfl]
            rfl
        · simp [hp]
    · rw [if_pos hr]
      unfold Rg at hr
      by_cases a1 : f.At < 0
      · rw [dT a1, cond_true]; rfl
      rw [dF a1, cond_false]
      by_cases a3 : f.At > 400
      · rw [dT a3, cond_true]; rfl
      rw [dF a3, cond_false]
      by_cases a2 : f.Wide < 1
      · rw [dT a2, cond_true]; rfl
      rw [dF a2, cond_false]
      by_cases a4 : f.Wide > 400
      · rw [dT a4, cond_true]; rfl
      rw [dF a4, cond_false, w64 (by omega) (by omega), dT (show f.At + f.Wide > 400 by omega), cond_true]; rfl
/-! ### Counted loops by what stays true -/
theorem foldN_inv {S R : Type} {step : Nat → S → (S → Option R) → Option R} {fin : S → Option R} (I : Nat → S → Prop) (N : Nat) (h : ∀ i s, i < N → I i s → ∃ s', I (i + 1) s' ∧ ∀ K, step i s K = K s') : ∀ (c i : Nat) (s : S), c + i = N → I i s → ∃ s', I N s' ∧ foldN step fin c i s = fin s'
  | 0, i, s, hc, hi => ⟨s, by rw [← hc, Nat.zero_add]; exact hi, rfl⟩
  | c + 1, i, s, hc, hi => by
    obtain ⟨s1, h1, h2⟩ := h i s (by omega) hi
    obtain ⟨s2, h3, h4⟩ := foldN_inv I N h (fin := fin) c (i + 1) s1 (by omega) h1
    exact ⟨s2, h3, by rw [← h4]; exact h2 _⟩

theorem fold_use {S R : Type} {L : Option R} {step : Nat → S → (S → Option R) → Option R} {fin : S → Option R} {c i : Nat} {s : S} (hf : L = foldN step fin c i s) (I : Nat → S → Prop) (N : Nat) (hc : c + i = N) (hi : I i s)
    (h : ∀ i s, i < N → I i s → ∃ s', I (i + 1) s' ∧ ∀ K, step i s K = K s') : ∃ s', I N s' ∧ L = fin s' := by
  obtain ⟨s', h1, h2⟩ := foldN_inv (fin := fin) I N h c i s hc hi
  exact ⟨s', h1, by rw [hf, h2]⟩
/-! ### Digits -/
def dch (u : Nat) : UInt8 := UInt8.ofNat (48 + u % 10)
def dgs : Nat → Nat → List UInt8
  | 0, _ => []
  | D + 1, u => dgs D (u / 10) ++ [dch u]
theorem dgs_len : ∀ (D u : Nat), (dgs D u).length = D
  | 0, _ => rfl
  | D + 1, u => by
    show (dgs D (u / 10) ++ [dch u]).length = _
    rw [List.length_append, dgs_len D, List.length_singleton]
theorem dgs_zero : ∀ D : Nat, dgs D 0 = List.replicate D 48
  | 0 => rfl
  | D + 1 => by
    show dgs D (0 / 10) ++ [dch 0] = _
    rw [Nat.zero_div, dgs_zero D, List.replicate_succ']
    rfl
theorem pad_dgs : ∀ (D u : Nat), (Go.Lib.decDigits u).length ≤ D → List.replicate (D - (Go.Lib.decDigits u).length) 48 ++ Go.Lib.decDigits u = dgs D u
  | 0, u, h => by
    have := Go.Lib.nDigits_pos u
    rw [Go.Lib.decDigits_length] at h
    omega
  | D + 1, u, h => by
    show _ = dgs D (u / 10) ++ [dch u]
    by_cases hu : u < 10
    · rw [Go.Lib.decDigits_one hu, show u / 10 = 0 by omega, dgs_zero]
      unfold dch
      rw [Nat.mod_eq_of_lt hu]
      simp
    · have e : Go.Lib.decDigits u = Go.Lib.decDigits (u / 10) ++ [dch u] := by
        rw [Go.Lib.decDigits, dif_neg hu]
        rfl
      rw [e, List.length_append, List.length_singleton] at h
      rw [e, List.length_append, List.length_singleton, ← pad_dgs D (u / 10) (by omega), ← List.append_assoc, show D + 1 - ((Go.Lib.decDigits (u / 10)).length + 1) = D - (Go.Lib.decDigits (u / 10)).length by omega]
theorem dlen_iff : ∀ (D u : Nat), (Go.Lib.decDigits u).length ≤ D + 1 ↔ u < 10 ^ (D + 1)
  | 0, u => by
    rw [Go.Lib.decDigits_length]
    by_cases hu : u < 10
    · rw [Go.Lib.nDigits_small hu]
      exact ⟨fun _ => by simpa using hu, fun _ => Nat.le_refl _⟩
    · rw [Go.Lib.nDigits_big hu]
      have := Go.Lib.nDigits_pos (u / 10)
      constructor
      · intro h; omega
      · intro h; simp at h; omega
  | D + 1, u => by
    have ih := dlen_iff D (u / 10)
    rw [Go.Lib.decDigits_length] at ih ⊢
    by_cases hu : u < 10
    · rw [Go.Lib.nDigits_small hu]
      refine ⟨fun _ => ?_, fun _ => by omega⟩
      have : 10 ^ 1 ≤ 10 ^ (D + 1 + 1) := Nat.pow_le_pow_right (by decide) (by omega)
      omega
    · rw [Go.Lib.nDigits_big hu, show (Go.Lib.nDigits (u / 10) + 1 ≤ D + 1 + 1) ↔ (Go.Lib.nDigits (u / 10) ≤ D + 1) by omega, ih, Nat.pow_succ 10 (D + 1)]
      generalize 10 ^ (D + 1) = z
      omega
theorem tmod_nat (u : Nat) : Int.tmod (u : Int) 10 = ((u % 10 : Nat) : Int) := by rw [Int.tmod_eq_emod_of_nonneg (by omega)]; rfl
theorem tdiv_nat (u : Nat) : Int.tdiv (u : Int) 10 = ((u / 10 : Nat) : Int) := by rw [Int.tdiv_eq_ediv_of_nonneg (by omega)]; rfl
theorem w32 {x : Int} (h1 : -2147483648 ≤ x) (h2 : x < 2147483648) : IntKind.wrap .i32 x = x := by
  unfold IntKind.wrap
  simp only [IntKind.signed, IntKind.bits]
  simp
  omega
theorem shown_loop (n : Nat) (f : FixedField) (D : Nat) (hD : digE f = (D : Int)) (h15 : D ≤ 1000) : ∀ (m u : Nat) (s : List UInt8), u < 18446744073709551616 / 2 + 1 → s.length ≤ D → D - s.length < m → ref2_shown_l0 n m s (u : Int) f = some (dgs (D - s.length) u ++ s) := by
  intro m
  induction m with
  | zero => intro u s _ _ h; omega
  | succ m ih =>
    intro u s hu hs hm
    rw [ref2_shown_l0_eq, places_ok, bind_some2, hD, dlt]
    by_cases hk : s.length < D
    · have hc : IntKind.wrap .i32 (IntKind.wrap .i64 ((48 : Int) + Int.tmod (u : Int) 10)) = ((48 + u % 10 : Nat) : Int) := by
        rw [tmod_nat, w64 (by omega) (by omega), w32 (by omega) (by omega)]
        omega
      rw [dT hk, cond_true, hc, d0, dT (show ((48 + u % 10 : Nat) : Int) < 128 by omega), Bool.and_self, cond_true, Int.toNat_natCast, List.length_singleton, dT (show 1 + s.length ≤ 4294967296 by omega), cond_true, tdiv_nat, w64 (by omega) (by omega)]
      rw [ih (u / 10) ([UInt8.ofNat (48 + u % 10)] ++ s) (by omega) (by simp; omega) (by simp; omega)]
      rw [List.length_append, List.length_singleton, show D - s.length = (D - (1 + s.length)) + 1 by omega]
      show _ = some ((dgs (D - (1 + s.length)) (u / 10) ++ [dch u]) ++ s)
      rw [List.append_assoc]
      rfl
    · rw [dF hk, cond_false, show D - s.length = 0 by omega]
      rfl
/-! ### Where the first is -/
def J {A : Type} (q : A → Bool) : List A → Nat → Option Int
  | [], _ => none
  | a :: r, i => if q a = true then some (i : Int) else J q r (i + 1)
theorem J_cons {A : Type} (q : A → Bool) (a : A) (r : List A) (i : Nat) : J q (a :: r) i = if q a = true then some (i : Int) else J q r (i + 1) := rfl
theorem J_bd {A : Type} (q : A → Bool) : ∀ (l : List A) (i : Nat) (z : Int), J q l i = some z → (i : Int) ≤ z ∧ z < (i + l.length : Nat)
  | [], _, _, h => by cases h
  | a :: r, i, z, h => by
    unfold J at h
    rw [List.length_cons]
    split at h
    · cases h; omega
    · have := J_bd q r (i + 1) z h; omega
theorem J_none {A : Type} {q : A → Bool} : ∀ {l : List A} {i : Nat}, J q l i = none ↔ ∀ a ∈ l, q a = false
  | [], _ => by simp [J]
  | a :: r, i => by
    unfold J
    cases h : q a with
    | true => simp [h]
    | false => simp [h, J_none (q := q) (l := r) (i := i + 1)]
theorem J_app {A : Type} (q : A → Bool) (f : A) : ∀ (l : List A) (i : Nat), J q (l ++ [f]) i = match J q l i with
    | some z => some z
    | none => if q f = true then some ((i + l.length : Nat) : Int) else none
  | [], i => by simp [J]
  | a :: r, i => by
    rw [List.cons_append]
    unfold J
    cases h : q a with
    | true => simp
    | false =>
      simp only [Bool.false_eq_true, if_false]
      rw [J_app q f r (i + 1), List.length_cons, show i + 1 + r.length = i + (r.length + 1) by omega]
theorem J_congr {A : Type} {q q' : A → Bool} : ∀ {l : List A} {i : Nat}, (∀ a ∈ l, q a = q' a) → J q l i = J q' l i
  | [], _, _ => rfl
  | a :: r, i, h => by
    unfold J
    rw [h a (by simp), J_congr (l := r) (i := i + 1) fun b hb => h b (by simp [hb])]
/-- The lesser of two. -/
def mnO : Option Int → Option Int → Option Int
  | some a, some b => some (if b < a then b else a)
  | some a, none => some a
  | none, x => x
theorem J_or {A : Type} (p q : A → Bool) : ∀ (l : List A) (i : Nat), J (fun a => p a || q a) l i = mnO (J p l i) (J q l i)
  | [], _ => rfl
  | a :: r, i => by
    have hp := fun z h => (J_bd p r (i + 1) z h).1
    have hq := fun z h => (J_bd q r (i + 1) z h).1
    unfold J
    cases h1 : p a with
    | true =>
      cases h2 : q a with
      | true => simp [mnO]
      | false =>
        simp only [Bool.true_or, if_true, Bool.false_eq_true, if_false]
        cases h3 : J q r (i + 1) with
        | none => rfl
        | some z =>
          have := hq z h3
          simp only [mnO]
          rw [if_neg (by omega)]
    | false =>
      cases h2 : q a with
      | true =>
        simp only [Bool.or_true, if_true, Bool.false_eq_true, if_false]
        cases h3 : J p r (i + 1) with
        | none => rfl
        | some z =>
          have := hp z h3
          simp only [mnO]
          rw [if_pos (by omega)]
      | false =>
        simp only [Bool.or_self, Bool.false_eq_true, if_false]
        exact J_or p q r (i + 1)
theorem mn_step {o c : Option Int} {L : Int} (h1 : ∀ z, o = some z → z < L) (h2 : ∀ z, c = some z → z < L) : (bif c.isSome then mnI (o.getD L) (c.getD 0) else o.getD L) = (mnO o c).getD L := by
  cases c with
  | none => cases o <;> rfl
  | some z =>
    have := h2 z rfl
    cases o with
    | none =>
      show mnI L z = z
      unfold mnI
      rw [dT this, cond_true]
    | some y =>
      show mnI y z = if z < y then z else y
      unfold mnI
      rw [cond_ite]
      simp

/-! ### Maps of numbers -/
def imset (x y : Int) : List (Int × Int) → List (Int × Int)
  | [] => [(x, y)]
  | p :: r => bif x == p.1 then (x, y) :: r else p :: imset x y r
def imget (w : List (Int × Int)) (s : Int) : Option Int := (w.find? fun p => s == p.1).map (·.2)
theorem imget_set (x y : Int) (s : Int) : ∀ (w : List (Int × Int)), imget (imset x y w) s = if s = x then some y else imget w s
  | [] => by
    unfold imget imset
    by_cases h : s = x
    · simp [h]
    · simp [h]
  | p :: w => by
    have ih := imget_set x y s w
    unfold imget at ih ⊢
    unfold imset
    by_cases h : x = p.1
    · rw [show (x == p.1) = true by simp [h], cond_true, List.find?_cons, List.find?_cons]
      by_cases hs : s = x
      · simp [hs]
      · rw [if_neg hs, show (s == (x, y).1) = false by simpa using hs, show (s == p.1) = false by rw [← h]; simpa using hs]
    · rw [show (x == p.1) = false by simpa using h, cond_false, List.find?_cons, List.find?_cons]
      by_cases hs : s = p.1
      · rw [show (s == p.1) = true by simpa using hs, if_neg (by rw [hs]; exact fun e => h e.symm)]
      · rw [show (s == p.1) = false by simpa using hs]
        exact ih
theorem mset_i (x y : Int) : ∀ (w : List (Int × Int)), mset E (.int .i64) (.int .i64) x y w = imset x y w
  | [] => rfl
  | p :: w => by
    show (bif x == p.1 then (x, y) :: w else p :: mset E (.int .i64) (.int .i64) x y w) = (bif x == p.1 then (x, y) :: w else p :: imset x y w)
    rw [mset_i x y w]
theorem mset_t (x : List UInt8) (y : Int) : ∀ (w : List (List UInt8 × Int)), mset E .str (.int .i64) x y w = smset x y w
  | [] => rfl
  | p :: w => by
    show (bif x == p.1 then (x, y) :: w else p :: mset E .str (.int .i64) x y w) = (bif x == p.1 then (x, y) :: w else p :: smset x y w)
    rw [mset_t x y w]

/-! ### Rounds -/
def cov (b : Int) (g : FixedField) : Bool := decide (g.At ≤ b) && decide (b < g.At + g.Wide)
def ovr (f g : FixedField) : Bool := decide (f.At < g.At + g.Wide) && decide (g.At < f.At + f.Wide)
def ovB (lo b : Int) (g : FixedField) : Bool := decide (lo < b) && (decide (g.At < b) && decide (lo < g.At + g.Wide))
theorem ovB_succ {lo b : Int} {g : FixedField} (hw : 1 ≤ g.Wide) (h : lo ≤ b) : ovB lo (b + 1) g = (ovB lo b g || cov b g) := by
  rw [Bool.eq_iff_iff]
  unfold ovB cov
  simp only [Bool.and_eq_true, Bool.or_eq_true, decide_eq_true_eq]
  omega
theorem l3_loop (n m0 : Nat) (v : List FixedField) (v5 v8 : Int) (v22 v23 : Int) (f : FixedField) (hf : Rg f) (w19 : List (Int × Int)) (w20 : List (List UInt8 × Int)) (p : List FixedField) (hp : ∀ g ∈ p, Rg g) (hpl : p.length ≤ v.length)
    (h19 : ∀ b : Int, imget w19 b = J (cov b) p 0) : ∀ (m : Nat) (b : Int), f.At ≤ b → b ≤ f.At + f.Wide → f.At + f.Wide - b < (m : Int) →
    ∃ m', ref2_FieldsErr_l3 n m0 m v v5 v8 ((J (ovB f.At b) p 0).getD (v.length : Int)) b v v22 v23 f w19 w20 = ref2_FieldsErr_l3 n m0 (m' + 1) v v5 v8 ((J (ovr f) p 0).getD (v.length : Int)) (f.At + f.Wide) v v22 v23 f w19 w20 := by
  have hf' := hf
  unfold Rg at hf'
  intro m
  induction m with
  | zero => intro b h1 h2 h3; exfalso; omega
  | succ m ih =>
    intro b h1 h2 h3
    by_cases hb : b < f.At + f.Wide
    · obtain ⟨m', h⟩ := ih (b + 1) (by omega) (by omega) (by omega)
      refine ⟨m', ?_⟩
      rw [← h, ref2_FieldsErr_l3_eq, w64 (x := f.At + f.Wide) (by omega) (by omega), dT hb, cond_true, w64 (x := b + 1) (by omega) (by omega)]
      have e : (J (ovB f.At (b + 1)) p 0) = mnO (J (ovB f.At b) p 0) (J (cov b) p 0) := by
        rw [← J_or]
        exact J_congr fun g hg => ovB_succ (by have := hp g hg; unfold Rg at this; omega) h1
      rw [e, ← mn_step (L := (v.length : Int)) (fun z hz => by have := J_bd _ _ _ _ hz; omega) (fun z hz => by have := J_bd _ _ _ _ hz; omega), ← h19 b]
      unfold mgetD
      rw [show mget E (.int .i64) (.int .i64) w19 b = imget w19 b from rfl]
      cases imget w19 b <;> rfl
    · refine ⟨m, ?_⟩
      have hb : b = f.At + f.Wide := by omega
      rw [hb]
      have e : J (ovB f.At (f.At + f.Wide)) p 0 = J (ovr f) p 0 := J_congr fun g hg => by
        rw [Bool.eq_iff_iff]
        unfold ovB ovr
        simp only [Bool.and_eq_true, decide_eq_true_eq]
        have := hp g hg
        unfold Rg at this
        omega
      rw [e]
theorem l5_loop (n m0 : Nat) (v : List FixedField) (v5 : Int) (v22 v23 : Int) (f : FixedField) (hf : Rg f) (w20 : List (List UInt8 × Int)) : ∀ (m : Nat) (b : Int) (w19 : List (Int × Int)), f.At ≤ b → b ≤ f.At + f.Wide → f.At + f.Wide - b < (m : Int) →
    ∃ w' : List (Int × Int), (∀ s : Int, imget w' s = if b ≤ s ∧ s < f.At + f.Wide then some v5 else imget w19 s) ∧ ref2_FieldsErr_l5 n m0 m v v5 b v v22 v23 f w19 w20 = ref2_FieldsErr_l0 n m0 v v v22 (IntKind.wrap .i64 (v23 + 1)) w' w20 := by
  have hf' := hf
  unfold Rg at hf'
  intro m
  induction m with
  | zero => intro b w19 h1 h2 h3; exfalso; omega
  | succ m ih =>
    intro b w19 h1 h2 h3
    rw [ref2_FieldsErr_l5_eq, w64 (x := f.At + f.Wide) (by omega) (by omega)]
    by_cases hb : b < f.At + f.Wide
    · rw [dT hb, cond_true, w64 (x := b + 1) (by omega) (by omega), mset_i]
      obtain ⟨w', h4, h5⟩ := ih (b + 1) (imset b v5 w19) (by omega) (by omega) (by omega)
      refine ⟨w', fun s => ?_, h5⟩
      rw [h4 s, imget_set]
      by_cases hs : s = b
      · rw [if_pos hs, if_pos (show b ≤ s ∧ s < f.At + f.Wide by omega)]
        split <;> rfl
      · rw [if_neg hs]
        by_cases hs2 : b ≤ s ∧ s < f.At + f.Wide
        · rw [if_pos hs2, if_pos (by omega)]
        · rw [if_neg hs2, if_neg (by omega)]
    · rw [dF hb, cond_false]
      exact ⟨w19, fun s => by rw [if_neg (by omega)], rfl⟩
/-- What two fields are to each other. -/
def prE (f : FixedField) (p : List FixedField) : Int := match J (fun g => g.Name == f.Name) p 0, J (ovr f) p 0 with
  | some a, some c => if a ≤ c then 5 else 17
  | some _, none => 5
  | none, some _ => 17
  | none, none => 0
theorem pr_loop (f : FixedField) (K : Option Int) (step : Nat → FixedField → Unit → (Unit → Option Int) → Option Int) : ∀ (p : List FixedField) (i : Nat), (∀ i g s k, g ∈ p → step i g s k = bif g.Name == f.Name then some 5 else bif ovr f g then some 17 else k ()) →
    foldK step (fun _ => K) p i () = match J (fun g => g.Name == f.Name) p i, J (ovr f) p i with
      | some a, some c => some (if a ≤ c then 5 else 17)
      | some _, none => some 5
      | none, some _ => some 17
      | none, none => K
  | [], i, _ => rfl
  | g :: p, i, h => by
    rw [foldK_cons, h i g _ _ (by simp), pr_loop f K step p (i + 1) fun i g s k hg => h i g s k (by simp [hg])]
    have hp := fun z h => (J_bd (fun g : FixedField => g.Name == f.Name) p (i + 1) z h).1
    have hq := fun z h => (J_bd (ovr f) p (i + 1) z h).1
    rw [J_cons, J_cons]
    cases h1 : g.Name == f.Name with
    | true =>
      simp only [cond_true, if_true]
      cases h2 : ovr f g with
      | true => simp
      | false =>
        simp only [Bool.false_eq_true, if_false]
        cases h3 : J (ovr f) p (i + 1) with
        | none => rfl
        | some z =>
          have := hq z h3
          simp only []
          rw [if_pos (by omega)]
    | false =>
      simp only [cond_false, Bool.false_eq_true, if_false]
      cases h2 : ovr f g with
      | true =>
        simp only [cond_true, if_true]
        cases h3 : J (fun g => g.Name == f.Name) p (i + 1) with
        | none => rfl
        | some z =>
          have := hp z h3
          simp only []
          rw [if_neg (by omega)]
      | false => simp only [cond_false, Bool.false_eq_true, if_false]

/-- Fields that are in order. -/
def V (l : List FixedField) : Prop := (∀ f ∈ l, Rg f) ∧ l.Pairwise fun g f => ovr f g = false
theorem ovr_comm (f g : FixedField) : ovr f g = ovr g f := by unfold ovr; rw [Bool.and_comm]
theorem V_app {p : List FixedField} {f : FixedField} (hp : V p) (hf : Rg f) (h : ∀ g ∈ p, ovr f g = false) : V (p ++ [f]) := by
  refine ⟨fun g hg => ?_, List.pairwise_append.2 ⟨hp.2, List.pairwise_singleton _ _, fun a ha b hb => ?_⟩⟩
  · rcases List.mem_append.1 hg with hg | hg
    · exact hp.1 g hg
    · rw [List.mem_singleton.1 hg]; exact hf
  · rw [List.mem_singleton.1 hb]
    exact h a ha
theorem both (n : Nat) (hn : 1000 < n) (v : List FixedField) (hv : v.length ≤ 24) (nm : List UInt8 → Bool) (hnm : ∀ f ∈ v, value_Name n f.Name = some (nm f.Name)) :
    ∀ (r p : List FixedField) (w19 : List (Int × Int)) (w20 : List (List UInt8 × Int)) (m m' : Nat), v = p ++ r → V p → (∀ b : Int, imget w19 b = J (cov b) p 0) → (∀ s : List UInt8, smget w20 s = J (fun g => g.Name == s) p 0) → r.length < m → r.length < m' →
      ∃ e, ref2_FieldsErr_l0 n m v v (v.length : Int) (p.length : Int) w19 w20 = some e ∧ fixed_Check_l0 n m' v v (v.length : Int) (p.length : Int) = some e ∧ (e = 0 → V v) := by
  intro r
  induction r with
  | nil =>
    intro p w19 w20 m m' hpr hp h19 h20 hm hm'
    have hpr : v = p := by simpa using hpr
    obtain ⟨m, rfl⟩ : ∃ k, m = k + 1 := ⟨m - 1, by simp only [List.length_nil] at hm; omega⟩
    obtain ⟨m', rfl⟩ : ∃ k, m' = k + 1 := ⟨m' - 1, by simp only [List.length_nil] at hm'; omega⟩
    refine ⟨0, ?_, ?_, fun _ => hpr ▸ hp⟩
    · rw [ref2_FieldsErr_l0_eq, dlt, dF (by rw [hpr]; omega), cond_false]
    · rw [fixed_Check_l0_eq, dlt, dF (by rw [hpr]; omega), cond_false]
  | cons f r ih =>
    intro p w19 w20 m m' hpr hp h19 h20 hm hm'
    rw [List.length_cons] at hm hm'
    obtain ⟨m, rfl⟩ : ∃ k, m = k + 1 := ⟨m - 1, by omega⟩
    obtain ⟨m', rfl⟩ : ∃ k, m' = k + 1 := ⟨m' - 1, by omega⟩
    have hl : v.length = p.length + (r.length + 1) := by rw [hpr, List.length_append, List.length_cons]
    have hi : p.length < v.length := by omega
    have hvi : v[p.length] = f := by simp [hpr]
    have hnf := hnm f (by rw [hpr]; simp)
    have htk : List.take p.length v = p := by rw [hpr]; simp
    rw [err_step n m v p.length hi w19 w20 (nm f.Name) (by rw [hvi]; exact hnf), hvi, fixed_Check_l0_eq, dlt, dT hi, d0, cond_true, Bool.true_and, cond_true, Int.toNat_natCast, getD_lt _ hi, hvi, one_ok n f _ hnf, bind_some2, dle, dT (Nat.le_of_lt hi), Bool.and_self, cond_true, htk]
    by_cases ho : oneE (nm f.Name) f = 0
    · have hrf := oneE_rg ho
      have hrf' := hrf
      unfold Rg at hrf'
      rw [if_pos ho, dT ho, Bool.not_true, cond_false]
      have hfold := fixed_Check_l2_fold n m' v v (v.length : Int) (p.length : Int) p f (by omega) n 0 (Nat.zero_le _) (by omega)
      rw [show ((0 : Nat) : Int) = 0 from rfl, List.drop_zero, pr_loop f (fixed_Check_l0 n m' v v (List.length v) (IntKind.wrap .i64 ((p.length : Int) + 1))) _ p 0 ?_] at hfold
      · rw [hfold, h20]
        obtain ⟨m2, h3⟩ := l3_loop n m v (p.length : Int) ((J (fun g => g.Name == f.Name) p 0).getD (v.length : Int)) (v.length : Int) (p.length : Int) f hrf w19 w20 p hp.1 (by omega) h19 n f.At (by omega) (by omega) (by omega)
        rw [show (J (ovB f.At f.At) p 0) = none from J_none.2 fun g _ => by unfold ovB; rw [dF (by omega), Bool.false_and]] at h3
        rw [show (Option.none (α := Int)).getD (v.length : Int) = (v.length : Int) from rfl] at h3
        rw [h3, ref2_FieldsErr_l3_eq, w64 (x := f.At + f.Wide) (by omega) (by omega), dF (show ¬ f.At + f.Wide < f.At + f.Wide by omega), cond_false]
        have b1 := fun z h => J_bd (fun g : FixedField => g.Name == f.Name) p 0 z h
        have b2 := fun z h => J_bd (ovr f) p 0 z h
        cases h1 : J (fun g => g.Name == f.Name) p 0 with
        | some a =>
          have := b1 a h1
          simp only [Option.getD_some]
          rw [dT (show a < (v.length : Int) by omega), cond_true]
          cases h2 : J (ovr f) p 0 with
          | some c =>
            have := b2 c h2
            simp only [Option.getD_some]
            by_cases hac : a ≤ c
            · rw [dT hac, cond_true, if_pos hac]
              exact ⟨5, rfl, rfl, fun h => absurd h (by decide)⟩
            · rw [dF hac, cond_false, dT (show c < (v.length : Int) by omega), cond_true, if_neg hac]
              exact ⟨17, rfl, rfl, fun h => absurd h (by decide)⟩
          | none =>
            simp only [Option.getD_none]
            rw [dT (show a ≤ (v.length : Int) by omega), cond_true]
            exact ⟨5, rfl, rfl, fun h => absurd h (by decide)⟩
        | none =>
          simp only [Option.getD_none]
          rw [dF (show ¬ (v.length : Int) < (v.length : Int) by omega), cond_false]
          cases h2 : J (ovr f) p 0 with
          | some c =>
            have := b2 c h2
            simp only [Option.getD_some]
            rw [dT (show c < (v.length : Int) by omega), cond_true]
            exact ⟨17, rfl, rfl, fun h => absurd h (by decide)⟩
          | none =>
            simp only [Option.getD_none]
            rw [dF (show ¬ (v.length : Int) < (v.length : Int) by omega), cond_false, mset_t]
            obtain ⟨w', h4, h5⟩ := l5_loop n m v (p.length : Int) (v.length : Int) (p.length : Int) f hrf (smset f.Name (p.length : Int) w20) n f.At w19 (by omega) (by omega) (by omega)
            rw [h5, i64_succ (by omega)]
            have e1 : p.length + 1 = (p ++ [f]).length := by simp
            rw [e1]
            refine ih (p ++ [f]) w' _ m m' (by rw [hpr]; simp) (V_app hp hrf (J_none.1 h2)) (fun b => ?_) (fun s => ?_) (by omega) (by omega)
            · rw [h4 b, h19 b, J_app]
              have hc : cov b f = decide (f.At ≤ b ∧ b < f.At + f.Wide) := by
                unfold cov
                rw [Bool.eq_iff_iff]
                simp
              by_cases hb : f.At ≤ b ∧ b < f.At + f.Wide
              · rw [if_pos hb, show J (cov b) p 0 = none from J_none.2 fun g hg => by
                  have := J_none.1 h2 g hg
                  have hg := hp.1 g hg
                  unfold ovr at this
                  unfold Rg at hg
                  unfold cov
                  rw [Bool.and_eq_false_iff, decide_eq_false_iff_not, decide_eq_false_iff_not] at this ⊢
                  omega, hc, dT hb]
                simp
              · rw [if_neg hb, hc, dF hb]
                cases J (cov b) p 0 <;> rfl
            · rw [smget_set, J_app, h20]
              by_cases hs : s = f.Name
              · rw [if_pos hs, hs, h1]
                simp
              · rw [if_neg hs]
                cases J (fun g => g.Name == s) p 0 with
                | some z => rfl
                | none =>
                  have hne : ¬ (f.Name == s) = true := fun e => hs (beq_iff_eq.1 e).symm
                  show none = if (f.Name == s) = true then _ else none
                  rw [if_neg hne]
      · intro i g s k hg
        have hg := hp.1 g hg
        unfold Rg at hg
        rw [w64 (x := g.At + g.Wide) (by omega) (by omega), w64 (x := f.At + f.Wide) (by omega) (by omega)]
        unfold ovr
        cases g.Name == f.Name with
        | true => rfl
        | false =>
          rw [cond_false, cond_false]
          cases decide (f.At < g.At + g.Wide) <;> cases decide (g.At < f.At + f.Wide) <;> rfl
    · rw [if_neg ho, dF ho, Bool.not_false, cond_true]
      exact ⟨_, rfl, rfl, fun h => absurd h ho⟩
theorem check_ok (n : Nat) (hn : 1000 < n) (v : List FixedField) (nm : List UInt8 → Bool) (hnm : ∀ f ∈ v, value_Name n f.Name = some (nm f.Name)) :
    ∃ e, ref2_FieldsErr n v = some e ∧ fixed_Check n v = some e ∧ (e = 0 → V v ∧ v.length ≤ 24) := by
  rw [ref2_FieldsErr_eq, fixed_Check_eq]
  by_cases hv : v.length ≤ 24
  · rw [dF (show ¬ (v.length : Int) > 24 by omega), cond_false, cond_false]
    obtain ⟨e, h1, h2, h3⟩ := both n hn v hv nm hnm v [] [] [] n n rfl ⟨by simp, .nil⟩ (fun _ => rfl) (fun _ => rfl) (by omega) (by omega)
    exact ⟨e, h1, h2, fun h => ⟨h3 h, hv⟩⟩
  · rw [dT (show (v.length : Int) > 24 by omega), cond_true, cond_true]
    exact ⟨2, rfl, rfl, fun h => absurd h (by decide)⟩
/-! ### What a field in order is -/
theorem fieldD {nm : Bool} {f : FixedField} (h : oneE nm f = 0) : (f.Kind = 0 ∨ f.Kind = 1 ∨ f.Kind = 2) ∧ (f.Kind ≠ 0 → 1 ≤ digE f ∧ digE f ≤ 15) := by
  unfold oneE at h
  cases nm with
  | false => rw [if_pos rfl] at h; omega
  | true =>
    rw [if_neg (by simp)] at h
    split at h
    · omega
    split at h
    · omega
    split at h
    · omega
    refine ⟨by omega, fun hk => ?_⟩
    rw [if_neg hk] at h
    split at h
    · omega
    unfold oneD at h
    split at h
    · omega
    split at h
    · omega
    · omega
theorem check_all (n : Nat) (hn : 1000 < n) (v : List FixedField) (hv : v.length ≤ 24) (nm : List UInt8 → Bool) (hnm : ∀ f ∈ v, value_Name n f.Name = some (nm f.Name)) :
    ∀ (r p : List FixedField) (m : Nat), v = p ++ r → (∀ g ∈ p, Rg g) → r.length < m → fixed_Check_l0 n m v v (v.length : Int) (p.length : Int) = some 0 → ∀ f ∈ r, oneE (nm f.Name) f = 0 := by
  intro r
  induction r with
  | nil => intro p m _ _ _ _ f hf; simp at hf
  | cons f r ih =>
    intro p m hpr hp hm h
    rw [List.length_cons] at hm
    obtain ⟨m, rfl⟩ : ∃ k, m = k + 1 := ⟨m - 1, by omega⟩
    have hl : v.length = p.length + (r.length + 1) := by rw [hpr, List.length_append, List.length_cons]
    have hi : p.length < v.length := by omega
    have hvi : v[p.length] = f := by simp [hpr]
    have hnf := hnm f (by rw [hpr]; simp)
    have htk : List.take p.length v = p := by rw [hpr]; simp
    rw [fixed_Check_l0_eq, dlt, dT hi, d0, cond_true, Bool.true_and, cond_true, Int.toNat_natCast, getD_lt _ hi, hvi, one_ok n f _ hnf, bind_some2, dle, dT (Nat.le_of_lt hi), Bool.and_self, cond_true, htk] at h
    by_cases ho : oneE (nm f.Name) f = 0
    · have hrf := oneE_rg ho
      have hrf' := hrf
      unfold Rg at hrf'
      rw [dT ho, Bool.not_true, cond_false] at h
      have hfold := fixed_Check_l2_fold n m v v (v.length : Int) (p.length : Int) p f (by omega) n 0 (Nat.zero_le _) (by omega)
      have hstep : ∀ (i : Nat) (g : FixedField) (s : Unit) (k : Unit → Option Int), g ∈ p → (bif ((g.Name) == f.Name) then (some 5) else (bif (decide (f.At < (IntKind.wrap .i64 ((g.At) + (g.Wide))))) then (bif (decide ((g.At) < (IntKind.wrap .i64 (f.At + f.Wide)))) then (some 17) else (k ())) else (k ()))) = bif g.Name == f.Name then some 5 else bif ovr f g then some 17 else k () := by
        intro i g s k hg
        have hg := hp g hg
        unfold Rg at hg
        rw [w64 (x := g.At + g.Wide) (by omega) (by omega), w64 (x := f.At + f.Wide) (by omega) (by omega)]
        unfold ovr
        cases g.Name == f.Name with
        | true => rfl
        | false =>
          rw [cond_false, cond_false]
          cases decide (f.At < g.At + g.Wide) <;> cases decide (g.At < f.At + f.Wide) <;> rfl
      rw [show ((0 : Nat) : Int) = 0 from rfl, List.drop_zero, pr_loop f (fixed_Check_l0 n m v v (List.length v) (IntKind.wrap .i64 ((p.length : Int) + 1))) _ p 0 hstep] at hfold
      rw [hfold] at h
      have hK : fixed_Check_l0 n m v v (List.length v) (IntKind.wrap .i64 ((p.length : Int) + 1)) = some 0 := by
        cases h1 : J (fun g => g.Name == f.Name) p 0 with
        | some a =>
          cases h2 : J (ovr f) p 0 with
          | some c =>
            rw [h1, h2] at h
            have h := Option.some.inj h
            split at h <;> omega
          | none =>
            rw [h1, h2] at h
            have h := Option.some.inj h
            omega
        | none =>
          cases h2 : J (ovr f) p 0 with
          | some c =>
            rw [h1, h2] at h
            have h := Option.some.inj h
            omega
          | none =>
            rw [h1, h2] at h
            exact h
      rw [i64_succ (by omega), show p.length + 1 = (p ++ [f]).length by simp] at hK
      intro x hx
      rcases List.mem_cons.1 hx with rfl | hx
      · exact ho
      · refine ih (p ++ [f]) m (by rw [hpr]; simp) (fun g hg => ?_) (by omega) hK x hx
        rcases List.mem_append.1 hg with hg | hg
        · exact hp g hg
        · rw [List.mem_singleton.1 hg]; exact hrf
    · rw [dF ho, Bool.not_false, cond_true] at h
      exact absurd (Option.some.inj h) ho
theorem check_one (n : Nat) (hn : 1000 < n) (v : List FixedField) (nm : List UInt8 → Bool) (hnm : ∀ f ∈ v, value_Name n f.Name = some (nm f.Name)) (h : fixed_Check n v = some 0) : v.length ≤ 24 ∧ ∀ f ∈ v, oneE (nm f.Name) f = 0 := by
  rw [fixed_Check_eq] at h
  by_cases hv : v.length ≤ 24
  · rw [dF (show ¬ (v.length : Int) > 24 by omega), cond_false] at h
    exact ⟨hv, check_all n hn v hv nm hnm v [] n rfl (by simp) (by omega) h⟩
  · rw [dT (show (v.length : Int) > 24 by omega), cond_true] at h
    exact absurd (Option.some.inj h) (by decide)
/-! ### Two digits in a byte -/
def IsD (c : UInt8) : Prop := 48 ≤ c.toNat ∧ c.toNat ≤ 57
def pv (c : UInt8) : Nat := c.toNat - 48
def pkL (t : Nat) : List UInt8 → List UInt8
  | [] => []
  | [a] => [UInt8.ofNat (16 * pv a + t)]
  | a :: b :: r => UInt8.ofNat (16 * pv a + pv b) :: pkL t r
theorem dgs_isD : ∀ (D u : Nat), ∀ c ∈ dgs D u, IsD c
  | 0, _, c, h => by cases h
  | D + 1, u, c, h => by
    rcases List.mem_append.1 (show c ∈ dgs D (u / 10) ++ [dch u] from h) with h | h
    · exact dgs_isD D _ c h
    · rw [List.mem_singleton.1 h]
      unfold IsD dch
      have : u % 10 < 10 := Nat.mod_lt _ (by decide)
      rw [UInt8.toNat_ofNat']
      omega
theorem wu8s {x : Int} (h0 : 0 ≤ x) (h : x < 256) : IntKind.wrap .u8 x = x := by
  unfold IntKind.wrap
  simp only [IntKind.signed, IntKind.bits]
  simp
  omega
theorem orD0 : ∀ (a : Fin 10) (b : Fin 16), Fv.bits .or .u8 (shl .u8 (a.val : Int) 4) (b.val : Int) = ((16 * a.val + b.val : Nat) : Int) := by decide +kernel
theorem orD (a b : Nat) (ha : a < 10) (hb : b < 16) : Fv.bits .or .u8 (shl .u8 (a : Int) 4) (b : Int) = ((16 * a + b : Nat) : Int) := orD0 ⟨a, ha⟩ ⟨b, hb⟩
theorem chD {c : UInt8} (h : IsD c) : IntKind.wrap .u8 (((UInt8.toNat c : Nat) : Int) - 48) = (pv c : Int) ∧ pv c < 10 := by
  unfold IsD at h
  unfold pv
  rw [wu8s (by omega) (by omega)]
  omega
theorem ints_one (k : Nat) (h : k < 256) : ints [UInt8.ofNat k] = [(k : Int)] := by
  show [((UInt8.ofNat k).toNat : Int)] = _
  rw [UInt8.toNat_ofNat', Nat.mod_eq_of_lt (by omega)]
theorem pack_loop (n : Nat) (s : List UInt8) (t : Nat) (ht : t < 16) (hs : ∀ c ∈ s, IsD c) (hl : s.length ≤ 2000) : ∀ (r p : List UInt8) (w : List Int) (m : Nat), s = p ++ r → r.length % 2 = 1 → w.length + r.length ≤ 5000 → r.length < m →
    fixed_bytes_l0 n m s (t : Int) (p.length : Int) w = some (w ++ ints (pkL t r))
  | [], p, w, m, _, h, _, _ => by simp at h
  | [a], p, w, m, hp, h, hw, hm => by
    obtain ⟨m, rfl⟩ : ∃ k, m = k + 1 := ⟨m - 1, by simp at hm; omega⟩
    have hsl : s.length = p.length + 1 := by rw [hp]; simp
    have hg : List.getD s p.length 0 = a := by rw [hp]; simp [List.getD]
    obtain ⟨c1, c2⟩ := chD (hs a (by rw [hp]; simp))
    rw [fixed_bytes_l0_eq, i64_succ (by omega), dlt, dF (by omega), cond_false]
    have hlast : IntKind.wrap .i64 ((s.length : Int) - 1) = (p.length : Int) := by rw [hsl]; exact i64_pred (by omega)
    rw [hlast, d0, dlt, dT (show p.length < s.length by omega), Bool.and_self, cond_true, show decide ((0 : Nat) ≤ 4) = true from rfl, cond_true, Int.toNat_natCast, hg, c1, orD _ _ c2 ht, dT rfl, List.length_singleton, dT (show w.length + 1 ≤ 4294967296 by simp at hw; omega), Bool.and_self, cond_true, dT rfl, cond_true]
    show some (w ++ [((16 * pv a + t : Nat) : Int)]) = some (w ++ ints [UInt8.ofNat (16 * pv a + t)])
    rw [ints_one _ (by omega)]
  | a :: b :: r, p, w, m, hp, h, hw, hm => by
    simp only [List.length_cons] at h hw hm
    obtain ⟨m, rfl⟩ : ∃ k, m = k + 1 := ⟨m - 1, by omega⟩
    have hsl : s.length = p.length + (r.length + 2) := by rw [hp]; simp
    have hg : List.getD s p.length 0 = a := by rw [hp]; simp [List.getD]
    have hg2 : List.getD s (p.length + 1) 0 = b := by rw [hp]; simp [List.getD]
    obtain ⟨c1, c2⟩ := chD (hs a (by rw [hp]; simp))
    obtain ⟨c3, c4⟩ := chD (hs b (by rw [hp]; simp))
    rw [fixed_bytes_l0_eq, i64_succ (by omega), dlt, dT (by omega), cond_true, d0, dlt, dT (show p.length < s.length by omega), Bool.and_self, cond_true, show decide ((0 : Nat) ≤ 4) = true from rfl, cond_true, d0, Bool.true_and, cond_true, Int.toNat_natCast, Int.toNat_natCast, hg, hg2, c1, c3, orD _ _ c2 (by omega), dT rfl, List.length_singleton, dT (show w.length + 1 ≤ 4294967296 by omega), Bool.and_self, cond_true, w64 (by omega) (by omega), show (p.length : Int) + 2 = ((p ++ [a, b]).length : Nat) by simp]
    rw [pack_loop n s t ht hs hl r (p ++ [a, b]) _ m (by rw [hp]; simp) (by omega) (by simp; omega) (by omega)]
    show some (w ++ [((16 * pv a + pv b : Nat) : Int)] ++ ints (pkL t r)) = some (w ++ ints (UInt8.ofNat (16 * pv a + pv b) :: pkL t r))
    rw [List.append_assoc, show ints (UInt8.ofNat (16 * pv a + pv b) :: pkL t r) = ints [UInt8.ofNat (16 * pv a + pv b)] ++ ints (pkL t r) from rfl, ints_one _ (by omega)]
theorem hexD_d {c : UInt8} (h : IsD c) : hexD c = some (pv c) := by
  unfold IsD at h
  unfold hexD pv
  rw [if_pos h]
theorem pu_two {a b : UInt8} {x y : Nat} (ha : hexD a = some x) (hb : hexD b = some y) (hx : x < 16) (hy : y < 16) : pu16O [a, b] 16 8 = some ((16 * x + y : Nat) : Int) := by
  have : hexL 0 [a, b] = some (16 * x + y) := by
    simp only [hexL, ha, hb]
    rw [if_pos (by omega), if_pos (by omega)]
    congr 1
    omega
  show (hexL 0 [a, b]).map (fun n => (n : Int)) = _
  rw [this]
  rfl
theorem byts_one (k : Nat) (h : k < 256) : byts [IntKind.wrap .u8 (k : Int)] = [UInt8.ofNat k] := by
  rw [wu8s (by omega) (by omega)]
  rfl
theorem put_loop3 (n : Nat) (s : List UInt8) (ch : UInt8) (t : Nat) (hch : hexD ch = some t) (ht : t < 16) (hs : ∀ c ∈ s, IsD c) (hl : s.length ≤ 2000) : ∀ (r p : List UInt8) (w : List UInt8) (m : Nat), s = p ++ r → r.length % 2 = 1 → w.length + r.length ≤ 5000 → r.length + 1 < m →
    ref2_Put_l3 n m (s ++ [ch]) w (p.length : Int) = some (w ++ pkL t r, 0)
  | [], p, w, m, _, h, _, _ => by simp at h
  | [a], p, w, m, hp, h, hw, hm => by
    simp only [List.length_singleton] at hm hw
    obtain ⟨m, rfl⟩ : ∃ k, m = k + 2 := ⟨m - 2, by omega⟩
    have hsl : (s ++ [ch]).length = p.length + 2 := by rw [hp]; simp
    have hpc : List.drop p.length (List.take (p.length + 2) (s ++ [ch])) = [a, ch] := by
      rw [hp, List.append_assoc, List.take_append, List.take_of_length_le (by omega), show p.length + 2 - p.length = 2 by omega, List.drop_left]
      rfl
    have hsl0 : s.length = p.length + 1 := by rw [hp]; simp
    have hD := hs a (by rw [hp]; simp)
    obtain ⟨_, c2⟩ := chD hD
    rw [ref2_Put_l3_eq, w64 (x := (p.length : Int) + 2) (by omega) (by omega), show (p.length : Int) + 2 = ((p.length + 2 : Nat) : Int) by omega, hsl, dlt, dT (by omega), cond_true, d0, dle, dT (by omega), dle, dT (Nat.le_refl _), Bool.and_self, Bool.and_self, cond_true, Int.toNat_natCast, Int.toNat_natCast, hpc,
      pu_two (hexD_d hD) hch (by omega) ht, bind_some2, byts_one _ (by omega), List.length_singleton, dT (show w.length + 1 ≤ 4294967296 by omega), cond_true, ref2_Put_l3_eq, hsl, dlt, dF (by omega), cond_false]
    rfl
  | a :: b :: r, p, w, m, hp, h, hw, hm => by
    simp only [List.length_cons] at h hw hm
    obtain ⟨m, rfl⟩ : ∃ k, m = k + 1 := ⟨m - 1, by omega⟩
    have hsl : (s ++ [ch]).length = p.length + (r.length + 3) := by rw [hp]; simp
    have hpc : List.drop p.length (List.take (p.length + 2) (s ++ [ch])) = [a, b] := by
      rw [hp, List.append_assoc, List.take_append, List.take_of_length_le (by omega), show p.length + 2 - p.length = 2 by omega, List.drop_left]
      rfl
    have hsl0 : s.length = p.length + (r.length + 2) := by rw [hp]; simp
    have hD := hs a (by rw [hp]; simp)
    have hD2 := hs b (by rw [hp]; simp)
    obtain ⟨_, c2⟩ := chD hD
    obtain ⟨_, c4⟩ := chD hD2
    rw [ref2_Put_l3_eq, w64 (x := (p.length : Int) + 2) (by omega) (by omega), show (p.length : Int) + 2 = ((p.length + 2 : Nat) : Int) by omega, hsl, dlt, dT (by omega), cond_true, d0, dle, dT (by omega), dle, dT (by omega), Bool.and_self, Bool.and_self, cond_true, Int.toNat_natCast, Int.toNat_natCast, hpc,
      pu_two (hexD_d hD) (hexD_d hD2) (by omega) (by omega), bind_some2, byts_one _ (by omega), List.length_singleton, dT (show w.length + 1 ≤ 4294967296 by omega), cond_true, show ((p.length + 2 : Nat) : Int) = ((p ++ [a, b]).length : Nat) by simp]
    rw [put_loop3 n s ch t hch ht hs hl r (p ++ [a, b]) _ m (by rw [hp]; simp) (by omega) (by simp; omega) (by omega)]
    show some (w ++ [UInt8.ofNat (16 * pv a + pv b)] ++ pkL t r, 0) = some (w ++ (UInt8.ofNat (16 * pv a + pv b) :: pkL t r), 0)
    rw [List.append_assoc]
    rfl
/-! ### How wide -/
def endF (f : FixedField) : Int := f.At + f.Wide
def mxL (l : List FixedField) : Int := l.foldl (fun s a => mxI s (IntKind.wrap .i64 (a.At + a.Wide))) 0
theorem wide_ok (n : Nat) (l : List FixedField) (hl : l.length < 4611686018427387904) (hn : l.length < n) : fixed_Wide n l = some (mxL l) := by
  have h := fixed_Wide_l0_fold n l 0 (by omega) n 0 (Nat.zero_le _) (by omega)
  rw [show ((0 : Nat) : Int) = 0 from rfl] at h
  rw [fixed_Wide_eq, h, List.drop_zero, foldK_all (fun s a => mxI s (IntKind.wrap .i64 (a.At + a.Wide))) l 0 0 fun i a s K _ => rfl]
  rfl
theorem breadth_ok (n : Nat) (l : List FixedField) (hl : l.length < 4611686018427387904) (hn : l.length < n) : ref2_Breadth n l = some (mxL l) := by
  have h := ref2_Breadth_l0_fold n l 0 (by omega) n 0 (Nat.zero_le _) (by omega)
  rw [show ((0 : Nat) : Int) = 0 from rfl] at h
  rw [ref2_Breadth_eq, h, List.drop_zero, foldK_all (fun s a => mxI s (IntKind.wrap .i64 (a.At + a.Wide))) l 0 0 fun i a s K _ => by
    show (bif _ then _ else _) = K (bif _ then _ else _)
    cases decide (IntKind.wrap .i64 (a.At + a.Wide) > s) <;> rfl]
  rfl
theorem mxL_spec : ∀ (l : List FixedField) (s : Int), (∀ f ∈ l, Rg f) → (∀ f ∈ l, endF f ≤ l.foldl (fun s a => mxI s (IntKind.wrap .i64 (a.At + a.Wide))) s) ∧ s ≤ l.foldl (fun s a => mxI s (IntKind.wrap .i64 (a.At + a.Wide))) s ∧
    (l.foldl (fun s a => mxI s (IntKind.wrap .i64 (a.At + a.Wide))) s = s ∨ ∃ f ∈ l, l.foldl (fun s a => mxI s (IntKind.wrap .i64 (a.At + a.Wide))) s = endF f)
  | [], s, _ => ⟨by simp, Int.le_refl _, .inl rfl⟩
  | f :: r, s, h => by
    have hf := h f (by simp)
    unfold Rg at hf
    obtain ⟨i1, i2, i3⟩ := mxL_spec r (mxI s (IntKind.wrap .i64 (f.At + f.Wide))) fun g hg => h g (by simp [hg])
    rw [List.foldl_cons]
    have e : (mxI s (IntKind.wrap .i64 (f.At + f.Wide)) = s ∧ endF f ≤ s) ∨ (mxI s (IntKind.wrap .i64 (f.At + f.Wide)) = endF f ∧ s ≤ endF f) := by
      rw [w64 (by omega) (by omega)]
      unfold mxI endF
      by_cases hc : f.At + f.Wide > s
      · rw [dT hc, cond_true]; exact .inr ⟨rfl, by omega⟩
      · rw [dF hc, cond_false]; exact .inl ⟨rfl, by omega⟩
    generalize List.foldl (fun s a => mxI s (IntKind.wrap .i64 (a.At + a.Wide))) (mxI s (IntKind.wrap .i64 (f.At + f.Wide))) r = z at i1 i2 i3 ⊢
    refine ⟨fun g hg => ?_, by omega, ?_⟩
    · rcases List.mem_cons.1 hg with rfl | hg
      · omega
      · exact i1 g hg
    · rcases i3 with h3 | ⟨g, hg, h3⟩
      · rcases e with ⟨e, _⟩ | ⟨e, _⟩
        · exact .inl (h3.trans e)
        · exact .inr ⟨f, by simp, h3.trans e⟩
      · exact .inr ⟨g, by simp [hg], h3⟩
/-! ### A number with a point -/
theorem dec_head : ∀ (u : Nat), ∀ c ∈ Go.Lib.decDigits u, c ≠ 45 := by
  intro u
  induction u using Nat.strongRecOn with
  | _ u ih =>
    intro c hc
    rw [Go.Lib.decDigits] at hc
    split at hc
    · rename_i h
      rw [List.mem_singleton.1 hc]
      have h10 : ∀ k : Fin 10, UInt8.ofNat (48 + k.val) ≠ 45 := by decide
      exact h10 ⟨u, h⟩
    · rename_i h
      rcases List.mem_append.1 hc with hc | hc
      · exact ih (u / 10) (by omega) c hc
      · rw [List.mem_singleton.1 hc]
        have h10 : ∀ k : Fin 10, UInt8.ofNat (48 + k.val) ≠ 45 := by decide
        exact h10 ⟨u % 10, by omega⟩
theorem trim_dec (u : Nat) : Go.Lib.trimPrefix (Go.Lib.decDigits u) [45] = Go.Lib.decDigits u := by
  have h := dec_head u
  unfold Go.Lib.trimPrefix Go.Lib.hasPrefix
  cases hd : Go.Lib.decDigits u with
  | nil => rfl
  | cons c r =>
    rw [hd] at h
    have := h c (by simp)
    rw [if_neg]
    simp only [List.isPrefixOf, Bool.and_true, beq_iff_eq]
    exact fun e => this e.symm
theorem trim_neg (s : List UInt8) : Go.Lib.trimPrefix (45 :: s) [45] = s := by
  unfold Go.Lib.trimPrefix Go.Lib.hasPrefix
  rw [if_pos (by simp [List.isPrefixOf])]
  rfl
theorem rep_zero : ∀ k : Nat, Go.Lib.repeatL [48] k = List.replicate k 48
  | 0 => rfl
  | k + 1 => by
    show [48] ++ Go.Lib.repeatL [48] k = _
    rw [rep_zero k]
    rfl
def padL (k : Nat) (d : List UInt8) : List UInt8 := List.replicate (k + 1 - d.length) 48 ++ d
def pntL (k : Nat) (t : List UInt8) : List UInt8 := if 0 < k then List.take (t.length - k) t ++ [46] ++ List.drop (t.length - k) t else t
def shE (z : Int) (k : Nat) : List UInt8 := if z < 0 then 45 :: pntL k (padL k (Go.Lib.decDigits z.natAbs)) else pntL k (padL k (Go.Lib.decDigits z.natAbs))
theorem padL_len (k : Nat) (d : List UInt8) : k + 1 ≤ (padL k d).length ∧ (padL k d).length ≤ k + 1 + d.length := by
  unfold padL
  rw [List.length_append, List.length_replicate]
  omega
theorem scale_nat (z : Int) : ∃ k : Nat, mxI (0 : Int) (mnI (15 : Int) z) = (k : Int) ∧ k ≤ 15 ∧ k = z.toNat.min 15 := by
  have e : mxI (0 : Int) (mnI (15 : Int) z) = (z.toNat.min 15 : Nat) := by
    unfold mxI mnI
    by_cases h : z < 15
    · rw [dT h, cond_true]
      by_cases h2 : z > 0
      · rw [dT h2, cond_true]
        have : z.toNat.min 15 = z.toNat := Nat.min_eq_left (by omega)
        rw [this]; omega
      · rw [dF h2, cond_false]
        have : z.toNat = 0 := by omega
        rw [this]; rfl
    · rw [dF h, cond_false, dT (by decide), cond_true]
      have : z.toNat.min 15 = 15 := Nat.min_eq_right (by omega)
      rw [this]; rfl
  exact ⟨_, e, Nat.min_le_right _ _, rfl⟩
theorem abs_ok {z : Int} (h1 : -9223372036854775808 ≤ z) (h2 : z < 9223372036854775808) : IntKind.wrap .u64 (mxI z (IntKind.wrap .i64 (0 - z))) = (z.natAbs : Int) ∧ z.natAbs ≤ 9223372036854775808 := by
  have wu : ∀ x : Int, IntKind.wrap .u64 x = x % 18446744073709551616 := fun x => by unfold IntKind.wrap; simp [IntKind.signed, IntKind.bits]
  rw [wu]
  by_cases hm : z = -9223372036854775808
  · subst hm
    exact ⟨by decide, by decide⟩
  · rw [w64 (by omega) (by omega)]
    unfold mxI
    by_cases h : 0 - z > z
    · rw [dT h, cond_true]; omega
    · rw [dF h, cond_false]; omega
theorem dec_len (z : Int) (h : z.natAbs ≤ 9223372036854775808) : 1 ≤ (Go.Lib.decDigits z.natAbs).length ∧ (Go.Lib.decDigits z.natAbs).length ≤ 20 := by
  rw [Go.Lib.decDigits_length]
  refine ⟨Go.Lib.nDigits_pos _, ?_⟩
  by_cases h0 : z.natAbs = 0
  · rw [h0, Go.Lib.nDigits_small (by decide)]; decide
  · obtain ⟨a, b⟩ := Go.Lib.numDigits_eq z.natAbs (by omega) (by omega)
    split at a <;> omega
/-- The point and the sign. -/
theorem tail_ok (z : Int) (k : Nat) (hk : k ≤ 15) (t : List UInt8) (ht : k + 1 ≤ t.length) (ht2 : t.length ≤ 1000) :
    (bif (decide ((k : Int) > 0)) then (bif (decide (0 ≤ (IntKind.wrap .i64 ((List.length t : Int) - (k : Int)))) && decide ((IntKind.wrap .i64 ((List.length t : Int) - (k : Int))) ≤ (List.length t))) then (bif (decide (List.length (List.take (Int.toNat (IntKind.wrap .i64 ((List.length t : Int) - (k : Int)))) t) + List.length [46] ≤ 4294967296)) then (bif (decide (0 ≤ (IntKind.wrap .i64 ((List.length t : Int) - (k : Int)))) && decide ((IntKind.wrap .i64 ((List.length t : Int) - (k : Int))) ≤ (List.length t))) then (bif (decide (List.length ((List.take (Int.toNat (IntKind.wrap .i64 ((List.length t : Int) - (k : Int)))) t) ++ [46]) + List.length (List.drop (Int.toNat (IntKind.wrap .i64 ((List.length t : Int) - (k : Int)))) t) ≤ 4294967296)) then (bif (decide (z < 0)) then (bif (decide (List.length ([45] : List UInt8) + List.length (((List.take (Int.toNat (IntKind.wrap .i64 ((List.length t : Int) - (k : Int)))) t) ++ [46]) ++ (List.drop (Int.toNat (IntKind.wrap .i64 ((List.length t : Int) - (k : Int)))) t)) ≤ 4294967296)) then (some (([45] : List UInt8) ++ (((List.take (Int.toNat (IntKind.wrap .i64 ((List.length t : Int) - (k : Int)))) t) ++ [46]) ++ (List.drop (Int.toNat (IntKind.wrap .i64 ((List.length t : Int) - (k : Int)))) t)))) else none) else (some (((List.take (Int.toNat (IntKind.wrap .i64 ((List.length t : Int) - (k : Int)))) t) ++ [46]) ++ (List.drop (Int.toNat (IntKind.wrap .i64 ((List.length t : Int) - (k : Int)))) t)))) else none) else none) else none) else none) else (bif (decide (z < 0)) then (bif (decide (List.length ([45] : List UInt8) + List.length t ≤ 4294967296)) then (some (([45] : List UInt8) ++ t)) else none) else (some t)))
      = some (if z < 0 then 45 :: pntL k t else pntL k t) := by
  have hw : IntKind.wrap .i64 ((List.length t : Int) - (k : Int)) = ((t.length - k : Nat) : Int) := by rw [w64 (by omega) (by omega)]; omega
  rw [hw, Int.toNat_natCast, d0, dle, dT (show t.length - k ≤ t.length by omega)]
  unfold pntL
  have l1 : List.length (List.take (t.length - k) t) + List.length [46] ≤ 4294967296 := by rw [List.length_take, List.length_singleton]; omega
  have l2 : (List.take (t.length - k) t ++ [46]).length + (List.drop (t.length - k) t).length ≤ 4294967296 := by rw [List.length_append, List.length_take, List.length_singleton, List.length_drop]; omega
  have l3 : [(45 : UInt8)].length + (List.take (t.length - k) t ++ [46] ++ List.drop (t.length - k) t).length ≤ 4294967296 := by rw [List.length_append, List.length_append, List.length_take, List.length_singleton, List.length_drop, List.length_singleton]; omega
  have l4 : [(45 : UInt8)].length + t.length ≤ 4294967296 := by rw [List.length_singleton]; omega
  rw [dT l1, dT l2, dT l3, dT l4]
  simp only [Bool.and_self, cond_true]
  by_cases hk0 : 0 < k
  · rw [dT (show (k : Int) > 0 by omega), if_pos hk0]
    by_cases hz : z < 0
    · rw [dT hz, if_pos hz]; rfl
    · rw [dF hz, if_neg hz]; rfl
  · rw [dF (show ¬ (k : Int) > 0 by omega), if_neg hk0]
    by_cases hz : z < 0
    · rw [dT hz, if_pos hz]; rfl
    · rw [dF hz, if_neg hz]; rfl
theorem shown_ok (n : Nat) (z s : Int) (h1 : -9223372036854775808 ≤ z) (h2 : z < 9223372036854775808) : fixed_Shown n z s = some (shE z (s.toNat.min 15)) := by
  obtain ⟨k, hk, hk15, e⟩ := scale_nat s
  obtain ⟨ha, hb⟩ := abs_ok h1 h2
  obtain ⟨d1, d2⟩ := dec_len z hb
  rw [← e, fixed_Shown_eq, hk, ha]
  have hf : fmtuO ((z.natAbs : Nat) : Int) 10 = some (Go.Lib.decDigits z.natAbs) := by
    unfold fmtuO u64R
    rw [d0, dT (by omega), dT rfl, Int.toNat_natCast]
    rfl
  rw [hf, bind_some2]
  unfold shE
  generalize Go.Lib.decDigits z.natAbs = d at d1 d2 ⊢
  have hpl := padL_len k d
  by_cases hd : d.length ≤ k
  · rw [dle, dT hd, cond_true]
    have hr : repO [48] (IntKind.wrap .i64 (IntKind.wrap .i64 ((k : Int) + 1) - (d.length : Int))) = some (List.replicate (k + 1 - d.length) 48) := by
      rw [w64 (x := (k : Int) + 1) (by omega) (by omega), w64 (by omega) (by omega)]
      unfold repO
      rw [dT (show (0 : Int) ≤ (k : Int) + 1 - (d.length : Int) by omega), dT (show (k : Int) + 1 - (d.length : Int) ≤ 4294967296 by omega), dT (show List.length [(48 : UInt8)] ≤ 32768 by decide), show ((k : Int) + 1 - (d.length : Int)).toNat = k + 1 - d.length by omega, rep_zero]
      rfl
    rw [hr, bind_some2, dT (show List.length (List.replicate (k + 1 - d.length) (48 : UInt8)) + d.length ≤ 4294967296 by rw [List.length_replicate]; omega), cond_true]
    have ht := tail_ok z k hk15 (padL k d) hpl.1 (by omega)
    unfold padL at ht ⊢
    exact ht
  · rw [dle, dF hd, cond_false]
    have hp : padL k d = d := by unfold padL; rw [show k + 1 - d.length = 0 by omega]; rfl
    rw [hp] at hpl ⊢
    exact tail_ok z k hk15 d hpl.1 (by omega)
theorem widths_ok (n : Nat) : law2_widths n = some true := by
  have e1 : fixed_Shown n (-5) 2 = some [45, 48, 46, 48, 53] := by
    rw [shown_ok n (-5) 2 (by decide) (by decide)]
    unfold shE
    rw [if_pos (by decide), show (-5 : Int).natAbs = 5 from rfl, Go.Lib.decDigits_one (by decide)]
    rfl
  have e2 : fixed_Shown n 7 0 = some [55] := by
    rw [shown_ok n 7 0 (by decide) (by decide)]
    unfold shE
    rw [if_neg (by decide), show (7 : Int).natAbs = 7 from rfl, Go.Lib.decDigits_one (by decide)]
    rfl
  rw [law2_widths_eq, e1, bind_some2, e2, bind_some2]
  rfl

/-! ### Numbers' texts, read -/
theorem parse_eq (s : List UInt8) : Go.Lib.parseIntB 64 s = Go.Lib.atoiAll s := by
  have h1 : ∀ (l : List UInt8) (acc : Nat), Go.Lib.parseUintM (2 ^ 64 - 1) acc l = Go.Lib.parseUint10 acc l := by
    intro l
    induction l with
    | nil => intro acc; rfl
    | cons c r ih =>
      intro acc
      simp only [Go.Lib.parseUintM, Go.Lib.parseUint10]
      by_cases h : 48 ≤ c.toNat ∧ c.toNat ≤ 57
      · rw [if_pos h, if_pos h]
        by_cases h2 : 1844674407370955162 ≤ acc
        · rw [if_pos h2, if_pos h2]
        · rw [if_neg h2, if_neg h2]
          by_cases h3 : 18446744073709551616 ≤ acc * 10 + (c.toNat - 48)
          · rw [if_pos (by omega), if_pos h3]
          · rw [if_neg (by omega), if_neg h3]
            exact ih _
      · rw [if_neg h, if_neg h]
  have h2 : ∀ l : List UInt8, Go.Lib.parseUintB 64 l = Go.Lib.parseMag l := fun l => by
    unfold Go.Lib.parseUintB Go.Lib.parseMag
    rw [h1]
  cases s with
  | nil => rfl
  | cons c r =>
    simp only [Go.Lib.parseIntB, Go.Lib.atoiAll, h2]
    rfl
def dval (l : List UInt8) (acc : Nat) : Nat := l.foldl (fun a c => a * 10 + (c.toNat - 48)) acc
abbrev Dig (l : List UInt8) : Prop := ∀ c ∈ l, 48 ≤ c.toNat ∧ c.toNat ≤ 57
theorem pu_val : ∀ (l : List UInt8) (acc u : Nat), Go.Lib.parseUint10 acc l = .ok u → Dig l ∧ u = dval l acc
  | [], acc, u, h => by
    have h : Go.Lib.NumEnd.ok acc = .ok u := h
    injection h with h
    exact ⟨fun c hc => absurd hc List.not_mem_nil, h.symm⟩
  | c :: r, acc, u, h => by
    simp only [Go.Lib.parseUint10] at h
    split at h
    · rename_i hc
      split at h
      · cases h
      · split at h
        · cases h
        · obtain ⟨h1, h2⟩ := pu_val r _ u h
          exact ⟨fun x hx => by rcases List.mem_cons.1 hx with rfl | hx; exact hc; exact h1 x hx, h2⟩
    · cases h
theorem mag_val {l : List UInt8} {u : Nat} (h : Go.Lib.parseMag l = .ok u) : l ≠ [] ∧ Dig l ∧ u = dval l 0 := by
  unfold Go.Lib.parseMag at h
  split at h
  · cases h
  · rename_i h0
    exact ⟨h0, pu_val l 0 u h⟩
theorem dval_snoc (m : List UInt8) (c : UInt8) (acc : Nat) : dval (m ++ [c]) acc = dval m acc * 10 + (c.toNat - 48) := by simp [dval]
theorem u8_dig {c : UInt8} (h : 48 ≤ c.toNat ∧ c.toNat ≤ 57) : UInt8.ofNat (48 + (c.toNat - 48)) = c := by
  rw [show 48 + (c.toNat - 48) = c.toNat by omega]
  exact UInt8.ofNat_toNat
theorem dval_pos : ∀ (l : List UInt8), Dig l → l.getD 0 0 ≠ 48 → l ≠ [] → ∀ acc, 1 ≤ dval l acc
  | [], _, _, h, _ => absurd rfl h
  | c :: r, hd, h, _, acc => by
    have key : ∀ (r : List UInt8) (a : Nat), a ≤ dval r a := by
      intro r
      induction r with
      | nil => intro a; exact Nat.le_refl _
      | cons x r ih => intro a; exact Nat.le_trans (by omega) (ih (a * 10 + (x.toNat - 48)))
    have hc := hd c (by simp)
    have h : c ≠ 48 := h
    have : c.toNat ≠ 48 := fun e => h (UInt8.toNat_inj.1 e)
    exact Nat.le_trans (by omega) (key r (acc * 10 + (c.toNat - 48)))
/-- Digits without zeros ahead are those of their number. -/
theorem dec_canon : ∀ (k : Nat) (l : List UInt8), l.length = k → Dig l → l ≠ [] → (l.getD 0 0 ≠ 48 ∨ l = [48]) → Go.Lib.decDigits (dval l 0) = l
  | 0, l, hk, _, h0, _ => absurd (List.length_eq_zero_iff.1 hk) h0
  | k + 1, l, hk, hd, h0, hc => by
    obtain ⟨m, c, rfl⟩ : ∃ m c, l = m ++ [c] := ⟨l.dropLast, l.getLast h0, (List.dropLast_concat_getLast h0).symm⟩
    have hcd := hd c (by simp)
    rw [dval_snoc]
    cases m with
    | nil =>
      show Go.Lib.decDigits (0 * 10 + (c.toNat - 48)) = [c]
      rw [Nat.zero_mul, Nat.zero_add, Go.Lib.decDigits_one (by omega), u8_dig hcd]
    | cons x m =>
      have hx : x ≠ 48 := by
        rcases hc with h | h
        · exact h
        · have := congrArg List.length h
          simp at this
      have hdm : Dig (x :: m) := fun y hy => hd y (List.mem_append_left _ hy)
      have ih := dec_canon k (x :: m) (by simpa using hk) hdm (by simp) (.inl hx)
      have hp := dval_pos (x :: m) hdm hx (by simp) 0
      rw [Go.Lib.decDigits, dif_neg (by omega), show (dval (x :: m) 0 * 10 + (c.toNat - 48)) / 10 = dval (x :: m) 0 by omega, show (dval (x :: m) 0 * 10 + (c.toNat - 48)) % 10 = c.toNat - 48 by omega, ih, u8_dig hcd]
theorem dec_head1 : ∀ (u : Nat), (Go.Lib.decDigits u).getD 0 0 ≠ 43 ∧ (Go.Lib.decDigits u).getD 0 0 ≠ 45 ∧ (1 ≤ u → (Go.Lib.decDigits u).getD 0 0 ≠ 48) ∧ Go.Lib.decDigits u ≠ [] := by
  intro u
  induction u using Nat.strongRecOn with
  | ind u ih =>
    by_cases h : u < 10
    · rw [Go.Lib.decDigits_one h]
      have : u = 0 ∨ u = 1 ∨ u = 2 ∨ u = 3 ∨ u = 4 ∨ u = 5 ∨ u = 6 ∨ u = 7 ∨ u = 8 ∨ u = 9 := by omega
      rcases this with rfl | rfl | rfl | rfl | rfl | rfl | rfl | rfl | rfl | rfl <;> decide
    · rw [Go.Lib.decDigits, dif_neg h]
      obtain ⟨h1, h2, h3, h4⟩ := ih (u / 10) (by omega)
      have h3 := h3 (by omega)
      cases hd : Go.Lib.decDigits (u / 10) with
      | nil => exact absurd hd h4
      | cons a r =>
        rw [hd] at h1 h2 h3
        exact ⟨h1, h2, fun _ => h3, by simp⟩
theorem dec_zero : Go.Lib.decDigits 0 = [48] := Go.Lib.decDigits_one (by decide)
/-- Digits are those of their number, or have a zero ahead. -/
theorem dec_iff {l : List UInt8} (hd : Dig l) (h0 : l ≠ []) : (Go.Lib.decDigits (dval l 0) = l) ↔ (l.getD 0 0 ≠ 48 ∨ l = [48]) := by
  refine ⟨fun h => ?_, fun h => dec_canon l.length l rfl hd h0 h⟩
  by_cases h1 : l.getD 0 0 = 48
  · right
    rcases Nat.eq_zero_or_pos (dval l 0) with hz | hz
    · rw [hz, dec_zero] at h; exact h.symm
    · rw [← h] at h1
      exact absurd h1 ((dec_head1 _).2.2.1 hz)
  · exact .inl h1
/-- A number's own text: no zero too many ahead, no plus sign. -/
theorem own_text {s : List UInt8} {v : Int} (h : Go.Lib.atoiAll s = .ok v) : (Go.Lib.itoa v = s) ↔ (((Go.Lib.trimPrefix s [45]).getD 0 0 ≠ 48 ∨ s = [48]) ∧ (Go.Lib.trimPrefix s [45]).getD 0 0 ≠ 43) := by
  cases s with
  | nil => cases h
  | cons c r =>
    by_cases h45 : c = 45
    · subst h45
      rw [Go.Lib.atoiAll_minus] at h
      have ht : Go.Lib.trimPrefix (45 :: r) [45] = r := by simp [Go.Lib.trimPrefix, Go.Lib.hasPrefix]
      rw [ht]
      cases hm : Go.Lib.parseMag r with
      | range => rw [hm] at h; cases h
      | ok u =>
        rw [hm] at h
        obtain ⟨h0, hd, rfl⟩ := mag_val hm
        simp only [Go.Lib.signed] at h
        split at h
        · cases h
        · injection h with h
          subst h
          have h43 : r.getD 0 0 ≠ 43 := by
            cases r with
            | nil => exact absurd rfl h0
            | cons x r =>
              intro e
              have e : x = 43 := e
              have := hd x (by simp)
              rw [e] at this
              exact absurd this (by decide)
          rcases Nat.eq_zero_or_pos (dval r 0) with hz | hz
          · rw [hz]
            refine ⟨fun e => ?_, fun e => ?_⟩
            · have e : Go.Lib.decDigits 0 = 45 :: r := e
              rw [dec_zero] at e
              cases e
            · rcases e.1 with e1 | e1
              · exact absurd (dval_pos r hd e1 h0 0) (by omega)
              · cases e1
          · have hi : Go.Lib.itoa (-((dval r 0 : Nat) : Int)) = 45 :: Go.Lib.decDigits (dval r 0) := by
              unfold Go.Lib.itoa
              rw [if_pos (by omega)]
              simp
            rw [hi, List.cons.injEq, dec_iff hd h0]
            simp only [true_and]
            refine ⟨fun e => ⟨.inl ?_, h43⟩, fun e => .inl (e.1.resolve_right (by intro h; cases h))⟩
            rcases e with e | e
            · exact e
            · rw [e] at hz
              exact absurd hz (by decide)
      | _ => rw [hm] at h; cases h
    · have ht : Go.Lib.trimPrefix (c :: r) [45] = c :: r := by
        have : ¬ (45 : UInt8) = c := fun e => h45 e.symm
        simp [Go.Lib.trimPrefix, Go.Lib.hasPrefix, this]
      have n45 : c.toNat ≠ 45 := fun e => h45 (UInt8.toNat_inj.1 e)
      rw [ht]
      by_cases h43 : c = 43
      · subst h43
        refine ⟨fun e => ?_, fun e => absurd rfl e.2⟩
        exfalso
        have hh : (Go.Lib.itoa v).getD 0 0 = 43 := by rw [e]; rfl
        unfold Go.Lib.itoa at hh
        split at hh
        · exact absurd hh (by show (45 : UInt8) ≠ 43; decide)
        · exact (dec_head1 _).1 hh
      · have n43 : c.toNat ≠ 43 := fun e => h43 (UInt8.toNat_inj.1 e)
        rw [Go.Lib.atoiAll_plain c r n43 n45] at h
        cases hm : Go.Lib.parseMag (c :: r) with
        | range => rw [hm] at h; cases h
        | ok u =>
          rw [hm] at h
          obtain ⟨h0, hd, rfl⟩ := mag_val hm
          simp only [Go.Lib.signless] at h
          split at h
          · cases h
          · injection h with h
            subst h
            have hi : Go.Lib.itoa ((dval (c :: r) 0 : Nat) : Int) = Go.Lib.decDigits (dval (c :: r) 0) := by
              unfold Go.Lib.itoa
              rw [if_neg (by omega)]
              simp
            rw [hi, dec_iff hd h0]
            exact ⟨fun e => ⟨e, h43⟩, fun e => e.1⟩
        | _ => rw [hm] at h; cases h

/-! ### Digits, read -/
theorem pu_of : ∀ (l : List UInt8) (acc : Nat), Dig l → dval l acc < 1844674407370955162 → Go.Lib.parseUint10 acc l = .ok (dval l acc)
  | [], acc, _, _ => rfl
  | c :: r, acc, hd, h => by
    have key : ∀ (r : List UInt8) (a : Nat), a ≤ dval r a := by
      intro r
      induction r with
      | nil => intro a; exact Nat.le_refl _
      | cons x r ih => intro a; exact Nat.le_trans (by omega) (ih (a * 10 + (x.toNat - 48)))
    have hc := hd c (by simp)
    have h : dval r (acc * 10 + (c.toNat - 48)) < 1844674407370955162 := h
    have hk := key r (acc * 10 + (c.toNat - 48))
    simp only [Go.Lib.parseUint10]
    rw [if_pos hc, if_neg (by omega), if_neg (by omega)]
    exact pu_of r _ (fun x hx => hd x (List.mem_cons_of_mem _ hx)) h
theorem mag_of {l : List UInt8} (h0 : l ≠ []) (hd : Dig l) (h : dval l 0 < 1844674407370955162) : Go.Lib.parseMag l = .ok (dval l 0) := by
  unfold Go.Lib.parseMag
  rw [if_neg h0, pu_of l 0 hd h]
theorem dval_lt : ∀ (k : Nat) (l : List UInt8), l.length = k → Dig l → dval l 0 < 10 ^ k
  | 0, l, hk, _ => by rw [List.length_eq_zero_iff.1 hk]; decide
  | k + 1, l, hk, hd => by
    obtain ⟨m, c, rfl⟩ : ∃ m c, l = m ++ [c] := by
      have h0 : l ≠ [] := fun e => by rw [e] at hk; simp at hk
      exact ⟨l.dropLast, l.getLast h0, (List.dropLast_concat_getLast h0).symm⟩
    have hc := hd c (by simp)
    have ih := dval_lt k m (by simpa using hk) (fun x hx => hd x (List.mem_append_left _ hx))
    rw [dval_snoc, Nat.pow_succ]
    omega
theorem dval_lt' {l : List UInt8} {D : Nat} (hl : l.length ≤ D) (hd : Dig l) : dval l 0 < 10 ^ D :=
  Nat.lt_of_lt_of_le (dval_lt l.length l rfl hd) (Nat.pow_le_pow_right (by decide) hl)
theorem dval15 {l : List UInt8} (hl : l.length ≤ 15) (hd : Dig l) : dval l 0 < 1844674407370955162 := Nat.lt_of_lt_of_le (dval_lt' hl hd) (by decide)
theorem dig_head {c : UInt8} {r : List UInt8} (h : Dig (c :: r)) : ¬ (c.toNat = 43 ∨ c.toNat = 45) ∧ ¬ c.toNat = 45 := by
  have := h c (by simp)
  omega
/-- A text without a sign. -/
theorem ai_plain {l : List UInt8} (h0 : l ≠ []) (hd : Dig l) (hl : l.length ≤ 15) : Go.Lib.atoiAll l = .ok (dval l 0 : Int) := by
  have h := dval15 hl hd
  cases l with
  | nil => exact absurd rfl h0
  | cons c r =>
    obtain ⟨k1, k2⟩ := dig_head hd
    simp only [Go.Lib.atoiAll]
    rw [if_neg k1, mag_of h0 hd h]
    simp only [k2]
    rw [if_neg (by simp; omega), if_neg (by simp), if_neg (by simp)]
theorem ai_plus {l : List UInt8} (h0 : l ≠ []) (hd : Dig l) (hl : l.length ≤ 15) : Go.Lib.atoiAll (43 :: l) = .ok (dval l 0 : Int) := by
  have h := dval15 hl hd
  simp only [Go.Lib.atoiAll]
  rw [if_pos (.inl (by decide)), mag_of h0 hd h]
  simp only
  rw [if_neg (by intro hh; have := hh.2; omega), if_neg (by intro hh; exact absurd hh.1 (by decide)), if_neg (by decide)]
theorem ai_minus {l : List UInt8} (h0 : l ≠ []) (hd : Dig l) (hl : l.length ≤ 15) : Go.Lib.atoiAll (45 :: l) = .ok (-(dval l 0 : Int)) := by
  have h := dval15 hl hd
  simp only [Go.Lib.atoiAll]
  rw [if_pos (.inr (by decide)), mag_of h0 hd h]
  simp only
  rw [if_neg (by intro hh; exact hh.1 (by decide)), if_neg (by intro hh; have := hh.2; omega), if_pos (by decide)]
theorem numO_ok {R : List UInt8 → Go.Lib.NumEnd Int} {sat : List UInt8 → Int} {s : List UInt8} {v : Int} (h : R s = .ok v) (hl : s.length ≤ 281474976710656) : numO R sat s = some (v, true) := by
  unfold numO
  rw [dT hl, cond_true, h]
  rfl
theorem numO_some {R : List UInt8 → Go.Lib.NumEnd Int} {sat : List UInt8 → Int} {s : List UInt8} (hl : s.length ≤ 281474976710656) : ∃ v e, numO R sat s = some (v, e) := by
  unfold numO
  rw [dT hl, cond_true]
  exact ⟨_, _, rfl⟩
theorem atoiO_ok {s : List UInt8} {v : Int} (h : Go.Lib.atoiAll s = .ok v) (hl : s.length ≤ 281474976710656) : atoiO s = some (v, true) := numO_ok h hl
theorem parseO_ok {s : List UInt8} {v : Int} (h : Go.Lib.atoiAll s = .ok v) (hl : s.length ≤ 281474976710656) : parseO s 10 64 = some (v, true) := by
  unfold parseO
  exact numO_ok ((parse_eq s).trans h) hl
theorem parseO_some {s : List UInt8} (hl : s.length ≤ 281474976710656) : ∃ v e, parseO s 10 64 = some (v, e) := by
  unfold parseO
  exact numO_some hl

/-! ### The digits of a number -/
theorem dval_dgs : ∀ (D u : Nat), u < 10 ^ D → dval (dgs D u) 0 = u
  | 0, u, h => by
    have : u = 0 := by simpa using h
    subst this; rfl
  | D + 1, u, h => by
    rw [Nat.pow_succ] at h
    show dval (dgs D (u / 10) ++ [dch u]) 0 = u
    rw [dval_snoc, dval_dgs D (u / 10) (by omega)]
    unfold dch
    have : u % 10 < 10 := Nat.mod_lt _ (by decide)
    rw [UInt8.toNat_ofNat']
    omega
theorem dw_head {p : UInt8 → Bool} (x : UInt8) (r : List UInt8) : ∀ l : List UInt8, l.dropWhile p = x :: r → p x = false
  | [], h => by cases h
  | c :: l, h => by
    rw [List.dropWhile_cons] at h
    split at h
    · exact dw_head x r l h
    · rename_i hp
      injection h with h1 h2
      subst h1
      simpa using hp
theorem dig_iff {l : List UInt8} : Go.Lib.trimS l [48, 49, 50, 51, 52, 53, 54, 55, 56, 57] = [] ↔ Dig l := by
  have hc : ∀ c : UInt8, ([48, 49, 50, 51, 52, 53, 54, 55, 56, 57] : List UInt8).contains c = true ↔ 48 ≤ c.toNat ∧ c.toNat ≤ 57 := by
    intro c
    obtain ⟨n, hn, rfl⟩ : ∃ n, n < 256 ∧ c = UInt8.ofNat n := ⟨c.toNat, UInt8.toNat_lt c, UInt8.ofNat_toNat.symm⟩
    have : ∀ n : Fin 256, ([48, 49, 50, 51, 52, 53, 54, 55, 56, 57] : List UInt8).contains (UInt8.ofNat n.val) = true ↔ 48 ≤ (UInt8.ofNat n.val).toNat ∧ (UInt8.ofNat n.val).toNat ≤ 57 := by decide +kernel
    exact this ⟨n, hn⟩
  have hdw : ∀ l : List UInt8, l.dropWhile (([48, 49, 50, 51, 52, 53, 54, 55, 56, 57] : List UInt8).contains ·) = [] ↔ Dig l := by
    intro l
    induction l with
    | nil => exact ⟨fun _ c hc => absurd hc List.not_mem_nil, fun _ => rfl⟩
    | cons c r ih =>
      rw [List.dropWhile_cons]
      by_cases h : ([48, 49, 50, 51, 52, 53, 54, 55, 56, 57] : List UInt8).contains c = true
      · rw [if_pos h, ih]
        constructor
        · intro k x hx
          rcases List.mem_cons.1 hx with e | hx
          · rw [e]; exact (hc c).1 h
          · exact k x hx
        · exact fun k x hx => k x (List.mem_cons_of_mem _ hx)
      · rw [if_neg h]
        exact ⟨fun k => (by cases k), fun k => absurd ((hc c).2 (k c (by simp))) h⟩
  unfold Go.Lib.trimS Go.Lib.trimLeftS
  rw [hdw]
  unfold Go.Lib.trimRightS
  constructor
  · intro h
    have : (l.reverse.dropWhile (([48, 49, 50, 51, 52, 53, 54, 55, 56, 57] : List UInt8).contains ·)) = [] := by
      cases hh : l.reverse.dropWhile (([48, 49, 50, 51, 52, 53, 54, 55, 56, 57] : List UInt8).contains ·) with
      | nil => rfl
      | cons x r =>
        exfalso
        have h1 : ¬ ([48, 49, 50, 51, 52, 53, 54, 55, 56, 57] : List UInt8).contains x = true := by
          rw [dw_head _ _ _ hh]; decide
        exact h1 ((hc x).2 (h x (by rw [hh]; simp)))
    intro c hcm
    exact (hdw l.reverse).1 this c (by simpa using hcm)
  · intro h
    rw [(hdw l.reverse).2 (fun c hcm => h c (by simpa using hcm))]
    intro c hcm
    simp at hcm

/-! ### A number, written -/
def InR (f : FixedField) (z : Int) : Prop := z.natAbs < 10 ^ (digE f).toNat ∧ (z < 0 → f.Signed = true)
def wr (f : FixedField) (z : Int) : List UInt8 :=
  if f.Kind = 1 then (if f.Signed = true then (if z < 0 then [45] ++ dgs (digE f).toNat z.natAbs else [43] ++ dgs (digE f).toNat z.natAbs) else dgs (digE f).toNat z.natAbs)
  else pkL (if z < 0 then 13 else 12) (dgs (digE f).toNat z.natAbs)
theorem num_two (n : Nat) (hn : 5000 < n) (f : FixedField) (hr : Rg f) (hk : f.Kind = 1 ∨ f.Kind = 2) (hd : 1 ≤ digE f ∧ digE f ≤ 15) (x : ApiValue) (h2 : x.Kind = 2) (hN : -9223372036854775808 ≤ x.N ∧ x.N < 9223372036854775808) :
    (¬ InR f x.N ∧ ∃ e, e ≠ 0 ∧ ref2_Put n f x = some ([], e)) ∨ (InR f x.N ∧ ref2_Put n f x = some (wr f x.N, 0) ∧ fixed_bytes n f x = some (ints (wr f x.N))) := by
  unfold Rg at hr
  obtain ⟨D, hD⟩ : ∃ D : Nat, digE f = (D : Int) := ⟨(digE f).toNat, by omega⟩
  have hD1 : 1 ≤ D ∧ D ≤ 15 := by omega
  have hk0 : ¬ f.Kind = 0 := by omega
  obtain ⟨u, hu⟩ : ∃ u : Nat, x.N.natAbs = u := ⟨_, rfl⟩
  have hp15 : 10 ^ D ≤ 10 ^ 15 := Nat.pow_le_pow_right (by decide) hD1.2
  have hdl : (Go.Lib.decDigits u).length ≤ D ↔ u < 10 ^ D := by
    obtain ⟨D', rfl⟩ : ∃ D', D = D' + 1 := ⟨D - 1, by omega⟩
    exact dlen_iff D' u
  unfold InR wr
  rw [ref2_Put_eq, dF hk0, cond_false, hD, Int.toNat_natCast, hu]
  generalize hz : 10 ^ D = z at hp15 hdl
  rw [dT h2, Bool.not_true, cond_false]
  have hi : itoaO x.N = some (Go.Lib.itoa x.N) := by
    unfold itoaO i64R
    rw [dT hN.1, dT (show x.N ≤ 9223372036854775807 by omega)]
    rfl
  have ht : Go.Lib.trimPrefix (Go.Lib.itoa x.N) [45] = Go.Lib.decDigits u := by
    unfold Go.Lib.itoa
    by_cases hz : x.N < 0
    · rw [if_pos hz, trim_neg, hu]
    · rw [if_neg hz, trim_dec, show x.N.toNat = u by omega]
  simp only [hi, bind_some2, places_ok, hD, ht]
  by_cases hbig : z ≤ u
  · have hgt : ((Go.Lib.decDigits u).length : Int) > (D : Int) := by
      have := mt hdl.1 (by omega)
      omega
    refine .inl ⟨fun h => by omega, 11, by decide, ?_⟩
    rw [dT hgt, cond_true]
    cases decide (x.N < 0) <;> cases f.Signed <;> rfl
  · have hle : (Go.Lib.decDigits u).length ≤ D := hdl.2 (by omega)
    have hngt : ¬ ((Go.Lib.decDigits u).length : Int) > (D : Int) := by omega
    rw [dF hngt, cond_false]
    by_cases hsg : x.N < 0 ∧ f.Signed = false
    · refine .inl ⟨fun h => ?_, 11, by decide, ?_⟩
      · have := h.2 hsg.1
        rw [hsg.2] at this
        cases this
      · rw [dT hsg.1, hsg.2]
        rfl
    · right
      refine ⟨⟨by omega, fun h => ?_⟩, ?_⟩
      · cases hf : f.Signed with
        | true => rfl
        | false => exact absurd ⟨h, hf⟩ hsg
      have hmx : mxI x.N (IntKind.wrap .i64 (0 - x.N)) = (u : Int) := by
        rw [w64 (by omega) (by omega)]
        unfold mxI
        by_cases h : 0 - x.N > x.N
        · rw [dT h, cond_true]; omega
        · rw [dF h, cond_false]; omega
      have hsh : ref2_shown n f x.N = some (dgs D u) := by
        rw [ref2_shown_eq, hmx, shown_loop n f D hD (by omega) n u [] (by omega) (by simp) (by simp; omega), List.length_nil, Nat.sub_zero, List.append_nil]
      have hiu : itoaO (u : Int) = some (Go.Lib.decDigits u) := by
        unfold itoaO i64R
        rw [dT (show (-9223372036854775808 : Int) ≤ (u : Int) by omega), dT (show (u : Int) ≤ 9223372036854775807 by omega), Go.Lib.itoa_nonneg]
        rfl
      have hrp : repO [48] (IntKind.wrap .i64 ((D : Int) - ((Go.Lib.decDigits u).length : Int))) = some (List.replicate (D - (Go.Lib.decDigits u).length) 48) := by
        rw [w64 (by omega) (by omega)]
        unfold repO
        rw [dT (show (0 : Int) ≤ (D : Int) - ((Go.Lib.decDigits u).length : Int) by omega), dT (show (D : Int) - ((Go.Lib.decDigits u).length : Int) ≤ 4294967296 by omega), dT (show List.length [(48 : UInt8)] ≤ 32768 by decide), show ((D : Int) - ((Go.Lib.decDigits u).length : Int)).toNat = D - (Go.Lib.decDigits u).length by omega, rep_zero]
        rfl
      have hpad := pad_dgs D u hle
      have hdl2 := dgs_len D u
      have hlen3 : (List.replicate (D - (Go.Lib.decDigits u).length) (48 : UInt8)).length + (Go.Lib.decDigits u).length ≤ 4294967296 := by rw [List.length_replicate]; omega
      have hbit : ∀ b : Bool, ref2_bit n b = some (if b = true then 1 else 0) := fun b => by rw [ref2_bit_eq]; cases b <;> rfl
      rw [fixed_bytes_eq, dF hk0, cond_false]
      simp only [hsh, bind_some2, hmx, hiu, digits_ok, hD, hrp, dT hlen3, cond_true, hpad, hbit]
      rcases hk with hk1 | hk2
      · rw [dT hk1, if_pos hk1]
        simp only [cond_true]
        by_cases hs : f.Signed = true
        · rw [hs, if_pos rfl]
          simp only [cond_true, Bool.not_true, cond_false]
          have l1 : ∀ c : UInt8, [c].length + (dgs D u).length ≤ 4294967296 := fun c => by rw [List.length_singleton, hdl2]; omega
          by_cases hn0 : x.N < 0
          · rw [dT hn0, if_pos hn0]
            constructor
            · simp only [cond_true, if_true]
              show (bif decide (([45] : List UInt8).length + (dgs D u).length ≤ 4294967296) then some ([45] ++ dgs D u, (0 : Int)) else none) = _
              rw [dT (l1 45)]; rfl
            · simp only [cond_true]
              rw [dT (l1 45), cond_true]
              first | rfl | (rw [dT rfl]; rfl)
          · rw [dF hn0, if_neg hn0]
            constructor
            · simp only [cond_false, Bool.false_eq_true, if_false]
              show (bif decide (([43] : List UInt8).length + (dgs D u).length ≤ 4294967296) then some ([43] ++ dgs D u, (0 : Int)) else none) = _
              rw [dT (l1 43)]; rfl
            · simp only [cond_false]
              rw [dT (l1 43), cond_true]
              first | rfl | (rw [dT rfl]; rfl)
        · have hs : f.Signed = false := by cases hf : f.Signed with | true => exact absurd hf hs | false => rfl
          have hn0 : ¬ x.N < 0 := fun h => hsg ⟨h, hs⟩
          rw [hs, dF hn0, if_neg (by simp)]
          simp only [cond_false]
          refine ⟨by first | rfl | trivial, ?_⟩
          first | rfl | (rw [dT rfl]; rfl)
      · have hk1 : ¬ f.Kind = 1 := by omega
        rw [dF hk1, if_neg hk1]
        simp only [cond_false]
        have hodd : (dgs D u).length % 2 = 1 := by
          rw [hdl2]
          unfold digE at hD
          rw [if_neg hk1, if_pos hk2, w64 (x := (2 : Int) * f.Wide) (by omega) (by omega), w64 (by omega) (by omega)] at hD
          omega
        have hisD := dgs_isD D u
        have pl : ∀ (ch : UInt8) (t : Nat), hexD ch = some t → t < 16 → ref2_Put_l3 n n (dgs D u ++ [ch]) [] 0 = some (pkL t (dgs D u), 0) ∧ fixed_bytes_l0 n n (dgs D u) (t : Int) 0 [] = some (ints (pkL t (dgs D u))) := by
          intro ch t h1 h2
          have a := put_loop3 n (dgs D u) ch t h1 h2 hisD (by omega) (dgs D u) [] [] n rfl hodd (by simp; omega) (by omega)
          have b := pack_loop n (dgs D u) t h2 hisD (by omega) (dgs D u) [] [] n rfl hodd (by simp; omega) (by omega)
          exact ⟨a, b⟩
        have l1 : ∀ c : UInt8, (dgs D u).length + [c].length ≤ 4294967296 := fun c => by rw [List.length_singleton, hdl2]; omega
        by_cases hn0 : x.N < 0
        · have hs : f.Signed = true := by
            cases hf : f.Signed with
            | true => rfl
            | false => exact absurd ⟨hn0, hf⟩ hsg
          obtain ⟨g1, g2⟩ := pl 100 13 (by decide) (by decide)
          rw [dT hn0, hs, if_pos hn0]
          refine ⟨?_, g2⟩
          simp only [cond_true, if_true, Bool.not_true, cond_false]
          show (bif decide ((dgs D u).length + ([100] : List UInt8).length ≤ 4294967296) then ref2_Put_l3 n n (dgs D u ++ [100]) [] 0 else none) = _
          rw [dT (l1 100)]
          exact g1
        · obtain ⟨g1, g2⟩ := pl 99 12 (by decide) (by decide)
          rw [dF hn0, if_neg hn0]
          refine ⟨?_, g2⟩
          simp only [cond_false, Bool.false_eq_true, if_false]
          show (bif decide ((dgs D u).length + ([99] : List UInt8).length ≤ 4294967296) then ref2_Put_l3 n n (dgs D u ++ [99]) [] 0 else none) = _
          rw [dT (l1 99)]
          exact g1

/-! ### Bytes taken apart -/
def dc (k : Nat) : UInt8 := UInt8.ofNat (48 + k)
def hc (k : Nat) : UInt8 := if k < 10 then UInt8.ofNat (48 + k) else UInt8.ofNat (87 + k)
def tx : List UInt8 → List UInt8
  | [] => []
  | [c] => [dc (c.toNat / 16)]
  | c :: b :: r => dc (c.toNat / 16) :: dc (c.toNat % 16) :: tx (b :: r)
def hx : List UInt8 → List UInt8
  | [] => []
  | c :: r => hc (c.toNat / 16) :: hc (c.toNat % 16) :: hx r
theorem tx_len : ∀ (l : List UInt8), (tx l).length = 2 * l.length - 1
  | [] => rfl
  | [c] => rfl
  | c :: b :: r => by
    have := tx_len (b :: r)
    simp only [tx, List.length_cons] at this ⊢
    omega
theorem hx_len : ∀ (l : List UInt8), (hx l).length = 2 * l.length
  | [] => rfl
  | c :: r => by
    have := hx_len r
    simp only [hx, List.length_cons] at this ⊢
    omega
theorem hx_app : ∀ (a b : List UInt8), hx (a ++ b) = hx a ++ hx b
  | [], b => rfl
  | c :: a, b => by
    show hc _ :: hc _ :: hx (a ++ b) = hc _ :: hc _ :: (hx a ++ hx b)
    rw [hx_app a b]
theorem digD {c : UInt8} (h : IsD c) : dc (pv c) = c ∧ hc (pv c) = c ∧ pv c < 10 := by
  unfold IsD at h
  have hp : pv c < 10 := by unfold pv; omega
  have h1 : dc (pv c) = c := by
    unfold dc pv
    rw [show 48 + (c.toNat - 48) = c.toNat by omega]
    exact UInt8.ofNat_toNat
  refine ⟨h1, ?_, hp⟩
  unfold hc
  rw [if_pos hp]
  exact h1
theorem byte_two (a b : Nat) (ha : a < 16) (hb : b < 16) : (UInt8.ofNat (16 * a + b)).toNat / 16 = a ∧ (UInt8.ofNat (16 * a + b)).toNat % 16 = b := by
  rw [UInt8.toNat_ofNat']
  omega
/-- What was packed is taken apart again. -/
theorem tx_pk (t : Nat) (ht : t < 16) : ∀ (l : List UInt8), (∀ c ∈ l, IsD c) → l.length % 2 = 1 → tx (pkL t l) = l ∧ hx (pkL t l) = l ++ [hc t]
  | [], _, h => by simp at h
  | [a], hd, _ => by
    obtain ⟨h1, h2, h3⟩ := digD (hd a (by simp))
    obtain ⟨b1, b2⟩ := byte_two (pv a) t (by omega) ht
    simp only [pkL, tx, hx, b1, b2, h1, h2, List.cons_append, List.nil_append, and_self]
  | a :: b :: r, hd, h => by
    obtain ⟨h1, h2, h3⟩ := digD (hd a (by simp))
    obtain ⟨k1, k2, k3⟩ := digD (hd b (by simp))
    obtain ⟨b1, b2⟩ := byte_two (pv a) (pv b) (by omega) (by omega)
    obtain ⟨i1, i2⟩ := tx_pk t ht r (fun c hc => hd c (by simp [hc])) (by simp at h; omega)
    cases r with
    | nil => simp at h
    | cons c r =>
      have hne : ∃ d q, pkL t (c :: r) = d :: q := by
        cases r with
        | nil => exact ⟨_, _, rfl⟩
        | cons e r => exact ⟨_, _, rfl⟩
      obtain ⟨d, q, hq⟩ := hne
      have e : pkL t (a :: b :: c :: r) = UInt8.ofNat (16 * pv a + pv b) :: pkL t (c :: r) := rfl
      rw [e]
      constructor
      · rw [hq] at i1 ⊢
        simp only [tx, b1, b2, h1, k1]
        rw [i1]
      · simp only [hx, b1, b2, h2, k2]
        rw [i2]
        rfl
/-- The last byte of what was packed. -/
theorem pk_last (t : Nat) (ht : t < 16) : ∀ (l : List UInt8), (∀ c ∈ l, IsD c) → l.length % 2 = 1 → ∃ q z, pkL t l = q ++ [z] ∧ z.toNat % 16 = t
  | [], _, h => by simp at h
  | [a], hd, _ => by
    obtain ⟨_, _, h3⟩ := digD (hd a (by simp))
    exact ⟨[], _, rfl, (byte_two (pv a) t (by omega) ht).2⟩
  | a :: b :: r, hd, h => by
    obtain ⟨q, z, h1, h2⟩ := pk_last t ht r (fun c hc => hd c (by simp [hc])) (by simp at h; omega)
    exact ⟨UInt8.ofNat (16 * pv a + pv b) :: q, z, by show _ :: pkL t r = _; rw [h1]; rfl, h2⟩
theorem pk_len (t : Nat) : ∀ (l : List UInt8), l.length % 2 = 1 → 2 * (pkL t l).length = l.length + 1
  | [], h => by simp at h
  | [a], _ => rfl
  | a :: b :: r, h => by
    have := pk_len t r (by simp at h; omega)
    simp only [pkL, List.length_cons] at this ⊢
    omega

/-! ### The loop of the text -/
theorem and15 : ∀ c : Fin 256, Fv.bits .and .u8 (c.val : Int) 15 = ((c.val % 16 : Nat) : Int) := by decide +kernel
theorem shr4 : ∀ c : Fin 256, shr .u8 (c.val : Int) 4 = ((c.val / 16 : Nat) : Int) := by decide +kernel
theorem and15c (c : UInt8) : Fv.bits .and .u8 (c.toNat : Int) 15 = ((c.toNat % 16 : Nat) : Int) := and15 ⟨c.toNat, UInt8.toNat_lt c⟩
theorem shr4c (c : UInt8) : shr .u8 (c.toNat : Int) 4 = ((c.toNat / 16 : Nat) : Int) := shr4 ⟨c.toNat, UInt8.toNat_lt c⟩
theorem byts_dc (k : Nat) (h : k < 16) : byts [IntKind.wrap .u8 ((48 : Int) + (k : Int))] = [dc k] := by
  rw [show (48 : Int) + (k : Int) = ((48 + k : Nat) : Int) by omega, byts_one _ (by omega)]
  rfl
def tfin (f : FixedField) (z : UInt8) (s : List UInt8) : List UInt8 × Bool :=
  if z.toNat % 16 = 12 then (s, true) else if z.toNat % 16 = 13 then ([45] ++ s, f.Signed) else ([], false)
theorem ints_get (p r : List UInt8) (c : UInt8) : List.getD (ints (p ++ c :: r)) p.length 0 = ((c.toNat : Nat) : Int) := by
  simp [ints, List.getD]
theorem ints_length (l : List UInt8) : (ints l).length = l.length := List.length_map _
theorem text_loop (n : Nat) (f : FixedField) (bs q : List UInt8) (z : UInt8) (hz : bs = q ++ [z]) (h4 : bs.length ≤ 400) : ∀ (r p s : List UInt8) (m : Nat), bs = p ++ r → s.length + 2 * r.length ≤ 5000 → r.length < m →
    fixed_text_l0 n m (ints bs) s (ints bs) (bs.length : Int) (p.length : Int) f = some (tfin f z (s ++ tx r))
  | [], p, s, m, hp, hs, hm => by
    obtain ⟨m, rfl⟩ : ∃ k, m = k + 1 := ⟨m - 1, by simp at hm; omega⟩
    have hpl : bs.length = p.length := by rw [hp]; simp
    have hbl : bs.length = q.length + 1 := by rw [hz]; simp
    rw [fixed_text_l0_eq, dlt, dF (by omega), cond_false, ints_length, hbl, i64_pred (by omega), d0, dlt, dT (by omega), Bool.and_self, cond_true, Int.toNat_natCast, hz, ints_get, and15c]
    unfold tfin
    simp only [tx, List.append_nil]
    have e12 : decide (((z.toNat % 16 : Nat) : Int) = 12) = decide (z.toNat % 16 = 12) := by rw [decide_eq_decide]; omega
    have e13 : decide (((z.toNat % 16 : Nat) : Int) = 13) = decide (z.toNat % 16 = 13) := by rw [decide_eq_decide]; omega
    rw [e12, e13]
    by_cases h12 : z.toNat % 16 = 12
    · rw [dT h12, if_pos h12]; rfl
    · rw [dF h12, if_neg h12, cond_false]
      by_cases h13 : z.toNat % 16 = 13
      · rw [dT h13, if_pos h13, cond_true, dT (by simp at hs ⊢; omega)]; rfl
      · rw [dF h13, if_neg h13]; rfl
  | [c], p, s, m, hp, hs, hm => by
    simp only [List.length_singleton] at hm hs
    obtain ⟨m, rfl⟩ : ∃ k, m = k + 1 := ⟨m - 1, by omega⟩
    have hpl : bs.length = p.length + 1 := by rw [hp]; simp
    have hg : List.getD (ints bs) p.length 0 = ((c.toNat : Nat) : Int) := by rw [hp]; exact ints_get p [] c
    have hlt := UInt8.toNat_lt c
    rw [fixed_text_l0_eq, dlt, dT (by omega), cond_true, d0, ints_length, dlt, dT (show p.length < bs.length by omega), Bool.and_self, cond_true, show decide ((0 : Nat) ≤ 4) = true from rfl, cond_true, Int.toNat_natCast, hg, shr4c, byts_dc _ (by omega), List.length_singleton, dT (show s.length + 1 ≤ 4294967296 by omega), cond_true, hpl, i64_pred (by omega), dlt, dF (Nat.lt_irrefl _), cond_false, i64_succ (by omega), ← hpl]
    have := text_loop n f bs q z hz h4 [] (p ++ [c]) (s ++ [dc (c.toNat / 16)]) m (by rw [hp]; simp) (by simp; omega) (by simp; omega)
    rw [show (p ++ [c]).length = bs.length by rw [hpl]; simp] at this
    rw [this]
    simp only [tx, List.append_nil]
  | c :: b :: r, p, s, m, hp, hs, hm => by
    simp only [List.length_cons] at hm hs
    obtain ⟨m, rfl⟩ : ∃ k, m = k + 1 := ⟨m - 1, by omega⟩
    have hpl : bs.length = p.length + (r.length + 2) := by rw [hp]; simp
    have hg : List.getD (ints bs) p.length 0 = ((c.toNat : Nat) : Int) := by rw [hp]; exact ints_get p (b :: r) c
    have hlt := UInt8.toNat_lt c
    have hpred : IntKind.wrap .i64 ((bs.length : Int) - 1) = ((p.length + (r.length + 1) : Nat) : Int) := by
      rw [hpl, show p.length + (r.length + 2) = (p.length + (r.length + 1)) + 1 by omega]
      exact i64_pred (by omega)
    rw [fixed_text_l0_eq, dlt, dT (by omega), cond_true, d0, ints_length, dlt, dT (show p.length < bs.length by omega), Bool.and_self, cond_true, show decide ((0 : Nat) ≤ 4) = true from rfl, cond_true, Int.toNat_natCast, hg, shr4c, byts_dc _ (by omega), List.length_singleton, dT (show s.length + 1 ≤ 4294967296 by omega), cond_true, hpred, dlt, dT (by omega), cond_true, and15c, byts_dc _ (by omega), List.length_append, List.length_singleton, List.length_singleton, dT (show s.length + 1 + 1 ≤ 4294967296 by omega), cond_true, i64_succ (by omega)]
    have := text_loop n f bs q z hz h4 (b :: r) (p ++ [c]) (s ++ [dc (c.toNat / 16)] ++ [dc (c.toNat % 16)]) m (by rw [hp]; simp) (by simp; omega) (by simp; omega)
    rw [show (p ++ [c]).length = p.length + 1 by simp] at this
    rw [this]
    simp only [tx, List.append_assoc, List.cons_append, List.nil_append]

/-! ### A byte as two hexadecimal digits -/
theorem fr_wu64 {x : Int} (h0 : 0 ≤ x) (h : x < 18446744073709551616) : IntKind.wrap .u64 x = x := by
  unfold IntKind.wrap
  simp only [IntKind.signed, IntKind.bits]
  simp
  omega
def hexT : List UInt8 := [48, 49, 50, 51, 52, 53, 54, 55, 56, 57, 97, 98, 99, 100, 101, 102, 103, 104, 105, 106, 107, 108, 109, 110, 111, 112, 113, 114, 115, 116, 117, 118, 119, 120, 121, 122]
theorem hexT_get : ∀ k : Fin 16, List.getD hexT k.val 0 = hc k.val := by decide
theorem and15n {a : Nat} (h : a < 4294967296) : Fv.bits .and .u64 (a : Int) 15 = ((a % 16 : Nat) : Int) := by
  show IntKind.wrap .u64 (((BitVec.ofInt 64 (a : Int) &&& BitVec.ofInt 64 ((15 : Nat) : Int) : BitVec 64).toNat : Nat) : Int) = _
  rw [BitVec.ofInt_natCast, BitVec.ofInt_natCast, BitVec.toNat_and, BitVec.toNat_ofNat, BitVec.toNat_ofNat, Nat.mod_eq_of_lt (by omega), Nat.mod_eq_of_lt (by omega)]
  have : a &&& 15 = a % 16 := by
    rw [show (15 : Nat) = 2 ^ 4 - 1 by decide, Nat.and_two_pow_sub_one_eq_mod]
  rw [this]
  exact fr_wu64 (by omega) (by omega)
theorem shr4n {a : Nat} (h : a < 4294967296) : shr .u64 (a : Int) 4 = ((a / 16 : Nat) : Int) := by
  show (a : Int).fdiv (2 ^ (min (4 : Int).toNat 64)) = _
  rw [show (2 : Int) ^ (min (4 : Int).toNat 64) = 16 by decide, Int.fdiv_eq_ediv_of_nonneg _ (by omega)]
  omega
theorem fb_step (n m a i : Nat) (w : List Int) (ha : 16 ≤ a) (ha2 : a < 4294967296) (hi : i < 65) :
    strconv_formatBits_nil_l0 n (m + 1) (a : Int) false false [] [] ((i + 1 : Nat) : Int) 4 16 15 w = strconv_formatBits_nil_l0 n m ((a / 16 : Nat) : Int) false false [] [] (i : Int) 4 16 15 (List.set w i ((hc (a % 16)).toNat : Int)) := by
  have hg : List.getD hexT (a % 16) 0 = hc (a % 16) := hexT_get ⟨a % 16, Nat.mod_lt _ (by decide)⟩
  have hg' := hg
  unfold hexT at hg'
  rw [strconv_formatBits_nil_l0_eq, dT (show (a : Int) ≥ 16 by omega), cond_true, and15n ha2, d0, Bool.true_and, i64_pred (by omega), d0, Bool.true_and, Int.toNat_natCast, Int.toNat_natCast, hg', shr4n ha2]
  rw [dT (show ((a % 16 : Nat) : Int) < (List.length ([48, 49, 50, 51, 52, 53, 54, 55, 56, 57, 97, 98, 99, 100, 101, 102, 103, 104, 105, 106, 107, 108, 109, 110, 111, 112, 113, 114, 115, 116, 117, 118, 119, 120, 121, 122] : List UInt8) : Int) by simp only [List.length_cons, List.length_nil]; omega), cond_true, dT (show (i : Int) < 65 by omega), cond_true, dT hi, Bool.and_self, cond_true]
  rfl
theorem fb_end (n m a i : Nat) (w : List Int) (ha : a < 16) (hi : i < 65) :
    strconv_formatBits_nil_l0 n (m + 1) (a : Int) false false [] [] ((i + 1 : Nat) : Int) 4 16 15 w = some ([], byts (List.drop i (List.take 65 (List.set w i ((hc a).toNat : Int))))) := by
  have hg : List.getD hexT a 0 = hc a := hexT_get ⟨a, ha⟩
  unfold hexT at hg
  rw [strconv_formatBits_nil_l0_eq, dF (show ¬ (a : Int) ≥ 16 by omega), cond_false, d0, Bool.true_and, i64_pred (by omega), d0, Bool.true_and, Int.toNat_natCast, Int.toNat_natCast, hg]
  rw [dT (show (a : Int) < (List.length ([48, 49, 50, 51, 52, 53, 54, 55, 56, 57, 97, 98, 99, 100, 101, 102, 103, 104, 105, 106, 107, 108, 109, 110, 111, 112, 113, 114, 115, 116, 117, 118, 119, 120, 121, 122] : List UInt8) : Int) by simp only [List.length_cons, List.length_nil]; omega), cond_true, dT (show (i : Int) < 65 by omega), cond_true, dT hi, Bool.and_self, cond_true, cond_false, cond_false, dT (show (i : Int) ≤ 65 by omega)]
  rfl
theorem fi_ok (n c : Nat) (hc2 : c < 256) (hn : 10 < n) : strconv_FormatInt n (IntKind.wrap .i64 ((256 : Int) + (IntKind.wrap .i64 (c : Int)))) 16 = some [49, hc (c / 16), hc (c % 16)] := by
  rw [strconv_FormatInt_eq, w64 (x := (c : Int)) (by omega) (by omega), show (256 : Int) + (c : Int) = ((256 + c : Nat) : Int) by omega, w64 (by omega) (by omega), strconv_FormatInt_2_eq, show decide ((16 : Int) = 10) = false from rfl, cond_false, fr_wu64 (by omega) (by omega), dF (show ¬ ((256 + c : Nat) : Int) < 0 by omega), strconv_formatBits_nil_eq]
  rw [show decide ((16 : Int) < 2) = false from rfl, cond_false, show decide ((16 : Int) = 10) = false from rfl, cond_false, show decide ((16 : Int) > 36) = false from rfl, cond_false, cond_false, strconv_isPowerOfTwo_eq, show decide (Fv.bits .and .i64 16 (IntKind.wrap .i64 (16 - 1)) = 0) = true by decide +kernel, bind_some2, cond_true, bits_TrailingZeros_eq, bits_TrailingZeros64_eq]
  have tz : (bif (decide ((IntKind.wrap .u64 16) = 0)) then (some 64 : Option Int) else (bif (decide (0 ≤ 58)) then (bif (decide (0 ≤ (shr .u64 (IntKind.wrap .u64 ((Fv.bits .and .u64 (IntKind.wrap .u64 16) (IntKind.wrap .u64 (0 - (IntKind.wrap .u64 16)))) * 285870213051353865)) 58)) && decide ((shr .u64 (IntKind.wrap .u64 ((Fv.bits .and .u64 (IntKind.wrap .u64 16) (IntKind.wrap .u64 (0 - (IntKind.wrap .u64 16)))) * 285870213051353865)) 58) < 64)) then (some (IntKind.wrap .i64 (List.getD db64 (Int.toNat (shr .u64 (IntKind.wrap .u64 ((Fv.bits .and .u64 (IntKind.wrap .u64 16) (IntKind.wrap .u64 (0 - (IntKind.wrap .u64 16)))) * 285870213051353865)) 58)) (0 : Int)))) else none) else none)) = some 4 := by kernel_rfl
  rw [tz, bind_some2, bind_some2, show IntKind.wrap .u64 4 = 4 by decide +kernel, show IntKind.wrap .u64 16 = 16 by decide +kernel, show IntKind.wrap .u64 (16 - 1) = 15 by decide +kernel]
  obtain ⟨n, rfl⟩ : ∃ k, n = k + 3 := ⟨n - 3, by omega⟩
  rw [show (65 : Int) = ((64 + 1 : Nat) : Int) from rfl, show (List.replicate 65 (0 : Int)) = List.replicate 65 0 from rfl]
  rw [fb_step _ _ (256 + c) 64 _ (by omega) (by omega) (by omega), show ((64 : Nat) : Int) = ((63 + 1 : Nat) : Int) from rfl, fb_step _ _ ((256 + c) / 16) 63 _ (by omega) (by omega) (by omega), show ((63 : Nat) : Int) = ((62 + 1 : Nat) : Int) from rfl, fb_end _ _ ((256 + c) / 16 / 16) 62 _ (by omega) (by omega)]
  rw [show (256 + c) / 16 / 16 = 1 by omega, show (256 + c) / 16 % 16 = c / 16 by omega, show (256 + c) % 16 = c % 16 by omega]
  simp only [bind_some2]
  have e : List.drop 62 (List.take 65 (List.set (List.set (List.set (List.replicate 65 (0 : Int)) 64 ((hc (c % 16)).toNat : Int)) 63 ((hc (c / 16)).toNat : Int)) 62 ((hc 1).toNat : Int))) = [((hc 1).toNat : Int), ((hc (c / 16)).toNat : Int), ((hc (c % 16)).toNat : Int)] := rfl
  rw [e]
  have f : ∀ x y : UInt8, byts [((hc 1).toNat : Int), (x.toNat : Int), (y.toNat : Int)] = [49, x, y] := by
    intro x y
    show [UInt8.ofNat (Int.toNat _), UInt8.ofNat (Int.toNat _), UInt8.ofNat (Int.toNat _)] = _
    rw [Int.toNat_natCast, Int.toNat_natCast, Int.toNat_natCast, UInt8.ofNat_toNat, UInt8.ofNat_toNat, UInt8.ofNat_toNat]
    rfl
  rw [f]

/-! ### The loop of the digits -/
theorem hex_loop (n : Nat) (hn : 10 < n) (b : List UInt8) (f : FixedField) (w4 : ApiValue) (bs : List UInt8) (h4 : bs.length ≤ 400) : ∀ (r p s : List UInt8) (m : Nat), bs = p ++ r → s.length + 2 * r.length ≤ 5000 →
    ref2_Unput_l2 n (m + r.length) b s (ints bs) (bs.length : Int) (p.length : Int) f w4 = ref2_Unput_l2 n m b (s ++ hx r) (ints bs) (bs.length : Int) (bs.length : Int) f w4
  | [], p, s, m, hp, hs => by
    have hpl : bs.length = p.length := by rw [hp]; simp
    rw [← hpl]
    simp only [hx, List.append_nil]
    rfl
  | c :: r, p, s, m, hp, hs => by
    simp only [List.length_cons] at hs
    have hpl : bs.length = p.length + (r.length + 1) := by rw [hp]; simp
    have hg : List.getD (ints bs) p.length 0 = ((c.toNat : Nat) : Int) := by rw [hp]; exact ints_get p r c
    have hlt := UInt8.toNat_lt c
    rw [List.length_cons, show m + (r.length + 1) = (m + r.length) + 1 by omega, ref2_Unput_l2_eq, dlt, dT (by omega), cond_true, d0, ints_length, dlt, dT (show p.length < bs.length by omega), Bool.and_self, cond_true, Int.toNat_natCast, hg, fi_ok n _ (by omega) hn, bind_some2]
    rw [show decide ((1 : Int) ≤ (List.length [49, hc (c.toNat / 16), hc (c.toNat % 16)] : Int)) = true from rfl, show decide ((0 : Int) ≤ 1) = true from rfl, Bool.and_self, cond_true, show List.drop (Int.toNat 1) [49, hc (c.toNat / 16), hc (c.toNat % 16)] = [hc (c.toNat / 16), hc (c.toNat % 16)] from rfl, dT (show s.length + List.length [hc (c.toNat / 16), hc (c.toNat % 16)] ≤ 4294967296 by simp; omega), cond_true, i64_succ (by omega)]
    have := hex_loop n hn b f w4 bs h4 r (p ++ [c]) (s ++ [hc (c.toNat / 16), hc (c.toNat % 16)]) m (by rw [hp]; simp) (by simp; omega)
    rw [show (p ++ [c]).length = p.length + 1 by simp] at this
    rw [this]
    simp only [hx, List.append_assoc, List.cons_append, List.nil_append]
/-- The sign that a digit stands for. -/
def sg (k : List UInt8) : List UInt8 := if k = [99] then [43] else if k = [100] then [45] else []
theorem sg_ok (k : List UInt8) : (@id (List UInt8) (mgetD E .str .str (insS (V := E.D .str) [100] [45] (insS (V := E.D .str) [99] [43] [])) k)) = sg k := by
  have e : ∀ a b : List UInt8, (eqK E .str a b) = (a == b) := fun a b => rfl
  have hm : (insS (V := E.D .str) [100] [45] (insS (V := E.D .str) [99] [43] [])) = ([([99], [43]), ([100], [45])] : List (List UInt8 × List UInt8)) := rfl
  show mgetD E .str .str (insS (V := E.D .str) [100] [45] (insS (V := E.D .str) [99] [43] [])) k = _
  rw [hm]
  unfold mgetD mget
  unfold sg
  by_cases h1 : k = [99]
  · subst h1; rfl
  · have h1' : eqK E .str k [99] = false := by rw [e]; exact beq_eq_false_iff_ne.2 h1
    rw [if_neg h1]
    by_cases h2 : k = [100]
    · subst h2; rfl
    · have h2' : eqK E .str k [100] = false := by rw [e]; exact beq_eq_false_iff_ne.2 h2
      rw [if_neg h2]
      have : List.find? (fun p : List UInt8 × List UInt8 => eqK E .str k p.1) [([99], [43]), ([100], [45])] = none := by
        simp only [List.find?_cons, h1', h2', List.find?_nil]
      split
      · rename_i y hy
        have h3 : Option.map (fun x : List UInt8 × List UInt8 => x.2) (List.find? (fun p : List UInt8 × List UInt8 => eqK E .str k p.1) [([99], [43]), ([100], [45])]) = some y := hy
        rw [this] at h3
        cases h3
      · rfl

/-! ### What is parsed -/
theorem ai_range {s : List UInt8} {v : Int} (h : Go.Lib.atoiAll s = .ok v) : -9223372036854775808 ≤ v ∧ v < 9223372036854775808 := by
  cases s with
  | nil => cases h
  | cons c r =>
    simp only [Go.Lib.atoiAll] at h
    split at h
    · cases h
    · cases h
    · rename_i u _
      split at h
      · cases h
      · split at h
        · cases h
        · injection h with h
          subst h
          split <;> omega
theorem num_cases {R : List UInt8 → Go.Lib.NumEnd Int} {sat : List UInt8 → Int} {s : List UInt8} (hl : s.length ≤ 281474976710656) : (∃ v, R s = .ok v ∧ numO R sat s = some (v, true)) ∨ (∃ v, numO R sat s = some (v, false)) := by
  unfold numO
  rw [dT hl, cond_true]
  cases h : R s with
  | ok v => exact .inl ⟨v, rfl, rfl⟩
  | range => exact .inr ⟨_, rfl⟩
  | _ => exact .inr ⟨_, rfl⟩
theorem parse_cases {s : List UInt8} (hl : s.length ≤ 281474976710656) : (∃ v, Go.Lib.atoiAll s = .ok v ∧ parseO s 10 64 = some (v, true)) ∨ (∃ v, parseO s 10 64 = some (v, false)) := by
  rcases num_cases (R := Go.Lib.parseIntB 64) (sat := Go.Lib.intSat 64) hl with ⟨v, h1, h2⟩ | ⟨v, h2⟩
  · exact .inl ⟨v, (parse_eq s).symm.trans h1, h2⟩
  · exact .inr ⟨v, h2⟩
theorem atoi_cases {s : List UInt8} (hl : s.length ≤ 281474976710656) : (∃ v, Go.Lib.atoiAll s = .ok v ∧ atoiO s = some (v, true)) ∨ (∃ v, atoiO s = some (v, false)) := num_cases hl

/-! ### A number, read back: the second way -/
noncomputable def Ux (n : Nat) (f : FixedField) (b s : List UInt8) : Option (ApiValue × Bool) :=
  Option.bind (parseO s 10 64) fun r3 => (bif (!r3.2) then (some ((ApiValue.mk 0 0 [] []), false)) else (Option.bind (ref2_Put n f (ApiValue.mk 2 r3.1 [] [])) fun r4 => (bif (decide (r4.2 = 0)) then (some ((ApiValue.mk 2 r3.1 [] []), (r4.1 == b))) else (some ((ApiValue.mk 2 r3.1 [] []), false)))))
theorem u_ok (n : Nat) (hn : 5000 < n) (f : FixedField) (hr : Rg f) (hk : f.Kind = 1 ∨ f.Kind = 2) (hd : 1 ≤ digE f ∧ digE f ≤ 15) (b s : List UInt8) (hl : s.length ≤ 100000) :
    (∃ w o, Ux n f b s = some (w, o) ∧ (o = true → ∃ z, InR f z ∧ b = wr f z ∧ w = ApiValue.mk 2 z [] [])) ∧ ∀ z, Go.Lib.atoiAll s = .ok z → InR f z → b = wr f z → Ux n f b s = some (ApiValue.mk 2 z [] [], true) := by
  unfold Ux
  constructor
  · rcases parse_cases (s := s) (by omega) with ⟨v, h1, h2⟩ | ⟨v, h2⟩
    · rw [h2, bind_some2, Bool.not_true, cond_false]
      rcases num_two n hn f hr hk hd (ApiValue.mk 2 v [] []) rfl (ai_range h1) with ⟨_, e, k1, k2⟩ | ⟨k0, k1, _⟩
      · rw [k2, bind_some2, dF k1, cond_false]
        exact ⟨_, _, rfl, fun h => by cases h⟩
      · rw [k1, bind_some2, dT rfl, cond_true]
        exact ⟨_, _, rfl, fun h => ⟨v, k0, (eq_of_beq h).symm, rfl⟩⟩
    · rw [h2, bind_some2, Bool.not_false, cond_true]
      exact ⟨_, _, rfl, fun h => by cases h⟩
  · intro z h1 h2 h3
    rw [parseO_ok h1 (by omega), bind_some2, Bool.not_true, cond_false]
    rcases num_two n hn f hr hk hd (ApiValue.mk 2 z [] []) rfl (ai_range h1) with ⟨k0, _⟩ | ⟨_, k1, _⟩
    · exact absurd h2 k0
    · rw [k1, bind_some2, dT rfl, cond_true, h3]
      show some (_, (wr f z == wr f z)) = _
      rw [beq_self_eq_true]

/-! ### Rows of bytes, compared -/
theorem eqb_loop (n : Nat) (a b : List Int) (hab : a.length = b.length) (h4 : a.length ≤ 100000) : ∀ (r p r' : List Int) (m : Nat), a = p ++ r → b = p ++ r' → r.length < m →
    slices_Equal_byte_l0 n m 0 a.length b (a.length : Int) (p.length : Int) a = some (decide (r = r'), a, ())
  | [], p, r', m, ha, hb, hm => by
    obtain ⟨m, rfl⟩ : ∃ k, m = k + 1 := ⟨m - 1, by simp at hm; omega⟩
    have hpl : a.length = p.length := by rw [ha]; simp
    have : r' = [] := by
      have := congrArg List.length hb
      rw [List.length_append] at this
      exact List.length_eq_zero_iff.1 (by omega)
    subst this
    rw [slices_Equal_byte_l0_eq, dlt, dF (by omega), cond_false]
    rfl
  | c :: r, p, r', m, ha, hb, hm => by
    simp only [List.length_cons] at hm
    obtain ⟨m, rfl⟩ : ∃ k, m = k + 1 := ⟨m - 1, by omega⟩
    have hpl : a.length = p.length + (r.length + 1) := by rw [ha]; simp
    cases r' with
    | nil =>
      have := congrArg List.length hb
      simp at this
      omega
    | cons c' r' =>
      have hg : List.getD a p.length 0 = c := by rw [ha]; simp [List.getD]
      have hg' : List.getD b p.length 0 = c' := by rw [hb]; simp [List.getD]
      rw [slices_Equal_byte_l0_eq, dlt, dT (by omega), cond_true, d0, dlt, dT (by omega), Bool.and_self, cond_true, Int.toNat_natCast, Nat.zero_add, dT (by omega), cond_true, Bool.and_self, cond_true, hg, hg']
      by_cases h : c = c'
      · subst h
        rw [dT rfl, Bool.not_true, cond_false, i64_succ (by omega)]
        have := eqb_loop n a b hab h4 r (p ++ [c]) r' m (by rw [ha]; simp) (by rw [hb]; simp) (by omega)
        rw [show (p ++ [c]).length = p.length + 1 by simp] at this
        rw [this]
        congr 2
        rw [decide_eq_decide]
        simp
      · rw [dF h, Bool.not_false, cond_true]
        congr 2
        exact (dF (by intro e; injection e with e1; exact h e1)).symm
theorem eqb_ok (n : Nat) (a b : List Int) (h4 : a.length ≤ 100000) (hn : a.length < n) : ∃ o, slices_Equal_byte n (a, 0, a.length) b = some (o, a, ()) ∧ (o = true ↔ b = a) := by
  rw [slices_Equal_byte_eq]
  simp only
  by_cases h : a.length = b.length
  · rw [dT (show (a.length : Int) = (b.length : Int) by omega), Bool.not_true, cond_false]
    have := eqb_loop n a b h h4 a [] b n rfl rfl hn
    rw [show (([] : List Int).length : Int) = 0 from rfl] at this
    rw [this]
    exact ⟨_, rfl, by rw [decide_eq_true_eq]; exact eq_comm⟩
  · rw [dF (show ¬ (a.length : Int) = (b.length : Int) by omega), Bool.not_false, cond_true]
    exact ⟨_, rfl, by constructor; exact (fun e => by cases e); intro e; exact absurd (by rw [e]) h⟩

/-! ### A number, read back: the first way -/
noncomputable def Rx (n : Nat) (f : FixedField) (x1 : List Int) (r1 : List UInt8 × Bool) : Option (ApiValue × Bool) :=
  (bif (!r1.2) then (some ((ApiValue.mk 0 0 [] []), false)) else (Option.bind (trimO (Go.Lib.trimPrefix r1.1 ([45] : List UInt8)) ([48, 49, 50, 51, 52, 53, 54, 55, 56, 57] : List UInt8)) fun r2 => (bif (!(r2 == [])) then (some ((ApiValue.mk 0 0 [] []), false)) else (bif ((Go.Lib.trimPrefix r1.1 ([45] : List UInt8)) == []) then (some ((ApiValue.mk 0 0 [] []), false)) else (bif (!f.Signed) then (bif (!((Go.Lib.trimPrefix r1.1 ([45] : List UInt8)) == r1.1)) then (some ((ApiValue.mk 0 0 [] []), false)) else (Option.bind (atoiO r1.1) fun r3 => (bif r3.2 then (Option.bind (fixed_bytes n f (ApiValue.mk 2 r3.1 [] [])) fun r4 => (Option.bind (slices_Equal_byte n (r4, 0, (List.length r4)) x1) fun r5 => (some ((ApiValue.mk 2 r3.1 [] []), r5.1)))) else (some ((ApiValue.mk 2 r3.1 [] []), false))))) else (Option.bind (atoiO r1.1) fun r6 => (bif r6.2 then (Option.bind (fixed_bytes n f (ApiValue.mk 2 r6.1 [] [])) fun r7 => (Option.bind (slices_Equal_byte n (r7, 0, (List.length r7)) x1) fun r8 => (some ((ApiValue.mk 2 r6.1 [] []), r8.1)))) else (some ((ApiValue.mk 2 r6.1 [] []), false)))))))))
theorem wr_len (f : FixedField) (hd : 1 ≤ digE f ∧ digE f ≤ 15) (z : Int) : (wr f z).length ≤ 100 := by
  have h := dgs_len (digE f).toNat z.natAbs
  have pkl : ∀ (t : Nat) (l : List UInt8), (pkL t l).length ≤ l.length := by
    intro t l
    induction l using pkL.induct with
    | case1 => simp [pkL]
    | case2 a => simp [pkL]
    | case3 a b r ih => simp only [pkL, List.length_cons]; omega
  have := fun t => pkl t (dgs (digE f).toNat z.natAbs)
  unfold wr
  split
  · split
    · split <;> simp only [List.length_append, List.length_singleton] <;> omega
    · omega
  · have := this (if z < 0 then 13 else 12)
    omega
theorem tp_cases (s : List UInt8) : Go.Lib.trimPrefix s [45] = s ∨ s = 45 :: Go.Lib.trimPrefix s [45] := by
  cases s with
  | nil => exact .inl rfl
  | cons c r =>
    by_cases h : c = 45
    · subst h
      right
      rw [trim_neg]
    · left
      unfold Go.Lib.trimPrefix
      rw [if_neg]
      simp [Go.Lib.hasPrefix]
      intro e
      exact h e.symm
theorem r_num (n : Nat) (hn : 5000 < n) (f : FixedField) (hr : Rg f) (hk : f.Kind = 1 ∨ f.Kind = 2) (hd : 1 ≤ digE f ∧ digE f ≤ 15) (x1 : List Int) (s : List UInt8) (hl : (Go.Lib.trimPrefix s [45]).length ≤ (digE f).toNat) (hdg : Dig (Go.Lib.trimPrefix s [45])) (h0 : Go.Lib.trimPrefix s [45] ≠ []) (hs : f.Signed = true ∨ Go.Lib.trimPrefix s [45] = s) :
    ∃ z, Go.Lib.atoiAll s = .ok z ∧ InR f z ∧ ∃ o, (Option.bind (atoiO s) fun r6 => (bif r6.2 then (Option.bind (fixed_bytes n f (ApiValue.mk 2 r6.1 [] [])) fun r7 => (Option.bind (slices_Equal_byte n (r7, 0, (List.length r7)) x1) fun r8 => (some ((ApiValue.mk 2 r6.1 [] []), r8.1)))) else (some ((ApiValue.mk 2 r6.1 [] []), false)))) = some (ApiValue.mk 2 z [] [], o) ∧ (o = true ↔ x1 = ints (wr f z)) := by
  have hl15 : (Go.Lib.trimPrefix s [45]).length ≤ 15 := by omega
  have hv := dval_lt' hl hdg
  have hsl : s.length ≤ 16 := by
    rcases tp_cases s with h | h
    · rw [← h]; omega
    · rw [h, List.length_cons]; omega
  obtain ⟨z, hz, hi⟩ : ∃ z, Go.Lib.atoiAll s = .ok z ∧ InR f z := by
    rcases tp_cases s with h | h
    · rw [h] at hv hdg h0 hl15
      exact ⟨_, ai_plain h0 hdg hl15, by unfold InR; exact ⟨by simpa using hv, fun h => by omega⟩⟩
    · have e := ai_minus h0 hdg hl15
      rw [← h] at e
      refine ⟨_, e, ?_⟩
      unfold InR
      refine ⟨by simpa using hv, fun _ => ?_⟩
      rcases hs with h1 | h1
      · exact h1
      · rw [h1] at h
        have := congrArg List.length h
        simp at this
  refine ⟨z, hz, hi, ?_⟩
  rw [atoiO_ok hz (by omega), bind_some2, cond_true]
  rcases num_two n hn f hr hk hd (ApiValue.mk 2 z [] []) rfl (ai_range hz) with ⟨k0, _⟩ | ⟨_, _, k1⟩
  · exact absurd hi k0
  · have hw := wr_len f hd z
    obtain ⟨o, e1, e2⟩ := eqb_ok n (ints (wr f z)) x1 (by rw [ints_length]; omega) (by rw [ints_length]; omega)
    rw [k1, bind_some2, e1, bind_some2]
    exact ⟨o, rfl, e2⟩
theorem r_ok (n : Nat) (hn : 5000 < n) (f : FixedField) (hr : Rg f) (hk : f.Kind = 1 ∨ f.Kind = 2) (hd : 1 ≤ digE f ∧ digE f ≤ 15) (x1 : List Int) (s : List UInt8) (ok : Bool) (hl : (Go.Lib.trimPrefix s [45]).length ≤ (digE f).toNat) :
    (∃ v o, Rx n f x1 (s, ok) = some (v, o) ∧ (o = true → ∃ z, InR f z ∧ x1 = ints (wr f z) ∧ v = ApiValue.mk 2 z [] [])) ∧
    ∀ z, ok = true → Dig (Go.Lib.trimPrefix s [45]) → Go.Lib.trimPrefix s [45] ≠ [] → (f.Signed = true ∨ Go.Lib.trimPrefix s [45] = s) → Go.Lib.atoiAll s = .ok z → x1 = ints (wr f z) → Rx n f x1 (s, ok) = some (ApiValue.mk 2 z [] [], true) := by
  have ht : trimO (Go.Lib.trimPrefix s [45]) [48, 49, 50, 51, 52, 53, 54, 55, 56, 57] = some (Go.Lib.trimS (Go.Lib.trimPrefix s [45]) [48, 49, 50, 51, 52, 53, 54, 55, 56, 57]) := by
    unfold trimO
    rw [dT (show List.length (Go.Lib.trimPrefix s [45]) ≤ 4294967296 by omega)]
    rfl
  unfold Rx
  simp only [ht, bind_some2]
  constructor
  · cases ok with
    | false => exact ⟨_, _, rfl, fun h => by cases h⟩
    | true =>
      simp only [Bool.not_true, cond_false]
      by_cases h1 : Go.Lib.trimS (Go.Lib.trimPrefix s [45]) [48, 49, 50, 51, 52, 53, 54, 55, 56, 57] = []
      · rw [h1]
        by_cases h0 : Go.Lib.trimPrefix s [45] = []
        · rw [h0]
          exact ⟨_, _, rfl, fun h => by cases h⟩
        · have h0' : (Go.Lib.trimPrefix s [45] == []) = false := beq_eq_false_iff_ne.2 h0
          rw [h0', show (([] : List UInt8) == []) = true from rfl, Bool.not_true, cond_false, cond_false]
          by_cases hs : f.Signed = true
          · obtain ⟨z, _, k2, o, k3, k4⟩ := r_num n hn f hr hk hd x1 s hl (dig_iff.1 h1) h0 (.inl hs)
            rw [hs, Bool.not_true, cond_false, k3]
            exact ⟨_, _, rfl, fun h => ⟨z, k2, k4.1 h, rfl⟩⟩
          · have hs' : f.Signed = false := by cases hf : f.Signed with | true => exact absurd hf hs | false => rfl
            rw [hs', Bool.not_false, cond_true]
            by_cases he : Go.Lib.trimPrefix s [45] = s
            · obtain ⟨z, _, k2, o, k3, k4⟩ := r_num n hn f hr hk hd x1 s hl (dig_iff.1 h1) h0 (.inr he)
              rw [show (Go.Lib.trimPrefix s [45] == s) = true by rw [he]; exact beq_self_eq_true s, Bool.not_true, cond_false, k3]
              exact ⟨_, _, rfl, fun h => ⟨z, k2, k4.1 h, rfl⟩⟩
            · rw [show (Go.Lib.trimPrefix s [45] == s) = false from beq_eq_false_iff_ne.2 he, Bool.not_false, cond_true]
              exact ⟨_, _, rfl, fun h => by cases h⟩
      · rw [show (Go.Lib.trimS (Go.Lib.trimPrefix s [45]) [48, 49, 50, 51, 52, 53, 54, 55, 56, 57] == []) = false from beq_eq_false_iff_ne.2 h1, Bool.not_false, cond_true]
        exact ⟨_, _, rfl, fun h => by cases h⟩
  · intro z hok hdg h0 hs hz hx
    subst hok
    simp only [Bool.not_true, cond_false]
    rw [dig_iff.2 hdg, show (([] : List UInt8) == []) = true from rfl, Bool.not_true, cond_false, show (Go.Lib.trimPrefix s [45] == []) = false from beq_eq_false_iff_ne.2 h0, cond_false]
    obtain ⟨z', k1, _, o, k3, k4⟩ := r_num n hn f hr hk hd x1 s hl hdg h0 hs
    have : z' = z := by
      rw [hz] at k1
      injection k1 with k1
      exact k1.symm
    subst this
    have ho : o = true := k4.2 hx
    subst ho
    rcases hs with h | h
    · rw [h, Bool.not_true, cond_false, k3]
    · cases hf : f.Signed with
      | true => rw [Bool.not_true, cond_false, k3]
      | false => rw [Bool.not_false, cond_true, show (Go.Lib.trimPrefix s [45] == s) = true by rw [h]; exact beq_self_eq_true s, Bool.not_true, cond_false, k3]

/-! ### Texts -/
def stp (bs : List UInt8) (pd : UInt8) : Nat → List UInt8
  | 0 => []
  | k + 1 => if List.getD bs k 0 = pd then stp bs pd k else List.take (k + 1) bs
theorem stp_len (bs : List UInt8) (pd : UInt8) : ∀ k, (stp bs pd k).length ≤ bs.length
  | 0 => Nat.zero_le _
  | k + 1 => by
    unfold stp
    split
    · exact stp_len bs pd k
    · rw [List.length_take]; omega
theorem byts_ints (l : List UInt8) : byts (ints l) = l := by
  induction l with
  | nil => rfl
  | cons c r ih =>
    show UInt8.ofNat (Int.toNat ((c.toNat : Nat) : Int)) :: byts (ints r) = c :: r
    rw [ih, Int.toNat_natCast, UInt8.ofNat_toNat]
theorem ints_take (l : List UInt8) (k : Nat) : List.take k (ints l) = ints (List.take k l) := by
  unfold ints
  rw [List.map_take]
theorem ints_getD (l : List UInt8) (k : Nat) (h : k < l.length) : List.getD (ints l) k 0 = ((List.getD l k 0).toNat : Int) := by
  unfold ints
  simp [List.getD, h]
theorem rd_text (n : Nat) (f : FixedField) (q : Nat) (hq : f.Pad = (q : Int)) (hq2 : q < 256) (w4 : ApiValue) (bs : List UInt8) (h4 : bs.length ≤ 100000) : ∀ (k m : Nat), k ≤ bs.length → k < m →
    fixed_read_l0 n m (ints bs) (k : Int) f w4 = some (ApiValue.mk 5 0 (stp bs (UInt8.ofNat q) k) [], true)
  | 0, m, _, hm => by
    obtain ⟨m, rfl⟩ : ∃ j, m = j + 1 := ⟨m - 1, by omega⟩
    rw [fixed_read_l0_eq, dF (by omega), cond_false, ints_length, d0, dle, dT (Nat.zero_le _), Bool.and_self, cond_true]
    rfl
  | k + 1, m, hk, hm => by
    obtain ⟨m, rfl⟩ : ∃ j, m = j + 1 := ⟨m - 1, by omega⟩
    have hct : (UInt8.ofNat q).toNat = q := by rw [UInt8.toNat_ofNat']; omega
    rw [fixed_read_l0_eq, dT (show ((k + 1 : Nat) : Int) > 0 by omega), cond_true, i64_pred (by omega), d0, ints_length, dlt, dT (show k < bs.length by omega), Bool.and_self, cond_true, Int.toNat_natCast, ints_getD bs k (by omega), hq]
    unfold stp
    by_cases h : List.getD bs k 0 = UInt8.ofNat q
    · rw [if_pos h, h, hct, dT rfl, cond_true]
      exact rd_text n f q hq hq2 w4 bs h4 k m (by omega) (by omega)
    · rw [if_neg h, dF (by intro e; exact h (UInt8.toNat_inj.1 (by rw [hct]; omega))), cond_false, d0, dle, dT hk, Bool.and_self, cond_true, Int.toNat_natCast, ints_take, byts_ints]
theorem suf_one1 (l : List UInt8) (a c : UInt8) : Go.Lib.hasSuffix (l ++ [a]) [c] = (c == a) := by
  unfold Go.Lib.hasSuffix
  simp [List.isSuffixOf, List.isPrefixOf]
theorem un_text (n : Nat) (f : FixedField) (q : Nat) (hq : f.Pad = (q : Int)) (hq2 : q < 256) (w4 : ApiValue) (bs : List UInt8) (h4 : bs.length ≤ 100000) : ∀ (k m : Nat), k ≤ bs.length → k < m →
    ref2_Unput_l0 n m (List.take k bs) f w4 = some (ApiValue.mk 5 0 (stp bs (UInt8.ofNat q) k) [], true)
  | 0, m, _, hm => by
    obtain ⟨m, rfl⟩ : ∃ j, m = j + 1 := ⟨m - 1, by omega⟩
    rw [ref2_Unput_l0_eq, hq]
    rfl
  | k + 1, m, hk, hm => by
    obtain ⟨m, rfl⟩ : ∃ j, m = j + 1 := ⟨m - 1, by omega⟩
    have hlt : k < bs.length := by omega
    have htk : List.take (k + 1) bs = List.take k bs ++ [List.getD bs k 0] := by
      rw [List.take_succ_eq_append_getElem hlt]
      simp [List.getD, hlt]
    have hlen : (List.take (k + 1) bs).length = k + 1 := by rw [List.length_take]; omega
    have hb : byts [f.Pad] = [UInt8.ofNat q] := by rw [hq]; rfl
    have hsf : hasSufO (List.take (k + 1) bs) [UInt8.ofNat q] = some (UInt8.ofNat q == List.getD bs k 0) := by
      unfold hasSufO
      rw [dT (show (List.take (k + 1) bs).length ≤ 4294967296 by omega), htk, suf_one1]
      rfl
    rw [ref2_Unput_l0_eq, hb, hsf, bind_some2]
    unfold stp
    by_cases h : List.getD bs k 0 = UInt8.ofNat q
    · rw [if_pos h, h, beq_self_eq_true, cond_true, hlen, i64_pred (by omega), d0, dle, dT (by omega), Bool.and_self, cond_true, Int.toNat_natCast, List.take_take, Nat.min_eq_left (by omega)]
      exact un_text n f q hq hq2 w4 bs h4 k m (by omega) (by omega)
    · rw [if_neg h, show (UInt8.ofNat q == List.getD bs k 0) = false from beq_eq_false_iff_ne.2 (fun e => h e.symm), cond_false]

/-! ### A field, read both ways -/
theorem sg_len (k : List UInt8) : (sg k).length ≤ 1 := by
  unfold sg
  split
  · simp
  · split <;> simp
theorem dig_of {l : List UInt8} (h : ∀ c ∈ l, IsD c) : Dig l := fun c hc => h c hc
theorem tp_dig {l : List UInt8} (h : Dig l) : Go.Lib.trimPrefix l [45] = l := by
  rcases tp_cases l with e | e
  · exact e
  · have := h 45 (by rw [e]; simp)
    exact absurd this (by decide)
theorem dgs_ne {D u : Nat} (h : 1 ≤ D) : dgs D u ≠ [] := fun e => by
  have := dgs_len D u
  rw [e] at this
  simp at this
  omega
/-- What the two ways have to do with one text and its bytes. -/
theorem field_num (n : Nat) (hn : 5000 < n) (f : FixedField) (hr : Rg f) (hk : f.Kind = 1 ∨ f.Kind = 2) (hd : 1 ≤ digE f ∧ digE f ≤ 15) (bs s1 s2 : List UInt8) (ok : Bool)
    (hl1 : (Go.Lib.trimPrefix s1 [45]).length ≤ (digE f).toNat) (hl2 : s2.length ≤ 100000)
    (h1 : ∀ z, InR f z → bs = wr f z → ok = true ∧ Dig (Go.Lib.trimPrefix s1 [45]) ∧ Go.Lib.trimPrefix s1 [45] ≠ [] ∧ (f.Signed = true ∨ Go.Lib.trimPrefix s1 [45] = s1) ∧ Go.Lib.atoiAll s1 = .ok z)
    (h2 : ∀ z, InR f z → bs = wr f z → Go.Lib.atoiAll s2 = .ok z) :
    ∃ v w o, Rx n f (ints bs) (s1, ok) = some (v, o) ∧ Ux n f bs s2 = some (w, o) ∧ (o = true → v = w ∧ v.Fields = [] ∧ v.S.length ≤ 400) := by
  obtain ⟨⟨v, o, a1, a2⟩, a3⟩ := r_ok n hn f hr hk hd (ints bs) s1 ok hl1
  obtain ⟨⟨w, p, b1, b2⟩, b3⟩ := u_ok n hn f hr hk hd bs s2 hl2
  by_cases hx : ∃ z, InR f z ∧ bs = wr f z
  · obtain ⟨z, hz, hb⟩ := hx
    obtain ⟨c1, c2, c3, c4, c5⟩ := h1 z hz hb
    exact ⟨_, _, true, a3 z c1 c2 c3 c4 c5 (by rw [hb]), b3 z (h2 z hz hb) hz hb, fun _ => ⟨rfl, rfl, Nat.zero_le _⟩⟩
  · have ho : o = false := by
      cases o with
      | false => rfl
      | true =>
        obtain ⟨z, k1, k2, _⟩ := a2 rfl
        exact absurd ⟨z, k1, by rw [← byts_ints bs, k2, byts_ints]⟩ hx
    have hp : p = false := by
      cases p with
      | false => rfl
      | true =>
        obtain ⟨z, k1, k2, _⟩ := b2 rfl
        exact absurd ⟨z, k1, k2⟩ hx
    subst ho hp
    exact ⟨v, w, false, a1, b1, fun h => by cases h⟩
theorem inr_val (f : FixedField) (hd : 1 ≤ digE f ∧ digE f ≤ 15) (z : Int) (h : InR f z) : dval (dgs (digE f).toNat z.natAbs) 0 = z.natAbs ∧ Dig (dgs (digE f).toNat z.natAbs) ∧ dgs (digE f).toNat z.natAbs ≠ [] ∧ (dgs (digE f).toNat z.natAbs).length ≤ 15 :=
  ⟨dval_dgs _ _ h.1, dig_of (dgs_isD _ _), dgs_ne (by omega), by rw [dgs_len]; omega⟩
theorem field_two (n : Nat) (hn : 5000 < n) (f : FixedField) (hr : Rg f) (hk : f.Kind = 0 ∨ f.Kind = 1 ∨ f.Kind = 2) (hd : f.Kind ≠ 0 → 1 ≤ digE f ∧ digE f ≤ 15) (hp : 0 ≤ f.Pad ∧ f.Pad < 256) (bs : List UInt8) (hl : (bs.length : Int) = f.Wide) :
    ∃ v w o, fixed_read n f (ints bs) = some (v, o) ∧ ref2_Unput n f bs = some (w, o) ∧ (o = true → v = w ∧ v.Fields = [] ∧ v.S.length ≤ 400) := by
  have hrg := hr
  unfold Rg at hrg
  have hb4 : bs.length ≤ 400 := by omega
  rw [fixed_read_eq, ref2_Unput_eq]
  by_cases h0 : f.Kind = 0
  · rw [dT h0, cond_true, cond_true]
    obtain ⟨q, hq⟩ : ∃ q : Nat, f.Pad = (q : Int) := ⟨f.Pad.toNat, by omega⟩
    have a := rd_text n f q hq (by omega) (ApiValue.mk 0 0 [] []) bs (by omega) bs.length n (Nat.le_refl _) (by omega)
    have b := un_text n f q hq (by omega) (ApiValue.mk 0 0 [] []) bs (by omega) bs.length n (Nat.le_refl _) (by omega)
    rw [List.take_length] at b
    rw [ints_length, a, b]
    exact ⟨_, _, true, rfl, rfl, fun _ => ⟨rfl, rfl, Nat.le_trans (stp_len _ _ _) hb4⟩⟩
  · have hd := hd h0
    rw [dF h0, cond_false, cond_false]
    by_cases h2 : f.Kind = 2
    · -- packed
      have hk12 : f.Kind = 1 ∨ f.Kind = 2 := .inr h2
      have hk1 : ¬ f.Kind = 1 := by omega
      have hDw : digE f = 2 * f.Wide - 1 := by
        unfold digE at hd ⊢
        rw [if_neg hk1, if_pos h2, w64 (x := (2 : Int) * f.Wide) (by omega) (by omega), w64 (by omega) (by omega)]
      obtain ⟨q, z, hz⟩ : ∃ q z, bs = q ++ [z] := by
        have hne : bs ≠ [] := fun e => by rw [e] at hl; simp at hl; omega
        exact ⟨bs.dropLast, bs.getLast hne, (List.dropLast_concat_getLast hne).symm⟩
      have ht : fixed_text n f (ints bs) = some (tfin f z (tx bs)) := by
        rw [fixed_text_eq, dF hk1, cond_false, ints_length]
        have := text_loop n f bs q z hz hb4 bs [] [] n rfl (by simp; omega) (by omega)
        rw [show (([] : List UInt8).length : Int) = 0 from rfl, List.nil_append] at this
        exact this
      have htl := tx_len bs
      have hux : ref2_Unput_l2 n n bs [] (ints bs) ((ints bs).length : Int) 0 f (ApiValue.mk 0 0 [] []) = Ux n f bs (sg [hc (z.toNat % 16)] ++ (hx q ++ [hc (z.toNat / 16)])) := by
        obtain ⟨m, hm⟩ : ∃ m, n = (m + 1) + bs.length := ⟨n - bs.length - 1, by omega⟩
        have h := hex_loop n (by omega) bs f (ApiValue.mk 0 0 [] []) bs hb4 bs [] [] (m + 1) rfl (by simp; omega)
        rw [← hm, show (([] : List UInt8).length : Int) = 0 from rfl, List.nil_append] at h
        rw [ints_length, h]
        have hhx : hx bs = (hx q ++ [hc (z.toNat / 16)]) ++ [hc (z.toNat % 16)] := by
          rw [hz, hx_app, List.append_assoc]
          rfl
        have hhl := hx_len bs
        have hqb : bs.length = q.length + 1 := by rw [hz]; simp
        have hpl : (hx bs).length = (hx q ++ [hc (z.toNat / 16)]).length + 1 := by rw [hhx]; simp
        rw [ref2_Unput_l2_eq, dF (by omega), cond_false, hpl, i64_pred (by omega), d0, dle, dT (by omega), Bool.and_self, cond_true, cond_true, Int.toNat_natCast, hhx, List.drop_left, List.take_left, sg_ok]
        have hsl := sg_len [hc (z.toNat % 16)]
        rw [dT (by simp only [List.length_append, List.length_singleton, hx_len]; omega), cond_true]
        rfl
      rw [ht, bind_some2, dT h2, cond_true, hux]
      have hbl2 : bs.length = q.length + 1 := by rw [hz]; simp
      have hsl := sg_len [hc (z.toNat % 16)]
      have tfl : (Go.Lib.trimPrefix (tfin f z (tx bs)).1 [45]).length ≤ (digE f).toNat := by
        have hle : ∀ l : List UInt8, (Go.Lib.trimPrefix l [45]).length ≤ l.length := by
          intro l
          rcases tp_cases l with e | e
          · rw [e]; exact Nat.le_refl _
          · have := congrArg List.length e
            simp at this
            omega
        unfold tfin
        split
        · exact Nat.le_trans (hle _) (by show (tx bs).length ≤ _; omega)
        · split
          · show (Go.Lib.trimPrefix (45 :: tx bs) [45]).length ≤ _
            rw [trim_neg]; omega
          · exact Nat.le_trans (hle _) (Nat.zero_le _)
      refine field_num n hn f hr hk12 hd bs (tfin f z (tx bs)).1 _ (tfin f z (tx bs)).2 tfl (by simp only [List.length_append, List.length_singleton, hx_len]; omega) ?_ ?_
      · intro y hy hb
        obtain ⟨v1, v2, v3, v4⟩ := inr_val f hd y hy
        have hodd : (dgs (digE f).toNat y.natAbs).length % 2 = 1 := by rw [dgs_len]; omega
        by_cases hneg : y < 0
        · have hw : wr f y = pkL 13 (dgs (digE f).toNat y.natAbs) := by unfold wr; rw [if_neg hk1, if_pos hneg]
          rw [hw] at hb
          obtain ⟨t1, _⟩ := tx_pk 13 (by decide) _ (dgs_isD _ _) hodd
          obtain ⟨q', z', e1, e2⟩ := pk_last 13 (by decide) _ (dgs_isD _ _) hodd
          have hzz : z = z' := by
            rw [hz, e1] at hb
            exact List.singleton_inj.1 (List.append_inj' hb rfl).2
          subst hzz
          have htf : tfin f z (tx bs) = ([45] ++ dgs (digE f).toNat y.natAbs, f.Signed) := by
            unfold tfin
            rw [if_neg (by omega), if_pos e2, hb, t1]
          rw [htf]
          simp only
          rw [show ([45] ++ dgs (digE f).toNat y.natAbs) = 45 :: dgs (digE f).toNat y.natAbs from rfl, trim_neg]
          refine ⟨hy.2 hneg, v2, v3, .inl (hy.2 hneg), ?_⟩
          rw [ai_minus v3 v2 v4, v1]
          congr 1
          omega
        · have hw : wr f y = pkL 12 (dgs (digE f).toNat y.natAbs) := by unfold wr; rw [if_neg hk1, if_neg hneg]
          rw [hw] at hb
          obtain ⟨t1, _⟩ := tx_pk 12 (by decide) _ (dgs_isD _ _) hodd
          obtain ⟨q', z', e1, e2⟩ := pk_last 12 (by decide) _ (dgs_isD _ _) hodd
          have hzz : z = z' := by
            rw [hz, e1] at hb
            exact List.singleton_inj.1 (List.append_inj' hb rfl).2
          subst hzz
          have htf : tfin f z (tx bs) = (dgs (digE f).toNat y.natAbs, true) := by
            unfold tfin
            rw [if_pos e2, hb, t1]
          rw [htf]
          simp only
          rw [tp_dig v2]
          refine ⟨trivial, v2, v3, .inr rfl, ?_⟩
          rw [ai_plain v3 v2 v4, v1]
          congr 1
          omega
      · intro y hy hb
        obtain ⟨v1, v2, v3, v4⟩ := inr_val f hd y hy
        have hodd : (dgs (digE f).toNat y.natAbs).length % 2 = 1 := by rw [dgs_len]; omega
        have fin : ∀ t, t < 16 → bs = pkL t (dgs (digE f).toNat y.natAbs) → hx q ++ [hc (z.toNat / 16)] = dgs (digE f).toNat y.natAbs ∧ hc (z.toNat % 16) = hc t := by
          intro t ht hbt
          obtain ⟨_, t2⟩ := tx_pk t ht _ (dgs_isD _ _) hodd
          rw [← hbt, hz, hx_app] at t2
          have t3 : (hx q ++ [hc (z.toNat / 16)]) ++ [hc (z.toNat % 16)] = dgs (digE f).toNat y.natAbs ++ [hc t] := by
            rw [List.append_assoc]
            exact t2
          obtain ⟨e1, e2⟩ := List.append_inj' t3 rfl
          exact ⟨e1, List.singleton_inj.1 e2⟩
        by_cases hneg : y < 0
        · have hw : wr f y = pkL 13 (dgs (digE f).toNat y.natAbs) := by unfold wr; rw [if_neg hk1, if_pos hneg]
          obtain ⟨e1, e2⟩ := fin 13 (by decide) (hb.trans hw)
          rw [e1, e2, show sg [hc 13] = [45] by decide, show ([45] ++ dgs (digE f).toNat y.natAbs) = 45 :: dgs (digE f).toNat y.natAbs from rfl, ai_minus v3 v2 v4, v1]
          congr 1
          omega
        · have hw : wr f y = pkL 12 (dgs (digE f).toNat y.natAbs) := by unfold wr; rw [if_neg hk1, if_neg hneg]
          obtain ⟨e1, e2⟩ := fin 12 (by decide) (hb.trans hw)
          rw [e1, e2, show sg [hc 12] = [43] by decide, show ([43] ++ dgs (digE f).toNat y.natAbs) = 43 :: dgs (digE f).toNat y.natAbs from rfl, ai_plus v3 v2 v4, v1]
          congr 1
          omega
    · -- digits
      have hk1 : f.Kind = 1 := by omega
      have hk12 : f.Kind = 1 ∨ f.Kind = 2 := .inl hk1
      rw [dF h2, cond_false]
      show ∃ v w o, Option.bind (fixed_text n f (ints bs)) (fun r1 => Rx n f (ints bs) r1) = some (v, o) ∧ Ux n f bs bs = some (w, o) ∧ (o = true → v = w ∧ v.Fields = [] ∧ v.S.length ≤ 400)
      rw [fixed_text_eq, dT hk1, cond_true, byts_ints]
      by_cases hs : f.Signed = true
      · -- a sign first
        have hDw : digE f = f.Wide - 1 := by
          unfold digE at hd ⊢
          rw [if_pos hk1, if_pos hs, w64 (by omega) (by omega)]
        obtain ⟨c, r, hcr⟩ : ∃ c r, bs = c :: r := by
          cases bs with
          | nil => simp at hl; omega
          | cons c r => exact ⟨c, r, rfl⟩
        have hrl : r.length = (digE f).toNat := by rw [hcr, List.length_cons] at hl; omega
        have hg : List.getD bs (Int.toNat 0) 0 = c := by rw [hcr]; rfl
        have hb1 : (decide (0 ≤ (0 : Int)) && decide ((0 : Int) < (bs.length : Int))) = true := by rw [hcr]; simp
        rw [hs, Bool.not_true, cond_false, hb1, cond_true, cond_true, hg]
        have tp43 : ∀ x : List UInt8, Go.Lib.trimPrefix (43 :: x) [43] = x := fun x => by simp [Go.Lib.trimPrefix, Go.Lib.hasPrefix]
        have tpn : c ≠ 43 → Go.Lib.trimPrefix bs [43] = bs := by
          intro h
          rw [hcr]
          unfold Go.Lib.trimPrefix
          rw [if_neg]
          simp [Go.Lib.hasPrefix]
          intro e
          exact h e.symm
        have hwf : ∀ y, InR f y → bs = wr f y → (y < 0 ∧ c = 45 ∨ ¬ y < 0 ∧ c = 43) ∧ r = dgs (digE f).toNat y.natAbs := by
          intro y hy hb
          unfold wr at hb
          rw [if_pos hk1, if_pos hs, hcr] at hb
          split at hb
          · rename_i hneg
            injection hb with e1 e2
            exact ⟨.inl ⟨hneg, e1⟩, e2⟩
          · rename_i hneg
            injection hb with e1 e2
            exact ⟨.inr ⟨hneg, e1⟩, e2⟩
        have hun : ∀ y, InR f y → bs = wr f y → Go.Lib.atoiAll bs = .ok y := by
          intro y hy hb
          obtain ⟨v1, v2, v3, v4⟩ := inr_val f hd y hy
          obtain ⟨e1, e2⟩ := hwf y hy hb
          rcases e1 with ⟨hneg, e1⟩ | ⟨hneg, e1⟩
          · rw [hcr, e1, e2, ai_minus v3 v2 v4, v1]
            congr 1
            omega
          · rw [hcr, e1, e2, ai_plus v3 v2 v4, v1]
            congr 1
            omega
        by_cases h43 : c = 43
        · have hdec : decide (((UInt8.toNat c : Nat) : Int) = 43) = true := by rw [h43]; rfl
          rw [hdec, cond_true, bind_some2]
          have htb : Go.Lib.trimPrefix bs [43] = r := by rw [hcr, h43, tp43]
          rw [htb]
          have hle : (Go.Lib.trimPrefix r [45]).length ≤ (digE f).toNat := by
            rcases tp_cases r with e | e
            · rw [e]; omega
            · have := congrArg List.length e
              simp at this
              omega
          refine field_num n hn f hr hk12 hd bs r bs true hle (by omega) ?_ hun
          intro y hy hb
          obtain ⟨v1, v2, v3, v4⟩ := inr_val f hd y hy
          obtain ⟨e1, e2⟩ := hwf y hy hb
          have hneg : ¬ y < 0 := by
            rcases e1 with ⟨_, e1⟩ | ⟨h, _⟩
            · rw [h43] at e1; cases e1
            · exact h
          rw [e2, tp_dig v2]
          refine ⟨rfl, v2, v3, .inl hs, ?_⟩
          rw [ai_plain v3 v2 v4, v1]
          congr 1
          omega
        · have hdec : decide (((UInt8.toNat c : Nat) : Int) = 43) = false := by
            refine dF fun e => h43 (UInt8.toNat_inj.1 ?_)
            show c.toNat = 43
            omega
          rw [hdec, cond_false, bind_some2, tpn h43]
          by_cases h45 : c = 45
          · have htb : Go.Lib.trimPrefix bs [45] = r := by rw [hcr, h45, trim_neg]
            have hdec : decide (((UInt8.toNat c : Nat) : Int) = 45) = true := by rw [h45]; rfl
            rw [hdec]
            refine field_num n hn f hr hk12 hd bs bs bs true (by rw [htb]; omega) (by omega) ?_ hun
            intro y hy hb
            obtain ⟨v1, v2, v3, v4⟩ := inr_val f hd y hy
            obtain ⟨_, e2⟩ := hwf y hy hb
            rw [htb]
            refine ⟨rfl, by rw [e2]; exact v2, by rw [e2]; exact v3, .inl hs, hun y hy hb⟩
          · have hdec : decide (((UInt8.toNat c : Nat) : Int) = 45) = false := by
              refine dF fun e => h45 (UInt8.toNat_inj.1 ?_)
              show c.toNat = 45
              omega
            rw [hdec]
            obtain ⟨⟨w, p, b1, b2⟩, _⟩ := u_ok n hn f hr hk12 hd bs bs (by omega)
            have hp : p = false := by
              cases p with
              | false => rfl
              | true =>
                obtain ⟨y, k1, k2, _⟩ := b2 rfl
                obtain ⟨e1, _⟩ := hwf y k1 k2
                rcases e1 with ⟨_, e1⟩ | ⟨_, e1⟩
                · exact absurd e1 h45
                · exact absurd e1 h43
            subst hp
            exact ⟨_, w, false, rfl, b1, fun h => by cases h⟩
      · -- digits alone
        have hs' : f.Signed = false := by cases hf : f.Signed with | true => exact absurd hf hs | false => rfl
        have hDw : digE f = f.Wide := by unfold digE; rw [if_pos hk1, if_neg hs]
        rw [hs', Bool.not_false, cond_true, bind_some2]
        have hwf : ∀ y, InR f y → bs = wr f y → ¬ y < 0 ∧ bs = dgs (digE f).toNat y.natAbs := by
          intro y hy hb
          refine ⟨fun h => hs (hy.2 h), ?_⟩
          unfold wr at hb
          rw [if_pos hk1, if_neg hs] at hb
          exact hb
        have hun : ∀ y, InR f y → bs = wr f y → Go.Lib.atoiAll bs = .ok y := by
          intro y hy hb
          obtain ⟨v1, v2, v3, v4⟩ := inr_val f hd y hy
          obtain ⟨hneg, e2⟩ := hwf y hy hb
          rw [e2, ai_plain v3 v2 v4, v1]
          congr 1
          omega
        have hle : (Go.Lib.trimPrefix bs [45]).length ≤ (digE f).toNat := by
          rcases tp_cases bs with e | e
          · rw [e]; omega
          · have := congrArg List.length e
            simp at this
            omega
        refine field_num n hn f hr hk12 hd bs bs bs true hle (by omega) ?_ hun
        intro y hy hb
        obtain ⟨v1, v2, v3, v4⟩ := inr_val f hd y hy
        obtain ⟨hneg, e2⟩ := hwf y hy hb
        have hdb : Dig bs := by rw [e2]; exact v2
        rw [tp_dig hdb]
        exact ⟨rfl, hdb, by rw [e2]; exact v3, .inr rfl, hun y hy hb⟩

/-! ### Values: a measure, and an induction -/
mutual
def vw : ApiValue → Nat
  | ⟨_, _, s, fs⟩ => fw fs + s.length + 1
def fw : List ApiField → Nat
  | [] => 0
  | f :: r => gw f + fw r
def gw : ApiField → Nat
  | ⟨nm, v⟩ => nm.length + 1 + vw v
end
theorem vw_eq (v : ApiValue) : vw v = fw v.Fields + v.S.length + 1 := by cases v; simp [vw]
theorem gw_eq (f : ApiField) : gw f = f.Name.length + 1 + vw f.Val := by cases f; simp [gw]
theorem fw_mem {f : ApiField} : ∀ {l : List ApiField}, f ∈ l → gw f ≤ fw l
  | [], h => by simp at h
  | g :: l, h => by
    simp only [fw]
    rcases List.mem_cons.1 h with rfl | h
    · omega
    · have := fw_mem h; omega
theorem fw_len : ∀ l : List ApiField, l.length ≤ fw l
  | [] => by simp [fw]
  | f :: l => by have := fw_len l; have := gw_eq f; simp only [fw, List.length_cons]; omega
theorem vw_lt {v : ApiValue} {f : ApiField} (h : f ∈ v.Fields) : vw f.Val < vw v ∧ f.Name.length < vw v := by
  have h1 := fw_mem h
  have h2 := gw_eq f
  have h3 := vw_eq v
  omega
theorem vw_len (v : ApiValue) : v.Fields.length < vw v ∧ v.S.length < vw v := by
  have := fw_len v.Fields
  have := vw_eq v
  omega
theorem val_ind {P : ApiValue → Prop} (h : ∀ v : ApiValue, (∀ f ∈ v.Fields, P f.Val) → P v) : ∀ v, P v := by
  have key : ∀ (k : Nat) (v : ApiValue), vw v ≤ k → P v := by
    intro k
    induction k with
    | zero => intro v hv; have := vw_eq v; omega
    | succ k ih => exact fun v hv => h v fun f hf => ih f.Val (by have := (vw_lt hf).1; omega)
  exact fun v => key _ v (Nat.le_refl _)

/-! ### Loops that answer -/
theorem foldK_some {A S R : Type} (v : List A) {step : Nat → A → S → (S → Option R) → Option R} {fin : S → Option R}
    (h : ∀ i (hi : i < v.length) s K, (∀ s', (K s').isSome = true) → (step i v[i] s K).isSome = true) (hf : ∀ s, (fin s).isSome = true) :
    ∀ (c i : Nat), c = v.length - i → i ≤ v.length → ∀ s, (foldK step fin (v.drop i) i s).isSome = true := by
  intro c
  induction c with
  | zero =>
    intro i hc hi s
    rw [List.drop_eq_nil_of_le (by omega)]
    exact hf s
  | succ c ih =>
    intro i hc hi s
    rw [List.drop_eq_getElem_cons (by omega : i < v.length), foldK_cons]
    exact h i (by omega) s _ fun s' => ih (i + 1) (by omega) (by omega) s'
theorem foldK_par {A S S' R : Type} (v : List A) {step : Nat → A → S → (S → Option R) → Option R} {fin : S → Option R} {step' : Nat → A → S' → (S' → Option R) → Option R} {fin' : S' → Option R} (I : Nat → S → S' → Prop)
    (h : ∀ i (hi : i < v.length) s s' K K', I i s s' → (∀ t t', I (i + 1) t t' → K t = K' t') → step i v[i] s K = step' i v[i] s' K') (hf : ∀ s s', I v.length s s' → fin s = fin' s') :
    ∀ (c i : Nat), c = v.length - i → i ≤ v.length → ∀ s s', I i s s' → foldK step fin (v.drop i) i s = foldK step' fin' (v.drop i) i s' := by
  intro c
  induction c with
  | zero =>
    intro i hc hi s s' hI
    rw [List.drop_eq_nil_of_le (by omega)]
    exact hf s s' (by rwa [show v.length = i by omega])
  | succ c ih =>
    intro i hc hi s s' hI
    rw [List.drop_eq_getElem_cons (by omega : i < v.length), foldK_cons, foldK_cons]
    exact h i (by omega) s s' _ _ hI fun t t' ht => ih (i + 1) (by omega) (by omega) t t' ht
/-- A loop ends early, or each of its rounds went on. -/
theorem foldK_case {A S R : Type} (v : List A) {step : Nat → A → S → (S → Option R) → Option R} {fin : S → Option R} (I : Nat → S → Prop) (Q : Option R → Prop)
    (h : ∀ i (hi : i < v.length) s, I i s → (∃ e, Q e ∧ ∀ K, step i v[i] s K = e) ∨ ∃ s', I (i + 1) s' ∧ ∀ K, step i v[i] s K = K s') (hf : ∀ s, I v.length s → Q (fin s)) :
    ∀ (c i : Nat), c = v.length - i → i ≤ v.length → ∀ s, I i s → Q (foldK step fin (v.drop i) i s) := by
  intro c
  induction c with
  | zero =>
    intro i hc hi s hI
    rw [List.drop_eq_nil_of_le (by omega)]
    exact hf s (by rwa [show v.length = i by omega])
  | succ c ih =>
    intro i hc hi s hI
    rw [List.drop_eq_getElem_cons (by omega : i < v.length), foldK_cons]
    rcases h i (by omega) s hI with ⟨e, h1, h2⟩ | ⟨s', h1, h2⟩
    · rw [h2]; exact h1
    · rw [h2]; exact ih (i + 1) (by omega) (by omega) s' h1
theorem bind_some {α β : Type} {o : Option α} {f : α → Option β} (h : o.isSome = true) (hf : ∀ a, (f a).isSome = true) : (o.bind f).isSome = true := by
  obtain ⟨a, rfl⟩ := Option.isSome_iff_exists.1 h
  exact hf a
theorem cond_some {β : Type} {c : Bool} {a b : Option β} (ha : c = true → a.isSome = true) (hb : c = false → b.isSome = true) : (bif c then a else b).isSome = true := by
  cases c
  · exact hb rfl
  · exact ha rfl
theorem inR {i n : Nat} (h : i < n) : (decide (0 ≤ (i : Int)) && decide ((i : Int) < (n : Int))) = true := by
  simp only [Bool.and_eq_true, decide_eq_true_eq]; omega
theorem inR' {i n : Nat} (h : i ≤ n) : (decide (0 ≤ (i : Int)) && decide ((i : Int) ≤ (n : Int))) = true := by
  simp only [Bool.and_eq_true, decide_eq_true_eq]; omega
theorem inP {i n : Nat} (h0 : 0 < i) (h : i < n) (hn : n < 9223372036854775807) : (decide (0 ≤ (IntKind.wrap .i64 ((i : Int) - 1))) && decide ((IntKind.wrap .i64 ((i : Int) - 1)) < (n : Int))) = true ∧ Int.toNat (IntKind.wrap .i64 ((i : Int) - 1)) = i - 1 := by
  have e : IntKind.wrap .i64 ((i : Int) - 1) = ((i - 1 : Nat) : Int) := by
    rw [show (i : Int) - 1 = ((i - 1 + 1 : Nat) : Int) - 1 by omega]
    exact i64_pred (by omega)
  rw [e]
  exact ⟨inR (by omega), by simp⟩

/-! ### The order of values -/
def icmp (x y : Int) : Int := bif decide (x < y) then -1 else bif decide (x > y) then 1 else 0
def or2 (a b : Int) : Int := bif !decide (a = 0) then a else b
def Tr3 (x y z : Int) : Prop := (x ≤ 0 → y ≤ 0 → z ≤ 0) ∧ (x ≤ 0 → y ≤ 0 → z = 0 → x = 0 ∧ y = 0) ∧ (x = 0 → y = 0 → z = 0)
theorem icmp_val (x y : Int) : (x < y ∧ icmp x y = -1) ∨ (x = y ∧ icmp x y = 0) ∨ (y < x ∧ icmp x y = 1) := by
  unfold icmp
  rcases Int.lt_trichotomy x y with h | h | h
  · exact .inl ⟨h, by simp [h]⟩
  · exact .inr (.inl ⟨h, by simp [h]⟩)
  · exact .inr (.inr ⟨h, by rw [decide_eq_false (by omega), decide_eq_true h]; rfl⟩)
theorem icmp_anti (x y : Int) : icmp y x = -icmp x y := by
  rcases icmp_val x y with ⟨h, e⟩ | ⟨h, e⟩ | ⟨h, e⟩ <;> rcases icmp_val y x with ⟨h', e'⟩ | ⟨h', e'⟩ | ⟨h', e'⟩ <;> omega
theorem icmp_tr (x y z : Int) : Tr3 (icmp x y) (icmp y z) (icmp x z) := by
  rcases icmp_val x y with ⟨h, e⟩ | ⟨h, e⟩ | ⟨h, e⟩ <;> rcases icmp_val y z with ⟨h', e'⟩ | ⟨h', e'⟩ | ⟨h', e'⟩ <;> rcases icmp_val x z with ⟨h2, e2⟩ | ⟨h2, e2⟩ | ⟨h2, e2⟩ <;>
    rw [e, e', e2] <;> refine ⟨?_, ?_, ?_⟩ <;> intros <;> first | omega | (refine ⟨?_, ?_⟩ <;> omega)
theorem or2_val (a b : Int) : (a ≠ 0 ∧ or2 a b = a) ∨ (a = 0 ∧ or2 a b = b) := by
  unfold or2
  by_cases h : a = 0
  · exact .inr ⟨h, by simp [h]⟩
  · exact .inl ⟨h, by simp [h]⟩
theorem or2_neg {a b a' b' : Int} (h : a' = -a) (h' : b' = -b) : or2 a' b' = -or2 a b := by
  rcases or2_val a b with ⟨h1, e⟩ | ⟨h1, e⟩ <;> rcases or2_val a' b' with ⟨h2, e'⟩ | ⟨h2, e'⟩ <;> omega
theorem or2_tr {x y z x' y' z' : Int} (h : Tr3 x y z) (h' : Tr3 x' y' z') : Tr3 (or2 x x') (or2 y y') (or2 z z') := by
  obtain ⟨a1, a2, a3⟩ := h
  obtain ⟨b1, b2, b3⟩ := h'
  rcases or2_val x x' with ⟨h1, e1⟩ | ⟨h1, e1⟩ <;> rcases or2_val y y' with ⟨h2, e2⟩ | ⟨h2, e2⟩ <;> rcases or2_val z z' with ⟨h3, e3⟩ | ⟨h3, e3⟩ <;>
    rw [e1, e2, e3] <;> refine ⟨?_, ?_, ?_⟩ <;> intros <;> first | omega | (refine ⟨?_, ?_⟩ <;> omega)
theorem cb_anti : ∀ a b : List UInt8, Go.Lib.compareBytes b a = -Go.Lib.compareBytes a b
  | [], [] => rfl
  | [], _ :: _ => rfl
  | _ :: _, [] => rfl
  | a :: xs, b :: ys => by
    simp only [Go.Lib.compareBytes]
    have := cb_anti xs ys
    by_cases h : a < b
    · have h2 : ¬ b < a := by rw [UInt8.lt_iff_toNat_lt] at h ⊢; omega
      rw [if_pos h, if_neg h2, if_pos h]; rfl
    · by_cases h2 : b < a
      · rw [if_pos h2, if_neg h, if_pos h2]
      · rw [if_neg h, if_neg h2, if_neg h2, if_neg h]; exact this
theorem cb_tr : ∀ a b c : List UInt8, Tr3 (Go.Lib.compareBytes a b) (Go.Lib.compareBytes b c) (Go.Lib.compareBytes a c)
  | [], [], [] => by simp [Go.Lib.compareBytes, Tr3]
  | [], [], _ :: _ => by simp [Go.Lib.compareBytes, Tr3]
  | [], _ :: _, [] => by simp [Go.Lib.compareBytes, Tr3]
  | [], _ :: _, _ :: _ => by simp [Go.Lib.compareBytes, Tr3]
  | _ :: _, [], [] => by simp [Go.Lib.compareBytes, Tr3]
  | _ :: _, [], _ :: _ => by simp [Go.Lib.compareBytes, Tr3]
  | _ :: _, _ :: _, [] => by simp [Go.Lib.compareBytes, Tr3]
  | a :: xs, b :: ys, c :: zs => by
    have ih := cb_tr xs ys zs
    have key : ∀ (a b : UInt8) (r : Int), (if a < b then (-1 : Int) else if b < a then 1 else r) = or2 (icmp a.toNat b.toNat) r := by
      intro a b r
      rcases icmp_val a.toNat b.toNat with ⟨h, e⟩ | ⟨h, e⟩ | ⟨h, e⟩
      · rw [if_pos (by rw [UInt8.lt_iff_toNat_lt]; omega), e]; rfl
      · rw [if_neg (by rw [UInt8.lt_iff_toNat_lt]; omega), if_neg (by rw [UInt8.lt_iff_toNat_lt]; omega), e]; rfl
      · rw [if_neg (by rw [UInt8.lt_iff_toNat_lt]; omega), if_pos (by rw [UInt8.lt_iff_toNat_lt]; omega), e]; rfl
    simp only [Go.Lib.compareBytes, key]
    exact or2_tr (icmp_tr _ _ _) ih

def ordF (x : Int) : Int := bif decide (x < 0) then IntKind.wrap .i64 ((-1 : Int) - (Fv.bits .and .i64 x 9223372036854775807)) else x
def keyN (v : ApiValue) : Int := bif decide (v.Kind = 3) then ordF v.N else v.N
mutual
def vcmp : ApiValue → ApiValue → Int
  | ⟨k, x, s, fs⟩, w => or2 (or2 (icmp k w.Kind) (or2 (icmp (bif decide (k = 3) then ordF x else x) (bif decide (k = 3) then ordF w.N else w.N)) (Go.Lib.compareBytes s w.S))) (fcmp fs w.Fields)
def fcmp : List ApiField → List ApiField → Int
  | [], l => bif l.isEmpty then 0 else -1
  | f :: r, l => match l with
    | [] => 1
    | g :: t => or2 (gcmp f g) (fcmp r t)
def gcmp : ApiField → ApiField → Int
  | ⟨nm, v⟩, g => or2 (Go.Lib.compareBytes nm g.Name) (vcmp v g.Val)
end
theorem vcmp_eq (v w : ApiValue) : vcmp v w = or2 (or2 (icmp v.Kind w.Kind) (or2 (icmp (bif decide (v.Kind = 3) then ordF v.N else v.N) (bif decide (v.Kind = 3) then ordF w.N else w.N)) (Go.Lib.compareBytes v.S w.S))) (fcmp v.Fields w.Fields) := by cases v; simp only [vcmp]
theorem gcmp_eq (f g : ApiField) : gcmp f g = or2 (Go.Lib.compareBytes f.Name g.Name) (vcmp f.Val g.Val) := by cases f; simp only [gcmp]
/-- The number by the kind of the one that has it. -/
theorem vcmp_key (v w : ApiValue) : vcmp v w = or2 (icmp v.Kind w.Kind) (or2 (or2 (icmp (keyN v) (keyN w)) (Go.Lib.compareBytes v.S w.S)) (fcmp v.Fields w.Fields)) := by
  rw [vcmp_eq]
  rcases icmp_val v.Kind w.Kind with ⟨h, e⟩ | ⟨h, e⟩ | ⟨h, e⟩
  · rw [e]; rfl
  · rw [e]
    unfold keyN
    rw [h]
    rfl
  · rw [e]; rfl
theorem vcmp_anti : ∀ v w : ApiValue, vcmp w v = -vcmp v w := by
  intro v
  refine val_ind (P := fun v => ∀ w, vcmp w v = -vcmp v w) (fun v ih w => ?_) v
  rw [vcmp_key v w, vcmp_key w v]
  refine or2_neg (icmp_anti _ _) (or2_neg (or2_neg (icmp_anti _ _) (cb_anti _ _)) ?_)
  have key : ∀ (l m : List ApiField), (∀ f ∈ l, ∀ w, vcmp w f.Val = -vcmp f.Val w) → fcmp m l = -fcmp l m := by
    intro l
    induction l with
    | nil => intro m _; cases m <;> simp [fcmp]
    | cons f l ihl =>
      intro m h
      cases m with
      | nil => simp [fcmp]
      | cons g m =>
        simp only [fcmp]
        refine or2_neg ?_ (ihl m fun x hx => h x (by simp [hx]))
        rw [gcmp_eq, gcmp_eq]
        exact or2_neg (cb_anti _ _) (h f (by simp) _)
  exact key _ _ ih
theorem vcmp_tr : ∀ v w x : ApiValue, Tr3 (vcmp v w) (vcmp w x) (vcmp v x) := by
  intro v
  refine val_ind (P := fun v => ∀ w x, Tr3 (vcmp v w) (vcmp w x) (vcmp v x)) (fun v ih w x => ?_) v
  rw [vcmp_key v w, vcmp_key w x, vcmp_key v x]
  refine or2_tr (icmp_tr _ _ _) (or2_tr (or2_tr (icmp_tr _ _ _) (cb_tr _ _ _)) ?_)
  have key : ∀ (l m p : List ApiField), (∀ f ∈ l, ∀ w x, Tr3 (vcmp f.Val w) (vcmp w x) (vcmp f.Val x)) → Tr3 (fcmp l m) (fcmp m p) (fcmp l p) := by
    intro l
    induction l with
    | nil => intro m p _; cases m <;> cases p <;> simp [fcmp, Tr3]
    | cons f l ihl =>
      intro m p h
      cases m with
      | nil => cases p <;> simp [fcmp, Tr3]
      | cons g m =>
        cases p with
        | nil => simp [fcmp, Tr3]
        | cons q p =>
          simp only [fcmp]
          refine or2_tr ?_ (ihl m p fun x hx => h x (by simp [hx]))
          rw [gcmp_eq, gcmp_eq, gcmp_eq]
          exact or2_tr (cb_tr _ _ _) (h f (by simp) _ _)
  exact key _ _ _ ih
theorem vcmp_refl (v : ApiValue) : vcmp v v = 0 := by have := vcmp_anti v v; omega

/-! ### The program's comparison -/
theorem compare_ok (n : Nat) (x y : Int) : cmp_Compare_int n x y = some (icmp x y) := by
  rw [cmp_Compare_int_eq, cmp_isNaN_int_eq, cmp_isNaN_int_eq]
  simp only [Option.bind_some, decide_true, Bool.not_true, cond_false]
  unfold icmp
  cases decide (x < y) <;> cases decide (x > y) <;> rfl
theorem or2_opt (a b : Int) : (bif !decide (a = 0) then some a else some b) = some (or2 a b) := by
  unfold or2
  cases decide (a = 0) <;> rfl
theorem or_ok (n : Nat) : ∀ l : List Int, l.length < n → l.length < 9223372036854775807 → cmp_Or_int n l = some (l.foldr or2 0) := by
  intro l hn hl
  rw [cmp_Or_int_eq]
  have := cmp_Or_int_l0_fold n 0 l hl n 0 (by omega) (by omega)
  rw [show ((0 : Nat) : Int) = 0 from rfl] at this
  rw [this, List.drop_zero]
  have key : ∀ (l : List Int) (i : Nat), foldK (S := Unit) (fun i (a : Int) s K => (bif (!decide (a = 0)) then (some a) else (K ()))) (fun s => (some (0 : Int))) l i () = some (l.foldr or2 0) := by
    intro l
    induction l with
    | nil => intro i; rfl
    | cons a l ih =>
      intro i
      rw [foldK_cons]
      dsimp only
      rw [ih, List.foldr_cons]
      exact or2_opt _ _
  exact key l 0
theorem or2_zero (a : Int) : or2 a 0 = a := by rcases or2_val a 0 with ⟨_, e⟩ | ⟨h, e⟩ <;> omega
theorem bind_ret {α : Type} (o : Option α) : (o.bind fun r => some r) = o := by cases o <;> rfl
theorem vcmp_ok (n : Nat) (hn3 : 3 < n) : ∀ (k : Nat) (v w : ApiValue) (d : Nat), vw v ≤ k → 3 * vw v ≤ d → vw v < n → vw v < 9223372036854775807 → value_Cmp d n v w = some (vcmp v w)
  | 0, v, w, d, h, _, _, _ => by have := vw_eq v; omega
  | k + 1, v, w, d, h, hd, hn, hm => by
    have hl := (vw_len v).1
    have hv0 := vw_eq v
    obtain ⟨d, rfl⟩ : ∃ e, d = e + 3 := ⟨d - 3, by omega⟩
    have hfun : slices_CompareFunc_Field_by_value_Cmp_1 (d + 2) n v.Fields w.Fields () = some (fcmp v.Fields w.Fields) := by
      rw [slices_CompareFunc_Field_by_value_Cmp_1_eq]
      have := slices_CompareFunc_Field_by_value_Cmp_1_l0_fold (d + 1) n v.Fields w.Fields v.Fields (by omega) n 0 (by omega) (by omega)
      rw [show ((0 : Nat) : Int) = 0 from rfl] at this
      rw [this]
      have key : ∀ (c i : Nat), c = v.Fields.length - i → i ≤ v.Fields.length → i ≤ w.Fields.length ∨ True → foldK (S := Unit) (fun i (a : ApiField) s K => (bif (decide ((i : Int) ≥ (List.length w.Fields : Int))) then (some 1) else (bif (decide (0 ≤ (i : Int)) && decide ((i : Int) < List.length w.Fields)) then (Option.bind (value_Cmp_1 (d + 1) n a (List.getD w.Fields (Int.toNat (i : Int)) (ApiField.mk [] (ApiValue.mk 0 0 [] [])))) fun r1 => (bif (!decide (r1 = 0)) then (some r1) else (K ()))) else none))) (fun s => (bif (decide ((List.length v.Fields : Int) < (List.length w.Fields : Int))) then (some (-1)) else (some 0))) (List.drop i v.Fields) i () = some (fcmp (v.Fields.drop i) (w.Fields.drop i)) := by
        intro c
        induction c with
        | zero =>
          intro i hc hi _
          rw [List.drop_eq_nil_of_le (by omega : v.Fields.length ≤ i), foldK_nil]
          by_cases h1 : v.Fields.length < w.Fields.length
          · rw [decide_eq_true (by omega), List.drop_eq_getElem_cons (by omega : i < w.Fields.length)]
            rfl
          · rw [decide_eq_false (by omega), List.drop_eq_nil_of_le (by omega : w.Fields.length ≤ i)]
            rfl
        | succ c ih =>
          intro i hc hi _
          have hlt : i < v.Fields.length := by omega
          rw [List.drop_eq_getElem_cons hlt, foldK_cons]
          by_cases h1 : i < w.Fields.length
          · rw [decide_eq_false (by omega), inR h1, cond_false, cond_true, show Int.toNat (i : Int) = i from rfl, getD_lt _ h1, List.drop_eq_getElem_cons h1, value_Cmp_1_eq]
            have hv := vw_lt (List.getElem_mem hlt)
            rw [vcmp_ok n hn3 k _ _ d (by omega) (by omega) (by omega) (by omega), Option.bind_some, or_ok n _ (by simp; omega) (by simp), Option.bind_some, Option.bind_some]
            dsimp only
            rw [ih (i + 1) (by omega) (by omega) (.inr trivial)]
            simp only [fcmp, List.foldr_cons, List.foldr_nil, or2_zero]
            rw [← gcmp_eq]
            exact or2_opt _ _
          · rw [decide_eq_true (by omega), List.drop_eq_nil_of_le (by omega : w.Fields.length ≤ i)]
            rfl
      exact key _ 0 rfl (Nat.zero_le _) (.inr trivial)
    rw [value_Cmp_eq, hfun, vcmp_eq, value_order_eq, value_order_eq]
    have e1 : ∀ x : Int, (bif (decide (x < 0)) then (some (IntKind.wrap .i64 ((-1 : Int) - (Fv.bits .and .i64 x 9223372036854775807)))) else (some x)) = some (ordF x) := fun x => by
      unfold ordF; cases decide (x < 0) <;> rfl
    rw [e1, e1]
    simp only [compare_ok, Option.bind_some]
    rw [or_ok n _ (by simp; omega) (by simp), or_ok n _ (by simp; omega) (by simp)]
    simp only [Option.bind_some, List.foldr_cons, List.foldr_nil, or2_zero]
    cases decide (v.Kind = 3) <;> exact or2_opt _ _

/-! ### Records, read both ways -/
theorem two_same {A S R : Type} (stepA stepB : Nat → A → S → (S → Option R) → Option R) (fin : S → Option R) (I : Nat → S → Prop) (Q : R → Prop) (N : Nat) (hf : ∀ s, I N s → ∃ r, fin s = some r ∧ Q r) :
    ∀ (l : List A) (i : Nat) (s : S), i + l.length = N → I i s → (∀ a ∈ l, ∀ i s, i < N → I i s → (∃ r, Q r ∧ ∀ K, stepA i a s K = some r ∧ stepB i a s K = some r) ∨ ∃ s', I (i + 1) s' ∧ ∀ K, stepA i a s K = K s' ∧ stepB i a s K = K s') →
    ∃ r, Q r ∧ foldK stepA fin l i s = some r ∧ foldK stepB fin l i s = some r
  | [], i, s, hN, hI, _ => by
    have : i = N := by simpa using hN
    subst this
    obtain ⟨r, h1, h2⟩ := hf s hI
    exact ⟨r, h2, h1, h1⟩
  | a :: l, i, s, hN, hI, h => by
    rw [foldK_cons, foldK_cons]
    rcases h a (by simp) i s (by simp at hN; omega) hI with ⟨r, h1, h2⟩ | ⟨s', h1, h2⟩
    · exact ⟨r, h1, (h2 _).1, (h2 _).2⟩
    · rw [(h2 _).1, (h2 _).2]
      exact two_same stepA stepB fin I Q N hf l (i + 1) s' (by simp at hN; omega) h1 fun b hb => h b (by simp [hb])
theorem fw_le (B : Nat) : ∀ (l : List ApiField), (∀ x ∈ l, gw x ≤ B) → fw l ≤ l.length * B
  | [], _ => by simp [fw]
  | x :: l, h => by
    have h1 := h x (by simp)
    have h2 := fw_le B l fun y hy => h y (by simp [hy])
    show gw x + fw l ≤ (l.length + 1) * B
    rw [Nat.add_mul]
    omega
theorem ints_byts (l : List Int) (h : ∀ c ∈ l, 0 ≤ c ∧ c < 256) : ints (byts l) = l := by
  induction l with
  | nil => rfl
  | cons c r ih =>
    have hc := h c (by simp)
    show ((UInt8.ofNat (Int.toNat c)).toNat : Int) :: ints (byts r) = c :: r
    rw [ih fun x hx => h x (by simp [hx]), UInt8.toNat_ofNat']
    congr 1
    omega
def GdF (x : ApiField) : Prop := x.Name.length ≤ 1048576 ∧ x.Val.Fields = [] ∧ x.Val.S.length ≤ 400
theorem gd_gw {x : ApiField} (h : GdF x) : gw x ≤ 1049000 := by
  obtain ⟨h1, h2, h3⟩ := h
  rw [gw_eq, vw_eq, h2]
  simp only [fw]
  omega
theorem read_two (n : Nat) (hn : 5000 < n) (l : List FixedField) (b : List Int) (hl : l.length ≤ 24) (hb : ∀ c ∈ b, 0 ≤ c ∧ c < 256)
    (hf : ∀ f ∈ l, Rg f ∧ (f.Kind = 0 ∨ f.Kind = 1 ∨ f.Kind = 2) ∧ (f.Kind ≠ 0 → 1 ≤ digE f ∧ digE f ≤ 15) ∧ (0 ≤ f.Pad ∧ f.Pad < 256) ∧ f.Name.length ≤ 1048576 ∧ endF f ≤ (b.length : Int)) :
    ∃ r : ApiValue × Int × Int, vw r.1 ≤ 30000000 ∧ fixed_Read_l0 n n b l (l.length : Int) 0 (ApiValue.mk 0 0 [] []) 6 0 [] [] = some r ∧ ref2_Unrecorded_l0 n n b l (l.length : Int) 0 (ApiValue.mk 0 0 [] []) 6 0 [] [] = some r := by
  have e1 := fixed_Read_l0_fold n b l (ApiValue.mk 0 0 [] []) 6 0 [] [] (by omega) n 0 (Nat.zero_le _) (by omega)
  have e2 := ref2_Unrecorded_l0_fold n b l (ApiValue.mk 0 0 [] []) 6 0 [] [] (by omega) n 0 (Nat.zero_le _) (by omega)
  rw [show ((0 : Nat) : Int) = 0 from rfl, List.drop_zero] at e1 e2
  rw [e1, e2]
  refine two_same _ _ _ (fun i (s : List ApiField) => s.length ≤ i ∧ ∀ x ∈ s, GdF x) (fun r : ApiValue × Int × Int => vw r.1 ≤ 30000000) l.length ?_ l 0 [] (Nat.zero_add _) ⟨Nat.le_refl _, fun x hx => absurd hx List.not_mem_nil⟩ ?_
  · rintro s ⟨h1, h3⟩
    refine ⟨_, rfl, ?_⟩
    have := fw_le 1049000 s fun x hx => gd_gw (h3 x hx)
    have h4 : s.length * 1049000 ≤ 24 * 1049000 := Nat.mul_le_mul_right _ (by omega)
    rw [vw_eq]
    show fw s + 0 + 1 ≤ _
    omega
  · rintro f hfm i s hil ⟨h1, h3⟩
    obtain ⟨hr, hk, hd, hp, hnm, hw⟩ := hf f hfm
    have hrg := hr
    unfold Rg at hrg
    unfold endF at hw
    obtain ⟨p, hpA⟩ : ∃ p : Nat, f.At = (p : Int) := ⟨f.At.toNat, by omega⟩
    obtain ⟨k, hkW⟩ : ∃ k : Nat, f.Wide = (k : Int) := ⟨f.Wide.toNat, by omega⟩
    have hpk : IntKind.wrap .i64 (f.At + f.Wide) = ((p + k : Nat) : Int) := by rw [hpA, hkW, w64 (by omega) (by omega)]; omega
    have hcond : (decide (0 ≤ f.At) && decide (f.At ≤ IntKind.wrap .i64 (f.At + f.Wide)) && decide (IntKind.wrap .i64 (f.At + f.Wide) ≤ (b.length : Int))) = true := by
      rw [hpk, hpA, d0, dle, dle, dT (by omega), dT (by omega)]
      rfl
    obtain ⟨y, hy⟩ : ∃ y, List.drop (Int.toNat f.At) (List.take (Int.toNat (IntKind.wrap .i64 (f.At + f.Wide))) b) = y := ⟨_, rfl⟩
    have hyl : y.length = k := by
      rw [← hy, hpk, hpA, Int.toNat_natCast, Int.toNat_natCast, List.length_drop, List.length_take]
      omega
    have hyb : ints (byts y) = y := ints_byts y fun c hc => hb c (by
      rw [← hy] at hc
      exact List.mem_of_mem_take (List.mem_of_mem_drop hc))
    have hbl : (byts y).length = y.length := List.length_map _
    obtain ⟨v, w, o, q1, q2, q3⟩ := field_two n hn f hr hk hd hp (byts y) (by rw [hbl, hyl]; exact hkW.symm)
    rw [hyb] at q1
    have hap : ∀ u : ApiValue, decide (List.length s + List.length [(ApiField.mk f.Name u)] ≤ 4294967296) = true := fun u => dT (by simp; omega)
    simp only [hcond, cond_true, hy, q1, q2, bind_some2, decide_true, Bool.true_and, hap]
    cases o with
    | false =>
      refine .inl ⟨(ApiValue.mk 0 0 [] [], (i : Int), 14), by simp [vw, fw], fun K => ⟨rfl, rfl⟩⟩
    | true =>
      obtain ⟨rfl, g1, g2⟩ := q3 rfl
      · refine .inr ⟨s ++ [ApiField.mk f.Name v], ⟨by simp; omega, ?_⟩, fun K => ?_⟩
        · intro x hx
          rcases List.mem_append.1 hx with hx | hx
          · exact h3 x hx
          · rw [List.mem_singleton.1 hx]
            exact ⟨hnm, g1, g2⟩
        · exact ⟨rfl, rfl⟩
theorem vsame_ok2 (n : Nat) (v : ApiValue) (hn : 3 * vw v < n) (h3 : 3 < n) (hm : vw v < 4294967296) : value_Same n v v = some true := by
  rw [value_Same_eq, vcmp_ok n h3 _ v v n (Nat.le_refl _) (by omega) (by omega) (by omega), bind_some2, vcmp_refl]
  rfl

/-! ### The law -/
theorem law_ok (x0 : List FixedField) (x1 : List Int) (h0 : ∀ g, Fv.Good E g (.sl (.nm 0)) x0) (h1 : ∀ g, Fv.Good E g (.sl (.int .u8)) x1)
    (hb : ∀ g, Bulk E g (.sl (.nm 0)) x0 + Bulk E g (.sl (.int .u8)) x1 ≤ 1048576) : ∃ n, law2_FixedReads n x0 x1 = some true := by
  have bn : ∀ s ∈ x0, s.Name.length ≤ 1048576 := by
    intro s hs
    have h := hb 1
    have hm : Bulk E 1 (.nm 0) s ≤ (List.map (Bulk E 1 (.nm 0)) x0).sum := mem_sum (List.mem_map.2 ⟨s, hs, rfl⟩)
    have h5 : Bulk E 1 (.sl (.nm 0)) x0 = (List.map (Bulk E 1 (.nm 0)) x0).sum + 1 := rfl
    have h6 : Bulk E 1 (.nm 0) s = (s.Name.length + 1) + (1 + (1 + (1 + (1 + (1 + 1))))) := rfl
    omega
  have hp : ∀ f ∈ x0, 0 ≤ f.Pad ∧ f.Pad < 256 := by
    intro f hf
    have h := (h0 1).2 f hf
    have h : (Lit.int .u8 f.Pad).wf = true := h.2.2.2.2.1
    simp [Lit.wf, IntKind.min, IntKind.max, IntKind.signed, IntKind.bits] at h
    omega
  have hc : ∀ c ∈ x1, 0 ≤ c ∧ c < 256 := by
    intro c hc
    have h : (Lit.int .u8 c).wf = true := (h1 1).2 c hc
    simp [Lit.wf, IntKind.min, IntKind.max, IntKind.signed, IntKind.bits] at h
    omega
  obtain ⟨n, hn⟩ : ∃ p : Nat, 1000000000 < p := ⟨_, Nat.lt_succ_self _⟩
  refine ⟨n, ?_⟩
  have hnm : ∀ f ∈ x0, value_Name n f.Name = some (nmB n f.Name) := fun f hf => by
    have := bn f hf
    exact name_ok n f.Name (by omega) (by omega)
  obtain ⟨e, c1, c2, c3⟩ := check_ok n (by omega) x0 (nmB n) hnm
  rw [law2_FixedReads_eq]
  have fin : ∀ r : ApiValue × Int × Int, vw r.1 ≤ 30000000 → fixed_Read n x0 x1 = some r → ref2_Unrecorded n x0 x1 = some r →
      (Option.bind (fixed_Read n x0 x1) fun r1 => (Option.bind (ref2_Unrecorded n x0 x1) fun r2 => (Option.bind (law2_widths n) fun r3 => (bif r3 then (bif (decide (r1.2.2 = r2.2.2)) then (bif (decide (r1.2.1 = r2.2.1)) then (Option.bind (value_Same n r1.1 r2.1) fun r4 => (some r4)) else (some false)) else (some false)) else (some false))))) = some true := by
    intro r h1 h2 h3
    rw [h2, bind_some2, h3, bind_some2, widths_ok, bind_some2, cond_true, dT rfl, cond_true, dT rfl, cond_true, vsame_ok2 n r.1 (by omega) (by omega) (by omega)]
    rfl
  have hz : vw (ApiValue.mk 0 0 [] []) ≤ 30000000 := by simp [vw, fw]
  by_cases he : e = 0
  · subst he
    obtain ⟨hl, ho⟩ := check_one n (by omega) x0 (nmB n) hnm c2
    have hwide := wide_ok n x0 (by omega) (by omega)
    have hbr := breadth_ok n x0 (by omega) (by omega)
    by_cases hx : (x1.length : Int) = mxL x0
    · obtain ⟨r, k1, k2, k3⟩ := read_two n (by omega) x0 x1 hl hc fun f hf => ⟨oneE_rg (ho f hf), (fieldD (ho f hf)).1, (fieldD (ho f hf)).2, hp f hf, bn f hf, by rw [hx]; exact (mxL_spec x0 0 (fun g hg => oneE_rg (ho g hg))).1 f hf⟩
      refine fin r k1 ?_ ?_
      · rw [fixed_Read_eq, c2, bind_some2, dT rfl, Bool.not_true, cond_false, hwide, bind_some2, dT hx, Bool.not_true, cond_false]
        exact k2
      · rw [ref2_Unrecorded_eq, c1, bind_some2, dT rfl, Bool.not_true, cond_false, hbr, bind_some2, dT hx, Bool.not_true, cond_false]
        exact k3
    · refine fin (ApiValue.mk 0 0 [] [], 0, 13) hz ?_ ?_
      · rw [fixed_Read_eq, c2, bind_some2, dT rfl, Bool.not_true, cond_false, hwide, bind_some2, dF hx]
        rfl
      · rw [ref2_Unrecorded_eq, c1, bind_some2, dT rfl, Bool.not_true, cond_false, hbr, bind_some2, dF hx]
        rfl
  · refine fin (ApiValue.mk 0 0 [] [], 0, e) hz ?_ ?_
    · rw [fixed_Read_eq, c2, bind_some2, dF he]
      rfl
    · rw [ref2_Unrecorded_eq, c1, bind_some2, dF he]
      rfl
end Go.Proofs.YtoegcppcmgbkmaaGreatDoor.PFixedReads
