/- The plain law FixedChecks. No condition. -/
import Derived.Test.YtbmpjppfdeohnaaDoorFnFixedChecks
-- UPTO
set_option linter.unusedVariables false
set_option linter.unusedSimpArgs false
namespace Go.Proofs.YtbmpjppfdeohnaaDoor.PFixedChecks
open Go Go.Proofs Go.Proofs.YtbmpjppfdeohnaaDoor.Fv

/-! ### Names -/
theorem name_ex (n : Nat) (s : List UInt8) (hs : s.length < 9223372036854775807) (hn : s.length < n) : ∃ b, value_Name n s = some b := by
  rw [value_Name_eq]
  cases s with
  | nil => exact ⟨_, rfl⟩
  | cons c s =>
    have h0 : (0 : Int) < (((c :: s).length : Nat) : Int) := by simp only [List.length_cons]; omega
    have hl : (ints (c :: s)).length = (c :: s).length := by simp [ints]
    have hb : ∃ b, value_Name_l0 n n (ints (c :: s)) (List.length (ints (c :: s)) : Int) 0 = some b := by
      have h := value_Name_l0_fold n (ints (c :: s)) (by omega) n 0 (Nat.zero_le _) (by omega)
      rw [show ((0 : Nat) : Int) = 0 from rfl] at h
      rw [h]
      exact foldK_ex (fun _ => ⟨_, rfl⟩) _ _ _ fun i a s K _ hK => by repeat (first | exact hK _ | exact ⟨_, rfl⟩ | apply ex_cond)
    simp only [dT h0, d00, Bool.and_self, cond_true]
    repeat (first | exact hb | exact ⟨_, rfl⟩ | apply ex_cond)
noncomputable def nmB (n : Nat) (s : List UInt8) : Bool := (value_Name n s).getD false
theorem name_ok (n : Nat) (s : List UInt8) (hs : s.length < 9223372036854775807) (hn : s.length < n) : value_Name n s = some (nmB n s) := by
  obtain ⟨b, hb⟩ := name_ex n s hs hn
  unfold nmB
  rw [hb]
  rfl
/-! ### Places of digits, one field -/
def digE (f : FixedField) : Int := if f.Kind = 1 then (if f.Signed = true then IntKind.wrap .i64 (f.Wide - 1) else f.Wide) else if f.Kind = 2 then IntKind.wrap .i64 (IntKind.wrap .i64 ((2 : Int) * f.Wide) - 1) else 0
theorem digits_ok (n : Nat) (f : FixedField) : fixed_Digits n f = some (digE f) := by
  rw [fixed_Digits_eq]
  unfold digE
  by_cases h1 : f.Kind = 1
  · rw [dT h1, cond_true, if_pos h1]
    cases f.Signed <;> rfl
  · rw [dF h1, cond_false, if_neg h1]
    by_cases h2 : f.Kind = 2
    · rw [dT h2, cond_true, if_pos h2]
    · rw [dF h2, cond_false, if_neg h2]
theorem places_ok (n : Nat) (f : FixedField) : ref2_Places n f = some (digE f) := by
  rw [ref2_Places_eq]
  unfold digE
  by_cases h0 : f.Kind < 0
  · rw [dT h0, cond_true, if_neg (by omega), if_neg (by omega)]
  rw [dF h0, cond_false]
  by_cases h3 : f.Kind > 2
  · rw [dT h3, cond_true, if_neg (by omega), if_neg (by omega)]
  rw [dF h3, cond_false]
  have hk : f.Kind = 0 ∨ f.Kind = 1 ∨ f.Kind = 2 := by omega
  generalize f.Kind = k at hk
  rcases hk with rfl | rfl | rfl
  · cases f.Signed <;> rfl
  · cases f.Signed <;> rfl
  · cases f.Signed <;> rfl
def Rg (f : FixedField) : Prop := 0 ≤ f.At ∧ f.At ≤ 400 ∧ 1 ≤ f.Wide ∧ f.Wide ≤ 400 - f.At
instance (f : FixedField) : Decidable (Rg f) := by unfold Rg; infer_instance
def oneD (f : FixedField) : Int := if digE f < 1 then 11 else if digE f > 15 then 11 else if f.Scale < 0 then 11 else if f.Scale > digE f then 11 else 0
def oneE (nm : Bool) (f : FixedField) : Int := if nm = false then 15 else if f.Kind < 0 then 8 else if f.Kind > 2 then 8 else if ¬ Rg f then 11 else
  if f.Kind = 0 then (if f.Signed = true then 3 else if f.Scale ≠ 0 then 3 else 0) else (if f.Pad ≠ 0 then 3 else oneD f)
theorem oneD_ok (n : Nat) (f : FixedField) : (bif decide (digE f < 1) then (some 11 : Option Int) else (bif decide (digE f > 15) then some 11 else (bif decide (f.Scale < 0) then some 11 else (bif decide (f.Scale > digE f) then some 11 else some 0)))) = some (oneD f) := by
  unfold oneD
  simp only [cond_ite, decide_eq_true_eq]
  split
  · rfl
  split
  · rfl
  split
  · rfl
  split <;> rfl
theorem one_ok (n : Nat) (f : FixedField) (nm : Bool) (h : value_Name n f.Name = some nm) : fixed_one n f = some (oneE nm f) := by
  rw [fixed_one_eq, h, bind_some2]
  simp only [digits_ok, bind_some2, oneD_ok n]
  unfold oneE
  cases nm with
  | false => rfl
  | true =>
    rw [Bool.not_true, cond_false, if_neg (by simp)]
    by_cases h1 : f.Kind < 0
    · rw [dT h1, cond_true, if_pos h1]
    rw [dF h1, cond_false, if_neg h1]
    by_cases h2 : f.Kind > 2
    · rw [dT (show f.Kind ≥ 3 by omega), cond_true, if_pos h2]
    rw [dF (show ¬ f.Kind ≥ 3 by omega), cond_false, if_neg h2]
    by_cases hr : Rg f
    · have hr' := hr
      unfold Rg at hr'
      rw [dF (show ¬ f.At < 0 by omega), dF (show ¬ f.Wide < 1 by omega), dF (show ¬ f.At > 400 by omega), w64 (by omega) (by omega), dF (show ¬ f.Wide > 400 - f.At by omega), if_neg (not_not_intro hr)]
      simp only [cond_false]
      by_cases hk : f.Kind = 0
      · rw [if_pos hk]
        simp only [hk, decide_true, Bool.not_true, cond_true, cond_false]
        cases f.Signed with
        | true => rfl
        | false =>
          by_cases hs : f.Scale = 0
          · simp [hs]
          · simp [hs]
      · rw [if_neg hk]
        simp only [dF hk, Bool.not_false, cond_true, cond_false]
        by_cases hp : f.Pad = 0
        · simp [hp]
        · simp [hp]
    · rw [if_pos hr]
      unfold Rg at hr
      by_cases a1 : f.At < 0
      · rw [dT a1, cond_true]
      rw [dF a1, cond_false]
      by_cases a2 : f.Wide < 1
      · rw [dT a2, cond_true]
      rw [dF a2, cond_false]
      by_cases a3 : f.At > 400
      · rw [dT a3, cond_true]
      rw [dF a3, cond_false, w64 (by omega) (by omega), dT (show f.Wide > 400 - f.At by omega), cond_true]
theorem oneE_rg {nm : Bool} {f : FixedField} (h : oneE nm f = 0) : Rg f := by
  unfold oneE at h
  cases nm with
  | false => rw [if_pos rfl] at h; omega
  | true =>
    rw [if_neg (by simp)] at h
    split at h
    · omega
    split at h
    · omega
    split at h
    · omega
    · rename_i h1
      exact Decidable.not_not.1 h1

/-- One round of the other check. -/
theorem err_step (n m0 : Nat) (v : List FixedField) (i : Nat) (hi : i < v.length) (w19 : List (Int × Int)) (w20 : List (List UInt8 × Int)) (nm : Bool) (h : value_Name n v[i].Name = some nm) :
    ref2_FieldsErr_l0 n (m0 + 1) v v (v.length : Int) (i : Int) w19 w20 = if oneE nm v[i] = 0 then ref2_FieldsErr_l3 n m0 n v (i : Int) ((smget w20 v[i].Name).getD (v.length : Int)) (v.length : Int) v[i].At v (v.length : Int) (i : Int) v[i] w19 w20 else some (oneE nm v[i]) := by
  rw [ref2_FieldsErr_l0_eq, dlt, dT hi, d0, cond_true, Bool.true_and, cond_true, Int.toNat_natCast, getD_lt _ hi, h, bind_some2]
  generalize v[i] = f at h ⊢
  have hX : (bif (Option.isSome (mget E .str (.int .i64) w20 f.Name)) then (ref2_FieldsErr_l3 n m0 n v (i : Int) (mgetD E .str (.int .i64) w20 f.Name) (List.length v : Int) f.At v (List.length v : Int) (i : Int) f w19 w20) else (ref2_FieldsErr_l3 n m0 n v (i : Int) (List.length v : Int) (List.length v : Int) f.At v (List.length v : Int) (i : Int) f w19 w20)) = ref2_FieldsErr_l3 n m0 n v (i : Int) ((smget w20 f.Name).getD (v.length : Int)) (v.length : Int) f.At v (v.length : Int) (i : Int) f w19 w20 := by
    unfold mgetD
    rw [show mget E .str (.int .i64) w20 f.Name = smget w20 f.Name from rfl]
    cases smget w20 f.Name <;> rfl
  simp only [places_ok, bind_some2, hX]
  generalize ref2_FieldsErr_l3 n m0 n v (i : Int) ((smget w20 f.Name).getD (v.length : Int)) (v.length : Int) f.At v (v.length : Int) (i : Int) f w19 w20 = L
  unfold oneE
  cases nm with
  | false => rfl
  | true =>
    rw [Bool.not_true, cond_false, if_neg (show ¬ true = false by simp)]
    by_cases h1 : f.Kind < 0
    · rw [dT h1, cond_true, if_pos h1]; rfl
    rw [dF h1, cond_false, if_neg h1]
    by_cases h2 : f.Kind > 2
    · rw [dT h2, cond_true, if_pos h2]; rfl
    rw [dF h2, cond_false, if_neg h2]
    by_cases hr : Rg f
    · have hr' := hr
      unfold Rg at hr'
      rw [dF (show ¬ f.At < 0 by omega), dF (show ¬ f.At > 400 by omega), dF (show ¬ f.Wide < 1 by omega), dF (show ¬ f.Wide > 400 by omega), w64 (by omega) (by omega), dF (show ¬ f.At + f.Wide > 400 by omega), if_neg (not_not_intro hr)]
      simp only [cond_false]
      by_cases hk : f.Kind = 0
      · rw [if_pos hk]
        simp only [hk, decide_true, Bool.not_true, cond_true, cond_false]
        cases f.Signed with
        | true => rfl
        | false =>
          by_cases hs : f.Scale = 0
          · simp [hs]
          · simp [hs]
      · rw [if_neg hk]
        simp only [dF hk, Bool.not_false, cond_true, cond_false]
        by_cases hp : f.Pad = 0
        · rw [dT hp, if_neg (show ¬ f.Pad ≠ 0 from not_not_intro hp)]
          simp only [Bool.not_true, cond_false]
          unfold oneD
          by_cases b1 : digE f < 1
          · simp [b1]
          by_cases b2 : digE f > 15
          · simp [b1, b2]
          by_cases b3 : f.Scale < 0
          · simp [b1, b2, b3]
          by_cases b4 : f.Scale > digE f
          · simp [b1, b2, b3, b4]
          · rw [dF b1, dF b2, dF b3, dF b4, if_neg b1, if_neg b2, if_neg b3, if_neg b4, if_pos rfl]
            rfl
        · simp [hp]
    · rw [if_pos hr]
      unfold Rg at hr
      by_cases a1 : f.At < 0
      · rw [dT a1, cond_true]; rfl
      rw [dF a1, cond_false]
      by_cases a3 : f.At > 400
      · rw [dT a3, cond_true]; rfl
      rw [dF a3, cond_false]
      by_cases a2 : f.Wide < 1
      · rw [dT a2, cond_true]; rfl
      rw [dF a2, cond_false]
      by_cases a4 : f.Wide > 400
      · rw [dT a4, cond_true]; rfl
      rw [dF a4, cond_false, w64 (by omega) (by omega), dT (show f.At + f.Wide > 400 by omega), cond_true]; rfl
/-! ### Where the first is -/
def J {A : Type} (q : A → Bool) : List A → Nat → Option Int
  | [], _ => none
  | a :: r, i => if q a = true then some (i : Int) else J q r (i + 1)
theorem J_cons {A : Type} (q : A → Bool) (a : A) (r : List A) (i : Nat) : J q (a :: r) i = if q a = true then some (i : Int) else J q r (i + 1) := rfl
theorem J_bd {A : Type} (q : A → Bool) : ∀ (l : List A) (i : Nat) (z : Int), J q l i = some z → (i : Int) ≤ z ∧ z < (i + l.length : Nat)
  | [], _, _, h => by cases h
  | a :: r, i, z, h => by
    unfold J at h
    rw [List.length_cons]
    split at h
    · cases h; omega
    · have := J_bd q r (i + 1) z h; omega
theorem J_none {A : Type} {q : A → Bool} : ∀ {l : List A} {i : Nat}, J q l i = none ↔ ∀ a ∈ l, q a = false
  | [], _ => by simp [J]
  | a :: r, i => by
    unfold J
    cases h : q a with
    | true => simp [h]
    | false => simp [h, J_none (q := q) (l := r) (i := i + 1)]
theorem J_app {A : Type} (q : A → Bool) (f : A) : ∀ (l : List A) (i : Nat), J q (l ++ [f]) i = match J q l i with
    | some z => some z
    | none => if q f = true then some ((i + l.length : Nat) : Int) else none
  | [], i => by simp [J]
  | a :: r, i => by
    rw [List.cons_append]
    unfold J
    cases h : q a with
    | true => simp
    | false =>
      simp only [Bool.false_eq_true, if_false]
      rw [J_app q f r (i + 1), List.length_cons, show i + 1 + r.length = i + (r.length + 1) by omega]
theorem J_congr {A : Type} {q q' : A → Bool} : ∀ {l : List A} {i : Nat}, (∀ a ∈ l, q a = q' a) → J q l i = J q' l i
  | [], _, _ => rfl
  | a :: r, i, h => by
    unfold J
    rw [h a (by simp), J_congr (l := r) (i := i + 1) fun b hb => h b (by simp [hb])]
/-- The lesser of two. -/
def mnO : Option Int → Option Int → Option Int
  | some a, some b => some (if b < a then b else a)
  | some a, none => some a
  | none, x => x
theorem J_or {A : Type} (p q : A → Bool) : ∀ (l : List A) (i : Nat), J (fun a => p a || q a) l i = mnO (J p l i) (J q l i)
  | [], _ => rfl
  | a :: r, i => by
    have hp := fun z h => (J_bd p r (i + 1) z h).1
    have hq := fun z h => (J_bd q r (i + 1) z h).1
    unfold J
    cases h1 : p a with
    | true =>
      cases h2 : q a with
      | true => simp [mnO]
      | false =>
        simp only [Bool.true_or, if_true, Bool.false_eq_true, if_false]
        cases h3 : J q r (i + 1) with
        | none => rfl
        | some z =>
          have := hq z h3
          simp only [mnO]
          rw [if_neg (by omega)]
    | false =>
      cases h2 : q a with
      | true =>
        simp only [Bool.or_true, if_true, Bool.false_eq_true, if_false]
        cases h3 : J p r (i + 1) with
        | none => rfl
        | some z =>
          have := hp z h3
          simp only [mnO]
          rw [if_pos (by omega)]
      | false =>
        simp only [Bool.or_self, Bool.false_eq_true, if_false]
        exact J_or p q r (i + 1)
theorem mn_step {o c : Option Int} {L : Int} (h1 : ∀ z, o = some z → z < L) (h2 : ∀ z, c = some z → z < L) : (bif c.isSome then mnI (o.getD L) (c.getD 0) else o.getD L) = (mnO o c).getD L := by
  cases c with
  | none => cases o <;> rfl
  | some z =>
    have := h2 z rfl
    cases o with
    | none =>
      show mnI L z = z
      unfold mnI
      rw [dT this, cond_true]
    | some y =>
      show mnI y z = if z < y then z else y
      unfold mnI
      rw [cond_ite]
      simp

/-! ### Maps of numbers -/
def imset (x y : Int) : List (Int × Int) → List (Int × Int)
  | [] => [(x, y)]
  | p :: r => bif x == p.1 then (x, y) :: r else p :: imset x y r
def imget (w : List (Int × Int)) (s : Int) : Option Int := (w.find? fun p => s == p.1).map (·.2)
theorem imget_set (x y : Int) (s : Int) : ∀ (w : List (Int × Int)), imget (imset x y w) s = if s = x then some y else imget w s
  | [] => by
    unfold imget imset
    by_cases h : s = x
    · simp [h]
    · simp [h]
  | p :: w => by
    have ih := imget_set x y s w
    unfold imget at ih ⊢
    unfold imset
    by_cases h : x = p.1
    · rw [show (x == p.1) = true by simp [h], cond_true, List.find?_cons, List.find?_cons]
      by_cases hs : s = x
      · simp [hs]
      · rw [if_neg hs, show (s == (x, y).1) = false by simpa using hs, show (s == p.1) = false by rw [← h]; simpa using hs]
    · rw [show (x == p.1) = false by simpa using h, cond_false, List.find?_cons, List.find?_cons]
      by_cases hs : s = p.1
      · rw [show (s == p.1) = true by simpa using hs, if_neg (by rw [hs]; exact fun e => h e.symm)]
      · rw [show (s == p.1) = false by simpa using hs]
        exact ih
theorem mset_i (x y : Int) : ∀ (w : List (Int × Int)), mset E (.int .i64) (.int .i64) x y w = imset x y w
  | [] => rfl
  | p :: w => by
    show (bif x == p.1 then (x, y) :: w else p :: mset E (.int .i64) (.int .i64) x y w) = (bif x == p.1 then (x, y) :: w else p :: imset x y w)
    rw [mset_i x y w]
theorem mset_t (x : List UInt8) (y : Int) : ∀ (w : List (List UInt8 × Int)), mset E .str (.int .i64) x y w = smset x y w
  | [] => rfl
  | p :: w => by
    show (bif x == p.1 then (x, y) :: w else p :: mset E .str (.int .i64) x y w) = (bif x == p.1 then (x, y) :: w else p :: smset x y w)
    rw [mset_t x y w]

/-! ### Rounds -/
def cov (b : Int) (g : FixedField) : Bool := decide (g.At ≤ b) && decide (b < g.At + g.Wide)
def ovr (f g : FixedField) : Bool := decide (f.At < g.At + g.Wide) && decide (g.At < f.At + f.Wide)
def ovB (lo b : Int) (g : FixedField) : Bool := decide (lo < b) && (decide (g.At < b) && decide (lo < g.At + g.Wide))
theorem ovB_succ {lo b : Int} {g : FixedField} (hw : 1 ≤ g.Wide) (h : lo ≤ b) : ovB lo (b + 1) g = (ovB lo b g || cov b g) := by
  rw [Bool.eq_iff_iff]
  unfold ovB cov
  simp only [Bool.and_eq_true, Bool.or_eq_true, decide_eq_true_eq]
  omega
theorem l3_loop (n m0 : Nat) (v : List FixedField) (v5 v8 : Int) (v22 v23 : Int) (f : FixedField) (hf : Rg f) (w19 : List (Int × Int)) (w20 : List (List UInt8 × Int)) (p : List FixedField) (hp : ∀ g ∈ p, Rg g) (hpl : p.length ≤ v.length)
    (h19 : ∀ b : Int, imget w19 b = J (cov b) p 0) : ∀ (m : Nat) (b : Int), f.At ≤ b → b ≤ f.At + f.Wide → f.At + f.Wide - b < (m : Int) →
    ∃ m', ref2_FieldsErr_l3 n m0 m v v5 v8 ((J (ovB f.At b) p 0).getD (v.length : Int)) b v v22 v23 f w19 w20 = ref2_FieldsErr_l3 n m0 (m' + 1) v v5 v8 ((J (ovr f) p 0).getD (v.length : Int)) (f.At + f.Wide) v v22 v23 f w19 w20 := by
  have hf' := hf
  unfold Rg at hf'
  intro m
  induction m with
  | zero => intro b h1 h2 h3; exfalso; omega
  | succ m ih =>
    intro b h1 h2 h3
    by_cases hb : b < f.At + f.Wide
    · obtain ⟨m', h⟩ := ih (b + 1) (by omega) (by omega) (by omega)
      refine ⟨m', ?_⟩
      rw [← h, ref2_FieldsErr_l3_eq, w64 (x := f.At + f.Wide) (by omega) (by omega), dT hb, cond_true, w64 (x := b + 1) (by omega) (by omega)]
      have e : (J (ovB f.At (b + 1)) p 0) = mnO (J (ovB f.At b) p 0) (J (cov b) p 0) := by
        rw [← J_or]
        exact J_congr fun g hg => ovB_succ (by have := hp g hg; unfold Rg at this; omega) h1
      rw [e, ← mn_step (L := (v.length : Int)) (fun z hz => by have := J_bd _ _ _ _ hz; omega) (fun z hz => by have := J_bd _ _ _ _ hz; omega), ← h19 b]
      unfold mgetD
      rw [show mget E (.int .i64) (.int .i64) w19 b = imget w19 b from rfl]
      cases imget w19 b <;> rfl
    · refine ⟨m, ?_⟩
      have hb : b = f.At + f.Wide := by omega
      rw [hb]
      have e : J (ovB f.At (f.At + f.Wide)) p 0 = J (ovr f) p 0 := J_congr fun g hg => by
        rw [Bool.eq_iff_iff]
        unfold ovB ovr
        simp only [Bool.and_eq_true, decide_eq_true_eq]
        have := hp g hg
        unfold Rg at this
        omega
      rw [e]
theorem l5_loop (n m0 : Nat) (v : List FixedField) (v5 : Int) (v22 v23 : Int) (f : FixedField) (hf : Rg f) (w20 : List (List UInt8 × Int)) : ∀ (m : Nat) (b : Int) (w19 : List (Int × Int)), f.At ≤ b → b ≤ f.At + f.Wide → f.At + f.Wide - b < (m : Int) →
    ∃ w' : List (Int × Int), (∀ s : Int, imget w' s = if b ≤ s ∧ s < f.At + f.Wide then some v5 else imget w19 s) ∧ ref2_FieldsErr_l5 n m0 m v v5 b v v22 v23 f w19 w20 = ref2_FieldsErr_l0 n m0 v v v22 (IntKind.wrap .i64 (v23 + 1)) w' w20 := by
  have hf' := hf
  unfold Rg at hf'
  intro m
  induction m with
  | zero => intro b w19 h1 h2 h3; exfalso; omega
  | succ m ih =>
    intro b w19 h1 h2 h3
    rw [ref2_FieldsErr_l5_eq, w64 (x := f.At + f.Wide) (by omega) (by omega)]
    by_cases hb : b < f.At + f.Wide
    · rw [dT hb, cond_true, w64 (x := b + 1) (by omega) (by omega), mset_i]
      obtain ⟨w', h4, h5⟩ := ih (b + 1) (imset b v5 w19) (by omega) (by omega) (by omega)
      refine ⟨w', fun s => ?_, h5⟩
      rw [h4 s, imget_set]
      by_cases hs : s = b
      · rw [if_pos hs, if_pos (show b ≤ s ∧ s < f.At + f.Wide by omega)]
        split <;> rfl
      · rw [if_neg hs]
        by_cases hs2 : b ≤ s ∧ s < f.At + f.Wide
        · rw [if_pos hs2, if_pos (by omega)]
        · rw [if_neg hs2, if_neg (by omega)]
    · rw [dF hb, cond_false]
      exact ⟨w19, fun s => by rw [if_neg (by omega)], rfl⟩
/-- What two fields are to each other. -/
def prE (f : FixedField) (p : List FixedField) : Int := match J (fun g => g.Name == f.Name) p 0, J (ovr f) p 0 with
  | some a, some c => if a ≤ c then 5 else 17
  | some _, none => 5
  | none, some _ => 17
  | none, none => 0
theorem pr_loop (f : FixedField) (K : Option Int) (step : Nat → FixedField → Unit → (Unit → Option Int) → Option Int) : ∀ (p : List FixedField) (i : Nat), (∀ i g s k, g ∈ p → step i g s k = bif g.Name == f.Name then some 5 else bif ovr f g then some 17 else k ()) →
    foldK step (fun _ => K) p i () = match J (fun g => g.Name == f.Name) p i, J (ovr f) p i with
      | some a, some c => some (if a ≤ c then 5 else 17)
      | some _, none => some 5
      | none, some _ => some 17
      | none, none => K
  | [], i, _ => rfl
  | g :: p, i, h => by
    rw [foldK_cons, h i g _ _ (by simp), pr_loop f K step p (i + 1) fun i g s k hg => h i g s k (by simp [hg])]
    have hp := fun z h => (J_bd (fun g : FixedField => g.Name == f.Name) p (i + 1) z h).1
    have hq := fun z h => (J_bd (ovr f) p (i + 1) z h).1
    rw [J_cons, J_cons]
    cases h1 : g.Name == f.Name with
    | true =>
      simp only [cond_true, if_true]
      cases h2 : ovr f g with
      | true => simp
      | false =>
        simp only [Bool.false_eq_true, if_false]
        cases h3 : J (ovr f) p (i + 1) with
        | none => rfl
        | some z =>
          have := hq z h3
          simp only []
          rw [if_pos (by omega)]
    | false =>
      simp only [cond_false, Bool.false_eq_true, if_false]
      cases h2 : ovr f g with
      | true =>
        simp only [cond_true, if_true]
        cases h3 : J (fun g => g.Name == f.Name) p (i + 1) with
        | none => rfl
        | some z =>
          have := hp z h3
          simp only []
          rw [if_neg (by omega)]
      | false => simp only [cond_false, Bool.false_eq_true, if_false]

/-- Fields that are in order. -/
def V (l : List FixedField) : Prop := (∀ f ∈ l, Rg f) ∧ l.Pairwise fun g f => ovr f g = false
theorem ovr_comm (f g : FixedField) : ovr f g = ovr g f := by unfold ovr; rw [Bool.and_comm]
theorem V_app {p : List FixedField} {f : FixedField} (hp : V p) (hf : Rg f) (h : ∀ g ∈ p, ovr f g = false) : V (p ++ [f]) := by
  refine ⟨fun g hg => ?_, List.pairwise_append.2 ⟨hp.2, List.pairwise_singleton _ _, fun a ha b hb => ?_⟩⟩
  · rcases List.mem_append.1 hg with hg | hg
    · exact hp.1 g hg
    · rw [List.mem_singleton.1 hg]; exact hf
  · rw [List.mem_singleton.1 hb]
    exact h a ha
theorem both (n : Nat) (hn : 1000 < n) (v : List FixedField) (hv : v.length ≤ 24) (nm : List UInt8 → Bool) (hnm : ∀ f ∈ v, value_Name n f.Name = some (nm f.Name)) :
    ∀ (r p : List FixedField) (w19 : List (Int × Int)) (w20 : List (List UInt8 × Int)) (m m' : Nat), v = p ++ r → V p → (∀ b : Int, imget w19 b = J (cov b) p 0) → (∀ s : List UInt8, smget w20 s = J (fun g => g.Name == s) p 0) → r.length < m → r.length < m' →
      ∃ e, ref2_FieldsErr_l0 n m v v (v.length : Int) (p.length : Int) w19 w20 = some e ∧ fixed_Check_l0 n m' v v (v.length : Int) (p.length : Int) = some e ∧ (e = 0 → V v) := by
  intro r
  induction r with
  | nil =>
    intro p w19 w20 m m' hpr hp h19 h20 hm hm'
    have hpr : v = p := by simpa using hpr
    obtain ⟨m, rfl⟩ : ∃ k, m = k + 1 := ⟨m - 1, by simp only [List.length_nil] at hm; omega⟩
    obtain ⟨m', rfl⟩ : ∃ k, m' = k + 1 := ⟨m' - 1, by simp only [List.length_nil] at hm'; omega⟩
    refine ⟨0, ?_, ?_, fun _ => hpr ▸ hp⟩
    · rw [ref2_FieldsErr_l0_eq, dlt, dF (by rw [hpr]; omega), cond_false]
    · rw [fixed_Check_l0_eq, dlt, dF (by rw [hpr]; omega), cond_false]
  | cons f r ih =>
    intro p w19 w20 m m' hpr hp h19 h20 hm hm'
    rw [List.length_cons] at hm hm'
    obtain ⟨m, rfl⟩ : ∃ k, m = k + 1 := ⟨m - 1, by omega⟩
    obtain ⟨m', rfl⟩ : ∃ k, m' = k + 1 := ⟨m' - 1, by omega⟩
    have hl : v.length = p.length + (r.length + 1) := by rw [hpr, List.length_append, List.length_cons]
    have hi : p.length < v.length := by omega
    have hvi : v[p.length] = f := by simp [hpr]
    have hnf := hnm f (by rw [hpr]; simp)
    have htk : List.take p.length v = p := by rw [hpr]; simp
    rw [err_step n m v p.length hi w19 w20 (nm f.Name) (by rw [hvi]; exact hnf), hvi, fixed_Check_l0_eq, dlt, dT hi, d0, cond_true, Bool.true_and, cond_true, Int.toNat_natCast, getD_lt _ hi, hvi, one_ok n f _ hnf, bind_some2, dle, dT (Nat.le_of_lt hi), Bool.and_self, cond_true, htk]
    by_cases ho : oneE (nm f.Name) f = 0
    · have hrf := oneE_rg ho
      have hrf' := hrf
      unfold Rg at hrf'
      rw [if_pos ho, dT ho, Bool.not_true, cond_false]
      have hfold := fixed_Check_l2_fold n m' v v (v.length : Int) (p.length : Int) p f (by omega) n 0 (Nat.zero_le _) (by omega)
      rw [show ((0 : Nat) : Int) = 0 from rfl, List.drop_zero, pr_loop f (fixed_Check_l0 n m' v v (List.length v) (IntKind.wrap .i64 ((p.length : Int) + 1))) _ p 0 ?_] at hfold
      · rw [hfold, h20]
        obtain ⟨m2, h3⟩ := l3_loop n m v (p.length : Int) ((J (fun g => g.Name == f.Name) p 0).getD (v.length : Int)) (v.length : Int) (p.length : Int) f hrf w19 w20 p hp.1 (by omega) h19 n f.At (by omega) (by omega) (by omega)
        rw [show (J (ovB f.At f.At) p 0) = none from J_none.2 fun g _ => by unfold ovB; rw [dF (by omega), Bool.false_and]] at h3
        rw [show (Option.none (α := Int)).getD (v.length : Int) = (v.length : Int) from rfl] at h3
        rw [h3, ref2_FieldsErr_l3_eq, w64 (x := f.At + f.Wide) (by omega) (by omega), dF (show ¬ f.At + f.Wide < f.At + f.Wide by omega), cond_false]
        have b1 := fun z h => J_bd (fun g : FixedField => g.Name == f.Name) p 0 z h
        have b2 := fun z h => J_bd (ovr f) p 0 z h
        cases h1 : J (fun g => g.Name == f.Name) p 0 with
        | some a =>
          have := b1 a h1
          simp only [Option.getD_some]
          rw [dT (show a < (v.length : Int) by omega), cond_true]
          cases h2 : J (ovr f) p 0 with
          | some c =>
            have := b2 c h2
            simp only [Option.getD_some]
            by_cases hac : a ≤ c
            · rw [dT hac, cond_true, if_pos hac]
              exact ⟨5, rfl, rfl, fun h => absurd h (by decide)⟩
            · rw [dF hac, cond_false, dT (show c < (v.length : Int) by omega), cond_true, if_neg hac]
              exact ⟨17, rfl, rfl, fun h => absurd h (by decide)⟩
          | none =>
            simp only [Option.getD_none]
            rw [dT (show a ≤ (v.length : Int) by omega), cond_true]
            exact ⟨5, rfl, rfl, fun h => absurd h (by decide)⟩
        | none =>
          simp only [Option.getD_none]
          rw [dF (show ¬ (v.length : Int) < (v.length : Int) by omega), cond_false]
          cases h2 : J (ovr f) p 0 with
          | some c =>
            have := b2 c h2
            simp only [Option.getD_some]
            rw [dT (show c < (v.length : Int) by omega), cond_true]
            exact ⟨17, rfl, rfl, fun h => absurd h (by decide)⟩
          | none =>
            simp only [Option.getD_none]
            rw [dF (show ¬ (v.length : Int) < (v.length : Int) by omega), cond_false, mset_t]
            obtain ⟨w', h4, h5⟩ := l5_loop n m v (p.length : Int) (v.length : Int) (p.length : Int) f hrf (smset f.Name (p.length : Int) w20) n f.At w19 (by omega) (by omega) (by omega)
            rw [h5, i64_succ (by omega)]
            have e1 : p.length + 1 = (p ++ [f]).length := by simp
            rw [e1]
            refine ih (p ++ [f]) w' _ m m' (by rw [hpr]; simp) (V_app hp hrf (J_none.1 h2)) (fun b => ?_) (fun s => ?_) (by omega) (by omega)
            · rw [h4 b, h19 b, J_app]
              have hc : cov b f = decide (f.At ≤ b ∧ b < f.At + f.Wide) := by
                unfold cov
                rw [Bool.eq_iff_iff]
                simp
              by_cases hb : f.At ≤ b ∧ b < f.At + f.Wide
              · rw [if_pos hb, show J (cov b) p 0 = none from J_none.2 fun g hg => by
                  have := J_none.1 h2 g hg
                  have hg := hp.1 g hg
                  unfold ovr at this
                  unfold Rg at hg
                  unfold cov
                  rw [Bool.and_eq_false_iff, decide_eq_false_iff_not, decide_eq_false_iff_not] at this ⊢
                  omega, hc, dT hb]
                simp
              · rw [if_neg hb, hc, dF hb]
                cases J (cov b) p 0 <;> rfl
            · rw [smget_set, J_app, h20]
              by_cases hs : s = f.Name
              · rw [if_pos hs, hs, h1]
                simp
              · rw [if_neg hs]
                cases J (fun g => g.Name == s) p 0 with
                | some z => rfl
                | none =>
                  have hne : ¬ (f.Name == s) = true := fun e => hs (beq_iff_eq.1 e).symm
                  show none = if (f.Name == s) = true then _ else none
                  rw [if_neg hne]
      · intro i g s k hg
        have hg := hp.1 g hg
        unfold Rg at hg
        rw [w64 (x := g.At + g.Wide) (by omega) (by omega), w64 (x := f.At + f.Wide) (by omega) (by omega)]
        unfold ovr
        cases g.Name == f.Name with
        | true => rfl
        | false =>
          rw [cond_false, cond_false]
          cases decide (f.At < g.At + g.Wide) <;> cases decide (g.At < f.At + f.Wide) <;> rfl
    · rw [if_neg ho, dF ho, Bool.not_false, cond_true]
      exact ⟨_, rfl, rfl, fun h => absurd h ho⟩
theorem check_ok (n : Nat) (hn : 1000 < n) (v : List FixedField) (nm : List UInt8 → Bool) (hnm : ∀ f ∈ v, value_Name n f.Name = some (nm f.Name)) :
    ∃ e, ref2_FieldsErr n v = some e ∧ fixed_Check n v = some e ∧ (e = 0 → V v ∧ v.length ≤ 24) := by
  rw [ref2_FieldsErr_eq, fixed_Check_eq]
  by_cases hv : v.length ≤ 24
  · rw [dF (show ¬ (v.length : Int) > 24 by omega), cond_false, cond_false]
    obtain ⟨e, h1, h2, h3⟩ := both n hn v hv nm hnm v [] [] [] n n rfl ⟨by simp, .nil⟩ (fun _ => rfl) (fun _ => rfl) (by omega) (by omega)
    exact ⟨e, h1, h2, fun h => ⟨h3 h, hv⟩⟩
  · rw [dT (show (v.length : Int) > 24 by omega), cond_true, cond_true]
    exact ⟨2, rfl, rfl, fun h => absurd h (by decide)⟩
/-! ### Sorting by an order -/
def Tr3 (x y z : Int) : Prop := (x ≤ 0 → y ≤ 0 → z ≤ 0) ∧ (x ≤ 0 → y ≤ 0 → z = 0 → x = 0 ∧ y = 0) ∧ (x = 0 → y = 0 → z = 0)
theorem sortO_ord {A : Type} (cmp : A → A → Option Int) (c : A → A → Int) (ha : ∀ a b, c b a = -c a b) (ht : ∀ a b d, Tr3 (c a b) (c b d) (c a d)) (xs : List A) (hl : xs.length < 4611686018427387904) (h : ∀ a ∈ xs, ∀ b ∈ xs, cmp a b = some (c a b)) :
    ∃ ys, sortO cmp xs = some ys ∧ ys.Perm xs ∧ ys.Pairwise fun a b => c a b ≤ 0 := by
  cases xs with
  | nil => exact ⟨[], rfl, .nil, .nil⟩
  | cons x t =>
    have hcf : ∀ i j : Fin (t.length + 1), cmp ((x :: t).get i) ((x :: t).get j) = some (cfOf cmp x t i j) ∧ cfOf cmp x t i j = c ((x :: t).get i) ((x :: t).get j) := by
      intro i j
      have h1 := h _ (List.get_mem (x :: t) i) _ (List.get_mem (x :: t) j)
      have e : cfOf cmp x t i j = c ((x :: t).get i) ((x :: t).get j) := by
        show (cmp ((x :: t).get i) ((x :: t).get j)).getD 0 = _
        rw [h1]
        rfl
      rw [e]
      exact ⟨h1, rfl⟩
    have hlt : ∀ i j : Fin (t.length + 1), ltI (cfOf cmp x t) i j = decide (c ((x :: t).get i) ((x :: t).get j) < 0) := by
      intro i j
      show decide (cfOf cmp x t i j < 0) = _
      rw [(hcf i j).2]
    have hswo : Go.Sort.SWO (ltI (cfOf cmp x t)) := by
      refine ⟨fun i => ?_, fun i j k h1 h2 => ?_, fun i j k h1 h2 => ?_⟩
      · rw [hlt]
        have := ha ((x :: t).get i) ((x :: t).get i)
        exact decide_eq_false (by omega)
      · rw [hlt] at h1 h2 ⊢
        have h1 := of_decide_eq_true h1
        have h2 := of_decide_eq_true h2
        obtain ⟨t1, t2, _⟩ := ht ((x :: t).get i) ((x :: t).get j) ((x :: t).get k)
        have t1 := t1 (by omega) (by omega)
        have t2 := t2 (by omega) (by omega)
        exact decide_eq_true (by omega)
      · rw [hlt] at h1 h2 ⊢
        have h1 := of_decide_eq_false h1
        have h2 := of_decide_eq_false h2
        obtain ⟨t1, t2, _⟩ := ht ((x :: t).get k) ((x :: t).get j) ((x :: t).get i)
        have a1 := ha ((x :: t).get i) ((x :: t).get j)
        have a2 := ha ((x :: t).get j) ((x :: t).get k)
        have a3 := ha ((x :: t).get i) ((x :: t).get k)
        have t1 := t1 (by omega) (by omega)
        exact decide_eq_false (by omega)
    obtain ⟨p1, p2, p3⟩ := swo_pdq hswo
    refine ⟨(pdqL (cfOf cmp x t)).map fun i => (x :: t).get i, ?_, ?_, ?_⟩
    · rw [sortO, if_pos ⟨by simpa using hl, fun i j => by rw [(hcf i j).1]; rfl, hswo⟩]
    · have e : (List.ofFn (n := t.length + 1) id).map (fun i => (x :: t).get i) = x :: t := by
        apply List.ext_getElem
        · simp
        · intro i h1 h2
          simp only [List.getElem_map, List.getElem_ofFn, id, List.get_eq_getElem]
      have := p1.map fun i => (x :: t).get i
      rwa [e] at this
    · rw [List.pairwise_map, List.pairwise_iff_getElem]
      intro i j hi hj hij
      have := p3 i j hi hj hij
      rw [hlt] at this
      have := of_decide_eq_false this
      have a1 := ha ((x :: t).get (pdqL (cfOf cmp x t))[i]) ((x :: t).get (pdqL (cfOf cmp x t))[j])
      omega
/-! ### Bytes that no field has -/
theorem fcmp_sort (n : Nat) (l : List FixedField) (hl : l.length ≤ 1000) (hr : ∀ f ∈ l, Rg f) : ∃ ys, sortO (fun a b => Option.bind (fixed_Free_1 n a b) fun r => some r) l = some ys ∧ ys.Perm l ∧ ys.Pairwise fun a b => a.At ≤ b.At := by
  obtain ⟨ys, h1, h2, h3⟩ := sortO_ord (fun a b => Option.bind (fixed_Free_1 n a b) fun r => some r) (fun a b : FixedField => a.At - b.At) (fun a b => by omega) (fun a b d => ⟨fun _ _ => by omega, fun _ _ _ => by omega, fun _ _ => by omega⟩) l (by omega) fun a ha b hb => by
    have ha := hr a ha
    have hb := hr b hb
    unfold Rg at ha hb
    show Option.bind (fixed_Free_1 n a b) (fun r => some r) = _
    rw [fixed_Free_1_eq, bind_some2, w64 (by omega) (by omega)]
  exact ⟨ys, h1, h2, h3.imp fun h => by omega⟩
def endF (f : FixedField) : Int := f.At + f.Wide
def So : Int → List FixedField → Prop
  | _, [] => True
  | a, f :: r => a ≤ f.At ∧ Rg f ∧ So (endF f) r
theorem So_of : ∀ (ys : List FixedField) (a : Int), (∀ f ∈ ys, Rg f) → (∀ f ∈ ys, a ≤ f.At) → (ys.Pairwise fun a b => endF a ≤ b.At) → So a ys
  | [], _, _, _, _ => trivial
  | f :: r, a, h1, h2, h3 => ⟨h2 f (by simp), h1 f (by simp), So_of r (endF f) (fun g hg => h1 g (by simp [hg])) (List.pairwise_cons.1 h3).1 (List.pairwise_cons.1 h3).2⟩
theorem So_cov : ∀ {ys : List FixedField} {a b : Int}, So a ys → b < a → ys.any (cov b) = false
  | [], _, _, _, _ => rfl
  | f :: r, a, b, ⟨h1, h2, h3⟩, hb => by
    unfold Rg at h2
    rw [List.any_cons, So_cov h3 (by unfold endF; omega)]
    unfold cov
    rw [dF (by omega)]
    rfl
def goF : Int → List FixedField → List (List Int) → List (List Int)
  | _, [], o => o
  | a, f :: r, o => goF (endF f) r (if a < f.At then o ++ [[a, f.At]] else o)
def goB (b : Int) : Int → List FixedField → List (List Int) → List (List Int)
  | a, [], o => if a < b then o ++ [[a, b]] else o
  | a, f :: r, o => if b ≤ f.At then (if a < b then o ++ [[a, b]] else o) else goB b (endF f) r (if a < f.At then o ++ [[a, f.At]] else o)
def endO : Int → List FixedField → Int
  | a, [] => a
  | _, f :: r => endO (endF f) r
theorem goB_low : ∀ {ys : List FixedField} {a b : Int} {o : List (List Int)}, So a ys → b ≤ a → goB b a ys o = o
  | [], a, b, o, _, h => by
    unfold goB
    rw [if_neg (by omega)]
  | f :: r, a, b, o, ⟨h1, _, _⟩, h => by
    unfold goB
    rw [if_pos (by omega), if_neg (by omega)]
theorem endO_ge : ∀ {ys : List FixedField} {a : Int}, So a ys → a ≤ endO a ys
  | [], _, _ => Int.le_refl _
  | f :: r, a, ⟨h1, h2, h3⟩ => by
    have := endO_ge h3
    unfold Rg at h2
    unfold endO
    unfold endF at this ⊢
    omega
theorem endO_mem : ∀ {ys : List FixedField} {a : Int}, So a ys → (∀ f ∈ ys, endF f ≤ endO a ys) ∧ (endO a ys = a ∨ ∃ f ∈ ys, endO a ys = endF f)
  | [], _, _ => ⟨by simp, .inl rfl⟩
  | f :: r, a, ⟨h1, h2, h3⟩ => by
    obtain ⟨i1, i2⟩ := endO_mem h3
    refine ⟨fun g hg => ?_, .inr ?_⟩
    · rcases List.mem_cons.1 hg with rfl | hg
      · exact endO_ge h3
      · exact i1 g hg
    · rcases i2 with h | ⟨g, hg, h⟩
      · exact ⟨f, by simp, h⟩
      · exact ⟨g, by simp [hg], h⟩
theorem goB_end : ∀ {ys : List FixedField} {a : Int} {o : List (List Int)}, So a ys → goB (endO a ys) a ys o = goF a ys o
  | [], a, o, _ => by
    unfold goB goF endO
    rw [if_neg (by omega)]
  | f :: r, a, o, ⟨h1, h2, h3⟩ => by
    have h := endO_ge h3
    unfold Rg at h2
    show (if endO (endF f) r ≤ f.At then _ else goB (endO (endF f) r) (endF f) r _) = goF (endF f) r _
    rw [if_neg (by unfold endF at h ⊢; omega), goB_end h3]
theorem goB_len (b : Int) : ∀ (ys : List FixedField) (a : Int) (o : List (List Int)), (goB b a ys o).length ≤ o.length + ys.length + 1
  | [], a, o => by
    unfold goB
    split <;> simp
  | f :: r, a, o => by
    unfold goB
    rw [List.length_cons]
    have h := goB_len b r (endF f) (if a < f.At then o ++ [[a, f.At]] else o)
    split
    · split
      · simp
      · omega
    · split at h
      · rw [if_pos (by assumption)]
        rw [List.length_append, List.length_singleton] at h
        omega
      · rw [if_neg (by assumption)]
        omega
/-- One byte more that no field has. -/
def GG (L L' : List (List Int)) (b : Int) : Prop := (L = [] ∧ L' = [[b, b + 1]]) ∨ ∃ o x y, L = o ++ [[x, y]] ∧ ((y = b ∧ L' = o ++ [[x, b + 1]]) ∨ (y ≠ b ∧ L' = L ++ [[b, b + 1]]))
theorem GG_put {a b : Int} {o : List (List Int)} (h : a ≤ b) (hl : o = [] ∨ ∃ o' x y, o = o' ++ [[x, y]] ∧ y < a) : GG (if a < b then o ++ [[a, b]] else o) (if a < b + 1 then o ++ [[a, b + 1]] else o) b := by
  rw [if_pos (show a < b + 1 by omega)]
  by_cases hab : a < b
  · rw [if_pos hab]
    exact .inr ⟨o, a, b, rfl, .inl ⟨rfl, rfl⟩⟩
  · rw [if_neg hab]
    have : a = b := by omega
    subst this
    rcases hl with rfl | ⟨o', x, y, rfl, hy⟩
    · exact .inl ⟨rfl, rfl⟩
    · exact .inr ⟨o', x, y, rfl, .inr ⟨by omega, rfl⟩⟩
theorem goB_step : ∀ {ys : List FixedField} {a b : Int} {o : List (List Int)}, So a ys → a ≤ b → (o = [] ∨ ∃ o' x y, o = o' ++ [[x, y]] ∧ y < a) →
    if ys.any (cov b) = true then goB (b + 1) a ys o = goB b a ys o else GG (goB b a ys o) (goB (b + 1) a ys o) b
  | [], a, b, o, _, h, hl => GG_put h hl
  | f :: r, a, b, o, ⟨h1, h2, h3⟩, h, hl => by
    have h2' := h2
    unfold Rg at h2'
    have h5 := fun (h : b < endF f) => So_cov (b := b) h3 h
    rw [List.any_cons]
    by_cases c1 : b < f.At
    · rw [show cov b f = false by unfold cov; rw [dF (by omega)]; rfl, h5 (by unfold endF; omega)]
      unfold goB
      rw [if_pos (show b ≤ f.At by omega), if_pos (show b + 1 ≤ f.At by omega)]
      exact GG_put h hl
    by_cases c2 : b < endF f
    · rw [show cov b f = true by unfold cov endF at *; rw [dT (by omega), dT c2]; rfl, Bool.true_or, if_pos rfl]
      unfold goB
      rw [if_neg (show ¬ b + 1 ≤ f.At by omega), goB_low h3 (by omega)]
      by_cases c3 : b ≤ f.At
      · have e : b = f.At := by omega
        rw [if_pos c3, e]
      · rw [if_neg c3, goB_low h3 (by omega)]
    · rw [show cov b f = false by unfold cov endF at *; rw [dF c2]; simp, Bool.false_or]
      unfold goB
      unfold endF at c2
      rw [if_neg (show ¬ b + 1 ≤ f.At by omega), if_neg (show ¬ b ≤ f.At by omega)]
      refine goB_step h3 (by unfold endF; omega) ?_
      by_cases c4 : a < f.At
      · rw [if_pos c4]
        exact .inr ⟨o, a, f.At, rfl, by unfold endF; omega⟩
      · rw [if_neg c4]
        rcases hl with hl | ⟨o', x, y, e, hy⟩
        · exact .inl hl
        · exact .inr ⟨o', x, y, e, by unfold endF; omega⟩
theorem So_sorted {l ys : List FixedField} (hV : V l) (hp : ys.Perm l) (hs : ys.Pairwise fun a b => a.At ≤ b.At) : So 0 ys := by
  have hr : ∀ f ∈ ys, Rg f := fun f hf => hV.1 f (hp.mem_iff.1 hf)
  refine So_of ys 0 hr (fun f hf => (hr f hf).1) ?_
  have h1 : l.Pairwise (fun g f => ovr g f = false) := hV.2.imp fun {a b} h => by first | exact h | exact (ovr_comm _ _).trans h
  have h2 := (List.Perm.pairwise_iff (R := fun g f => ovr g f = false) (fun {a b} h => (ovr_comm b a).trans h) hp).2 h1
  have h3 := List.pairwise_and_iff.2 ⟨hs, h2⟩
  refine h3.imp_of_mem fun {a b} ha hb h => ?_
  obtain ⟨h4, h5⟩ := h
  have ha := hr a ha
  have hb := hr b hb
  unfold ovr at h5
  unfold Rg at ha hb
  unfold endF
  rw [Bool.and_eq_false_iff, decide_eq_false_iff_not, decide_eq_false_iff_not] at h5
  omega
def mxL (l : List FixedField) : Int := l.foldl (fun s a => mxI s (IntKind.wrap .i64 (a.At + a.Wide))) 0
theorem wide_ok (n : Nat) (l : List FixedField) (hl : l.length < 4611686018427387904) (hn : l.length < n) : fixed_Wide n l = some (mxL l) := by
  have h := fixed_Wide_l0_fold n l 0 (by omega) n 0 (Nat.zero_le _) (by omega)
  rw [show ((0 : Nat) : Int) = 0 from rfl] at h
  rw [fixed_Wide_eq, h, List.drop_zero, foldK_all (fun s a => mxI s (IntKind.wrap .i64 (a.At + a.Wide))) l 0 0 fun i a s K _ => rfl]
  rfl
theorem breadth_ok (n : Nat) (l : List FixedField) (hl : l.length < 4611686018427387904) (hn : l.length < n) : ref2_Breadth n l = some (mxL l) := by
  have h := ref2_Breadth_l0_fold n l 0 (by omega) n 0 (Nat.zero_le _) (by omega)
  rw [show ((0 : Nat) : Int) = 0 from rfl] at h
  rw [ref2_Breadth_eq, h, List.drop_zero, foldK_all (fun s a => mxI s (IntKind.wrap .i64 (a.At + a.Wide))) l 0 0 fun i a s K _ => by
    show (bif _ then _ else _) = K (bif _ then _ else _)
    cases decide (IntKind.wrap .i64 (a.At + a.Wide) > s) <;> rfl]
  rfl
theorem mxL_spec : ∀ (l : List FixedField) (s : Int), (∀ f ∈ l, Rg f) → (∀ f ∈ l, endF f ≤ l.foldl (fun s a => mxI s (IntKind.wrap .i64 (a.At + a.Wide))) s) ∧ s ≤ l.foldl (fun s a => mxI s (IntKind.wrap .i64 (a.At + a.Wide))) s ∧
    (l.foldl (fun s a => mxI s (IntKind.wrap .i64 (a.At + a.Wide))) s = s ∨ ∃ f ∈ l, l.foldl (fun s a => mxI s (IntKind.wrap .i64 (a.At + a.Wide))) s = endF f)
  | [], s, _ => ⟨by simp, Int.le_refl _, .inl rfl⟩
  | f :: r, s, h => by
    have hf := h f (by simp)
    unfold Rg at hf
    obtain ⟨i1, i2, i3⟩ := mxL_spec r (mxI s (IntKind.wrap .i64 (f.At + f.Wide))) fun g hg => h g (by simp [hg])
    rw [List.foldl_cons]
    have e : (mxI s (IntKind.wrap .i64 (f.At + f.Wide)) = s ∧ endF f ≤ s) ∨ (mxI s (IntKind.wrap .i64 (f.At + f.Wide)) = endF f ∧ s ≤ endF f) := by
      rw [w64 (by omega) (by omega)]
      unfold mxI endF
      by_cases hc : f.At + f.Wide > s
      · rw [dT hc, cond_true]; exact .inr ⟨rfl, by omega⟩
      · rw [dF hc, cond_false]; exact .inl ⟨rfl, by omega⟩
    generalize List.foldl (fun s a => mxI s (IntKind.wrap .i64 (a.At + a.Wide))) (mxI s (IntKind.wrap .i64 (f.At + f.Wide))) r = z at i1 i2 i3 ⊢
    refine ⟨fun g hg => ?_, by omega, ?_⟩
    · rcases List.mem_cons.1 hg with rfl | hg
      · omega
      · exact i1 g hg
    · rcases i3 with h3 | ⟨g, hg, h3⟩
      · rcases e with ⟨e, _⟩ | ⟨e, _⟩
        · exact .inl (h3.trans e)
        · exact .inr ⟨f, by simp, h3.trans e⟩
      · exact .inr ⟨g, by simp [hg], h3⟩
theorem mxL_end {l ys : List FixedField} (hr : ∀ f ∈ l, Rg f) (hp : ys.Perm l) (hs : So 0 ys) : mxL l = endO 0 ys ∧ 0 ≤ mxL l ∧ mxL l ≤ 400 := by
  obtain ⟨i1, i2, i3⟩ := mxL_spec l 0 hr
  obtain ⟨j1, j2⟩ := endO_mem hs
  have j3 := endO_ge hs
  have he : ∀ f ∈ l, 1 ≤ endF f ∧ endF f ≤ 400 := fun f hf => by
    have := hr f hf
    unfold Rg at this
    unfold endF
    omega
  unfold mxL
  generalize List.foldl (fun s a => mxI s (IntKind.wrap .i64 (a.At + a.Wide))) 0 l = z at i1 i2 i3 ⊢
  generalize endO 0 ys = y at j1 j2 j3 ⊢
  have a1 : z = 0 ∨ (1 ≤ z ∧ z ≤ y ∧ z ≤ 400) := by
    rcases i3 with h | ⟨f, hf, h⟩
    · exact .inl h
    · have := he f hf
      have := j1 f (hp.mem_iff.2 hf)
      omega
  have a2 : y = 0 ∨ (1 ≤ y ∧ y ≤ z) := by
    rcases j2 with h | ⟨f, hf, h⟩
    · exact .inl h
    · have hf := hp.mem_iff.1 hf
      have := he f hf
      have := i1 f hf
      omega
  omega
theorem contains_ok (n : Nat) (l : List FixedField) (hr : ∀ f ∈ l, Rg f) (hl : l.length < 4611686018427387904) (hn : l.length < n) (b : Int) : slices_ContainsFunc_Field_by_ref2_Gaps_1 n l (b, ()) = some (l.any (cov b)) := by
  have h := slices_IndexFunc_Field_by_ref2_Gaps_1_l0_fold n l b (by omega) n 0 (Nat.zero_le _) (by omega)
  rw [show ((0 : Nat) : Int) = 0 from rfl] at h
  rw [slices_ContainsFunc_Field_by_ref2_Gaps_1_eq, slices_IndexFunc_Field_by_ref2_Gaps_1_eq, h, List.drop_zero, foldK_congr (step' := fun i a _ K => bif cov b a then some (i : Int) else K ()) (fin' := fun _ => some (-1)) (fun _ => rfl) l 0 () fun i a s K ha => ?_, foldK_idx]
  · rw [bind_some2, ← ixI_pos]
    unfold ixI
    cases List.findIdx? (cov b) l <;> simp
  · have ha := hr a ha
    unfold Rg at ha
    rw [ref2_Gaps_1_eq, w64 (by omega) (by omega)]
    unfold cov
    cases decide (a.At ≤ b) <;> rfl
theorem free_fold {step : Nat → FixedField → (List (List Int)) × Int → ((List (List Int)) × Int → Option (List (List Int) × Int)) → Option (List (List Int) × Int)} {fin : (List (List Int)) × Int → Option (List (List Int) × Int)}
    (hs : ∀ i f s K, Rg f → s.1.length ≤ 1000 → step i f s K = K (if s.2 < f.At then s.1 ++ [[s.2, f.At]] else s.1, endF f)) (hf : ∀ s, fin s = some (s.1, 0)) : ∀ (ys : List FixedField) (i : Nat) (o : List (List Int)) (a : Int), (∀ f ∈ ys, Rg f) → o.length + ys.length ≤ 1000 →
    foldK step fin ys i (o, a) = some (goF a ys o, 0)
  | [], i, o, a, _, _ => hf _
  | f :: r, i, o, a, hr, hl => by
    rw [List.length_cons] at hl
    rw [foldK_cons, hs i f (o, a) _ (hr f (by simp)) (by show o.length ≤ 1000; omega)]
    refine free_fold hs hf r (i + 1) _ _ (fun g hg => hr g (by simp [hg])) ?_
    show (if a < f.At then o ++ [[a, f.At]] else o).length + r.length ≤ 1000
    split
    · rw [List.length_append, List.length_singleton]; omega
    · omega
theorem free_ok (n : Nat) (l ys : List FixedField) (hl : l.length ≤ 24) (hn : 1000 < n) (hr : ∀ f ∈ l, Rg f) (hp : ys.Perm l) (hs : sortO (fun a b => Option.bind (fixed_Free_1 n a b) fun r => some r) l = some ys) (hc : fixed_Check n l = some 0) : fixed_Free n l = some (goF 0 ys [], 0) := by
  have hyl : ys.length = l.length := hp.length_eq
  have hcl : slices_Clone_Field_nn n l = some l := by
    rw [slices_Clone_Field_nn_eq, List.nil_append, List.length_nil, dT rfl, dT (by omega), dT rfl]
    rfl
  rw [fixed_Free_eq, hc, bind_some2, dT rfl, Bool.not_true, cond_false, hcl, bind_some2, List.take_length, hs, bind_some2]
  have hov : over l ys 0 = ys := by
    unfold over
    rw [List.take_zero, List.nil_append, Nat.zero_add, hyl, List.drop_length, List.append_nil]
  rw [hov, ← hyl]
  have h := fixed_Free_l0_fold n ys.length ys ys.length [] 0 (by omega) n 0 (Nat.zero_le _) (by omega)
  rw [show ((0 : Nat) : Int) = 0 from rfl] at h
  have e := foldN_row (S := List (List Int) × Int) ys (FixedField.mk [] 0 0 0 0 false 0) (fun i f s K => (bif (decide (f.At > s.2)) then (bif (decide ((List.length s.1) = List.length s.1) && decide (List.length s.1 + List.length ([[s.2, f.At]] : List (List Int)) ≤ 4294967296)) then (K ((s.1 ++ [[s.2, f.At]]), (IntKind.wrap .i64 (f.At + f.Wide)))) else none) else (K (s.1, (IntKind.wrap .i64 (f.At + f.Wide)))))) (fun s => (some (s.1, (0 : Int)))) ys.length 0 ([], 0) rfl
  rw [h]
  refine (Eq.trans ?_ e).trans ?_
  · rfl
  · rw [List.drop_zero]
    refine free_fold (fun i f s K hf hsl => ?_) (fun _ => rfl) ys 0 [] 0 (fun f hf => hr f (hp.mem_iff.1 hf)) (by rw [List.length_nil]; omega)
    unfold Rg at hf
    rw [w64 (by omega) (by omega), dT (show s.1.length = s.1.length from rfl), List.length_singleton, dT (show s.1.length + 1 ≤ 4294967296 by omega)]
    unfold endF
    by_cases hc : s.2 < f.At
    · rw [dT (show f.At > s.2 from hc), if_pos hc]; rfl
    · rw [dF (show ¬ f.At > s.2 from hc), if_neg hc]; rfl
/-! ### Counted loops by what stays true -/
theorem foldN_inv {S R : Type} {step : Nat → S → (S → Option R) → Option R} {fin : S → Option R} (I : Nat → S → Prop) (N : Nat) (h : ∀ i s, i < N → I i s → ∃ s', I (i + 1) s' ∧ ∀ K, step i s K = K s') : ∀ (c i : Nat) (s : S), c + i = N → I i s → ∃ s', I N s' ∧ foldN step fin c i s = fin s'
  | 0, i, s, hc, hi => ⟨s, by rw [← hc, Nat.zero_add]; exact hi, rfl⟩
  | c + 1, i, s, hc, hi => by
    obtain ⟨s1, h1, h2⟩ := h i s (by omega) hi
    obtain ⟨s2, h3, h4⟩ := foldN_inv I N h (fin := fin) c (i + 1) s1 (by omega) h1
    exact ⟨s2, h3, by rw [← h4]; exact h2 _⟩

theorem fold_use {S R : Type} {L : Option R} {step : Nat → S → (S → Option R) → Option R} {fin : S → Option R} {c i : Nat} {s : S} (hf : L = foldN step fin c i s) (I : Nat → S → Prop) (N : Nat) (hc : c + i = N) (hi : I i s)
    (h : ∀ i s, i < N → I i s → ∃ s', I (i + 1) s' ∧ ∀ K, step i s K = K s') : ∃ s', I N s' ∧ L = fin s' := by
  obtain ⟨s', h1, h2⟩ := foldN_inv (fin := fin) I N h c i s hc hi
  exact ⟨s', h1, by rw [hf, h2]⟩
/-! ### The other way: byte by byte -/
theorem gaps_ok (n : Nat) (l ys : List FixedField) (hl : l.length ≤ 24) (hn : 1000 < n) (hr : ∀ f ∈ l, Rg f) (hp : ys.Perm l) (hs : So 0 ys) : ref2_Gaps n l = some (goF 0 ys []) := by
  obtain ⟨m1, m2, m3⟩ := mxL_end hr hp hs
  have hyl : ys.length = l.length := hp.length_eq
  obtain ⟨N, hN⟩ : ∃ N : Nat, mxL l = (N : Int) := ⟨(mxL l).toNat, by omega⟩
  rw [ref2_Gaps_eq, breadth_ok n l (by omega) (by omega), bind_some2, hN]
  have hf := ref2_Gaps_l0_fold n l N 0 [] (by omega) n 0 (Nat.zero_le _) (by omega)
  rw [show ((0 : Nat) : Int) = 0 from rfl] at hf
  obtain ⟨s', h1, h2⟩ := fold_use hf (fun b s => s = ((goB (b : Int) 0 ys []).length, goB (b : Int) 0 ys [])) N (by omega) (by
    rw [show ((0 : Nat) : Int) = 0 from rfl, goB_low hs (by omega)]; rfl) fun b s hb hI => by
    subst hI
    have hstep := goB_step (b := (b : Int)) (o := []) hs (by omega) (.inl rfl)
    have hlen := goB_len (b : Int) ys 0 []
    rw [List.length_nil] at hlen
    have hany : ys.any (cov (b : Int)) = l.any (cov (b : Int)) := by
      rw [Bool.eq_iff_iff, List.any_eq_true, List.any_eq_true]
      exact ⟨fun ⟨x, h, h'⟩ => ⟨x, hp.mem_iff.1 h, h'⟩, fun ⟨x, h, h'⟩ => ⟨x, hp.mem_iff.2 h, h'⟩⟩
    refine ⟨_, rfl, fun K => ?_⟩
    rw [show ((b + 1 : Nat) : Int) = (b : Int) + 1 by omega]
    generalize goB (b : Int) 0 ys [] = L at hstep hlen ⊢
    generalize goB ((b : Int) + 1) 0 ys [] = L' at hstep ⊢
    have hw : IntKind.wrap .i64 ((b : Int) + 1) = (b : Int) + 1 := w64 (by omega) (by omega)
    simp only [contains_ok n l hr (by omega) (by omega), bind_some2, ← hany, hw]
    cases hc : ys.any (cov (b : Int)) with
    | true =>
      rw [hc, if_pos rfl] at hstep
      rw [hstep]
      rfl
    | false =>
      rw [hc, if_neg (by decide)] at hstep
      rw [cond_false]
      rcases hstep with ⟨rfl, rfl⟩ | ⟨o, x, y, rfl, h⟩
      · rfl
      · have e1 : (o ++ [[x, y]]).length = o.length + 1 := by simp
        rw [e1] at hlen ⊢
        have hw2 : IntKind.wrap .i64 (((o.length + 1 : Nat) : Int) - 1) = (o.length : Int) := i64_pred (by omega)
        have hg : List.getD (o ++ [[x, y]]) o.length (List.replicate 2 0) = [x, y] := by
          rw [getD_lt _ (by simp)]; simp
        simp only [hw2, Int.toNat_natCast, Nat.zero_add, hg]
        rw [dT (show ((o.length + 1 : Nat) : Int) > 0 by omega), cond_true, d0, dT (show (o.length : Int) < ((o.length + 1 : Nat) : Int) by omega), Bool.and_self, cond_true, dT (show o.length < o.length + 1 by omega), cond_true,
          show List.getD [x, y] 1 (0 : Int) = y from rfl]
        rcases h with ⟨hy, rfl⟩ | ⟨hy, rfl⟩
        · rw [hy, dT rfl, hw]
          have e2 : (o ++ [[x, (b : Int)]]).set o.length ([x, (b : Int)].set 1 ((b : Int) + 1)) = o ++ [[x, (b : Int) + 1]] := by simp
          have e3 : (o ++ [[x, (b : Int) + 1]]).length = o.length + 1 := by simp
          rw [e2, e3]
          rfl
        · rw [dF hy, cond_false, show decide True = true from rfl, show List.length [[(b : Int), (b : Int) + 1]] = 1 from rfl, dT (show o.length + 1 + 1 ≤ 4294967296 by omega)]
          rfl
  rw [h2, h1]
  show (bif decide (0 + (goB (N : Int) 0 ys []).length ≤ (goB (N : Int) 0 ys []).length) && true then some (List.take (goB (N : Int) 0 ys []).length (goB (N : Int) 0 ys [])) else none) = _
  rw [dT (by omega), Bool.and_self, cond_true, List.take_length, ← hN, m1, goB_end hs]
theorem equal_ok (n : Nat) (v : List (List Int)) (hv : v.length < 4611686018427387904) (hn : v.length < n) : slices_Equal_2int n v v = some true := by
  have h := slices_Equal_2int_l0_fold n v v (by omega) n 0 (Nat.zero_le _) (by omega)
  rw [show ((0 : Nat) : Int) = 0 from rfl] at h
  rw [slices_Equal_2int_eq, dT rfl, Bool.not_true, cond_false, h, List.drop_zero]
  have e : ∀ (r p : List (List Int)), v = p ++ r → foldK (S := Unit) (fun i (a : (List Int)) s K => (bif (decide (0 ≤ (i : Int)) && decide ((i : Int) < List.length v)) then (bif (!(a == (List.getD v (Int.toNat (i : Int)) (List.replicate 2 0)))) then (some false) else (K ())) else none)) (fun s => (some true)) r p.length () = some true := by
    intro r
    induction r with
    | nil => intro p _; rfl
    | cons a r ih =>
      intro p hp
      have hi : p.length < v.length := by rw [hp]; simp
      have ha : v[p.length] = a := by simp [hp]
      have h2 := ih (p ++ [a]) (by rw [hp]; simp)
      rw [foldK_cons, d0, dlt, dT hi, Bool.and_self, cond_true, Int.toNat_natCast, getD_lt _ hi, ha, beq_self_eq_true, Bool.not_true, cond_false]
      rw [show (p ++ [a]).length = p.length + 1 by simp] at h2
      exact h2
  exact e v [] rfl
/-! ### A number with a point -/
theorem dec_head : ∀ (u : Nat), ∀ c ∈ Go.Lib.decDigits u, c ≠ 45 := by
  intro u
  induction u using Nat.strongRecOn with
  | _ u ih =>
    intro c hc
    rw [Go.Lib.decDigits] at hc
    split at hc
    · rename_i h
      rw [List.mem_singleton.1 hc]
      have h10 : ∀ k : Fin 10, UInt8.ofNat (48 + k.val) ≠ 45 := by decide
      exact h10 ⟨u, h⟩
    · rename_i h
      rcases List.mem_append.1 hc with hc | hc
      · exact ih (u / 10) (by omega) c hc
      · rw [List.mem_singleton.1 hc]
        have h10 : ∀ k : Fin 10, UInt8.ofNat (48 + k.val) ≠ 45 := by decide
        exact h10 ⟨u % 10, by omega⟩
theorem trim_dec (u : Nat) : Go.Lib.trimPrefix (Go.Lib.decDigits u) [45] = Go.Lib.decDigits u := by
  have h := dec_head u
  unfold Go.Lib.trimPrefix Go.Lib.hasPrefix
  cases hd : Go.Lib.decDigits u with
  | nil => rfl
  | cons c r =>
    rw [hd] at h
    have := h c (by simp)
    rw [if_neg]
    simp only [List.isPrefixOf, Bool.and_true, beq_iff_eq]
    exact fun e => this e.symm
theorem trim_neg (s : List UInt8) : Go.Lib.trimPrefix (45 :: s) [45] = s := by
  unfold Go.Lib.trimPrefix Go.Lib.hasPrefix
  rw [if_pos (by simp [List.isPrefixOf])]
  rfl
theorem rep_zero : ∀ k : Nat, Go.Lib.repeatL [48] k = List.replicate k 48
  | 0 => rfl
  | k + 1 => by
    show [48] ++ Go.Lib.repeatL [48] k = _
    rw [rep_zero k]
    rfl
def padL (k : Nat) (d : List UInt8) : List UInt8 := List.replicate (k + 1 - d.length) 48 ++ d
def pntL (k : Nat) (t : List UInt8) : List UInt8 := if 0 < k then List.take (t.length - k) t ++ [46] ++ List.drop (t.length - k) t else t
def shE (z : Int) (k : Nat) : List UInt8 := if z < 0 then 45 :: pntL k (padL k (Go.Lib.decDigits z.natAbs)) else pntL k (padL k (Go.Lib.decDigits z.natAbs))
theorem padL_len (k : Nat) (d : List UInt8) : k + 1 ≤ (padL k d).length ∧ (padL k d).length ≤ k + 1 + d.length := by
  unfold padL
  rw [List.length_append, List.length_replicate]
  omega
theorem scale_nat (z : Int) : ∃ k : Nat, mxI (0 : Int) (mnI (15 : Int) z) = (k : Int) ∧ k ≤ 15 ∧ k = z.toNat.min 15 := by
  have e : mxI (0 : Int) (mnI (15 : Int) z) = (z.toNat.min 15 : Nat) := by
    unfold mxI mnI
    by_cases h : z < 15
    · rw [dT h, cond_true]
      by_cases h2 : z > 0
      · rw [dT h2, cond_true]
        have : z.toNat.min 15 = z.toNat := Nat.min_eq_left (by omega)
        rw [this]; omega
      · rw [dF h2, cond_false]
        have : z.toNat = 0 := by omega
        rw [this]; rfl
    · rw [dF h, cond_false, dT (by decide), cond_true]
      have : z.toNat.min 15 = 15 := Nat.min_eq_right (by omega)
      rw [this]; rfl
  exact ⟨_, e, Nat.min_le_right _ _, rfl⟩
theorem abs_ok {z : Int} (h1 : -9223372036854775808 ≤ z) (h2 : z < 9223372036854775808) : IntKind.wrap .u64 (mxI z (IntKind.wrap .i64 (0 - z))) = (z.natAbs : Int) ∧ z.natAbs ≤ 9223372036854775808 := by
  have wu : ∀ x : Int, IntKind.wrap .u64 x = x % 18446744073709551616 := fun x => by unfold IntKind.wrap; simp [IntKind.signed, IntKind.bits]
  rw [wu]
  by_cases hm : z = -9223372036854775808
  · subst hm
    exact ⟨by decide, by decide⟩
  · rw [w64 (by omega) (by omega)]
    unfold mxI
    by_cases h : 0 - z > z
    · rw [dT h, cond_true]; omega
    · rw [dF h, cond_false]; omega
theorem dec_len (z : Int) (h : z.natAbs ≤ 9223372036854775808) : 1 ≤ (Go.Lib.decDigits z.natAbs).length ∧ (Go.Lib.decDigits z.natAbs).length ≤ 20 := by
  rw [Go.Lib.decDigits_length]
  refine ⟨Go.Lib.nDigits_pos _, ?_⟩
  by_cases h0 : z.natAbs = 0
  · rw [h0, Go.Lib.nDigits_small (by decide)]; decide
  · obtain ⟨a, b⟩ := Go.Lib.numDigits_eq z.natAbs (by omega) (by omega)
    split at a <;> omega
/-- The point and the sign. -/
theorem tail_ok (z : Int) (k : Nat) (hk : k ≤ 15) (t : List UInt8) (ht : k + 1 ≤ t.length) (ht2 : t.length ≤ 1000) :
    (bif (decide ((k : Int) > 0)) then (bif (decide (0 ≤ (IntKind.wrap .i64 ((List.length t : Int) - (k : Int)))) && decide ((IntKind.wrap .i64 ((List.length t : Int) - (k : Int))) ≤ (List.length t))) then (bif (decide (List.length (List.take (Int.toNat (IntKind.wrap .i64 ((List.length t : Int) - (k : Int)))) t) + List.length [46] ≤ 4294967296)) then (bif (decide (0 ≤ (IntKind.wrap .i64 ((List.length t : Int) - (k : Int)))) && decide ((IntKind.wrap .i64 ((List.length t : Int) - (k : Int))) ≤ (List.length t))) then (bif (decide (List.length ((List.take (Int.toNat (IntKind.wrap .i64 ((List.length t : Int) - (k : Int)))) t) ++ [46]) + List.length (List.drop (Int.toNat (IntKind.wrap .i64 ((List.length t : Int) - (k : Int)))) t) ≤ 4294967296)) then (bif (decide (z < 0)) then (bif (decide (List.length ([45] : List UInt8) + List.length (((List.take (Int.toNat (IntKind.wrap .i64 ((List.length t : Int) - (k : Int)))) t) ++ [46]) ++ (List.drop (Int.toNat (IntKind.wrap .i64 ((List.length t : Int) - (k : Int)))) t)) ≤ 4294967296)) then (some (([45] : List UInt8) ++ (((List.take (Int.toNat (IntKind.wrap .i64 ((List.length t : Int) - (k : Int)))) t) ++ [46]) ++ (List.drop (Int.toNat (IntKind.wrap .i64 ((List.length t : Int) - (k : Int)))) t)))) else none) else (some (((List.take (Int.toNat (IntKind.wrap .i64 ((List.length t : Int) - (k : Int)))) t) ++ [46]) ++ (List.drop (Int.toNat (IntKind.wrap .i64 ((List.length t : Int) - (k : Int)))) t)))) else none) else none) else none) else none) else (bif (decide (z < 0)) then (bif (decide (List.length ([45] : List UInt8) + List.length t ≤ 4294967296)) then (some (([45] : List UInt8) ++ t)) else none) else (some t)))
      = some (if z < 0 then 45 :: pntL k t else pntL k t) := by
  have hw : IntKind.wrap .i64 ((List.length t : Int) - (k : Int)) = ((t.length - k : Nat) : Int) := by rw [w64 (by omega) (by omega)]; omega
  rw [hw, Int.toNat_natCast, d0, dle, dT (show t.length - k ≤ t.length by omega)]
  unfold pntL
  have l1 : List.length (List.take (t.length - k) t) + List.length [46] ≤ 4294967296 := by rw [List.length_take, List.length_singleton]; omega
  have l2 : (List.take (t.length - k) t ++ [46]).length + (List.drop (t.length - k) t).length ≤ 4294967296 := by rw [List.length_append, List.length_take, List.length_singleton, List.length_drop]; omega
  have l3 : [(45 : UInt8)].length + (List.take (t.length - k) t ++ [46] ++ List.drop (t.length - k) t).length ≤ 4294967296 := by rw [List.length_append, List.length_append, List.length_take, List.length_singleton, List.length_drop, List.length_singleton]; omega
  have l4 : [(45 : UInt8)].length + t.length ≤ 4294967296 := by rw [List.length_singleton]; omega
  rw [dT l1, dT l2, dT l3, dT l4]
  simp only [Bool.and_self, cond_true]
  by_cases hk0 : 0 < k
  · rw [dT (show (k : Int) > 0 by omega), if_pos hk0]
    by_cases hz : z < 0
    · rw [dT hz, if_pos hz]; rfl
    · rw [dF hz, if_neg hz]; rfl
  · rw [dF (show ¬ (k : Int) > 0 by omega), if_neg hk0]
    by_cases hz : z < 0
    · rw [dT hz, if_pos hz]; rfl
    · rw [dF hz, if_neg hz]; rfl
theorem shown_ok (n : Nat) (z s : Int) (h1 : -9223372036854775808 ≤ z) (h2 : z < 9223372036854775808) : fixed_Shown n z s = some (shE z (s.toNat.min 15)) := by
  obtain ⟨k, hk, hk15, e⟩ := scale_nat s
  obtain ⟨ha, hb⟩ := abs_ok h1 h2
  obtain ⟨d1, d2⟩ := dec_len z hb
  rw [← e, fixed_Shown_eq, hk, ha]
  have hf : fmtuO ((z.natAbs : Nat) : Int) 10 = some (Go.Lib.decDigits z.natAbs) := by
    unfold fmtuO u64R
    rw [d0, dT (by omega), dT rfl, Int.toNat_natCast]
    rfl
  rw [hf, bind_some2]
  unfold shE
  generalize Go.Lib.decDigits z.natAbs = d at d1 d2 ⊢
  have hpl := padL_len k d
  by_cases hd : d.length ≤ k
  · rw [dle, dT hd, cond_true]
    have hr : repO [48] (IntKind.wrap .i64 (IntKind.wrap .i64 ((k : Int) + 1) - (d.length : Int))) = some (List.replicate (k + 1 - d.length) 48) := by
      rw [w64 (x := (k : Int) + 1) (by omega) (by omega), w64 (by omega) (by omega)]
      unfold repO
      rw [dT (show (0 : Int) ≤ (k : Int) + 1 - (d.length : Int) by omega), dT (show (k : Int) + 1 - (d.length : Int) ≤ 4294967296 by omega), dT (show List.length [(48 : UInt8)] ≤ 32768 by decide), show ((k : Int) + 1 - (d.length : Int)).toNat = k + 1 - d.length by omega, rep_zero]
      rfl
    rw [hr, bind_some2, dT (show List.length (List.replicate (k + 1 - d.length) (48 : UInt8)) + d.length ≤ 4294967296 by rw [List.length_replicate]; omega), cond_true]
    have ht := tail_ok z k hk15 (padL k d) hpl.1 (by omega)
    unfold padL at ht ⊢
    exact ht
  · rw [dle, dF hd, cond_false]
    have hp : padL k d = d := by unfold padL; rw [show k + 1 - d.length = 0 by omega]; rfl
    rw [hp] at hpl ⊢
    exact tail_ok z k hk15 d hpl.1 (by omega)
theorem pt_loop (n : Nat) (z : Int) (k : Nat) (hk : k ≤ 15) : ∀ (m : Nat) (d : List UInt8), k + 1 - d.length < m → d.length ≤ 100 → ref2_Pointed10_l0 n m z (k : Int) d = some (if z < 0 then 45 :: pntL k (padL k d) else pntL k (padL k d)) := by
  intro m
  induction m with
  | zero => intro d h; omega
  | succ m ih =>
    intro d h hd
    have hw : IntKind.wrap .i64 ((k : Int) + 1) = ((k + 1 : Nat) : Int) := by rw [w64 (by omega) (by omega)]; omega
    rw [ref2_Pointed10_l0_eq, hw, dlt]
    by_cases hc : d.length < k + 1
    · rw [dT hc, cond_true, dT (show List.length [(48 : UInt8)] + d.length ≤ 4294967296 by rw [List.length_singleton]; omega), cond_true, ih _ (by simp; omega) (by simp; omega)]
      have : padL k ([48] ++ d) = padL k d := by
        unfold padL
        rw [List.length_append, List.length_singleton, show k + 1 - d.length = (k + 1 - (1 + d.length)) + 1 by omega, List.replicate_succ', List.append_assoc]
      rw [this]
    · rw [dF hc, cond_false]
      have hp : padL k d = d := by unfold padL; rw [show k + 1 - d.length = 0 by omega]; rfl
      rw [hp, ← tail_ok z k hk d (by omega) (by omega)]
      have hb : ∀ b : Bool, ref2_bit n b = some (if b = true then 1 else 0) := fun b => by rw [ref2_bit_eq]; cases b <;> rfl
      simp only [hb, bind_some2]
      by_cases hz : z < 0
      · rw [dT hz]
        simp only [if_true, cond_true]
        rfl
      · rw [dF hz]
        simp only [cond_false, Bool.false_eq_true, if_false]
        have h0 : repO ([45] : List UInt8) 0 = some [] := rfl
        simp only [h0, bind_some2, List.nil_append, List.length_nil, Nat.zero_add]
        have hw2 : IntKind.wrap .i64 ((List.length d : Int) - (k : Int)) = ((d.length - k : Nat) : Int) := by rw [w64 (by omega) (by omega)]; omega
        rw [hw2, Int.toNat_natCast]
        have l3 : (List.take (d.length - k) d ++ [46] ++ List.drop (d.length - k) d).length ≤ 4294967296 := by rw [List.length_append, List.length_append, List.length_take, List.length_singleton, List.length_drop]; omega
        rw [dT l3, dT (show d.length ≤ 4294967296 by omega)]
        rfl
theorem pointed_ok (n : Nat) (z s : Int) (h1 : -9223372036854775808 ≤ z) (h2 : z < 9223372036854775808) (hn : 100 < n) : ref2_Pointed10 n z s = some (shE z (s.toNat.min 15)) := by
  obtain ⟨k, hk, hk15, e⟩ := scale_nat s
  obtain ⟨ha, hb⟩ := abs_ok h1 h2
  obtain ⟨d1, d2⟩ := dec_len z hb
  rw [← e, ref2_Pointed10_eq, hk]
  have hi : itoaO z = some (Go.Lib.itoa z) := by
    unfold itoaO i64R
    rw [dT h1, dT (show z ≤ 9223372036854775807 by omega)]
    rfl
  have ht : Go.Lib.trimPrefix (Go.Lib.itoa z) [45] = Go.Lib.decDigits z.natAbs := by
    unfold Go.Lib.itoa
    by_cases hz : z < 0
    · rw [if_pos hz, trim_neg]
    · rw [if_neg hz, trim_dec, show z.toNat = z.natAbs by omega]
  rw [hi, bind_some2, ht, pt_loop n z k hk15 n _ (by omega) (by omega)]
  rfl
theorem widths_ok (n : Nat) : law2_widths n = some true := by
  have e1 : fixed_Shown n (-5) 2 = some [45, 48, 46, 48, 53] := by
    rw [shown_ok n (-5) 2 (by decide) (by decide)]
    unfold shE
    rw [if_pos (by decide), show (-5 : Int).natAbs = 5 from rfl, Go.Lib.decDigits_one (by decide)]
    rfl
  have e2 : fixed_Shown n 7 0 = some [55] := by
    rw [shown_ok n 7 0 (by decide) (by decide)]
    unfold shE
    rw [if_neg (by decide), show (7 : Int).natAbs = 7 from rfl, Go.Lib.decDigits_one (by decide)]
    rfl
  rw [law2_widths_eq, e1, bind_some2, e2, bind_some2]
  rfl
/-! ### The law -/
theorem digits_all (n : Nat) (v : List FixedField) (v7 : Int) (v8 : List (List Int)) (hl : v.length < 4611686018427387904) (hn : v.length < n) :
    law2_FixedChecks_l0 n n v v7 v8 v (v.length : Int) 0 = (bif (!decide (v7 = 0)) then (some (decide ((List.length v8 : Int) = 0))) else (Option.bind (ref2_Gaps n v) fun r11 => (Option.bind (slices_Equal_2int n v8 r11) fun r12 => (some r12)))) := by
  have h := law2_FixedChecks_l0_fold n v v7 v8 v (by omega) n 0 (Nat.zero_le _) (by omega)
  rw [show ((0 : Nat) : Int) = 0 from rfl] at h
  rw [h, List.drop_zero, foldK_all (fun s _ => s) v 0 () fun i a s K _ => by
    rw [digits_ok, bind_some2, places_ok, bind_some2, dT rfl]
    rfl]
theorem law_ok (x0 : List FixedField) (x1 : Int) (x2 : Int) (h0 : ∀ g, Fv.Good E g (.sl (.nm 0)) x0) (h1 : ∀ g, Fv.Good E g (.int .i64) x1) (h2 : ∀ g, Fv.Good E g (.int .i64) x2)
    (hb : ∀ g, Bulk E g (.sl (.nm 0)) x0 + Bulk E g (.int .i64) x1 + Bulk E g (.int .i64) x2 ≤ 1048576) : ∃ n, law2_FixedChecks n x0 x1 x2 = some true := by
  have bn : ∀ s ∈ x0, s.Name.length ≤ 1048576 := by
    intro s hs
    have h := hb 1
    have hm : Bulk E 1 (.nm 0) s ≤ (List.map (Bulk E 1 (.nm 0)) x0).sum := mem_sum (List.mem_map.2 ⟨s, hs, rfl⟩)
    have h5 : Bulk E 1 (.sl (.nm 0)) x0 = (List.map (Bulk E 1 (.nm 0)) x0).sum + 1 := rfl
    have h6 : Bulk E 1 (.nm 0) s = (s.Name.length + 1) + (1 + (1 + (1 + (1 + (1 + 1))))) := rfl
    omega
  have l0 : x0.length ≤ 1048576 := by
    have h := hb 1
    have h5 : Bulk E 1 (.sl (.nm 0)) x0 = (List.map (fun f : FixedField => Bulk E 1 (.nm 0) f) x0).sum + 1 := rfl
    have := sum_gm (fun f : FixedField => Bulk E 1 (.nm 0) f) x0 fun s _ => by
      have h6 : Bulk E 1 (.nm 0) s = (s.Name.length + 1) + (1 + (1 + (1 + (1 + (1 + 1))))) := rfl
      omega
    omega
  have hN : -9223372036854775808 ≤ x1 ∧ x1 < 9223372036854775808 := by
    have h : (Lit.int .i64 x1).wf = true := h1 0
    simp [Lit.wf, IntKind.min, IntKind.max, IntKind.signed, IntKind.bits] at h
    omega
  obtain ⟨n, hn⟩ : ∃ p : Nat, 10000000 < p := ⟨_, Nat.lt_succ_self _⟩
  refine ⟨n, ?_⟩
  obtain ⟨e, c1, c2, c3⟩ := check_ok n (by omega) x0 (nmB n) fun f hf => by
    have := bn f hf
    exact name_ok n f.Name (by omega) (by omega)
  have hfree : ∃ o, fixed_Free n x0 = some (o, e) ∧ (bif (!decide (e = 0)) then (some (decide ((List.length o : Int) = 0))) else (Option.bind (ref2_Gaps n x0) fun r11 => (Option.bind (slices_Equal_2int n o r11) fun r12 => (some r12)))) = some true := by
    by_cases he : e = 0
    · subst he
      obtain ⟨hV, h24⟩ := c3 rfl
      obtain ⟨ys, s1, s2, s3⟩ := fcmp_sort n x0 (by omega) hV.1
      have hso := So_sorted hV s2 s3
      refine ⟨_, free_ok n x0 ys h24 (by omega) hV.1 s2 s1 c2, ?_⟩
      have hgl : (goF 0 ys []).length ≤ 1000 := by
        have := goB_len (endO 0 ys) ys 0 []
        rw [goB_end hso, s2.length_eq, List.length_nil] at this
        omega
      rw [dT rfl, Bool.not_true, cond_false, gaps_ok n x0 ys h24 (by omega) hV.1 s2 hso, bind_some2, equal_ok n _ (by omega) (by omega)]
      rfl
    · refine ⟨[], ?_, ?_⟩
      · rw [fixed_Free_eq, c2, bind_some2, dF he]
        rfl
      · rw [dF he]
        rfl
  obtain ⟨o, f1, f2⟩ := hfree
  rw [law2_FixedChecks_eq, c1, bind_some2, f1, bind_some2, widths_ok, bind_some2, Bool.not_true, cond_false, c2, bind_some2, dT rfl, Bool.not_true, cond_false, shown_ok n x1 x2 hN.1 hN.2, bind_some2, pointed_ok n x1 x2 hN.1 hN.2 (by omega), bind_some2, beq_self_eq_true, Bool.not_true, cond_false,
    wide_ok n x0 (by omega) (by omega), bind_some2, breadth_ok n x0 (by omega) (by omega), bind_some2, dT rfl, Bool.not_true, cond_false, digits_all n x0 _ _ (by omega) (by omega)]
  exact f2
end Go.Proofs.YtbmpjppfdeohnaaDoor.PFixedChecks
