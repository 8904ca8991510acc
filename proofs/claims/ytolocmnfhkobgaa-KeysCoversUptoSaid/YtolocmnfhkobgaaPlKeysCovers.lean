/- The plain law KeysCovers. No condition. -/
import Derived.Test.YtolocmnfhkobgaaFnKeysCovers
-- UPTO
set_option linter.unusedVariables false
set_option linter.unusedSimpArgs false
namespace Go.Proofs.Ytolocmnfhkobgaa.PKeysCovers
open Go Go.Proofs Go.Proofs.Ytolocmnfhkobgaa.Fv

/-! ### Names, places, sets -/
theorem name_ex (n : Nat) (s : List UInt8) (hs : s.length < 9223372036854775807) (hn : s.length < n) : ∃ b, value_Name n s = some b := by
  rw [value_Name_eq]
  cases s with
  | nil => exact ⟨_, rfl⟩
  | cons c s =>
    have h0 : (0 : Int) < (((c :: s).length : Nat) : Int) := by simp only [List.length_cons]; omega
    have hl : (ints (c :: s)).length = (c :: s).length := by simp [ints]
    have hb : ∃ b, value_Name_l0 n n (ints (c :: s)) (List.length (ints (c :: s)) : Int) 0 = some b := by
      have h := value_Name_l0_fold n (ints (c :: s)) (by omega) n 0 (Nat.zero_le _) (by omega)
      rw [show ((0 : Nat) : Int) = 0 from rfl] at h
      rw [h]
      exact foldK_ex (fun _ => ⟨_, rfl⟩) _ _ _ fun i a s K _ hK => by repeat (first | exact hK _ | exact ⟨_, rfl⟩ | apply ex_cond)
    simp only [dT h0, d00, Bool.and_self, cond_true]
    repeat (first | exact hb | exact ⟨_, rfl⟩ | apply ex_cond)
noncomputable def nmB (n : Nat) (s : List UInt8) : Bool := (value_Name n s).getD false
theorem name_ok (n : Nat) (s : List UInt8) (hs : s.length < 9223372036854775807) (hn : s.length < n) : value_Name n s = some (nmB n s) := by
  obtain ⟨b, hb⟩ := name_ex n s hs hn
  unfold nmB
  rw [hb]
  rfl

theorem index_ok (n : Nat) (v : List (List UInt8)) (s : List UInt8) (hl : v.length < 9223372036854775807) (hn : v.length < n) : slices_Index n v s = some (ixI (fun a => s == a) v) := by
  have h := slices_Index_l0_fold n v s hl n 0 (Nat.zero_le _) (by omega)
  rw [show ((0 : Nat) : Int) = 0 from rfl] at h
  rw [slices_Index_eq, h, List.drop_zero, foldK_idx]
  unfold ixI
  cases List.findIdx? (fun a => s == a) v <;> simp
theorem contains_ok (n : Nat) (v : List (List UInt8)) (s : List UInt8) (hl : v.length < 9223372036854775807) (hn : v.length < n) : slices_Contains n v s = some (v.contains s) := by
  rw [slices_Contains_eq, index_ok n v s hl hn, bind_some2, ixI_pos, List.contains_eq_any_beq]

def idx (cols : List (List UInt8)) (s : List UInt8) : Nat := cols.findIdx fun a => s == a
theorem idx_lt {cols : List (List UInt8)} {s : List UInt8} (h : cols.contains s = true) : idx cols s < cols.length := by
  refine List.findIdx_lt_length_of_exists ?_
  rw [List.contains_eq_any_beq, List.any_eq_true] at h
  exact h
theorem idx_get {cols : List (List UInt8)} {s : List UInt8} (h : cols.contains s = true) : cols[idx cols s]'(idx_lt h) = s := by
  have := List.findIdx_getElem (p := fun a => s == a) (xs := cols) (w := idx_lt h)
  exact (beq_iff_eq.1 this).symm
def addM (cols : List (List UInt8)) (m : Nat) (a : List UInt8) : Nat := m ||| 2 ^ idx cols a
def mask (cols l : List (List UInt8)) : Nat := l.foldl (addM cols) 0
def inC (cols l : List (List UInt8)) : Bool := l.all fun s => cols.contains s
theorem addM_lt {cols : List (List UInt8)} (hc : cols.length ≤ 12) {m : Nat} (hm : m < 4096) {a : List UInt8} (ha : cols.contains a = true) : addM cols m a < 4096 := by
  have h := idx_lt ha
  have h2 : 2 ^ idx cols a < 2 ^ 12 := Nat.pow_lt_pow_right (by omega) (by omega)
  exact Nat.or_lt_two_pow (n := 12) (by simpa using hm) h2
theorem set_go (n : Nat) (cols : List (List UInt8)) (hc : cols.length ≤ 12) (hn : 12 < n) : ∀ (l : List (List UInt8)) (i m : Nat), m < 4096 →
    foldK (S := Int) (R := Int × Bool) (fun i (a : (List UInt8)) s K => (Option.bind (slices_Index n cols a) fun r1 => (bif (decide (r1 < 0)) then (some (0, false)) else (bif (decide (0 ≤ r1)) then (K (Fv.bits .or .i64 s (shl .i64 (1 : Int) r1))) else none)))) (fun s => (some (s, true))) l i (m : Int) =
      some (bif inC cols l then (((l.foldl (addM cols) m : Nat) : Int), true) else (0, false))
  | [], i, m, _ => rfl
  | a :: l, i, m, hm => by
    rw [foldK_cons, index_ok n cols a (by omega) (by omega), bind_some2, ixI_neg, ← List.contains_eq_any_beq]
    show _ = some (bif cols.contains a && inC cols l then _ else _)
    cases ha : cols.contains a with
    | false => rfl
    | true =>
      have hi := idx_lt ha
      have e : ixI (fun b => a == b) cols = ((idx cols a : Nat) : Int) := by
        rw [ixI_eq, ← List.contains_eq_any_beq, ha]
        rfl
      have h2 : 2 ^ idx cols a < 2 ^ 12 := Nat.pow_lt_pow_right (by omega) (by omega)
      rw [e, d0, shl_nat (by omega), or_nat (by omega) (by omega)]
      simp only [Bool.not_true, cond_false, cond_true, Bool.true_and]
      exact set_go n cols hc hn l (i + 1) (addM cols m a) (addM_lt hc hm ha)
theorem set_ok (n : Nat) (cols l : List (List UInt8)) (hc : cols.length ≤ 12) (hn : 12 < n) (hl : l.length < 9223372036854775807) (hln : l.length < n) :
    keys_set n cols l = some (bif inC cols l then ((mask cols l : Int), true) else (0, false)) := by
  have h := keys_set_l0_fold n cols l 0 hl n 0 (Nat.zero_le _) (by omega)
  rw [show ((0 : Nat) : Int) = 0 from rfl] at h
  rw [keys_set_eq, h, List.drop_zero]
  exact set_go n cols hc hn l 0 0 (by omega)
theorem mask_lt {cols : List (List UInt8)} (hc : cols.length ≤ 12) : ∀ {l : List (List UInt8)} {m : Nat}, inC cols l = true → m < 4096 → l.foldl (addM cols) m < 4096
  | [], m, _, hm => hm
  | a :: l, m, h, hm => by
    have h2 : (cols.contains a && inC cols l) = true := h
    rw [Bool.and_eq_true] at h2
    show l.foldl (addM cols) (addM cols m a) < 4096
    exact mask_lt hc h2.2 (addM_lt hc hm h2.1)

/-! ### Is all right? -/
noncomputable def colErr (n : Nat) : List (List UInt8) → List (List UInt8) → Option Int
  | _, [] => none
  | seen, a :: l => bif !nmB n a then some 15 else bif seen.contains a then some 5 else colErr n (seen ++ [a]) l
def okD (cols : List (List UInt8)) (d : Dep) : Bool := inC cols d.From && inC cols d.To
def toD (cols : List (List UInt8)) (d : Dep) : dep := dep.mk (mask cols d.From) (mask cols d.To)
noncomputable def depErr (n : Nat) (cols : List (List UInt8)) (l : List Dep) : Int :=
  bif decide ((cols.length : Int) > 12) then 2 else bif decide ((l.length : Int) > 20) then 2 else match colErr n [] cols with
    | some e => e
    | none => bif l.all (okD cols) then 0 else 4
/-- Short enough to be gone through. -/
structure Sm (n : Nat) (cols : List (List UInt8)) (l : List Dep) : Prop where
  big : 3000 < n
  c : ∀ s ∈ cols, s.length < n ∧ s.length < 9223372036854775807
  f : ∀ d ∈ l, d.From.length + d.To.length < n ∧ d.From.length + d.To.length ≤ 4294967296
theorem read2_go (n : Nat) (cols : List (List UInt8)) (hc : cols.length ≤ 12) (hn : 3000 < n) : ∀ (l : List Dep) (i : Nat) (out : List dep), (∀ d ∈ l, d.From.length + d.To.length < n ∧ d.From.length + d.To.length ≤ 4294967296) → out.length + l.length ≤ 1000 →
    foldK (S := (List dep)) (R := List dep × Int) (fun i (a : Dep) s K => (Option.bind (keys_set n cols (a.From)) fun r3 => (Option.bind (keys_set n cols (a.To)) fun r4 => (bif (!r3.2) then (some ([], 4)) else (bif (!r4.2) then (some ([], 4)) else (bif (decide ((List.length s) = List.length s) && decide (List.length s + List.length ([(dep.mk r3.1 r4.1)] : List dep) ≤ 4294967296)) then (K (s ++ [(dep.mk r3.1 r4.1)])) else none)))))) (fun s => (some (s, 0))) l i out =
      some (bif l.all (okD cols) then (out ++ l.map (toD cols), 0) else ([], 4))
  | [], i, out, _, _ => by simp [foldK_nil]
  | d :: l, i, out, h, hl => by
    have hd := h d (by simp)
    rw [foldK_cons, set_ok n cols d.From hc (by omega) (by omega) (by omega), bind_some2, set_ok n cols d.To hc (by omega) (by omega) (by omega), bind_some2]
    show _ = some (bif (inC cols d.From && inC cols d.To) && l.all (okD cols) then _ else _)
    generalize hK : (fun s' => foldK _ _ l (i + 1) s') = K
    cases inC cols d.From with
    | false => rfl
    | true =>
      cases inC cols d.To with
      | false => rfl
      | true =>
        simp only [cond_true, Bool.not_true, cond_false, Bool.and_self, Bool.true_and, decide_true]
        simp only [List.length_cons] at hl
        rw [dT (by simp only [List.length_cons, List.length_nil]; omega), cond_true, ← hK]
        show foldK _ _ l (i + 1) _ = _
        rw [read2_go n cols hc hn l (i + 1) _ (fun d hd => h d (by simp [hd])) (by simp only [List.length_append, List.length_cons, List.length_nil]; omega)]
        rw [List.append_assoc]
        rfl
theorem read1_go (n : Nat) (cols : List (List UInt8)) (hc : cols.length ≤ 12) (hn : 3000 < n) {fin : Unit → Option (List dep × Int)} : ∀ (l : List (List UInt8)) (i : Nat), (∀ s ∈ l, s.length < n ∧ s.length < 9223372036854775807) → cols = cols.take i ++ l → i ≤ cols.length →
    foldK (S := Unit) (fun i (a : (List UInt8)) s K => (Option.bind (value_Name n a) fun r1 => (bif (!r1) then (some ([], 15)) else (bif (decide (0 ≤ (i : Int)) && decide ((i : Int) ≤ (List.length cols))) then (Option.bind (slices_Contains n (List.take (Int.toNat (i : Int)) cols) a) fun r2 => (bif r2 then (some ([], 5)) else (K ()))) else none)))) fin l i () =
      match colErr n (cols.take i) l with
      | some e => some ([], e)
      | none => fin ()
  | [], i, _, _, _ => rfl
  | a :: l, i, h, hcl, hi => by
    have ha := h a (by simp)
    have hlen : i < cols.length := by
      have := congrArg List.length hcl
      simp only [List.length_append, List.length_cons, List.length_take] at this
      omega
    rw [foldK_cons, name_ok n a ha.2 ha.1, bind_some2, dle, d0, dT hi, Int.toNat_natCast, contains_ok n _ a (by rw [List.length_take]; omega) (by rw [List.length_take]; omega), bind_some2]
    unfold colErr
    generalize hK : (fun s' => foldK _ _ l (i + 1) s') = K
    cases nmB n a with
    | false => rfl
    | true =>
      simp only [Bool.not_true, cond_false, Bool.and_self, cond_true]
      cases (cols.take i).contains a with
      | true => rfl
      | false =>
        simp only [cond_false]
        rw [← hK]
        show foldK _ _ l (i + 1) _ = _
        have e : cols.take (i + 1) = cols.take i ++ [a] := by
          have h1 : cols[i]? = some a := by
            rw [hcl, List.getElem?_append_right (by rw [List.length_take]; omega), List.length_take, Nat.min_eq_left hi, Nat.sub_self]
            rfl
          rw [List.take_add_one, h1]
          rfl
        rw [← e]
        exact read1_go n cols hc hn l (i + 1) (fun s hs => h s (by simp [hs])) (by rw [e, List.append_assoc]; exact hcl) (by omega)
theorem read_ok (n : Nat) (cols : List (List UInt8)) (l : List Dep) (h : Sm n cols l) :
    keys_read n cols l = some (bif decide (depErr n cols l = 0) then l.map (toD cols) else [], depErr n cols l) := by
  rw [keys_read_eq]
  unfold depErr
  by_cases h1 : (cols.length : Int) > 12
  · simp only [dT h1, cond_true]; rfl
  by_cases h2 : (l.length : Int) > 20
  · simp only [dF h1, dT h2, cond_false, cond_true]; rfl
  simp only [dF h1, dF h2, cond_false]
  have hn := h.big
  have hf := keys_read_l0_fold n cols l cols (by omega) n 0 (Nat.zero_le _) (by omega)
  rw [show ((0 : Nat) : Int) = 0 from rfl] at hf
  have hf2 := keys_read_l2_fold n cols l [] (by omega) n 0 (Nat.zero_le _) (by omega)
  rw [show ((0 : Nat) : Int) = 0 from rfl, List.drop_zero, read2_go n cols (by omega) hn l 0 [] h.f (by simp; omega)] at hf2
  rw [hf, List.drop_zero, read1_go n cols (by omega) hn cols 0 h.c rfl (by omega), hf2, List.take_zero]
  cases hce : colErr n [] cols with
  | some e =>
    have : e ≠ 0 := by
      have key : ∀ (l seen : List (List UInt8)) (e : Int), colErr n seen l = some e → e ≠ 0 := by
        intro l
        induction l with
        | nil => intro seen e h; cases h
        | cons a l ih =>
          intro seen e h
          unfold colErr at h
          cases h1 : nmB n a with
          | false => rw [h1] at h; cases h; decide
          | true =>
            rw [h1] at h
            cases h2 : seen.contains a with
            | true => rw [h2] at h; cases h; decide
            | false => rw [h2] at h; exact ih _ _ h
      exact key _ _ _ hce
    simp only [dF this, cond_false]
  | none =>
    simp only
    cases l.all (okD cols) <;> rfl

/-! ### What follows -/
theorem testBit_two (i j : Nat) : (2 ^ i).testBit j = decide (i = j) := Nat.testBit_two_pow
theorem idx_inj {cols : List (List UInt8)} {a s : List UInt8} (ha : cols.contains a = true) (hs : cols.contains s = true) (h : idx cols a = idx cols s) : a = s := by
  have h1 := idx_get ha
  have h2 := idx_get hs
  simp only [h] at h1
  exact h1.symm.trans h2
def chi (cols : List (List UInt8)) (m : Nat) (s : List UInt8) : Bool := cols.contains s && m.testBit (idx cols s)
theorem chi_add {cols : List (List UInt8)} {m : Nat} {a s : List UInt8} (ha : cols.contains a = true) : chi cols (addM cols m a) s = (chi cols m s || (s == a)) := by
  unfold chi addM
  rw [Nat.testBit_or, testBit_two]
  cases hs : cols.contains s with
  | false =>
    have : (s == a) = false := by
      apply Bool.eq_false_iff.2
      intro h
      rw [beq_iff_eq] at h
      rw [h, ha] at hs
      cases hs
    rw [this]
    rfl
  | true =>
    have : decide (idx cols a = idx cols s) = (s == a) := by
      by_cases h : idx cols a = idx cols s
      · rw [dT h, idx_inj ha hs h]
        simp
      · rw [dF h]
        symm
        apply Bool.eq_false_iff.2
        intro h'
        rw [beq_iff_eq] at h'
        exact h (by rw [h'])
    rw [this]
    rfl
theorem chi_adds {cols : List (List UInt8)} {s : List UInt8} : ∀ {l : List (List UInt8)} {m : Nat}, inC cols l = true → chi cols (l.foldl (addM cols) m) s = (chi cols m s || l.contains s)
  | [], m, _ => by simp
  | a :: l, m, h => by
    have h2 : (cols.contains a && inC cols l) = true := h
    rw [Bool.and_eq_true] at h2
    rw [List.foldl_cons, chi_adds h2.2, chi_add h2.1, List.contains_cons, Bool.or_assoc]
theorem chi_zero (cols : List (List UInt8)) (s : List UInt8) : chi cols 0 s = false := by simp [chi]
theorem foldl_or {cols : List (List UInt8)} : ∀ (l : List (List UInt8)) (m : Nat), l.foldl (addM cols) m = m ||| mask cols l
  | [], m => by simp [mask]
  | a :: l, m => by
    have e : mask cols (a :: l) = l.foldl (addM cols) (addM cols 0 a) := rfl
    rw [List.foldl_cons, foldl_or l, e, foldl_or l (addM cols 0 a)]
    unfold addM
    rw [Nat.zero_or, Nat.or_assoc]
theorem chi_or {cols : List (List UInt8)} {m : Nat} {l : List (List UInt8)} {s : List UInt8} (h : inC cols l = true) : chi cols (m ||| mask cols l) s = (chi cols m s || l.contains s) := by
  rw [← foldl_or, chi_adds h]
theorem mask_bit {cols : List (List UInt8)} : ∀ {l : List (List UInt8)} {m i : Nat}, (l.foldl (addM cols) m).testBit i = (m.testBit i || l.any fun a => decide (idx cols a = i))
  | [], m, i => by simp
  | a :: l, m, i => by
    rw [List.foldl_cons, mask_bit]
    unfold addM
    rw [Nat.testBit_or, testBit_two, List.any_cons, Bool.or_assoc]
theorem sub_iff {cols : List (List UInt8)} {m : Nat} {l : List (List UInt8)} (h : inC cols l = true) : Sub (mask cols l) m ↔ l.all (chi cols m) = true := by
  have hin : ∀ a ∈ l, cols.contains a = true := by
    unfold inC at h
    rw [List.all_eq_true] at h
    exact h
  rw [List.all_eq_true]
  constructor
  · intro hs a ha
    unfold chi
    rw [hin a ha, Bool.true_and]
    refine hs _ ?_
    unfold mask
    rw [mask_bit, Bool.or_eq_true, List.any_eq_true]
    exact .inr ⟨a, ha, by simp⟩
  · intro hs i hi
    unfold mask at hi
    rw [mask_bit, Bool.or_eq_true, List.any_eq_true] at hi
    rcases hi with hi | ⟨a, ha, hi⟩
    · simp at hi
    · have := hs a ha
      unfold chi at this
      rw [Bool.and_eq_true] at this
      rw [← of_decide_eq_true hi]
      exact this.2

def stepC (cols : List (List UInt8)) (m : Nat) (d : Dep) : Nat := bif decide (m &&& mask cols d.From = mask cols d.From) then m ||| mask cols d.To else m
def passC (cols : List (List UInt8)) (l : List Dep) (m : Nat) : Nat := l.foldl (stepC cols) m
theorem step_sub (cols : List (List UInt8)) (m : Nat) (d : Dep) : Sub m (stepC cols m d) := by
  unfold stepC
  cases decide (m &&& mask cols d.From = mask cols d.From) with
  | true => exact Sub.or_left _ _
  | false => exact Sub.refl _
theorem pass_sub (cols : List (List UInt8)) : ∀ (l : List Dep) (m : Nat), Sub m (passC cols l m)
  | [], m => Sub.refl m
  | d :: l, m => (step_sub cols m d).trans (pass_sub cols l (stepC cols m d))
theorem sub_anti {a b : Nat} (h : Sub a b) (h' : Sub b a) : a = b := by
  apply Nat.eq_of_testBit_eq
  intro i
  cases ha : a.testBit i with
  | true => rw [h i ha]
  | false =>
    cases hb : b.testBit i with
    | false => rfl
    | true => rw [h' i hb] at ha; cases ha
theorem mask_ok {cols : List (List UInt8)} (hc : cols.length ≤ 12) {l : List (List UInt8)} (h : inC cols l = true) : mask cols l < 4096 := mask_lt hc h (by omega)
theorem step_lt {cols : List (List UInt8)} (hc : cols.length ≤ 12) {m : Nat} (hm : m < 4096) {d : Dep} (hd : okD cols d = true) : stepC cols m d < 4096 := by
  unfold okD at hd
  rw [Bool.and_eq_true] at hd
  unfold stepC
  cases decide (m &&& mask cols d.From = mask cols d.From) with
  | true => exact Nat.or_lt_two_pow (n := 12) (by simpa using hm) (by simpa using mask_ok hc hd.2)
  | false => exact hm
theorem pass_lt {cols : List (List UInt8)} (hc : cols.length ≤ 12) : ∀ {l : List Dep} {m : Nat}, m < 4096 → (∀ d ∈ l, okD cols d = true) → passC cols l m < 4096
  | [], m, hm, _ => hm
  | d :: l, m, hm, h => by
    show passC cols l (stepC cols m d) < 4096
    exact pass_lt hc (step_lt hc hm (h d (by simp))) fun d hd => h d (by simp [hd])
/-- How many would still add something. -/
def cnt (cols : List (List UInt8)) (l : List Dep) (m : Nat) : Nat := l.countP fun d => !decide (m ||| mask cols d.To = m)
theorem pass_fire {cols : List (List UInt8)} : ∀ {l : List Dep} {m : Nat}, passC cols l m ≠ m → ∃ d ∈ l, ¬ Sub (mask cols d.To) m ∧ Sub (mask cols d.To) (passC cols l m)
  | [], m, h => absurd rfl h
  | d :: l, m, h => by
    by_cases hd : stepC cols m d = m
    · have e : passC cols (d :: l) m = passC cols l m := by show passC cols l (stepC cols m d) = _; rw [hd]
      rw [e] at h ⊢
      obtain ⟨d', h1, h2⟩ := pass_fire h
      exact ⟨d', by simp [h1], h2⟩
    · refine ⟨d, by simp, ?_, ?_⟩
      · intro hs
        apply hd
        unfold stepC
        cases decide (m &&& mask cols d.From = mask cols d.From) with
        | true => exact or_eq_iff.2 hs
        | false => rfl
      · refine Sub.trans ?_ (pass_sub cols l (stepC cols m d))
        unfold stepC at hd ⊢
        cases hb : decide (m &&& mask cols d.From = mask cols d.From) with
        | true => exact Sub.or_right _ _
        | false => rw [hb] at hd; exact absurd rfl hd
theorem cnt_lt {cols : List (List UInt8)} {l : List Dep} {m : Nat} (h : passC cols l m ≠ m) : cnt cols l (passC cols l m) < cnt cols l m := by
  obtain ⟨d, h1, h2, h3⟩ := pass_fire h
  refine countP_lt (fun d _ hd => ?_) ⟨d, h1, ?_, ?_⟩
  · simp only [Bool.not_eq_true', decide_eq_false_iff_not, or_eq_iff] at hd ⊢
    exact fun h => hd (h.trans (pass_sub cols l m))
  · simp only [Bool.not_eq_true', decide_eq_false_iff_not, or_eq_iff]
    exact h2
  · simp only [Bool.not_eq_false', decide_eq_true_eq, or_eq_iff]
    exact h3
theorem cnt_le (cols : List (List UInt8)) (l : List Dep) (m : Nat) : cnt cols l m ≤ l.length := List.countP_le_length
theorem cnt_zero {cols : List (List UInt8)} {l : List Dep} {m : Nat} (h : cnt cols l m = 0) : passC cols l m = m := by
  apply Classical.byContradiction
  intro hp
  have := cnt_lt hp
  omega

theorem closed2_go {cols : List (List UInt8)} (hc : cols.length ≤ 12) {R : Type} {fin : Int × Bool → Option R} : ∀ (l : List Dep) (i m : Nat) (f : Bool), m < 4096 → (∀ d ∈ l, okD cols d = true) →
    foldK (S := Int × Bool) (fun i (a : dep) s K => (bif (decide ((Fv.bits .and .i64 s.1 (a.from_)) = (a.from_))) then (bif (!decide ((Fv.bits .or .i64 s.1 (a.to)) = s.1)) then (K ((Fv.bits .or .i64 s.1 (a.to)), true)) else (K (s.1, s.2))) else (K (s.1, s.2)))) fin (l.map (toD cols)) i ((m : Int), f) =
      fin (((passC cols l m : Nat) : Int), f || !decide (passC cols l m = m))
  | [], i, m, f, _, _ => by
    show fin _ = fin _
    simp [passC]
  | d :: l, i, m, f, hm, h => by
    have hd := h d (by simp)
    have hlt := step_lt hc hm hd
    have hd2 := hd
    unfold okD at hd2
    rw [Bool.and_eq_true] at hd2
    have m1 := mask_ok hc hd2.1
    have m2 := mask_ok hc hd2.2
    have ih := fun (m : Nat) (f : Bool) (hm : m < 4096) => closed2_go hc (fin := fin) l (i + 1) m f hm (fun d hd => h d (by simp [hd]))
    rw [List.map_cons, foldK_cons]
    show (bif decide (Fv.bits .and .i64 (m : Int) (mask cols d.From : Int) = (mask cols d.From : Int)) then (bif !decide (Fv.bits .or .i64 (m : Int) (mask cols d.To : Int) = (m : Int)) then _ else _) else _) = _
    rw [and_nat (by omega) (by omega), or_nat (by omega) (by omega)]
    have e1 : decide (((m &&& mask cols d.From : Nat) : Int) = (mask cols d.From : Int)) = decide (m &&& mask cols d.From = mask cols d.From) := by simp only [Int.natCast_inj]
    have e2 : decide (((m ||| mask cols d.To : Nat) : Int) = (m : Int)) = decide (m ||| mask cols d.To = m) := by simp only [Int.natCast_inj]
    rw [e1, e2]
    have hp : passC cols (d :: l) m = passC cols l (stepC cols m d) := rfl
    rw [hp]
    unfold stepC at hlt ⊢
    cases h1 : decide (m &&& mask cols d.From = mask cols d.From) with
    | false =>
      simp only [cond_false]
      exact ih m f hm
    | true =>
      rw [h1] at hlt
      simp only [cond_true] at hlt ⊢
      cases h2 : decide (m ||| mask cols d.To = m) with
      | true =>
        have h2 := of_decide_eq_true h2
        rw [h2]
        simp only [Bool.not_true, cond_false]
        exact ih m f hm
      | false =>
        have h2 := of_decide_eq_false h2
        simp only [Bool.not_false, cond_true]
        show foldK _ _ _ _ (Fv.bits .or .i64 (m : Int) (mask cols d.To : Int), true) = _
        rw [or_nat (by omega) (by omega)]
        refine (ih _ true hlt).trans ?_
        have h3 : ¬ passC cols l (m ||| mask cols d.To) = m := by
          intro h4
          have h5 := pass_sub cols l (m ||| mask cols d.To)
          rw [h4] at h5
          exact h2 (sub_anti h5 (Sub.or_left _ _))
        rw [dF h3]
        simp
theorem closed_go (n : Nat) {cols : List (List UInt8)} (hc : cols.length ≤ 12) {l : List Dep} (h : ∀ d ∈ l, okD cols d = true) (hl : l.length < 1010) (hn : 3000 < n) : ∀ (k m m0 : Nat), m < 4096 → cnt cols l m ≤ k → k + 1 < m0 →
    keys_closed_l0 n m0 (l.map (toD cols)) (m : Int) true = some ((iter (passC cols l) k m : Nat) : Int) := by
  have round : ∀ (m m0 : Nat), m < 4096 → keys_closed_l0 n (m0 + 1) (l.map (toD cols)) (m : Int) true = keys_closed_l0 n m0 (l.map (toD cols)) ((passC cols l m : Nat) : Int) (!decide (passC cols l m = m)) := by
    intro m m0 hm
    have hf := keys_closed_l2_fold n m0 (l.map (toD cols)) (l.map (toD cols)) (m : Int) false (by simp; omega) n 0 (Nat.zero_le _) (by simp; omega)
    rw [show ((0 : Nat) : Int) = 0 from rfl, List.drop_zero, closed2_go hc l 0 m false hm h] at hf
    rw [keys_closed_l0_eq, cond_true, hf, Bool.false_or]
  have stop : ∀ (m m0 : Nat), keys_closed_l0 n (m0 + 1) (l.map (toD cols)) (m : Int) false = some (m : Int) := fun m m0 => by rw [keys_closed_l0_eq]; rfl
  intro k
  induction k with
  | zero =>
    intro m m0 hm hk h0
    obtain ⟨m1, rfl⟩ : ∃ m1, m0 = m1 + 2 := ⟨m0 - 2, by omega⟩
    have hp := cnt_zero (show cnt cols l m = 0 by omega)
    rw [round m (m1 + 1) hm, hp, dT rfl]
    exact stop m m1
  | succ k ih =>
    intro m m0 hm hk h0
    obtain ⟨m1, rfl⟩ : ∃ m1, m0 = m1 + 2 := ⟨m0 - 2, by omega⟩
    rw [round m (m1 + 1) hm]
    by_cases hp : passC cols l m = m
    · rw [hp, dT rfl, iter_fix hp]
      exact stop m m1
    · have := cnt_lt hp
      rw [dF hp]
      exact ih (passC cols l m) (m1 + 1) (pass_lt hc hm h) (by omega) (by omega)
theorem closed_ok (n : Nat) {cols : List (List UInt8)} (hc : cols.length ≤ 12) {l : List Dep} (h : ∀ d ∈ l, okD cols d = true) (hl : l.length < 1000) (hn : 3000 < n) {m : Nat} (hm : m < 4096) (k : Nat) (hk : l.length ≤ k) (hkn : k < 2000) :
    keys_closed n (l.map (toD cols)) (m : Int) = some ((iter (passC cols l) k m : Nat) : Int) := by
  rw [keys_closed_eq]
  exact closed_go n hc h (by omega) hn k m n hm (by have := cnt_le cols l m; omega) (by omega)
theorem iter_more {cols : List (List UInt8)} {l : List Dep} : ∀ (k m : Nat), cnt cols l m ≤ k → iter (passC cols l) (k + 1) m = iter (passC cols l) k m
  | 0, m, h => by
    show passC cols l m = m
    exact cnt_zero (by omega)
  | k + 1, m, h => by
    show iter _ (k + 1) (passC cols l m) = iter _ k (passC cols l m)
    by_cases hp : passC cols l m = m
    · rw [hp, iter_fix hp, iter_fix hp]
    · have := cnt_lt hp
      exact iter_more k _ (by omega)

/-- The same, of a set that is a map. -/
def stepW (w : List (List UInt8 × Bool)) (d : Dep) : List (List UInt8 × Bool) := bif d.From.all (has w) then d.To.foldl (fun w a => smset a true w) w else w
def passW (l : List Dep) (w : List (List UInt8 × Bool)) : List (List UInt8 × Bool) := l.foldl stepW w
def Rel (cols : List (List UInt8)) (m : Nat) (w : List (List UInt8 × Bool)) : Prop := ∀ s, chi cols m s = has w s
theorem rel_step {cols : List (List UInt8)} {m : Nat} {w : List (List UInt8 × Bool)} (h : Rel cols m w) {d : Dep} (hd : okD cols d = true) : Rel cols (stepC cols m d) (stepW w d) := by
  unfold okD at hd
  rw [Bool.and_eq_true] at hd
  have e : decide (m &&& mask cols d.From = mask cols d.From) = d.From.all (has w) := by
    have h1 : d.From.all (has w) = d.From.all (chi cols m) := by congr 1; funext s; exact (h s).symm
    rw [h1]
    cases hb : d.From.all (chi cols m) with
    | true => exact dT (and_eq_iff.2 ((sub_iff hd.1).2 hb))
    | false => exact dF fun h2 => by rw [and_eq_iff, sub_iff hd.1, hb] at h2; cases h2
  unfold stepC stepW
  rw [e]
  cases d.From.all (has w) with
  | false => exact h
  | true =>
    intro s
    rw [cond_true, cond_true, chi_or hd.2, has_sets, h s]
theorem rel_pass {cols : List (List UInt8)} : ∀ {l : List Dep} {m : Nat} {w : List (List UInt8 × Bool)}, Rel cols m w → (∀ d ∈ l, okD cols d = true) → Rel cols (passC cols l m) (passW l w)
  | [], _, _, h, _ => h
  | d :: l, m, w, h, hd => rel_pass (l := l) (rel_step h (hd d (by simp))) fun d h => hd d (by simp [h])
theorem rel_iter {cols : List (List UInt8)} {l : List Dep} (hd : ∀ d ∈ l, okD cols d = true) : ∀ {k m : Nat} {w : List (List UInt8 × Bool)}, Rel cols m w → Rel cols (iter (passC cols l) k m) (iter (passW l) k w)
  | 0, _, _, h => h
  | k + 1, m, w, h => rel_iter hd (k := k) (rel_pass h hd)
theorem rel_start {cols from_ : List (List UInt8)} (h : inC cols from_ = true) : Rel cols (mask cols from_) (from_.foldl (fun w a => smset a true w) []) := by
  intro s
  unfold mask
  rw [chi_adds h, chi_zero, has_sets, has_nil]
def reached (l : List Dep) (from_ : List (List UInt8)) : List (List UInt8 × Bool) := iter (passW l) (l.length + 1) (from_.foldl (fun w a => smset a true w) [])

theorem foldl_same {A B : Type} (w : A) : ∀ l : List B, l.foldl (fun w _ => w) w = w
  | [] => rfl
  | _ :: l => foldl_same w l
theorem reach8 (n m0 m1 : Nat) (v0 : List Dep) (v10 : Bool) (v27 v28 : Int) (v30 : List Dep) (v31 v32 : Int) (to : List (List UInt8)) (w : List (List UInt8 × Bool)) (hl : to.length < 9223372036854775807) (hn : to.length < n) :
    ref2_Reached_l8 n m0 m1 n v0 v10 v27 v28 v30 v31 v32 to (List.length to : Int) 0 w = ref2_Reached_l4 n m0 m1 v0 v27 v28 v30 v31 (IntKind.wrap .i64 (v32 + 1)) (bif v10 then to.foldl (fun w a => smset a true w) w else w) := by
  have hf := ref2_Reached_l8_fold n m0 m1 v0 v10 v27 v28 v30 v31 v32 to w hl n 0 (Nat.zero_le _) (by omega)
  rw [show ((0 : Nat) : Int) = 0 from rfl, List.drop_zero] at hf
  rw [hf]
  cases v10 with
  | true => rw [foldK_all (fun w a => smset a true w) to 0 w (fun i a s K _ => by rw [cond_true, mset_s])]; rfl
  | false => rw [foldK_all (fun w _ => w) to 0 w (fun i a s K _ => by rw [cond_false])]; rw [foldl_same]; rfl
theorem reach6 (n m0 m1 : Nat) (v0 : List Dep) (v27 v28 : Int) (v30 : List Dep) (v31 v32 : Int) (fr : List (List UInt8)) (w9 : Dep) (w : List (List UInt8 × Bool)) (hl : fr.length < 9223372036854775807) (hn : fr.length < n) :
    ref2_Reached_l6 n m0 m1 n v0 true v27 v28 v30 v31 v32 fr (List.length fr : Int) 0 w9 w = ref2_Reached_l8 n m0 m1 n v0 (fr.all (has w)) v27 v28 v30 v31 v32 w9.To (List.length w9.To : Int) 0 w := by
  have hf := ref2_Reached_l6_fold n m0 m1 v0 v27 v28 v30 v31 v32 fr w9 w true hl n 0 (Nat.zero_le _) (by omega)
  rw [show ((0 : Nat) : Int) = 0 from rfl, List.drop_zero] at hf
  rw [hf, foldK_all (fun b a => b && has w a) fr 0 true (fun i a s K _ => by cases s <;> simp [mgetD_s])]
  have e : ∀ (l : List (List UInt8)) (b : Bool), l.foldl (fun b a => b && has w a) b = (b && l.all (has w)) := by
    intro l
    induction l with
    | nil => intro b; simp
    | cons a l ih => intro b; rw [List.foldl_cons, ih, List.all_cons, Bool.and_assoc]
  rw [e, Bool.true_and]
theorem reach4 (n m0 : Nat) (v0 : List Dep) (v27 v28 : Int) (l : List Dep) (hl : l.length < 9223372036854775807) (hs : ∀ d ∈ l, (d.From.length < n ∧ d.From.length < 9223372036854775807) ∧ d.To.length < n ∧ d.To.length < 9223372036854775807) (hn : l.length < n) (w : List (List UInt8 × Bool)) :
    ref2_Reached_l4 n m0 n v0 v27 v28 l (List.length l : Int) 0 w = ref2_Reached_l2 n m0 v0 v27 (IntKind.wrap .i64 (v28 + 1)) (passW l w) := by
  have key : ∀ (m k : Nat), k ≤ l.length → l.length - k < m → ∀ w, ref2_Reached_l4 n m0 m v0 v27 v28 l (List.length l : Int) (k : Int) w = ref2_Reached_l2 n m0 v0 v27 (IntKind.wrap .i64 (v28 + 1)) (passW (l.drop k) w) := by
    intro m
    induction m with
    | zero => intro k _ h; omega
    | succ m ih =>
      intro k hk hm w
      rw [ref2_Reached_l4_eq, dlt]
      by_cases h : k < l.length
      · have hd := hs l[k] (List.getElem_mem _)
        simp only [dT h, d0, Bool.and_self, cond_true, Int.toNat_natCast, dlt, getD_lt _ h]
        rw [reach6 n m0 m v0 v27 v28 l _ _ l[k].From l[k] w hd.1.2 hd.1.1, reach8 n m0 m v0 _ v27 v28 l _ _ l[k].To w hd.2.2 hd.2.1, i64_succ (by omega), ih (k + 1) (by omega) (by omega), List.drop_eq_getElem_cons h]
        rfl
      · rw [dF h, drop_len h]
        rfl
  exact key n 0 (Nat.zero_le _) (by omega) w
theorem reached_ok (n : Nat) (l : List Dep) (fr : List (List UInt8)) (hl : l.length < 1000) (hn : 3000 < n) (hf : fr.length < n ∧ fr.length < 9223372036854775807) (hs : ∀ d ∈ l, (d.From.length < n ∧ d.From.length < 9223372036854775807) ∧ d.To.length < n ∧ d.To.length < 9223372036854775807) :
    ref2_Reached n l fr = some (reached l fr) := by
  have h0 := ref2_Reached_l0_fold n l fr [] hf.2 n 0 (Nat.zero_le _) (by omega)
  rw [show ((0 : Nat) : Int) = 0 from rfl, List.drop_zero, foldK_all (fun w a => smset a true w) fr 0 [] (fun i a s K _ => by rw [mset_s])] at h0
  rw [ref2_Reached_eq, h0]
  have key : ∀ (m k : Nat) (w : List (List UInt8 × Bool)), k ≤ l.length + 1 → l.length + 1 - k < m → ref2_Reached_l2 n m l ((l.length + 1 : Nat) : Int) (k : Int) w = some (iter (passW l) (l.length + 1 - k) w) := by
    intro m
    induction m with
    | zero => intro k w _ h; omega
    | succ m ih =>
      intro k w hk hm
      rw [ref2_Reached_l2_eq, dlt]
      by_cases h : k < l.length + 1
      · rw [dT h, cond_true, reach4 n m l _ _ l (by omega) hs (by omega) w, i64_succ (by omega), ih (k + 1) _ (by omega) (by omega)]
        obtain ⟨c, hc⟩ : ∃ c, l.length + 1 - k = c + 1 := ⟨l.length - k, by omega⟩
        rw [hc, show l.length + 1 - (k + 1) = c by omega]
        rfl
      · rw [dF h, show l.length + 1 - k = 0 by omega]
        rfl
  have := key n 0 (fr.foldl (fun w a => smset a true w) []) (by omega) (by omega)
  rw [show ((0 : Nat) : Int) = 0 from rfl] at this
  rw [i64_succ (by omega)]
  exact this

/-! ### The reference's check -/
theorem clone_ok (n : Nat) (x : List (List UInt8)) (h : x.length ≤ 4294967296) : slices_Clone_2 n x = some x := by
  rw [slices_Clone_2_eq]
  simp only [List.nil_append, List.length_nil, Nat.zero_add, dT h, decide_true, Bool.and_self, cond_true]
theorem deps4 (n m0 : Nat) (v36 : List Dep) (v37 v38 : Int) (w20 : List (List UInt8 × Bool)) (w63 : List (List UInt8)) (hl : w63.length < 9223372036854775807) (hn : w63.length < n) :
    ref2_DepsErr_l4 n m0 n v36 v37 v38 (List.length w63 : Int) 0 w20 w63 = bif w63.all (has w20) then ref2_DepsErr_l2 n m0 v36 v37 (IntKind.wrap .i64 (v38 + 1)) w20 else some 4 := by
  have hf := ref2_DepsErr_l4_fold n m0 v36 v37 v38 w20 w63 w63.length hl n 0 (Nat.zero_le _) (by omega)
  rw [show ((0 : Nat) : Int) = 0 from rfl] at hf
  rw [hf]
  refine (foldN_row w63 [] (fun i a s K => bif !(mgetD E .str .bool w20 a) then some 4 else K ()) (fun s => ref2_DepsErr_l2 n m0 v36 v37 (IntKind.wrap .i64 (v38 + 1)) w20) _ 0 () (by omega)).trans ?_
  rw [List.drop_zero, foldK_find (fun a => !has w20 a) (fun _ _ => some 4) w63 0 () (fun i a s K _ => by rw [mgetD_s])]
  cases hfi : w63.find? (fun a => !has w20 a) with
  | none =>
    rw [List.find?_eq_none] at hfi
    have : w63.all (has w20) = true := by rw [List.all_eq_true]; intro x hx; simpa using hfi x hx
    rw [this]
    rfl
  | some a =>
    have h1 := List.mem_of_find?_eq_some hfi
    have h2 := List.find?_some hfi
    have : w63.all (has w20) = false := by
      rw [List.all_eq_false]
      exact ⟨a, h1, by simpa using h2⟩
    rw [this]
    rfl
theorem deps2 (n : Nat) (l : List Dep) (w : List (List UInt8 × Bool)) (hl : l.length < 9223372036854775807) (hn : l.length < n) (hs : ∀ d ∈ l, d.From.length + d.To.length < n ∧ d.From.length + d.To.length ≤ 4294967296) :
    ref2_DepsErr_l2 n n l (List.length l : Int) 0 w = some (bif l.all (fun d => d.From.all (has w) && d.To.all (has w)) then 0 else 4) := by
  have key : ∀ (m k : Nat), k ≤ l.length → l.length - k < m → ref2_DepsErr_l2 n m l (List.length l : Int) (k : Int) w = some (bif (l.drop k).all (fun d => d.From.all (has w) && d.To.all (has w)) then 0 else 4) := by
    intro m
    induction m with
    | zero => intro k _ h; omega
    | succ m ih =>
      intro k hk hm
      rw [ref2_DepsErr_l2_eq, dlt]
      by_cases h : k < l.length
      · have hd := hs l[k] (List.getElem_mem _)
        simp only [dT h, d0, Bool.and_self, cond_true, Int.toNat_natCast, dlt, getD_lt _ h]
        rw [clone_ok n _ (by omega), bind_some2]
        simp only [decide_true, Bool.true_and]
        rw [dT hd.2, cond_true, deps4 n m l _ _ w _ (by rw [List.length_append]; omega) (by rw [List.length_append]; omega), List.all_append, i64_succ (by omega), ih (k + 1) (by omega) (by omega), List.drop_eq_getElem_cons h, List.all_cons]
        cases l[k].From.all (has w) && l[k].To.all (has w) <;> rfl
      · rw [dF h, drop_len h]
        rfl
  have := key n 0 (Nat.zero_le _) (by omega)
  rw [show ((0 : Nat) : Int) = 0 from rfl] at this
  exact this
theorem deps1_go (n : Nat) {fin : List (List UInt8 × Bool) → Option Int} : ∀ (l : List (List UInt8)) (i : Nat) (seen : List (List UInt8)) (w : List (List UInt8 × Bool)), (∀ s ∈ l, s.length < n ∧ s.length < 9223372036854775807) → (∀ s, has w s = seen.contains s) →
    ∃ w', (∀ s, has w' s = (seen ++ l).contains s) ∧ foldK (S := (List ((List UInt8) × Bool))) (fun i (a : (List UInt8)) s K => (Option.bind (value_Name n a) fun r1 => (bif (!r1) then (some 15) else (bif (mgetD E .str .bool s a) then (some 5) else (K (mset E .str .bool a true s)))))) fin l i w =
      match colErr n seen l with
      | some e => some e
      | none => fin w'
  | [], i, seen, w, _, hw => ⟨w, by simpa using hw, rfl⟩
  | a :: l, i, seen, w, h, hw => by
    have ha := h a (by simp)
    have hw2 : ∀ s, has (smset a true w) s = (seen ++ [a]).contains s := by
      intro s
      rw [has_set, List.contains_append, hw s]
      by_cases hs : s = a
      · simp [hs]
      · have : (s == a) = false := by simpa using hs
        rw [if_neg hs, List.contains_cons, this]
        simp
    obtain ⟨w', k1, k2⟩ := deps1_go n (fin := fin) l (i + 1) (seen ++ [a]) (smset a true w) (fun s hs => h s (by simp [hs])) hw2
    refine ⟨w', fun s => by rw [k1, List.append_assoc]; rfl, ?_⟩
    rw [foldK_cons, name_ok n a ha.2 ha.1, bind_some2, mgetD_s, hw a, mset_s]
    unfold colErr
    cases nmB n a with
    | false => rfl
    | true =>
      simp only [Bool.not_true, cond_false]
      cases seen.contains a with
      | true => rfl
      | false => exact k2
theorem depsErr_ok (n : Nat) (cols : List (List UInt8)) (l : List Dep) (h : Sm n cols l) : ref2_DepsErr n cols l = some (depErr n cols l) := by
  rw [ref2_DepsErr_eq]
  unfold depErr
  by_cases h1 : (cols.length : Int) > 12
  · simp only [dT h1, cond_true]
  by_cases h2 : (l.length : Int) > 20
  · simp only [dF h1, dT h2, cond_false, cond_true]
  simp only [dF h1, dF h2, cond_false]
  have hn := h.big
  have hf := ref2_DepsErr_l0_fold n l cols [] (by omega) n 0 (Nat.zero_le _) (by omega)
  rw [show ((0 : Nat) : Int) = 0 from rfl, List.drop_zero] at hf
  obtain ⟨w', k1, k2⟩ := deps1_go n (fin := fun s => ref2_DepsErr_l2 n n l (List.length l : Int) 0 s) cols 0 [] [] h.c (fun s => rfl)
  rw [hf, k2]
  cases colErr n [] cols with
  | some e => rfl
  | none =>
    simp only
    rw [deps2 n l w' (by omega) (by omega) h.f]
    have e : (fun d : Dep => d.From.all (has w') && d.To.all (has w')) = okD cols := by
      funext d
      have e2 : has w' = fun s => cols.contains s := by funext s; rw [k1]; rfl
      unfold okD inC
      rw [e2]
    rw [e]
theorem colErr_nodup (n : Nat) : ∀ (l seen : List (List UInt8)), colErr n seen l = none → seen.Nodup → (seen ++ l).Nodup
  | [], seen, _, hs => by simpa using hs
  | a :: l, seen, h, hs => by
    unfold colErr at h
    cases h1 : nmB n a with
    | false => rw [h1] at h; cases h
    | true =>
      rw [h1] at h
      cases h2 : seen.contains a with
      | true => rw [h2] at h; cases h
      | false =>
        rw [h2] at h
        have := colErr_nodup n l (seen ++ [a]) h (by
          rw [List.nodup_append]
          refine ⟨hs, by simp, ?_⟩
          intro x hx y hy hxy
          simp only [List.mem_singleton] at hy
          subst hy hxy
          rw [List.contains_iff_mem.2 hx] at h2
          cases h2)
        rw [List.append_assoc] at this
        exact this
/-- What a right list says. -/
structure Ok (cols : List (List UInt8)) (l : List Dep) : Prop where
  c : cols.length ≤ 12
  ln : l.length ≤ 20
  nd : cols.Nodup
  d : ∀ d ∈ l, okD cols d = true
theorem ok_of {n : Nat} {cols : List (List UInt8)} {l : List Dep} (h : depErr n cols l = 0) : Ok cols l := by
  unfold depErr at h
  by_cases h1 : (cols.length : Int) > 12
  · rw [dT h1] at h; cases h
  by_cases h2 : (l.length : Int) > 20
  · rw [dF h1, dT h2] at h; cases h
  rw [dF h1, dF h2, cond_false, cond_false] at h
  cases hc : colErr n [] cols with
  | some e =>
    exfalso
    rw [hc] at h
    have h : e = 0 := h
    have key : ∀ (l seen : List (List UInt8)) (e : Int), colErr n seen l = some e → e ≠ 0 := by
      intro l
      induction l with
      | nil => intro seen e h; cases h
      | cons a l ih =>
        intro seen e h
        unfold colErr at h
        cases h1 : nmB n a with
        | false => rw [h1] at h; cases h; decide
        | true =>
          rw [h1] at h
          cases h2 : seen.contains a with
          | true => rw [h2] at h; cases h; decide
          | false => rw [h2] at h; exact ih _ _ h
    exact key _ _ _ hc h
  | none =>
    rw [hc] at h
    have h : (bif l.all (okD cols) then (0 : Int) else 4) = 0 := h
    cases ha : l.all (okD cols) with
    | false => rw [ha] at h; cases h
    | true =>
      rw [List.all_eq_true] at ha
      exact ⟨by omega, by omega, by have := colErr_nodup n cols [] hc (by simp); simpa using this, ha⟩
theorem idx_at {cols : List (List UInt8)} (hn : cols.Nodup) {i : Nat} (h : i < cols.length) : idx cols cols[i] = i := by
  have hc : cols.contains cols[i] = true := List.contains_iff_mem.2 (List.getElem_mem _)
  have h1 := idx_get hc
  exact (List.getElem_inj hn).1 h1
theorem list_go (n : Nat) {cols : List (List UInt8)} (hc : cols.length ≤ 12) (hnd : cols.Nodup) {m : Nat} (hm : m < 4096) : ∀ (l : List (List UInt8)) (i : Nat) (out : List (List UInt8)), l = cols.drop i → out.length + l.length ≤ 100 →
    foldK (S := (List (List UInt8))) (fun i (a : (List UInt8)) s K => (bif (decide (0 ≤ (i : Int))) then (bif (decide ((Fv.bits .and .i64 (shr .i64 (m : Int) (i : Int)) 1) = 1)) then (bif (decide ((List.length s) = List.length s) && decide (List.length s + List.length ([a] : List (List UInt8)) ≤ 4294967296)) then (K (s ++ [a])) else none) else (K s)) else none)) (fun s => (some s)) l i out = some (out ++ l.filter (chi cols m))
  | [], i, out, _, _ => by simp [foldK_nil]
  | a :: l, i, out, h, ho => by
    have hi : i < cols.length := by
      apply Classical.byContradiction
      intro hi
      rw [List.drop_eq_nil_of_le (by omega)] at h
      cases h
    have h0 := h
    rw [List.drop_eq_getElem_cons hi] at h
    injection h with h1 h2
    have hch : m.testBit i = chi cols m a := by
      unfold chi
      subst h1
      rw [idx_at hnd hi, List.contains_iff_mem.2 (List.getElem_mem _), Bool.true_and]
    rw [foldK_cons, d0, bit_nat (by omega) (by omega), hch, List.filter_cons]
    generalize hK : (fun s' => foldK _ _ l (i + 1) s') = K
    cases chi cols m a with
    | false =>
      simp only [cond_true, cond_false, Bool.false_eq_true, if_false]
      rw [← hK]
      exact list_go n hc hnd hm l (i + 1) out h2 (by simp only [List.length_cons] at ho; omega)
    | true =>
      simp only [cond_true, if_true, decide_true, Bool.true_and]
      simp only [List.length_cons] at ho
      have hbound : out.length + 1 ≤ 4294967296 := by omega
      rw [dT (by simpa using hbound), cond_true, ← hK]
      show foldK _ _ l (i + 1) _ = _
      rw [list_go n hc hnd hm l (i + 1) _ h2 (by simp only [List.length_append, List.length_cons, List.length_nil]; omega), List.append_assoc]
      rfl
theorem list_ok (n : Nat) {cols : List (List UInt8)} (hc : cols.length ≤ 12) (hnd : cols.Nodup) {m : Nat} (hm : m < 4096) (hn : 12 < n) : keys_list n cols (m : Int) = some (cols.filter (chi cols m)) := by
  have hf := keys_list_l0_fold n (m : Int) cols [] (by omega) n 0 (Nat.zero_le _) (by omega)
  rw [show ((0 : Nat) : Int) = 0 from rfl, List.drop_zero] at hf
  rw [keys_list_eq, hf, list_go n hc hnd hm cols 0 [] rfl (by simp; omega)]
  rfl
/-- Closures, as the program and the reference have them. -/
theorem closed_rel {cols : List (List UInt8)} {l : List Dep} (h : Ok cols l) {fr : List (List UInt8)} (hf : inC cols fr = true) (n : Nat) (hn : 3000 < n) :
    ∃ m : Nat, m < 4096 ∧ keys_closed n (l.map (toD cols)) (mask cols fr : Int) = some (m : Int) ∧ Rel cols m (reached l fr) := by
  have hln := h.ln
  refine ⟨_, ?_, closed_ok n h.c h.d (by omega) hn (mask_ok h.c hf) (l.length + 1) (by omega) (by omega), rel_iter h.d (rel_start hf)⟩
  have key : ∀ (k m : Nat), m < 4096 → iter (passC cols l) k m < 4096 := by
    intro k
    induction k with
    | zero => exact fun m hm => hm
    | succ k ih => exact fun m hm => ih _ (pass_lt h.c hm h.d)
  exact key _ _ (mask_ok h.c hf)

/-! ### What follows, as a closure -/
def Cls (l : List Dep) (P : List UInt8 → Prop) : Prop := ∀ d ∈ l, (∀ a ∈ d.From, P a) → ∀ b ∈ d.To, P b
def Fol (l : List Dep) (F : List UInt8 → Prop) (s : List UInt8) : Prop := ∀ P, Cls l P → (∀ a, F a → P a) → P s
theorem Fol.mono {l : List Dep} {F G : List UInt8 → Prop} {s : List UInt8} (h : Fol l F s) (hFG : ∀ a, F a → G a) : Fol l G s := fun P hc hG => h P hc fun a ha => hG a (hFG a ha)
def Imp (l l' : List Dep) : Prop := ∀ P, Cls l P → Cls l' P
theorem Imp.fol {l l' : List Dep} {F : List UInt8 → Prop} {s : List UInt8} (h : Imp l l') (hf : Fol l' F s) : Fol l F s := fun P hc hF => hf P (h P hc) hF
theorem Imp.refl (l : List Dep) : Imp l l := fun _ h => h
theorem Imp.trans {l l' l'' : List Dep} (h : Imp l l') (h' : Imp l' l'') : Imp l l'' := fun P hc => h' P (h P hc)
theorem Imp.sub {l l' : List Dep} (h : ∀ d ∈ l', d ∈ l) : Imp l l' := fun P hc d hd => hc d (h d hd)
theorem Imp.of {l l' : List Dep} (h : ∀ d ∈ l', ∀ b ∈ d.To, Fol l (fun a => a ∈ d.From) b) : Imp l l' := fun P hc d hd hF b hb => h d hd b hb P hc hF

theorem foldN_inv {S R : Type} {step : Nat → S → (S → Option R) → Option R} {fin : S → Option R} (I : Nat → S → Prop) (N : Nat) (h : ∀ i s, i < N → I i s → ∃ s', I (i + 1) s' ∧ ∀ K, step i s K = K s') : ∀ (c i : Nat) (s : S), c + i = N → I i s → ∃ s', I N s' ∧ foldN step fin c i s = fin s'
  | 0, i, s, hc, hi => ⟨s, by rw [← hc, Nat.zero_add]; exact hi, rfl⟩
  | c + 1, i, s, hc, hi => by
    obtain ⟨s1, h1, h2⟩ := h i s (by omega) hi
    obtain ⟨s2, h3, h4⟩ := foldN_inv I N h (fin := fin) c (i + 1) s1 (by omega) h1
    exact ⟨s2, h3, by rw [← h4]; exact h2 _⟩

theorem pass_still {cols : List (List UInt8)} : ∀ {l : List Dep} {m : Nat}, passC cols l m = m → ∀ d ∈ l, stepC cols m d = m
  | [], m, _, d, hd => by simp at hd
  | d0 :: l, m, h, d, hd => by
    have e : passC cols (d0 :: l) m = passC cols l (stepC cols m d0) := rfl
    rw [e] at h
    have h1 : stepC cols m d0 = m := sub_anti (by have := pass_sub cols l (stepC cols m d0); rwa [h] at this) (step_sub cols m d0)
    rw [h1] at h
    rcases List.mem_cons.1 hd with rfl | hd
    · exact h1
    · exact pass_still h d hd
theorem iter_still {cols : List (List UInt8)} {l : List Dep} : ∀ (k m : Nat), cnt cols l m ≤ k → passC cols l (iter (passC cols l) k m) = iter (passC cols l) k m
  | 0, m, h => by
    show passC cols l m = m
    exact cnt_zero (by omega)
  | k + 1, m, h => by
    show passC cols l (iter _ k (passC cols l m)) = iter _ k (passC cols l m)
    by_cases hp : passC cols l m = m
    · rw [hp, iter_fix hp]; exact hp
    · have := cnt_lt hp
      exact iter_still k _ (by omega)
theorem iter_sub (cols : List (List UInt8)) (l : List Dep) : ∀ (k m : Nat), Sub m (iter (passC cols l) k m)
  | 0, m => Sub.refl m
  | k + 1, m => (pass_sub cols l m).trans (iter_sub cols l k _)
theorem chi_mono {cols : List (List UInt8)} {m m' : Nat} (h : Sub m m') {s : List UInt8} (hs : chi cols m s = true) : chi cols m' s = true := by
  unfold chi at hs ⊢
  rw [Bool.and_eq_true] at hs ⊢
  exact ⟨hs.1, h _ hs.2⟩
theorem okD2 {cols : List (List UInt8)} {d : Dep} (h : okD cols d = true) : inC cols d.From = true ∧ inC cols d.To = true := by
  unfold okD at h
  rwa [Bool.and_eq_true] at h
theorem inC_iff {cols l : List (List UInt8)} : inC cols l = true ↔ ∀ s ∈ l, s ∈ cols := by
  unfold inC
  rw [List.all_eq_true]
  exact ⟨fun h s hs => List.contains_iff_mem.1 (h s hs), fun h s hs => List.contains_iff_mem.2 (h s hs)⟩
theorem inv_sets {P : List UInt8 → Prop} {l : List (List UInt8)} {w : List (List UInt8 × Bool)} (hw : ∀ s, has w s = true → P s) (hl : ∀ s ∈ l, P s) : ∀ s, has (l.foldl (fun w a => smset a true w) w) s = true → P s := by
  intro s hs
  rw [has_sets, Bool.or_eq_true] at hs
  rcases hs with hs | hs
  · exact hw s hs
  · exact hl s (List.contains_iff_mem.1 hs)
theorem reached_fol {cols : List (List UInt8)} {l : List Dep} (hd : ∀ d ∈ l, okD cols d = true) {fr : List (List UInt8)} (hf : inC cols fr = true) (s : List UInt8) : has (reached l fr) s = true ↔ Fol l (fun a => a ∈ fr) s := by
  have hrel : Rel cols (iter (passC cols l) (l.length + 1) (mask cols fr)) (reached l fr) := rel_iter hd (rel_start hf)
  constructor
  · intro hs P hc hF
    have h1 : ∀ (l' : List Dep) (w : List (List UInt8 × Bool)), (∀ d ∈ l', d ∈ l) → (∀ s, has w s = true → P s) → ∀ s, has (passW l' w) s = true → P s := by
      intro l'
      induction l' with
      | nil => exact fun w _ hw => hw
      | cons d l' ih =>
        intro w hl hw
        refine ih (stepW w d) (fun d' hd' => hl d' (by simp [hd'])) ?_
        unfold stepW
        cases ha : d.From.all (has w) with
        | false => exact hw
        | true =>
          rw [List.all_eq_true] at ha
          exact inv_sets hw (hc d (hl d (by simp)) fun a h => hw a (ha a h))
    have h2 : ∀ (k : Nat) (w : List (List UInt8 × Bool)), (∀ s, has w s = true → P s) → ∀ s, has (iter (passW l) k w) s = true → P s := by
      intro k
      induction k with
      | zero => exact fun w hw => hw
      | succ k ih => exact fun w hw => ih (passW l w) (h1 l w (fun _ h => h) hw)
    exact h2 _ _ (inv_sets (fun s h => by rw [has_nil] at h; cases h) hF) s hs
  · intro h
    generalize hm : iter (passC cols l) (l.length + 1) (mask cols fr) = m at hrel
    have hstill : passC cols l m = m := by rw [← hm]; exact iter_still _ _ (by have := cnt_le cols l (mask cols fr); omega)
    refine h (fun s => has (reached l fr) s = true) (fun d hdl hF b hb => ?_) (fun a ha => ?_)
    · obtain ⟨k1, k2⟩ := okD2 (hd d hdl)
      have h1 : d.From.all (chi cols m) = true := by rw [List.all_eq_true]; intro a ha; rw [hrel a]; exact hF a ha
      have h2 := pass_still hstill d hdl
      unfold stepC at h2
      rw [dT (and_eq_iff.2 ((sub_iff k1).2 h1)), cond_true, or_eq_iff, sub_iff k2, List.all_eq_true] at h2
      have := h2 b hb
      rwa [hrel b] at this
    · rw [← hrel a]
      refine chi_mono (m := mask cols fr) (by rw [← hm]; exact iter_sub cols l _ _) ?_
      unfold mask
      rw [chi_adds hf, chi_zero, Bool.false_or]
      exact List.contains_iff_mem.2 ha
theorem closed_fol {cols : List (List UInt8)} (hc : cols.length ≤ 12) {l : List Dep} (hd : ∀ d ∈ l, okD cols d = true) (hl : l.length ≤ 500) {fr : List (List UInt8)} (hf : inC cols fr = true) (n : Nat) (hn : 3000 < n) :
    ∃ m : Nat, m < 4096 ∧ keys_closed n (l.map (toD cols)) (mask cols fr : Int) = some (m : Int) ∧ ∀ s, chi cols m s = true ↔ Fol l (fun a => a ∈ fr) s := by
  refine ⟨_, ?_, closed_ok n hc hd (by omega) hn (mask_ok hc hf) (l.length + 1) (by omega) (by omega), fun s => ?_⟩
  · have key : ∀ (k m : Nat), m < 4096 → iter (passC cols l) k m < 4096 := by
      intro k
      induction k with
      | zero => exact fun m hm => hm
      | succ k ih => exact fun m hm => ih _ (pass_lt hc hm hd)
    exact key _ _ (mask_ok hc hf)
  · have hrel : Rel cols (iter (passC cols l) (l.length + 1) (mask cols fr)) (reached l fr) := rel_iter hd (rel_start hf)
    rw [hrel s]
    exact reached_fol hd hf s

/-! ### Masks of one column -/
theorem mask_one {cols : List (List UInt8)} (b : List UInt8) : mask cols [b] = 2 ^ idx cols b := by
  show 0 ||| 2 ^ idx cols b = _
  rw [Nat.zero_or]
theorem mask_at {cols : List (List UInt8)} (hn : cols.Nodup) {i : Nat} (h : i < cols.length) : mask cols [cols[i]] = 2 ^ i := by rw [mask_one, idx_at hn h]
theorem hits {cols : List (List UInt8)} {b : List UInt8} (hb : b ∈ cols) (m : Nat) : decide ((m &&& mask cols [b] : Nat) = 0) = !chi cols m b := by
  rw [mask_one]
  unfold chi
  rw [List.contains_iff_mem.2 hb, Bool.true_and]
  have e : (m &&& 2 ^ idx cols b).testBit (idx cols b) = m.testBit (idx cols b) := by rw [Nat.testBit_and, testBit_two, dT rfl, Bool.and_true]
  cases h : m.testBit (idx cols b) with
  | false =>
    refine dT (Nat.eq_of_testBit_eq fun i => ?_)
    rw [Nat.testBit_and, testBit_two, Nat.zero_testBit]
    by_cases hi : idx cols b = i
    · rw [← hi, h]; rfl
    · rw [dF hi, Bool.and_false]
  | true =>
    refine dF fun h0 => ?_
    rw [h0, Nat.zero_testBit, h] at e
    cases e
theorem mask_chi {cols : List (List UInt8)} {l : List (List UInt8)} (h : inC cols l = true) (s : List UInt8) : chi cols (mask cols l) s = l.contains s := by
  unfold mask
  rw [chi_adds h, chi_zero, Bool.false_or]
theorem mask_bit' {cols : List (List UInt8)} (hn : cols.Nodup) {l : List (List UInt8)} (h : inC cols l = true) {i : Nat} (hi : i < cols.length) : (mask cols l).testBit i = l.contains cols[i] := by
  have := mask_chi h cols[i]
  unfold chi at this
  rwa [idx_at hn hi, List.contains_iff_mem.2 (List.getElem_mem _), Bool.true_and] at this
theorem mask_big {cols : List (List UInt8)} {l : List (List UInt8)} (h : inC cols l = true) {i : Nat} (hi : cols.length ≤ i) : (mask cols l).testBit i = false := by
  unfold mask
  rw [mask_bit, Nat.zero_testBit, Bool.false_or, List.any_eq_false]
  intro a ha hd
  have := of_decide_eq_true hd
  have := idx_lt (List.contains_iff_mem.2 (inC_iff.1 h a ha))
  omega
theorem andNot_nat {a c : Nat} (ha : a < 4096) (hc : c ≤ 12) : Fv.bits .andNot .i64 (a : Int) ((2 ^ c : Nat) : Int) = ((a ^^^ (a &&& 2 ^ c) : Nat) : Int) := by
  have h1 : c = 0 ∨ c = 1 ∨ c = 2 ∨ c = 3 ∨ c = 4 ∨ c = 5 ∨ c = 6 ∨ c = 7 ∨ c = 8 ∨ c = 9 ∨ c = 10 ∨ c = 11 ∨ c = 12 := by omega
  have h3 : a ^^^ (a &&& 2 ^ c) < 2 ^ 12 := Nat.xor_lt_two_pow (by simpa using ha) (Nat.lt_of_le_of_lt Nat.and_le_left (by simpa using ha))
  show IntKind.wrap .i64 _ = _
  have key : (BitVec.ofInt 64 (a : Int) &&& ~~~ BitVec.ofInt 64 ((2 ^ c : Nat) : Int)).toNat = a ^^^ (a &&& 2 ^ c) := by
    rw [BitVec.ofInt_natCast, BitVec.ofInt_natCast]
    apply Nat.eq_of_testBit_eq
    intro i
    rw [BitVec.testBit_toNat, BitVec.getLsbD_and, BitVec.getLsbD_not, BitVec.getLsbD_ofNat, BitVec.getLsbD_ofNat, Nat.testBit_xor, Nat.testBit_and]
    by_cases hi : i < 64
    · simp only [hi, decide_true, Bool.true_and]
      cases a.testBit i <;> cases (2 ^ c).testBit i <;> rfl
    · have : a.testBit i = false := Nat.testBit_lt_two_pow (Nat.lt_of_lt_of_le ha (Nat.le_trans (by decide : 4096 ≤ 2 ^ 64) (Nat.pow_le_pow_right (by omega) (by omega))))
      rw [this]
      simp [hi]
  refine (congrArg (fun z : Nat => IntKind.wrap .i64 (z : Int)) key).trans ?_
  exact w64 (by omega) (by omega)
theorem mask_drop {cols : List (List UInt8)} (hn : cols.Nodup) {l : List (List UInt8)} (h : inC cols l = true) {c : Nat} (hc : c < cols.length) : mask cols l ^^^ (mask cols l &&& 2 ^ c) = mask cols (l.filter fun a => a != cols[c]) := by
  have hf : inC cols (l.filter fun a => a != cols[c]) = true := inC_iff.2 fun s hs => inC_iff.1 h s (List.mem_filter.1 hs).1
  apply Nat.eq_of_testBit_eq
  intro i
  rw [Nat.testBit_xor, Nat.testBit_and, testBit_two]
  by_cases hi : i < cols.length
  · rw [mask_bit' hn h hi, mask_bit' hn hf hi]
    have e : (l.filter fun a => a != cols[c]).contains cols[i] = (l.contains cols[i] && cols[i] != cols[c]) := by
      rw [Bool.eq_iff_iff, List.contains_iff_mem, List.mem_filter, Bool.and_eq_true, List.contains_iff_mem]
    rw [e]
    by_cases hci : c = i
    · subst hci
      simp
    · have : (cols[i] != cols[c]) = true := by
        rw [bne_iff_ne]
        intro h'
        exact hci ((List.getElem_inj hn).1 h').symm
      rw [this, dF hci]
      simp
  · rw [mask_big h (by omega), mask_big hf (by omega)]
    rfl

/-! ### On the way -/
theorem fold_use {S R : Type} {L : Option R} {step : Nat → S → (S → Option R) → Option R} {fin : S → Option R} {c i : Nat} {s : S} (hf : L = foldN step fin c i s) (I : Nat → S → Prop) (N : Nat) (hc : c + i = N) (hi : I i s)
    (h : ∀ i s, i < N → I i s → ∃ s', I (i + 1) s' ∧ ∀ K, step i s K = K s') : ∃ s', I N s' ∧ L = fin s' := by
  obtain ⟨s', h1, h2⟩ := foldN_inv (fin := fin) I N h c i s hc hi
  exact ⟨s', h1, by rw [hf, h2]⟩
theorem bit_nat0 {x s : Nat} (hx : x < 9223372036854775808) (hs : s ≤ 64) : decide (Fv.bits .and .i64 (shr .i64 (x : Int) (s : Int)) 1 = 0) = !x.testBit s := by
  rw [shr_nat64 x s hs]
  have h : x >>> s ≤ x := Nat.shiftRight_le _ _
  have h1 := and_nat (a := x >>> s) (b := 1) (by omega) (by omega)
  rw [show ((1 : Nat) : Int) = 1 from rfl] at h1
  rw [h1, Nat.testBit_eq_decide_div_mod_eq, Nat.and_one_is_mod, Nat.shiftRight_eq_div_pow]
  generalize x / 2 ^ s = z
  rcases Nat.mod_two_eq_zero_or_one z with h | h <;> rw [h] <;> rfl

structure P1 (cols : List (List UInt8)) (x : List Dep) (k i : Nat) (l : List Dep) : Prop where
  one : ∀ d ∈ l, ∃ b, d.To = [b] ∧ b ∈ cols ∧ b ∉ d.From
  fr : ∀ d ∈ l, inC cols d.From = true
  src : ∀ d ∈ l, ∃ e ∈ x, d.From = e.From ∧ ∀ b ∈ d.To, b ∈ e.To
  done : ∀ j (h : j < x.length), j < k → ∀ b ∈ x[j].To, b ∈ x[j].From ∨ Dep.mk x[j].From [b] ∈ l
  part : ∀ h : k < x.length, ∀ c (h2 : c < cols.length), c < i → cols[c] ∈ x[k].To → cols[c] ∈ x[k].From ∨ Dep.mk x[k].From [cols[c]] ∈ l
  len : l.length ≤ 12 * k + i
theorem ph1_in {cols : List (List UInt8)} {x : List Dep} (ok : Ok cols x) (n m k : Nat) (hk : k < x.length) (l : List Dep) (h : P1 cols x k 0 l) (hn : 3000 < n) :
    ∃ l', P1 cols x (k + 1) 0 l' ∧ keys_Cover_l2 n m n cols (x.map (toD cols)) ((x.map (toD cols)).length : Int) (k : Int) (cols.length : Int) 0 (toD cols x[k]) (l.map (toD cols)) =
      keys_Cover_l0 n m cols (x.map (toD cols)) ((x.map (toD cols)).length : Int) (IntKind.wrap .i64 ((k : Int) + 1)) (l'.map (toD cols)) := by
  have hc := ok.c
  have hf := keys_Cover_l2_fold n m cols (x.map (toD cols)) ((x.map (toD cols)).length : Int) (k : Int) (toD cols x[k]) cols.length (l.map (toD cols)) (by omega) n 0 (Nat.zero_le _) (by omega)
  rw [show ((0 : Nat) : Int) = 0 from rfl] at hf
  obtain ⟨k1, k2⟩ := okD2 (ok.d x[k] (List.getElem_mem _))
  have m1 := mask_ok hc k1
  have m2 := mask_ok hc k2
  obtain ⟨s', ⟨l', h1, h2⟩, h3⟩ := fold_use hf (fun i s => ∃ l, s = l.map (toD cols) ∧ P1 cols x k i l) cols.length (by omega) ⟨l, rfl, h⟩ (by
    rintro i s hi ⟨l, rfl, hP⟩
    have hlen := hP.len
    have hln := ok.ln
    have e1 : decide (Fv.bits .and .i64 (shr .i64 (toD cols x[k]).to (i : Int)) 1 = 1) = x[k].To.contains cols[i] := by
      show decide (Fv.bits .and .i64 (shr .i64 (mask cols x[k].To : Int) (i : Int)) 1 = 1) = _
      rw [bit_nat (by omega) (by omega), mask_bit' ok.nd k2 hi]
    have e2 : decide (Fv.bits .and .i64 (shr .i64 (toD cols x[k]).from_ (i : Int)) 1 = 0) = !x[k].From.contains cols[i] := by
      show decide (Fv.bits .and .i64 (shr .i64 (mask cols x[k].From : Int) (i : Int)) 1 = 0) = _
      rw [bit_nat0 (by omega) (by omega), mask_bit' ok.nd k1 hi]
    have next : ∀ l2, (∀ d ∈ l, d ∈ l2) → (∀ d ∈ l2, d ∈ l ∨ (d = Dep.mk x[k].From [cols[i]] ∧ cols[i] ∈ x[k].To ∧ cols[i] ∉ x[k].From)) → l2.length ≤ l.length + 1 → (cols[i] ∈ x[k].To → cols[i] ∈ x[k].From ∨ Dep.mk x[k].From [cols[i]] ∈ l2) → P1 cols x k (i + 1) l2 := by
      intro l2 h1 h2 h3 h4
      refine ⟨fun d hd => ?_, fun d hd => ?_, fun d hd => ?_, fun j h hj b hb => ?_, fun h c h2 hc hb => ?_, by omega⟩
      · rcases h2 d hd with h | ⟨rfl, h5, h6⟩
        · exact hP.one d h
        · exact ⟨_, rfl, List.getElem_mem _, h6⟩
      · rcases h2 d hd with h | ⟨rfl, h5, h6⟩
        · exact hP.fr d h
        · exact k1
      · rcases h2 d hd with h | ⟨rfl, h5, h6⟩
        · exact hP.src d h
        · exact ⟨x[k], List.getElem_mem _, rfl, fun b hb => by rw [List.mem_singleton] at hb; rw [hb]; exact h5⟩
      · exact (hP.done j h hj b hb).imp id fun h => h1 _ h
      · by_cases hci : c = i
        · subst hci
          exact h4 hb
        · exact (hP.part h c h2 (by omega) hb).imp id fun h => h1 _ h
    simp only [d0, e1, e2, cond_true]
    cases ht : x[k].To.contains cols[i] with
    | false =>
      refine ⟨l.map (toD cols), ⟨l, rfl, next l (fun _ h => h) (fun _ h => .inl h) (by omega) fun h => ?_⟩, fun K => rfl⟩
      rw [List.contains_iff_mem.2 h] at ht
      cases ht
    | true =>
      cases hfr : x[k].From.contains cols[i] with
      | true => exact ⟨l.map (toD cols), ⟨l, rfl, next l (fun _ h => h) (fun _ h => .inl h) (by omega) fun h => .inl (List.contains_iff_mem.1 hfr)⟩, fun K => rfl⟩
      | false =>
        have hb : (l.map (toD cols)).length + ([(dep.mk (toD cols x[k]).from_ (shl .i64 (1 : Int) (i : Int)))] : List dep).length ≤ 4294967296 := by
          simp only [List.length_map, List.length_cons, List.length_nil]
          omega
        simp only [Bool.not_false, cond_true, decide_true, Bool.true_and, dT hb]
        refine ⟨_, ⟨l ++ [Dep.mk x[k].From [cols[i]]], ?_, next _ (fun d h => by simp [h]) (fun d hd => ?_) (by simp) fun _ => .inr (by simp)⟩, fun K => rfl⟩
        · rw [List.map_append, List.map_singleton, shl_nat (by omega)]
          have : toD cols (Dep.mk x[k].From [cols[i]]) = dep.mk (toD cols x[k]).from_ ((2 ^ i : Nat) : Int) := by
            unfold toD
            rw [mask_at ok.nd hi]
          rw [this]
        · rcases List.mem_append.1 hd with hd | hd
          · exact .inl hd
          · rw [List.mem_singleton] at hd
            refine .inr ⟨hd, List.contains_iff_mem.1 ht, fun h => ?_⟩
            rw [List.contains_iff_mem.2 h] at hfr
            cases hfr)
  subst h1
  refine ⟨l', ⟨h2.one, h2.fr, h2.src, fun j h hj b hb => ?_, fun h c _ hc => absurd hc (Nat.not_lt_zero _), by have := h2.len; omega⟩, h3⟩
  by_cases hjk : j = k
  · subst hjk
    have hbc := inC_iff.1 k2 b hb
    obtain ⟨c, hc, rfl⟩ := List.getElem_of_mem hbc
    exact h2.part (by assumption) c hc hc hb
  · exact h2.done j h (by omega) b hb
theorem ph1 {cols : List (List UInt8)} {x : List Dep} (ok : Ok cols x) (n : Nat) (hn : 3000 < n) : ∀ (m k : Nat) (l : List Dep), k ≤ x.length → x.length - k < m → P1 cols x k 0 l →
    ∃ l', P1 cols x x.length 0 l' ∧ keys_Cover_l0 n m cols (x.map (toD cols)) ((x.map (toD cols)).length : Int) (k : Int) (l.map (toD cols)) = keys_Cover_l4 n n cols l'.length (l'.length : Int) 0 (l'.map (toD cols)) := by
  intro m
  induction m with
  | zero => intro k l _ h; omega
  | succ m ih =>
    intro k l hk hm hP
    have hln := ok.ln
    rw [keys_Cover_l0_eq, dlt]
    by_cases h : k < x.length
    · have h' : k < (x.map (toD cols)).length := by simpa using h
      obtain ⟨l1, h1, h2⟩ := ph1_in ok n m k h l hP hn
      obtain ⟨l2, h3, h4⟩ := ih (k + 1) l1 (by omega) (by omega) h1
      refine ⟨l2, h3, ?_⟩
      rw [← h4]
      simp only [dT h', d0, dlt, Bool.and_self, cond_true, Int.toNat_natCast, getD_lt _ h', List.getElem_map]
      rw [h2, i64_succ (by omega)]
    · have hkx : k = x.length := by omega
      subst hkx
      have h' : ¬ x.length < (x.map (toD cols)).length := by simp
      refine ⟨l, hP, ?_⟩
      rw [dF h', cond_false, List.length_map]

structure Cov (cols : List (List UInt8)) (x l : List Dep) : Prop where
  one : ∀ d ∈ l, ∃ b, d.To = [b] ∧ b ∈ cols ∧ b ∉ d.From
  fr : ∀ d ∈ l, inC cols d.From = true
  to : Imp x l
  back : Imp l x
  len : l.length ≤ 300
theorem Cov.okD {cols : List (List UInt8)} {x l : List Dep} (h : Cov cols x l) : ∀ d ∈ l, okD cols d = true := by
  intro d hd
  obtain ⟨b, h1, h2, _⟩ := h.one d hd
  show (inC cols d.From && inC cols d.To) = true
  rw [h.fr d hd, h1, Bool.true_and, inC_iff]
  intro s hs
  rw [List.mem_singleton] at hs
  rw [hs]
  exact h2
theorem P1.cov {cols : List (List UInt8)} {x l : List Dep} (ok : Ok cols x) (h : P1 cols x x.length 0 l) : Cov cols x l := by
  refine ⟨h.one, h.fr, Imp.of fun d hd b hb => ?_, fun P hc e he hF b hb => ?_, by have := h.len; have := ok.ln; omega⟩
  · obtain ⟨e, he, h1, h2⟩ := h.src d hd
    intro P hc hF
    exact hc e he (by rw [← h1]; exact hF) b (h2 b hb)
  · obtain ⟨j, hj, rfl⟩ := List.getElem_of_mem he
    rcases h.done j hj hj b hb with h1 | h1
    · exact hF b h1
    · exact hc _ h1 hF b (by simp)

/-! ### No column too many -/
def RedTo (x : List Dep) (cols : List (List UInt8)) (c : Nat) (d : Dep) : Prop := ∀ j (h : j < cols.length), j < c → cols[j] ∈ d.From → ¬ ∀ b ∈ d.To, Fol x (fun a => a ∈ d.From ∧ a ≠ cols[j]) b
structure P2 (cols : List (List UInt8)) (x : List Dep) (L i c : Nat) (l : List Dep) : Prop where
  cov : Cov cols x l
  len : l.length = L
  red : ∀ j (h : j < l.length), j < i → RedTo x cols cols.length l[j]
  now : ∀ h : i < l.length, RedTo x cols c l[i]
theorem fol_filter {l : List Dep} {f : List (List UInt8)} {a b : List UInt8} : Fol l (fun s => s ∈ f.filter fun s => s != a) b ↔ Fol l (fun s => s ∈ f ∧ s ≠ a) b := by
  constructor
  · exact fun h => h.mono fun s hs => by
      obtain ⟨h1, h2⟩ := List.mem_filter.1 hs
      exact ⟨h1, bne_iff_ne.1 h2⟩
  · exact fun h => h.mono fun s hs => List.mem_filter.2 ⟨hs.1, bne_iff_ne.2 hs.2⟩
theorem ph2_in {cols : List (List UInt8)} {x : List Dep} (ok : Ok cols x) (n m L i : Nat) (l : List Dep) (h : P2 cols x L i 0 l) (hi : i < l.length) (hn : 3000 < n) :
    ∃ l', P2 cols x L (i + 1) 0 l' ∧ keys_Cover_l6 n m n cols L (i : Int) (L : Int) (i : Int) (cols.length : Int) 0 (l.map (toD cols)) = keys_Cover_l4 n m cols L (L : Int) (IntKind.wrap .i64 ((i : Int) + 1)) (l'.map (toD cols)) := by
  have hc := ok.c
  have hf := keys_Cover_l6_fold n m cols L (i : Int) (L : Int) (i : Int) cols.length (l.map (toD cols)) (by omega) n 0 (Nat.zero_le _) (by omega)
  rw [show ((0 : Nat) : Int) = 0 from rfl] at hf
  have hiL : i < L := by rw [← h.len]; exact hi
  obtain ⟨s', ⟨l', h1, h2⟩, h3⟩ := fold_use hf (fun c s => ∃ l, s = l.map (toD cols) ∧ P2 cols x L i c l) cols.length (by omega) ⟨l, rfl, h⟩ (by
    rintro c s hcl ⟨l, rfl, hP⟩
    have hlen := hP.len
    have hll := hP.cov.len
    have hi : i < l.length := by omega
    have him : i < (l.map (toD cols)).length := by simpa using hi
    have hi0 : 0 + i < (l.map (toD cols)).length := by omega
    have hL : 0 + L ≤ (l.map (toD cols)).length := by rw [List.length_map]; omega
    have hg : (l.map (toD cols)).getD (0 + i) (dep.mk 0 0) = toD cols l[i] := by rw [Nat.zero_add, getD_lt _ him, List.getElem_map]
    have htk : (l.map (toD cols)).take L = l.map (toD cols) := List.take_of_length_le (by rw [List.length_map]; omega)
    obtain ⟨b, hb1, hb2, hb3⟩ := hP.cov.one l[i] (List.getElem_mem _)
    have hfr := hP.cov.fr l[i] (List.getElem_mem _)
    have hfr' : inC cols (l[i].From.filter fun a => a != cols[c]) = true := inC_iff.2 fun s hs => inC_iff.1 hfr s (List.mem_filter.1 hs).1
    have m1 := mask_ok hc hfr
    have hto : inC cols l[i].To = true := (okD2 (hP.cov.okD _ (List.getElem_mem _))).2
    have m2 := mask_ok hc hto
    have ea : Fv.bits .andNot .i64 (toD cols l[i]).from_ (shl .i64 (1 : Int) (c : Int)) = (mask cols (l[i].From.filter fun a => a != cols[c]) : Int) := by
      show Fv.bits .andNot .i64 (mask cols l[i].From : Int) _ = _
      rw [shl_nat (by omega), andNot_nat m1 (by omega), mask_drop ok.nd hfr hcl]
    have et : ∀ m : Nat, m < 4096 → decide (Fv.bits .and .i64 (m : Int) (toD cols l[i]).to = 0) = !chi cols m b := by
      intro m hm
      show decide (Fv.bits .and .i64 (m : Int) (mask cols l[i].To : Int) = 0) = _
      rw [and_nat (by omega) (by omega), ← hits hb2 m, hb1]
      congr 1
      simp only [eq_iff_iff]
      omega
    have ef : decide ((mask cols (l[i].From.filter fun a => a != cols[c]) : Int) = (toD cols l[i]).from_) = !l[i].From.contains cols[c] := by
      show decide ((mask cols (l[i].From.filter fun a => a != cols[c]) : Int) = (mask cols l[i].From : Int)) = _
      cases hct : l[i].From.contains cols[c] with
      | false =>
        refine dT ?_
        have : (l[i].From.filter fun a => a != cols[c]) = l[i].From := by
          rw [List.filter_eq_self]
          intro a ha
          rw [bne_iff_ne]
          intro h
          rw [h] at ha
          rw [List.contains_iff_mem.2 ha] at hct
          cases hct
        rw [this]
      | true =>
        refine dF fun h => ?_
        have h : mask cols (l[i].From.filter fun a => a != cols[c]) = mask cols l[i].From := by omega
        have h2 := mask_bit' ok.nd hfr' hcl
        rw [h, mask_bit' ok.nd hfr hcl, hct] at h2
        have h2 := List.contains_iff_mem.1 h2.symm
        have := (List.mem_filter.1 h2).2
        simp at this
    have d1 : decide ((i : Int) < (L : Int)) = true := dT (by omega)
    have same : (cols[c] ∈ l[i].From → ¬ ∀ b ∈ l[i].To, Fol x (fun a => a ∈ l[i].From ∧ a ≠ cols[c]) b) → P2 cols x L i (c + 1) l := fun hs => ⟨hP.cov, hP.len, hP.red, fun h j hj hjc hm => by
      by_cases hjc' : j = c
      · subst hjc'
        exact hs hm
      · exact hP.now h j hj (by omega) hm⟩
    simp only [d0, d1, dT hi0, dT hL, hg, htk, ea, ef, Int.toNat_natCast, Bool.and_self, Bool.and_true, Bool.true_and, cond_true]
    cases hct : l[i].From.contains cols[c] with
    | false =>
      refine ⟨_, ⟨l, rfl, same fun hm => ?_⟩, fun K => rfl⟩
      rw [List.contains_iff_mem.2 hm] at hct
      cases hct
    | true =>
      obtain ⟨mm, k1, k2, k3⟩ := closed_fol hc hP.cov.okD (by omega) hfr' n hn
      simp only [k2, bind_some2, et mm k1, Bool.not_not, Bool.not_true, Bool.not_false, cond_true]
      have k4 := (k3 b).trans fol_filter
      cases hch : chi cols mm b with
      | false =>
        refine ⟨_, ⟨l, rfl, same fun hm hall => ?_⟩, fun K => rfl⟩
        have := k4.2 (hP.cov.back.fol (hall b (by rw [hb1]; simp)))
        rw [hch] at this
        cases this
      | true =>
        have hfol := k4.1 hch
        generalize hd' : Dep.mk (l[i].From.filter fun a => a != cols[c]) l[i].To = d' at *
        have hset : (l.map (toD cols)).set (0 + i) (dep.mk (mask cols (l[i].From.filter fun a => a != cols[c]) : Int) (toD cols l[i]).to) = (l.set i d').map (toD cols) := by
          rw [Nat.zero_add, List.map_set, ← hd']
          rfl
        have hmem : ∀ d ∈ l.set i d', d ∈ l ∨ d = d' := fun d hd => List.mem_or_eq_of_mem_set hd
        have hcov : Cov cols x (l.set i d') := by
          refine ⟨fun d hd => ?_, fun d hd => ?_, Imp.of fun d hd b' hb' => ?_, Imp.trans (Imp.of fun d hd b' hb' => ?_) hP.cov.back, by rw [List.length_set]; exact hll⟩
          · rcases hmem d hd with h | rfl
            · exact hP.cov.one d h
            · rw [← hd']
              exact ⟨b, hb1, hb2, fun h => hb3 (List.mem_filter.1 h).1⟩
          · rcases hmem d hd with h | rfl
            · exact hP.cov.fr d h
            · rw [← hd']
              exact hfr'
          · rcases hmem d hd with h | rfl
            · exact fun P hcx hF => hP.cov.to P hcx d h hF b' hb'
            · rw [← hd'] at hb' ⊢
              have hb' : b' ∈ l[i].To := hb'
              rw [hb1, List.mem_singleton] at hb'
              subst hb'
              exact fol_filter.2 (hP.cov.to.fol hfol)
          · obtain ⟨j, hj, rfl⟩ := List.getElem_of_mem hd
            by_cases hji : j = i
            · subst hji
              intro P hcl' hF
              refine hcl' d' (List.mem_set hj d') (fun a ha => hF a ?_) b' ?_
              · rw [← hd'] at ha
                exact (List.mem_filter.1 ha).1
              · rw [← hd']
                exact hb'
            · intro P hcl' hF
              refine hcl' l[j] ?_ hF b' hb'
              have : (l.set i d')[j]'(by simpa using hj) = l[j] := List.getElem_set_ne (fun h => hji h.symm) _
              rw [← this]
              exact List.getElem_mem _
        refine ⟨_, ⟨l.set i d', hset, hcov, by rw [List.length_set]; exact hlen, fun j hj hji => ?_, fun h j hj hjc hm => ?_⟩, fun K => rfl⟩
        · rw [List.getElem_set_ne (by omega)]
          exact hP.red j (by simpa using hj) hji
        · simp only [List.getElem_set_self] at hm ⊢
          rw [← hd'] at hm ⊢
          obtain ⟨hm1, hm2⟩ := List.mem_filter.1 hm
          have hne := bne_iff_ne.1 hm2
          have hjc2 : j ≠ c := by
            intro h
            subst h
            exact hne rfl
          refine fun hall => hP.now hi j hj (by omega) hm1 fun b' hb' => ?_
          exact (hall b' hb').mono fun a ha => ⟨(List.mem_filter.1 ha.1).1, ha.2⟩)
  subst h1
  refine ⟨l', ⟨h2.cov, h2.len, fun j hj hji => ?_, fun h j _ hj => absurd hj (Nat.not_lt_zero _)⟩, h3⟩
  by_cases h : j = i
  · subst h
    exact h2.now hj
  · exact h2.red j hj (by omega)
theorem ph2 {cols : List (List UInt8)} {x : List Dep} (ok : Ok cols x) (n : Nat) (hn : 3000 < n) (L : Nat) : ∀ (m i : Nat) (l : List Dep), i ≤ L → L - i < m → P2 cols x L i 0 l →
    ∃ l', P2 cols x L L 0 l' ∧ keys_Cover_l4 n m cols L (L : Int) (i : Int) (l.map (toD cols)) = keys_Cover_l8 n n cols L 0 (l'.map (toD cols)) := by
  intro m
  induction m with
  | zero => intro i l _ h; omega
  | succ m ih =>
    intro i l hi hm hP
    have hlen := hP.len
    have hll := hP.cov.len
    rw [keys_Cover_l4_eq, dlt]
    by_cases h : i < L
    · obtain ⟨l1, h1, h2⟩ := ph2_in ok n m L i l hP (by omega) hn
      obtain ⟨l2, h3, h4⟩ := ih (i + 1) l1 (by omega) (by omega) h1
      refine ⟨l2, h3, ?_⟩
      rw [dT h, cond_true, h2, i64_succ (by omega), h4]
    · have : i = L := by omega
      subst this
      exact ⟨l, hP, by rw [dF h, cond_false]⟩

/-! ### No dependency too many -/
def Need (l : List Dep) (j : Nat) (h : j < l.length) : Prop := ¬ ∀ b ∈ l[j].To, Fol (l.eraseIdx j) (fun a => a ∈ l[j].From) b
theorem cloneR_ok (n : Nat) (w : List dep) (k : Nat) (h : 0 < k) (h2 : k ≤ w.length) (h3 : w.length ≤ 4294967296) : slices_Clone n (w, 0, k) = some (w.take k, w, ()) := by
  have hl : List.length ([] : List dep) + (List.take k w).length ≤ 4294967296 := by
    rw [List.length_take, List.length_nil]
    omega
  have hz : decide (0 = List.length ([] : List dep)) = true := rfl
  rw [slices_Clone_eq]
  simp only [dT h, cond_true, List.nil_append, decide_true, Bool.and_true, List.drop_zero, hz, dT hl]
theorem erase_map {A B : Type} (f : A → B) : ∀ (l : List A) (i : Nat), (l.map f).eraseIdx i = (l.eraseIdx i).map f
  | [], _ => rfl
  | a :: l, 0 => rfl
  | a :: l, i + 1 => by
    show f a :: (l.map f).eraseIdx i = f a :: (l.eraseIdx i).map f
    rw [erase_map f l i]
theorem erase_over {A : Type} (w : List A) (z : A) (i : Nat) (h : i < w.length) : (over (over w ((w.drop (i + 1)).take (w.length - (i + 1))) i) [z] (i + (w.length - (i + 1)))).take (i + (w.length - (i + 1))) = w.eraseIdx i := by
  have e1 : (w.drop (i + 1)).take (w.length - (i + 1)) = w.drop (i + 1) := List.take_of_length_le (by rw [List.length_drop]; omega)
  have e2 : over w (w.drop (i + 1)) i = w.take i ++ w.drop (i + 1) ++ w.drop (i + (w.drop (i + 1)).length) := rfl
  have e3 : (w.take i ++ w.drop (i + 1)).length = i + (w.length - (i + 1)) := by
    rw [List.length_append, List.length_take, List.length_drop]
    omega
  rw [e1]
  generalize hv : over w (w.drop (i + 1)) i = v
  have hv2 : v.take (i + (w.length - (i + 1))) = w.take i ++ w.drop (i + 1) := by
    rw [← hv, e2, List.take_append_of_le_length (by omega), List.take_of_length_le (by omega)]
  show (v.take (i + (w.length - (i + 1))) ++ [z] ++ _).take _ = _
  rw [hv2, List.append_assoc, List.take_append_of_le_length (by omega), List.take_of_length_le (by omega), List.eraseIdx_eq_take_drop_succ]
theorem del_ok (n : Nat) (w : List dep) (i : Nat) (h : i < w.length) (h3 : w.length ≤ 4294967296) : ∃ ws, slices_Delete n (w, 0, w.length) (i : Int) ((i + 1 : Nat) : Int) = some (w.length - 1, ws, ()) ∧ ws.length = w.length ∧ ws.take (w.length - 1) = w.eraseIdx i := by
  have e : i + (w.length - (i + 1)) = w.length - 1 := by omega
  have h0 := erase_over w (dep.mk 0 0) i h
  rw [e] at h0
  refine ⟨_, ?_, ?_, h0⟩
  · rw [slices_Delete_eq]
    have z0 : Int.toNat (0 : Int) = 0 := rfl
    have o1 : (over w ((w.drop (i + 1)).take (w.length - (i + 1))) i).length = w.length := over_len (by rw [List.length_take, List.length_drop]; omega)
    have c1 : ((i : Nat) : Int) ≤ ((i + 1 : Nat) : Int) := by omega
    have c2 : ((i + 1 : Nat) : Int) ≤ (w.length : Int) := by omega
    have c3 : ¬ ((i : Nat) : Int) = ((i + 1 : Nat) : Int) := by omega
    have c4 : ((0 : Nat) : Int) + (w.length : Int) ≤ (w.length : Int) := by omega
    have c5 : ((0 : Nat) : Int) + (i : Int) ≤ (w.length : Int) := by omega
    have c6 : i + (w.length - (i + 1)) ≤ w.length := by omega
    have c7 : (i + 1) + (w.length - (i + 1)) ≤ w.length := by omega
    have c8 : ((i + (w.length - (i + 1)) : Nat) : Int) ≤ (w.length : Int) := by omega
    have c9 : ((0 : Nat) : Int) + ((w.length : Nat) : Int) ≤ ((w.length : Nat) : Int) := by omega
    have c10 : i + (w.length - (i + 1)) + (w.length - (i + (w.length - (i + 1)))) ≤ w.length := by omega
    have c11 : w.length - (i + (w.length - (i + 1))) = 1 := by omega
    simp only [d0, z0, Nat.zero_add, Nat.sub_zero, Int.toNat_natCast, dT c1, dT c2, dF c3, dT c4, dT c5, dT c6, dT c7, dT c8, o1, dT c10, c11, Bool.and_self, cond_true, cond_false, decide_true, d00, List.replicate_one]
    have c12 : w.length - 1 + 1 ≤ w.length := by omega
    rw [e, dT c12, cond_true]
  · rw [over_len (by rw [over_len (by rw [List.length_take, List.length_drop]; omega), List.length_singleton]; omega), over_len (by rw [List.length_take, List.length_drop]; omega)]
theorem mem_erase {A : Type} {l : List A} {j : Nat} {a : A} (h : a ∈ l.eraseIdx j) : a ∈ l := (List.eraseIdx_sublist l j).subset h
theorem erase_get {A : Type} {l : List A} {i k : Nat} (h : k < l.length) (hk : k ≠ i) : l[k] ∈ l.eraseIdx i := by
  rw [List.mem_eraseIdx_iff_getElem]
  exact ⟨k, h, hk, rfl⟩
theorem Cov.erase {cols : List (List UInt8)} {x l : List Dep} (h : Cov cols x l) {i : Nat} (hi : i < l.length) (hf : ∀ b ∈ l[i].To, Fol (l.eraseIdx i) (fun a => a ∈ l[i].From) b) : Cov cols x (l.eraseIdx i) := by
  refine ⟨fun d hd => h.one d (mem_erase hd), fun d hd => h.fr d (mem_erase hd), h.to.trans (Imp.sub fun d hd => mem_erase hd), Imp.trans (Imp.of fun d hd b hb => ?_) h.back, Nat.le_trans (List.length_eraseIdx_le _ _) h.len⟩
  obtain ⟨k, hk, rfl⟩ := List.getElem_of_mem hd
  by_cases hki : k = i
  · subst hki
    exact hf b hb
  · exact fun P hc hF => hc _ (erase_get hk hki) hF b hb
theorem ph3 {cols : List (List UInt8)} {x : List Dep} (ok : Ok cols x) (n : Nat) (hn : 3000 < n) : ∀ (m i : Nat) (l : List Dep) (w : List dep), i ≤ l.length → l.length - i < m → Cov cols x l → (∀ d ∈ l, RedTo x cols cols.length d) → (∀ j (h : j < l.length), j < i → Need l j h) → w.take l.length = l.map (toD cols) → l.length ≤ w.length → w.length ≤ 300 →
    ∃ l' w', Cov cols x l' ∧ (∀ d ∈ l', RedTo x cols cols.length d) ∧ (∀ j (h : j < l'.length), Need l' j h) ∧ w'.take l'.length = l'.map (toD cols) ∧ l'.length ≤ w'.length ∧
      keys_Cover_l8 n m cols l.length (i : Int) w = keys_Cover_l10 n n cols [] l'.length (l'.length : Int) 0 w' := by
  intro m
  induction m with
  | zero => intro i l w _ h; omega
  | succ m ih =>
    intro i l w hi hm hcov hred hneed hw hwl hw3
    have hc := ok.c
    rw [keys_Cover_l8_eq, dlt]
    by_cases h : i < l.length
    · have hll := hcov.len
      have hwt : (w.take l.length).length = l.length := by rw [List.length_take]; omega
      have hiw : i < w.length := by omega
      obtain ⟨ws, q1, q2, q3⟩ := del_ok n (w.take l.length) i (by omega) (by omega)
      rw [hwt] at q1 q2 q3
      have q3 : ws.take (l.length - 1) = (l.eraseIdx i).map (toD cols) := by rw [q3, hw, erase_map]
      have hel : (l.eraseIdx i).length = l.length - 1 := List.length_eraseIdx_of_lt h
      obtain ⟨b, hb1, hb2, hb3⟩ := hcov.one l[i] (List.getElem_mem _)
      have hfr := hcov.fr l[i] (List.getElem_mem _)
      have hto : inC cols l[i].To = true := (okD2 (hcov.okD _ (List.getElem_mem _))).2
      have m2 := mask_ok hc hto
      have hg : w.getD (0 + i) (dep.mk 0 0) = toD cols l[i] := by
        rw [Nat.zero_add, getD_lt _ hiw]
        have e : (w.take l.length)[i]'(by omega) = w[i] := List.getElem_take
        rw [← e]
        simp only [hw, List.getElem_map]
      have d1 : decide ((i : Int) < (l.length : Int)) = true := dT (by omega)
      obtain ⟨mm, k1, k2, k3⟩ := closed_fol hc (fun d hd => hcov.okD d (mem_erase hd)) (by omega) hfr (l := l.eraseIdx i) n hn
      have k2' : keys_closed n ((l.eraseIdx i).map (toD cols)) (toD cols l[i]).from_ = some (mm : Int) := k2
      have et : decide (Fv.bits .and .i64 (mm : Int) (toD cols l[i]).to = 0) = !chi cols mm b := by
        show decide (Fv.bits .and .i64 (mm : Int) (mask cols l[i].To : Int) = 0) = _
        rw [and_nat (by omega) (by omega), ← hits hb2 mm, hb1]
        congr 1
        simp only [eq_iff_iff]
        omega
      have hi0 : 0 + i < w.length := by omega
      have hk0 : 0 + (l.length - 1) ≤ ws.length := by omega
      rw [dT h, cond_true, cloneR_ok n w l.length (by omega) hwl (by omega), bind_some2]
      simp only [hwt, i64_succ (show i < 9223372036854775807 by omega)]
      rw [q1, bind_some2]
      simp only [dT (show l.length - 1 ≤ ws.length by omega), d0, d1, dT hi0, dT hk0, hg, q3, Int.toNat_natCast, Bool.and_self, Bool.and_true, Bool.true_and, cond_true]
      rw [k2', bind_some2, et, Bool.not_not]
      cases hch : chi cols mm b with
      | true =>
        have hfol := (k3 b).1 hch
        have hf : ∀ b ∈ l[i].To, Fol (l.eraseIdx i) (fun a => a ∈ l[i].From) b := by
          intro b' hb'
          rw [hb1, List.mem_singleton] at hb'
          rw [hb']
          exact hfol
        have hq := Cov.erase hcov h hf
        have hnd2 : ∀ j (h : j < (l.eraseIdx i).length), j < i → Need (l.eraseIdx i) j h := by
          intro j hj hji
          have hjl : j < l.length := by omega
          have e1 : (l.eraseIdx i)[j] = l[j] := List.getElem_eraseIdx_of_lt _ hji
          have hnd := hneed j hjl hji
          intro hall
          refine hnd fun b' hb' => ?_
          have h5 := hall b' (by rw [e1]; exact hb')
          rw [e1] at h5
          refine Imp.fol (Imp.sub fun d hd => ?_) h5
          rw [List.mem_eraseIdx_iff_getElem] at hd
          obtain ⟨k, hk, hkj, rfl⟩ := hd
          rw [List.getElem_eraseIdx]
          split
          · exact erase_get (by omega) hkj
          · exact erase_get (by omega) (by omega)
        obtain ⟨l', w', r1, r2, r3, r4, r5, r6⟩ := ih i (l.eraseIdx i) ws (by omega) (by omega) hq (fun d hd => hred d (mem_erase hd)) hnd2 (by rw [hel]; exact q3) (by omega) (by omega)
        exact ⟨l', w', r1, r2, r3, r4, r5, by rw [← r6, hel, cond_true]⟩
      | false =>
        have hnd2 : ∀ j (h : j < l.length), j < i + 1 → Need l j h := by
          intro j hj hji
          by_cases hji' : j = i
          · subst hji'
            intro hall
            have := (k3 b).2 (hall b (by rw [hb1]; simp))
            rw [hch] at this
            cases this
          · exact hneed j hj (by omega)
        obtain ⟨l', w', r1, r2, r3, r4, r5, r6⟩ := ih (i + 1) l w (by omega) (by omega) hcov hred hnd2 hw hwl hw3
        exact ⟨l', w', r1, r2, r3, r4, r5, by rw [← r6, cond_false]⟩
    · have hil : i = l.length := by omega
      exact ⟨l, w, hcov, hred, fun j hj => hneed j hj (by omega), hw, hwl, by rw [dF h, cond_false]⟩

/-! ### Lists in order -/
theorem eq_go (n : Nat) (v0 v1 : List (List UInt8)) (hl : v0.length = v1.length) : ∀ (l : List (List UInt8)) (i : Nat), l = v0.drop i → i ≤ v0.length →
    foldK (S := Unit) (fun i (a : (List UInt8)) s K => (bif (decide (0 ≤ (i : Int)) && decide ((i : Int) < List.length v1)) then (bif (!(a == (List.getD v1 (Int.toNat (i : Int)) []))) then (some false) else (K ())) else none)) (fun s => (some true)) l i () = some (decide (l = v1.drop i))
  | [], i, h, hi => by
    have hi2 : ¬ i < v0.length := fun hi2 => by rw [List.drop_eq_getElem_cons hi2] at h; cases h
    rw [List.drop_eq_nil_of_le (by omega)]
    rfl
  | a :: l, i, h, hi => by
    have hi2 : i < v0.length := by
      apply Classical.byContradiction
      intro hi2
      rw [List.drop_eq_nil_of_le (by omega)] at h
      cases h
    have h0 := h
    rw [List.drop_eq_getElem_cons hi2] at h
    injection h with h1 h2
    have hi3 : i < v1.length := by omega
    rw [foldK_cons, d0, dlt, dT hi3, Int.toNat_natCast, getD_lt _ hi3]
    show (bif true && true then bif !a == v1[i] then some false else foldK _ _ l (i + 1) () else none) = _
    rw [eq_go n v0 v1 hl l (i + 1) h2 (by omega)]
    have e : List.drop i v1 = v1[i] :: List.drop (i + 1) v1 := List.drop_eq_getElem_cons hi3
    by_cases hq : a = v1[i]
    · simp only [hq, beq_self_eq_true, Bool.not_true, Bool.and_self, cond_true, cond_false, e, List.cons.injEq, true_and]
    · have : (a == v1[i]) = false := by simpa using hq
      have h3 : ¬ a :: l = List.drop i v1 := by rw [e]; intro h; injection h with h; exact hq h
      rw [this, dF h3]
      rfl
theorem equal_ok (n : Nat) (v0 v1 : List (List UInt8)) (h : v0.length < 9223372036854775807) (hn : v0.length < n) : slices_Equal n v0 v1 = some (decide (v0 = v1)) := by
  rw [slices_Equal_eq]
  by_cases hl : v0.length = v1.length
  · have hf := slices_Equal_l0_fold n v0 v1 h n 0 (Nat.zero_le _) (by omega)
    rw [show ((0 : Nat) : Int) = 0 from rfl, List.drop_zero] at hf
    rw [dT (by rw [hl]), Bool.not_true, cond_false, hf, eq_go n v0 v1 hl v0 0 rfl (Nat.zero_le _), List.drop_zero]
  · have h2 : ¬ v0 = v1 := fun h2 => hl (by rw [h2])
    have h3 : ¬ ((v0.length : Nat) : Int) = ((v1.length : Nat) : Int) := by omega
    rw [dF h3, dF h2]
    rfl
theorem closure_ok (n : Nat) (cols : List (List UInt8)) (l : List Dep) (fr : List (List UInt8)) (h : Sm n cols l) (hf : fr.length < n ∧ fr.length < 9223372036854775807) :
    keys_Closure n cols l fr = some (bif decide (depErr n cols l = 0) then (bif inC cols fr then (cols.filter (has (reached l fr)), 0) else ([], 4)) else ([], depErr n cols l)) := by
  rw [keys_Closure_eq, read_ok n cols l h, bind_some2]
  by_cases h0 : depErr n cols l = 0
  · have ok := ok_of h0
    have hbig := h.big
    rw [h0]
    simp only [decide_true, Bool.not_true, cond_false, cond_true]
    rw [set_ok n cols fr ok.c (by omega) hf.2 hf.1, bind_some2]
    cases hin : inC cols fr with
    | false => rfl
    | true =>
      obtain ⟨m, m1, m2, m3⟩ := closed_rel ok hin n (by omega)
      simp only [cond_true, Bool.not_true, cond_false]
      rw [m2, bind_some2, list_ok n ok.c ok.nd m1 (by omega), bind_some2]
      have e2 : chi cols m = has (reached l fr) := by funext s; exact m3 s
      rw [e2]
  · simp only [dF h0, Bool.not_false, cond_true, cond_false]
theorem nm_a (n : Nat) (h : 3000 < n) : nmB n [97] = true ∧ nmB n [98] = true := by
  have h1 := value_Name_l0_fold n [97] (by decide) n 0 (Nat.zero_le _) (by simp; omega)
  have h2 := value_Name_l0_fold n [98] (by decide) n 0 (Nat.zero_le _) (by simp; omega)
  rw [show ((0 : Nat) : Int) = 0 from rfl] at h1 h2
  unfold nmB
  rw [value_Name_eq, value_Name_eq, show ints [97] = [97] from rfl, show ints [98] = [98] from rfl, h1, h2]
  exact ⟨rfl, rfl⟩
theorem deps_ok (n : Nat) (h : 3000 < n) : law2_deps n = some true := by
  have hs : Sm n [[97], [98]] [(Dep.mk [[97]] [[98]])] := ⟨h, by simp; omega, by simp; omega⟩
  have h0 : depErr n [[97], [98]] [(Dep.mk [[97]] [[98]])] = 0 := by
    unfold depErr
    have : colErr n [] [[97], [98]] = none := by
      unfold colErr
      rw [(nm_a n h).1]
      unfold colErr
      rw [(nm_a n h).2]
      rfl
    rw [this]
    decide
  rw [law2_deps_eq, closure_ok n _ _ _ hs (by simp; omega), bind_some2, h0]
  have e : (bif decide ((0 : Int) = 0) then (bif inC [[97], [98]] [[97]] then (List.filter (has (reached [(Dep.mk [[97]] [[98]])] [[97]])) [[97], [98]], (0 : Int)) else ([], 4)) else ([], 0)) = (([[97], [98]], 0) : List (List UInt8) × Int) := by decide
  rw [e, dT rfl, cond_true, equal_ok n _ _ (by decide) (by simp; omega), bind_some2]
  rfl
theorem any_not {A : Type} (p : A → Bool) : ∀ l : List A, (l.any fun a => !p a) = !l.all p
  | [] => rfl
  | a :: l => by rw [List.any_cons, List.all_cons, any_not p l, Bool.not_and]

/-! ### The answer -/
noncomputable def norm (cols : List (List UInt8)) (d : Dep) : Dep := Dep.mk (cols.filter (chi cols (mask cols d.From))) (cols.filter (chi cols (mask cols d.To)))
theorem ph4 {cols : List (List UInt8)} (hc : cols.length ≤ 12) (hnd : cols.Nodup) (n : Nat) (hn : 3000 < n) (l : List Dep) (w : List dep) (hd : ∀ d ∈ l, okD cols d = true) (hl : l.length ≤ 300) (hw : w.take l.length = l.map (toD cols)) (hwl : l.length ≤ w.length) :
    keys_Cover_l10 n n cols [] l.length (l.length : Int) 0 w = some (l.map (norm cols), 0) := by
  have hf := keys_Cover_l10_fold n cols l.length w l.length [] (by omega) n 0 (Nat.zero_le _) (by omega)
  rw [show ((0 : Nat) : Int) = 0 from rfl] at hf
  obtain ⟨s', h1, h2⟩ := fold_use hf (fun i s => s = (l.take i).map (norm cols)) l.length (by omega) rfl (by
    rintro i s hi rfl
    have hiw : i < w.length := by omega
    have hi0 : 0 + i < w.length := by omega
    have hg : w.getD (0 + i) (dep.mk 0 0) = toD cols l[i] := by
      rw [Nat.zero_add, getD_lt _ hiw]
      have e : (w.take l.length)[i]'(by rw [List.length_take]; omega) = w[i] := List.getElem_take
      rw [← e]
      simp only [hw, List.getElem_map]
    obtain ⟨k1, k2⟩ := okD2 (hd l[i] (List.getElem_mem _))
    have l1 : keys_list n cols (toD cols l[i]).from_ = some (cols.filter (chi cols (mask cols l[i].From))) := list_ok n hc hnd (mask_ok hc k1) (by omega)
    have l2 : keys_list n cols (toD cols l[i]).to = some (cols.filter (chi cols (mask cols l[i].To))) := list_ok n hc hnd (mask_ok hc k2) (by omega)
    have d1 : decide ((i : Int) < (l.length : Int)) = true := dT (by omega)
    have hb : ((l.take i).map (norm cols)).length + ([norm cols l[i]] : List Dep).length ≤ 4294967296 := by
      rw [List.length_map, List.length_take, List.length_singleton]
      omega
    refine ⟨_, rfl, fun K => ?_⟩
    simp only [d0, d1, Int.toNat_natCast, dT hi0, hg, l1, l2, bind_some2, Bool.and_self, cond_true, decide_true, Bool.true_and]
    show (bif decide (((l.take i).map (norm cols)).length + ([norm cols l[i]] : List Dep).length ≤ 4294967296) then K ((l.take i).map (norm cols) ++ [norm cols l[i]]) else none) = _
    rw [dT hb, cond_true, List.take_succ_eq_append_getElem hi, List.map_append]
    rfl)
  rw [h2, h1, List.take_length]
theorem cover_ok (n : Nat) (cols : List (List UInt8)) (x : List Dep) (h : Sm n cols x) :
    if depErr n cols x = 0 then ∃ l, Cov cols x l ∧ (∀ d ∈ l, RedTo x cols cols.length d) ∧ (∀ j (h : j < l.length), Need l j h) ∧ keys_Cover n cols x = some (l.map (norm cols), 0)
    else keys_Cover n cols x = some ([], depErr n cols x) := by
  have hn := h.big
  split
  · rename_i h0
    have ok := ok_of h0
    have hln := ok.ln
    have hc := ok.c
    obtain ⟨l1, a1, a2⟩ := ph1 ok n hn n 0 [] (Nat.zero_le _) (by omega) ⟨by simp, by simp, by simp, by simp, by simp, by simp⟩
    have c1 := a1.cov ok
    have c1l := c1.len
    obtain ⟨l2, b1, b2⟩ := ph2 ok n hn l1.length n 0 l1 (Nat.zero_le _) (by omega) ⟨c1, rfl, by simp, fun h j _ hj => absurd hj (Nat.not_lt_zero _)⟩
    have b1l := b1.len
    have c2 := b1.cov
    have c2l := c2.len
    obtain ⟨l3, w3, d1, d2, d3, d4, d5, d6⟩ := ph3 ok n hn n 0 l2 (l2.map (toD cols)) (Nat.zero_le _) (by omega) c2 (fun d hd => by
      obtain ⟨j, hj, rfl⟩ := List.getElem_of_mem hd
      exact b1.red j hj (by omega)) (fun j h hj => absurd hj (Nat.not_lt_zero _)) (List.take_of_length_le (by simp)) (by simp) (by rw [List.length_map]; omega)
    refine ⟨l3, d1, d2, d3, ?_⟩
    have hk := read_ok n cols x h
    rw [h0, dT rfl, cond_true] at hk
    rw [keys_Cover_eq, hk, bind_some2]
    show keys_Cover_l0 n n cols (x.map (toD cols)) ((x.map (toD cols)).length : Int) 0 [] = _
    refine Eq.trans a2 (Eq.trans b2 ?_)
    rw [← b1l]
    exact Eq.trans d6 (ph4 hc ok.nd n hn l3 w3 d1.okD d1.len d4 d5)
  · rename_i h0
    have hk := read_ok n cols x h
    rw [dF h0, cond_false] at hk
    rw [keys_Cover_eq, hk, bind_some2]
    simp only [dF h0, Bool.not_false, cond_true]

/-! ### The law's own checks -/
theorem concat_grow (n : Nat) (a : Nat) (h : a ≤ 100000) : slices_Grow n () (a : Int) = some [] := by
  have z : IntKind.wrap .i64 ((0 : Int) - (List.length ([] : List Dep) : Int)) = 0 := by decide
  have e : IntKind.wrap .i64 ((a : Int) - 0) = (a : Int) := by rw [Int.sub_zero]; exact w64 (by omega) (by omega)
  have n0 : ¬ (a : Int) < 0 := by omega
  have hz : decide (0 = List.length ([] : List Dep)) = true := rfl
  have hz2 : decide ((List.length ([] : List Dep) : Int) = 0) = true := by decide
  rw [slices_Grow_eq, dF n0, cond_false, z, e]
  by_cases h0 : (a : Int) > 0
  · simp only [dT h0, dT (show 0 < (a : Int) by omega), dT (show (a : Int) ≤ 4294967296 by omega), hz, hz2, decide_true, Bool.and_self, cond_true]
  · rw [dF h0, cond_false]
theorem concat_ok (n : Nat) (hn : 100 < n) (u v : List Dep) (h : u.length + v.length ≤ 100000) : slices_Concat n [u, v] = some (u ++ v) := by
  have hf := slices_Concat_l0_fold n [u, v] [u, v] 0 (show 2 < 9223372036854775807 by decide) n 0 (Nat.zero_le _) (by simp; omega)
  rw [show ((0 : Nat) : Int) = 0 from rfl, List.drop_zero] at hf
  have hf2 := slices_Concat_l2_fold n [u, v] [] (show 2 < 9223372036854775807 by decide) n 0 (Nat.zero_le _) (by simp; omega)
  rw [show ((0 : Nat) : Int) = 0 from rfl, List.drop_zero] at hf2
  have e1 : IntKind.wrap .i64 ((0 : Int) + (u.length : Int)) = (u.length : Int) := by rw [Int.zero_add]; exact w64 (by omega) (by omega)
  have e2 : IntKind.wrap .i64 ((u.length : Int) + (v.length : Int)) = ((u.length + v.length : Nat) : Int) := by rw [w64 (by omega) (by omega)]; simp
  have n1 : ¬ (u.length : Int) < 0 := by omega
  have n2 : ¬ ((u.length + v.length : Nat) : Int) < 0 := by omega
  have b1 : List.length ([] : List Dep) + u.length ≤ 4294967296 := by rw [List.length_nil]; omega
  have b2 : u.length + v.length ≤ 4294967296 := by omega
  simp only [foldK_cons, foldK_nil, e1, e2, dF n1, dF n2, cond_false, concat_grow n _ (show u.length + v.length ≤ 100000 by omega), bind_some2, hf2, decide_true, Bool.true_and, dT b1, cond_true, List.nil_append, dT b2] at hf
  rw [slices_Concat_eq]
  exact hf
theorem concat_grow2 (n : Nat) (a : Nat) (h : a ≤ 100000) : slices_Grow_61 n () (a : Int) = some [] := by
  have z : IntKind.wrap .i64 ((0 : Int) - (List.length ([] : List (List UInt8)) : Int)) = 0 := by decide
  have e : IntKind.wrap .i64 ((a : Int) - 0) = (a : Int) := by rw [Int.sub_zero]; exact w64 (by omega) (by omega)
  have n0 : ¬ (a : Int) < 0 := by omega
  have hz : decide (0 = List.length ([] : List (List UInt8))) = true := rfl
  have hz2 : decide ((List.length ([] : List (List UInt8)) : Int) = 0) = true := by decide
  rw [slices_Grow_61_eq, dF n0, cond_false, z, e]
  by_cases h0 : (a : Int) > 0
  · simp only [dT h0, dT (show 0 < (a : Int) by omega), dT (show (a : Int) ≤ 4294967296 by omega), hz, hz2, decide_true, Bool.and_self, cond_true]
  · rw [dF h0, cond_false]
theorem concat_ok2 (n : Nat) (hn : 100 < n) (u v : List (List UInt8)) (h : u.length + v.length ≤ 100000) : slices_Concat_35 n [u, v] = some (u ++ v) := by
  have hf := slices_Concat_35_l0_fold n [u, v] [u, v] 0 (show 2 < 9223372036854775807 by decide) n 0 (Nat.zero_le _) (by simp; omega)
  rw [show ((0 : Nat) : Int) = 0 from rfl, List.drop_zero] at hf
  have hf2 := slices_Concat_35_l2_fold n [u, v] [] (show 2 < 9223372036854775807 by decide) n 0 (Nat.zero_le _) (by simp; omega)
  rw [show ((0 : Nat) : Int) = 0 from rfl, List.drop_zero] at hf2
  have e1 : IntKind.wrap .i64 ((0 : Int) + (u.length : Int)) = (u.length : Int) := by rw [Int.zero_add]; exact w64 (by omega) (by omega)
  have e2 : IntKind.wrap .i64 ((u.length : Int) + (v.length : Int)) = ((u.length + v.length : Nat) : Int) := by rw [w64 (by omega) (by omega)]; simp
  have n1 : ¬ (u.length : Int) < 0 := by omega
  have n2 : ¬ ((u.length + v.length : Nat) : Int) < 0 := by omega
  have b1 : List.length ([] : List (List UInt8)) + u.length ≤ 4294967296 := by rw [List.length_nil]; omega
  have b2 : u.length + v.length ≤ 4294967296 := by omega
  simp only [foldK_cons, foldK_nil, e1, e2, dF n1, dF n2, cond_false, concat_grow2 n _ (show u.length + v.length ≤ 100000 by omega), bind_some2, hf2, decide_true, Bool.true_and, dT b1, cond_true, List.nil_append, dT b2] at hf
  rw [slices_Concat_35_eq]
  exact hf
theorem cf_ok (n : Nat) (xs : List (List UInt8)) (w : List (List UInt8 × Bool)) (h : xs.length < 9223372036854775807) (hn : xs.length < n) : slices_ContainsFunc n xs (w, ()) = some (xs.any fun a => !has w a) := by
  have hf := slices_IndexFunc_l0_fold n xs w h n 0 (Nat.zero_le _) (by omega)
  rw [show ((0 : Nat) : Int) = 0 from rfl, List.drop_zero, foldK_congr (step' := fun i a _ K => bif !has w a then some (i : Int) else K ()) (fin' := fun s => some (-1)) (fun _ => rfl) xs 0 () (fun i a s K _ => by rw [law2_KeysCovers_1_1_eq, bind_some2, mgetD_s]), foldK_idx] at hf
  have e : slices_IndexFunc n xs (w, ()) = some (ixI (fun a => !has w a) xs) := by
    rw [slices_IndexFunc_eq, hf]
    unfold ixI
    cases List.findIdx? (fun a => !has w a) xs <;> simp
  rw [slices_ContainsFunc_eq, e, bind_some2, ixI_pos]
/-- Short lists. -/
def Sh (n : Nat) (d : Dep) : Prop := d.From.length + d.To.length < n ∧ d.From.length + d.To.length ≤ 4294967296
def folB (v : List Dep) (d : Dep) : Bool := d.To.all (has (reached v d.From))
theorem fol_ok (n : Nat) (hn : 3000 < n) (v : List Dep) (d : Dep) (hv : v.length ≤ 300) (hs : ∀ d ∈ v, Sh n d) (hd : Sh n d) : law2_KeysCovers_1 n v d = some (folB v d) := by
  have hd1 := hd.1
  have hd2 := hd.2
  rw [law2_KeysCovers_1_eq, reached_ok n v d.From (by omega) hn ⟨by omega, by omega⟩ (fun d hd => by have := hs d hd; unfold Sh at this; exact ⟨⟨by omega, by omega⟩, by omega, by omega⟩), bind_some2, cf_ok n d.To _ (by omega) (by omega), bind_some2, any_not, Bool.not_not]
  rfl
theorem folB_iff {cols : List (List UInt8)} {v : List Dep} (hv : ∀ d ∈ v, okD cols d = true) {d : Dep} (hd : inC cols d.From = true) : folB v d = true ↔ ∀ b ∈ d.To, Fol v (fun a => a ∈ d.From) b := by
  unfold folB
  rw [List.all_eq_true]
  exact ⟨fun h b hb => (reached_fol hv hd b).1 (h b hb), fun h b hb => (reached_fol hv hd b).2 (h b hb)⟩
theorem folB_no {cols : List (List UInt8)} {v : List Dep} (hv : ∀ d ∈ v, okD cols d = true) {d : Dep} (hd : inC cols d.From = true) (h : ¬ ∀ b ∈ d.To, Fol v (fun a => a ∈ d.From) b) : folB v d = false := by
  cases hb : folB v d with
  | false => rfl
  | true => exact absurd ((folB_iff hv hd).1 hb) h
theorem foldK_still {A R : Type} {step : Nat → A → Unit → (Unit → Option R) → Option R} {fin : Unit → Option R} (v : List A) (h : ∀ i (hi : i < v.length) K, step i v[i] () K = K ()) : ∀ (c i : Nat), c + i = v.length → foldK step fin (v.drop i) i () = fin ()
  | 0, i, hc => by rw [List.drop_eq_nil_of_le (by omega)]; rfl
  | c + 1, i, hc => by rw [List.drop_eq_getElem_cons (show i < v.length by omega), foldK_cons, h i (by omega)]; exact foldK_still v h c (i + 1) (by omega)

theorem filter_one {b : List UInt8} : ∀ {cols : List (List UInt8)}, cols.Nodup → b ∈ cols → (cols.filter fun s => [b].contains s) = [b]
  | [], _, h => by simp at h
  | a :: t, hn, h => by
    rw [List.nodup_cons] at hn
    by_cases hab : a = b
    · subst hab
      have : (t.filter fun s => [a].contains s) = [] := by
        rw [List.filter_eq_nil_iff]
        intro s hs hc
        have := List.contains_iff_mem.1 hc
        rw [List.mem_singleton] at this
        rw [this] at hs
        exact hn.1 hs
      rw [List.filter_cons, this]
      simp
    · have h2 : b ∈ t := by
        rcases List.mem_cons.1 h with h | h
        · exact absurd h.symm hab
        · exact h
      have h3 : [b].contains a = false := by
        cases hc : [b].contains a with
        | false => rfl
        | true => exact absurd (List.mem_singleton.1 (List.contains_iff_mem.1 hc)) hab
      rw [List.filter_cons, h3]
      exact filter_one hn.2 h2
theorem norm_from {cols : List (List UInt8)} {d : Dep} (h : inC cols d.From = true) (s : List UInt8) : s ∈ (norm cols d).From ↔ s ∈ d.From := by
  show s ∈ cols.filter _ ↔ _
  rw [List.mem_filter, mask_chi h, List.contains_iff_mem]
  exact ⟨fun h => h.2, fun hs => ⟨inC_iff.1 h s hs, hs⟩⟩
theorem norm_to {cols : List (List UInt8)} {d : Dep} (hn : cols.Nodup) {b : List UInt8} (hb : b ∈ cols) (h : d.To = [b]) : (norm cols d).To = [b] := by
  have hin : inC cols d.To = true := by rw [h, inC_iff]; intro s hs; rw [List.mem_singleton] at hs; rw [hs]; exact hb
  have e : (norm cols d).To = cols.filter (fun s => [b].contains s) := by
    show cols.filter (chi cols (mask cols d.To)) = _
    congr 1
    funext s
    rw [mask_chi hin, h]
  rw [e, filter_one hn hb]
theorem norm_ok {cols : List (List UInt8)} {d : Dep} : okD cols (norm cols d) = true := by
  show (inC cols _ && inC cols _) = true
  rw [Bool.and_eq_true]
  exact ⟨inC_iff.2 fun s hs => (List.mem_filter.1 hs).1, inC_iff.2 fun s hs => (List.mem_filter.1 hs).1⟩
theorem norm_len {cols : List (List UInt8)} (hc : cols.length ≤ 12) (d : Dep) : (norm cols d).From.length + (norm cols d).To.length ≤ 24 := by
  have h1 : (norm cols d).From.length ≤ cols.length := List.length_filter_le _ _
  have h2 : (norm cols d).To.length ≤ cols.length := List.length_filter_le _ _
  omega
theorem norm_imp {cols : List (List UInt8)} (hn : cols.Nodup) {l : List Dep} (hf : ∀ d ∈ l, inC cols d.From = true) (ho : ∀ d ∈ l, ∃ b, d.To = [b] ∧ b ∈ cols) : Imp l (l.map (norm cols)) ∧ Imp (l.map (norm cols)) l := by
  refine ⟨fun P hc d hd hF b hb => ?_, fun P hc d hd hF b hb => ?_⟩
  · obtain ⟨e, he, rfl⟩ := List.mem_map.1 hd
    obtain ⟨b', h1, h2⟩ := ho e he
    rw [norm_to hn h2 h1] at hb
    exact hc e he (fun a ha => hF a ((norm_from (hf e he) a).2 ha)) b (by rw [h1]; exact hb)
  · obtain ⟨b', h1, h2⟩ := ho d hd
    rw [h1] at hb
    exact hc (norm cols d) (List.mem_map.2 ⟨d, hd, rfl⟩) (fun a ha => hF a ((norm_from (hf d hd) a).1 ha)) b (by rw [norm_to hn h2 h1]; exact hb)
theorem erase_nodup {A : Type} {l : List A} (h : l.Nodup) {i : Nat} (hi : i < l.length) {s : A} (hs : s ∈ l.eraseIdx i) : s ∈ l ∧ s ≠ l[i] := by
  rw [List.mem_eraseIdx_iff_getElem] at hs
  obtain ⟨k, hk, hki, rfl⟩ := hs
  exact ⟨List.getElem_mem _, fun he => hki ((List.getElem_inj h).1 he)⟩

theorem colErr_none {n : Nat} {cols : List (List UInt8)} {l : List Dep} (h : depErr n cols l = 0) : colErr n [] cols = none := by
  have h2 := h
  unfold depErr at h2
  have ok := ok_of h
  have := ok.c
  have := ok.ln
  rw [dF (show ¬ (cols.length : Int) > 12 by omega), dF (show ¬ (l.length : Int) > 20 by omega), cond_false, cond_false] at h2
  cases hce : colErr n [] cols with
  | none => rfl
  | some e =>
    exfalso
    rw [hce] at h2
    have h2 : e = 0 := h2
    have key : ∀ (l seen : List (List UInt8)) (e : Int), colErr n seen l = some e → e ≠ 0 := by
      intro l
      induction l with
      | nil => intro seen e h; cases h
      | cons a l ih =>
        intro seen e h
        unfold colErr at h
        cases h1 : nmB n a with
        | false => rw [h1] at h; cases h; decide
        | true =>
          rw [h1] at h
          cases h2 : seen.contains a with
          | true => rw [h2] at h; cases h; decide
          | false => rw [h2] at h; exact ih _ _ h
    exact key _ _ _ hce h2
theorem depsNone_ok (n : Nat) (cols : List (List UInt8)) (l : List Dep) (h : Sm n cols l) (h0 : depErr n cols l = 0) : ref2_DepsErr_2 n cols () = some 0 := by
  have ok := ok_of h0
  have hc := ok.c
  have hn := h.big
  have hf := ref2_DepsErr_2_l0_fold n cols [] (by omega) n 0 (Nat.zero_le _) (by omega)
  rw [show ((0 : Nat) : Int) = 0 from rfl, List.drop_zero] at hf
  obtain ⟨w', k1, k2⟩ := deps1_go n (fin := fun s => ref2_DepsErr_2_l2 n n (List.length ([] : List Dep) : Int) 0 s) cols 0 [] [] h.c (fun s => rfl)
  have key : ∀ m s, ref2_DepsErr_2_l2 n (m + 1) (List.length ([] : List Dep) : Int) 0 s = some 0 := fun m s => by rw [ref2_DepsErr_2_l2_eq]; rfl
  have key2 : ∀ s, ref2_DepsErr_2_l2 n n (List.length ([] : List Dep) : Int) 0 s = some 0 := fun s => by
    have := key (n - 1) s
    rwa [show n - 1 + 1 = n by omega] at this
  rw [ref2_DepsErr_2_eq, dF (show ¬ (cols.length : Int) > 12 by omega), cond_false, hf, k2, colErr_none h0]
  simp only [key2]
  rfl
/-- What the law asks of each row. -/
structure Row (cols : List (List UInt8)) (x X : List Dep) (k : Nat) (h : k < X.length) : Prop where
  to : ∃ b, X[k].To = [b] ∧ b ∈ cols ∧ b ∉ X[k].From
  len : X[k].From.length ≤ 12
  fr : ∀ a ∈ X[k].From, a ∈ cols
  f1 : folB x X[k] = true
  f2 : folB (X.eraseIdx k) X[k] = false
  f3 : ∀ i, i < X[k].From.length → folB x (Dep.mk (X[k].From.eraseIdx i) X[k].To) = false
theorem law4 (n m : Nat) (hn : 3000 < n) (x0 : List (List UInt8)) (x1 X : List Dep) (hc : x0.length ≤ 12) (hx : x1.length ≤ 20) (hs : ∀ d ∈ x1, Sh n d) (k : Nat) (h : k < X.length) (hr : Row x0 x1 X k h) (v : Int) :
    law2_KeysCovers_l4 n m n x0 x1 X X v (k : Int) X[k].From (X[k].From.length : Int) 0 X[k] = law2_KeysCovers_l2 n m x0 x1 X X v (IntKind.wrap .i64 ((k : Int) + 1)) := by
  have hl := hr.len
  obtain ⟨b, hb1, hb2, hb3⟩ := hr.to
  have hf := law2_KeysCovers_l4_fold n m x0 x1 X X v (k : Int) X[k].From X[k] (by omega) n 0 (Nat.zero_le _) (by omega)
  rw [show ((0 : Nat) : Int) = 0 from rfl] at hf
  refine hf.trans (foldK_still X[k].From (fun i hi K => ?_) X[k].From.length 0 rfl)
  have e1 : (X[k].From.take i).length + (X[k].From.drop (i + 1)).length ≤ 100000 := by rw [List.length_take, List.length_drop]; omega
  have e2 : X[k].From.take i ++ X[k].From.drop (i + 1) = X[k].From.eraseIdx i := (List.eraseIdx_eq_take_drop_succ _ _).symm
  have hsh : Sh n (Dep.mk (X[k].From.eraseIdx i) X[k].To) := by
    have h3 : (X[k].From.eraseIdx i).length ≤ X[k].From.length := List.length_eraseIdx_le _ _
    unfold Sh
    simp only [hb1, List.length_singleton]
    omega
  have c1 : x0.contains X[k].From[i] = true := List.contains_iff_mem.2 (hr.fr _ (List.getElem_mem _))
  rw [contains_ok n x0 _ (by omega) (by omega), bind_some2, c1]
  simp only [Bool.not_true, cond_false, d0, dle, i64_succ (show i < 9223372036854775807 by omega), dT (show i ≤ X[k].From.length by omega), dT (show i + 1 ≤ X[k].From.length by omega), Bool.and_self, cond_true, Int.toNat_natCast]
  rw [concat_ok2 n (by omega) _ _ e1, bind_some2, e2, fol_ok n hn x1 _ (by omega) hs hsh, bind_some2, hr.f3 i hi, cond_false]
theorem law2 (n : Nat) (hn : 3000 < n) (x0 : List (List UInt8)) (x1 X : List Dep) (hc : x0.length ≤ 12) (hx : x1.length ≤ 20) (hX : X.length ≤ 300) (hs : ∀ d ∈ x1, Sh n d) (hr : ∀ k h, Row x0 x1 X k h) : ∀ (m k : Nat), k ≤ X.length → X.length - k < m →
    law2_KeysCovers_l2 n m x0 x1 X X (X.length : Int) (k : Int) = some true := by
  intro m
  induction m with
  | zero => intro k _ h; omega
  | succ m ih =>
    intro k hk hm
    rw [law2_KeysCovers_l2_eq, dlt]
    by_cases h : k < X.length
    · have R := hr k h
      obtain ⟨b, hb1, hb2, hb3⟩ := R.to
      have hl := R.len
      have sh : ∀ j (h : j < X.length), Sh n X[j] := fun j h => by
        obtain ⟨b, hb1, _⟩ := (hr j h).to
        have := (hr j h).len
        unfold Sh
        rw [hb1, List.length_singleton]
        omega
      have hg : X.getD k (Dep.mk [] []) = X[k] := getD_lt _ h
      have t1 : ((X[k].To.length : Nat) : Int) = 1 := by rw [hb1]; rfl
      have t2 : X[k].To.getD (Int.toNat (0 : Int)) [] = b := by rw [hb1]; rfl
      have t3 : decide ((0 : Int) < (X[k].To.length : Nat)) = true := dT (by rw [t1]; decide)
      have c1 : X[k].From.contains b = false := by
        cases hq : X[k].From.contains b with
        | false => rfl
        | true => exact absurd (List.contains_iff_mem.1 hq) hb3
      have c2 : x0.contains b = true := List.contains_iff_mem.2 hb2
      have e1 : (X.take k).length + (X.drop (k + 1)).length ≤ 100000 := by rw [List.length_take, List.length_drop]; omega
      have e2 : X.take k ++ X.drop (k + 1) = X.eraseIdx k := (List.eraseIdx_eq_take_drop_succ _ _).symm
      have f1 := fol_ok n hn x1 X[k] (by omega) hs (sh k h)
      have f2 := fol_ok n hn (X.eraseIdx k) X[k] (by have := List.length_eraseIdx_le X k; omega) (fun d hd => by
        obtain ⟨j, hj, rfl⟩ := List.getElem_of_mem (mem_erase hd)
        exact sh j hj) (sh k h)
      simp only [dT h, d0, d00, dle, dlt, Int.toNat_natCast, hg, t1, t2, t3, f1, R.f1, bind_some2, contains_ok n X[k].From b (by omega) (by omega), c1, contains_ok n x0 b (by omega) (by omega), c2, i64_succ (show k < 9223372036854775807 by omega), dT (show k ≤ X.length by omega), dT (show k + 1 ≤ X.length by omega), Bool.and_self, Bool.not_true, Bool.not_false, cond_true, cond_false, decide_true]
      rw [concat_ok n (by omega) _ _ e1, bind_some2, e2, f2, bind_some2, R.f2, cond_false, law4 n m hn x0 x1 X hc hx hs k h R, i64_succ (by omega)]
      exact ih (k + 1) (by omega) (by omega)
    · rw [dF h, cond_false]
theorem law_ok (x0 : List (List UInt8)) (x1 : List Dep) (h0 : ∀ g, Fv.Good E g (.sl .str) x0) (h1 : ∀ g, Fv.Good E g (.sl (.nm 0)) x1) (hb : ∀ g, Bulk E g (.sl .str) x0 + Bulk E g (.sl (.nm 0)) x1 ≤ 1048576) : ∃ n, law2_KeysCovers n x0 x1 = some true := by
  have hbk := hb 1
  have bs : ∀ l : List (List UInt8), Bulk E 1 (.sl .str) l = (l.map fun s => s.length + 1).sum + 1 := fun l => rfl
  have bd : Bulk E 1 (.sl (.nm 0)) x1 = (x1.map fun d : Dep => ((d.From.map fun s => s.length + 1).sum + 1) + ((d.To.map fun s => s.length + 1).sum + 1)).sum + 1 := rfl
  have sl : ∀ l : List (List UInt8), l.length ≤ (l.map fun s => s.length + 1).sum := fun l => sum_gm _ l fun s _ => by omega
  rw [bs, bd] at hbk
  have c0 : ∀ s ∈ x0, s.length ≤ 1048576 := by
    intro s hs
    have : s.length + 1 ≤ (x0.map fun s => s.length + 1).sum := mem_sum (List.mem_map.2 ⟨s, hs, rfl⟩)
    omega
  have c1 : ∀ d ∈ x1, d.From.length + d.To.length ≤ 1048576 := by
    intro d hd
    have h : ((d.From.map fun s => s.length + 1).sum + 1) + ((d.To.map fun s => s.length + 1).sum + 1) ≤ (x1.map fun d : Dep => ((d.From.map fun s => s.length + 1).sum + 1) + ((d.To.map fun s => s.length + 1).sum + 1)).sum := mem_sum (List.mem_map.2 ⟨d, hd, rfl⟩)
    have := sl d.From
    have := sl d.To
    omega
  obtain ⟨n, hn⟩ : ∃ n : Nat, 10000000 < n := ⟨_, Nat.lt_succ_self _⟩
  refine ⟨n, ?_⟩
  have S1 : Sm n x0 x1 := ⟨by omega, fun s hs => by have := c0 s hs; omega, fun d hd => by have := c1 d hd; omega⟩
  have hcov := cover_ok n x0 x1 S1
  rw [law2_KeysCovers_eq, depsErr_ok n x0 x1 S1, deps_ok n (by omega)]
  split at hcov
  · rename_i he
    obtain ⟨l, H1, H2, H3, H4⟩ := hcov
    have ok := ok_of he
    have hc := ok.c
    have hln := ok.ln
    have H1l := H1.len
    rw [H4, he, depsNone_ok n x0 x1 S1 he]
    simp only [bind_some2, Bool.not_true, cond_false, decide_true]
    have sh1 : ∀ d ∈ x1, Sh n d := fun d hd => by
      have := c1 d hd
      unfold Sh
      omega
    have two : ∀ d ∈ l, ∃ b, d.To = [b] ∧ b ∈ x0 := fun d hd => by
      obtain ⟨b, h1, h2, _⟩ := H1.one d hd
      exact ⟨b, h1, h2⟩
    obtain ⟨N1, N2⟩ := norm_imp ok.nd H1.fr two
    have okX : ∀ d ∈ l.map (norm x0), okD x0 d = true := fun d hd => by
      obtain ⟨e, _, rfl⟩ := List.mem_map.1 hd
      exact norm_ok
    have shX : ∀ d ∈ l.map (norm x0), Sh n d := fun d hd => by
      obtain ⟨e, _, rfl⟩ := List.mem_map.1 hd
      have := norm_len hc e
      unfold Sh
      omega
    have hXl : (l.map (norm x0)).length ≤ 300 := by rw [List.length_map]; exact H1l
    have fin : law2_KeysCovers_l2 n n x0 x1 (l.map (norm x0)) (l.map (norm x0)) ((l.map (norm x0)).length : Int) 0 = some true := by
      have := law2 n (by omega) x0 x1 (l.map (norm x0)) hc hln hXl sh1 (fun k h => ?_) n 0 (Nat.zero_le _) (by omega)
      · rw [show ((0 : Nat) : Int) = 0 from rfl] at this
        exact this
      · have hk : k < l.length := by simpa using h
        have hXk : (l.map (norm x0))[k] = norm x0 l[k] := List.getElem_map _
        obtain ⟨b, hb1, hb2, hb3⟩ := H1.one l[k] (List.getElem_mem _)
        have hfr := H1.fr l[k] (List.getElem_mem _)
        have hto := norm_to ok.nd hb2 hb1
        have hnf := norm_from hfr
        have hok := okD2 (norm_ok (cols := x0) (d := l[k]))
        refine ⟨?_, ?_, ?_, ?_, ?_, ?_⟩
        · rw [hXk]
          exact ⟨b, hto, hb2, fun h => hb3 ((hnf b).1 h)⟩
        · rw [hXk]
          exact Nat.le_trans (List.length_filter_le _ _) hc
        · rw [hXk]
          exact fun a ha => inC_iff.1 hok.1 a ha
        · rw [hXk, folB_iff ok.d hok.1]
          intro b' hb' P hP hF
          exact N1 P (H1.to P hP) _ (List.mem_map.2 ⟨l[k], List.getElem_mem _, rfl⟩) hF b' hb'
        · rw [hXk]
          refine folB_no (fun d hd => okX d (mem_erase hd)) hok.1 fun hall => H3 k hk fun b' hb' => ?_
          have h5 := hall b' (by rw [hto, ← hb1]; exact hb')
          rw [erase_map] at h5
          have h6 := (norm_imp ok.nd (l := l.eraseIdx k) (fun d hd => H1.fr d (mem_erase hd)) (fun d hd => two d (mem_erase hd))).1.fol h5
          exact h6.mono fun a ha => (hnf a).1 ha
        · rw [hXk]
          intro i hi
          have hin : inC x0 (Dep.mk ((norm x0 l[k]).From.eraseIdx i) (norm x0 l[k]).To).From = true := inC_iff.2 fun s hs => inC_iff.1 hok.1 s (mem_erase hs)
          refine folB_no ok.d hin fun hall => ?_
          have hndF : (norm x0 l[k]).From.Nodup := ok.nd.filter _
          obtain ⟨j, hj, hja⟩ := List.getElem_of_mem (inC_iff.1 hok.1 _ (List.getElem_mem hi))
          refine H2 l[k] (List.getElem_mem _) j hj hj (by rw [hja]; exact (hnf _).1 (List.getElem_mem _)) fun b' hb' => ?_
          have h5 := hall b' (by show b' ∈ (norm x0 l[k]).To; rw [hto, ← hb1]; exact hb')
          refine h5.mono fun a ha => ?_
          obtain ⟨g1, g2⟩ := erase_nodup hndF hi ha
          exact ⟨(hnf a).1 g1, by rw [hja]; exact g2⟩
    have hf := law2_KeysCovers_l0_fold n x0 x1 (l.map (norm x0)) x1 (by omega) n 0 (Nat.zero_le _) (by omega)
    rw [show ((0 : Nat) : Int) = 0 from rfl] at hf
    refine hf.trans (Eq.trans (foldK_still x1 (fun i hi K => ?_) x1.length 0 rfl) fin)
    have okd := okD2 (ok.d x1[i] (List.getElem_mem _))
    have hfb : folB (l.map (norm x0)) x1[i] = true := by
      rw [folB_iff okX okd.1]
      intro b hb P hP hF
      exact H1.back P (N2 P hP) x1[i] (List.getElem_mem _) hF b hb
    rw [fol_ok n (by omega) (l.map (norm x0)) x1[i] (by omega) shX (sh1 _ (List.getElem_mem _)), bind_some2, hfb]
    rfl
  · rename_i he
    rw [hcov]
    simp only [bind_some2, Bool.not_true, cond_false, dF he, Bool.not_false, cond_true, decide_true]
    rfl
end Go.Proofs.Ytolocmnfhkobgaa.PKeysCovers
