/- The plain law KeysCloses. No condition. -/
import Derived.Test.YtolocmnfhkobgaaFnKeysCloses
-- UPTO
set_option linter.unusedVariables false
set_option linter.unusedSimpArgs false
namespace Go.Proofs.Ytolocmnfhkobgaa.PKeysCloses
open Go Go.Proofs Go.Proofs.Ytolocmnfhkobgaa.Fv

/-! ### Names, places, sets -/
theorem name_ex (n : Nat) (s : List UInt8) (hs : s.length < 9223372036854775807) (hn : s.length < n) : ∃ b, value_Name n s = some b := by
  rw [value_Name_eq]
  cases s with
  | nil => exact ⟨_, rfl⟩
  | cons c s =>
    have h0 : (0 : Int) < (((c :: s).length : Nat) : Int) := by simp only [List.length_cons]; omega
    have hl : (ints (c :: s)).length = (c :: s).length := by simp [ints]
    have hb : ∃ b, value_Name_l0 n n (ints (c :: s)) (List.length (ints (c :: s)) : Int) 0 = some b := by
      have h := value_Name_l0_fold n (ints (c :: s)) (by omega) n 0 (Nat.zero_le _) (by omega)
      rw [show ((0 : Nat) : Int) = 0 from rfl] at h
      rw [h]
      exact foldK_ex (fun _ => ⟨_, rfl⟩) _ _ _ fun i a s K _ hK => by repeat (first | exact hK _ | exact ⟨_, rfl⟩ | apply ex_cond)
    simp only [dT h0, d00, Bool.and_self, cond_true]
    repeat (first | exact hb | exact ⟨_, rfl⟩ | apply ex_cond)
noncomputable def nmB (n : Nat) (s : List UInt8) : Bool := (value_Name n s).getD false
theorem name_ok (n : Nat) (s : List UInt8) (hs : s.length < 9223372036854775807) (hn : s.length < n) : value_Name n s = some (nmB n s) := by
  obtain ⟨b, hb⟩ := name_ex n s hs hn
  unfold nmB
  rw [hb]
  rfl

theorem index_ok (n : Nat) (v : List (List UInt8)) (s : List UInt8) (hl : v.length < 9223372036854775807) (hn : v.length < n) : slices_Index n v s = some (ixI (fun a => s == a) v) := by
  have h := slices_Index_l0_fold n v s hl n 0 (Nat.zero_le _) (by omega)
  rw [show ((0 : Nat) : Int) = 0 from rfl] at h
  rw [slices_Index_eq, h, List.drop_zero, foldK_idx]
  unfold ixI
  cases List.findIdx? (fun a => s == a) v <;> simp
theorem contains_ok (n : Nat) (v : List (List UInt8)) (s : List UInt8) (hl : v.length < 9223372036854775807) (hn : v.length < n) : slices_Contains n v s = some (v.contains s) := by
  rw [slices_Contains_eq, index_ok n v s hl hn, bind_some2, ixI_pos, List.contains_eq_any_beq]

def idx (cols : List (List UInt8)) (s : List UInt8) : Nat := cols.findIdx fun a => s == a
theorem idx_lt {cols : List (List UInt8)} {s : List UInt8} (h : cols.contains s = true) : idx cols s < cols.length := by
  refine List.findIdx_lt_length_of_exists ?_
  rw [List.contains_eq_any_beq, List.any_eq_true] at h
  exact h
theorem idx_get {cols : List (List UInt8)} {s : List UInt8} (h : cols.contains s = true) : cols[idx cols s]'(idx_lt h) = s := by
  have := List.findIdx_getElem (p := fun a => s == a) (xs := cols) (w := idx_lt h)
  exact (beq_iff_eq.1 this).symm
def addM (cols : List (List UInt8)) (m : Nat) (a : List UInt8) : Nat := m ||| 2 ^ idx cols a
def mask (cols l : List (List UInt8)) : Nat := l.foldl (addM cols) 0
def inC (cols l : List (List UInt8)) : Bool := l.all fun s => cols.contains s
theorem addM_lt {cols : List (List UInt8)} (hc : cols.length ≤ 12) {m : Nat} (hm : m < 4096) {a : List UInt8} (ha : cols.contains a = true) : addM cols m a < 4096 := by
  have h := idx_lt ha
  have h2 : 2 ^ idx cols a < 2 ^ 12 := Nat.pow_lt_pow_right (by omega) (by omega)
  exact Nat.or_lt_two_pow (n := 12) (by simpa using hm) h2
theorem set_go (n : Nat) (cols : List (List UInt8)) (hc : cols.length ≤ 12) (hn : 12 < n) : ∀ (l : List (List UInt8)) (i m : Nat), m < 4096 →
    foldK (S := Int) (R := Int × Bool) (fun i (a : (List UInt8)) s K => (Option.bind (slices_Index n cols a) fun r1 => (bif (decide (r1 < 0)) then (some (0, false)) else (bif (decide (0 ≤ r1)) then (K (Fv.bits .or .i64 s (shl .i64 (1 : Int) r1))) else none)))) (fun s => (some (s, true))) l i (m : Int) =
      some (bif inC cols l then (((l.foldl (addM cols) m : Nat) : Int), true) else (0, false))
  | [], i, m, _ => rfl
  | a :: l, i, m, hm => by
    rw [foldK_cons, index_ok n cols a (by omega) (by omega), bind_some2, ixI_neg, ← List.contains_eq_any_beq]
    show _ = some (bif cols.contains a && inC cols l then _ else _)
    cases ha : cols.contains a with
    | false => rfl
    | true =>
      have hi := idx_lt ha
      have e : ixI (fun b => a == b) cols = ((idx cols a : Nat) : Int) := by
        rw [ixI_eq, ← List.contains_eq_any_beq, ha]
        rfl
      have h2 : 2 ^ idx cols a < 2 ^ 12 := Nat.pow_lt_pow_right (by omega) (by omega)
      rw [e, d0, shl_nat (by omega), or_nat (by omega) (by omega)]
      simp only [Bool.not_true, cond_false, cond_true, Bool.true_and]
      exact set_go n cols hc hn l (i + 1) (addM cols m a) (addM_lt hc hm ha)
theorem set_ok (n : Nat) (cols l : List (List UInt8)) (hc : cols.length ≤ 12) (hn : 12 < n) (hl : l.length < 9223372036854775807) (hln : l.length < n) :
    keys_set n cols l = some (bif inC cols l then ((mask cols l : Int), true) else (0, false)) := by
  have h := keys_set_l0_fold n cols l 0 hl n 0 (Nat.zero_le _) (by omega)
  rw [show ((0 : Nat) : Int) = 0 from rfl] at h
  rw [keys_set_eq, h, List.drop_zero]
  exact set_go n cols hc hn l 0 0 (by omega)
theorem mask_lt {cols : List (List UInt8)} (hc : cols.length ≤ 12) : ∀ {l : List (List UInt8)} {m : Nat}, inC cols l = true → m < 4096 → l.foldl (addM cols) m < 4096
  | [], m, _, hm => hm
  | a :: l, m, h, hm => by
    have h2 : (cols.contains a && inC cols l) = true := h
    rw [Bool.and_eq_true] at h2
    show l.foldl (addM cols) (addM cols m a) < 4096
    exact mask_lt hc h2.2 (addM_lt hc hm h2.1)

/-! ### Is all right? -/
noncomputable def colErr (n : Nat) : List (List UInt8) → List (List UInt8) → Option Int
  | _, [] => none
  | seen, a :: l => bif !nmB n a then some 15 else bif seen.contains a then some 5 else colErr n (seen ++ [a]) l
def okD (cols : List (List UInt8)) (d : Dep) : Bool := inC cols d.From && inC cols d.To
def toD (cols : List (List UInt8)) (d : Dep) : dep := dep.mk (mask cols d.From) (mask cols d.To)
noncomputable def depErr (n : Nat) (cols : List (List UInt8)) (l : List Dep) : Int :=
  bif decide ((cols.length : Int) > 12) then 2 else bif decide ((l.length : Int) > 20) then 2 else match colErr n [] cols with
    | some e => e
    | none => bif l.all (okD cols) then 0 else 4
/-- Short enough to be gone through. -/
structure Sm (n : Nat) (cols : List (List UInt8)) (l : List Dep) : Prop where
  big : 100 < n
  c : ∀ s ∈ cols, s.length < n ∧ s.length < 9223372036854775807
  f : ∀ d ∈ l, d.From.length + d.To.length < n ∧ d.From.length + d.To.length ≤ 4294967296
theorem read2_go (n : Nat) (cols : List (List UInt8)) (hc : cols.length ≤ 12) (hn : 100 < n) : ∀ (l : List Dep) (i : Nat) (out : List dep), (∀ d ∈ l, d.From.length + d.To.length < n ∧ d.From.length + d.To.length ≤ 4294967296) → out.length + l.length ≤ 1000 →
    foldK (S := (List dep)) (R := List dep × Int) (fun i (a : Dep) s K => (Option.bind (keys_set n cols (a.From)) fun r3 => (Option.bind (keys_set n cols (a.To)) fun r4 => (bif (!r3.2) then (some ([], 4)) else (bif (!r4.2) then (some ([], 4)) else (bif (decide ((List.length s) = List.length s) && decide (List.length s + List.length ([(dep.mk r3.1 r4.1)] : List dep) ≤ 4294967296)) then (K (s ++ [(dep.mk r3.1 r4.1)])) else none)))))) (fun s => (some (s, 0))) l i out =
      some (bif l.all (okD cols) then (out ++ l.map (toD cols), 0) else ([], 4))
  | [], i, out, _, _ => by simp [foldK_nil]
  | d :: l, i, out, h, hl => by
    have hd := h d (by simp)
    rw [foldK_cons, set_ok n cols d.From hc (by omega) (by omega) (by omega), bind_some2, set_ok n cols d.To hc (by omega) (by omega) (by omega), bind_some2]
    show _ = some (bif (inC cols d.From && inC cols d.To) && l.all (okD cols) then _ else _)
    generalize hK : (fun s' => foldK _ _ l (i + 1) s') = K
    cases inC cols d.From with
    | false => rfl
    | true =>
      cases inC cols d.To with
      | false => rfl
      | true =>
        simp only [cond_true, Bool.not_true, cond_false, Bool.and_self, Bool.true_and, decide_true]
        simp only [List.length_cons] at hl
        rw [dT (by simp only [List.length_cons, List.length_nil]; omega), cond_true, ← hK]
        show foldK _ _ l (i + 1) _ = _
        rw [read2_go n cols hc hn l (i + 1) _ (fun d hd => h d (by simp [hd])) (by simp only [List.length_append, List.length_cons, List.length_nil]; omega)]
        rw [List.append_assoc]
        rfl
theorem read1_go (n : Nat) (cols : List (List UInt8)) (hc : cols.length ≤ 12) (hn : 100 < n) {fin : Unit → Option (List dep × Int)} : ∀ (l : List (List UInt8)) (i : Nat), (∀ s ∈ l, s.length < n ∧ s.length < 9223372036854775807) → cols = cols.take i ++ l → i ≤ cols.length →
    foldK (S := Unit) (fun i (a : (List UInt8)) s K => (Option.bind (value_Name n a) fun r1 => (bif (!r1) then (some ([], 15)) else (bif (decide (0 ≤ (i : Int)) && decide ((i : Int) ≤ (List.length cols))) then (Option.bind (slices_Contains n (List.take (Int.toNat (i : Int)) cols) a) fun r2 => (bif r2 then (some ([], 5)) else (K ()))) else none)))) fin l i () =
      match colErr n (cols.take i) l with
      | some e => some ([], e)
      | none => fin ()
  | [], i, _, _, _ => rfl
  | a :: l, i, h, hcl, hi => by
    have ha := h a (by simp)
    have hlen : i < cols.length := by
      have := congrArg List.length hcl
      simp only [List.length_append, List.length_cons, List.length_take] at this
      omega
    rw [foldK_cons, name_ok n a ha.2 ha.1, bind_some2, dle, d0, dT hi, Int.toNat_natCast, contains_ok n _ a (by rw [List.length_take]; omega) (by rw [List.length_take]; omega), bind_some2]
    unfold colErr
    generalize hK : (fun s' => foldK _ _ l (i + 1) s') = K
    cases nmB n a with
    | false => rfl
    | true =>
      simp only [Bool.not_true, cond_false, Bool.and_self, cond_true]
      cases (cols.take i).contains a with
      | true => rfl
      | false =>
        simp only [cond_false]
        rw [← hK]
        show foldK _ _ l (i + 1) _ = _
        have e : cols.take (i + 1) = cols.take i ++ [a] := by
          have h1 : cols[i]? = some a := by
            rw [hcl, List.getElem?_append_right (by rw [List.length_take]; omega), List.length_take, Nat.min_eq_left hi, Nat.sub_self]
            rfl
          rw [List.take_add_one, h1]
          rfl
        rw [← e]
        exact read1_go n cols hc hn l (i + 1) (fun s hs => h s (by simp [hs])) (by rw [e, List.append_assoc]; exact hcl) (by omega)
theorem read_ok (n : Nat) (cols : List (List UInt8)) (l : List Dep) (h : Sm n cols l) :
    keys_read n cols l = some (bif decide (depErr n cols l = 0) then l.map (toD cols) else [], depErr n cols l) := by
  rw [keys_read_eq]
  unfold depErr
  by_cases h1 : (cols.length : Int) > 12
  · simp only [dT h1, cond_true]; rfl
  by_cases h2 : (l.length : Int) > 20
  · simp only [dF h1, dT h2, cond_false, cond_true]; rfl
  simp only [dF h1, dF h2, cond_false]
  have hn := h.big
  have hf := keys_read_l0_fold n cols l cols (by omega) n 0 (Nat.zero_le _) (by omega)
  rw [show ((0 : Nat) : Int) = 0 from rfl] at hf
  have hf2 := keys_read_l2_fold n cols l [] (by omega) n 0 (Nat.zero_le _) (by omega)
  rw [show ((0 : Nat) : Int) = 0 from rfl, List.drop_zero, read2_go n cols (by omega) hn l 0 [] h.f (by simp; omega)] at hf2
  rw [hf, List.drop_zero, read1_go n cols (by omega) hn cols 0 h.c rfl (by omega), hf2, List.take_zero]
  cases hce : colErr n [] cols with
  | some e =>
    have : e ≠ 0 := by
      have key : ∀ (l seen : List (List UInt8)) (e : Int), colErr n seen l = some e → e ≠ 0 := by
        intro l
        induction l with
        | nil => intro seen e h; cases h
        | cons a l ih =>
          intro seen e h
          unfold colErr at h
          cases h1 : nmB n a with
          | false => rw [h1] at h; cases h; decide
          | true =>
            rw [h1] at h
            cases h2 : seen.contains a with
            | true => rw [h2] at h; cases h; decide
            | false => rw [h2] at h; exact ih _ _ h
      exact key _ _ _ hce
    simp only [dF this, cond_false]
  | none =>
    simp only
    cases l.all (okD cols) <;> rfl

/-! ### What follows -/
theorem testBit_two (i j : Nat) : (2 ^ i).testBit j = decide (i = j) := Nat.testBit_two_pow
theorem idx_inj {cols : List (List UInt8)} {a s : List UInt8} (ha : cols.contains a = true) (hs : cols.contains s = true) (h : idx cols a = idx cols s) : a = s := by
  have h1 := idx_get ha
  have h2 := idx_get hs
  simp only [h] at h1
  exact h1.symm.trans h2
def chi (cols : List (List UInt8)) (m : Nat) (s : List UInt8) : Bool := cols.contains s && m.testBit (idx cols s)
theorem chi_add {cols : List (List UInt8)} {m : Nat} {a s : List UInt8} (ha : cols.contains a = true) : chi cols (addM cols m a) s = (chi cols m s || (s == a)) := by
  unfold chi addM
  rw [Nat.testBit_or, testBit_two]
  cases hs : cols.contains s with
  | false =>
    have : (s == a) = false := by
      apply Bool.eq_false_iff.2
      intro h
      rw [beq_iff_eq] at h
      rw [h, ha] at hs
      cases hs
    rw [this]
    rfl
  | true =>
    have : decide (idx cols a = idx cols s) = (s == a) := by
      by_cases h : idx cols a = idx cols s
      · rw [dT h, idx_inj ha hs h]
        simp
      · rw [dF h]
        symm
        apply Bool.eq_false_iff.2
        intro h'
        rw [beq_iff_eq] at h'
        exact h (by rw [h'])
    rw [this]
    rfl
theorem chi_adds {cols : List (List UInt8)} {s : List UInt8} : ∀ {l : List (List UInt8)} {m : Nat}, inC cols l = true → chi cols (l.foldl (addM cols) m) s = (chi cols m s || l.contains s)
  | [], m, _ => by simp
  | a :: l, m, h => by
    have h2 : (cols.contains a && inC cols l) = true := h
    rw [Bool.and_eq_true] at h2
    rw [List.foldl_cons, chi_adds h2.2, chi_add h2.1, List.contains_cons, Bool.or_assoc]
theorem chi_zero (cols : List (List UInt8)) (s : List UInt8) : chi cols 0 s = false := by simp [chi]
theorem foldl_or {cols : List (List UInt8)} : ∀ (l : List (List UInt8)) (m : Nat), l.foldl (addM cols) m = m ||| mask cols l
  | [], m => by simp [mask]
  | a :: l, m => by
    have e : mask cols (a :: l) = l.foldl (addM cols) (addM cols 0 a) := rfl
    rw [List.foldl_cons, foldl_or l, e, foldl_or l (addM cols 0 a)]
    unfold addM
    rw [Nat.zero_or, Nat.or_assoc]
theorem chi_or {cols : List (List UInt8)} {m : Nat} {l : List (List UInt8)} {s : List UInt8} (h : inC cols l = true) : chi cols (m ||| mask cols l) s = (chi cols m s || l.contains s) := by
  rw [← foldl_or, chi_adds h]
theorem mask_bit {cols : List (List UInt8)} : ∀ {l : List (List UInt8)} {m i : Nat}, (l.foldl (addM cols) m).testBit i = (m.testBit i || l.any fun a => decide (idx cols a = i))
  | [], m, i => by simp
  | a :: l, m, i => by
    rw [List.foldl_cons, mask_bit]
    unfold addM
    rw [Nat.testBit_or, testBit_two, List.any_cons, Bool.or_assoc]
theorem sub_iff {cols : List (List UInt8)} {m : Nat} {l : List (List UInt8)} (h : inC cols l = true) : Sub (mask cols l) m ↔ l.all (chi cols m) = true := by
  have hin : ∀ a ∈ l, cols.contains a = true := by
    unfold inC at h
    rw [List.all_eq_true] at h
    exact h
  rw [List.all_eq_true]
  constructor
  · intro hs a ha
    unfold chi
    rw [hin a ha, Bool.true_and]
    refine hs _ ?_
    unfold mask
    rw [mask_bit, Bool.or_eq_true, List.any_eq_true]
    exact .inr ⟨a, ha, by simp⟩
  · intro hs i hi
    unfold mask at hi
    rw [mask_bit, Bool.or_eq_true, List.any_eq_true] at hi
    rcases hi with hi | ⟨a, ha, hi⟩
    · simp at hi
    · have := hs a ha
      unfold chi at this
      rw [Bool.and_eq_true] at this
      rw [← of_decide_eq_true hi]
      exact this.2

def stepC (cols : List (List UInt8)) (m : Nat) (d : Dep) : Nat := bif decide (m &&& mask cols d.From = mask cols d.From) then m ||| mask cols d.To else m
def passC (cols : List (List UInt8)) (l : List Dep) (m : Nat) : Nat := l.foldl (stepC cols) m
theorem step_sub (cols : List (List UInt8)) (m : Nat) (d : Dep) : Sub m (stepC cols m d) := by
  unfold stepC
  cases decide (m &&& mask cols d.From = mask cols d.From) with
  | true => exact Sub.or_left _ _
  | false => exact Sub.refl _
theorem pass_sub (cols : List (List UInt8)) : ∀ (l : List Dep) (m : Nat), Sub m (passC cols l m)
  | [], m => Sub.refl m
  | d :: l, m => (step_sub cols m d).trans (pass_sub cols l (stepC cols m d))
theorem sub_anti {a b : Nat} (h : Sub a b) (h' : Sub b a) : a = b := by
  apply Nat.eq_of_testBit_eq
  intro i
  cases ha : a.testBit i with
  | true => rw [h i ha]
  | false =>
    cases hb : b.testBit i with
    | false => rfl
    | true => rw [h' i hb] at ha; cases ha
theorem mask_ok {cols : List (List UInt8)} (hc : cols.length ≤ 12) {l : List (List UInt8)} (h : inC cols l = true) : mask cols l < 4096 := mask_lt hc h (by omega)
theorem step_lt {cols : List (List UInt8)} (hc : cols.length ≤ 12) {m : Nat} (hm : m < 4096) {d : Dep} (hd : okD cols d = true) : stepC cols m d < 4096 := by
  unfold okD at hd
  rw [Bool.and_eq_true] at hd
  unfold stepC
  cases decide (m &&& mask cols d.From = mask cols d.From) with
  | true => exact Nat.or_lt_two_pow (n := 12) (by simpa using hm) (by simpa using mask_ok hc hd.2)
  | false => exact hm
theorem pass_lt {cols : List (List UInt8)} (hc : cols.length ≤ 12) : ∀ {l : List Dep} {m : Nat}, m < 4096 → (∀ d ∈ l, okD cols d = true) → passC cols l m < 4096
  | [], m, hm, _ => hm
  | d :: l, m, hm, h => by
    show passC cols l (stepC cols m d) < 4096
    exact pass_lt hc (step_lt hc hm (h d (by simp))) fun d hd => h d (by simp [hd])
/-- How many would still add something. -/
def cnt (cols : List (List UInt8)) (l : List Dep) (m : Nat) : Nat := l.countP fun d => !decide (m ||| mask cols d.To = m)
theorem pass_fire {cols : List (List UInt8)} : ∀ {l : List Dep} {m : Nat}, passC cols l m ≠ m → ∃ d ∈ l, ¬ Sub (mask cols d.To) m ∧ Sub (mask cols d.To) (passC cols l m)
  | [], m, h => absurd rfl h
  | d :: l, m, h => by
    by_cases hd : stepC cols m d = m
    · have e : passC cols (d :: l) m = passC cols l m := by show passC cols l (stepC cols m d) = _; rw [hd]
      rw [e] at h ⊢
      obtain ⟨d', h1, h2⟩ := pass_fire h
      exact ⟨d', by simp [h1], h2⟩
    · refine ⟨d, by simp, ?_, ?_⟩
      · intro hs
        apply hd
        unfold stepC
        cases decide (m &&& mask cols d.From = mask cols d.From) with
        | true => exact or_eq_iff.2 hs
        | false => rfl
      · refine Sub.trans ?_ (pass_sub cols l (stepC cols m d))
        unfold stepC at hd ⊢
        cases hb : decide (m &&& mask cols d.From = mask cols d.From) with
        | true => exact Sub.or_right _ _
        | false => rw [hb] at hd; exact absurd rfl hd
theorem cnt_lt {cols : List (List UInt8)} {l : List Dep} {m : Nat} (h : passC cols l m ≠ m) : cnt cols l (passC cols l m) < cnt cols l m := by
  obtain ⟨d, h1, h2, h3⟩ := pass_fire h
  refine countP_lt (fun d _ hd => ?_) ⟨d, h1, ?_, ?_⟩
  · simp only [Bool.not_eq_true', decide_eq_false_iff_not, or_eq_iff] at hd ⊢
    exact fun h => hd (h.trans (pass_sub cols l m))
  · simp only [Bool.not_eq_true', decide_eq_false_iff_not, or_eq_iff]
    exact h2
  · simp only [Bool.not_eq_false', decide_eq_true_eq, or_eq_iff]
    exact h3
theorem cnt_le (cols : List (List UInt8)) (l : List Dep) (m : Nat) : cnt cols l m ≤ l.length := List.countP_le_length
theorem cnt_zero {cols : List (List UInt8)} {l : List Dep} {m : Nat} (h : cnt cols l m = 0) : passC cols l m = m := by
  apply Classical.byContradiction
  intro hp
  have := cnt_lt hp
  omega

theorem closed2_go {cols : List (List UInt8)} (hc : cols.length ≤ 12) {R : Type} {fin : Int × Bool → Option R} : ∀ (l : List Dep) (i m : Nat) (f : Bool), m < 4096 → (∀ d ∈ l, okD cols d = true) →
    foldK (S := Int × Bool) (fun i (a : dep) s K => (bif (decide ((Fv.bits .and .i64 s.1 (a.from_)) = (a.from_))) then (bif (!decide ((Fv.bits .or .i64 s.1 (a.to)) = s.1)) then (K ((Fv.bits .or .i64 s.1 (a.to)), true)) else (K (s.1, s.2))) else (K (s.1, s.2)))) fin (l.map (toD cols)) i ((m : Int), f) =
      fin (((passC cols l m : Nat) : Int), f || !decide (passC cols l m = m))
  | [], i, m, f, _, _ => by
    show fin _ = fin _
    simp [passC]
  | d :: l, i, m, f, hm, h => by
    have hd := h d (by simp)
    have hlt := step_lt hc hm hd
    have hd2 := hd
    unfold okD at hd2
    rw [Bool.and_eq_true] at hd2
    have m1 := mask_ok hc hd2.1
    have m2 := mask_ok hc hd2.2
    have ih := fun (m : Nat) (f : Bool) (hm : m < 4096) => closed2_go hc (fin := fin) l (i + 1) m f hm (fun d hd => h d (by simp [hd]))
    rw [List.map_cons, foldK_cons]
    show (bif decide (Fv.bits .and .i64 (m : Int) (mask cols d.From : Int) = (mask cols d.From : Int)) then (bif !decide (Fv.bits .or .i64 (m : Int) (mask cols d.To : Int) = (m : Int)) then _ else _) else _) = _
    rw [and_nat (by omega) (by omega), or_nat (by omega) (by omega)]
    have e1 : decide (((m &&& mask cols d.From : Nat) : Int) = (mask cols d.From : Int)) = decide (m &&& mask cols d.From = mask cols d.From) := by simp only [Int.natCast_inj]
    have e2 : decide (((m ||| mask cols d.To : Nat) : Int) = (m : Int)) = decide (m ||| mask cols d.To = m) := by simp only [Int.natCast_inj]
    rw [e1, e2]
    have hp : passC cols (d :: l) m = passC cols l (stepC cols m d) := rfl
    rw [hp]
    unfold stepC at hlt ⊢
    cases h1 : decide (m &&& mask cols d.From = mask cols d.From) with
    | false =>
      simp only [cond_false]
      exact ih m f hm
    | true =>
      rw [h1] at hlt
      simp only [cond_true] at hlt ⊢
      cases h2 : decide (m ||| mask cols d.To = m) with
      | true =>
        have h2 := of_decide_eq_true h2
        rw [h2]
        simp only [Bool.not_true, cond_false]
        exact ih m f hm
      | false =>
        have h2 := of_decide_eq_false h2
        simp only [Bool.not_false, cond_true]
        show foldK _ _ _ _ (Fv.bits .or .i64 (m : Int) (mask cols d.To : Int), true) = _
        rw [or_nat (by omega) (by omega)]
        refine (ih _ true hlt).trans ?_
        have h3 : ¬ passC cols l (m ||| mask cols d.To) = m := by
          intro h4
          have h5 := pass_sub cols l (m ||| mask cols d.To)
          rw [h4] at h5
          exact h2 (sub_anti h5 (Sub.or_left _ _))
        rw [dF h3]
        simp
theorem closed_go (n : Nat) {cols : List (List UInt8)} (hc : cols.length ≤ 12) {l : List Dep} (h : ∀ d ∈ l, okD cols d = true) (hl : l.length < 100) (hn : 100 < n) : ∀ (k m m0 : Nat), m < 4096 → cnt cols l m ≤ k → k + 1 < m0 →
    keys_closed_l0 n m0 (l.map (toD cols)) (m : Int) true = some ((iter (passC cols l) k m : Nat) : Int) := by
  have round : ∀ (m m0 : Nat), m < 4096 → keys_closed_l0 n (m0 + 1) (l.map (toD cols)) (m : Int) true = keys_closed_l0 n m0 (l.map (toD cols)) ((passC cols l m : Nat) : Int) (!decide (passC cols l m = m)) := by
    intro m m0 hm
    have hf := keys_closed_l2_fold n m0 (l.map (toD cols)) (l.map (toD cols)) (m : Int) false (by simp; omega) n 0 (Nat.zero_le _) (by simp; omega)
    rw [show ((0 : Nat) : Int) = 0 from rfl, List.drop_zero, closed2_go hc l 0 m false hm h] at hf
    rw [keys_closed_l0_eq, cond_true, hf, Bool.false_or]
  have stop : ∀ (m m0 : Nat), keys_closed_l0 n (m0 + 1) (l.map (toD cols)) (m : Int) false = some (m : Int) := fun m m0 => by rw [keys_closed_l0_eq]; rfl
  intro k
  induction k with
  | zero =>
    intro m m0 hm hk h0
    obtain ⟨m1, rfl⟩ : ∃ m1, m0 = m1 + 2 := ⟨m0 - 2, by omega⟩
    have hp := cnt_zero (show cnt cols l m = 0 by omega)
    rw [round m (m1 + 1) hm, hp, dT rfl]
    exact stop m m1
  | succ k ih =>
    intro m m0 hm hk h0
    obtain ⟨m1, rfl⟩ : ∃ m1, m0 = m1 + 2 := ⟨m0 - 2, by omega⟩
    rw [round m (m1 + 1) hm]
    by_cases hp : passC cols l m = m
    · rw [hp, dT rfl, iter_fix hp]
      exact stop m m1
    · have := cnt_lt hp
      rw [dF hp]
      exact ih (passC cols l m) (m1 + 1) (pass_lt hc hm h) (by omega) (by omega)
theorem closed_ok (n : Nat) {cols : List (List UInt8)} (hc : cols.length ≤ 12) {l : List Dep} (h : ∀ d ∈ l, okD cols d = true) (hl : l.length < 90) (hn : 100 < n) {m : Nat} (hm : m < 4096) (k : Nat) (hk : l.length ≤ k) (hkn : k < 98) :
    keys_closed n (l.map (toD cols)) (m : Int) = some ((iter (passC cols l) k m : Nat) : Int) := by
  rw [keys_closed_eq]
  exact closed_go n hc h (by omega) hn k m n hm (by have := cnt_le cols l m; omega) (by omega)
theorem iter_more {cols : List (List UInt8)} {l : List Dep} : ∀ (k m : Nat), cnt cols l m ≤ k → iter (passC cols l) (k + 1) m = iter (passC cols l) k m
  | 0, m, h => by
    show passC cols l m = m
    exact cnt_zero (by omega)
  | k + 1, m, h => by
    show iter _ (k + 1) (passC cols l m) = iter _ k (passC cols l m)
    by_cases hp : passC cols l m = m
    · rw [hp, iter_fix hp, iter_fix hp]
    · have := cnt_lt hp
      exact iter_more k _ (by omega)

/-- The same, of a set that is a map. -/
def stepW (w : List (List UInt8 × Bool)) (d : Dep) : List (List UInt8 × Bool) := bif d.From.all (has w) then d.To.foldl (fun w a => smset a true w) w else w
def passW (l : List Dep) (w : List (List UInt8 × Bool)) : List (List UInt8 × Bool) := l.foldl stepW w
def Rel (cols : List (List UInt8)) (m : Nat) (w : List (List UInt8 × Bool)) : Prop := ∀ s, chi cols m s = has w s
theorem rel_step {cols : List (List UInt8)} {m : Nat} {w : List (List UInt8 × Bool)} (h : Rel cols m w) {d : Dep} (hd : okD cols d = true) : Rel cols (stepC cols m d) (stepW w d) := by
  unfold okD at hd
  rw [Bool.and_eq_true] at hd
  have e : decide (m &&& mask cols d.From = mask cols d.From) = d.From.all (has w) := by
    have h1 : d.From.all (has w) = d.From.all (chi cols m) := by congr 1; funext s; exact (h s).symm
    rw [h1]
    cases hb : d.From.all (chi cols m) with
    | true => exact dT (and_eq_iff.2 ((sub_iff hd.1).2 hb))
    | false => exact dF fun h2 => by rw [and_eq_iff, sub_iff hd.1, hb] at h2; cases h2
  unfold stepC stepW
  rw [e]
  cases d.From.all (has w) with
  | false => exact h
  | true =>
    intro s
    rw [cond_true, cond_true, chi_or hd.2, has_sets, h s]
theorem rel_pass {cols : List (List UInt8)} : ∀ {l : List Dep} {m : Nat} {w : List (List UInt8 × Bool)}, Rel cols m w → (∀ d ∈ l, okD cols d = true) → Rel cols (passC cols l m) (passW l w)
  | [], _, _, h, _ => h
  | d :: l, m, w, h, hd => rel_pass (l := l) (rel_step h (hd d (by simp))) fun d h => hd d (by simp [h])
theorem rel_iter {cols : List (List UInt8)} {l : List Dep} (hd : ∀ d ∈ l, okD cols d = true) : ∀ {k m : Nat} {w : List (List UInt8 × Bool)}, Rel cols m w → Rel cols (iter (passC cols l) k m) (iter (passW l) k w)
  | 0, _, _, h => h
  | k + 1, m, w, h => rel_iter hd (k := k) (rel_pass h hd)
theorem rel_start {cols from_ : List (List UInt8)} (h : inC cols from_ = true) : Rel cols (mask cols from_) (from_.foldl (fun w a => smset a true w) []) := by
  intro s
  unfold mask
  rw [chi_adds h, chi_zero, has_sets, has_nil]
def reached (l : List Dep) (from_ : List (List UInt8)) : List (List UInt8 × Bool) := iter (passW l) (l.length + 1) (from_.foldl (fun w a => smset a true w) [])

theorem foldl_same {A B : Type} (w : A) : ∀ l : List B, l.foldl (fun w _ => w) w = w
  | [] => rfl
  | _ :: l => foldl_same w l
theorem reach8 (n m0 m1 : Nat) (v0 : List Dep) (v10 : Bool) (v27 v28 : Int) (v30 : List Dep) (v31 v32 : Int) (to : List (List UInt8)) (w : List (List UInt8 × Bool)) (hl : to.length < 9223372036854775807) (hn : to.length < n) :
    ref2_Reached_l8 n m0 m1 n v0 v10 v27 v28 v30 v31 v32 to (List.length to : Int) 0 w = ref2_Reached_l4 n m0 m1 v0 v27 v28 v30 v31 (IntKind.wrap .i64 (v32 + 1)) (bif v10 then to.foldl (fun w a => smset a true w) w else w) := by
  have hf := ref2_Reached_l8_fold n m0 m1 v0 v10 v27 v28 v30 v31 v32 to w hl n 0 (Nat.zero_le _) (by omega)
  rw [show ((0 : Nat) : Int) = 0 from rfl, List.drop_zero] at hf
  rw [hf]
  cases v10 with
  | true => rw [foldK_all (fun w a => smset a true w) to 0 w (fun i a s K _ => by rw [cond_true, mset_s])]; rfl
  | false => rw [foldK_all (fun w _ => w) to 0 w (fun i a s K _ => by rw [cond_false])]; rw [foldl_same]; rfl
theorem reach6 (n m0 m1 : Nat) (v0 : List Dep) (v27 v28 : Int) (v30 : List Dep) (v31 v32 : Int) (fr : List (List UInt8)) (w9 : Dep) (w : List (List UInt8 × Bool)) (hl : fr.length < 9223372036854775807) (hn : fr.length < n) :
    ref2_Reached_l6 n m0 m1 n v0 true v27 v28 v30 v31 v32 fr (List.length fr : Int) 0 w9 w = ref2_Reached_l8 n m0 m1 n v0 (fr.all (has w)) v27 v28 v30 v31 v32 w9.To (List.length w9.To : Int) 0 w := by
  have hf := ref2_Reached_l6_fold n m0 m1 v0 v27 v28 v30 v31 v32 fr w9 w true hl n 0 (Nat.zero_le _) (by omega)
  rw [show ((0 : Nat) : Int) = 0 from rfl, List.drop_zero] at hf
  rw [hf, foldK_all (fun b a => b && has w a) fr 0 true (fun i a s K _ => by cases s <;> simp [mgetD_s])]
  have e : ∀ (l : List (List UInt8)) (b : Bool), l.foldl (fun b a => b && has w a) b = (b && l.all (has w)) := by
    intro l
    induction l with
    | nil => intro b; simp
    | cons a l ih => intro b; rw [List.foldl_cons, ih, List.all_cons, Bool.and_assoc]
  rw [e, Bool.true_and]
theorem reach4 (n m0 : Nat) (v0 : List Dep) (v27 v28 : Int) (l : List Dep) (hl : l.length < 9223372036854775807) (hs : ∀ d ∈ l, (d.From.length < n ∧ d.From.length < 9223372036854775807) ∧ d.To.length < n ∧ d.To.length < 9223372036854775807) (hn : l.length < n) (w : List (List UInt8 × Bool)) :
    ref2_Reached_l4 n m0 n v0 v27 v28 l (List.length l : Int) 0 w = ref2_Reached_l2 n m0 v0 v27 (IntKind.wrap .i64 (v28 + 1)) (passW l w) := by
  have key : ∀ (m k : Nat), k ≤ l.length → l.length - k < m → ∀ w, ref2_Reached_l4 n m0 m v0 v27 v28 l (List.length l : Int) (k : Int) w = ref2_Reached_l2 n m0 v0 v27 (IntKind.wrap .i64 (v28 + 1)) (passW (l.drop k) w) := by
    intro m
    induction m with
    | zero => intro k _ h; omega
    | succ m ih =>
      intro k hk hm w
      rw [ref2_Reached_l4_eq, dlt]
      by_cases h : k < l.length
      · have hd := hs l[k] (List.getElem_mem _)
        simp only [dT h, d0, Bool.and_self, cond_true, Int.toNat_natCast, dlt, getD_lt _ h]
        rw [reach6 n m0 m v0 v27 v28 l _ _ l[k].From l[k] w hd.1.2 hd.1.1, reach8 n m0 m v0 _ v27 v28 l _ _ l[k].To w hd.2.2 hd.2.1, i64_succ (by omega), ih (k + 1) (by omega) (by omega), List.drop_eq_getElem_cons h]
        rfl
      · rw [dF h, drop_len h]
        rfl
  exact key n 0 (Nat.zero_le _) (by omega) w
theorem reached_ok (n : Nat) (l : List Dep) (fr : List (List UInt8)) (hl : l.length < 90) (hn : 100 < n) (hf : fr.length < n ∧ fr.length < 9223372036854775807) (hs : ∀ d ∈ l, (d.From.length < n ∧ d.From.length < 9223372036854775807) ∧ d.To.length < n ∧ d.To.length < 9223372036854775807) :
    ref2_Reached n l fr = some (reached l fr) := by
  have h0 := ref2_Reached_l0_fold n l fr [] hf.2 n 0 (Nat.zero_le _) (by omega)
  rw [show ((0 : Nat) : Int) = 0 from rfl, List.drop_zero, foldK_all (fun w a => smset a true w) fr 0 [] (fun i a s K _ => by rw [mset_s])] at h0
  rw [ref2_Reached_eq, h0]
  have key : ∀ (m k : Nat) (w : List (List UInt8 × Bool)), k ≤ l.length + 1 → l.length + 1 - k < m → ref2_Reached_l2 n m l ((l.length + 1 : Nat) : Int) (k : Int) w = some (iter (passW l) (l.length + 1 - k) w) := by
    intro m
    induction m with
    | zero => intro k w _ h; omega
    | succ m ih =>
      intro k w hk hm
      rw [ref2_Reached_l2_eq, dlt]
      by_cases h : k < l.length + 1
      · rw [dT h, cond_true, reach4 n m l _ _ l (by omega) hs (by omega) w, i64_succ (by omega), ih (k + 1) _ (by omega) (by omega)]
        obtain ⟨c, hc⟩ : ∃ c, l.length + 1 - k = c + 1 := ⟨l.length - k, by omega⟩
        rw [hc, show l.length + 1 - (k + 1) = c by omega]
        rfl
      · rw [dF h, show l.length + 1 - k = 0 by omega]
        rfl
  have := key n 0 (fr.foldl (fun w a => smset a true w) []) (by omega) (by omega)
  rw [show ((0 : Nat) : Int) = 0 from rfl] at this
  rw [i64_succ (by omega)]
  exact this

/-! ### The reference's check -/
theorem clone_ok (n : Nat) (x : List (List UInt8)) (h : x.length ≤ 4294967296) : slices_Clone_2 n x = some x := by
  rw [slices_Clone_2_eq]
  simp only [List.nil_append, List.length_nil, Nat.zero_add, dT h, decide_true, Bool.and_self, cond_true]
theorem deps4 (n m0 : Nat) (v36 : List Dep) (v37 v38 : Int) (w20 : List (List UInt8 × Bool)) (w63 : List (List UInt8)) (hl : w63.length < 9223372036854775807) (hn : w63.length < n) :
    ref2_DepsErr_l4 n m0 n v36 v37 v38 (List.length w63 : Int) 0 w20 w63 = bif w63.all (has w20) then ref2_DepsErr_l2 n m0 v36 v37 (IntKind.wrap .i64 (v38 + 1)) w20 else some 4 := by
  have hf := ref2_DepsErr_l4_fold n m0 v36 v37 v38 w20 w63 w63.length hl n 0 (Nat.zero_le _) (by omega)
  rw [show ((0 : Nat) : Int) = 0 from rfl] at hf
  rw [hf]
  refine (foldN_row w63 [] (fun i a s K => bif !(mgetD E .str .bool w20 a) then some 4 else K ()) (fun s => ref2_DepsErr_l2 n m0 v36 v37 (IntKind.wrap .i64 (v38 + 1)) w20) _ 0 () (by omega)).trans ?_
  rw [List.drop_zero, foldK_find (fun a => !has w20 a) (fun _ _ => some 4) w63 0 () (fun i a s K _ => by rw [mgetD_s])]
  cases hfi : w63.find? (fun a => !has w20 a) with
  | none =>
    rw [List.find?_eq_none] at hfi
    have : w63.all (has w20) = true := by rw [List.all_eq_true]; intro x hx; simpa using hfi x hx
    rw [this]
    rfl
  | some a =>
    have h1 := List.mem_of_find?_eq_some hfi
    have h2 := List.find?_some hfi
    have : w63.all (has w20) = false := by
      rw [List.all_eq_false]
      exact ⟨a, h1, by simpa using h2⟩
    rw [this]
    rfl
theorem deps2 (n : Nat) (l : List Dep) (w : List (List UInt8 × Bool)) (hl : l.length < 9223372036854775807) (hn : l.length < n) (hs : ∀ d ∈ l, d.From.length + d.To.length < n ∧ d.From.length + d.To.length ≤ 4294967296) :
    ref2_DepsErr_l2 n n l (List.length l : Int) 0 w = some (bif l.all (fun d => d.From.all (has w) && d.To.all (has w)) then 0 else 4) := by
  have key : ∀ (m k : Nat), k ≤ l.length → l.length - k < m → ref2_DepsErr_l2 n m l (List.length l : Int) (k : Int) w = some (bif (l.drop k).all (fun d => d.From.all (has w) && d.To.all (has w)) then 0 else 4) := by
    intro m
    induction m with
    | zero => intro k _ h; omega
    | succ m ih =>
      intro k hk hm
      rw [ref2_DepsErr_l2_eq, dlt]
      by_cases h : k < l.length
      · have hd := hs l[k] (List.getElem_mem _)
        simp only [dT h, d0, Bool.and_self, cond_true, Int.toNat_natCast, dlt, getD_lt _ h]
        rw [clone_ok n _ (by omega), bind_some2]
        simp only [decide_true, Bool.true_and]
        rw [dT hd.2, cond_true, deps4 n m l _ _ w _ (by rw [List.length_append]; omega) (by rw [List.length_append]; omega), List.all_append, i64_succ (by omega), ih (k + 1) (by omega) (by omega), List.drop_eq_getElem_cons h, List.all_cons]
        cases l[k].From.all (has w) && l[k].To.all (has w) <;> rfl
      · rw [dF h, drop_len h]
        rfl
  have := key n 0 (Nat.zero_le _) (by omega)
  rw [show ((0 : Nat) : Int) = 0 from rfl] at this
  exact this
theorem deps1_go (n : Nat) {fin : List (List UInt8 × Bool) → Option Int} : ∀ (l : List (List UInt8)) (i : Nat) (seen : List (List UInt8)) (w : List (List UInt8 × Bool)), (∀ s ∈ l, s.length < n ∧ s.length < 9223372036854775807) → (∀ s, has w s = seen.contains s) →
    ∃ w', (∀ s, has w' s = (seen ++ l).contains s) ∧ foldK (S := (List ((List UInt8) × Bool))) (fun i (a : (List UInt8)) s K => (Option.bind (value_Name n a) fun r1 => (bif (!r1) then (some 15) else (bif (mgetD E .str .bool s a) then (some 5) else (K (mset E .str .bool a true s)))))) fin l i w =
      match colErr n seen l with
      | some e => some e
      | none => fin w'
  | [], i, seen, w, _, hw => ⟨w, by simpa using hw, rfl⟩
  | a :: l, i, seen, w, h, hw => by
    have ha := h a (by simp)
    have hw2 : ∀ s, has (smset a true w) s = (seen ++ [a]).contains s := by
      intro s
      rw [has_set, List.contains_append, hw s]
      by_cases hs : s = a
      · simp [hs]
      · have : (s == a) = false := by simpa using hs
        rw [if_neg hs, List.contains_cons, this]
        simp
    obtain ⟨w', k1, k2⟩ := deps1_go n (fin := fin) l (i + 1) (seen ++ [a]) (smset a true w) (fun s hs => h s (by simp [hs])) hw2
    refine ⟨w', fun s => by rw [k1, List.append_assoc]; rfl, ?_⟩
    rw [foldK_cons, name_ok n a ha.2 ha.1, bind_some2, mgetD_s, hw a, mset_s]
    unfold colErr
    cases nmB n a with
    | false => rfl
    | true =>
      simp only [Bool.not_true, cond_false]
      cases seen.contains a with
      | true => rfl
      | false => exact k2
theorem depsErr_ok (n : Nat) (cols : List (List UInt8)) (l : List Dep) (h : Sm n cols l) : ref2_DepsErr n cols l = some (depErr n cols l) := by
  rw [ref2_DepsErr_eq]
  unfold depErr
  by_cases h1 : (cols.length : Int) > 12
  · simp only [dT h1, cond_true]
  by_cases h2 : (l.length : Int) > 20
  · simp only [dF h1, dT h2, cond_false, cond_true]
  simp only [dF h1, dF h2, cond_false]
  have hn := h.big
  have hf := ref2_DepsErr_l0_fold n l cols [] (by omega) n 0 (Nat.zero_le _) (by omega)
  rw [show ((0 : Nat) : Int) = 0 from rfl, List.drop_zero] at hf
  obtain ⟨w', k1, k2⟩ := deps1_go n (fin := fun s => ref2_DepsErr_l2 n n l (List.length l : Int) 0 s) cols 0 [] [] h.c (fun s => rfl)
  rw [hf, k2]
  cases colErr n [] cols with
  | some e => rfl
  | none =>
    simp only
    rw [deps2 n l w' (by omega) (by omega) h.f]
    have e : (fun d : Dep => d.From.all (has w') && d.To.all (has w')) = okD cols := by
      funext d
      have e2 : has w' = fun s => cols.contains s := by funext s; rw [k1]; rfl
      unfold okD inC
      rw [e2]
    rw [e]
theorem colErr_nodup (n : Nat) : ∀ (l seen : List (List UInt8)), colErr n seen l = none → seen.Nodup → (seen ++ l).Nodup
  | [], seen, _, hs => by simpa using hs
  | a :: l, seen, h, hs => by
    unfold colErr at h
    cases h1 : nmB n a with
    | false => rw [h1] at h; cases h
    | true =>
      rw [h1] at h
      cases h2 : seen.contains a with
      | true => rw [h2] at h; cases h
      | false =>
        rw [h2] at h
        have := colErr_nodup n l (seen ++ [a]) h (by
          rw [List.nodup_append]
          refine ⟨hs, by simp, ?_⟩
          intro x hx y hy hxy
          simp only [List.mem_singleton] at hy
          subst hy hxy
          rw [List.contains_iff_mem.2 hx] at h2
          cases h2)
        rw [List.append_assoc] at this
        exact this
/-- What a right list says. -/
structure Ok (cols : List (List UInt8)) (l : List Dep) : Prop where
  c : cols.length ≤ 12
  ln : l.length ≤ 20
  nd : cols.Nodup
  d : ∀ d ∈ l, okD cols d = true
theorem ok_of {n : Nat} {cols : List (List UInt8)} {l : List Dep} (h : depErr n cols l = 0) : Ok cols l := by
  unfold depErr at h
  by_cases h1 : (cols.length : Int) > 12
  · rw [dT h1] at h; cases h
  by_cases h2 : (l.length : Int) > 20
  · rw [dF h1, dT h2] at h; cases h
  rw [dF h1, dF h2, cond_false, cond_false] at h
  cases hc : colErr n [] cols with
  | some e =>
    exfalso
    rw [hc] at h
    have h : e = 0 := h
    have key : ∀ (l seen : List (List UInt8)) (e : Int), colErr n seen l = some e → e ≠ 0 := by
      intro l
      induction l with
      | nil => intro seen e h; cases h
      | cons a l ih =>
        intro seen e h
        unfold colErr at h
        cases h1 : nmB n a with
        | false => rw [h1] at h; cases h; decide
        | true =>
          rw [h1] at h
          cases h2 : seen.contains a with
          | true => rw [h2] at h; cases h; decide
          | false => rw [h2] at h; exact ih _ _ h
    exact key _ _ _ hc h
  | none =>
    rw [hc] at h
    have h : (bif l.all (okD cols) then (0 : Int) else 4) = 0 := h
    cases ha : l.all (okD cols) with
    | false => rw [ha] at h; cases h
    | true =>
      rw [List.all_eq_true] at ha
      exact ⟨by omega, by omega, by have := colErr_nodup n cols [] hc (by simp); simpa using this, ha⟩
theorem idx_at {cols : List (List UInt8)} (hn : cols.Nodup) {i : Nat} (h : i < cols.length) : idx cols cols[i] = i := by
  have hc : cols.contains cols[i] = true := List.contains_iff_mem.2 (List.getElem_mem _)
  have h1 := idx_get hc
  exact (List.getElem_inj hn).1 h1
theorem list_go (n : Nat) {cols : List (List UInt8)} (hc : cols.length ≤ 12) (hnd : cols.Nodup) {m : Nat} (hm : m < 4096) : ∀ (l : List (List UInt8)) (i : Nat) (out : List (List UInt8)), l = cols.drop i → out.length + l.length ≤ 100 →
    foldK (S := (List (List UInt8))) (fun i (a : (List UInt8)) s K => (bif (decide (0 ≤ (i : Int))) then (bif (decide ((Fv.bits .and .i64 (shr .i64 (m : Int) (i : Int)) 1) = 1)) then (bif (decide ((List.length s) = List.length s) && decide (List.length s + List.length ([a] : List (List UInt8)) ≤ 4294967296)) then (K (s ++ [a])) else none) else (K s)) else none)) (fun s => (some s)) l i out = some (out ++ l.filter (chi cols m))
  | [], i, out, _, _ => by simp [foldK_nil]
  | a :: l, i, out, h, ho => by
    have hi : i < cols.length := by
      apply Classical.byContradiction
      intro hi
      rw [List.drop_eq_nil_of_le (by omega)] at h
      cases h
    have h0 := h
    rw [List.drop_eq_getElem_cons hi] at h
    injection h with h1 h2
    have hch : m.testBit i = chi cols m a := by
      unfold chi
      subst h1
      rw [idx_at hnd hi, List.contains_iff_mem.2 (List.getElem_mem _), Bool.true_and]
    rw [foldK_cons, d0, bit_nat (by omega) (by omega), hch, List.filter_cons]
    generalize hK : (fun s' => foldK _ _ l (i + 1) s') = K
    cases chi cols m a with
    | false =>
      simp only [cond_true, cond_false, Bool.false_eq_true, if_false]
      rw [← hK]
      exact list_go n hc hnd hm l (i + 1) out h2 (by simp only [List.length_cons] at ho; omega)
    | true =>
      simp only [cond_true, if_true, decide_true, Bool.true_and]
      simp only [List.length_cons] at ho
      have hbound : out.length + 1 ≤ 4294967296 := by omega
      rw [dT (by simpa using hbound), cond_true, ← hK]
      show foldK _ _ l (i + 1) _ = _
      rw [list_go n hc hnd hm l (i + 1) _ h2 (by simp only [List.length_append, List.length_cons, List.length_nil]; omega), List.append_assoc]
      rfl
theorem list_ok (n : Nat) {cols : List (List UInt8)} (hc : cols.length ≤ 12) (hnd : cols.Nodup) {m : Nat} (hm : m < 4096) (hn : 12 < n) : keys_list n cols (m : Int) = some (cols.filter (chi cols m)) := by
  have hf := keys_list_l0_fold n (m : Int) cols [] (by omega) n 0 (Nat.zero_le _) (by omega)
  rw [show ((0 : Nat) : Int) = 0 from rfl, List.drop_zero] at hf
  rw [keys_list_eq, hf, list_go n hc hnd hm cols 0 [] rfl (by simp; omega)]
  rfl
/-- Closures, as the program and the reference have them. -/
theorem closed_rel {cols : List (List UInt8)} {l : List Dep} (h : Ok cols l) {fr : List (List UInt8)} (hf : inC cols fr = true) (n : Nat) (hn : 100 < n) :
    ∃ m : Nat, m < 4096 ∧ keys_closed n (l.map (toD cols)) (mask cols fr : Int) = some (m : Int) ∧ Rel cols m (reached l fr) := by
  have hln := h.ln
  refine ⟨_, ?_, closed_ok n h.c h.d (by omega) hn (mask_ok h.c hf) (l.length + 1) (by omega) (by omega), rel_iter h.d (rel_start hf)⟩
  have key : ∀ (k m : Nat), m < 4096 → iter (passC cols l) k m < 4096 := by
    intro k
    induction k with
    | zero => exact fun m hm => hm
    | succ k ih => exact fun m hm => ih _ (pass_lt h.c hm h.d)
  exact key _ _ (mask_ok h.c hf)

/-! ### Lists in order -/
theorem eq_go (n : Nat) (v0 v1 : List (List UInt8)) (hl : v0.length = v1.length) : ∀ (l : List (List UInt8)) (i : Nat), l = v0.drop i → i ≤ v0.length →
    foldK (S := Unit) (fun i (a : (List UInt8)) s K => (bif (decide (0 ≤ (i : Int)) && decide ((i : Int) < List.length v1)) then (bif (!(a == (List.getD v1 (Int.toNat (i : Int)) []))) then (some false) else (K ())) else none)) (fun s => (some true)) l i () = some (decide (l = v1.drop i))
  | [], i, h, hi => by
    have hi2 : ¬ i < v0.length := fun hi2 => by rw [List.drop_eq_getElem_cons hi2] at h; cases h
    rw [List.drop_eq_nil_of_le (by omega)]
    rfl
  | a :: l, i, h, hi => by
    have hi2 : i < v0.length := by
      apply Classical.byContradiction
      intro hi2
      rw [List.drop_eq_nil_of_le (by omega)] at h
      cases h
    have h0 := h
    rw [List.drop_eq_getElem_cons hi2] at h
    injection h with h1 h2
    have hi3 : i < v1.length := by omega
    rw [foldK_cons, d0, dlt, dT hi3, Int.toNat_natCast, getD_lt _ hi3]
    show (bif true && true then bif !a == v1[i] then some false else foldK _ _ l (i + 1) () else none) = _
    rw [eq_go n v0 v1 hl l (i + 1) h2 (by omega)]
    have e : List.drop i v1 = v1[i] :: List.drop (i + 1) v1 := List.drop_eq_getElem_cons hi3
    by_cases hq : a = v1[i]
    · simp only [hq, beq_self_eq_true, Bool.not_true, Bool.and_self, cond_true, cond_false, e, List.cons.injEq, true_and]
    · have : (a == v1[i]) = false := by simpa using hq
      have h3 : ¬ a :: l = List.drop i v1 := by rw [e]; intro h; injection h with h; exact hq h
      rw [this, dF h3]
      rfl
theorem equal_ok (n : Nat) (v0 v1 : List (List UInt8)) (h : v0.length < 9223372036854775807) (hn : v0.length < n) : slices_Equal n v0 v1 = some (decide (v0 = v1)) := by
  rw [slices_Equal_eq]
  by_cases hl : v0.length = v1.length
  · have hf := slices_Equal_l0_fold n v0 v1 h n 0 (Nat.zero_le _) (by omega)
    rw [show ((0 : Nat) : Int) = 0 from rfl, List.drop_zero] at hf
    rw [dT (by rw [hl]), Bool.not_true, cond_false, hf, eq_go n v0 v1 hl v0 0 rfl (Nat.zero_le _), List.drop_zero]
  · have h2 : ¬ v0 = v1 := fun h2 => hl (by rw [h2])
    have h3 : ¬ ((v0.length : Nat) : Int) = ((v1.length : Nat) : Int) := by omega
    rw [dF h3, dF h2]
    rfl
theorem ifr_ok (n : Nat) (xs : List (List UInt8)) (w : List (List UInt8 × Bool)) (h : xs.length < 9223372036854775807) (hn : xs.length < n) : slices_IndexFunc n (xs, 0, xs.length) (w, ()) = some (ixI (fun a => !has w a) xs, xs, ()) := by
  have hf := slices_IndexFunc_l0_fold n 0 xs.length w xs xs.length h n 0 (Nat.zero_le _) (by omega)
  rw [show ((0 : Nat) : Int) = 0 from rfl] at hf
  rw [slices_IndexFunc_eq]
  refine hf.trans ((foldN_row xs [] (fun i a s K => Option.bind (law2_inOrder_1 n a w) fun r1 => bif r1 then some ((i : Int), xs, ()) else K ()) (fun s => some (-1, xs, ())) _ 0 () (by omega)).trans ?_)
  rw [List.drop_zero, foldK_congr (step' := fun i a _ K => bif !has w a then some ((i : Int), xs, ()) else K ()) (fin' := fun s => some (-1, xs, ())) (fun _ => rfl) xs 0 () (fun i a s K _ => by rw [law2_inOrder_1_eq, bind_some2, mgetD_s]), foldK_idxG (fun i : Nat => ((i : Int), xs, ()))]
  unfold ixI
  cases List.findIdx? (fun a => !has w a) xs <;> simp
theorem del_go (n : Nat) (w : List (List UInt8 × Bool)) (N : Nat) (hN : N < 9223372036854775807) : ∀ (m j i : Nat) (ws : List (List UInt8)), ws.length = N → i ≤ j → j ≤ N → N - j < m →
    ∃ ws', ws'.length = N ∧ i + ((ws.drop j).filter (has w)).length ≤ N ∧ ws'.take (i + ((ws.drop j).filter (has w)).length) = ws.take i ++ (ws.drop j).filter (has w) ∧ slices_DeleteFunc_l0 n m 0 N w (i : Int) (j : Int) ws = some ((0, i + ((ws.drop j).filter (has w)).length), ws', ()) := by
  intro m
  induction m with
  | zero => intro j i ws _ _ _ h; omega
  | succ m ih =>
    intro j i ws hws hij hj hm
    rw [slices_DeleteFunc_l0_eq]
    by_cases h : j < N
    · have hj2 : j < ws.length := by omega
      have hi2 : i < ws.length := by omega
      rw [dlt, dT h, d0, Int.toNat_natCast, Nat.zero_add, dT hj2, getD_lt _ hj2, law2_inOrder_1_eq, bind_some2, mgetD_s, List.drop_eq_getElem_cons hj2, List.filter_cons]
      simp only [Bool.and_self, cond_true, Bool.not_not]
      cases hk : has w ws[j] with
      | false =>
        simp only [cond_false, Bool.false_eq_true, if_false]
        rw [i64_succ (by omega)]
        exact ih (j + 1) i ws hws (by omega) (by omega) (by omega)
      | true =>
        simp only [cond_true, if_true]
        rw [dlt, d0, dT (show i < N by omega), Int.toNat_natCast, Nat.zero_add, dT hi2, i64_succ (by omega), i64_succ (by omega)]
        simp only [Bool.and_self, cond_true]
        obtain ⟨ws', k1, k2, k3, k4⟩ := ih (j + 1) (i + 1) (ws.set i ws[j]) (by simpa using hws) (by omega) (by omega) (by omega)
        rw [List.drop_set, if_pos (by omega)] at k2 k3 k4
        have e : i + 1 + ((ws.drop (j + 1)).filter (has w)).length = i + (ws[j] :: (ws.drop (j + 1)).filter (has w)).length := by simp only [List.length_cons]; omega
        rw [e] at k2 k3 k4
        refine ⟨ws', k1, k2, ?_, k4⟩
        rw [k3, List.take_succ_eq_append_getElem (by simpa using hi2), List.getElem_set_self, List.take_set_of_le (Nat.le_refl _), List.append_assoc]
        rfl
    · have hjN : j = N := by omega
      subst hjN
      rw [dlt, dF h, cond_false, d0, dle, dT hij, Int.toNat_natCast, Nat.zero_add, dT (show i + (j - i) ≤ ws.length by omega)]
      have hlen : (over ws (List.replicate (j - i) []) i).length = j := by
        simp only [over, List.length_append, List.length_take, List.length_drop, List.length_replicate]
        omega
      rw [List.drop_eq_nil_of_le (by omega)]
      refine ⟨over ws (List.replicate (j - i) []) i, hlen, by simpa using hij, ?_, ?_⟩
      · simp only [over, List.filter_nil, List.length_nil, Nat.add_zero, List.append_nil]
        rw [List.append_assoc, List.take_append_of_le_length (by rw [List.length_take]; omega), List.take_take, Nat.min_self]
      · have h3 : ((0 : Nat) : Int) + (i : Int) ≤ (((over ws (List.replicate (j - i) []) i).length : Nat) : Int) := by rw [hlen]; omega
        simp only [Bool.and_self, cond_true, d00, d0, Bool.true_and]
        rw [dT h3, cond_true]
        rfl
theorem del_ok (n : Nat) (xs : List (List UInt8)) (w : List (List UInt8 × Bool)) (h : xs.length < 9223372036854775807) (hn : xs.length < n) :
    ∃ k ws, slices_DeleteFunc n (xs, 0, xs.length) (w, ()) = some ((0, k), ws, ()) ∧ 0 + k ≤ ws.length ∧ ws.take k = xs.filter (has w) := by
  rw [slices_DeleteFunc_eq, ifr_ok n xs w h hn, bind_some2]
  by_cases hi : ixI (fun a => !has w a) xs = -1
  · refine ⟨xs.length, xs, by simp [hi], by omega, ?_⟩
    rw [List.take_length]
    symm
    rw [List.filter_eq_self]
    intro x hx
    have := ixI_none hi x hx
    simpa using this
  · obtain ⟨j, hj, h1, h2, h3⟩ := ixI_some hi
    obtain ⟨ws, k1, k2, k3, k4⟩ := del_go n w xs.length h n (j + 1) j xs rfl (by omega) (by omega) (by omega)
    refine ⟨j + ((xs.drop (j + 1)).filter (has w)).length, ws, ?_, by omega, ?_⟩
    · rw [hj] at hi ⊢
      simp only [dF hi, cond_false]
      rw [i64_succ (by omega)]
      exact k4
    · rw [k3]
      have e1 : (xs.take j).filter (has w) = xs.take j := by
        rw [List.filter_eq_self]
        intro x hx
        have := h3 x hx
        simpa using this
      have e2 : has w xs[j] = false := by simpa using h2
      conv => rhs; rw [← List.take_append_drop j xs, List.filter_append, List.drop_eq_getElem_cons h1, List.filter_cons, e2]
      rw [e1]
      rfl
theorem inOrder_ok (n : Nat) (xs : List (List UInt8)) (w : List (List UInt8 × Bool)) (h : xs.length ≤ 4294967296) (hn : xs.length < n) : law2_inOrder n xs w = some (xs.filter (has w)) := by
  obtain ⟨k, ws, h1, h2, h3⟩ := del_ok n xs w (by omega) hn
  rw [law2_inOrder_eq, clone_ok n xs h, bind_some2, h1, bind_some2]
  simp only [dT h2, cond_true, Bool.and_true]
  rw [List.drop_zero, h3]
theorem cf_ok (n : Nat) (xs : List (List UInt8)) (w : List (List UInt8 × Bool)) (h : xs.length < 9223372036854775807) (hn : xs.length < n) : slices_ContainsFunc n xs (w, ()) = some (xs.any fun a => !has w a) := by
  have hf := slices_IndexFunc_2_l0_fold n xs w h n 0 (Nat.zero_le _) (by omega)
  rw [show ((0 : Nat) : Int) = 0 from rfl, List.drop_zero, foldK_congr (step' := fun i a _ K => bif !has w a then some (i : Int) else K ()) (fin' := fun s => some (-1)) (fun _ => rfl) xs 0 () (fun i a s K _ => by rw [law2_KeysCloses_1_eq, bind_some2, mgetD_s]), foldK_idx] at hf
  have e : slices_IndexFunc_2 n xs (w, ()) = some (ixI (fun a => !has w a) xs) := by
    rw [slices_IndexFunc_2_eq, hf]
    unfold ixI
    cases List.findIdx? (fun a => !has w a) xs <;> simp
  rw [slices_ContainsFunc_eq, e, bind_some2, ixI_pos]

/-! ### The law -/
theorem cloneD_ok (n : Nat) (x : List Dep) (h : x.length ≤ 4294967296) : slices_Clone_2_18 n x = some x := by
  rw [slices_Clone_2_18_eq]
  simp only [List.nil_append, List.length_nil, Nat.zero_add, dT h, decide_true, cond_true]
theorem follows_ok (n : Nat) (cols : List (List UInt8)) (l : List Dep) (d : Dep) (hl : l.length ≤ 4294967000) (h : Sm n cols (l ++ [d])) :
    keys_Follows n cols l d = some (bif decide (depErr n cols (l ++ [d]) = 0) then d.To.all (has (reached l d.From)) else false, depErr n cols (l ++ [d])) := by
  rw [keys_Follows_eq, cloneD_ok n l (by omega), bind_some2]
  have hb : l.length + ([d] : List Dep).length ≤ 4294967296 := by simp only [List.length_cons, List.length_nil]; omega
  simp only [decide_true, Bool.true_and]
  rw [dT hb, cond_true, read_ok n cols (l ++ [d]) h, bind_some2]
  by_cases h0 : depErr n cols (l ++ [d]) = 0
  · have ok := ok_of h0
    have okl : Ok cols l := ⟨ok.c, by have := ok.ln; rw [List.length_append] at this; omega, ok.nd, fun d' hd => ok.d d' (by simp [hd])⟩
    have okd : okD cols d = true := ok.d d (by simp)
    have okd2 := okd
    unfold okD at okd2
    rw [Bool.and_eq_true] at okd2
    rw [h0]
    simp only [decide_true, Bool.not_true, cond_false, cond_true]
    have hml : ((l ++ [d]).map (toD cols)).length = l.length + 1 := by simp
    have hw : IntKind.wrap .i64 ((((l ++ [d]).map (toD cols)).length : Int) - 1) = (l.length : Int) := by rw [hml]; exact i64_pred (by omega)
    rw [hw, hml]
    have h1 : ((l.length : Nat) : Int) ≤ ((l.length + 1 : Nat) : Int) := by omega
    have h2 : ((l.length : Nat) : Int) < ((l.length + 1 : Nat) : Int) := by omega
    have hg : List.getD ((l ++ [d]).map (toD cols)) l.length (dep.mk 0 0) = toD cols d := by
      rw [List.map_append, List.getD_eq_getElem?_getD, List.getElem?_append_right (by simp), List.length_map, Nat.sub_self]
      rfl
    have ht : List.take l.length ((l ++ [d]).map (toD cols)) = l.map (toD cols) := by
      rw [List.map_append, List.take_append_of_le_length (by simp), List.take_of_length_le (by simp)]
    simp only [d0, dT h1, dT h2, Bool.and_self, cond_true, Int.toNat_natCast, hg, ht]
    obtain ⟨m, m1, m2, m3⟩ := closed_rel okl okd2.1 n (by have := h.big; omega)
    have m2' : keys_closed n (l.map (toD cols)) (toD cols d).from_ = some (m : Int) := m2
    rw [m2', bind_some2]
    show some (decide (Fv.bits .and .i64 (m : Int) (mask cols d.To : Int) = (mask cols d.To : Int)), (0 : Int)) = _
    have m4 := mask_ok okl.c okd2.2
    rw [and_nat (by omega) (by omega)]
    have e1 : decide (((m &&& mask cols d.To : Nat) : Int) = (mask cols d.To : Int)) = decide (m &&& mask cols d.To = mask cols d.To) := by simp only [Int.natCast_inj]
    rw [e1]
    congr 2
    have e2 : d.To.all (has (reached l d.From)) = d.To.all (chi cols m) := by congr 1; funext s; exact (m3 s).symm
    rw [e2]
    cases hb : d.To.all (chi cols m) with
    | true => exact dT (and_eq_iff.2 ((sub_iff okd2.2).2 hb))
    | false => exact dF fun h2 => by rw [and_eq_iff, sub_iff okd2.2, hb] at h2; cases h2
  · simp only [dF h0, Bool.not_false, cond_true, cond_false]
theorem closure_ok (n : Nat) (cols : List (List UInt8)) (l : List Dep) (fr : List (List UInt8)) (h : Sm n cols l) (hf : fr.length < n ∧ fr.length < 9223372036854775807) :
    keys_Closure n cols l fr = some (bif decide (depErr n cols l = 0) then (bif inC cols fr then (cols.filter (has (reached l fr)), 0) else ([], 4)) else ([], depErr n cols l)) := by
  rw [keys_Closure_eq, read_ok n cols l h, bind_some2]
  by_cases h0 : depErr n cols l = 0
  · have ok := ok_of h0
    have hbig := h.big
    rw [h0]
    simp only [decide_true, Bool.not_true, cond_false, cond_true]
    rw [set_ok n cols fr ok.c (by omega) hf.2 hf.1, bind_some2]
    cases hin : inC cols fr with
    | false => rfl
    | true =>
      obtain ⟨m, m1, m2, m3⟩ := closed_rel ok hin n (by omega)
      simp only [cond_true, Bool.not_true, cond_false]
      rw [m2, bind_some2, list_ok n ok.c ok.nd m1 (by omega), bind_some2]
      have e2 : chi cols m = has (reached l fr) := by funext s; exact m3 s
      rw [e2]
  · simp only [dF h0, Bool.not_false, cond_true, cond_false]
theorem nm_a (n : Nat) (h : 100 < n) : nmB n [97] = true ∧ nmB n [98] = true := by
  have h1 := value_Name_l0_fold n [97] (by decide) n 0 (Nat.zero_le _) (by simp; omega)
  have h2 := value_Name_l0_fold n [98] (by decide) n 0 (Nat.zero_le _) (by simp; omega)
  rw [show ((0 : Nat) : Int) = 0 from rfl] at h1 h2
  unfold nmB
  rw [value_Name_eq, value_Name_eq, show ints [97] = [97] from rfl, show ints [98] = [98] from rfl, h1, h2]
  exact ⟨rfl, rfl⟩
theorem deps_ok (n : Nat) (h : 100 < n) : law2_deps n = some true := by
  have hs : Sm n [[97], [98]] [(Dep.mk [[97]] [[98]])] := ⟨h, by simp; omega, by simp; omega⟩
  have h0 : depErr n [[97], [98]] [(Dep.mk [[97]] [[98]])] = 0 := by
    unfold depErr
    have : colErr n [] [[97], [98]] = none := by
      unfold colErr
      rw [(nm_a n h).1]
      unfold colErr
      rw [(nm_a n h).2]
      rfl
    rw [this]
    decide
  rw [law2_deps_eq, closure_ok n _ _ _ hs (by simp; omega), bind_some2, h0]
  have e : (bif decide ((0 : Int) = 0) then (bif inC [[97], [98]] [[97]] then (List.filter (has (reached [(Dep.mk [[97]] [[98]])] [[97]])) [[97], [98]], (0 : Int)) else ([], 4)) else ([], 0)) = (([[97], [98]], 0) : List (List UInt8) × Int) := by decide
  rw [e, dT rfl, cond_true, equal_ok n _ _ (by decide) (by simp; omega), bind_some2]
  rfl
theorem any_not {A : Type} (p : A → Bool) : ∀ l : List A, (l.any fun a => !p a) = !l.all p
  | [] => rfl
  | a :: l => by rw [List.any_cons, List.all_cons, any_not p l, Bool.not_and]
theorem half2 (n : Nat) (x0 : List (List UInt8)) (x1 : List Dep) (x2 x3 : List (List UInt8)) (hl : x1.length ≤ 4294967000) (hS : Sm n x0 (x1 ++ [Dep.mk x2 x3])) (hf : x2.length < n ∧ x2.length < 9223372036854775807) (ht : x3.length < n ∧ x3.length < 9223372036854775807) :
    (Option.bind (keys_Follows n x0 x1 (Dep.mk x2 x3)) fun r9 => (Option.bind (slices_Clone_2_18 n x1) fun r10 => (bif (decide ((List.length r10) = List.length r10) && decide (List.length r10 + List.length ([(Dep.mk x2 x3)] : List Dep) ≤ 4294967296)) then (Option.bind (ref2_DepsErr n x0 (r10 ++ [(Dep.mk x2 x3)])) fun r11 => (bif (!decide (r11 = 0)) then (bif (decide (r9.2 = r11)) then (some (!r9.1)) else (some false)) else (Option.bind (ref2_Reached n x1 x2) fun r12 => (bif (decide (r9.2 = 0)) then (Option.bind (slices_ContainsFunc n x3 (r12, ())) fun r13 => (some (r9.1 == (!r13)))) else (some false))))) else none))) = some true := by
  have hb : x1.length + ([Dep.mk x2 x3] : List Dep).length ≤ 4294967296 := by simp only [List.length_cons, List.length_nil]; omega
  rw [follows_ok n x0 x1 _ (by omega) hS, bind_some2, cloneD_ok n x1 (by omega), bind_some2]
  simp only [decide_true, Bool.true_and]
  rw [dT hb, cond_true, depsErr_ok n x0 _ hS, bind_some2]
  by_cases h0 : depErr n x0 (x1 ++ [Dep.mk x2 x3]) = 0
  · have ok := ok_of h0
    have hln := ok.ln
    rw [List.length_append] at hln
    have hbig := hS.big
    rw [h0]
    simp only [decide_true, Bool.not_true, cond_false, cond_true]
    rw [reached_ok n x1 x2 (by omega) (by omega) hf (fun d hd => by have := hS.f d (by simp [hd]); exact ⟨⟨by omega, by omega⟩, by omega, by omega⟩), bind_some2, cf_ok n x3 _ ht.2 ht.1, bind_some2]
    congr 1
    rw [any_not, Bool.not_not]
    simp
  · simp only [dF h0, Bool.not_false, cond_true, decide_true, cond_false, Bool.not_false]
theorem depErr_from {n : Nat} {cols : List (List UInt8)} {l : List Dep} (h : depErr n cols l = 0) (fr : List (List UInt8)) : depErr n cols [Dep.mk fr []] = bif inC cols fr then 0 else 4 := by
  have hc : colErr n [] cols = none := by
    have h2 := h
    unfold depErr at h2
    have ok := ok_of h
    have := ok.c
    have := ok.ln
    rw [dF (show ¬ (cols.length : Int) > 12 by omega), dF (show ¬ (l.length : Int) > 20 by omega), cond_false, cond_false] at h2
    cases hce : colErr n [] cols with
    | none => rfl
    | some e =>
      exfalso
      rw [hce] at h2
      have h2 : e = 0 := h2
      have key : ∀ (l seen : List (List UInt8)) (e : Int), colErr n seen l = some e → e ≠ 0 := by
        intro l
        induction l with
        | nil => intro seen e h; cases h
        | cons a l ih =>
          intro seen e h
          unfold colErr at h
          cases h1 : nmB n a with
          | false => rw [h1] at h; cases h; decide
          | true =>
            rw [h1] at h
            cases h2 : seen.contains a with
            | true => rw [h2] at h; cases h; decide
            | false => rw [h2] at h; exact ih _ _ h
      exact key _ _ _ hce h2
  have ok := ok_of h
  have := ok.c
  unfold depErr
  rw [hc, dF (show ¬ (cols.length : Int) > 12 by omega)]
  show (bif (inC cols fr && inC cols []) && true then (0 : Int) else 4) = _
  have : inC cols [] = true := rfl
  rw [this]
  cases inC cols fr <;> rfl
theorem law_ok (x0 : List (List UInt8)) (x1 : List Dep) (x2 : List (List UInt8)) (x3 : List (List UInt8)) (h0 : ∀ g, Fv.Good E g (.sl .str) x0) (h1 : ∀ g, Fv.Good E g (.sl (.nm 0)) x1) (h2 : ∀ g, Fv.Good E g (.sl .str) x2) (h3 : ∀ g, Fv.Good E g (.sl .str) x3)
    (hb : ∀ g, Bulk E g (.sl .str) x0 + Bulk E g (.sl (.nm 0)) x1 + Bulk E g (.sl .str) x2 + Bulk E g (.sl .str) x3 ≤ 1048576) : ∃ n, law2_KeysCloses n x0 x1 x2 x3 = some true := by
  have hbk := hb 1
  have bs : ∀ l : List (List UInt8), Bulk E 1 (.sl .str) l = (l.map fun s => s.length + 1).sum + 1 := fun l => rfl
  have bd : Bulk E 1 (.sl (.nm 0)) x1 = (x1.map fun d : Dep => ((d.From.map fun s => s.length + 1).sum + 1) + ((d.To.map fun s => s.length + 1).sum + 1)).sum + 1 := rfl
  have sl : ∀ l : List (List UInt8), l.length ≤ (l.map fun s => s.length + 1).sum := fun l => sum_gm _ l fun s _ => by omega
  rw [bs, bd, bs, bs] at hbk
  have c0 : ∀ s ∈ x0, s.length ≤ 1048576 := by
    intro s hs
    have : s.length + 1 ≤ (x0.map fun s => s.length + 1).sum := mem_sum (List.mem_map.2 ⟨s, hs, rfl⟩)
    omega
  have c1 : ∀ d ∈ x1, d.From.length + d.To.length ≤ 1048576 := by
    intro d hd
    have h : ((d.From.map fun s => s.length + 1).sum + 1) + ((d.To.map fun s => s.length + 1).sum + 1) ≤ (x1.map fun d : Dep => ((d.From.map fun s => s.length + 1).sum + 1) + ((d.To.map fun s => s.length + 1).sum + 1)).sum := mem_sum (List.mem_map.2 ⟨d, hd, rfl⟩)
    have := sl d.From
    have := sl d.To
    omega
  have l1 : x1.length ≤ 1048576 := by
    have := sum_gm (fun d : Dep => ((d.From.map fun s => s.length + 1).sum + 1) + ((d.To.map fun s => s.length + 1).sum + 1)) x1 fun d _ => by omega
    omega
  have l0 := sl x0
  have l2 := sl x2
  have l3 := sl x3
  obtain ⟨n, hn⟩ : ∃ n : Nat, 10000000 < n := ⟨_, Nat.lt_succ_self _⟩
  refine ⟨n, ?_⟩
  have S1 : Sm n x0 x1 := ⟨by omega, fun s hs => by have := c0 s hs; omega, fun d hd => by have := c1 d hd; omega⟩
  have S2 : Sm n x0 [Dep.mk x2 []] := ⟨by omega, fun s hs => by have := c0 s hs; omega, fun d hd => by
    rw [List.mem_singleton] at hd
    subst hd
    simp only [List.length_nil]
    omega⟩
  have S3 : Sm n x0 (x1 ++ [Dep.mk x2 x3]) := ⟨by omega, fun s hs => by have := c0 s hs; omega, fun d hd => by
    rcases List.mem_append.1 hd with hd | hd
    · have := c1 d hd
      omega
    · rw [List.mem_singleton] at hd
      subst hd
      simp only
      omega⟩
  have H := half2 n x0 x1 x2 x3 (by omega) S3 (by omega) (by omega)
  rw [law2_KeysCloses_eq, H, depsErr_ok n x0 x1 S1, bind_some2, deps_ok n (by omega), bind_some2, keys_Check_eq, read_ok n x0 x1 S1, closure_ok n x0 x1 x2 S1 (by omega), depsErr_ok n x0 _ S2]
  simp only [bind_some2, Bool.not_true, cond_false, decide_true]
  by_cases he : depErr n x0 x1 = 0
  · rw [depErr_from he x2, he]
    cases hin : inC x0 x2 with
    | false => rfl
    | true =>
      have ok := ok_of he
      have := ok.ln
      have := ok.c
      simp only [decide_true, cond_true, cond_false, Bool.not_true]
      rw [reached_ok n x1 x2 (by omega) (by omega) (by omega) (fun d hd => by have := c1 d hd; exact ⟨⟨by omega, by omega⟩, by omega, by omega⟩), bind_some2, inOrder_ok n x0 _ (by omega) (by omega), bind_some2, equal_ok n _ _ (by have := List.length_filter_le (has (reached x1 x2)) x0; omega) (by have := List.length_filter_le (has (reached x1 x2)) x0; omega), bind_some2, dT rfl]
      rfl
  · simp only [dF he, cond_false, Bool.not_false, cond_true, decide_true, Bool.not_true]
    rfl
end Go.Proofs.Ytolocmnfhkobgaa.PKeysCloses
