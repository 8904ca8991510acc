/- The plain law KeysLeast. No condition. -/
import Derived.Test.YtpceknfciilahaaFnKeysLeast
-- UPTO
set_option linter.unusedVariables false
set_option linter.unusedSimpArgs false
namespace Go.Proofs.Ytpceknfciilahaa.PKeysLeast
open Go Go.Proofs Go.Proofs.Ytpceknfciilahaa.Fv

/-! ### Names, places, sets -/
theorem name_ex (n : Nat) (s : List UInt8) (hs : s.length < 9223372036854775807) (hn : s.length < n) : ∃ b, value_Name n s = some b := by
  rw [value_Name_eq]
  cases s with
  | nil => exact ⟨_, rfl⟩
  | cons c s =>
    have h0 : (0 : Int) < (((c :: s).length : Nat) : Int) := by simp only [List.length_cons]; omega
    have hl : (ints (c :: s)).length = (c :: s).length := by simp [ints]
    have hb : ∃ b, value_Name_l0 n n (ints (c :: s)) (List.length (ints (c :: s)) : Int) 0 = some b := by
      have h := value_Name_l0_fold n (ints (c :: s)) (by omega) n 0 (Nat.zero_le _) (by omega)
      rw [show ((0 : Nat) : Int) = 0 from rfl] at h
      rw [h]
      exact foldK_ex (fun _ => ⟨_, rfl⟩) _ _ _ fun i a s K _ hK => by repeat (first | exact hK _ | exact ⟨_, rfl⟩ | apply ex_cond)
    simp only [dT h0, d00, Bool.and_self, cond_true]
    repeat (first | exact hb | exact ⟨_, rfl⟩ | apply ex_cond)
noncomputable def nmB (n : Nat) (s : List UInt8) : Bool := (value_Name n s).getD false
theorem name_ok (n : Nat) (s : List UInt8) (hs : s.length < 9223372036854775807) (hn : s.length < n) : value_Name n s = some (nmB n s) := by
  obtain ⟨b, hb⟩ := name_ex n s hs hn
  unfold nmB
  rw [hb]
  rfl

theorem index_ok (n : Nat) (v : List (List UInt8)) (s : List UInt8) (hl : v.length < 9223372036854775807) (hn : v.length < n) : slices_Index n v s = some (ixI (fun a => s == a) v) := by
  have h := slices_Index_l0_fold n v s hl n 0 (Nat.zero_le _) (by omega)
  rw [show ((0 : Nat) : Int) = 0 from rfl] at h
  rw [slices_Index_eq, h, List.drop_zero, foldK_idx]
  unfold ixI
  cases List.findIdx? (fun a => s == a) v <;> simp
theorem contains_ok (n : Nat) (v : List (List UInt8)) (s : List UInt8) (hl : v.length < 9223372036854775807) (hn : v.length < n) : slices_Contains n v s = some (v.contains s) := by
  rw [slices_Contains_eq, index_ok n v s hl hn, bind_some2, ixI_pos, List.contains_eq_any_beq]

def idx (cols : List (List UInt8)) (s : List UInt8) : Nat := cols.findIdx fun a => s == a
theorem idx_lt {cols : List (List UInt8)} {s : List UInt8} (h : cols.contains s = true) : idx cols s < cols.length := by
  refine List.findIdx_lt_length_of_exists ?_
  rw [List.contains_eq_any_beq, List.any_eq_true] at h
  exact h
theorem idx_get {cols : List (List UInt8)} {s : List UInt8} (h : cols.contains s = true) : cols[idx cols s]'(idx_lt h) = s := by
  have := List.findIdx_getElem (p := fun a => s == a) (xs := cols) (w := idx_lt h)
  exact (beq_iff_eq.1 this).symm
def addM (cols : List (List UInt8)) (m : Nat) (a : List UInt8) : Nat := m ||| 2 ^ idx cols a
def mask (cols l : List (List UInt8)) : Nat := l.foldl (addM cols) 0
def inC (cols l : List (List UInt8)) : Bool := l.all fun s => cols.contains s
theorem addM_lt {cols : List (List UInt8)} (hc : cols.length ≤ 12) {m : Nat} (hm : m < 4096) {a : List UInt8} (ha : cols.contains a = true) : addM cols m a < 4096 := by
  have h := idx_lt ha
  have h2 : 2 ^ idx cols a < 2 ^ 12 := Nat.pow_lt_pow_right (by omega) (by omega)
  exact Nat.or_lt_two_pow (n := 12) (by simpa using hm) h2
theorem set_go (n : Nat) (cols : List (List UInt8)) (hc : cols.length ≤ 12) (hn : 12 < n) : ∀ (l : List (List UInt8)) (i m : Nat), m < 4096 →
    foldK (S := Int) (R := Int × Bool) (fun i (a : (List UInt8)) s K => (Option.bind (slices_Index n cols a) fun r1 => (bif (decide (r1 < 0)) then (some (0, false)) else (bif (decide (0 ≤ r1)) then (K (Fv.bits .or .i64 s (shl .i64 (1 : Int) r1))) else none)))) (fun s => (some (s, true))) l i (m : Int) =
      some (bif inC cols l then (((l.foldl (addM cols) m : Nat) : Int), true) else (0, false))
  | [], i, m, _ => rfl
  | a :: l, i, m, hm => by
    rw [foldK_cons, index_ok n cols a (by omega) (by omega), bind_some2, ixI_neg, ← List.contains_eq_any_beq]
    show _ = some (bif cols.contains a && inC cols l then _ else _)
    cases ha : cols.contains a with
    | false => rfl
    | true =>
      have hi := idx_lt ha
      have e : ixI (fun b => a == b) cols = ((idx cols a : Nat) : Int) := by
        rw [ixI_eq, ← List.contains_eq_any_beq, ha]
        rfl
      have h2 : 2 ^ idx cols a < 2 ^ 12 := Nat.pow_lt_pow_right (by omega) (by omega)
      rw [e, d0, shl_nat (by omega), or_nat (by omega) (by omega)]
      simp only [Bool.not_true, cond_false, cond_true, Bool.true_and]
      exact set_go n cols hc hn l (i + 1) (addM cols m a) (addM_lt hc hm ha)
theorem set_ok (n : Nat) (cols l : List (List UInt8)) (hc : cols.length ≤ 12) (hn : 12 < n) (hl : l.length < 9223372036854775807) (hln : l.length < n) :
    keys_set n cols l = some (bif inC cols l then ((mask cols l : Int), true) else (0, false)) := by
  have h := keys_set_l0_fold n cols l 0 hl n 0 (Nat.zero_le _) (by omega)
  rw [show ((0 : Nat) : Int) = 0 from rfl] at h
  rw [keys_set_eq, h, List.drop_zero]
  exact set_go n cols hc hn l 0 0 (by omega)
theorem mask_lt {cols : List (List UInt8)} (hc : cols.length ≤ 12) : ∀ {l : List (List UInt8)} {m : Nat}, inC cols l = true → m < 4096 → l.foldl (addM cols) m < 4096
  | [], m, _, hm => hm
  | a :: l, m, h, hm => by
    have h2 : (cols.contains a && inC cols l) = true := h
    rw [Bool.and_eq_true] at h2
    show l.foldl (addM cols) (addM cols m a) < 4096
    exact mask_lt hc h2.2 (addM_lt hc hm h2.1)

/-! ### Is all right? -/
noncomputable def colErr (n : Nat) : List (List UInt8) → List (List UInt8) → Option Int
  | _, [] => none
  | seen, a :: l => bif !nmB n a then some 15 else bif seen.contains a then some 5 else colErr n (seen ++ [a]) l
def okD (cols : List (List UInt8)) (d : Dep) : Bool := inC cols d.From && inC cols d.To
def toD (cols : List (List UInt8)) (d : Dep) : dep := dep.mk (mask cols d.From) (mask cols d.To)
noncomputable def depErr (n : Nat) (cols : List (List UInt8)) (l : List Dep) : Int :=
  bif decide ((cols.length : Int) > 12) then 2 else bif decide ((l.length : Int) > 20) then 2 else match colErr n [] cols with
    | some e => e
    | none => bif l.all (okD cols) then 0 else 4
/-- Short enough to be gone through. -/
structure Sm (n : Nat) (cols : List (List UInt8)) (l : List Dep) : Prop where
  big : 3000 < n
  c : ∀ s ∈ cols, s.length < n ∧ s.length < 9223372036854775807
  f : ∀ d ∈ l, d.From.length + d.To.length < n ∧ d.From.length + d.To.length ≤ 4294967296
theorem read2_go (n : Nat) (cols : List (List UInt8)) (hc : cols.length ≤ 12) (hn : 3000 < n) : ∀ (l : List Dep) (i : Nat) (out : List dep), (∀ d ∈ l, d.From.length + d.To.length < n ∧ d.From.length + d.To.length ≤ 4294967296) → out.length + l.length ≤ 1000 →
    foldK (S := (List dep)) (R := List dep × Int) (fun i (a : Dep) s K => (Option.bind (keys_set n cols (a.From)) fun r3 => (Option.bind (keys_set n cols (a.To)) fun r4 => (bif (!r3.2) then (some ([], 4)) else (bif (!r4.2) then (some ([], 4)) else (bif (decide ((List.length s) = List.length s) && decide (List.length s + List.length ([(dep.mk r3.1 r4.1)] : List dep) ≤ 4294967296)) then (K (s ++ [(dep.mk r3.1 r4.1)])) else none)))))) (fun s => (some (s, 0))) l i out =
      some (bif l.all (okD cols) then (out ++ l.map (toD cols), 0) else ([], 4))
  | [], i, out, _, _ => by simp [foldK_nil]
  | d :: l, i, out, h, hl => by
    have hd := h d (by simp)
    rw [foldK_cons, set_ok n cols d.From hc (by omega) (by omega) (by omega), bind_some2, set_ok n cols d.To hc (by omega) (by omega) (by omega), bind_some2]
    show _ = some (bif (inC cols d.From && inC cols d.To) && l.all (okD cols) then _ else _)
    generalize hK : (fun s' => foldK _ _ l (i + 1) s') = K
    cases inC cols d.From with
    | false => rfl
    | true =>
      cases inC cols d.To with
      | false => rfl
      | true =>
        simp only [cond_true, Bool.not_true, cond_false, Bool.and_self, Bool.true_and, decide_true]
        simp only [List.length_cons] at hl
        rw [dT (by simp only [List.length_cons, List.length_nil]; omega), cond_true, ← hK]
        show foldK _ _ l (i + 1) _ = _
        rw [read2_go n cols hc hn l (i + 1) _ (fun d hd => h d (by simp [hd])) (by simp only [List.length_append, List.length_cons, List.length_nil]; omega)]
        rw [List.append_assoc]
        rfl
theorem read1_go (n : Nat) (cols : List (List UInt8)) (hc : cols.length ≤ 12) (hn : 3000 < n) {fin : Unit → Option (List dep × Int)} : ∀ (l : List (List UInt8)) (i : Nat), (∀ s ∈ l, s.length < n ∧ s.length < 9223372036854775807) → cols = cols.take i ++ l → i ≤ cols.length →
    foldK (S := Unit) (fun i (a : (List UInt8)) s K => (Option.bind (value_Name n a) fun r1 => (bif (!r1) then (some ([], 15)) else (bif (decide (0 ≤ (i : Int)) && decide ((i : Int) ≤ (List.length cols))) then (Option.bind (slices_Contains n (List.take (Int.toNat (i : Int)) cols) a) fun r2 => (bif r2 then (some ([], 5)) else (K ()))) else none)))) fin l i () =
      match colErr n (cols.take i) l with
      | some e => some ([], e)
      | none => fin ()
  | [], i, _, _, _ => rfl
  | a :: l, i, h, hcl, hi => by
    have ha := h a (by simp)
    have hlen : i < cols.length := by
      have := congrArg List.length hcl
      simp only [List.length_append, List.length_cons, List.length_take] at this
      omega
    rw [foldK_cons, name_ok n a ha.2 ha.1, bind_some2, dle, d0, dT hi, Int.toNat_natCast, contains_ok n _ a (by rw [List.length_take]; omega) (by rw [List.length_take]; omega), bind_some2]
    unfold colErr
    generalize hK : (fun s' => foldK _ _ l (i + 1) s') = K
    cases nmB n a with
    | false => rfl
    | true =>
      simp only [Bool.not_true, cond_false, Bool.and_self, cond_true]
      cases (cols.take i).contains a with
      | true => rfl
      | false =>
        simp only [cond_false]
        rw [← hK]
        show foldK _ _ l (i + 1) _ = _
        have e : cols.take (i + 1) = cols.take i ++ [a] := by
          have h1 : cols[i]? = some a := by
            rw [hcl, List.getElem?_append_right (by rw [List.length_take]; omega), List.length_take, Nat.min_eq_left hi, Nat.sub_self]
            rfl
          rw [List.take_add_one, h1]
          rfl
        rw [← e]
        exact read1_go n cols hc hn l (i + 1) (fun s hs => h s (by simp [hs])) (by rw [e, List.append_assoc]; exact hcl) (by omega)
theorem read_ok (n : Nat) (cols : List (List UInt8)) (l : List Dep) (h : Sm n cols l) :
    keys_read n cols l = some (bif decide (depErr n cols l = 0) then l.map (toD cols) else [], depErr n cols l) := by
  rw [keys_read_eq]
  unfold depErr
  by_cases h1 : (cols.length : Int) > 12
  · simp only [dT h1, cond_true]; rfl
  by_cases h2 : (l.length : Int) > 20
  · simp only [dF h1, dT h2, cond_false, cond_true]; rfl
  simp only [dF h1, dF h2, cond_false]
  have hn := h.big
  have hf := keys_read_l0_fold n cols l cols (by omega) n 0 (Nat.zero_le _) (by omega)
  rw [show ((0 : Nat) : Int) = 0 from rfl] at hf
  have hf2 := keys_read_l2_fold n cols l [] (by omega) n 0 (Nat.zero_le _) (by omega)
  rw [show ((0 : Nat) : Int) = 0 from rfl, List.drop_zero, read2_go n cols (by omega) hn l 0 [] h.f (by simp; omega)] at hf2
  rw [hf, List.drop_zero, read1_go n cols (by omega) hn cols 0 h.c rfl (by omega), hf2, List.take_zero]
  cases hce : colErr n [] cols with
  | some e =>
    have : e ≠ 0 := by
      have key : ∀ (l seen : List (List UInt8)) (e : Int), colErr n seen l = some e → e ≠ 0 := by
        intro l
        induction l with
        | nil => intro seen e h; cases h
        | cons a l ih =>
          intro seen e h
          unfold colErr at h
          cases h1 : nmB n a with
          | false => rw [h1] at h; cases h; decide
          | true =>
            rw [h1] at h
            cases h2 : seen.contains a with
            | true => rw [h2] at h; cases h; decide
            | false => rw [h2] at h; exact ih _ _ h
      exact key _ _ _ hce
    simp only [dF this, cond_false]
  | none =>
    simp only
    cases l.all (okD cols) <;> rfl

/-! ### What follows -/
theorem testBit_two (i j : Nat) : (2 ^ i).testBit j = decide (i = j) := Nat.testBit_two_pow
theorem idx_inj {cols : List (List UInt8)} {a s : List UInt8} (ha : cols.contains a = true) (hs : cols.contains s = true) (h : idx cols a = idx cols s) : a = s := by
  have h1 := idx_get ha
  have h2 := idx_get hs
  simp only [h] at h1
  exact h1.symm.trans h2
def chi (cols : List (List UInt8)) (m : Nat) (s : List UInt8) : Bool := cols.contains s && m.testBit (idx cols s)
theorem chi_add {cols : List (List UInt8)} {m : Nat} {a s : List UInt8} (ha : cols.contains a = true) : chi cols (addM cols m a) s = (chi cols m s || (s == a)) := by
  unfold chi addM
  rw [Nat.testBit_or, testBit_two]
  cases hs : cols.contains s with
  | false =>
    have : (s == a) = false := by
      apply Bool.eq_false_iff.2
      intro h
      rw [beq_iff_eq] at h
      rw [h, ha] at hs
      cases hs
    rw [this]
    rfl
  | true =>
    have : decide (idx cols a = idx cols s) = (s == a) := by
      by_cases h : idx cols a = idx cols s
      · rw [dT h, idx_inj ha hs h]
        simp
      · rw [dF h]
        symm
        apply Bool.eq_false_iff.2
        intro h'
        rw [beq_iff_eq] at h'
        exact h (by rw [h'])
    rw [this]
    rfl
theorem chi_adds {cols : List (List UInt8)} {s : List UInt8} : ∀ {l : List (List UInt8)} {m : Nat}, inC cols l = true → chi cols (l.foldl (addM cols) m) s = (chi cols m s || l.contains s)
  | [], m, _ => by simp
  | a :: l, m, h => by
    have h2 : (cols.contains a && inC cols l) = true := h
    rw [Bool.and_eq_true] at h2
    rw [List.foldl_cons, chi_adds h2.2, chi_add h2.1, List.contains_cons, Bool.or_assoc]
theorem chi_zero (cols : List (List UInt8)) (s : List UInt8) : chi cols 0 s = false := by simp [chi]
theorem foldl_or {cols : List (List UInt8)} : ∀ (l : List (List UInt8)) (m : Nat), l.foldl (addM cols) m = m ||| mask cols l
  | [], m => by simp [mask]
  | a :: l, m => by
    have e : mask cols (a :: l) = l.foldl (addM cols) (addM cols 0 a) := rfl
    rw [List.foldl_cons, foldl_or l, e, foldl_or l (addM cols 0 a)]
    unfold addM
    rw [Nat.zero_or, Nat.or_assoc]
theorem chi_or {cols : List (List UInt8)} {m : Nat} {l : List (List UInt8)} {s : List UInt8} (h : inC cols l = true) : chi cols (m ||| mask cols l) s = (chi cols m s || l.contains s) := by
  rw [← foldl_or, chi_adds h]
theorem mask_bit {cols : List (List UInt8)} : ∀ {l : List (List UInt8)} {m i : Nat}, (l.foldl (addM cols) m).testBit i = (m.testBit i || l.any fun a => decide (idx cols a = i))
  | [], m, i => by simp
  | a :: l, m, i => by
    rw [List.foldl_cons, mask_bit]
    unfold addM
    rw [Nat.testBit_or, testBit_two, List.any_cons, Bool.or_assoc]
theorem sub_iff {cols : List (List UInt8)} {m : Nat} {l : List (List UInt8)} (h : inC cols l = true) : Sub (mask cols l) m ↔ l.all (chi cols m) = true := by
  have hin : ∀ a ∈ l, cols.contains a = true := by
    unfold inC at h
    rw [List.all_eq_true] at h
    exact h
  rw [List.all_eq_true]
  constructor
  · intro hs a ha
    unfold chi
    rw [hin a ha, Bool.true_and]
    refine hs _ ?_
    unfold mask
    rw [mask_bit, Bool.or_eq_true, List.any_eq_true]
    exact .inr ⟨a, ha, by simp⟩
  · intro hs i hi
    unfold mask at hi
    rw [mask_bit, Bool.or_eq_true, List.any_eq_true] at hi
    rcases hi with hi | ⟨a, ha, hi⟩
    · simp at hi
    · have := hs a ha
      unfold chi at this
      rw [Bool.and_eq_true] at this
      rw [← of_decide_eq_true hi]
      exact this.2

def stepC (cols : List (List UInt8)) (m : Nat) (d : Dep) : Nat := bif decide (m &&& mask cols d.From = mask cols d.From) then m ||| mask cols d.To else m
def passC (cols : List (List UInt8)) (l : List Dep) (m : Nat) : Nat := l.foldl (stepC cols) m
theorem step_sub (cols : List (List UInt8)) (m : Nat) (d : Dep) : Sub m (stepC cols m d) := by
  unfold stepC
  cases decide (m &&& mask cols d.From = mask cols d.From) with
  | true => exact Sub.or_left _ _
  | false => exact Sub.refl _
theorem pass_sub (cols : List (List UInt8)) : ∀ (l : List Dep) (m : Nat), Sub m (passC cols l m)
  | [], m => Sub.refl m
  | d :: l, m => (step_sub cols m d).trans (pass_sub cols l (stepC cols m d))
theorem sub_anti {a b : Nat} (h : Sub a b) (h' : Sub b a) : a = b := by
  apply Nat.eq_of_testBit_eq
  intro i
  cases ha : a.testBit i with
  | true => rw [h i ha]
  | false =>
    cases hb : b.testBit i with
    | false => rfl
    | true => rw [h' i hb] at ha; cases ha
theorem mask_ok {cols : List (List UInt8)} (hc : cols.length ≤ 12) {l : List (List UInt8)} (h : inC cols l = true) : mask cols l < 4096 := mask_lt hc h (by omega)
theorem step_lt {cols : List (List UInt8)} (hc : cols.length ≤ 12) {m : Nat} (hm : m < 4096) {d : Dep} (hd : okD cols d = true) : stepC cols m d < 4096 := by
  unfold okD at hd
  rw [Bool.and_eq_true] at hd
  unfold stepC
  cases decide (m &&& mask cols d.From = mask cols d.From) with
  | true => exact Nat.or_lt_two_pow (n := 12) (by simpa using hm) (by simpa using mask_ok hc hd.2)
  | false => exact hm
theorem pass_lt {cols : List (List UInt8)} (hc : cols.length ≤ 12) : ∀ {l : List Dep} {m : Nat}, m < 4096 → (∀ d ∈ l, okD cols d = true) → passC cols l m < 4096
  | [], m, hm, _ => hm
  | d :: l, m, hm, h => by
    show passC cols l (stepC cols m d) < 4096
    exact pass_lt hc (step_lt hc hm (h d (by simp))) fun d hd => h d (by simp [hd])
/-- How many would still add something. -/
def cnt (cols : List (List UInt8)) (l : List Dep) (m : Nat) : Nat := l.countP fun d => !decide (m ||| mask cols d.To = m)
theorem pass_fire {cols : List (List UInt8)} : ∀ {l : List Dep} {m : Nat}, passC cols l m ≠ m → ∃ d ∈ l, ¬ Sub (mask cols d.To) m ∧ Sub (mask cols d.To) (passC cols l m)
  | [], m, h => absurd rfl h
  | d :: l, m, h => by
    by_cases hd : stepC cols m d = m
    · have e : passC cols (d :: l) m = passC cols l m := by show passC cols l (stepC cols m d) = _; rw [hd]
      rw [e] at h ⊢
      obtain ⟨d', h1, h2⟩ := pass_fire h
      exact ⟨d', by simp [h1], h2⟩
    · refine ⟨d, by simp, ?_, ?_⟩
      · intro hs
        apply hd
        unfold stepC
        cases decide (m &&& mask cols d.From = mask cols d.From) with
        | true => exact or_eq_iff.2 hs
        | false => rfl
      · refine Sub.trans ?_ (pass_sub cols l (stepC cols m d))
        unfold stepC at hd ⊢
        cases hb : decide (m &&& mask cols d.From = mask cols d.From) with
        | true => exact Sub.or_right _ _
        | false => rw [hb] at hd; exact absurd rfl hd
theorem cnt_lt {cols : List (List UInt8)} {l : List Dep} {m : Nat} (h : passC cols l m ≠ m) : cnt cols l (passC cols l m) < cnt cols l m := by
  obtain ⟨d, h1, h2, h3⟩ := pass_fire h
  refine countP_lt (fun d _ hd => ?_) ⟨d, h1, ?_, ?_⟩
  · simp only [Bool.not_eq_true', decide_eq_false_iff_not, or_eq_iff] at hd ⊢
    exact fun h => hd (h.trans (pass_sub cols l m))
  · simp only [Bool.not_eq_true', decide_eq_false_iff_not, or_eq_iff]
    exact h2
  · simp only [Bool.not_eq_false', decide_eq_true_eq, or_eq_iff]
    exact h3
theorem cnt_le (cols : List (List UInt8)) (l : List Dep) (m : Nat) : cnt cols l m ≤ l.length := List.countP_le_length
theorem cnt_zero {cols : List (List UInt8)} {l : List Dep} {m : Nat} (h : cnt cols l m = 0) : passC cols l m = m := by
  apply Classical.byContradiction
  intro hp
  have := cnt_lt hp
  omega

theorem closed2_go {cols : List (List UInt8)} (hc : cols.length ≤ 12) {R : Type} {fin : Int × Bool → Option R} : ∀ (l : List Dep) (i m : Nat) (f : Bool), m < 4096 → (∀ d ∈ l, okD cols d = true) →
    foldK (S := Int × Bool) (fun i (a : dep) s K => (bif (decide ((Fv.bits .and .i64 s.1 (a.from_)) = (a.from_))) then (bif (!decide ((Fv.bits .or .i64 s.1 (a.to)) = s.1)) then (K ((Fv.bits .or .i64 s.1 (a.to)), true)) else (K (s.1, s.2))) else (K (s.1, s.2)))) fin (l.map (toD cols)) i ((m : Int), f) =
      fin (((passC cols l m : Nat) : Int), f || !decide (passC cols l m = m))
  | [], i, m, f, _, _ => by
    show fin _ = fin _
    simp [passC]
  | d :: l, i, m, f, hm, h => by
    have hd := h d (by simp)
    have hlt := step_lt hc hm hd
    have hd2 := hd
    unfold okD at hd2
    rw [Bool.and_eq_true] at hd2
    have m1 := mask_ok hc hd2.1
    have m2 := mask_ok hc hd2.2
    have ih := fun (m : Nat) (f : Bool) (hm : m < 4096) => closed2_go hc (fin := fin) l (i + 1) m f hm (fun d hd => h d (by simp [hd]))
    rw [List.map_cons, foldK_cons]
    show (bif decide (Fv.bits .and .i64 (m : Int) (mask cols d.From : Int) = (mask cols d.From : Int)) then (bif !decide (Fv.bits .or .i64 (m : Int) (mask cols d.To : Int) = (m : Int)) then _ else _) else _) = _
    rw [and_nat (by omega) (by omega), or_nat (by omega) (by omega)]
    have e1 : decide (((m &&& mask cols d.From : Nat) : Int) = (mask cols d.From : Int)) = decide (m &&& mask cols d.From = mask cols d.From) := by simp only [Int.natCast_inj]
    have e2 : decide (((m ||| mask cols d.To : Nat) : Int) = (m : Int)) = decide (m ||| mask cols d.To = m) := by simp only [Int.natCast_inj]
    rw [e1, e2]
    have hp : passC cols (d :: l) m = passC cols l (stepC cols m d) := rfl
    rw [hp]
    unfold stepC at hlt ⊢
    cases h1 : decide (m &&& mask cols d.From = mask cols d.From) with
    | false =>
      simp only [cond_false]
      exact ih m f hm
    | true =>
      rw [h1] at hlt
      simp only [cond_true] at hlt ⊢
      cases h2 : decide (m ||| mask cols d.To = m) with
      | true =>
        have h2 := of_decide_eq_true h2
        rw [h2]
        simp only [Bool.not_true, cond_false]
        exact ih m f hm
      | false =>
        have h2 := of_decide_eq_false h2
        simp only [Bool.not_false, cond_true]
        show foldK _ _ _ _ (Fv.bits .or .i64 (m : Int) (mask cols d.To : Int), true) = _
        rw [or_nat (by omega) (by omega)]
        refine (ih _ true hlt).trans ?_
        have h3 : ¬ passC cols l (m ||| mask cols d.To) = m := by
          intro h4
          have h5 := pass_sub cols l (m ||| mask cols d.To)
          rw [h4] at h5
          exact h2 (sub_anti h5 (Sub.or_left _ _))
        rw [dF h3]
        simp
theorem closed_go (n : Nat) {cols : List (List UInt8)} (hc : cols.length ≤ 12) {l : List Dep} (h : ∀ d ∈ l, okD cols d = true) (hl : l.length < 1010) (hn : 3000 < n) : ∀ (k m m0 : Nat), m < 4096 → cnt cols l m ≤ k → k + 1 < m0 →
    keys_closed_l0 n m0 (l.map (toD cols)) (m : Int) true = some ((iter (passC cols l) k m : Nat) : Int) := by
  have round : ∀ (m m0 : Nat), m < 4096 → keys_closed_l0 n (m0 + 1) (l.map (toD cols)) (m : Int) true = keys_closed_l0 n m0 (l.map (toD cols)) ((passC cols l m : Nat) : Int) (!decide (passC cols l m = m)) := by
    intro m m0 hm
    have hf := keys_closed_l2_fold n m0 (l.map (toD cols)) (l.map (toD cols)) (m : Int) false (by simp; omega) n 0 (Nat.zero_le _) (by simp; omega)
    rw [show ((0 : Nat) : Int) = 0 from rfl, List.drop_zero, closed2_go hc l 0 m false hm h] at hf
    rw [keys_closed_l0_eq, cond_true, hf, Bool.false_or]
  have stop : ∀ (m m0 : Nat), keys_closed_l0 n (m0 + 1) (l.map (toD cols)) (m : Int) false = some (m : Int) := fun m m0 => by rw [keys_closed_l0_eq]; rfl
  intro k
  induction k with
  | zero =>
    intro m m0 hm hk h0
    obtain ⟨m1, rfl⟩ : ∃ m1, m0 = m1 + 2 := ⟨m0 - 2, by omega⟩
    have hp := cnt_zero (show cnt cols l m = 0 by omega)
    rw [round m (m1 + 1) hm, hp, dT rfl]
    exact stop m m1
  | succ k ih =>
    intro m m0 hm hk h0
    obtain ⟨m1, rfl⟩ : ∃ m1, m0 = m1 + 2 := ⟨m0 - 2, by omega⟩
    rw [round m (m1 + 1) hm]
    by_cases hp : passC cols l m = m
    · rw [hp, dT rfl, iter_fix hp]
      exact stop m m1
    · have := cnt_lt hp
      rw [dF hp]
      exact ih (passC cols l m) (m1 + 1) (pass_lt hc hm h) (by omega) (by omega)
theorem closed_ok (n : Nat) {cols : List (List UInt8)} (hc : cols.length ≤ 12) {l : List Dep} (h : ∀ d ∈ l, okD cols d = true) (hl : l.length < 1000) (hn : 3000 < n) {m : Nat} (hm : m < 4096) (k : Nat) (hk : l.length ≤ k) (hkn : k < 2000) :
    keys_closed n (l.map (toD cols)) (m : Int) = some ((iter (passC cols l) k m : Nat) : Int) := by
  rw [keys_closed_eq]
  exact closed_go n hc h (by omega) hn k m n hm (by have := cnt_le cols l m; omega) (by omega)
theorem iter_more {cols : List (List UInt8)} {l : List Dep} : ∀ (k m : Nat), cnt cols l m ≤ k → iter (passC cols l) (k + 1) m = iter (passC cols l) k m
  | 0, m, h => by
    show passC cols l m = m
    exact cnt_zero (by omega)
  | k + 1, m, h => by
    show iter _ (k + 1) (passC cols l m) = iter _ k (passC cols l m)
    by_cases hp : passC cols l m = m
    · rw [hp, iter_fix hp, iter_fix hp]
    · have := cnt_lt hp
      exact iter_more k _ (by omega)

/-- The same, of a set that is a map. -/
def stepW (w : List (List UInt8 × Bool)) (d : Dep) : List (List UInt8 × Bool) := bif d.From.all (has w) then d.To.foldl (fun w a => smset a true w) w else w
def passW (l : List Dep) (w : List (List UInt8 × Bool)) : List (List UInt8 × Bool) := l.foldl stepW w
def Rel (cols : List (List UInt8)) (m : Nat) (w : List (List UInt8 × Bool)) : Prop := ∀ s, chi cols m s = has w s
theorem rel_step {cols : List (List UInt8)} {m : Nat} {w : List (List UInt8 × Bool)} (h : Rel cols m w) {d : Dep} (hd : okD cols d = true) : Rel cols (stepC cols m d) (stepW w d) := by
  unfold okD at hd
  rw [Bool.and_eq_true] at hd
  have e : decide (m &&& mask cols d.From = mask cols d.From) = d.From.all (has w) := by
    have h1 : d.From.all (has w) = d.From.all (chi cols m) := by congr 1; funext s; exact (h s).symm
    rw [h1]
    cases hb : d.From.all (chi cols m) with
    | true => exact dT (and_eq_iff.2 ((sub_iff hd.1).2 hb))
    | false => exact dF fun h2 => by rw [and_eq_iff, sub_iff hd.1, hb] at h2; cases h2
  unfold stepC stepW
  rw [e]
  cases d.From.all (has w) with
  | false => exact h
  | true =>
    intro s
    rw [cond_true, cond_true, chi_or hd.2, has_sets, h s]
theorem rel_pass {cols : List (List UInt8)} : ∀ {l : List Dep} {m : Nat} {w : List (List UInt8 × Bool)}, Rel cols m w → (∀ d ∈ l, okD cols d = true) → Rel cols (passC cols l m) (passW l w)
  | [], _, _, h, _ => h
  | d :: l, m, w, h, hd => rel_pass (l := l) (rel_step h (hd d (by simp))) fun d h => hd d (by simp [h])
theorem rel_iter {cols : List (List UInt8)} {l : List Dep} (hd : ∀ d ∈ l, okD cols d = true) : ∀ {k m : Nat} {w : List (List UInt8 × Bool)}, Rel cols m w → Rel cols (iter (passC cols l) k m) (iter (passW l) k w)
  | 0, _, _, h => h
  | k + 1, m, w, h => rel_iter hd (k := k) (rel_pass h hd)
theorem rel_start {cols from_ : List (List UInt8)} (h : inC cols from_ = true) : Rel cols (mask cols from_) (from_.foldl (fun w a => smset a true w) []) := by
  intro s
  unfold mask
  rw [chi_adds h, chi_zero, has_sets, has_nil]
def reached (l : List Dep) (from_ : List (List UInt8)) : List (List UInt8 × Bool) := iter (passW l) (l.length + 1) (from_.foldl (fun w a => smset a true w) [])

theorem foldl_same {A B : Type} (w : A) : ∀ l : List B, l.foldl (fun w _ => w) w = w
  | [] => rfl
  | _ :: l => foldl_same w l
theorem reach8 (n m0 m1 : Nat) (v0 : List Dep) (v10 : Bool) (v27 v28 : Int) (v30 : List Dep) (v31 v32 : Int) (to : List (List UInt8)) (w : List (List UInt8 × Bool)) (hl : to.length < 9223372036854775807) (hn : to.length < n) :
    ref2_Reached_l8 n m0 m1 n v0 v10 v27 v28 v30 v31 v32 to (List.length to : Int) 0 w = ref2_Reached_l4 n m0 m1 v0 v27 v28 v30 v31 (IntKind.wrap .i64 (v32 + 1)) (bif v10 then to.foldl (fun w a => smset a true w) w else w) := by
  have hf := ref2_Reached_l8_fold n m0 m1 v0 v10 v27 v28 v30 v31 v32 to w hl n 0 (Nat.zero_le _) (by omega)
  rw [show ((0 : Nat) : Int) = 0 from rfl, List.drop_zero] at hf
  rw [hf]
  cases v10 with
  | true => rw [foldK_all (fun w a => smset a true w) to 0 w (fun i a s K _ => by rw [cond_true, mset_s])]; rfl
  | false => rw [foldK_all (fun w _ => w) to 0 w (fun i a s K _ => by rw [cond_false])]; rw [foldl_same]; rfl
theorem reach6 (n m0 m1 : Nat) (v0 : List Dep) (v27 v28 : Int) (v30 : List Dep) (v31 v32 : Int) (fr : List (List UInt8)) (w9 : Dep) (w : List (List UInt8 × Bool)) (hl : fr.length < 9223372036854775807) (hn : fr.length < n) :
    ref2_Reached_l6 n m0 m1 n v0 true v27 v28 v30 v31 v32 fr (List.length fr : Int) 0 w9 w = ref2_Reached_l8 n m0 m1 n v0 (fr.all (has w)) v27 v28 v30 v31 v32 w9.To (List.length w9.To : Int) 0 w := by
  have hf := ref2_Reached_l6_fold n m0 m1 v0 v27 v28 v30 v31 v32 fr w9 w true hl n 0 (Nat.zero_le _) (by omega)
  rw [show ((0 : Nat) : Int) = 0 from rfl, List.drop_zero] at hf
  rw [hf, foldK_all (fun b a => b && has w a) fr 0 true (fun i a s K _ => by cases s <;> simp [mgetD_s])]
  have e : ∀ (l : List (List UInt8)) (b : Bool), l.foldl (fun b a => b && has w a) b = (b && l.all (has w)) := by
    intro l
    induction l with
    | nil => intro b; simp
    | cons a l ih => intro b; rw [List.foldl_cons, ih, List.all_cons, Bool.and_assoc]
  rw [e, Bool.true_and]
theorem reach4 (n m0 : Nat) (v0 : List Dep) (v27 v28 : Int) (l : List Dep) (hl : l.length < 9223372036854775807) (hs : ∀ d ∈ l, (d.From.length < n ∧ d.From.length < 9223372036854775807) ∧ d.To.length < n ∧ d.To.length < 9223372036854775807) (hn : l.length < n) (w : List (List UInt8 × Bool)) :
    ref2_Reached_l4 n m0 n v0 v27 v28 l (List.length l : Int) 0 w = ref2_Reached_l2 n m0 v0 v27 (IntKind.wrap .i64 (v28 + 1)) (passW l w) := by
  have key : ∀ (m k : Nat), k ≤ l.length → l.length - k < m → ∀ w, ref2_Reached_l4 n m0 m v0 v27 v28 l (List.length l : Int) (k : Int) w = ref2_Reached_l2 n m0 v0 v27 (IntKind.wrap .i64 (v28 + 1)) (passW (l.drop k) w) := by
    intro m
    induction m with
    | zero => intro k _ h; omega
    | succ m ih =>
      intro k hk hm w
      rw [ref2_Reached_l4_eq, dlt]
      by_cases h : k < l.length
      · have hd := hs l[k] (List.getElem_mem _)
        simp only [dT h, d0, Bool.and_self, cond_true, Int.toNat_natCast, dlt, getD_lt _ h]
        rw [reach6 n m0 m v0 v27 v28 l _ _ l[k].From l[k] w hd.1.2 hd.1.1, reach8 n m0 m v0 _ v27 v28 l _ _ l[k].To w hd.2.2 hd.2.1, i64_succ (by omega), ih (k + 1) (by omega) (by omega), List.drop_eq_getElem_cons h]
        rfl
      · rw [dF h, drop_len h]
        rfl
  exact key n 0 (Nat.zero_le _) (by omega) w
theorem reached_ok (n : Nat) (l : List Dep) (fr : List (List UInt8)) (hl : l.length < 1000) (hn : 3000 < n) (hf : fr.length < n ∧ fr.length < 9223372036854775807) (hs : ∀ d ∈ l, (d.From.length < n ∧ d.From.length < 9223372036854775807) ∧ d.To.length < n ∧ d.To.length < 9223372036854775807) :
    ref2_Reached n l fr = some (reached l fr) := by
  have h0 := ref2_Reached_l0_fold n l fr [] hf.2 n 0 (Nat.zero_le _) (by omega)
  rw [show ((0 : Nat) : Int) = 0 from rfl, List.drop_zero, foldK_all (fun w a => smset a true w) fr 0 [] (fun i a s K _ => by rw [mset_s])] at h0
  rw [ref2_Reached_eq, h0]
  have key : ∀ (m k : Nat) (w : List (List UInt8 × Bool)), k ≤ l.length + 1 → l.length + 1 - k < m → ref2_Reached_l2 n m l ((l.length + 1 : Nat) : Int) (k : Int) w = some (iter (passW l) (l.length + 1 - k) w) := by
    intro m
    induction m with
    | zero => intro k w _ h; omega
    | succ m ih =>
      intro k w hk hm
      rw [ref2_Reached_l2_eq, dlt]
      by_cases h : k < l.length + 1
      · rw [dT h, cond_true, reach4 n m l _ _ l (by omega) hs (by omega) w, i64_succ (by omega), ih (k + 1) _ (by omega) (by omega)]
        obtain ⟨c, hc⟩ : ∃ c, l.length + 1 - k = c + 1 := ⟨l.length - k, by omega⟩
        rw [hc, show l.length + 1 - (k + 1) = c by omega]
        rfl
      · rw [dF h, show l.length + 1 - k = 0 by omega]
        rfl
  have := key n 0 (fr.foldl (fun w a => smset a true w) []) (by omega) (by omega)
  rw [show ((0 : Nat) : Int) = 0 from rfl] at this
  rw [i64_succ (by omega)]
  exact this

/-! ### The reference's check -/
theorem clone_ok (n : Nat) (x : List (List UInt8)) (h : x.length ≤ 4294967296) : slices_Clone_2 n x = some x := by
  rw [slices_Clone_2_eq]
  simp only [List.nil_append, List.length_nil, Nat.zero_add, dT h, decide_true, Bool.and_self, cond_true]
theorem deps4 (n m0 : Nat) (v36 : List Dep) (v37 v38 : Int) (w20 : List (List UInt8 × Bool)) (w63 : List (List UInt8)) (hl : w63.length < 9223372036854775807) (hn : w63.length < n) :
    ref2_DepsErr_l4 n m0 n v36 v37 v38 (List.length w63 : Int) 0 w20 w63 = bif w63.all (has w20) then ref2_DepsErr_l2 n m0 v36 v37 (IntKind.wrap .i64 (v38 + 1)) w20 else some 4 := by
  have hf := ref2_DepsErr_l4_fold n m0 v36 v37 v38 w20 w63 w63.length hl n 0 (Nat.zero_le _) (by omega)
  rw [show ((0 : Nat) : Int) = 0 from rfl] at hf
  rw [hf]
  refine (foldN_row w63 [] (fun i a s K => bif !(mgetD E .str .bool w20 a) then some 4 else K ()) (fun s => ref2_DepsErr_l2 n m0 v36 v37 (IntKind.wrap .i64 (v38 + 1)) w20) _ 0 () (by omega)).trans ?_
  rw [List.drop_zero, foldK_find (fun a => !has w20 a) (fun _ _ => some 4) w63 0 () (fun i a s K _ => by rw [mgetD_s])]
  cases hfi : w63.find? (fun a => !has w20 a) with
  | none =>
    rw [List.find?_eq_none] at hfi
    have : w63.all (has w20) = true := by rw [List.all_eq_true]; intro x hx; simpa using hfi x hx
    rw [this]
    rfl
  | some a =>
    have h1 := List.mem_of_find?_eq_some hfi
    have h2 := List.find?_some hfi
    have : w63.all (has w20) = false := by
      rw [List.all_eq_false]
      exact ⟨a, h1, by simpa using h2⟩
    rw [this]
    rfl
theorem deps2 (n : Nat) (l : List Dep) (w : List (List UInt8 × Bool)) (hl : l.length < 9223372036854775807) (hn : l.length < n) (hs : ∀ d ∈ l, d.From.length + d.To.length < n ∧ d.From.length + d.To.length ≤ 4294967296) :
    ref2_DepsErr_l2 n n l (List.length l : Int) 0 w = some (bif l.all (fun d => d.From.all (has w) && d.To.all (has w)) then 0 else 4) := by
  have key : ∀ (m k : Nat), k ≤ l.length → l.length - k < m → ref2_DepsErr_l2 n m l (List.length l : Int) (k : Int) w = some (bif (l.drop k).all (fun d => d.From.all (has w) && d.To.all (has w)) then 0 else 4) := by
    intro m
    induction m with
    | zero => intro k _ h; omega
    | succ m ih =>
      intro k hk hm
      rw [ref2_DepsErr_l2_eq, dlt]
      by_cases h : k < l.length
      · have hd := hs l[k] (List.getElem_mem _)
        simp only [dT h, d0, Bool.and_self, cond_true, Int.toNat_natCast, dlt, getD_lt _ h]
        rw [clone_ok n _ (by omega), bind_some2]
        simp only [decide_true, Bool.true_and]
        rw [dT hd.2, cond_true, deps4 n m l _ _ w _ (by rw [List.length_append]; omega) (by rw [List.length_append]; omega), List.all_append, i64_succ (by omega), ih (k + 1) (by omega) (by omega), List.drop_eq_getElem_cons h, List.all_cons]
        cases l[k].From.all (has w) && l[k].To.all (has w) <;> rfl
      · rw [dF h, drop_len h]
        rfl
  have := key n 0 (Nat.zero_le _) (by omega)
  rw [show ((0 : Nat) : Int) = 0 from rfl] at this
  exact this
theorem deps1_go (n : Nat) {fin : List (List UInt8 × Bool) → Option Int} : ∀ (l : List (List UInt8)) (i : Nat) (seen : List (List UInt8)) (w : List (List UInt8 × Bool)), (∀ s ∈ l, s.length < n ∧ s.length < 9223372036854775807) → (∀ s, has w s = seen.contains s) →
    ∃ w', (∀ s, has w' s = (seen ++ l).contains s) ∧ foldK (S := (List ((List UInt8) × Bool))) (fun i (a : (List UInt8)) s K => (Option.bind (value_Name n a) fun r1 => (bif (!r1) then (some 15) else (bif (mgetD E .str .bool s a) then (some 5) else (K (mset E .str .bool a true s)))))) fin l i w =
      match colErr n seen l with
      | some e => some e
      | none => fin w'
  | [], i, seen, w, _, hw => ⟨w, by simpa using hw, rfl⟩
  | a :: l, i, seen, w, h, hw => by
    have ha := h a (by simp)
    have hw2 : ∀ s, has (smset a true w) s = (seen ++ [a]).contains s := by
      intro s
      rw [has_set, List.contains_append, hw s]
      by_cases hs : s = a
      · simp [hs]
      · have : (s == a) = false := by simpa using hs
        rw [if_neg hs, List.contains_cons, this]
        simp
    obtain ⟨w', k1, k2⟩ := deps1_go n (fin := fin) l (i + 1) (seen ++ [a]) (smset a true w) (fun s hs => h s (by simp [hs])) hw2
    refine ⟨w', fun s => by rw [k1, List.append_assoc]; rfl, ?_⟩
    rw [foldK_cons, name_ok n a ha.2 ha.1, bind_some2, mgetD_s, hw a, mset_s]
    unfold colErr
    cases nmB n a with
    | false => rfl
    | true =>
      simp only [Bool.not_true, cond_false]
      cases seen.contains a with
      | true => rfl
      | false => exact k2
theorem depsErr_ok (n : Nat) (cols : List (List UInt8)) (l : List Dep) (h : Sm n cols l) : ref2_DepsErr n cols l = some (depErr n cols l) := by
  rw [ref2_DepsErr_eq]
  unfold depErr
  by_cases h1 : (cols.length : Int) > 12
  · simp only [dT h1, cond_true]
  by_cases h2 : (l.length : Int) > 20
  · simp only [dF h1, dT h2, cond_false, cond_true]
  simp only [dF h1, dF h2, cond_false]
  have hn := h.big
  have hf := ref2_DepsErr_l0_fold n l cols [] (by omega) n 0 (Nat.zero_le _) (by omega)
  rw [show ((0 : Nat) : Int) = 0 from rfl, List.drop_zero] at hf
  obtain ⟨w', k1, k2⟩ := deps1_go n (fin := fun s => ref2_DepsErr_l2 n n l (List.length l : Int) 0 s) cols 0 [] [] h.c (fun s => rfl)
  rw [hf, k2]
  cases colErr n [] cols with
  | some e => rfl
  | none =>
    simp only
    rw [deps2 n l w' (by omega) (by omega) h.f]
    have e : (fun d : Dep => d.From.all (has w') && d.To.all (has w')) = okD cols := by
      funext d
      have e2 : has w' = fun s => cols.contains s := by funext s; rw [k1]; rfl
      unfold okD inC
      rw [e2]
    rw [e]
theorem colErr_nodup (n : Nat) : ∀ (l seen : List (List UInt8)), colErr n seen l = none → seen.Nodup → (seen ++ l).Nodup
  | [], seen, _, hs => by simpa using hs
  | a :: l, seen, h, hs => by
    unfold colErr at h
    cases h1 : nmB n a with
    | false => rw [h1] at h; cases h
    | true =>
      rw [h1] at h
      cases h2 : seen.contains a with
      | true => rw [h2] at h; cases h
      | false =>
        rw [h2] at h
        have := colErr_nodup n l (seen ++ [a]) h (by
          rw [List.nodup_append]
          refine ⟨hs, by simp, ?_⟩
          intro x hx y hy hxy
          simp only [List.mem_singleton] at hy
          subst hy hxy
          rw [List.contains_iff_mem.2 hx] at h2
          cases h2)
        rw [List.append_assoc] at this
        exact this
/-- What a right list says. -/
structure Ok (cols : List (List UInt8)) (l : List Dep) : Prop where
  c : cols.length ≤ 12
  ln : l.length ≤ 20
  nd : cols.Nodup
  d : ∀ d ∈ l, okD cols d = true
theorem ok_of {n : Nat} {cols : List (List UInt8)} {l : List Dep} (h : depErr n cols l = 0) : Ok cols l := by
  unfold depErr at h
  by_cases h1 : (cols.length : Int) > 12
  · rw [dT h1] at h; cases h
  by_cases h2 : (l.length : Int) > 20
  · rw [dF h1, dT h2] at h; cases h
  rw [dF h1, dF h2, cond_false, cond_false] at h
  cases hc : colErr n [] cols with
  | some e =>
    exfalso
    rw [hc] at h
    have h : e = 0 := h
    have key : ∀ (l seen : List (List UInt8)) (e : Int), colErr n seen l = some e → e ≠ 0 := by
      intro l
      induction l with
      | nil => intro seen e h; cases h
      | cons a l ih =>
        intro seen e h
        unfold colErr at h
        cases h1 : nmB n a with
        | false => rw [h1] at h; cases h; decide
        | true =>
          rw [h1] at h
          cases h2 : seen.contains a with
          | true => rw [h2] at h; cases h; decide
          | false => rw [h2] at h; exact ih _ _ h
    exact key _ _ _ hc h
  | none =>
    rw [hc] at h
    have h : (bif l.all (okD cols) then (0 : Int) else 4) = 0 := h
    cases ha : l.all (okD cols) with
    | false => rw [ha] at h; cases h
    | true =>
      rw [List.all_eq_true] at ha
      exact ⟨by omega, by omega, by have := colErr_nodup n cols [] hc (by simp); simpa using this, ha⟩
theorem idx_at {cols : List (List UInt8)} (hn : cols.Nodup) {i : Nat} (h : i < cols.length) : idx cols cols[i] = i := by
  have hc : cols.contains cols[i] = true := List.contains_iff_mem.2 (List.getElem_mem _)
  have h1 := idx_get hc
  exact (List.getElem_inj hn).1 h1
theorem list_go (n : Nat) {cols : List (List UInt8)} (hc : cols.length ≤ 12) (hnd : cols.Nodup) {m : Nat} (hm : m < 4096) : ∀ (l : List (List UInt8)) (i : Nat) (out : List (List UInt8)), l = cols.drop i → out.length + l.length ≤ 100 →
    foldK (S := (List (List UInt8))) (fun i (a : (List UInt8)) s K => (bif (decide (0 ≤ (i : Int))) then (bif (decide ((Fv.bits .and .i64 (shr .i64 (m : Int) (i : Int)) 1) = 1)) then (bif (decide ((List.length s) = List.length s) && decide (List.length s + List.length ([a] : List (List UInt8)) ≤ 4294967296)) then (K (s ++ [a])) else none) else (K s)) else none)) (fun s => (some s)) l i out = some (out ++ l.filter (chi cols m))
  | [], i, out, _, _ => by simp [foldK_nil]
  | a :: l, i, out, h, ho => by
    have hi : i < cols.length := by
      apply Classical.byContradiction
      intro hi
      rw [List.drop_eq_nil_of_le (by omega)] at h
      cases h
    have h0 := h
    rw [List.drop_eq_getElem_cons hi] at h
    injection h with h1 h2
    have hch : m.testBit i = chi cols m a := by
      unfold chi
      subst h1
      rw [idx_at hnd hi, List.contains_iff_mem.2 (List.getElem_mem _), Bool.true_and]
    rw [foldK_cons, d0, bit_nat (by omega) (by omega), hch, List.filter_cons]
    generalize hK : (fun s' => foldK _ _ l (i + 1) s') = K
    cases chi cols m a with
    | false =>
      simp only [cond_true, cond_false, Bool.false_eq_true, if_false]
      rw [← hK]
      exact list_go n hc hnd hm l (i + 1) out h2 (by simp only [List.length_cons] at ho; omega)
    | true =>
      simp only [cond_true, if_true, decide_true, Bool.true_and]
      simp only [List.length_cons] at ho
      have hbound : out.length + 1 ≤ 4294967296 := by omega
      rw [dT (by simpa using hbound), cond_true, ← hK]
      show foldK _ _ l (i + 1) _ = _
      rw [list_go n hc hnd hm l (i + 1) _ h2 (by simp only [List.length_append, List.length_cons, List.length_nil]; omega), List.append_assoc]
      rfl
theorem list_ok (n : Nat) {cols : List (List UInt8)} (hc : cols.length ≤ 12) (hnd : cols.Nodup) {m : Nat} (hm : m < 4096) (hn : 12 < n) : keys_list n cols (m : Int) = some (cols.filter (chi cols m)) := by
  have hf := keys_list_l0_fold n (m : Int) cols [] (by omega) n 0 (Nat.zero_le _) (by omega)
  rw [show ((0 : Nat) : Int) = 0 from rfl, List.drop_zero] at hf
  rw [keys_list_eq, hf, list_go n hc hnd hm cols 0 [] rfl (by simp; omega)]
  rfl
/-- Closures, as the program and the reference have them. -/
theorem closed_rel {cols : List (List UInt8)} {l : List Dep} (h : Ok cols l) {fr : List (List UInt8)} (hf : inC cols fr = true) (n : Nat) (hn : 3000 < n) :
    ∃ m : Nat, m < 4096 ∧ keys_closed n (l.map (toD cols)) (mask cols fr : Int) = some (m : Int) ∧ Rel cols m (reached l fr) := by
  have hln := h.ln
  refine ⟨_, ?_, closed_ok n h.c h.d (by omega) hn (mask_ok h.c hf) (l.length + 1) (by omega) (by omega), rel_iter h.d (rel_start hf)⟩
  have key : ∀ (k m : Nat), m < 4096 → iter (passC cols l) k m < 4096 := by
    intro k
    induction k with
    | zero => exact fun m hm => hm
    | succ k ih => exact fun m hm => ih _ (pass_lt h.c hm h.d)
  exact key _ _ (mask_ok h.c hf)

/-! ### What follows, as a closure -/
def Cls (l : List Dep) (P : List UInt8 → Prop) : Prop := ∀ d ∈ l, (∀ a ∈ d.From, P a) → ∀ b ∈ d.To, P b
def Fol (l : List Dep) (F : List UInt8 → Prop) (s : List UInt8) : Prop := ∀ P, Cls l P → (∀ a, F a → P a) → P s
theorem Fol.mono {l : List Dep} {F G : List UInt8 → Prop} {s : List UInt8} (h : Fol l F s) (hFG : ∀ a, F a → G a) : Fol l G s := fun P hc hG => h P hc fun a ha => hG a (hFG a ha)
def Imp (l l' : List Dep) : Prop := ∀ P, Cls l P → Cls l' P
theorem Imp.fol {l l' : List Dep} {F : List UInt8 → Prop} {s : List UInt8} (h : Imp l l') (hf : Fol l' F s) : Fol l F s := fun P hc hF => hf P (h P hc) hF
theorem Imp.refl (l : List Dep) : Imp l l := fun _ h => h
theorem Imp.trans {l l' l'' : List Dep} (h : Imp l l') (h' : Imp l' l'') : Imp l l'' := fun P hc => h' P (h P hc)
theorem Imp.sub {l l' : List Dep} (h : ∀ d ∈ l', d ∈ l) : Imp l l' := fun P hc d hd => hc d (h d hd)
theorem Imp.of {l l' : List Dep} (h : ∀ d ∈ l', ∀ b ∈ d.To, Fol l (fun a => a ∈ d.From) b) : Imp l l' := fun P hc d hd hF b hb => h d hd b hb P hc hF

theorem foldN_inv {S R : Type} {step : Nat → S → (S → Option R) → Option R} {fin : S → Option R} (I : Nat → S → Prop) (N : Nat) (h : ∀ i s, i < N → I i s → ∃ s', I (i + 1) s' ∧ ∀ K, step i s K = K s') : ∀ (c i : Nat) (s : S), c + i = N → I i s → ∃ s', I N s' ∧ foldN step fin c i s = fin s'
  | 0, i, s, hc, hi => ⟨s, by rw [← hc, Nat.zero_add]; exact hi, rfl⟩
  | c + 1, i, s, hc, hi => by
    obtain ⟨s1, h1, h2⟩ := h i s (by omega) hi
    obtain ⟨s2, h3, h4⟩ := foldN_inv I N h (fin := fin) c (i + 1) s1 (by omega) h1
    exact ⟨s2, h3, by rw [← h4]; exact h2 _⟩

theorem pass_still {cols : List (List UInt8)} : ∀ {l : List Dep} {m : Nat}, passC cols l m = m → ∀ d ∈ l, stepC cols m d = m
  | [], m, _, d, hd => by simp at hd
  | d0 :: l, m, h, d, hd => by
    have e : passC cols (d0 :: l) m = passC cols l (stepC cols m d0) := rfl
    rw [e] at h
    have h1 : stepC cols m d0 = m := sub_anti (by have := pass_sub cols l (stepC cols m d0); rwa [h] at this) (step_sub cols m d0)
    rw [h1] at h
    rcases List.mem_cons.1 hd with rfl | hd
    · exact h1
    · exact pass_still h d hd
theorem iter_still {cols : List (List UInt8)} {l : List Dep} : ∀ (k m : Nat), cnt cols l m ≤ k → passC cols l (iter (passC cols l) k m) = iter (passC cols l) k m
  | 0, m, h => by
    show passC cols l m = m
    exact cnt_zero (by omega)
  | k + 1, m, h => by
    show passC cols l (iter _ k (passC cols l m)) = iter _ k (passC cols l m)
    by_cases hp : passC cols l m = m
    · rw [hp, iter_fix hp]; exact hp
    · have := cnt_lt hp
      exact iter_still k _ (by omega)
theorem iter_sub (cols : List (List UInt8)) (l : List Dep) : ∀ (k m : Nat), Sub m (iter (passC cols l) k m)
  | 0, m => Sub.refl m
  | k + 1, m => (pass_sub cols l m).trans (iter_sub cols l k _)
theorem chi_mono {cols : List (List UInt8)} {m m' : Nat} (h : Sub m m') {s : List UInt8} (hs : chi cols m s = true) : chi cols m' s = true := by
  unfold chi at hs ⊢
  rw [Bool.and_eq_true] at hs ⊢
  exact ⟨hs.1, h _ hs.2⟩
theorem okD2 {cols : List (List UInt8)} {d : Dep} (h : okD cols d = true) : inC cols d.From = true ∧ inC cols d.To = true := by
  unfold okD at h
  rwa [Bool.and_eq_true] at h
theorem inC_iff {cols l : List (List UInt8)} : inC cols l = true ↔ ∀ s ∈ l, s ∈ cols := by
  unfold inC
  rw [List.all_eq_true]
  exact ⟨fun h s hs => List.contains_iff_mem.1 (h s hs), fun h s hs => List.contains_iff_mem.2 (h s hs)⟩
theorem inv_sets {P : List UInt8 → Prop} {l : List (List UInt8)} {w : List (List UInt8 × Bool)} (hw : ∀ s, has w s = true → P s) (hl : ∀ s ∈ l, P s) : ∀ s, has (l.foldl (fun w a => smset a true w) w) s = true → P s := by
  intro s hs
  rw [has_sets, Bool.or_eq_true] at hs
  rcases hs with hs | hs
  · exact hw s hs
  · exact hl s (List.contains_iff_mem.1 hs)
theorem reached_fol {cols : List (List UInt8)} {l : List Dep} (hd : ∀ d ∈ l, okD cols d = true) {fr : List (List UInt8)} (hf : inC cols fr = true) (s : List UInt8) : has (reached l fr) s = true ↔ Fol l (fun a => a ∈ fr) s := by
  have hrel : Rel cols (iter (passC cols l) (l.length + 1) (mask cols fr)) (reached l fr) := rel_iter hd (rel_start hf)
  constructor
  · intro hs P hc hF
    have h1 : ∀ (l' : List Dep) (w : List (List UInt8 × Bool)), (∀ d ∈ l', d ∈ l) → (∀ s, has w s = true → P s) → ∀ s, has (passW l' w) s = true → P s := by
      intro l'
      induction l' with
      | nil => exact fun w _ hw => hw
      | cons d l' ih =>
        intro w hl hw
        refine ih (stepW w d) (fun d' hd' => hl d' (by simp [hd'])) ?_
        unfold stepW
        cases ha : d.From.all (has w) with
        | false => exact hw
        | true =>
          rw [List.all_eq_true] at ha
          exact inv_sets hw (hc d (hl d (by simp)) fun a h => hw a (ha a h))
    have h2 : ∀ (k : Nat) (w : List (List UInt8 × Bool)), (∀ s, has w s = true → P s) → ∀ s, has (iter (passW l) k w) s = true → P s := by
      intro k
      induction k with
      | zero => exact fun w hw => hw
      | succ k ih => exact fun w hw => ih (passW l w) (h1 l w (fun _ h => h) hw)
    exact h2 _ _ (inv_sets (fun s h => by rw [has_nil] at h; cases h) hF) s hs
  · intro h
    generalize hm : iter (passC cols l) (l.length + 1) (mask cols fr) = m at hrel
    have hstill : passC cols l m = m := by rw [← hm]; exact iter_still _ _ (by have := cnt_le cols l (mask cols fr); omega)
    refine h (fun s => has (reached l fr) s = true) (fun d hdl hF b hb => ?_) (fun a ha => ?_)
    · obtain ⟨k1, k2⟩ := okD2 (hd d hdl)
      have h1 : d.From.all (chi cols m) = true := by rw [List.all_eq_true]; intro a ha; rw [hrel a]; exact hF a ha
      have h2 := pass_still hstill d hdl
      unfold stepC at h2
      rw [dT (and_eq_iff.2 ((sub_iff k1).2 h1)), cond_true, or_eq_iff, sub_iff k2, List.all_eq_true] at h2
      have := h2 b hb
      rwa [hrel b] at this
    · rw [← hrel a]
      refine chi_mono (m := mask cols fr) (by rw [← hm]; exact iter_sub cols l _ _) ?_
      unfold mask
      rw [chi_adds hf, chi_zero, Bool.false_or]
      exact List.contains_iff_mem.2 ha
theorem closed_fol {cols : List (List UInt8)} (hc : cols.length ≤ 12) {l : List Dep} (hd : ∀ d ∈ l, okD cols d = true) (hl : l.length ≤ 500) {fr : List (List UInt8)} (hf : inC cols fr = true) (n : Nat) (hn : 3000 < n) :
    ∃ m : Nat, m < 4096 ∧ keys_closed n (l.map (toD cols)) (mask cols fr : Int) = some (m : Int) ∧ ∀ s, chi cols m s = true ↔ Fol l (fun a => a ∈ fr) s := by
  refine ⟨_, ?_, closed_ok n hc hd (by omega) hn (mask_ok hc hf) (l.length + 1) (by omega) (by omega), fun s => ?_⟩
  · have key : ∀ (k m : Nat), m < 4096 → iter (passC cols l) k m < 4096 := by
      intro k
      induction k with
      | zero => exact fun m hm => hm
      | succ k ih => exact fun m hm => ih _ (pass_lt hc hm hd)
    exact key _ _ (mask_ok hc hf)
  · have hrel : Rel cols (iter (passC cols l) (l.length + 1) (mask cols fr)) (reached l fr) := rel_iter hd (rel_start hf)
    rw [hrel s]
    exact reached_fol hd hf s

/-! ### Masks of one column -/
theorem mask_one {cols : List (List UInt8)} (b : List UInt8) : mask cols [b] = 2 ^ idx cols b := by
  show 0 ||| 2 ^ idx cols b = _
  rw [Nat.zero_or]
theorem mask_at {cols : List (List UInt8)} (hn : cols.Nodup) {i : Nat} (h : i < cols.length) : mask cols [cols[i]] = 2 ^ i := by rw [mask_one, idx_at hn h]
theorem hits {cols : List (List UInt8)} {b : List UInt8} (hb : b ∈ cols) (m : Nat) : decide ((m &&& mask cols [b] : Nat) = 0) = !chi cols m b := by
  rw [mask_one]
  unfold chi
  rw [List.contains_iff_mem.2 hb, Bool.true_and]
  have e : (m &&& 2 ^ idx cols b).testBit (idx cols b) = m.testBit (idx cols b) := by rw [Nat.testBit_and, testBit_two, dT rfl, Bool.and_true]
  cases h : m.testBit (idx cols b) with
  | false =>
    refine dT (Nat.eq_of_testBit_eq fun i => ?_)
    rw [Nat.testBit_and, testBit_two, Nat.zero_testBit]
    by_cases hi : idx cols b = i
    · rw [← hi, h]; rfl
    · rw [dF hi, Bool.and_false]
  | true =>
    refine dF fun h0 => ?_
    rw [h0, Nat.zero_testBit, h] at e
    cases e
theorem mask_chi {cols : List (List UInt8)} {l : List (List UInt8)} (h : inC cols l = true) (s : List UInt8) : chi cols (mask cols l) s = l.contains s := by
  unfold mask
  rw [chi_adds h, chi_zero, Bool.false_or]
theorem mask_bit' {cols : List (List UInt8)} (hn : cols.Nodup) {l : List (List UInt8)} (h : inC cols l = true) {i : Nat} (hi : i < cols.length) : (mask cols l).testBit i = l.contains cols[i] := by
  have := mask_chi h cols[i]
  unfold chi at this
  rwa [idx_at hn hi, List.contains_iff_mem.2 (List.getElem_mem _), Bool.true_and] at this
theorem mask_big {cols : List (List UInt8)} {l : List (List UInt8)} (h : inC cols l = true) {i : Nat} (hi : cols.length ≤ i) : (mask cols l).testBit i = false := by
  unfold mask
  rw [mask_bit, Nat.zero_testBit, Bool.false_or, List.any_eq_false]
  intro a ha hd
  have := of_decide_eq_true hd
  have := idx_lt (List.contains_iff_mem.2 (inC_iff.1 h a ha))
  omega
theorem andNot_nat {a c : Nat} (ha : a < 4096) (hc : c ≤ 12) : Fv.bits .andNot .i64 (a : Int) ((2 ^ c : Nat) : Int) = ((a ^^^ (a &&& 2 ^ c) : Nat) : Int) := by
  have h1 : c = 0 ∨ c = 1 ∨ c = 2 ∨ c = 3 ∨ c = 4 ∨ c = 5 ∨ c = 6 ∨ c = 7 ∨ c = 8 ∨ c = 9 ∨ c = 10 ∨ c = 11 ∨ c = 12 := by omega
  have h3 : a ^^^ (a &&& 2 ^ c) < 2 ^ 12 := Nat.xor_lt_two_pow (by simpa using ha) (Nat.lt_of_le_of_lt Nat.and_le_left (by simpa using ha))
  show IntKind.wrap .i64 _ = _
  have key : (BitVec.ofInt 64 (a : Int) &&& ~~~ BitVec.ofInt 64 ((2 ^ c : Nat) : Int)).toNat = a ^^^ (a &&& 2 ^ c) := by
    rw [BitVec.ofInt_natCast, BitVec.ofInt_natCast]
    apply Nat.eq_of_testBit_eq
    intro i
    rw [BitVec.testBit_toNat, BitVec.getLsbD_and, BitVec.getLsbD_not, BitVec.getLsbD_ofNat, BitVec.getLsbD_ofNat, Nat.testBit_xor, Nat.testBit_and]
    by_cases hi : i < 64
    · simp only [hi, decide_true, Bool.true_and]
      cases a.testBit i <;> cases (2 ^ c).testBit i <;> rfl
    · have : a.testBit i = false := Nat.testBit_lt_two_pow (Nat.lt_of_lt_of_le ha (Nat.le_trans (by decide : 4096 ≤ 2 ^ 64) (Nat.pow_le_pow_right (by omega) (by omega))))
      rw [this]
      simp [hi]
  refine (congrArg (fun z : Nat => IntKind.wrap .i64 (z : Int)) key).trans ?_
  exact w64 (by omega) (by omega)
theorem mask_drop {cols : List (List UInt8)} (hn : cols.Nodup) {l : List (List UInt8)} (h : inC cols l = true) {c : Nat} (hc : c < cols.length) : mask cols l ^^^ (mask cols l &&& 2 ^ c) = mask cols (l.filter fun a => a != cols[c]) := by
  have hf : inC cols (l.filter fun a => a != cols[c]) = true := inC_iff.2 fun s hs => inC_iff.1 h s (List.mem_filter.1 hs).1
  apply Nat.eq_of_testBit_eq
  intro i
  rw [Nat.testBit_xor, Nat.testBit_and, testBit_two]
  by_cases hi : i < cols.length
  · rw [mask_bit' hn h hi, mask_bit' hn hf hi]
    have e : (l.filter fun a => a != cols[c]).contains cols[i] = (l.contains cols[i] && cols[i] != cols[c]) := by
      rw [Bool.eq_iff_iff, List.contains_iff_mem, List.mem_filter, Bool.and_eq_true, List.contains_iff_mem]
    rw [e]
    by_cases hci : c = i
    · subst hci
      simp
    · have : (cols[i] != cols[c]) = true := by
        rw [bne_iff_ne]
        intro h'
        exact hci ((List.getElem_inj hn).1 h').symm
      rw [this, dF hci]
      simp
  · rw [mask_big h (by omega), mask_big hf (by omega)]
    rfl

/-! ### Lists in order -/
theorem eq_go (n : Nat) (v0 v1 : List (List UInt8)) (hl : v0.length = v1.length) : ∀ (l : List (List UInt8)) (i : Nat), l = v0.drop i → i ≤ v0.length →
    foldK (S := Unit) (fun i (a : (List UInt8)) s K => (bif (decide (0 ≤ (i : Int)) && decide ((i : Int) < List.length v1)) then (bif (!(a == (List.getD v1 (Int.toNat (i : Int)) []))) then (some false) else (K ())) else none)) (fun s => (some true)) l i () = some (decide (l = v1.drop i))
  | [], i, h, hi => by
    have hi2 : ¬ i < v0.length := fun hi2 => by rw [List.drop_eq_getElem_cons hi2] at h; cases h
    rw [List.drop_eq_nil_of_le (by omega)]
    rfl
  | a :: l, i, h, hi => by
    have hi2 : i < v0.length := by
      apply Classical.byContradiction
      intro hi2
      rw [List.drop_eq_nil_of_le (by omega)] at h
      cases h
    have h0 := h
    rw [List.drop_eq_getElem_cons hi2] at h
    injection h with h1 h2
    have hi3 : i < v1.length := by omega
    rw [foldK_cons, d0, dlt, dT hi3, Int.toNat_natCast, getD_lt _ hi3]
    show (bif true && true then bif !a == v1[i] then some false else foldK _ _ l (i + 1) () else none) = _
    rw [eq_go n v0 v1 hl l (i + 1) h2 (by omega)]
    have e : List.drop i v1 = v1[i] :: List.drop (i + 1) v1 := List.drop_eq_getElem_cons hi3
    by_cases hq : a = v1[i]
    · simp only [hq, beq_self_eq_true, Bool.not_true, Bool.and_self, cond_true, cond_false, e, List.cons.injEq, true_and]
    · have : (a == v1[i]) = false := by simpa using hq
      have h3 : ¬ a :: l = List.drop i v1 := by rw [e]; intro h; injection h with h; exact hq h
      rw [this, dF h3]
      rfl
theorem equal_ok (n : Nat) (v0 v1 : List (List UInt8)) (h : v0.length < 9223372036854775807) (hn : v0.length < n) : slices_Equal n v0 v1 = some (decide (v0 = v1)) := by
  rw [slices_Equal_eq]
  by_cases hl : v0.length = v1.length
  · have hf := slices_Equal_l0_fold n v0 v1 h n 0 (Nat.zero_le _) (by omega)
    rw [show ((0 : Nat) : Int) = 0 from rfl, List.drop_zero] at hf
    rw [dT (by rw [hl]), Bool.not_true, cond_false, hf, eq_go n v0 v1 hl v0 0 rfl (Nat.zero_le _), List.drop_zero]
  · have h2 : ¬ v0 = v1 := fun h2 => hl (by rw [h2])
    have h3 : ¬ ((v0.length : Nat) : Int) = ((v1.length : Nat) : Int) := by omega
    rw [dF h3, dF h2]
    rfl
theorem closure_ok (n : Nat) (cols : List (List UInt8)) (l : List Dep) (fr : List (List UInt8)) (h : Sm n cols l) (hf : fr.length < n ∧ fr.length < 9223372036854775807) :
    keys_Closure n cols l fr = some (bif decide (depErr n cols l = 0) then (bif inC cols fr then (cols.filter (has (reached l fr)), 0) else ([], 4)) else ([], depErr n cols l)) := by
  rw [keys_Closure_eq, read_ok n cols l h, bind_some2]
  by_cases h0 : depErr n cols l = 0
  · have ok := ok_of h0
    have hbig := h.big
    rw [h0]
    simp only [decide_true, Bool.not_true, cond_false, cond_true]
    rw [set_ok n cols fr ok.c (by omega) hf.2 hf.1, bind_some2]
    cases hin : inC cols fr with
    | false => rfl
    | true =>
      obtain ⟨m, m1, m2, m3⟩ := closed_rel ok hin n (by omega)
      simp only [cond_true, Bool.not_true, cond_false]
      rw [m2, bind_some2, list_ok n ok.c ok.nd m1 (by omega), bind_some2]
      have e2 : chi cols m = has (reached l fr) := by funext s; exact m3 s
      rw [e2]
  · simp only [dF h0, Bool.not_false, cond_true, cond_false]
theorem nm_a (n : Nat) (h : 3000 < n) : nmB n [97] = true ∧ nmB n [98] = true := by
  have h1 := value_Name_l0_fold n [97] (by decide) n 0 (Nat.zero_le _) (by simp; omega)
  have h2 := value_Name_l0_fold n [98] (by decide) n 0 (Nat.zero_le _) (by simp; omega)
  rw [show ((0 : Nat) : Int) = 0 from rfl] at h1 h2
  unfold nmB
  rw [value_Name_eq, value_Name_eq, show ints [97] = [97] from rfl, show ints [98] = [98] from rfl, h1, h2]
  exact ⟨rfl, rfl⟩
theorem deps_ok (n : Nat) (h : 3000 < n) : law2_deps n = some true := by
  have hs : Sm n [[97], [98]] [(Dep.mk [[97]] [[98]])] := ⟨h, by simp; omega, by simp; omega⟩
  have h0 : depErr n [[97], [98]] [(Dep.mk [[97]] [[98]])] = 0 := by
    unfold depErr
    have : colErr n [] [[97], [98]] = none := by
      unfold colErr
      rw [(nm_a n h).1]
      unfold colErr
      rw [(nm_a n h).2]
      rfl
    rw [this]
    decide
  rw [law2_deps_eq, closure_ok n _ _ _ hs (by simp; omega), bind_some2, h0]
  have e : (bif decide ((0 : Int) = 0) then (bif inC [[97], [98]] [[97]] then (List.filter (has (reached [(Dep.mk [[97]] [[98]])] [[97]])) [[97], [98]], (0 : Int)) else ([], 4)) else ([], 0)) = (([[97], [98]], 0) : List (List UInt8) × Int) := by decide
  rw [e, dT rfl, cond_true, equal_ok n _ _ (by decide) (by simp; omega), bind_some2]
  rfl
theorem any_not {A : Type} (p : A → Bool) : ∀ l : List A, (l.any fun a => !p a) = !l.all p
  | [] => rfl
  | a :: l => by rw [List.any_cons, List.all_cons, any_not p l, Bool.not_and]

theorem fold_use {S R : Type} {L : Option R} {step : Nat → S → (S → Option R) → Option R} {fin : S → Option R} {c i : Nat} {s : S} (hf : L = foldN step fin c i s) (I : Nat → S → Prop) (N : Nat) (hc : c + i = N) (hi : I i s)
    (h : ∀ i s, i < N → I i s → ∃ s', I (i + 1) s' ∧ ∀ K, step i s K = K s') : ∃ s', I N s' ∧ L = fin s' := by
  obtain ⟨s', h1, h2⟩ := foldN_inv (fin := fin) I N h c i s hc hi
  exact ⟨s', h1, by rw [hf, h2]⟩

/-! ### Sets in order -/
theorem xor_nat {a b : Nat} (ha : a < 9223372036854775808) (hb : b < 9223372036854775808) : Fv.bits .xor .i64 (a : Int) (b : Int) = ((a ^^^ b : Nat) : Int) := by
  show IntKind.wrap .i64 (((BitVec.ofInt 64 (a : Int) ^^^ BitVec.ofInt 64 (b : Int) : BitVec 64).toNat : Nat) : Int) = _
  rw [BitVec.ofInt_natCast, BitVec.ofInt_natCast, BitVec.toNat_xor, BitVec.toNat_ofNat, BitVec.toNat_ofNat, Nat.mod_eq_of_lt (by omega), Nat.mod_eq_of_lt (by omega)]
  have : a ^^^ b < 2 ^ 63 := Nat.xor_lt_two_pow (by simpa using ha) (by simpa using hb)
  exact w64 (by omega) (by omega)
def fst12 (x : Nat) : Option Nat := (List.range 12).find? fun i => x.testBit i
def lowI (x : Nat) : Int := match fst12 x with
  | some i => ((2 ^ i : Nat) : Int)
  | none => 0
theorem by64 {P : Nat → Prop} (h : ∀ a : Nat, a < 64 → ∀ b : Nat, b < 64 → P (64 * a + b)) (x : Nat) (hx : x < 4096) : P x := by
  have := h (x / 64) (by omega) (x % 64) (by omega)
  rwa [Nat.div_add_mod] at this
theorem low_all0 : ∀ a : Nat, a < 64 → ∀ b : Nat, b < 64 → Fv.bits .and .i64 ((64 * a + b : Nat) : Int) (IntKind.wrap .i64 (0 - ((64 * a + b : Nat) : Int))) = lowI (64 * a + b) := by decide +kernel
theorem low_all (x : Nat) (hx : x < 4096) : Fv.bits .and .i64 (x : Int) (IntKind.wrap .i64 (0 - (x : Int))) = lowI x := by64 (P := fun x => Fv.bits .and .i64 (x : Int) (IntKind.wrap .i64 (0 - (x : Int))) = lowI x) low_all0 x hx
def rev12 (x : Nat) : Nat := (List.range 12).foldl (fun r i => bif x.testBit i then r + 2 ^ (11 - i) else r) 0
theorem rev_all0 : ∀ a : Nat, a < 64 → ∀ b : Nat, b < 64 → rev12 (64 * a + b) < 4096 ∧ ∀ j : Nat, j < 12 → (rev12 (64 * a + b)).testBit j = (64 * a + b).testBit (11 - j) := by decide +kernel
theorem rev_all (x : Nat) (hx : x < 4096) : rev12 x < 4096 ∧ ∀ j : Nat, j < 12 → (rev12 x).testBit j = x.testBit (11 - j) := by64 (P := fun x => rev12 x < 4096 ∧ ∀ j : Nat, j < 12 → (rev12 x).testBit j = x.testBit (11 - j)) rev_all0 x hx
def popc (x : Nat) : Nat := (List.range 12).countP fun i => x.testBit i
theorem pop_all0 (n : Nat) : ∀ a : Nat, a < 64 → ∀ b : Nat, b < 64 → bits_OnesCount64 n ((64 * a + b : Nat) : Int) = some ((popc (64 * a + b) : Nat) : Int) := by
  simp only [bits_OnesCount64_eq]
  decide +kernel
theorem pop_all (n x : Nat) (hx : x < 4096) : bits_OnesCount64 n (x : Int) = some ((popc x : Nat) : Int) := by64 (P := fun x => bits_OnesCount64 n (x : Int) = some ((popc x : Nat) : Int)) (pop_all0 n) x hx

theorem sortO_key {A : Type} (cmp : A → A → Option Int) (key : A → Nat) (xs : List A) (hl : xs.length < 4611686018427387904) (h : ∀ a ∈ xs, ∀ b ∈ xs, ∃ z : Int, cmp a b = some z ∧ (z < 0 ↔ key b < key a)) :
    ∃ ys, sortO cmp xs = some ys ∧ ys.Perm xs ∧ ys.Pairwise fun a b => key b ≤ key a := by
  cases xs with
  | nil => exact ⟨[], rfl, .nil, .nil⟩
  | cons x t =>
    have hcf : ∀ i j : Fin (t.length + 1), cmp ((x :: t).get i) ((x :: t).get j) = some (cfOf cmp x t i j) ∧ (cfOf cmp x t i j < 0 ↔ key ((x :: t).get j) < key ((x :: t).get i)) := by
      intro i j
      obtain ⟨z, h1, h2⟩ := h _ (List.get_mem (x :: t) i) _ (List.get_mem (x :: t) j)
      have e : cfOf cmp x t i j = z := by
        show (cmp ((x :: t).get i) ((x :: t).get j)).getD 0 = z
        rw [h1]
        rfl
      rw [e]
      exact ⟨h1, h2⟩
    have hlt : ∀ i j : Fin (t.length + 1), ltI (cfOf cmp x t) i j = decide (key ((x :: t).get j) < key ((x :: t).get i)) := by
      intro i j
      show decide (cfOf cmp x t i j < 0) = _
      rw [Bool.eq_iff_iff, decide_eq_true_eq, decide_eq_true_eq]
      exact (hcf i j).2
    have hswo : Go.Sort.SWO (ltI (cfOf cmp x t)) := by
      refine ⟨fun i => ?_, fun i j k h1 h2 => ?_, fun i j k h1 h2 => ?_⟩
      · rw [hlt]; exact decide_eq_false (Nat.lt_irrefl _)
      · rw [hlt] at h1 h2 ⊢
        have h1 := of_decide_eq_true h1
        have h2 := of_decide_eq_true h2
        exact decide_eq_true (by omega)
      · rw [hlt] at h1 h2 ⊢
        have h1 := of_decide_eq_false h1
        have h2 := of_decide_eq_false h2
        exact decide_eq_false (by omega)
    obtain ⟨p1, p2, p3⟩ := swo_pdq hswo
    refine ⟨(pdqL (cfOf cmp x t)).map fun i => (x :: t).get i, ?_, ?_, ?_⟩
    · rw [sortO, if_pos ⟨by simpa using hl, fun i j => by rw [(hcf i j).1]; rfl, hswo⟩]
    · have e : (List.ofFn (n := t.length + 1) id).map (fun i => (x :: t).get i) = x :: t := by
        apply List.ext_getElem
        · simp
        · intro i h1 h2
          simp only [List.getElem_map, List.getElem_ofFn, id, List.get_eq_getElem]
      have := p1.map fun i => (x :: t).get i
      rwa [e] at this
    · rw [List.pairwise_map, List.pairwise_iff_getElem]
      intro i j hi hj hij
      have := p3 i j hi hj hij
      rw [hlt] at this
      have := of_decide_eq_false this
      omega
theorem fst_ok {x : Nat} (hx : x < 4096) (h0 : x ≠ 0) : ∃ i, i < 12 ∧ fst12 x = some i ∧ x.testBit i = true ∧ ∀ j, j < i → x.testBit j = false := by
  have hex : ∃ i, i < 12 ∧ x.testBit i = true := by
    apply Classical.byContradiction
    intro hn
    apply h0
    apply Nat.eq_of_testBit_eq
    intro i
    rw [Nat.zero_testBit]
    cases hb : x.testBit i with
    | false => rfl
    | true =>
      rcases Nat.lt_or_ge i 12 with h | h
      · exact absurd ⟨i, h, hb⟩ hn
      · rw [Nat.testBit_lt_two_pow (Nat.lt_of_lt_of_le hx (Nat.pow_le_pow_right (n := 2) (by omega) h))] at hb
        cases hb
  cases hf : fst12 x with
  | none =>
    obtain ⟨i, h1, h2⟩ := hex
    unfold fst12 at hf
    rw [List.find?_eq_none] at hf
    exact absurd h2 (hf i (List.mem_range.2 h1))
  | some i =>
    have hf2 := hf
    unfold fst12 at hf2
    rw [List.find?_range_eq_some] at hf2
    obtain ⟨h1, h2, h3⟩ := hf2
    refine ⟨i, List.mem_range.1 h2, rfl, h1, fun j hj => ?_⟩
    have := h3 j hj
    simpa using this
theorem lt_bit {n m i : Nat} (hn : n.testBit i = false) (hm : m.testBit i = true) (h : ∀ j, i < j → n.testBit j = m.testBit j) : n < m := by
  have e : n / 2 ^ (i + 1) = m / 2 ^ (i + 1) := by
    apply Nat.eq_of_testBit_eq
    intro j
    rw [Nat.testBit_div_two_pow, Nat.testBit_div_two_pow]
    exact h _ (by omega)
  rw [Nat.testBit_eq_decide_div_mod_eq] at hn hm
  have hn := of_decide_eq_false hn
  have hm := of_decide_eq_true hm
  rw [Nat.pow_succ, ← Nat.div_div_eq_div_mul, ← Nat.div_div_eq_div_mul] at e
  have hd : n / 2 ^ i < m / 2 ^ i := by omega
  exact Nat.lt_of_div_lt_div hd
theorem xor_zero {a b : Nat} (h : a ^^^ b = 0) : a = b := by
  apply Nat.eq_of_testBit_eq
  intro i
  have := congrArg (fun z => z.testBit i) h
  simp only [Nat.testBit_xor, Nat.zero_testBit] at this
  revert this
  cases a.testBit i <;> cases b.testBit i <;> simp
theorem rev_lt {a b i : Nat} (ha : a < 4096) (hb : b < 4096) (hi : i < 12) (h1 : b.testBit i = false) (h2 : a.testBit i = true) (h3 : ∀ j, j < i → a.testBit j = b.testBit j) : rev12 b < rev12 a := by
  obtain ⟨a1, a2⟩ := rev_all a ha
  obtain ⟨b1, b2⟩ := rev_all b hb
  refine lt_bit (i := 11 - i) ?_ ?_ fun j hj => ?_
  · rw [b2 _ (by omega), show 11 - (11 - i) = i by omega]; exact h1
  · rw [a2 _ (by omega), show 11 - (11 - i) = i by omega]; exact h2
  · rcases Nat.lt_or_ge j 12 with h | h
    · rw [b2 j h, a2 j h]
      exact (h3 _ (by omega)).symm
    · have h4 : 2 ^ 12 ≤ 2 ^ j := Nat.pow_le_pow_right (by omega) h
      rw [Nat.testBit_lt_two_pow (by omega), Nat.testBit_lt_two_pow (by omega)]
theorem order_ok (n : Nat) {a b : Nat} (ha : a < 4096) (hb : b < 4096) : ∃ z : Int, keys_order n (a : Int) (b : Int) = some z ∧ (z < 0 ↔ rev12 b < rev12 a) := by
  rw [keys_order_eq]
  by_cases hab : a = b
  · subst hab
    exact ⟨0, by rw [dT rfl]; rfl, by simp⟩
  · have hx : a ^^^ b < 2 ^ 12 := Nat.xor_lt_two_pow ha hb
    have hx : a ^^^ b < 4096 := hx
    have hx0 : a ^^^ b ≠ 0 := fun h => hab (xor_zero h)
    obtain ⟨i, h1, h2, h3, h4⟩ := fst_ok hx hx0
    have hlow : Fv.bits .and .i64 (Fv.bits .xor .i64 (a : Int) (b : Int)) (IntKind.wrap .i64 (0 - (Fv.bits .xor .i64 (a : Int) (b : Int)))) = ((2 ^ i : Nat) : Int) := by
      rw [xor_nat (by omega) (by omega), low_all _ hx]
      unfold lowI
      rw [h2]
    have hp : 2 ^ i < 2 ^ 12 := Nat.pow_lt_pow_right (by omega) h1
    rw [Nat.testBit_xor] at h3
    have hne : ¬ (a : Int) = (b : Int) := by omega
    rw [dF hne, cond_false, hlow, and_nat (by omega) (by omega)]
    have same : ∀ j, j < i → a.testBit j = b.testBit j := fun j hj => by
      have := h4 j hj
      rw [Nat.testBit_xor] at this
      revert this
      cases a.testBit j <;> cases b.testBit j <;> simp
    cases hai : a.testBit i with
    | true =>
      have hbi : b.testBit i = false := by
        rw [hai] at h3
        cases hb : b.testBit i with
        | false => rfl
        | true => rw [hb] at h3; cases h3
      have hnz : ¬ ((a &&& 2 ^ i : Nat) : Int) = 0 := by
        intro h
        have h : a &&& 2 ^ i = 0 := by omega
        have := congrArg (fun z => z.testBit i) h
        simp only [Nat.testBit_and, testBit_two, hai, Nat.zero_testBit] at this
        simp at this
      refine ⟨-1, by rw [dF hnz]; rfl, ?_⟩
      simp only [rev_lt ha hb h1 hbi hai same, iff_true]
      omega
    | false =>
      have hbi : b.testBit i = true := by
        rw [hai] at h3
        cases hb : b.testBit i with
        | true => rfl
        | false => rw [hb] at h3; cases h3
      have hz : ((a &&& 2 ^ i : Nat) : Int) = 0 := by
        have : a &&& 2 ^ i = 0 := by
          apply Nat.eq_of_testBit_eq
          intro j
          rw [Nat.testBit_and, testBit_two, Nat.zero_testBit]
          by_cases hj : i = j
          · subst hj; rw [hai]; rfl
          · rw [dF hj, Bool.and_false]
        omega
      refine ⟨1, by rw [dT hz]; rfl, ?_⟩
      have := rev_lt hb ha h1 hai hbi fun j hj => (same j hj).symm
      constructor
      · intro h; omega
      · intro h; omega

/-! ### What Keys finds -/
theorem closed_high {cols : List (List UInt8)} {l : List Dep} (hd : ∀ d ∈ l, okD cols d = true) {i : Nat} (hi : cols.length ≤ i) : ∀ (k m : Nat), m.testBit i = false → (iter (passC cols l) k m).testBit i = false := by
  have h1 : ∀ (l' : List Dep) (m : Nat), (∀ d ∈ l', d ∈ l) → m.testBit i = false → (passC cols l' m).testBit i = false := by
    intro l'
    induction l' with
    | nil => exact fun m _ h => h
    | cons d l' ih =>
      intro m hl hm
      refine ih (stepC cols m d) (fun d' h => hl d' (by simp [h])) ?_
      unfold stepC
      cases decide (m &&& mask cols d.From = mask cols d.From) with
      | false => exact hm
      | true => rw [cond_true, Nat.testBit_or, hm, mask_big (okD2 (hd d (hl d (by simp)))).2 hi]; rfl
  intro k
  induction k with
  | zero => exact fun m h => h
  | succ k ih => exact fun m h => ih _ (h1 l m (fun _ h => h) h)
def ofM (cols : List (List UInt8)) (n : Nat) : List (List UInt8) := cols.filter (chi cols n)
theorem ofM_in (cols : List (List UInt8)) (n : Nat) : inC cols (ofM cols n) = true := inC_iff.2 fun s hs => (List.mem_filter.1 hs).1
theorem high0 {n k i : Nat} (h : n < 2 ^ k) (hi : k ≤ i) : n.testBit i = false := Nat.testBit_lt_two_pow (Nat.lt_of_lt_of_le h (Nat.pow_le_pow_right (by omega) hi))
theorem mask_ofM {cols : List (List UInt8)} (hn : cols.Nodup) {n : Nat} (h : n < 2 ^ cols.length) : mask cols (ofM cols n) = n := by
  apply Nat.eq_of_testBit_eq
  intro i
  rcases Nat.lt_or_ge i cols.length with hi | hi
  · rw [mask_bit' hn (ofM_in cols n) hi]
    have hm : cols[i] ∈ cols := List.getElem_mem _
    have e : chi cols n cols[i] = n.testBit i := by
      unfold chi
      rw [idx_at hn hi, List.contains_iff_mem.2 hm, Bool.true_and]
    rw [← e, Bool.eq_iff_iff, List.contains_iff_mem]
    unfold ofM
    rw [List.mem_filter]
    exact ⟨fun h => h.2, fun h => ⟨hm, h⟩⟩
  · rw [mask_big (ofM_in cols n) hi, high0 h hi]
def Full (cols : List (List UInt8)) (l : List Dep) (c : List (List UInt8)) : Prop := ∀ s ∈ cols, Fol l (fun a => a ∈ c) s
theorem closed_full {cols : List (List UInt8)} {l : List Dep} (ok : Ok cols l) {n0 : Nat} (h : n0 < 2 ^ cols.length) (n : Nat) (hn : 3000 < n) :
    ∃ m : Nat, keys_closed n (l.map (toD cols)) (n0 : Int) = some (m : Int) ∧ (m = 2 ^ cols.length - 1 ↔ Full cols l (ofM cols n0)) := by
  have hin := ofM_in cols n0
  have hln := ok.ln
  have hm0 := mask_ofM ok.nd h
  have hrel : Rel cols (iter (passC cols l) (l.length + 1) (mask cols (ofM cols n0))) (reached l (ofM cols n0)) := rel_iter ok.d (rel_start hin)
  have hcl := closed_ok n ok.c ok.d (by omega) hn (mask_ok ok.c hin) (l.length + 1) (by omega) (by omega)
  generalize hm : iter (passC cols l) (l.length + 1) (mask cols (ofM cols n0)) = m at hrel hcl
  have hhigh : ∀ i, cols.length ≤ i → m.testBit i = false := fun i hi => by
    rw [← hm]
    exact closed_high ok.d hi _ _ (mask_big hin hi)
  rw [hm0] at hcl
  refine ⟨m, hcl, ?_⟩
  have hbit : ∀ i (hi : i < cols.length), m.testBit i = true ↔ Fol l (fun a => a ∈ ofM cols n0) cols[i] := fun i hi => by
    rw [← reached_fol ok.d hin, ← hrel]
    unfold chi
    rw [idx_at ok.nd hi, List.contains_iff_mem.2 (List.getElem_mem _), Bool.true_and]
  constructor
  · intro he s hs
    obtain ⟨i, hi, rfl⟩ := List.getElem_of_mem hs
    rw [← hbit i hi, he, Nat.testBit_two_pow_sub_one]
    exact decide_eq_true hi
  · intro hf
    apply Nat.eq_of_testBit_eq
    intro i
    rw [Nat.testBit_two_pow_sub_one]
    rcases Nat.lt_or_ge i cols.length with hi | hi
    · rw [(hbit i hi).2 (hf _ (List.getElem_mem _)), decide_eq_true hi]
    · rw [hhigh i hi, decide_eq_false (by omega)]
theorem cfI_ok (n : Nat) (xs : List Nat) (c : Nat) (hc : c < 4096) (hx : ∀ x ∈ xs, x < 4096) (h : xs.length < 9223372036854775807) (hn : xs.length < n) : slices_ContainsFunc n (xs.map fun x : Nat => (x : Int)) ((c : Int), ()) = some (xs.any fun a => decide (c &&& a = a)) := by
  have hf := slices_IndexFunc_l0_fold n (xs.map fun x : Nat => (x : Int)) (c : Int) (by simpa using h) n 0 (Nat.zero_le _) (by simp; omega)
  rw [show ((0 : Nat) : Int) = 0 from rfl, List.drop_zero, foldK_congr (step' := fun i a _ K => bif decide (Fv.bits .and .i64 (c : Int) a = a) then some (i : Int) else K ()) (fin' := fun s => some (-1)) (fun _ => rfl) _ 0 () (fun i a s K _ => by rw [keys_Keys_1_eq, bind_some2]), foldK_idx] at hf
  have e : slices_IndexFunc n (xs.map fun x : Nat => (x : Int)) ((c : Int), ()) = some (ixI (fun a => decide (Fv.bits .and .i64 (c : Int) a = a)) (xs.map fun x : Nat => (x : Int))) := by
    rw [slices_IndexFunc_eq, hf]
    unfold ixI
    cases List.findIdx? (fun a => decide (Fv.bits .and .i64 (c : Int) a = a)) (xs.map fun x : Nat => (x : Int)) <;> simp
  rw [slices_ContainsFunc_eq, e, bind_some2, ixI_pos, List.any_map]
  congr 1
  rw [Bool.eq_iff_iff, List.any_eq_true, List.any_eq_true]
  have key : ∀ x ∈ xs, ((fun a => decide (Fv.bits .and .i64 (c : Int) a = a)) ∘ fun x : Nat => (x : Int)) x = decide (c &&& x = x) := fun x hx0 => by
    show decide (Fv.bits .and .i64 (c : Int) (x : Int) = (x : Int)) = _
    have := hx x hx0
    rw [and_nat (by omega) (by omega)]
    simp only [Int.natCast_inj]
  exact ⟨fun ⟨x, h1, h2⟩ => ⟨x, h1, by rw [← key x h1]; exact h2⟩, fun ⟨x, h1, h2⟩ => ⟨x, h1, by rw [key x h1]; exact h2⟩⟩
open Classical in
/-- Is a set found in this round? -/
noncomputable def hit (cols : List (List UInt8)) (l : List Dep) (found : List Nat) (size x : Nat) : Bool := decide (popc x = size) && !(found.any fun a => decide (x &&& a = a)) && decide (Full cols l (ofM cols x))
open Classical in
theorem round_ok {cols : List (List UInt8)} {l : List Dep} (ok : Ok cols l) (n m : Nat) (hn : 200000 < n) (found : List Nat) (hx : ∀ x ∈ found, x < 4096) (hfl : found.length ≤ 100000) (size : Nat) (v32 : Int) (hsz : size ≤ 12) :
    ∃ ys : List Nat, ys.Perm ((List.range (2 ^ cols.length)).filter (hit cols l found size)) ∧ (ys.Pairwise fun a b => rev12 b ≤ rev12 a) ∧
      keys_Keys_l2 n m n cols (l.map (toD cols)) ((2 ^ cols.length - 1 : Nat) : Int) (found.map fun x : Nat => (x : Int)) (size : Int) v32 (size : Int) ((2 ^ cols.length : Nat) : Int) 0 [] =
        keys_Keys_l0 n m cols (l.map (toD cols)) ((2 ^ cols.length - 1 : Nat) : Int) ((found ++ ys).map fun x : Nat => (x : Int)) v32 (IntKind.wrap .i64 ((size : Int) + 1)) := by
  have hc := ok.c
  have h2 : 2 ^ cols.length ≤ 2 ^ 12 := Nat.pow_le_pow_right (by omega) hc
  have h2 : 2 ^ cols.length ≤ 4096 := h2
  have hf := keys_Keys_l2_fold n m cols (l.map (toD cols)) ((2 ^ cols.length - 1 : Nat) : Int) (found.map fun x : Nat => (x : Int)) (size : Int) v32 (size : Int) (2 ^ cols.length) [] (by omega) n 0 (Nat.zero_le _) (by omega)
  rw [show ((0 : Nat) : Int) = 0 from rfl] at hf
  obtain ⟨s', h3, h4⟩ := fold_use hf (fun i s => s = ((List.range i).filter (hit cols l found size)).map fun x : Nat => (x : Int)) (2 ^ cols.length) (by rw [Nat.sub_zero, Nat.add_zero]) rfl (by
    rintro i s hi rfl
    have hlen : (((List.range i).filter (hit cols l found size)).map fun x : Nat => (x : Int)).length ≤ 4096 := by
      rw [List.length_map]
      have := List.length_filter_le (hit cols l found size) (List.range i)
      rw [List.length_range] at this
      omega
    obtain ⟨mm, k1, k2⟩ := closed_full ok hi n (by omega)
    have hw : IntKind.wrap .u64 (i : Int) = (i : Int) := by
      simp [IntKind.wrap, IntKind.bits, IntKind.signed]
      omega
    have hpop : bits_OnesCount n (i : Int) = some ((popc i : Nat) : Int) := by
      rw [bits_OnesCount_eq, pop_all n i (by omega)]
      rfl
    have hcf := cfI_ok n found i (by omega) hx (by omega) (by omega)
    have hb : (((List.range i).filter (hit cols l found size)).map fun x : Nat => (x : Int)).length + ([(i : Int)] : List Int).length ≤ 4294967296 := by
      rw [List.length_singleton]
      omega
    have e1 : decide (((popc i : Nat) : Int) = (size : Int)) = decide (popc i = size) := by simp only [Int.natCast_inj]
    have hmm : decide ((mm : Int) = ((2 ^ cols.length - 1 : Nat) : Int)) = decide (Full cols l (ofM cols i)) := by
      rw [Bool.eq_iff_iff, decide_eq_true_eq, decide_eq_true_eq, Int.natCast_inj]
      exact k2
    have hstep : ((List.range (i + 1)).filter (hit cols l found size)) = (List.range i).filter (hit cols l found size) ++ (bif hit cols l found size i then [i] else []) := by
      rw [List.range_succ, List.filter_append]
      cases hq : hit cols l found size i <;> simp [hq]
    refine ⟨_, rfl, fun K => ?_⟩
    rw [hstep, hw]
    simp only [hcf, hpop, bind_some2, e1, k1, hmm, dT hb, decide_true, Bool.and_self, cond_true]
    have hh : hit cols l found size i = (decide (popc i = size) && !(found.any fun a => decide (i &&& a = a)) && decide (Full cols l (ofM cols i))) := rfl
    rw [hh]
    cases decide (popc i = size) <;> cases (found.any fun a => decide (i &&& a = a)) <;> cases decide (Full cols l (ofM cols i)) <;> simp)
  subst h3
  obtain ⟨ys0, g1, g2, g3⟩ := sortO_key (fun a b => Option.bind (keys_order n a b) fun r => some r) (fun z : Int => rev12 z.toNat) (((List.range (2 ^ cols.length)).filter (hit cols l found size)).map fun x : Nat => (x : Int)) (by
    rw [List.length_map]
    have := List.length_filter_le (hit cols l found size) (List.range (2 ^ cols.length))
    rw [List.length_range] at this
    omega) (by
    intro a ha b hb
    obtain ⟨x, hx1, rfl⟩ := List.mem_map.1 ha
    obtain ⟨y, hy1, rfl⟩ := List.mem_map.1 hb
    have h5 := List.mem_range.1 (List.mem_filter.1 hx1).1
    have h6 := List.mem_range.1 (List.mem_filter.1 hy1).1
    obtain ⟨z, z1, z2⟩ := order_ok n (a := x) (b := y) (by omega) (by omega)
    exact ⟨z, by rw [z1]; rfl, by simpa using z2⟩)
  have hcast : ys0 = (ys0.map Int.toNat).map fun x : Nat => (x : Int) := by
    rw [List.map_map]
    symm
    refine (List.map_congr_left fun z hz => ?_).trans (List.map_id _)
    obtain ⟨x, _, rfl⟩ := List.mem_map.1 (g2.mem_iff.1 hz)
    rfl
  have hlen0 := g2.length_eq
  refine ⟨ys0.map Int.toNat, ?_, ?_, ?_⟩
  · have := g2.map Int.toNat
    rw [List.map_map] at this
    have e : (Int.toNat ∘ fun x : Nat => (x : Int)) = id := by funext x; rfl
    rwa [e, List.map_id] at this
  · rw [List.pairwise_map]
    exact g3
  · rw [h4, List.take_length, g1, bind_some2]
    have hov : over (((List.range (2 ^ cols.length)).filter (hit cols l found size)).map fun x : Nat => (x : Int)) ys0 0 = ys0 := by
      unfold over
      rw [List.take_zero, List.nil_append, List.drop_eq_nil_of_le (by omega), List.append_nil]
    have hlb : ys0.length ≤ 4096 := by
      rw [hlen0, List.length_map]
      have := List.length_filter_le (hit cols l found size) (List.range (2 ^ cols.length))
      rw [List.length_range] at this
      omega
    have htk : List.take (((List.range (2 ^ cols.length)).filter (hit cols l found size)).map fun x : Nat => (x : Int)).length ys0 = ys0 := List.take_of_length_le (by omega)
    have hb : (found.map fun x : Nat => (x : Int)).length + ys0.length ≤ 4294967296 := by
      rw [List.length_map]
      omega
    simp only [hov, htk, decide_true, Bool.true_and, dT hb, cond_true]
    rw [List.map_append, ← hcast]

/-! ### All choices -/
def chP : List (List UInt8) → Nat → List (List (List UInt8))
  | _, 0 => [[]]
  | [], _ + 1 => []
  | a :: t, s + 1 => (chP t s).map (a :: ·) ++ chP t (s + 1)
theorem chP_len : ∀ (v : List (List UInt8)) (s : Nat), (chP v s).length ≤ 2 ^ v.length
  | [], 0 => by simp [chP]
  | [], s + 1 => by simp [chP]
  | a :: t, 0 => by simp only [chP, List.length_singleton]; exact Nat.one_le_two_pow
  | a :: t, s + 1 => by
    have h1 := chP_len t s
    have h2 := chP_len t (s + 1)
    simp only [chP, List.length_append, List.length_map, List.length_cons, Nat.pow_succ]
    omega
theorem chP_sub : ∀ (v : List (List UInt8)) (s : Nat) (c : List (List UInt8)), c ∈ chP v s → c.Sublist v ∧ c.length = s
  | [], 0, c, h => by simp [chP] at h; subst h; exact ⟨.slnil, rfl⟩
  | [], s + 1, c, h => by simp [chP] at h
  | a :: t, 0, c, h => by simp [chP] at h; subst h; exact ⟨List.nil_sublist _, rfl⟩
  | a :: t, s + 1, c, h => by
    simp only [chP, List.mem_append, List.mem_map] at h
    rcases h with ⟨c', h1, rfl⟩ | h1
    · obtain ⟨h2, h3⟩ := chP_sub t s c' h1
      exact ⟨.cons_cons a h2, by simp [h3]⟩
    · obtain ⟨h2, h3⟩ := chP_sub t (s + 1) c h1
      exact ⟨.cons a h2, h3⟩
theorem chP_mem {c v : List (List UInt8)} (h : c.Sublist v) : c ∈ chP v c.length := by
  induction h with
  | slnil => simp [chP]
  | @cons l1 l2 a h ih =>
    cases l1 with
    | nil => simp [chP]
    | cons b l1 => exact List.mem_append_right _ ih
  | @cons_cons l1 l2 a h ih => exact List.mem_append_left _ (List.mem_map.2 ⟨l1, ih, rfl⟩)
/-- The first column that only one of two has is the first one's. -/
def Lx (cols c c' : List (List UInt8)) : Prop := ∃ i, ∃ h : i < cols.length, cols[i] ∈ c ∧ cols[i] ∉ c' ∧ ∀ j (hj : j < cols.length), j < i → (cols[j] ∈ c ↔ cols[j] ∈ c')
theorem chP_lx : ∀ (v : List (List UInt8)) (s : Nat), v.Nodup → (chP v s).Pairwise (Lx v)
  | [], 0, _ => by simp [chP]
  | [], s + 1, _ => by simp [chP]
  | a :: t, 0, _ => by simp [chP]
  | a :: t, s + 1, hn => by
    rw [List.nodup_cons] at hn
    have lift : ∀ c c', Lx t c c' → (a ∈ c ↔ a ∈ c') → Lx (a :: t) c c' := by
      rintro c c' ⟨i, hi, h1, h2, h3⟩ ha
      refine ⟨i + 1, by simpa using hi, by simpa using h1, by simpa using h2, fun j hj hji => ?_⟩
      cases j with
      | zero => simpa using ha
      | succ j => simpa using h3 j (by simpa using hj) (by omega)
    have out : ∀ s c, c ∈ chP t s → a ∉ c := fun s c hc h => hn.1 ((chP_sub t s c hc).1.subset h)
    simp only [chP]
    rw [List.pairwise_append]
    refine ⟨?_, ?_, ?_⟩
    · rw [List.pairwise_map]
      refine (chP_lx t s hn.2).imp_of_mem fun {c c'} hc hc' h => lift _ _ ?_ (by simp)
      obtain ⟨i, hi, h1, h2, h3⟩ := h
      have hne : ∀ j (hj : j < t.length), t[j] ≠ a := fun j hj he => hn.1 (he ▸ List.getElem_mem _)
      exact ⟨i, hi, by simp [h1], by simp [h2, hne i hi], fun j hj hji => by simp [hne j hj, h3 j hj hji]⟩
    · exact (chP_lx t (s + 1) hn.2).imp_of_mem fun {c c'} hc hc' h => lift _ _ h ⟨fun h => absurd h (out _ _ hc), fun h => absurd h (out _ _ hc')⟩
    · intro c hc c' hc'
      obtain ⟨c0, h0, rfl⟩ := List.mem_map.1 hc
      exact ⟨0, by simp, by simp, by simpa using out _ _ hc', fun j _ hj => absurd hj (Nat.not_lt_zero _)⟩
theorem sub_filter : ∀ {c v : List (List UInt8)}, c.Sublist v → v.Nodup → (v.filter fun s => c.contains s) = c := by
  intro c v h
  induction h with
  | slnil => intro _; rfl
  | @cons l1 l2 a h ih =>
    intro hn
    rw [List.nodup_cons] at hn
    have : l1.contains a = false := by
      cases hc : l1.contains a with
      | false => rfl
      | true => exact absurd (h.subset (List.contains_iff_mem.1 hc)) hn.1
    rw [List.filter_cons, this]
    exact ih hn.2
  | @cons_cons l1 l2 a h ih =>
    intro hn
    rw [List.nodup_cons] at hn
    have e : (l2.filter fun s => (a :: l1).contains s) = l2.filter fun s => l1.contains s := by
      apply List.filter_congr
      intro s hs
      rw [List.contains_cons]
      have : (s == a) = false := by
        rw [beq_eq_false_iff_ne]
        intro he
        exact hn.1 (he ▸ hs)
      rw [this, Bool.false_or]
    rw [List.filter_cons, e, ih hn.2]
    simp
theorem ofM_mask {cols c : List (List UInt8)} (hn : cols.Nodup) (h : c.Sublist cols) : ofM cols (mask cols c) = c := by
  have hin : inC cols c = true := inC_iff.2 fun s hs => h.subset hs
  have e : ofM cols (mask cols c) = cols.filter fun s => c.contains s := by
    unfold ofM
    congr 1
    funext s
    exact mask_chi hin s
  rw [e, sub_filter h hn]
theorem mask_lt2 {cols c : List (List UInt8)} (h : inC cols c = true) : mask cols c < 2 ^ cols.length := by
  apply Nat.lt_pow_two_of_testBit
  intro i hi
  exact mask_big h hi
theorem lx_rev {cols c c' : List (List UInt8)} (hc : cols.length ≤ 12) (hn : cols.Nodup) (h1 : inC cols c = true) (h2 : inC cols c' = true) (h : Lx cols c c') : rev12 (mask cols c') < rev12 (mask cols c) := by
  obtain ⟨i, hi, k1, k2, k3⟩ := h
  refine rev_lt (mask_ok hc h1) (mask_ok hc h2) (i := i) (by omega) ?_ ?_ fun j hj => ?_
  · rw [mask_bit' hn h2 hi]
    cases hb : c'.contains cols[i] with
    | false => rfl
    | true => exact absurd (List.contains_iff_mem.1 hb) k2
  · rw [mask_bit' hn h1 hi]
    exact List.contains_iff_mem.2 k1
  · rw [mask_bit' hn h1 (by omega), mask_bit' hn h2 (by omega), Bool.eq_iff_iff, List.contains_iff_mem, List.contains_iff_mem]
    exact k3 j (by omega) hj
theorem sorted_eq {key : Nat → Nat} : ∀ {ys zs : List Nat}, ys.Perm zs → (ys.Pairwise fun a b => key b ≤ key a) → (zs.Pairwise fun a b => key b < key a) → ys = zs
  | [], zs, h, _, _ => by rw [List.nil_perm.1 h]
  | y :: ys, [], h, _, _ => absurd h.length_eq (by simp)
  | y :: ys, z :: zs, h, h1, h2 => by
    rw [List.pairwise_cons] at h1 h2
    have hyz : y = z := by
      apply Classical.byContradiction
      intro hne
      have hy : y ∈ zs := by
        rcases List.mem_cons.1 (h.mem_iff.1 (List.mem_cons_self)) with h | h
        · exact absurd h hne
        · exact h
      have hz : z ∈ ys := by
        rcases List.mem_cons.1 (h.mem_iff.2 (List.mem_cons_self)) with h | h
        · exact absurd h.symm hne
        · exact h
      have := h1.1 z hz
      have := h2.1 y hy
      omega
    subst hyz
    rw [sorted_eq (List.Perm.cons_inv h) h1.2 h2.2]
theorem popc_len {cols : List (List UInt8)} (hc : cols.length ≤ 12) (hn : cols.Nodup) {x : Nat} (h : x < 2 ^ cols.length) : (ofM cols x).length = popc x := by
  have e1 : popc x = (List.range cols.length).countP fun i => x.testBit i := by
    unfold popc
    obtain ⟨r, hr⟩ : ∃ r, 12 = cols.length + r := ⟨12 - cols.length, by omega⟩
    rw [hr, List.range_add, List.countP_append, List.countP_map]
    have : List.countP ((fun i => x.testBit i) ∘ fun i => cols.length + i) (List.range r) = 0 := by
      rw [List.countP_eq_zero]
      intro i _
      show ¬ x.testBit (cols.length + i) = true
      rw [high0 h (by omega)]
      simp
    rw [this, Nat.add_zero]
  have e2 : cols = (List.range cols.length).map fun i => cols.getD i [] := by
    apply List.ext_getElem
    · simp
    · intro i h1 h2
      simp only [List.getElem_map, List.getElem_range]
      rw [getD_lt _ h1]
  have e3 : (ofM cols x).length = cols.countP (chi cols x) := (List.countP_eq_length_filter).symm
  rw [e3, e1]
  conv => lhs; arg 2; rw [e2]
  rw [List.countP_map]
  apply List.countP_congr
  intro i hi
  have hi := List.mem_range.1 hi
  show chi cols x (cols.getD i []) = true ↔ _
  rw [getD_lt _ hi]
  unfold chi
  rw [idx_at hn hi, List.contains_iff_mem.2 (List.getElem_mem _), Bool.true_and]

/-! ### The reference's way -/
theorem foldK_app {A B R : Type} {step : Nat → A → List B → (List B → Option R) → Option R} {fin : List B → Option R} (g : A → B) : ∀ (l : List A) (i : Nat) (out : List B), (∀ i a (s : List B) K, a ∈ l → s.length < 100000 → step i a s K = K (s ++ [g a])) → out.length + l.length ≤ 100000 → foldK step fin l i out = fin (out ++ l.map g)
  | [], i, out, _, _ => by rw [foldK_nil]; simp
  | a :: l, i, out, h, ho => by
    simp only [List.length_cons] at ho
    rw [foldK_cons, h i a out _ (by simp) (by omega)]
    show foldK step fin l (i + 1) (out ++ [g a]) = _
    rw [foldK_app g l (i + 1) (out ++ [g a]) (fun i b s K hb hs => h i b s K (by simp [hb]) hs) (by rw [List.length_append, List.length_singleton]; omega), List.append_assoc]
    rfl
theorem choices_ok (n : Nat) (hn : 20000 < n) : ∀ (d s : Nat) (v : List (List UInt8)), s < d → s ≤ 100 → v.length ≤ 12 → ref2_choices d n v (s : Int) = some (chP v s) := by
  intro d
  induction d with
  | zero => intro s v h; omega
  | succ d ihd =>
    intro s v hs hs2 hv
    rw [ref2_choices_eq]
    cases s with
    | zero =>
      rw [dT (show ((0 : Nat) : Int) = 0 from rfl), cond_true]
      cases v <;> rfl
    | succ s =>
      have key : ∀ (m i : Nat) (out : List (List (List UInt8))), i ≤ v.length → v.length - i < m → out.length + (chP (v.drop i) (s + 1)).length ≤ 100000 →
          ref2_choices_l0 (d + 1) n m v ((s + 1 : Nat) : Int) out v (v.length : Int) (i : Int) = some (out ++ chP (v.drop i) (s + 1)) := by
        intro m
        induction m with
        | zero => intro i out _ h; omega
        | succ m ih =>
          intro i out hi hm ho
          rw [ref2_choices_l0_eq, dlt]
          by_cases h : i < v.length
          · have hi12 : i < 12 := Nat.lt_of_lt_of_le h hv
            have hdr := List.drop_eq_getElem_cons h
            have hch : chP (v.drop i) (s + 1) = (chP (v.drop (i + 1)) s).map (v[i] :: ·) ++ chP (v.drop (i + 1)) (s + 1) := by rw [hdr]; rfl
            rw [hch, List.length_append, List.length_map] at ho
            have hr := ihd s (v.drop (i + 1)) (by omega) (by omega) (by rw [List.length_drop]; omega)
            have hlen := chP_len (v.drop (i + 1)) s
            have hp : 2 ^ (v.drop (i + 1)).length ≤ 2 ^ 12 := Nat.pow_le_pow_right (by omega) (by rw [List.length_drop]; omega)
            have hp : 2 ^ (v.drop (i + 1)).length ≤ 4096 := hp
            have hf := ref2_choices_l2_fold d n m v ((s + 1 : Nat) : Int) v[i] v (v.length : Int) (i : Int) (chP (v.drop (i + 1)) s) out (by omega) n 0 (Nat.zero_le _) (by omega)
            rw [show ((0 : Nat) : Int) = 0 from rfl, List.drop_zero] at hf
            rw [foldK_app (fun a => [v[i]] ++ a) _ 0 out (fun i' a s' K ha hs' => by
              have h1 : a.length ≤ 12 := by
                have := (chP_sub _ _ _ ha).1.length_le
                rw [List.length_drop] at this
                omega
              rw [dT (show ([v[i]] : List (List UInt8)).length + a.length ≤ 4294967296 by rw [List.length_singleton]; omega), cond_true, dT (rfl : s'.length = s'.length), Bool.true_and, dT (show s'.length + ([([v[i]] ++ a)] : List (List (List UInt8))).length ≤ 4294967296 by rw [List.length_singleton]; omega), cond_true]) (by omega)] at hf
            simp only [dT h, d0, dle, dlt, i64_succ (show i < 9223372036854775807 by omega), i64_pred (show s < 9223372036854775807 by omega), dT (show i + 1 ≤ v.length by omega), Bool.and_self, cond_true, Int.toNat_natCast, getD_lt _ h]
            rw [hr, bind_some2, hf, i64_succ (by omega), ih (i + 1) _ (by omega) (by omega) (by rw [List.length_append, List.length_map]; omega), hch, List.append_assoc]
            rfl
          · have hz : chP (v.drop i) (s + 1) = [] := by rw [List.drop_eq_nil_of_le (by omega)]; rfl
            rw [dF h, cond_false, hz, List.append_nil]
      have hne : ¬ ((s + 1 : Nat) : Int) = 0 := by omega
      have hlen := chP_len v (s + 1)
      have hp : 2 ^ v.length ≤ 2 ^ 12 := Nat.pow_le_pow_right (by omega) hv
      have hp : 2 ^ v.length ≤ 4096 := hp
      have := key n 0 [] (Nat.zero_le _) (by omega) (by rw [List.drop_zero, List.length_nil]; omega)
      rw [show ((0 : Nat) : Int) = 0 from rfl, List.drop_zero, List.nil_append] at this
      rw [dF hne, cond_false]
      exact this
def inside (out : List (List (List UInt8))) (c : List (List UInt8)) : Bool := out.any fun k => k.all fun a => c.contains a
def fullB (l : List Dep) (cols c : List (List UInt8)) : Bool := decide ((reached l c).length = cols.length)
def outR (l : List Dep) (cols : List (List UInt8)) : List (List (List UInt8)) → List (List (List UInt8)) → List (List (List UInt8))
  | out, [] => out
  | out, c :: cs => outR l cols (bif !inside out c && fullB l cols c then out ++ [c] else out) cs
theorem lk6 (n m0 m1 m2 : Nat) (v0 : List (List UInt8)) (v1 : List Dep) (v5 : List (List (List UInt8))) (v6 : Int) (c : List (List UInt8)) (v9 : Bool) (v23 : List (List (List UInt8))) (v24 v25 : Int) (v29 : List (List (List UInt8))) (v30 v31 : Int) (k : List (List UInt8)) (hk : k.length < 1000) (hc : c.length < 1000) (hn : 3000 < n) :
    ref2_LeastKeys_l6 n m0 m1 m2 n v0 v1 v5 v6 c v9 true v23 v24 v25 v29 v30 v31 k (k.length : Int) 0 = ref2_LeastKeys_l4 n m0 m1 m2 v0 v1 v5 v6 c (v9 || k.all fun a => c.contains a) v23 v24 v25 v29 v30 (IntKind.wrap .i64 (v31 + 1)) := by
  have hf := ref2_LeastKeys_l6_fold n m0 m1 m2 v0 v1 v5 v6 c v9 v23 v24 v25 v29 v30 v31 k true (by omega) n 0 (Nat.zero_le _) (by omega)
  rw [show ((0 : Nat) : Int) = 0 from rfl, List.drop_zero, foldK_all (fun b a => b && c.contains a) k 0 true (fun i a s K _ => by
    cases s with
    | false => rfl
    | true => rw [cond_true, contains_ok n c a (by omega) (by omega), bind_some2, Bool.true_and])] at hf
  have e : ∀ (l : List (List UInt8)) (b : Bool), l.foldl (fun b a => b && c.contains a) b = (b && l.all fun a => c.contains a) := by
    intro l
    induction l with
    | nil => intro b; simp
    | cons a l ih => intro b; rw [List.foldl_cons, ih, List.all_cons, Bool.and_assoc]
  rw [hf, e, Bool.true_and]
  cases v9 <;> rfl
theorem lk4 (n m0 m1 : Nat) (v0 : List (List UInt8)) (v1 : List Dep) (v5 : List (List (List UInt8))) (v6 : Int) (c : List (List UInt8)) (v23 : List (List (List UInt8))) (v24 v25 : Int) (w : List (List (List UInt8))) (hw : ∀ k ∈ w, k.length ≤ 12) (hc : c.length ≤ 12) (hn : 3000 < n) (h1 : v1.length ≤ 20) (hs : ∀ d ∈ v1, d.From.length + d.To.length < n ∧ d.From.length + d.To.length ≤ 4294967296) (h5 : v5.length ≤ 100000) :
    ∀ (m j : Nat) (less : Bool), j ≤ w.length → w.length - j < m → w.length < 9223372036854775807 →
      ref2_LeastKeys_l4 n m0 m1 m v0 v1 v5 v6 c less v23 v24 v25 w (w.length : Int) (j : Int) = ref2_LeastKeys_l2 n m0 m1 v0 v1 (bif !(less || inside (w.drop j) c) && fullB v1 v0 c then v5 ++ [c] else v5) v6 v23 v24 (IntKind.wrap .i64 (v25 + 1)) := by
  intro m
  induction m with
  | zero => intro j less _ h; omega
  | succ m ih =>
    intro j less hj hm hl
    rw [ref2_LeastKeys_l4_eq, dlt]
    by_cases h : j < w.length
    · have hk := hw w[j] (List.getElem_mem _)
      simp only [dT h, d0, dlt, Bool.and_self, cond_true, Int.toNat_natCast, getD_lt _ h]
      rw [lk6 n m0 m1 m v0 v1 v5 v6 c less v23 v24 v25 w _ _ w[j] (by omega) (by omega) hn, i64_succ (by omega), ih (j + 1) _ (by omega) (by omega) hl, List.drop_eq_getElem_cons h]
      have e : inside (w[j] :: w.drop (j + 1)) c = ((w[j].all fun a => c.contains a) || inside (w.drop (j + 1)) c) := by unfold inside; rw [List.any_cons]
      rw [e, Bool.or_assoc]
    · have e : inside (w.drop j) c = false := by rw [List.drop_eq_nil_of_le (by omega)]; rfl
      rw [dF h, cond_false, e, Bool.or_false]
      cases less with
      | true => rfl
      | false =>
        have hb : v5.length + ([c] : List (List (List UInt8))).length ≤ 4294967296 := by rw [List.length_singleton]; omega
        simp only [Bool.not_false, cond_true, Bool.true_and]
        rw [reached_ok n v1 c (by omega) hn ⟨by omega, by omega⟩ (fun d hd => by have := hs d hd; exact ⟨⟨by omega, by omega⟩, by omega, by omega⟩), bind_some2]
        have e2 : decide (((reached v1 c).length : Int) = (v0.length : Int)) = fullB v1 v0 c := by unfold fullB; simp only [Int.natCast_inj]
        rw [e2]
        cases fullB v1 v0 c with
        | false => rfl
        | true => simp only [cond_true, decide_true, Bool.true_and, dT hb]
theorem lk2 (n m0 : Nat) (v0 : List (List UInt8)) (v1 : List Dep) (v6 : Int) (cs : List (List (List UInt8))) (hcs : ∀ k ∈ cs, k.length ≤ 12) (hcl : cs.length ≤ 100000) (hn : 300000 < n) (h1 : v1.length ≤ 20) (hs : ∀ d ∈ v1, d.From.length + d.To.length < n ∧ d.From.length + d.To.length ≤ 4294967296) :
    ∀ (m j : Nat) (out : List (List (List UInt8))), j ≤ cs.length → cs.length - j < m → out.length + (cs.length - j) ≤ 100000 → (∀ k ∈ out, k.length ≤ 12) →
      ref2_LeastKeys_l2 n m0 m v0 v1 out v6 cs (cs.length : Int) (j : Int) = ref2_LeastKeys_l0 n m0 v0 v1 (outR v1 v0 out (cs.drop j)) (IntKind.wrap .i64 (v6 + 1)) := by
  intro m
  induction m with
  | zero => intro j out _ h; omega
  | succ m ih =>
    intro j out hj hm ho hk
    rw [ref2_LeastKeys_l2_eq, dlt]
    by_cases h : j < cs.length
    · have hc := hcs cs[j] (List.getElem_mem _)
      have h4 := lk4 n m0 m v0 v1 out v6 cs[j] cs (cs.length : Int) (j : Int) out hk hc (by omega) h1 hs (by omega) n 0 false (Nat.zero_le _) (by omega) (by omega)
      rw [show ((0 : Nat) : Int) = 0 from rfl, List.drop_zero, Bool.false_or] at h4
      simp only [dT h, d0, dlt, Bool.and_self, cond_true, Int.toNat_natCast, getD_lt _ h]
      rw [h4, i64_succ (by omega), ih (j + 1) _ (by omega) (by omega) ?_ ?_, List.drop_eq_getElem_cons h]
      · rfl
      · cases (!inside out cs[j] && fullB v1 v0 cs[j]) with
        | false => simp only [cond_false]; omega
        | true => simp only [cond_true, List.length_append, List.length_singleton]; omega
      · cases (!inside out cs[j] && fullB v1 v0 cs[j]) with
        | false => exact hk
        | true =>
          intro k hk'
          rcases List.mem_append.1 hk' with h | h
          · exact hk k h
          · rw [List.mem_singleton] at h; rw [h]; exact hc
    · have e : cs.drop j = [] := List.drop_eq_nil_of_le (by omega)
      rw [dF h, cond_false, e]
      rfl

/-! ### Both ways find the same -/
theorem smset_keys (x : List UInt8) (y : Bool) : ∀ w : List (List UInt8 × Bool), (smset x y w).map (·.1) = if x ∈ w.map (·.1) then w.map (·.1) else w.map (·.1) ++ [x]
  | [] => rfl
  | p :: r => by
    have ih := smset_keys x y r
    by_cases h : x = p.1
    · subst h
      simp [smset]
    · have : (x == p.1) = false := by simpa using h
      simp only [smset, this, cond_false, List.map_cons, List.mem_cons, h, false_or, ih]
      split <;> simp
theorem smset_vals (x : List UInt8) : ∀ w : List (List UInt8 × Bool), (∀ p ∈ w, p.2 = true) → ∀ p ∈ smset x true w, p.2 = true
  | [], _, p, hp => by simp [smset] at hp; rw [hp]
  | q :: r, h, p, hp => by
    cases hq : x == q.1 with
    | true =>
      simp only [smset, hq, cond_true, List.mem_cons] at hp
      rcases hp with rfl | hp
      · rfl
      · exact h p (by simp [hp])
    | false =>
      simp only [smset, hq, cond_false, List.mem_cons] at hp
      rcases hp with rfl | hp
      · exact h p (by simp)
      · exact smset_vals x r (fun p hp => h p (by simp [hp])) p hp
structure KI (w : List (List UInt8 × Bool)) : Prop where
  nd : (w.map (·.1)).Nodup
  tr : ∀ p ∈ w, p.2 = true
theorem KI.set {w : List (List UInt8 × Bool)} (h : KI w) (x : List UInt8) : KI (smset x true w) := by
  refine ⟨?_, smset_vals x w h.tr⟩
  rw [smset_keys]
  split
  · exact h.nd
  · rename_i hx
    rw [List.nodup_append]
    refine ⟨h.nd, by simp, fun a ha b hb hab => ?_⟩
    rw [List.mem_singleton] at hb
    subst hb hab
    exact hx ha
theorem KI.sets {w : List (List UInt8 × Bool)} (h : KI w) : ∀ l : List (List UInt8), KI (l.foldl (fun w a => smset a true w) w) := by
  intro l
  induction l generalizing w with
  | nil => exact h
  | cons a l ih => exact ih (h.set a)
theorem KI.pass {w : List (List UInt8 × Bool)} (h : KI w) : ∀ l : List Dep, KI (passW l w) := by
  intro l
  induction l generalizing w with
  | nil => exact h
  | cons d l ih =>
    refine ih (w := stepW w d) ?_
    unfold stepW
    cases d.From.all (has w) with
    | false => exact h
    | true => exact h.sets _
theorem KI.reached (l : List Dep) (c : List (List UInt8)) : KI (reached l c) := by
  have h0 : KI (c.foldl (fun w a => smset a true w) []) := KI.sets (w := []) ⟨by simp, by simp⟩ c
  have : ∀ (k : Nat) (w : List (List UInt8 × Bool)), KI w → KI (iter (passW l) k w) := by
    intro k
    induction k with
    | zero => exact fun w h => h
    | succ k ih => exact fun w h => ih _ (h.pass l)
  exact this _ _ h0
theorem has_keys (s : List UInt8) : ∀ w : List (List UInt8 × Bool), (∀ p ∈ w, p.2 = true) → (has w s = true ↔ s ∈ w.map (·.1))
  | [], _ => by simp [has, smget]
  | p :: r, h => by
    have ih := has_keys s r fun p hp => h p (by simp [hp])
    have hp := h p (by simp)
    unfold has smget at ih ⊢
    cases hq : s == p.1 with
    | true =>
      have hq2 := beq_iff_eq.1 hq
      rw [List.find?_cons, hq]
      simp [hp, hq2]
    | false =>
      have hq2 : ¬ s = p.1 := by simpa using hq
      rw [List.find?_cons, hq]
      simp only [List.map_cons, List.mem_cons, hq2, false_or]
      exact ih
theorem nodup_le : ∀ {a b : List (List UInt8)}, a.Nodup → (∀ s ∈ a, s ∈ b) → a.length ≤ b.length
  | [], b, _, _ => Nat.zero_le _
  | x :: t, b, hn, h => by
    rw [List.nodup_cons] at hn
    have hx := h x (by simp)
    have := nodup_le (b := b.erase x) hn.2 fun s hs => (List.mem_erase_of_ne (fun he => hn.1 (by rw [← he]; exact hs))).2 (h s (by simp [hs]))
    rw [List.length_erase_of_mem hx] at this
    have := List.length_pos_of_mem hx
    simp only [List.length_cons]
    omega
theorem full_ok {cols : List (List UInt8)} {l : List Dep} (ok : Ok cols l) {c : List (List UInt8)} (hc : inC cols c = true) : fullB l cols c = true ↔ Full cols l c := by
  have ki := KI.reached l c
  have hrel : Rel cols (iter (passC cols l) (l.length + 1) (mask cols c)) (reached l c) := rel_iter ok.d (rel_start hc)
  have hsub : ∀ s ∈ (reached l c).map (·.1), s ∈ cols := fun s hs => by
    have := (has_keys s _ ki.tr).2 hs
    rw [← hrel s] at this
    unfold chi at this
    rw [Bool.and_eq_true] at this
    exact List.contains_iff_mem.1 this.1
  have hle := nodup_le ki.nd hsub
  rw [List.length_map] at hle
  unfold fullB
  rw [decide_eq_true_eq]
  constructor
  · intro he s hs
    rw [← reached_fol ok.d hc, has_keys s _ ki.tr]
    apply Classical.byContradiction
    intro hn
    have := nodup_le (a := s :: (reached l c).map (·.1)) (List.nodup_cons.2 ⟨hn, ki.nd⟩) fun x hx => by
      rcases List.mem_cons.1 hx with rfl | hx
      · exact hs
      · exact hsub x hx
    rw [List.length_cons, List.length_map] at this
    omega
  · intro hf
    have := nodup_le ok.nd fun s hs => (has_keys s _ ki.tr).1 ((reached_fol ok.d hc s).2 (hf s hs))
    rw [List.length_map] at this
    omega
theorem outR_filter (l : List Dep) (cols : List (List UInt8)) (out : List (List (List UInt8))) : ∀ (cs A : List (List (List UInt8))), (∀ a ∈ A, ∀ c ∈ cs, (a.all fun s => c.contains s) = false) → (cs.Pairwise fun a b => (a.all fun s => b.contains s) = false) →
    outR l cols (out ++ A) cs = out ++ A ++ cs.filter fun c => !inside out c && fullB l cols c
  | [], A, _, _ => by simp [outR]
  | c :: cs, A, hA, hp => by
    rw [List.pairwise_cons] at hp
    have e : inside (out ++ A) c = inside out c := by
      unfold inside
      rw [List.any_append]
      have : (A.any fun k => k.all fun a => c.contains a) = false := by
        rw [List.any_eq_false]
        intro a ha
        rw [hA a ha c (by simp)]
        simp
      rw [this, Bool.or_false]
    unfold outR
    rw [e, List.filter_cons]
    cases (!inside out c && fullB l cols c) with
    | false => exact outR_filter l cols out cs A (fun a ha c hc => hA a ha c (by simp [hc])) hp.2
    | true =>
      simp only [cond_true, if_true]
      rw [List.append_assoc, outR_filter l cols out cs (A ++ [c]) (fun a ha c' hc => by
        rcases List.mem_append.1 ha with ha | ha
        · exact hA a ha c' (by simp [hc])
        · rw [List.mem_singleton] at ha
          rw [ha]
          exact hp.1 c' hc) hp.2]
      simp
theorem contains_ofM (cols : List (List UInt8)) (x : Nat) (s : List UInt8) : (ofM cols x).contains s = chi cols x s := by
  rw [Bool.eq_iff_iff, List.contains_iff_mem]
  unfold ofM
  rw [List.mem_filter]
  refine ⟨fun h => h.2, fun h => ⟨?_, h⟩⟩
  unfold chi at h
  rw [Bool.and_eq_true] at h
  exact List.contains_iff_mem.1 h.1
theorem inside_any {cols : List (List UInt8)} (hn : cols.Nodup) (F : List Nat) (hF : ∀ f ∈ F, f < 2 ^ cols.length) (x : Nat) : inside (F.map (ofM cols)) (ofM cols x) = F.any fun f => decide (x &&& f = f) := by
  unfold inside
  rw [List.any_map, Bool.eq_iff_iff, List.any_eq_true, List.any_eq_true]
  have key : ∀ f ∈ F, ((fun k : List (List UInt8) => k.all fun a => (ofM cols x).contains a) ∘ ofM cols) f = decide (x &&& f = f) := by
    intro f hf
    show ((ofM cols f).all fun a => (ofM cols x).contains a) = _
    have e : (fun a => (ofM cols x).contains a) = chi cols x := by funext a; exact contains_ofM cols x a
    rw [e, Bool.eq_iff_iff, decide_eq_true_eq, and_eq_iff, ← sub_iff (ofM_in cols f), mask_ofM hn (hF f hf)]
  exact ⟨fun ⟨f, h1, h2⟩ => ⟨f, h1, by rw [← key f h1]; exact h2⟩, fun ⟨f, h1, h2⟩ => ⟨f, h1, by rw [key f h1]; exact h2⟩⟩
theorem same_round {cols : List (List UInt8)} {l : List Dep} (ok : Ok cols l) (F : List Nat) (hF : ∀ f ∈ F, f < 2 ^ cols.length) (s : Nat) (ys : List Nat) (hp : ys.Perm ((List.range (2 ^ cols.length)).filter (hit cols l F s))) (hs : ys.Pairwise fun a b => rev12 b ≤ rev12 a) :
    outR l cols (F.map (ofM cols)) (chP cols s) = (F ++ ys).map (ofM cols) := by
  have hlx := chP_lx cols s ok.nd
  have hin : ∀ c ∈ chP cols s, inC cols c = true := fun c hc => inC_iff.2 fun x hx => (chP_sub cols s c hc).1.subset hx
  have h1 := outR_filter l cols (F.map (ofM cols)) (chP cols s) [] (by simp) (hlx.imp fun {a b} ⟨i, hi, k1, k2, _⟩ => by
    rw [List.all_eq_false]
    refine ⟨cols[i], k1, fun h => k2 (List.contains_iff_mem.1 h)⟩)
  rw [List.append_nil] at h1
  rw [h1, List.map_append]
  congr 1
  generalize hcond : (fun c => !inside (F.map (ofM cols)) c && fullB l cols c) = cond
  have hZs : (((chP cols s).filter cond).map (mask cols)).Pairwise fun a b => rev12 b < rev12 a := by
    rw [List.pairwise_map]
    refine (hlx.filter cond).imp_of_mem fun {a b} ha hb h => ?_
    exact lx_rev ok.c ok.nd (hin a (List.mem_filter.1 ha).1) (hin b (List.mem_filter.1 hb).1) h
  have hZn : (((chP cols s).filter cond).map (mask cols)).Nodup := hZs.imp fun {a b} h he => by rw [he] at h; exact Nat.lt_irrefl _ h
  have hmem : ∀ x, x ∈ (List.range (2 ^ cols.length)).filter (hit cols l F s) ↔ x ∈ ((chP cols s).filter cond).map (mask cols) := by
    intro x
    rw [List.mem_filter, List.mem_range, List.mem_map]
    have hcd : ∀ x, x < 2 ^ cols.length → cond (ofM cols x) = (!(F.any fun f => decide (x &&& f = f)) && fullB l cols (ofM cols x)) := fun x hx => by
      rw [← hcond]
      show (!inside (F.map (ofM cols)) (ofM cols x) && fullB l cols (ofM cols x)) = _
      rw [inside_any ok.nd F hF x]
    have hfl : ∀ x, (fullB l cols (ofM cols x) = true ↔ Full cols l (ofM cols x)) := fun x => full_ok ok (ofM_in cols x)
    constructor
    · rintro ⟨hx, hh⟩
      unfold hit at hh
      simp only [Bool.and_eq_true, decide_eq_true_eq] at hh
      refine ⟨ofM cols x, List.mem_filter.2 ⟨?_, ?_⟩, mask_ofM ok.nd hx⟩
      · have := chP_mem (c := ofM cols x) (v := cols) List.filter_sublist
        rwa [popc_len ok.c ok.nd hx, hh.1.1] at this
      · rw [hcd x hx, Bool.and_eq_true]
        exact ⟨hh.1.2, (hfl x).2 hh.2⟩
    · rintro ⟨c, hc, rfl⟩
      obtain ⟨hc1, hc2⟩ := List.mem_filter.1 hc
      obtain ⟨q1, q2⟩ := chP_sub cols s c hc1
      have hx := mask_lt2 (hin c hc1)
      have hom := ofM_mask ok.nd q1
      refine ⟨hx, ?_⟩
      have h3 := hcd (mask cols c) hx
      rw [hom, hc2] at h3
      have h3 := h3.symm
      rw [Bool.and_eq_true] at h3
      unfold hit
      simp only [Bool.and_eq_true, decide_eq_true_eq]
      refine ⟨⟨?_, h3.1⟩, ?_⟩
      · rw [← popc_len ok.c ok.nd hx, hom, q2]
      · have := (hfl (mask cols c)).1 (by rw [hom]; exact h3.2)
        exact this
  have hperm : ys.Perm (((chP cols s).filter cond).map (mask cols)) := hp.trans ((List.perm_ext_iff_of_nodup (List.nodup_range.filter _) hZn).2 hmem)
  rw [sorted_eq hperm hs hZs, List.map_map]
  symm
  refine (List.map_congr_left fun c hc => ?_).trans (List.map_id _)
  exact ofM_mask ok.nd (chP_sub cols s c (List.mem_filter.1 hc).1).1

/-! ### The law -/
theorem foldK_still {A R : Type} {step : Nat → A → Unit → (Unit → Option R) → Option R} {fin : Unit → Option R} (v : List A) (h : ∀ i (hi : i < v.length) K, step i v[i] () K = K ()) : ∀ (c i : Nat), c + i = v.length → foldK step fin (v.drop i) i () = fin ()
  | 0, i, hc => by rw [List.drop_eq_nil_of_le (by omega)]; rfl
  | c + 1, i, hc => by rw [List.drop_eq_getElem_cons (show i < v.length by omega), foldK_cons, h i (by omega)]; exact foldK_still v h c (i + 1) (by omega)
theorem both_loop {cols : List (List UInt8)} {l : List Dep} (ok : Ok cols l) (n : Nat) (hn : 1000000 < n) (hs : ∀ d ∈ l, d.From.length + d.To.length < n ∧ d.From.length + d.To.length ≤ 4294967296) :
    ∀ (c s : Nat) (F : List Nat), c + s = cols.length + 1 → (∀ f ∈ F, f < 2 ^ cols.length) → F.length ≤ 5000 * s → ∀ m1 m2, c < m1 → c < m2 →
      ∃ G : List Nat, (∀ g ∈ G, g < 2 ^ cols.length) ∧ G.length ≤ 70000 ∧
        keys_Keys_l0 n m1 cols (l.map (toD cols)) ((2 ^ cols.length - 1 : Nat) : Int) (F.map fun x : Nat => (x : Int)) ((cols.length + 1 : Nat) : Int) (s : Int) = keys_Keys_l4 n n cols [] (G.map fun x : Nat => (x : Int)) ((G.map fun x : Nat => (x : Int)).length : Int) 0 ∧
        ref2_LeastKeys_l0 n m2 cols l (F.map (ofM cols)) (s : Int) = some (G.map (ofM cols)) := by
  have hc := ok.c
  have hln := ok.ln
  intro c
  induction c with
  | zero =>
    intro s F hcs hF hFl m1 m2 h1 h2
    obtain ⟨m1, rfl⟩ : ∃ m, m1 = m + 1 := ⟨m1 - 1, by omega⟩
    obtain ⟨m2, rfl⟩ : ∃ m, m2 = m + 1 := ⟨m2 - 1, by omega⟩
    refine ⟨F, hF, by omega, ?_, ?_⟩
    · rw [keys_Keys_l0_eq, dlt, dF (by omega), cond_false]
    · rw [ref2_LeastKeys_l0_eq, dle, dF (by omega), cond_false]
  | succ c ih =>
    intro s F hcs hF hFl m1 m2 h1 h2
    obtain ⟨m1, rfl⟩ : ∃ m, m1 = m + 1 := ⟨m1 - 1, by omega⟩
    obtain ⟨m2, rfl⟩ : ∃ m, m2 = m + 1 := ⟨m2 - 1, by omega⟩
    have hp2 : 2 ^ cols.length ≤ 2 ^ 12 := Nat.pow_le_pow_right (by omega) hc
    have hp2 : 2 ^ cols.length ≤ 4096 := hp2
    have hp1 : 0 < 2 ^ cols.length := Nat.two_pow_pos _
    obtain ⟨ys, g1, g2, g3⟩ := round_ok ok n m1 (by omega) F (fun x hx => Nat.lt_of_lt_of_le (hF x hx) hp2) (by omega) s ((cols.length + 1 : Nat) : Int) (by omega)
    have hysl : ys.length ≤ 4096 := by
      rw [g1.length_eq]
      have := List.length_filter_le (hit cols l F s) (List.range (2 ^ cols.length))
      rw [List.length_range] at this
      omega
    have hys : ∀ y ∈ ys, y < 2 ^ cols.length := fun y hy => List.mem_range.1 (List.mem_filter.1 (g1.mem_iff.1 hy)).1
    obtain ⟨G, k1, k2, k3, k4⟩ := ih (s + 1) (F ++ ys) (by omega) (fun f hf => (List.mem_append.1 hf).elim (hF f) (hys f)) (by rw [List.length_append]; omega) m1 m2 (by omega) (by omega)
    refine ⟨G, k1, k2, ?_, ?_⟩
    · have hw : IntKind.wrap .i64 (((2 ^ cols.length - 1 : Nat) : Int) + 1) = ((2 ^ cols.length : Nat) : Int) := by
        rw [i64_succ (by omega), Nat.sub_add_cancel hp1]
      rw [keys_Keys_l0_eq, dlt, dT (by omega), cond_true, hw, g3, i64_succ (by omega)]
      exact k3
    · have hlen := chP_len cols s
      have h2' := lk2 n m2 cols l (s : Int) (chP cols s) (fun k hk => Nat.le_trans (chP_sub cols s k hk).1.length_le hc) (by omega) (by omega) hln hs n 0 (F.map (ofM cols)) (Nat.zero_le _) (by omega) (by rw [List.length_map]; omega) (fun k hk => by
        obtain ⟨f, _, rfl⟩ := List.mem_map.1 hk
        exact Nat.le_trans (List.length_filter_le _ _) hc)
      rw [show ((0 : Nat) : Int) = 0 from rfl, List.drop_zero] at h2'
      rw [ref2_LeastKeys_l0_eq, dle, dT (by omega), cond_true, choices_ok n (by omega) n s cols (by omega) (by omega) hc, bind_some2, h2', i64_succ (by omega), same_round ok F hF s ys g1 g2]
      exact k4
theorem keys_ok {cols : List (List UInt8)} {l : List Dep} (n : Nat) (hn : 1000000 < n) (h : Sm n cols l) :
    if depErr n cols l = 0 then ∃ X, keys_Keys n cols l = some (X, 0) ∧ ref2_LeastKeys n cols l = some X ∧ X.length ≤ 70000 ∧ ∀ x ∈ X, x.length ≤ 12
    else keys_Keys n cols l = some ([], depErr n cols l) := by
  split
  · rename_i h0
    have ok := ok_of h0
    have hc := ok.c
    have hk := read_ok n cols l h
    rw [h0, dT rfl, cond_true] at hk
    have hp2 : 2 ^ cols.length ≤ 2 ^ 12 := Nat.pow_le_pow_right (by omega) hc
    have hp2 : 2 ^ cols.length ≤ 4096 := hp2
    have hp1 : 0 < 2 ^ cols.length := Nat.two_pow_pos _
    obtain ⟨G, k1, k2, k3, k4⟩ := both_loop ok n hn h.f (cols.length + 1) 0 [] (by omega) (by simp) (by simp) n n (by omega) (by omega)
    have hf := keys_Keys_l4_fold n cols (G.map fun x : Nat => (x : Int)) [] (by rw [List.length_map]; omega) n 0 (Nat.zero_le _) (by rw [List.length_map]; omega)
    rw [show ((0 : Nat) : Int) = 0 from rfl, List.drop_zero, foldK_app (fun a : Int => ofM cols a.toNat) _ 0 [] (fun i a s K ha hsl => by
      obtain ⟨x, hx, rfl⟩ := List.mem_map.1 ha
      have := k1 x hx
      rw [list_ok n hc ok.nd (show x < 4096 by omega) (by omega), bind_some2, dT (rfl : s.length = s.length), Bool.true_and, dT (by rw [List.length_singleton]; omega), cond_true]
      rfl) (by rw [List.length_map, List.length_nil]; omega)] at hf
    have hG : (G.map fun x : Nat => (x : Int)).map (fun a : Int => ofM cols a.toNat) = G.map (ofM cols) := by
      rw [List.map_map]
      rfl
    rw [hG, List.nil_append] at hf
    refine ⟨G.map (ofM cols), ?_, ?_, by rw [List.length_map]; exact k2, fun x hx => ?_⟩
    · rw [keys_Keys_eq, hk, bind_some2]
      have hsh : IntKind.wrap .i64 (shl .i64 (1 : Int) (cols.length : Int) - 1) = ((2 ^ cols.length - 1 : Nat) : Int) := by
        rw [shl_nat (by omega), show ((2 ^ cols.length : Nat) : Int) = ((2 ^ cols.length - 1 + 1 : Nat) : Int) by rw [Nat.sub_add_cancel hp1], i64_pred (by omega)]
      rw [hsh, d0, i64_succ (by omega)]
      show keys_Keys_l0 n n cols (l.map (toD cols)) _ [] _ 0 = _
      exact k3.trans hf
    · rw [ref2_LeastKeys_eq]
      exact k4
    · obtain ⟨g, _, rfl⟩ := List.mem_map.1 hx
      exact Nat.le_trans (List.length_filter_le _ _) hc
  · rename_i h0
    have hk := read_ok n cols l h
    rw [dF h0, cond_false] at hk
    rw [keys_Keys_eq, hk, bind_some2]
    simp only [dF h0, Bool.not_false, cond_true]
theorem rows_ok (n : Nat) (hn : 1000000 < n) (X : List (List (List UInt8))) (hl : X.length ≤ 70000) (hx : ∀ x ∈ X, x.length ≤ 12) : law2_sameRows n X X = some true := by
  have hf := slices_EqualFunc_l0_fold n X X (by omega) n 0 (Nat.zero_le _) (by omega)
  rw [show ((0 : Nat) : Int) = 0 from rfl] at hf
  rw [law2_sameRows_eq, slices_EqualFunc_eq, dT rfl, Bool.not_true, cond_false, hf, foldK_still X (fun i hi K => by
    have := hx X[i] (List.getElem_mem _)
    rw [d0, dlt, dT hi, Int.toNat_natCast, getD_lt _ hi, law2_sameRows_1_eq, equal_ok n X[i] X[i] (by omega) (by omega), bind_some2, bind_some2, dT rfl]
    rfl) X.length 0 rfl]
  rfl
theorem law_ok (x0 : List (List UInt8)) (x1 : List Dep) (h0 : ∀ g, Fv.Good E g (.sl .str) x0) (h1 : ∀ g, Fv.Good E g (.sl (.nm 0)) x1) (hb : ∀ g, Bulk E g (.sl .str) x0 + Bulk E g (.sl (.nm 0)) x1 ≤ 1048576) : ∃ n, law2_KeysLeast n x0 x1 = some true := by
  have hbk := hb 1
  have bs : ∀ l : List (List UInt8), Bulk E 1 (.sl .str) l = (l.map fun s => s.length + 1).sum + 1 := fun l => rfl
  have bd : Bulk E 1 (.sl (.nm 0)) x1 = (x1.map fun d : Dep => ((d.From.map fun s => s.length + 1).sum + 1) + ((d.To.map fun s => s.length + 1).sum + 1)).sum + 1 := rfl
  have sl : ∀ l : List (List UInt8), l.length ≤ (l.map fun s => s.length + 1).sum := fun l => sum_gm _ l fun s _ => by omega
  rw [bs, bd] at hbk
  have c0 : ∀ s ∈ x0, s.length ≤ 1048576 := by
    intro s hs
    have : s.length + 1 ≤ (x0.map fun s => s.length + 1).sum := mem_sum (List.mem_map.2 ⟨s, hs, rfl⟩)
    omega
  have c1 : ∀ d ∈ x1, d.From.length + d.To.length ≤ 1048576 := by
    intro d hd
    have h : ((d.From.map fun s => s.length + 1).sum + 1) + ((d.To.map fun s => s.length + 1).sum + 1) ≤ (x1.map fun d : Dep => ((d.From.map fun s => s.length + 1).sum + 1) + ((d.To.map fun s => s.length + 1).sum + 1)).sum := mem_sum (List.mem_map.2 ⟨d, hd, rfl⟩)
    have := sl d.From
    have := sl d.To
    omega
  obtain ⟨n, hn⟩ : ∃ n : Nat, 10000000 < n := ⟨_, Nat.lt_succ_self _⟩
  refine ⟨n, ?_⟩
  have S1 : Sm n x0 x1 := ⟨by omega, fun s hs => by have := c0 s hs; omega, fun d hd => by have := c1 d hd; omega⟩
  have hk := keys_ok n (by omega) S1
  rw [law2_KeysLeast_eq, depsErr_ok n x0 x1 S1, deps_ok n (by omega)]
  split at hk
  · rename_i he
    obtain ⟨X, k1, k2, k3, k4⟩ := hk
    rw [k1, he, k2]
    simp only [bind_some2, decide_true, Bool.not_true, cond_false, cond_true]
    rw [rows_ok n (by omega) X k3 k4]
    rfl
  · rename_i he
    rw [hk]
    simp only [bind_some2, dF he, Bool.not_false, cond_true, decide_true]
    rfl
end Go.Proofs.Ytpceknfciilahaa.PKeysLeast
