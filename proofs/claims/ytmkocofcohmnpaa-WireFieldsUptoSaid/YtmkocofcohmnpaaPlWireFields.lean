/- The plain law WireFields. No condition. -/
import Derived.Test.YtmkocofcohmnpaaFnWireFields
-- UPTO
set_option linter.unusedVariables false
set_option linter.unusedSimpArgs false
namespace Go.Proofs.Ytmkocofcohmnpaa.PWireFields
open Go Go.Proofs Go.Proofs.Ytmkocofcohmnpaa.Fv

theorem wu8 (x : Int) : IntKind.wrap .u8 x = x % 256 := by unfold IntKind.wrap; simp [IntKind.signed, IntKind.bits]
theorem wu64 (x : Int) : IntKind.wrap .u64 x = x % 18446744073709551616 := by unfold IntKind.wrap; simp [IntKind.signed, IntKind.bits]
theorem or128 : ∀ a : Fin 256, bits .or .u8 (a.val : Int) 128 = ((a.val % 128 + 128 : Nat) : Int) := by decide +kernel
theorem and127 : ∀ a : Fin 256, bits .and .u8 (a.val : Int) 127 = ((a.val % 128 : Nat) : Int) := by decide +kernel
theorem shr_nat (x s : Nat) (hs : s ≤ 64) : shr .i64 (x : Int) (s : Int) = ((x / 2 ^ s : Nat) : Int) := by
  unfold shr
  simp only [IntKind.bits, Int.toNat_natCast, Nat.min_eq_left hs]
  rw [show ((2 : Int) ^ s) = ((2 ^ s : Nat) : Int) by simp, Int.fdiv_eq_ediv_of_nonneg _ (Int.natCast_nonneg _)]
  rfl

/-- A number, seven bits a byte. -/
def vi (x : Nat) : List Int := if x < 128 then [(x : Int)] else ((x % 128 + 128 : Nat) : Int) :: vi (x / 128)
termination_by x
decreasing_by omega
theorem vi_lt {x : Nat} (h : x < 128) : vi x = [(x : Int)] := by rw [vi, if_pos h]
theorem vi_ge {x : Nat} (h : ¬ x < 128) : vi x = ((x % 128 + 128 : Nat) : Int) :: vi (x / 128) := by rw [vi, if_neg h]
theorem vi_len : ∀ (k x : Nat), x < 128 ^ (k + 1) → (vi x).length ≤ k + 1
  | 0, x, h => by rw [vi_lt (by simpa using h)]; simp
  | k + 1, x, h => by
    by_cases hx : x < 128
    · rw [vi_lt hx]; simp
    · rw [vi_ge hx]
      have := vi_len k (x / 128) (by rw [Nat.pow_succ] at h; omega)
      simp only [List.length_cons]
      omega
theorem vi_10 {x : Nat} (h : x < 9223372036854775808) : (vi x).length ≤ 10 := vi_len 9 x (Nat.lt_of_lt_of_le h (by decide))
theorem put_loop (n : Nat) : ∀ (m x : Nat) (v : List Int), (vi x).length ≤ m → v.length + (vi x).length ≤ 4294967296 → x < 9223372036854775808 →
    wire_put_l0 n m v (x : Int) v.length = some (v ++ vi x, (v ++ vi x).length, ()) := by
  intro m
  induction m with
  | zero =>
    intro x v h
    rw [vi] at h
    split at h <;> simp at h
  | succ m ih =>
    intro x v h hv hx
    rw [wire_put_l0_eq]
    by_cases h0 : x < 128
    · have h1 : ¬ (x : Int) > 127 := by omega
      rw [vi_lt h0] at hv ⊢
      have h2 : v.length + List.length ([(x : Int)] : List Int) ≤ 4294967296 := hv
      have h3 : IntKind.wrap .u8 (x : Int) = x := by rw [wu8]; omega
      simp only [dF h1, cond_false, h3, dT h2, decide_true, Bool.and_self, cond_true]
    · have h1 : (x : Int) > 127 := by omega
      rw [vi_ge h0] at hv h ⊢
      simp only [List.length_cons] at hv h
      have h3 : bits .or .u8 (IntKind.wrap .u8 (x : Int)) 128 = ((x % 128 + 128 : Nat) : Int) := by
        rw [wu8, show (x : Int) % 256 = (((⟨x % 256, by omega⟩ : Fin 256).val : Nat) : Int) by simp]
        rw [or128]
        simp only []
        congr 1
        omega
      have h2 : v.length + List.length ([((x % 128 + 128 : Nat) : Int)] : List Int) ≤ 4294967296 := by simp; omega
      have h4 : shr .i64 (x : Int) 7 = ((x / 128 : Nat) : Int) := shr_nat x 7 (by decide)
      simp only [dT h1, cond_true, h3, h4, dT h2, decide_true, Bool.and_self, dT (show (0 : Int) ≤ 7 by decide)]
      have := ih (x / 128) (v ++ [((x % 128 + 128 : Nat) : Int)]) (by omega) (by simp; omega) (by omega)
      rw [this]
      simp
theorem put_ok (n x : Nat) (v : List Int) (h : 10 ≤ n) (hv : v.length + 10 ≤ 4294967296) (hx : x < 9223372036854775808) : wire_put n (v, v.length) (x : Int) = some (v ++ vi x, (v ++ vi x).length, ()) := by
  have := vi_10 hx
  rw [wire_put_eq]
  exact put_loop n n x v (by omega) (by omega) hx
theorem seven_loop (n : Nat) : ∀ (d x : Nat), (vi x).length ≤ d → x < 9223372036854775808 → ref2_seven d n (x : Int) = some (vi x) := by
  intro d
  induction d with
  | zero =>
    intro x h
    rw [vi] at h
    split at h <;> simp at h
  | succ d ih =>
    intro x h hx
    rw [ref2_seven_eq]
    by_cases h0 : x < 128
    · have h1 : (x : Int) < 128 := by omega
      have h3 : IntKind.wrap .u8 (x : Int) = x := by rw [wu8]; omega
      rw [dT h1, cond_true, h3, vi_lt h0]
    · have h1 : ¬ (x : Int) < 128 := by omega
      have hl := vi_10 hx
      rw [vi_ge h0] at h hl ⊢
      simp only [List.length_cons] at h hl
      have h2 : IntKind.wrap .i64 (Int.tdiv (x : Int) 128) = ((x / 128 : Nat) : Int) := by
        rw [Int.tdiv_eq_ediv_of_nonneg (by omega), w64 (by omega) (by omega)]
        rfl
      have h3 : IntKind.wrap .u8 (IntKind.wrap .i64 (Int.tmod (x : Int) 128 + 128)) = ((x % 128 + 128 : Nat) : Int) := by
        rw [Int.tmod_eq_emod_of_nonneg (by omega), w64 (by omega) (by omega), wu8]
        omega
      rw [dF h1, cond_false, h2, ih (x / 128) (by omega) (by omega), bind_some2, h3]
      have h4 : List.length ([((x % 128 + 128 : Nat) : Int)] : List Int) + List.length (vi (x / 128)) ≤ 4294967296 := by simp; omega
      rw [dT h4]
      rfl
theorem seven_ok (n x : Nat) (h : 10 ≤ n) (hx : x < 9223372036854775808) : ref2_seven n n (x : Int) = some (vi x) := seven_loop n n x (Nat.le_trans (vi_10 hx) h) hx

theorem grow_ok (n x : Nat) (h : x ≤ 4294967296) : slices_Grow n () (x : Int) = some [] := by
  rw [slices_Grow_eq, dF (show ¬ (x : Int) < 0 by omega), cond_false]
  have h1 : IntKind.wrap .i64 ((x : Int) - IntKind.wrap .i64 ((0 : Int) - (List.length ([] : List Int) : Int))) = (x : Int) := by
    simp only [List.length_nil]
    rw [w64 (x := (0 : Int) - ((0 : Nat) : Int)) (by omega) (by omega), w64 (by omega) (by omega)]
    omega
  rw [h1]
  by_cases h0 : (x : Int) > 0
  · rw [dT h0, cond_true, dT (show (x : Int) ≤ 4294967296 by omega)]
    rfl
  · rw [dF h0]
    rfl
theorem cat_loop (n : Nat) (L : List (List Int)) (hL : L.length < 4294967296) : ∀ (m k : Nat) (v : List Int), k ≤ L.length → L.length - k < m → v.length + (L.drop k).flatten.length ≤ 4294967296 →
    slices_Concat_l2 n m v L (L.length : Int) (k : Int) = some (v ++ (L.drop k).flatten) := by
  intro m
  induction m with
  | zero => intro k v _ h; omega
  | succ m ih =>
    intro k v hk hm hs
    rw [slices_Concat_l2_eq, dlt]
    by_cases h : k < L.length
    · rw [List.drop_eq_getElem_cons h] at hs ⊢
      simp only [List.flatten_cons, List.length_append] at hs ⊢
      rw [i64_succ (by omega)]
      simp only [dT h, d0, dlt, Bool.and_self, cond_true, Int.toNat_natCast, getD_lt _ h, decide_true, Bool.true_and]
      rw [dT (show v.length + L[k].length ≤ 4294967296 by omega), cond_true, ih (k + 1) _ (by omega) (by omega) (by rw [List.length_append]; omega)]
      simp
    · rw [dF h, drop_len h]
      simp
theorem cat_len (n : Nat) (L : List (List Int)) (hL : L.length < 4294967296) : ∀ (m k s : Nat), k ≤ L.length → L.length - k < m → s + (L.drop k).flatten.length ≤ 4294967296 → L.length < n →
    slices_Concat_l0 n m L (s : Int) L (L.length : Int) (k : Int) = Option.bind (slices_Grow n () ((s + (L.drop k).flatten.length : Nat) : Int)) fun r1 => slices_Concat_l2 n n r1 L (L.length : Int) 0 := by
  intro m
  induction m with
  | zero => intro k s _ h; omega
  | succ m ih =>
    intro k s hk hm hs hn
    rw [slices_Concat_l0_eq, dlt]
    by_cases h : k < L.length
    · rw [List.drop_eq_getElem_cons h] at hs ⊢
      simp only [List.flatten_cons, List.length_append] at hs ⊢
      rw [i64_succ (by omega)]
      simp only [dT h, d0, dlt, Bool.and_self, cond_true, Int.toNat_natCast, getD_lt _ h]
      rw [w64 (by omega) (by omega), dF (show ¬ (s : Int) + (L[k].length : Int) < 0 by omega), cond_false]
      rw [show (s : Int) + (L[k].length : Int) = ((s + L[k].length : Nat) : Int) by omega, ih (k + 1) _ (by omega) (by omega) (by omega) hn]
      simp only [Nat.add_assoc]
    · rw [dF h, drop_len h]
      simp
theorem cat_ok (n : Nat) (L : List (List Int)) (hL : L.length < 4294967296) (hs : L.flatten.length ≤ 4294967296) (hn : L.length < n) : slices_Concat n L = some L.flatten := by
  rw [slices_Concat_eq]
  have h := cat_len n L hL n 0 0 (Nat.zero_le _) (by omega) (by simpa using hs) hn
  rw [show ((0 : Nat) : Int) = 0 from rfl] at h
  rw [h, grow_ok _ _ (by simpa using hs), bind_some2]
  have h := cat_loop n L hL n 0 [] (Nat.zero_le _) (by omega) (by simpa using hs)
  simpa using h

def encS : List WireField → List Int → List Int × Int
  | [], acc => (acc, 0)
  | f :: r, acc => bif decide (f.Tag < 1) then ([], 11) else bif decide (f.Tag > 1000) then ([], 11) else
    bif decide (((acc ++ vi f.Tag.toNat ++ vi f.Data.length ++ f.Data).length : Int) > 8000) then ([], 2) else encS r (acc ++ vi f.Tag.toNat ++ vi f.Data.length ++ f.Data)
theorem enc_loop (n : Nat) (l : List WireField) (hl : l.length < 4294967296) (hd : ∀ f ∈ l, f.Data.length ≤ 1048576) (hn : 10 ≤ n) : ∀ (m k : Nat) (acc : List Int), k ≤ l.length → l.length - k < m → acc.length ≤ 8000 →
    wire_Encode_l0 n m acc l (l.length : Int) (k : Int) = some (encS (l.drop k) acc) ∧ ref2_Sent_l0 n m acc l (l.length : Int) (k : Int) = some (encS (l.drop k) acc) := by
  intro m
  induction m with
  | zero => intro k acc _ h; omega
  | succ m ih =>
    intro k acc hk hm ha
    rw [wire_Encode_l0_eq, ref2_Sent_l0_eq, dlt]
    by_cases h : k < l.length
    · rw [List.drop_eq_getElem_cons h, i64_succ (by omega)]
      have hdk := hd l[k] (List.getElem_mem _)
      have h2 := vi_10 (x := l[k].Data.length) (by omega)
      simp only [dT h, d0, dlt, Bool.and_self, cond_true, Int.toNat_natCast, getD_lt _ h, encS]
      by_cases t1 : l[k].Tag < 1
      · simp only [dT t1, cond_true, and_self]
      by_cases t2 : l[k].Tag > 1000
      · simp only [dF t1, dT t2, cond_true, cond_false, and_self]
      obtain ⟨t, ht⟩ : ∃ t : Nat, l[k].Tag = (t : Int) := ⟨l[k].Tag.toNat, by omega⟩
      have h1 := vi_10 (x := t) (by omega)
      simp only [dF t1, dF t2, cond_false]
      rw [ht, Int.toNat_natCast]
      simp only [decide_true, Bool.and_self, cond_true]
      rw [put_ok n t acc hn (by omega) (by omega), bind_some2]
      simp only [decide_true, cond_true, Bool.and_self]
      rw [put_ok n _ _ hn (by simp; omega) (by omega), bind_some2]
      simp only [decide_true, cond_true, Bool.true_and]
      rw [seven_ok n t hn (by omega), bind_some2, seven_ok n _ hn (by omega), bind_some2, cat_ok n _ (by simp) (by simp; omega) (by simp; omega), bind_some2]
      rw [dT (show (acc ++ vi t ++ vi l[k].Data.length).length + l[k].Data.length ≤ 4294967296 by simp; omega), cond_true]
      rw [show [acc, vi t, vi l[k].Data.length, l[k].Data].flatten = acc ++ vi t ++ vi l[k].Data.length ++ l[k].Data by simp]
      by_cases t3 : (((acc ++ vi t ++ vi l[k].Data.length ++ l[k].Data).length : Nat) : Int) > 8000
      · simp only [dT t3, cond_true, and_self]
      · simp only [dF t3, cond_false]
        exact ih (k + 1) _ (by omega) (by omega) (by omega)
    · rw [dF h, drop_len h]
      exact ⟨rfl, rfl⟩
theorem enc_ok (n : Nat) (l : List WireField) (hl : l.length < 4294967296) (hd : ∀ f ∈ l, f.Data.length ≤ 1048576) (hn : 10 ≤ n) (hn2 : l.length < n) : ∃ r, wire_Encode n l = some r ∧ ref2_Sent n l = some r := by
  rw [wire_Encode_eq, ref2_Sent_eq]
  cases decide ((l.length : Int) > 100)
  · have := enc_loop n l hl hd hn n 0 [] (Nat.zero_le _) (by omega) (by simp)
    exact ⟨_, this⟩
  · exact ⟨_, rfl, rfl⟩
theorem encS_len : ∀ (l : List WireField) (acc : List Int), acc.length ≤ 8000 → (encS l acc).1.length ≤ 8000
  | [], acc, h => h
  | f :: r, acc, h => by
    rw [encS]
    cases decide (f.Tag < 1)
    case true => simp
    cases decide (f.Tag > 1000)
    case true => simp
    simp only [cond_false]
    by_cases h3 : (((acc ++ vi f.Tag.toNat ++ vi f.Data.length ++ f.Data).length : Nat) : Int) > 8000
    · rw [dT h3]; simp
    · rw [dF h3]
      exact encS_len r _ (by omega)
theorem enc_len (n : Nat) (l : List WireField) (hl : l.length < 4294967296) (hd : ∀ f ∈ l, f.Data.length ≤ 1048576) (hn : 10 ≤ n) (hn2 : l.length < n) (r : List Int × Int) (h : wire_Encode n l = some r) : r.1.length ≤ 8000 := by
  rw [wire_Encode_eq] at h
  cases hc : decide ((l.length : Int) > 100)
  · rw [hc, cond_false] at h
    have := (enc_loop n l hl hd hn n 0 [] (Nat.zero_le _) (by omega) (by simp)).1
    rw [show ((0 : Nat) : Int) = 0 from rfl] at this
    rw [this] at h
    rw [← Option.some.inj h]
    exact encS_len _ _ (by simp)
  · rw [hc, cond_true] at h
    rw [← Option.some.inj h]
    simp

def Byt (l : List Int) : Prop := ∀ x ∈ l, 0 ≤ x ∧ x < 256
theorem or_add (a b k : Nat) (ha : a < 2 ^ k) (hb : b < 128) (hk : k ≤ 28) : bits .or .i64 (a : Int) ((b * 2 ^ k : Nat) : Int) = ((a + b * 2 ^ k : Nat) : Int) := by
  have h1 : 2 ^ k ≤ 268435456 := Nat.le_trans (Nat.pow_le_pow_right (by decide) hk) (by decide)
  have h2 : b * 2 ^ k ≤ 127 * 268435456 := Nat.mul_le_mul (by omega) h1
  have hor : b * 2 ^ k ||| a = b * 2 ^ k + a := by
    have := Nat.shiftLeft_add_eq_or_of_lt ha b
    rw [Nat.shiftLeft_eq] at this
    exact this.symm
  show IntKind.wrap .i64 (((BitVec.ofInt 64 (a : Int) ||| BitVec.ofInt 64 ((b * 2 ^ k : Nat) : Int)).toNat : Nat) : Int) = _
  rw [BitVec.ofInt_natCast, BitVec.ofInt_natCast, BitVec.toNat_or, BitVec.toNat_ofNat, BitVec.toNat_ofNat, Nat.mod_eq_of_lt (by omega), Nat.mod_eq_of_lt (by omega), Nat.or_comm, hor, w64 (by omega) (by omega)]
  omega
theorem shl_nat (b s : Nat) (hs : s ≤ 28) (hb : b < 128) : shl .i64 (b : Int) (s : Int) = ((b * 2 ^ s : Nat) : Int) := by
  have h1 : 2 ^ s ≤ 268435456 := Nat.le_trans (Nat.pow_le_pow_right (by decide) hs) (by decide)
  have h2 : b * 2 ^ s ≤ 127 * 268435456 := Nat.mul_le_mul (by omega) h1
  unfold shl
  simp only [IntKind.bits, Int.toNat_natCast]
  rw [Nat.min_eq_left (by omega), show (b : Int) * 2 ^ s = ((b * 2 ^ s : Nat) : Int) by simp, w64 (by omega) (by omega)]

/-- The number of these bytes. -/
def val : List Int → Nat
  | [] => 0
  | c :: r => c.toNat % 128 + 128 * val r
theorem val_app : ∀ (p : List Int) (c : Int), val (p ++ [c]) = val p + (c.toNat % 128) * 2 ^ (7 * p.length)
  | [], c => by simp [val]
  | a :: p, c => by
    simp only [List.cons_append, val, val_app p c, List.length_cons]
    rw [show 7 * (p.length + 1) = 7 * p.length + 7 by omega, Nat.pow_add]
    rw [show (2 : Nat) ^ 7 = 128 by rfl, Nat.mul_add, Nat.add_assoc]
    congr 2
    rw [Nat.mul_comm 128, Nat.mul_assoc]
theorem val_lt : ∀ (p : List Int), val p < 2 ^ (7 * p.length)
  | [] => by simp [val]
  | a :: p => by
    simp only [val, List.length_cons]
    have := val_lt p
    rw [show 7 * (p.length + 1) = 7 * p.length + 7 by omega, Nat.pow_add, show (2 : Nat) ^ 7 = 128 by rfl]
    omega

/-- From these bytes on: the number and its bytes. -/
def Rg : List Int → List Int → Int × Int
  | _, [] => (0, 0)
  | pre, c :: r => bif decide (c < 128) then (bif decide (c = 0) then (bif decide ((pre.length : Int) > 0) then (0, 0) else ((val (pre ++ [c]) : Int), (pre.length : Int) + 1)) else ((val (pre ++ [c]) : Int), (pre.length : Int) + 1)) else Rg (pre ++ [c]) r
theorem get_loop (n : Nat) (l : List Int) (hb : Byt l) (h4 : l.length ≤ 4) : ∀ (rest pre : List Int) (m : Nat), l = pre ++ rest → rest.length < m →
    wire_get_l0 n m (val pre : Int) l (l.length : Int) (pre.length : Int) = some (Rg pre rest) := by
  intro rest
  induction rest with
  | nil =>
    intro pre m he hm
    cases m with
    | zero => omega
    | succ m =>
      rw [wire_get_l0_eq, dlt, dF (by rw [he]; simp)]
      rfl
  | cons c r ih =>
    intro pre m he hm
    cases m with
    | zero => omega
    | succ m =>
      have hk : pre.length < l.length := by rw [he]; simp
      have hc : l[pre.length] = c := by subst he; simp
      have hcb := hb c (by rw [he]; simp)
      rw [wire_get_l0_eq, dlt, Rg]
      obtain ⟨q, hq⟩ : ∃ q : Nat, c = (q : Int) := ⟨c.toNat, by omega⟩
      have h7 : IntKind.wrap .i64 ((7 : Int) * (pre.length : Int)) = ((7 * pre.length : Nat) : Int) := by rw [w64 (by omega) (by omega)]; omega
      have hand : IntKind.wrap .i64 (bits .and .u8 c 127) = ((q % 128 : Nat) : Int) := by
        rw [hq, show (q : Int) = (((⟨q, by omega⟩ : Fin 256).val : Nat) : Int) from rfl, and127, w64 (by omega) (by omega)]
      have hval : bits .or .i64 (val pre : Int) (shl .i64 (IntKind.wrap .i64 (bits .and .u8 c 127)) (IntKind.wrap .i64 ((7 : Int) * (pre.length : Int)))) = (val (pre ++ [c]) : Int) := by
        rw [h7, hand, shl_nat _ _ (by omega) (by omega), or_add _ _ _ (val_lt pre) (by omega) (by omega), val_app, hq]
        simp
      simp only [dT hk, d0, dlt, Bool.and_self, cond_true, Int.toNat_natCast, getD_lt _ hk, hc, hval]
      rw [show decide (0 ≤ IntKind.wrap .i64 ((7 : Int) * (pre.length : Int))) = true by rw [h7]; exact d0 _, cond_true]
      have h1 : IntKind.wrap .i64 ((pre.length : Int) + 1) = (pre.length : Int) + 1 := w64 (by omega) (by omega)
      have := ih (pre ++ [c]) m (by rw [he]; simp) (by simp at hm; omega)
      rw [List.length_append, List.length_singleton] at this
      rw [h1]
      rw [show ((pre.length + 1 : Nat) : Int) = (pre.length : Int) + 1 by omega] at this
      rw [this]
      cases decide (c < 128) <;> cases decide (c = 0) <;> cases decide ((pre.length : Int) > 0) <;> rfl
theorem get_ok (n : Nat) (v : List Int) (hb : Byt v) (hv : v.length < 4294967296) (hn : 10 ≤ n) : wire_get n v = some (Rg [] (v.take 4)) := by
  rw [wire_get_eq]
  have hm : mnI (4 : Int) (v.length : Int) = ((min 4 v.length : Nat) : Int) := by
    unfold mnI
    by_cases h : (v.length : Int) < 4
    · rw [dT h, cond_true]; omega
    · rw [dF h, cond_false]; omega
  rw [hm, Int.toNat_natCast, d0, dle, dT (Nat.min_le_right 4 v.length), show v.take (min 4 v.length) = v.take 4 by rw [← List.take_eq_take_iff.2]; simp]
  have := get_loop n (v.take 4) (fun x hx => hb x (List.mem_of_mem_take hx)) (by simp; omega) (v.take 4) [] n rfl (by simp; omega)
  exact this

theorem vi_ne (x : Nat) : vi x ≠ [] := by
  rw [vi]
  split <;> simp
theorem vi_last (x : Nat) : x ≠ 0 → (vi x).getLast? ≠ some 0 := by
  induction x using Nat.strongRecOn with
  | _ x ih =>
    intro hx
    by_cases h : x < 128
    · rw [vi_lt h]; simp; omega
    · rw [vi_ge h, List.getLast?_cons_of_ne_nil (vi_ne _)]
      exact ih (x / 128) (by omega) (by omega)
theorem vi_byt (x : Nat) : Byt (vi x) := by
  induction x using Nat.strongRecOn with
  | _ x ih =>
    intro y hy
    by_cases h : x < 128
    · rw [vi_lt h] at hy
      simp at hy
      omega
    · rw [vi_ge h] at hy
      rcases List.mem_cons.1 hy with rfl | hy
      · omega
      · exact ih (x / 128) (by omega) y hy
theorem canon (c : Int) (h0 : 0 ≤ c) (h1 : c < 128) : ∀ (p : List Int), (∀ x ∈ p, 128 ≤ x ∧ x < 256) → c ≠ 0 ∨ p = [] → vi (val (p ++ [c])) = p ++ [c]
  | [], _, _ => by
    rw [List.nil_append, val, val, vi_lt (by omega)]
    congr 1
    omega
  | a :: p, hp, hc => by
    have hc : c ≠ 0 := hc.resolve_right (by simp)
    have ha := hp a (by simp)
    have ih := canon c h0 h1 p (fun x hx => hp x (by simp [hx])) (.inl hc)
    have hpos : 0 < val (p ++ [c]) := by
      rw [val_app]
      have : 0 < (c.toNat % 128) * 2 ^ (7 * p.length) := Nat.mul_pos (by omega) (Nat.two_pow_pos _)
      omega
    rw [List.cons_append, val, vi_ge (by omega)]
    rw [show (a.toNat % 128 + 128 * val (p ++ [c])) / 128 = val (p ++ [c]) by omega, ih]
    congr 1
    omega
theorem canon0 (p : List Int) (hp : p ≠ []) : vi (val (p ++ [0])) ≠ p ++ [0] := by
  intro h
  by_cases hx : val (p ++ [0]) = 0
  · rw [hx, vi_lt (by decide)] at h
    have := congrArg List.length h
    simp at this
    exact hp this
  · exact vi_last _ hx (by rw [h]; simp)
theorem byts_inj : ∀ (a b : List Int), Byt a → Byt b → (byts a == byts b) = decide (a = b)
  | [], [], _, _ => rfl
  | [], _ :: _, _, _ => by simp [byts]
  | _ :: _, [], _, _ => by simp [byts]
  | x :: a, y :: b, ha, hb => by
    have hx := ha x (by simp)
    have hy := hb y (by simp)
    have ih := byts_inj a b (fun z hz => ha z (by simp [hz])) (fun z hz => hb z (by simp [hz]))
    have e : (UInt8.ofNat x.toNat == UInt8.ofNat y.toNat) = decide (x = y) := by
      rw [Bool.eq_iff_iff]
      simp only [beq_iff_eq, decide_eq_true_eq]
      constructor
      · intro h
        have := congrArg UInt8.toNat h
        rw [UInt8.toNat_ofNat', UInt8.toNat_ofNat'] at this
        omega
      · rintro rfl; rfl
    show ((UInt8.ofNat x.toNat :: byts a) == (UInt8.ofNat y.toNat :: byts b)) = _
    rw [List.cons_beq_cons, ih, e]
    simp

theorem Rg_eq (pre : List Int) (c : Int) (r : List Int) : Rg pre (c :: r) = bif decide (c < 128) then (bif decide (c = 0) then (bif decide ((pre.length : Int) > 0) then (0, 0) else ((val (pre ++ [c]) : Int), (pre.length : Int) + 1)) else ((val (pre ++ [c]) : Int), (pre.length : Int) + 1)) else Rg (pre ++ [c]) r := rfl

theorem uns_loop (n : Nat) (hn : 10 ≤ n) (v : List Int) (hb : Byt v) (hv : v.length < 4294967296) : ∀ (rest pre : List Int) (m : Nat), v = pre ++ rest → rest.length < m → pre.length ≤ 4 → (∀ x ∈ pre, 128 ≤ x ∧ x < 256) →
    ((Rg pre (rest.take (4 - pre.length))).2 = 0 ∧ ∃ y z, ref2_unseven_l0 n m v (val pre : Int) ((2 ^ (7 * pre.length) : Nat) : Int) (pre.length : Int) = some (y, z, false)) ∨
    ∃ x j : Nat, Rg pre (rest.take (4 - pre.length)) = ((x : Int), (j : Int)) ∧ 0 < j ∧ j ≤ v.length ∧ x < 268435456 ∧ ref2_unseven_l0 n m v (val pre : Int) ((2 ^ (7 * pre.length) : Nat) : Int) (pre.length : Int) = some ((x : Int), v.drop j, true) := by
  intro rest
  induction rest with
  | nil =>
    intro pre m he hm h4 hp
    cases m with
    | zero => omega
    | succ m =>
      refine .inl ⟨by simp [Rg], ?_⟩
      rw [ref2_unseven_l0_eq, dlt, dF (by rw [he]; simp)]
      exact ⟨_, _, rfl⟩
  | cons c r ih =>
    intro pre m he hm h4 hp
    cases m with
    | zero => omega
    | succ m =>
      have hk : pre.length < v.length := by rw [he]; simp
      have hc : v[pre.length] = c := by subst he; simp
      have hcb := hb c (by rw [he]; simp)
      rw [ref2_unseven_l0_eq, dlt, dT hk, cond_true]
      by_cases h44 : pre.length < 4
      · rw [dT (show (pre.length : Int) < 4 by omega), cond_true]
        obtain ⟨q, hq⟩ : ∃ q : Nat, c = (q : Int) := ⟨c.toNat, by omega⟩
        have hlt := val_lt pre
        have hp1 : 2 ^ (7 * pre.length) ≤ 2097152 := Nat.le_trans (Nat.pow_le_pow_right (by decide) (show 7 * pre.length ≤ 21 by omega)) (by decide)
        have hq2 : (q % 128) * 2 ^ (7 * pre.length) ≤ 127 * 2097152 := Nat.mul_le_mul (by omega) hp1
        have hval : IntKind.wrap .i64 ((val pre : Int) + IntKind.wrap .i64 (Int.tmod (IntKind.wrap .i64 c) 128 * ((2 ^ (7 * pre.length) : Nat) : Int))) = (val (pre ++ [c]) : Int) := by
          rw [w64 (x := c) (by omega) (by omega), Int.tmod_eq_emod_of_nonneg (by omega), hq]
          rw [show ((q : Int) % 128) * ((2 ^ (7 * pre.length) : Nat) : Int) = (((q % 128) * 2 ^ (7 * pre.length) : Nat) : Int) by simp]
          rw [w64 (x := (((q % 128) * 2 ^ (7 * pre.length) : Nat) : Int)) (by omega) (by omega), w64 (by omega) (by omega), val_app]
          simp
        have hvb : val (pre ++ [c]) < 268435456 := by
          rw [val_app, hq]
          simp only [Int.toNat_natCast]
          omega
        have hw : IntKind.wrap .i64 (((2 ^ (7 * pre.length) : Nat) : Int) * 128) = ((2 ^ (7 * (pre.length + 1)) : Nat) : Int) := by
          rw [w64 (by omega) (by omega), show 7 * (pre.length + 1) = 7 * pre.length + 7 by omega, Nat.pow_add]
          omega
        have h1 : IntKind.wrap .i64 ((pre.length : Int) + 1) = ((pre.length + 1 : Nat) : Int) := i64_succ (by omega)
        simp only [dT hk, d0, dlt, Bool.and_self, cond_true, Int.toNat_natCast, getD_lt _ hk, hc, hval, h1, hw]
        rw [dle, dT (show pre.length + 1 ≤ v.length by omega)]
        simp only [Bool.and_self, cond_true]
        obtain ⟨t, ht⟩ : ∃ t, 4 - pre.length = t + 1 := ⟨3 - pre.length, by omega⟩
        rw [ht, List.take_succ_cons, Rg_eq]
        by_cases hc1 : c < 128
        · rw [dT hc1, cond_true, cond_true, seven_ok n _ hn (by omega), bind_some2]
          have htk : v.take (pre.length + 1) = pre ++ [c] := by
            rw [he, show pre ++ c :: r = (pre ++ [c]) ++ r by simp, List.take_left' (by simp)]
          rw [htk, byts_inj _ _ (vi_byt _) (fun x hx => hb x (by rw [← htk] at hx; exact List.mem_of_mem_take hx))]
          by_cases hz : c ≠ 0 ∨ pre = []
          · right
            refine ⟨val (pre ++ [c]), pre.length + 1, ?_, by omega, by omega, hvb, ?_⟩
            · rcases hz with hz | rfl
              · rw [dF hz, cond_false]; simp
              · cases decide (c = 0) <;> rfl
            · rw [dT (canon c hcb.1 hc1 pre hp hz)]
          · simp only [ne_eq, not_or, Classical.not_not] at hz
            obtain ⟨rfl, hz⟩ := hz
            left
            have : 0 < pre.length := List.length_pos_iff.2 hz
            refine ⟨?_, _, _, by rw [dF (canon0 pre hz)]⟩
            rw [dT rfl, cond_true, dT (show (pre.length : Int) > 0 by omega), cond_true]
        · rw [dF hc1, cond_false, cond_false]
          have := ih (pre ++ [c]) m (by rw [he]; simp) (by simp at hm; omega) (by simp; omega) (fun x hx => by
            rcases List.mem_append.1 hx with hx | hx
            · exact hp x hx
            · simp at hx; subst hx; omega)
          rw [List.length_append, List.length_singleton, show 4 - (pre.length + 1) = t by rw [Nat.sub_add_eq, ht]; rfl] at this
          exact this
      · refine .inl ⟨by rw [show 4 - pre.length = 0 by omega]; simp [Rg], ?_⟩
        rw [dF (show ¬ (pre.length : Int) < 4 by omega)]
        exact ⟨_, _, rfl⟩
theorem get_uns (n : Nat) (hn : 10 ≤ n) (v : List Int) (hb : Byt v) (hv : v.length < 4294967296) (hv2 : v.length < n) :
    (∃ x, wire_get n v = some (x, 0) ∧ ∃ y z, ref2_unseven n v = some (y, z, false)) ∨
    ∃ x j : Nat, 0 < j ∧ j ≤ v.length ∧ x < 268435456 ∧ wire_get n v = some ((x : Int), (j : Int)) ∧ ref2_unseven n v = some ((x : Int), v.drop j, true) := by
  rw [get_ok n v hb hv hn, ref2_unseven_eq]
  rcases uns_loop n hn v hb hv v [] n rfl hv2 (by simp) (by simp) with ⟨h1, y, z, h2⟩ | ⟨x, j, h1, h2, h3, h4, h5⟩
  · exact .inl ⟨(Rg [] (v.take 4)).1, congrArg some (Prod.ext rfl h1), y, z, h2⟩
  · exact .inr ⟨x, j, h2, h3, h4, congrArg some h1, h5⟩

theorem clone_ok (n : Nat) (l : List Int) (h : l.length ≤ 4294967296) : slices_Clone_2 n l = some l := by
  rw [slices_Clone_2_eq, dT (show List.length ([] : List Int) + l.length ≤ 4294967296 by simpa using h)]
  rfl
theorem Byt.drop {l : List Int} (h : Byt l) (k : Nat) : Byt (l.drop k) := fun x hx => h x (List.mem_of_mem_drop hx)
theorem dec_loop (n : Nat) (hn : 10000 ≤ n) : ∀ (m : Nat) (v : List Int) (out : List WireField), Byt v → v.length ≤ 8000 → v.length < m → out.length ≤ 100 →
    ∃ r, wire_Decode_l0 n m v out = some r ∧ ref2_Got_l0 n m v out = some r ∧ r.1.length ≤ 100 := by
  intro m
  induction m with
  | zero => intro v out _ _ h; omega
  | succ m ih =>
    intro v out hb hv hm ho
    rw [wire_Decode_l0_eq, ref2_Got_l0_eq]
    by_cases h : (v.length : Int) > 0
    · simp only [dT h, cond_true]
      rcases get_uns n (by omega) v hb (by omega) (by omega) with ⟨x, g1, y, z, g2⟩ | ⟨x, j, j0, j1, x1, g1, g2⟩
      · rw [g1, g2, bind_some2, bind_some2]
        exact ⟨_, rfl, rfl, by simp⟩
      · rw [g1, g2, bind_some2, bind_some2]
        simp only [dF (show ¬ ((j : Int) = 0) by omega), Bool.not_true, cond_false, d0, dle, dT j1, Bool.and_self, cond_true, Int.toNat_natCast]
        cases decide ((x : Int) < 1)
        case true => exact ⟨_, rfl, rfl, by simp⟩
        cases decide ((x : Int) > 1000)
        case true => exact ⟨_, rfl, rfl, by simp⟩
        simp only [cond_false]
        have hlen : (v.drop j).length = v.length - j := by simp
        rcases get_uns n (by omega) (v.drop j) (hb.drop j) (by omega) (by omega) with ⟨x', g1, y, z, g2⟩ | ⟨x', j', j0', j1', x1', g1, g2⟩
        · rw [g1, g2, bind_some2, bind_some2]
          exact ⟨_, rfl, rfl, by simp⟩
        · rw [g1, g2, bind_some2, bind_some2]
          simp only [dF (show ¬ ((j' : Int) = 0) by omega), Bool.not_true, cond_false, d0, dle, dT j1', Bool.and_self, cond_true, Int.toNat_natCast]
          by_cases hs : (x' : Int) > ((((v.drop j).drop j').length : Nat) : Int)
          · simp only [dT hs, cond_true]
            exact ⟨_, rfl, rfl, by simp⟩
          · have hs' : x' ≤ ((v.drop j).drop j').length := by omega
            have hl2 : ((v.drop j).drop j').length = v.length - j - j' := by simp; omega
            simp only [dF hs, cond_false, dT hs', cond_true]
            rw [clone_ok n _ (by rw [List.length_take]; omega), bind_some2]
            have ha : out.length + List.length ([WireField.mk (x : Int) (((v.drop j).drop j').take x')] : List WireField) ≤ 4294967296 := by simp; omega
            simp only [decide_true, dT ha, Bool.and_self, cond_true]
            by_cases hl : (((out ++ [WireField.mk (x : Int) (((v.drop j).drop j').take x')]).length : Nat) : Int) > 100
            · simp only [dT hl, cond_true]
              exact ⟨_, rfl, rfl, by simp⟩
            · simp only [dF hl, cond_false]
              refine ih _ _ (((hb.drop j).drop j').drop x') ?_ ?_ (by omega)
              · rw [List.length_drop, hl2]; omega
              · rw [List.length_drop, hl2]; omega
    · rw [dF h]
      exact ⟨_, rfl, rfl, ho⟩
theorem dec_ok2 (n : Nat) (hn : 10000 ≤ n) (v : List Int) (hb : Byt v) : ∃ r, wire_Decode n v = some r ∧ ref2_Got n v = some r ∧ r.1.length ≤ 100 := by
  rw [wire_Decode_eq, ref2_Got_eq]
  by_cases h : (v.length : Int) > 8000
  · rw [dT h]
    exact ⟨_, rfl, rfl, by simp⟩
  · rw [dF h]
    exact dec_loop n hn n v [] hb (by omega) (by omega) (by simp)
theorem dec_ok (n : Nat) (hn : 10000 ≤ n) (v : List Int) (hb : Byt v) : ∃ r, wire_Decode n v = some r ∧ ref2_Got n v = some r := let ⟨r, h1, h2, _⟩ := dec_ok2 n hn v hb; ⟨r, h1, h2⟩
theorem dec_len (n : Nat) (hn : 10000 ≤ n) (v : List Int) (hb : Byt v) (r) (h : wire_Decode n v = some r) : r.1.length ≤ 100 := by
  obtain ⟨q, h1, _, h2⟩ := dec_ok2 n hn v hb
  rw [h1] at h
  rw [← Option.some.inj h]
  exact h2

theorem eq_loop (n : Nat) (l : List Int) (hl : l.length < 9223372036854775807) : ∀ (m k : Nat), k ≤ l.length → l.length - k < m → slices_Equal_l0 n m l l (l.length : Int) (k : Int) = some true := by
  intro m
  induction m with
  | zero => intro k _ h; omega
  | succ m ih =>
    intro k hk hm
    rw [slices_Equal_l0_eq, dlt]
    by_cases h : k < l.length
    · rw [i64_succ (by omega)]
      simp only [dT h, d0, dlt, Bool.and_self, cond_true, Int.toNat_natCast, decide_true, Bool.not_true, cond_false]
      exact ih (k + 1) (by omega) (by omega)
    · rw [dF h]
      rfl
theorem eq_ok (n : Nat) (l : List Int) (hl : l.length < 9223372036854775807) (hn : l.length < n) : slices_Equal n l l = some true := by
  rw [slices_Equal_eq, dT rfl]
  exact eq_loop n l hl n 0 (Nat.zero_le _) (by omega)
theorem eqf_loop (n : Nat) (l : List WireField) (hl : l.length < 9223372036854775807) : ∀ (m k : Nat), k ≤ l.length → l.length - k < m → slices_EqualFunc_l0 n m l l (l.length : Int) (k : Int) = some true := by
  intro m
  induction m with
  | zero => intro k _ h; omega
  | succ m ih =>
    intro k hk hm
    rw [slices_EqualFunc_l0_eq, dlt]
    by_cases h : k < l.length
    · rw [i64_succ (by omega)]
      simp only [dT h, d0, dlt, Bool.and_self, cond_true, Int.toNat_natCast, ref2_SameFields_1_eq, decide_true, bind_some2, beq_self_eq_true, Bool.not_true, cond_false]
      exact ih (k + 1) (by omega) (by omega)
    · rw [dF h]
      rfl
theorem same_ok (n : Nat) (l : List WireField) (hl : l.length < 9223372036854775807) (hn : l.length < n) : ref2_SameFields n l l = some true := by
  rw [ref2_SameFields_eq, slices_EqualFunc_eq, dT rfl, Bool.not_true, cond_false]
  have := eqf_loop n l hl n 0 (Nat.zero_le _) (by omega)
  rw [show ((0 : Nat) : Int) = 0 from rfl] at this
  rw [this]
  rfl

theorem shr_u64 (x s : Nat) (hs : s ≤ 64) : shr .u64 (x : Int) (s : Int) = ((x / 2 ^ s : Nat) : Int) := by
  unfold shr
  simp only [IntKind.bits, Int.toNat_natCast, Nat.min_eq_left hs]
  rw [show ((2 : Int) ^ s) = ((2 ^ s : Nat) : Int) by simp, Int.fdiv_eq_ediv_of_nonneg _ (Int.natCast_nonneg _)]
  rfl
theorem not_u64 (a : Nat) (ha : a < 18446744073709551616) : bits .xor .u64 (IntKind.max .u64) (a : Int) = ((18446744073709551615 - a : Nat) : Int) := by
  show IntKind.wrap .u64 (((BitVec.ofInt 64 (IntKind.max .u64) ^^^ BitVec.ofInt 64 (a : Int)).toNat : Nat) : Int) = _
  have h1 : BitVec.ofInt 64 (IntKind.max .u64) = BitVec.allOnes 64 := by decide
  rw [h1, BitVec.ofInt_natCast, BitVec.allOnes_xor, BitVec.toNat_not, BitVec.toNat_ofNat, Nat.mod_eq_of_lt (by omega), wu64]
  omega

/-- The bytes of a number, lowest first, as few as possible. -/
def lb (u : Nat) : List Int := if u = 0 then [] else ((u % 256 : Nat) : Int) :: lb (u / 256)
termination_by u
decreasing_by omega
theorem lb0 : lb 0 = [] := by rw [lb]; rfl
theorem lb_pos {u : Nat} (h : u ≠ 0) : lb u = ((u % 256 : Nat) : Int) :: lb (u / 256) := by rw [lb, if_neg h]
theorem lb_len : ∀ (k u : Nat), u < 256 ^ k → (lb u).length ≤ k
  | 0, u, h => by rw [show u = 0 by simpa using h, lb0]; simp
  | k + 1, u, h => by
    by_cases hu : u = 0
    · rw [hu, lb0]; simp
    · rw [lb_pos hu]
      have := lb_len k (u / 256) (by rw [Nat.pow_succ] at h; omega)
      simp only [List.length_cons]
      omega
theorem data_loop (n : Nat) : ∀ (m u : Nat) (acc : List Int), (lb u).length < m → acc.length + (lb u).length ≤ 4294967296 → wire_Data_l0 n m (u : Int) acc = some (acc ++ lb u) := by
  intro m
  induction m with
  | zero => intro u acc h; omega
  | succ m ih =>
    intro u acc h ha
    rw [wire_Data_l0_eq]
    by_cases hu : u = 0
    · subst hu
      rw [lb0, dF (show ¬ ((0 : Nat) : Int) > 0 by decide)]
      simp
    · rw [lb_pos hu] at h ha ⊢
      simp only [List.length_cons] at h ha
      have h1 : IntKind.wrap .u8 (u : Int) = ((u % 256 : Nat) : Int) := by rw [wu8]; rfl
      have h2 : shr .u64 (u : Int) 8 = ((u / 256 : Nat) : Int) := shr_u64 u 8 (by decide)
      have h3 : acc.length + List.length ([((u % 256 : Nat) : Int)] : List Int) ≤ 4294967296 := by simp; omega
      rw [dT (show (u : Int) > 0 by omega), cond_true, h1, h2, dT h3]
      simp only [decide_true, Bool.and_self, cond_true, dT (show (0 : Int) ≤ 8 by decide)]
      rw [ih (u / 256) _ (by omega) (by simp; omega)]
      simp
theorem set_at {α : Type} (a t : List α) (x v : α) : (a ++ x :: t).set a.length v = a ++ v :: t := by simp
theorem get_at {α : Type} (a t : List α) (x d : α) : (a ++ x :: t).getD a.length d = x := by simp
theorem rev_loop (n : Nat) : ∀ (m : Nat) (mid a b : List Int), a.length = b.length → mid.length < m → (a ++ (mid ++ b)).length < 4294967296 →
    slices_Reverse_l0 n m 0 (a ++ (mid ++ b)).length (a.length : Int) ((a.length : Int) + mid.length - 1) (a ++ (mid ++ b)) = some ((), a ++ (mid.reverse ++ b), ()) := by
  intro m
  induction m with
  | zero => intro mid a b _ h; omega
  | succ m ih =>
    intro mid a b hab hm hl
    rw [slices_Reverse_l0_eq]
    cases mid with
    | nil => rw [dF (by simp only [List.length_nil]; omega)]; rfl
    | cons x t =>
      rcases List.eq_nil_or_concat t with rfl | ⟨u, y, rfl⟩
      · rw [dF (by simp)]; rfl
      · simp only [List.concat_eq_append] at hm hl ⊢
        have e1 : a ++ (x :: (u ++ [y]) ++ b) = a ++ x :: (u ++ y :: b) := by simp
        have e2 : a ++ x :: (u ++ y :: b) = (a ++ x :: u) ++ y :: b := by simp
        rw [e1] at hl ⊢
        have hj : (a.length : Int) + ((x :: (u ++ [y])).length : Nat) - 1 = (((a ++ x :: u).length : Nat) : Int) := by simp; omega
        have hlen : (a ++ x :: (u ++ y :: b)).length = a.length + u.length + 2 + b.length := by simp; omega
        have hln2 : (a ++ x :: u).length = a.length + u.length + 1 := by simp; omega
        rw [hj]
        generalize hK : (a ++ x :: (u ++ y :: b)).length = K at *
        have s1 : (a ++ x :: (u ++ y :: b)).getD (a ++ x :: u).length 0 = y := by rw [e2]; exact get_at _ _ _ _
        have s2 : (a ++ x :: (u ++ y :: b)).getD a.length 0 = x := get_at _ _ _ _
        have s3 : ((a ++ x :: (u ++ y :: b)).set a.length y).set (a ++ x :: u).length x = (a ++ [y]) ++ (u ++ (x :: b)) := by
          rw [set_at, show (a ++ x :: u).length = (a ++ y :: u).length by simp, show a ++ y :: (u ++ y :: b) = (a ++ y :: u) ++ y :: b by simp, set_at]
          simp
        simp only [dlt, d0, Int.toNat_natCast, Nat.zero_add, Bool.true_and, s1, s2, s3, List.length_set, hK]
        rw [dT (show a.length < (a ++ x :: u).length by omega), dT (show (a ++ x :: u).length < K by omega), dT (show a.length < K by omega)]
        simp only [cond_true]
        rw [w64 (x := (a.length : Int) + 1) (by omega) (by omega), w64 (by omega) (by omega)]
        have := ih u (a ++ [y]) (x :: b) (by simp [hab]) (by simp at hm; omega) (by simp at hlen ⊢; omega)
        rw [show ((a ++ [y]) ++ (u ++ (x :: b))).length = K by rw [← hK]; simp <;> omega] at this
        rw [show (((a ++ [y]).length : Nat) : Int) = (a.length : Int) + 1 by simp] at this
        rw [show (a.length : Int) + 1 + (u.length : Int) - 1 = (((a ++ x :: u).length : Nat) : Int) - 1 by omega] at this
        rw [this]
        simp
theorem rev_ok (n : Nat) (w : List Int) (h : w.length < 4294967296) (hn : w.length < n) : slices_Reverse n (w, 0, w.length) = some ((), w.reverse, ()) := by
  rw [slices_Reverse_eq]
  have := rev_loop n n w [] [] rfl hn (by simpa using h)
  simp only [List.nil_append, List.append_nil, List.length_nil] at this
  rw [w64 (by simp only []; omega) (by simp only []; omega)]
  rw [show ((0 : Nat) : Int) + (w.length : Int) - 1 = (w.length : Int) - 1 by omega] at this
  exact this
theorem zig_loop (n u : Nat) (hu : u < 18446744073709551616) (hn : 10 ≤ n) : ∀ (k m : Nat), k ≤ 8 → k < m → ref2_Zigzag_l0 n m (u : Int) ((k : Int) - 1) (lb (u / 256 ^ k)).reverse = some (lb u) := by
  intro k
  induction k with
  | zero =>
    intro m hk hm
    cases m with
    | zero => omega
    | succ m =>
      rw [ref2_Zigzag_l0_eq, dF (show ¬ (((0 : Nat) : Int) - 1 ≥ 0) by decide), cond_false]
      have h8 := lb_len 8 u (Nat.lt_of_lt_of_le hu (by decide))
      simp only [Nat.pow_zero, Nat.div_one]
      rw [rev_ok n _ (by rw [List.length_reverse]; omega) (by rw [List.length_reverse]; omega), bind_some2]
      simp only [List.reverse_reverse, List.length_reverse, decide_true, cond_true]
  | succ k ih =>
    intro m hk hm
    cases m with
    | zero => omega
    | succ m =>
      have hv : (((k + 1 : Nat) : Int) - 1) = (k : Int) := by omega
      rw [ref2_Zigzag_l0_eq, hv, dT (show (k : Int) ≥ 0 by omega), cond_true]
      have h8 : IntKind.wrap .i64 ((8 : Int) * (k : Int)) = ((8 * k : Nat) : Int) := by rw [w64 (by omega) (by omega)]; omega
      have hp : 256 ^ k = 2 ^ (8 * k) := by rw [Nat.pow_mul]
      rw [h8, d0, cond_true, shr_u64 _ _ (by omega), ← hp]
      have hy : u / 256 ^ (k + 1) = (u / 256 ^ k) / 256 := by rw [Nat.pow_succ, Nat.div_div_eq_div_mul]
      rw [hy]
      generalize hyy : u / 256 ^ k = y at ih ⊢
      have hb : IntKind.wrap .u8 (y : Int) = ((y % 256 : Nat) : Int) := by rw [wu8]; rfl
      rw [hb]
      have hyl : y < 256 ^ 8 := by rw [← hyy]; exact Nat.lt_of_le_of_lt (Nat.div_le_self _ _) (Nat.lt_of_lt_of_le hu (by decide))
      have hll := lb_len 8 (y / 256) (Nat.lt_of_le_of_lt (Nat.div_le_self _ _) hyl)
      have h1 : IntKind.wrap .i64 ((k : Int) - 1) = (k : Int) - 1 := w64 (by omega) (by omega)
      have h3 : (lb (y / 256)).reverse.length + List.length ([((y % 256 : Nat) : Int)] : List Int) ≤ 4294967296 := by simp; omega
      rw [h1, dT h3]
      simp only [decide_true, Bool.and_self, cond_true]
      have hrec := ih m (by omega) (by omega)
      by_cases hz : y = 0
      · subst hz
        rw [lb0] at hrec
        simp only [Nat.zero_div, Nat.zero_mod, lb0, List.reverse_nil]
        rw [show decide (((0 : Nat) : Int) = 0) = true from rfl, show decide (((List.length ([] : List Int) : Nat) : Int) > 0) = false from rfl]
        exact hrec
      · rw [lb_pos hz, List.reverse_cons] at hrec
        by_cases hm0 : ((y % 256 : Nat) : Int) = 0
        · rw [dT hm0]
          have hne : y / 256 ≠ 0 := by omega
          have : (((lb (y / 256)).reverse.length : Nat) : Int) > 0 := by rw [lb_pos hne]; simp <;> omega
          rw [dT this]
          exact hrec
        · rw [dF hm0]
          exact hrec
theorem zig_ok (n u : Nat) (hu : u < 18446744073709551616) (hn : 10 ≤ n) : ref2_Zigzag_l0 n n (u : Int) 7 [] = some (lb u) := by
  have := zig_loop n u hu hn 8 n (by decide) (by omega)
  rw [show u / 256 ^ 8 = 0 by apply Nat.div_eq_of_lt; exact Nat.lt_of_lt_of_le hu (by decide), lb0] at this
  exact this
theorem data_ok (n : Nat) (hn : 10 ≤ n) (v : ApiValue) (h1 : -9223372036854775808 ≤ v.N) (h2 : v.N < 9223372036854775808) : ∃ r : List Int, wire_Data n v = some r ∧ ref2_Zigzag n v = some r ∧ (r.length ≤ 8 ∨ r = ints v.S) := by
  rw [wire_Data_eq, ref2_Zigzag_eq]
  cases decide (v.Kind = 5)
  case true => exact ⟨_, rfl, rfl, .inr rfl⟩
  have done : ∀ u : Nat, u < 18446744073709551616 → ∃ r : List Int, wire_Data_l0 n n (u : Int) [] = some r ∧ ref2_Zigzag_l0 n n (u : Int) 7 [] = some r ∧ (r.length ≤ 8 ∨ r = ints v.S) := by
    intro u hu
    have hl := lb_len 8 u (Nat.lt_of_lt_of_le hu (by decide))
    exact ⟨lb u, by rw [data_loop n n u [] (by omega) (by simp; omega)]; rfl, zig_ok n u hu hn, .inl hl⟩
  rw [cond_false, cond_false, show decide (0 ≤ 1) = true from rfl, cond_true]
  have hsh : ∀ x : Int, shl .u64 x 1 = (x * 2) % 18446744073709551616 := by
    intro x
    unfold shl
    rw [wu64]
    rfl
  by_cases hneg : v.N < 0
  · rw [dT hneg, cond_true, cond_true]
    have e1 : shl .u64 (IntKind.wrap .u64 v.N) 1 = (((2 * v.N + 18446744073709551616).toNat : Nat) : Int) := by rw [hsh, wu64]; omega
    have e2 : IntKind.wrap .u64 ((IntKind.wrap .u64 ((2 : Int) * (IntKind.wrap .u64 (IntKind.wrap .i64 (0 - (IntKind.wrap .i64 (v.N + 1))))))) + 1) = (((-(2 * v.N) - 1).toNat : Nat) : Int) := by
      rw [w64 (x := v.N + 1) (by omega) (by omega), w64 (by omega) (by omega), wu64, wu64, wu64]
      omega
    rw [e1, e2, not_u64 _ (by omega)]
    rw [show 18446744073709551615 - (2 * v.N + 18446744073709551616).toNat = (-(2 * v.N) - 1).toNat by omega]
    exact done _ (by omega)
  · rw [dF hneg, cond_false, cond_false]
    have e1 : shl .u64 (IntKind.wrap .u64 v.N) 1 = (((2 * v.N).toNat : Nat) : Int) := by rw [hsh, wu64]; omega
    have e2 : IntKind.wrap .u64 ((2 : Int) * (IntKind.wrap .u64 v.N)) = (((2 * v.N).toNat : Nat) : Int) := by rw [wu64, wu64]; omega
    rw [e1, e2]
    exact done _ (by omega)

theorem name_loop (n : Nat) (l : List Int) (hl : l.length < 9223372036854775807) : ∀ (m k : Nat), k ≤ l.length → l.length - k < m → ∃ b, value_Name_l0 n m l (l.length : Int) (k : Int) = some b := by
  intro m
  induction m with
  | zero => intro k _ h; omega
  | succ m ih =>
    intro k hk hm
    rw [value_Name_l0_eq, dlt]
    by_cases h : k < l.length
    · have hb := ih (k + 1) (by omega) (by omega)
      rw [i64_succ (by omega)]
      simp only [dT h, d0, Bool.and_self, cond_true]
      repeat (first | exact hb | exact ⟨_, rfl⟩ | apply ex_cond)
    · rw [dF h]
      exact ⟨_, rfl⟩
theorem name_ok (n : Nat) (s : List UInt8) (hs : s.length < 9223372036854775807) (hn : s.length < n) : ∃ b, value_Name n s = some b := by
  rw [value_Name_eq]
  cases s with
  | nil => exact ⟨_, rfl⟩
  | cons c s =>
    have h0 : (0 : Int) < (((c :: s).length : Nat) : Int)   := by simp only [List.length_cons]; omega
    have hl : (ints (c :: s)).length = (c :: s).length := by simp [ints]
    have hb := name_loop n (ints (c :: s)) (by omega) n 0 (Nat.zero_le _) (by omega)
    simp only [dT h0, d00, Bool.and_self, cond_true]
    repeat (first | exact hb | exact ⟨_, rfl⟩ | apply ex_cond)

theorem idx_loop (n : Nat) (l : List Int) (v : Int) (hl : l.length < 9223372036854775807) : ∀ (m k : Nat), k ≤ l.length → l.length - k < m → ∃ r : Int, slices_Index_l0 n m l v (l.length : Int) (k : Int) = some r ∧ decide (r ≥ 0) = (l.drop k).any (fun x => decide (v = x)) := by
  intro m
  induction m with
  | zero => intro k _ h; omega
  | succ m ih =>
    intro k hk hm
    rw [slices_Index_l0_eq, dlt]
    by_cases h : k < l.length
    · obtain ⟨r, h1, h2⟩ := ih (k + 1) (by omega) (by omega)
      rw [i64_succ (by omega)]
      simp only [dT h, d0, Bool.and_self, cond_true, Int.toNat_natCast, dlt, getD_lt _ h]
      rw [any_drop h]
      cases hc : decide (v = l[k]) with
      | true => exact ⟨_, rfl, by simp⟩
      | false => exact ⟨r, h1, by rw [h2]; rfl⟩
    · rw [dF h, drop_len h]
      exact ⟨_, rfl, rfl⟩
theorem contains_ok (n : Nat) (v : Int) (hn : 10 < n) : slices_Contains n [1, 2, 5] v = some (decide (v = 1) || (decide (v = 2) || (decide (v = 5) || false))) := by
  rw [slices_Contains_eq, slices_Index_eq]
  obtain ⟨r, h1, h2⟩ := idx_loop n [1, 2, 5] v (by decide) n 0 (by simp) (by simp; omega)
  rw [show ((0 : Nat) : Int) = 0 from rfl] at h1
  rw [h1, bind_some2, h2]
  rfl

theorem twice_loop (n m0 : Nat) (v0 : List Spec) (v3 : Int) (v12 : List Spec) (v13 v14 : Int) (l : List Spec) (s : Spec) (hl : l.length < 9223372036854775807) : ∀ (m k : Nat) (b : Bool), k ≤ l.length → l.length - k < m →
    ref2_SpecsErr_l2 n m0 m v0 v3 b v12 v13 v14 l (l.length : Int) (k : Int) s = ref2_SpecsErr_l2 n m0 1 v0 v3 (b || (l.drop k).any fun x => x.Name == s.Name) v12 v13 v14 l (l.length : Int) (l.length : Int) s := by
  intro m
  induction m with
  | zero => intro k _ _ h; omega
  | succ m ih =>
    intro k b hk hm
    by_cases h : k < l.length
    · rw [ref2_SpecsErr_l2_eq, dlt]
      rw [i64_succ (by omega)]
      simp only [dT h, d0, Bool.and_self, cond_true, Int.toNat_natCast, dlt, getD_lt _ h]
      rw [any_drop h]
      cases b with
      | true => rw [cond_true, ih (k + 1) true (by omega) (by omega)]; simp
      | false => rw [cond_false, ih (k + 1) _ (by omega) (by omega)]; simp
    · have : k = l.length := by omega
      subst this
      rw [drop_len h, ref2_SpecsErr_l2_eq, ref2_SpecsErr_l2_eq, dlt, dF h]
      simp
theorem has_loop (n : Nat) (l : List Spec) (s : Spec) (hl : l.length < 9223372036854775807) : ∀ (m k : Nat), k ≤ l.length → l.length - k < m → ∃ r : Int, slices_IndexFunc_l0 n m l s (l.length : Int) (k : Int) = some r ∧ decide (r ≥ 0) = (l.drop k).any (fun x => x.Name == s.Name) := by
  intro m
  induction m with
  | zero => intro k _ h; omega
  | succ m ih =>
    intro k hk hm
    rw [slices_IndexFunc_l0_eq, dlt]
    by_cases h : k < l.length
    · obtain ⟨r, h1, h2⟩ := ih (k + 1) (by omega) (by omega)
      rw [i64_succ (by omega)]
      simp only [dT h, d0, Bool.and_self, cond_true, Int.toNat_natCast, dlt, getD_lt _ h, wire_Check_1_eq, bind_some2]
      rw [any_drop h]
      cases hc : (l[k].Name == s.Name) with
      | true => exact ⟨_, rfl, by simp⟩
      | false => exact ⟨r, h1, by rw [h2]; rfl⟩
    · rw [dF h, drop_len h]
      exact ⟨_, rfl, rfl⟩
theorem has_ok (n : Nat) (l : List Spec) (s : Spec) (hl : l.length < 9223372036854775807) (hn : l.length < n) : slices_ContainsFunc n l (s, ()) = some (l.any fun x => x.Name == s.Name) := by
  rw [slices_ContainsFunc_eq, slices_IndexFunc_eq]
  obtain ⟨r, h1, h2⟩ := has_loop n l s hl n 0 (by omega) (by omega)
  rw [show ((0 : Nat) : Int) = 0 from rfl] at h1
  rw [h1, bind_some2, h2]
  rfl

/-- Both look at the descriptions alike. -/
theorem check_loop (n : Nat) (l : List Spec) (hl : l.length < 9223372036854775807) (hn : l.length < n) (hn10 : 10 < n) (hnm : ∀ s ∈ l, ∃ b, value_Name n s.Name = some b) : ∀ (m k : Nat) (last : Int), k ≤ l.length → l.length - k < m → (k = 0 → last = 0) → (∀ j, k = j + 1 → ∃ h : j < l.length, last = l[j].Tag) → (k = 0 ∨ 0 < last) →
    ∃ r, ref2_SpecsErr_l0 n m l last l (l.length : Int) (k : Int) = some r ∧ wire_Check_l0 n m l l (l.length : Int) (k : Int) = some r := by
  intro m
  induction m with
  | zero => intro k _ _ h; omega
  | succ m ih =>
    intro k last hk hm h0 h1 hp
    rw [ref2_SpecsErr_l0_eq, wire_Check_l0_eq, dlt]
    by_cases h : k < l.length
    · rw [i64_succ (by omega)]
      simp only [dT h, d0, Bool.and_self, cond_true, Int.toNat_natCast, dlt, dle, getD_lt _ h, dT hk, Bool.true_and]
      have htl : (l.take k).length = k := by simp; omega
      have ht := twice_loop n m l last l (l.length : Int) (k : Int) (l.take k) l[k] (by omega) n 0 false (by omega) (by omega)
      rw [show ((0 : Nat) : Int) = 0 from rfl] at ht
      rw [ht, ref2_SpecsErr_l2_eq, i64_succ (k := k) (by omega)]
      have hF : ¬ (l.take k).length < (l.take k).length := Nat.lt_irrefl _
      simp only [dlt, dF hF, cond_false, Bool.false_or, List.drop_zero, has_ok n (l.take k) l[k] (by omega) (by omega), bind_some2, contains_ok n _ hn10]
      obtain ⟨b, hb⟩ := hnm l[k] (List.getElem_mem _)
      rw [hb]
      simp only [bind_some2]
      generalize hany : (l.take k).any (fun x => x.Name == l[k].Name) = tw
      by_cases t1 : l[k].Tag ≤ 0
      · have t2 : l[k].Tag < 1 := by omega
        simp only [dT t1, dT t2, cond_true]
        exact ⟨_, rfl, rfl⟩
      have t2 : ¬ l[k].Tag < 1 := by omega
      simp only [dF t1, dF t2, cond_false]
      cases decide (l[k].Tag > 1000)
      case true => exact ⟨_, rfl, rfl⟩
      cases b
      case false => exact ⟨_, rfl, rfl⟩
      have key : ∃ r, (bif tw then some 5 else bif decide (l[k].Tag ≤ last) then some 9 else ref2_SpecsErr_l0 n m l l[k].Tag l (l.length : Int) ((k + 1 : Nat) : Int)) = some r ∧
        (bif tw then some 5 else bif decide ((k : Int) > 0) then (bif decide (0 ≤ IntKind.wrap .i64 ((k : Int) - 1)) && decide (IntKind.wrap .i64 ((k : Int) - 1) < (l.length : Int)) then (bif decide ((List.getD l (Int.toNat (IntKind.wrap .i64 ((k : Int) - 1))) (Spec.mk 0 [] 0 false)).Tag ≥ l[k].Tag) then some 9 else wire_Check_l0 n m l l (l.length : Int) ((k + 1 : Nat) : Int)) else none) else wire_Check_l0 n m l l (l.length : Int) ((k + 1 : Nat) : Int)) = some r := by
        obtain ⟨r, r1, r2⟩ := ih (k + 1) l[k].Tag (by omega) (by omega) (by omega) (fun j hj => ⟨by omega, by congr 1; congr 1; omega⟩) (.inr (by omega))
        cases tw
        case true => exact ⟨_, rfl, rfl⟩
        simp only [cond_false]
        cases k with
        | zero =>
          have := h0 rfl
          subst this
          simp only [dF t1, cond_false]
          exact ⟨r, r1, r2⟩
        | succ j =>
          obtain ⟨hj, hlast⟩ := h1 j rfl
          rw [i64_pred (by omega)]
          have hpos : ((j + 1 : Nat) : Int) > 0 := by omega
          simp only [dT hpos, d0, dlt, dT hj, Bool.and_self, cond_true, Int.toNat_natCast, getD_lt _ hj]
          rw [hlast]
          by_cases hle : l[j + 1].Tag ≤ l[j].Tag
          · have hge : l[j].Tag ≥ l[j + 1].Tag := hle
            simp only [dT hle, dT hge, cond_true]
            exact ⟨_, rfl, rfl⟩
          · have hge : ¬ l[j].Tag ≥ l[j + 1].Tag := hle
            simp only [dF hle, dF hge, cond_false]
            exact ⟨r, r1, r2⟩
      cases decide (l[k].Kind = 1) <;> cases decide (l[k].Kind = 2) <;> cases decide (l[k].Kind = 5) <;> first | exact key | exact ⟨_, rfl, rfl⟩
    · rw [dF h]
      exact ⟨_, rfl, rfl⟩
theorem check_same (n : Nat) (l : List Spec) (hl : l.length < 9223372036854775807) (hn : l.length < n) (hn10 : 10 < n) (hnm : ∀ s ∈ l, ∃ b, value_Name n s.Name = some b) : ∃ r, ref2_SpecsErr n l = some r ∧ wire_Check n l = some r := by
  rw [ref2_SpecsErr_eq, wire_Check_eq]
  cases decide ((l.length : Int) > 24)
  case true => exact ⟨_, rfl, rfl⟩
  exact check_loop n l hl hn hn10 hnm n 0 0 (by omega) (by omega) (fun _ => rfl) (fun j h => by omega) (.inl rfl)

theorem put_small (n m : Nat) (v : List Int) (x : Int) (hx : ¬ x > 127) (hv : v.length + 1 ≤ 4294967296) : wire_put_l0 n (m + 1) v x v.length = some (v ++ [IntKind.wrap .u8 x], (v ++ [IntKind.wrap .u8 x]).length, ()) := by
  rw [wire_put_l0_eq, dF hx, cond_false, dT rfl, dT (by simpa using hv), dT rfl]
  rfl
theorem eq_a (p : Nat) : slices_Equal (p + 12) [1, 1, 97] [1, 1, 97] = some true := by
  have w1 : IntKind.wrap .i64 ((0 : Int) + 1) = 1 := by decide
  have w2 : IntKind.wrap .i64 ((1 : Int) + 1) = 2 := by decide
  have w3 : IntKind.wrap .i64 ((2 : Int) + 1) = 3 := by decide
  rw [slices_Equal_eq, show ([1, 1, 97] : List Int).length = 3 from rfl, show decide (((3 : Nat) : Int) = ((3 : Nat) : Int)) = true from rfl]
  rw [slices_Equal_l0_eq, w1, slices_Equal_l0_eq, w2, slices_Equal_l0_eq, w3, slices_Equal_l0_eq]
  rfl
theorem encode_a (p : Nat) : wire_Encode (p + 12) [WireField.mk 1 [97]] = some ([1, 1, 97], 0) := by
  have h1 : wire_put (p + 12) (([] : List Int), 0) 1 = some ([1], 1, ()) := by rw [wire_put_eq]; exact put_small (p + 12) (p + 11) [] 1 (by decide) (by decide)
  have h2 : wire_put (p + 12) (([1] : List Int), 1) ((1 : Nat) : Int) = some ([1, 1], 2, ()) := by rw [wire_put_eq]; exact put_small (p + 12) (p + 11) [1] 1 (by decide) (by decide)
  have w1 : IntKind.wrap .i64 ((0 : Int) + 1) = 1 := by decide
  rw [wire_Encode_eq, wire_Encode_l0_eq, w1]
  rw [show List.getD [WireField.mk 1 [97]] (Int.toNat 0) (WireField.mk 0 []) = WireField.mk 1 [97] from rfl]
  rw [show ([] : List Int).length = 0 from rfl, h1]
  simp only [bind_some2]
  rw [show ([97] : List Int).length = 1 from rfl, h2, bind_some2, wire_Encode_l0_eq]
  rfl
theorem wires_ok (p : Nat) : law2_wires (p + 12) = some true := by
  rw [law2_wires_eq, encode_a, bind_some2, eq_a]
  rfl


theorem law_ok (x0 : List WireField) (x1 : List Int) (x2 : List Spec) (x3 : ApiValue) (h0 : ∀ g, Fv.Good E g (.sl (.nm 0)) x0) (h1 : ∀ g, Fv.Good E g (.sl (.int .u8)) x1) (h2 : ∀ g, Fv.Good E g (.sl (.nm 1)) x2) (h3 : ∀ g, Fv.Good E g (.nm 2) x3)
    (hb : ∀ g, Bulk E g (.sl (.nm 0)) x0 + Bulk E g (.sl (.int .u8)) x1 + Bulk E g (.sl (.nm 1)) x2 + Bulk E g (.nm 2) x3 ≤ 1048576) : ∃ n, law2_WireFields n x0 x1 x2 x3 = some true := by
  have b0 : ∀ f ∈ x0, f.Data.length + 1 ≤ 1048576 := by
    intro f hf
    have h := hb 1
    have hm : Bulk E 1 (.nm 0) f ≤ (List.map (Bulk E 1 (.nm 0)) x0).sum := mem_sum (List.mem_map.2 ⟨f, hf, rfl⟩)
    have h5 : Bulk E 1 (.sl (.nm 0)) x0 = (List.map (Bulk E 1 (.nm 0)) x0).sum + 1 := rfl
    have h6 : Bulk E 1 (.nm 0) f = 1 + ((List.map (fun _ : Int => 1) f.Data).sum + 1) := rfl
    have h7 : (List.map (fun _ : Int => 1) f.Data).sum = f.Data.length := sum_ones _
    omega
  have bn : ∀ s ∈ x2, s.Name.length ≤ 1048576 := by
    intro s hs
    have h := hb 1
    have hm : Bulk E 1 (.nm 1) s ≤ (List.map (Bulk E 1 (.nm 1)) x2).sum := mem_sum (List.mem_map.2 ⟨s, hs, rfl⟩)
    have h5 : Bulk E 1 (.sl (.nm 1)) x2 = (List.map (Bulk E 1 (.nm 1)) x2).sum + 1 := rfl
    have h6 : Bulk E 1 (.nm 1) s = 1 + ((s.Name.length + 1) + (1 + 1)) := rfl
    omega
  have bv : x3.S.length ≤ 1048576 := by
    have h := hb 1
    have h6 : Bulk E 1 (.nm 2) x3 = 1 + (1 + ((x3.S.length + 1) + ((List.map (Bulk E 0 (.nm 3)) x3.Fields).sum + 1))) := rfl
    omega
  have l0 : x0.length < 1048576 * 9 := by
    have := (h0 0).1
    have h := hb 0
    by_cases hx : x0.length ≤ 1048576
    · omega
    · exfalso
      have h := hb 1
      have h5 : Bulk E 1 (.sl (.nm 0)) x0 = (List.map (fun f : WireField => Bulk E 1 (.nm 0) f) x0).sum + 1 := rfl
      have := sum_gm (fun f : WireField => Bulk E 1 (.nm 0) f) x0 fun f _ => by
        have h6 : Bulk E 1 (.nm 0) f = 1 + ((List.map (fun _ : Int => 1) f.Data).sum + 1) := rfl
        omega
      omega
  have l2 : x2.length ≤ 1048576 := by
    have h := hb 1
    have h5 : Bulk E 1 (.sl (.nm 1)) x2 = (List.map (fun f : Spec => Bulk E 1 (.nm 1) f) x2).sum + 1 := rfl
    have := sum_gm (fun f : Spec => Bulk E 1 (.nm 1) f) x2 fun s _ => by
      have h6 : Bulk E 1 (.nm 1) s = 1 + ((s.Name.length + 1) + (1 + 1)) := rfl
      omega
    omega
  have by1 : Byt x1 := by
    intro x hx
    have h : (Lit.int .u8 x).wf = true := (h1 0).2 x hx
    simp [Lit.wf, IntKind.min, IntKind.max, IntKind.signed, IntKind.bits] at h
    omega
  have hN : -9223372036854775808 ≤ x3.N ∧ x3.N < 9223372036854775808 := by
    have h : (Lit.int .i64 x3.N).wf = true := (h3 1).2.1
    simp [Lit.wf, IntKind.min, IntKind.max, IntKind.signed, IntKind.bits] at h
    omega
  obtain ⟨p, hp⟩ : ∃ p : Nat, 10000000 < p := ⟨_, Nat.lt_succ_self _⟩
  refine ⟨p + 12, ?_⟩
  have hw : law2_wires (p + 12) = some true := wires_ok p
  generalize hn : p + 12 = n at hw ⊢
  obtain ⟨r1, a1, a2, ar⟩ : ∃ r, wire_Encode n x0 = some r ∧ ref2_Sent n x0 = some r ∧ r.1.length ≤ 8000 := by
    obtain ⟨r, a1, a2⟩ := enc_ok n x0 (by omega) (fun f hf => by have := b0 f hf; omega) (by omega) (by omega)
    exact ⟨r, a1, a2, enc_len n x0 (by omega) (fun f hf => by have := b0 f hf; omega) (by omega) (by omega) r a1⟩
  obtain ⟨r2, c1, c2⟩ := dec_ok n (by omega) x1 by1
  have cr := dec_len n (by omega) x1 by1 r2 c1
  obtain ⟨r3, d1, d2⟩ := check_same n x2 (by omega) (by omega) (by omega) fun s hs => name_ok n s.Name (by have := bn s hs; omega) (by have := bn s hs; omega)
  obtain ⟨r4, e1, e2, er⟩ := data_ok n (by omega) x3 hN.1 hN.2
  have er : r4.length ≤ 1048576 := by
    rcases er with er | er
    · omega
    · rw [er]; simpa [ints] using bv
  rw [law2_WireFields_eq, a1, bind_some2, a2, bind_some2, c1, bind_some2, c2, bind_some2, hw, bind_some2, cond_true, dT rfl, cond_true, eq_ok n _ (by omega) (by omega), bind_some2, cond_true, dT rfl, cond_true,
    same_ok n _ (by omega) (by omega), bind_some2, cond_true, d2, bind_some2, d1, bind_some2, dT rfl, cond_true, e1, bind_some2, e2, bind_some2, eq_ok n _ (by omega) (by omega)]
  rfl
end Go.Proofs.Ytmkocofcohmnpaa.PWireFields
