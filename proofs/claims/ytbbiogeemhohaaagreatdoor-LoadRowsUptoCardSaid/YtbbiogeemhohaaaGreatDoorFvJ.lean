/- An evaluator of the model's code, part 10: Rows into which elements are inserted by slices.Insert. Under the contract of that call. No condition. -/
import Derived.Test.YtbbiogeemhohaaaGreatDoorFvI
import Derived.Laws.IdiomCopy
import Derived.Deep.Draws
import Derived.Laws.Externs
import Derived.Shelf.Spec.SlicesInsertGrow
import Derived.Shelf.Lay
set_option linter.unusedVariables false
set_option linter.unusedSectionVars false
set_option linter.unusedSimpArgs false
/-! Rows into which elements are inserted by slices.Insert. Under the contract of that call. -/
namespace Go.Proofs.YtbbiogeemhohaaaGreatDoor.Fv
variable [Quiet]
variable {E : Env} {P : Program} {gl : Nat → AV E}

/-- Two slices in two blocks, of which the second is plain memory, do not overlap. -/
theorem run_overlaps_row {P : Program} {tS tR e : TypeId} (ht : P.underlying tS = some (.slice e)) {size : Nat} (hz : ∀ w, (Go.sizeOf e).run P w = .ok size w) (w : World) (a b : Addr) (la ca lb cb : Nat) (hne : a.block ≠ b.block)
    (A : Array Value) (tA : TypeId) (fA : Nat × Nat) (B : Array Value) (tB : TypeId) (hA : w.heap[a.block]? = some (.cells A tA fA)) (hA0 : 0 < A.size) (hB : w.heap[b.block]? = some (.cells B tB (0, 0))) :
    (Extern.SlicesOverlaps.overlaps #[tS, tS] #[tR] #[.slice (some a) la ca, .slice (some b) lb cb]).run P w = .ok (.bool false) w := by
  have h1 : (a.block != b.block) = true := by simpa using hne
  have h2 : (a.block == b.block) = false := by simpa using hne
  have sA : w.shape? a.block = some (tA, A.size) := by simp [World.shape?, hA]
  have sB : w.shape? b.block = some (tB, B.size) := by simp [World.shape?, hB]
  have fB : ∀ o s, w.frozen? ⟨b.block, o, s⟩ = false := fun o s => by simp [World.frozen?, hB]
  have fB' : w.frozen? b = false := fB b.off b.spot
  change Sem.run P (α := Value) (do
    let some t := (#[tS, tS] : Array TypeId)[0]? | stuck "slices.overlaps: no parameter types"
    let .slice elem ← underlying t | stuck "slices.overlaps: slice type expected"
    let size ← sizeOf elem
    match (some a : Option Addr), (some b : Option Addr) with
    | some a, some b =>
      if la = 0 ∨ lb = 0 ∨ size = 0 then pure (Value.bool false)
      else if a.block != b.block && (← frozen a) && (← frozen b) then unsupported .addressObserved
      else do
        if a.block != b.block then do
          noView a; noView b
          if ← mayBeOne a b then return Value.bool ((← choose (.extern "sameAddr.stringBytes" 2)) == 1)
        pure (Value.bool (a.block == b.block && a.off < b.off + lb * size && b.off < a.off + la * size))
    | _, _ => pure (Value.bool false)) w = _
  by_cases h0 : la = 0 ∨ lb = 0 ∨ size = 0
  · simp [run_underlying ht, hz, h0]
  · obtain ⟨kA, hkA⟩ : ∃ k, A.size = k + 1 := ⟨A.size - 1, by omega⟩
    rw [hkA] at sA
    cases hfa : w.frozen? a <;> cases hfe : w.frozen? { block := a.block, off := kA + 1 } <;>
      simp [run_underlying ht, hz, h0, h1, h2, frozen, noView, viewAt, mayBeOne, stringish, shape, Sem.run, sA, sB, hfa, hfe, fB', fB]

/-- Elements, put in at a place. -/
def insO {A : Type} (xs : List A) (ln : Nat) (i : Int) (vs : List A) : Option (List A) :=
  bif decide (ln = xs.length ∧ 0 ≤ i ∧ i ≤ (ln : Int) ∧ ln + vs.length ≤ 1000000000) then some (xs.take i.toNat ++ vs ++ xs.drop i.toNat) else none

/-- A world that is as another one, but for a block. -/
structure NearI (w : World) (blk : Option Nat) (W : World) : Prop where
  size : w.heap.size ≤ W.heap.size
  old : ∀ g, g < w.heap.size → some g ≠ blk → W.heap[g]? = w.heap[g]?
  os : W.os = w.os
  tape : SameT W w
  output : W.output = w.output

/-- What a slice of a row's elements has. -/
def RowAt (w : World) (base : Option Addr) (c : Nat) (cs : List Value) : Option Nat → Prop
  | none => c = 0 ∧ cs = []
  | some g => 0 < c ∧ ∃ A T, base = some ⟨g, 0, none⟩ ∧ w.heap[g]? = some (.cells A T (0, 0)) ∧ A.size = c ∧ ∃ rest, A.toList = cs ++ rest

/-- slices.Insert, of elements of one cell. -/
def InsC (P : Program) (f : FuncId) : Prop := ∀ (cs vs : List Value) (base vbase : Option Addr) (c vc i : Nat) (g : Option Nat) (w : World),
  i ≤ cs.length → cs.length + vs.length ≤ 1000000000 → cs.length ≤ c → (∀ v ∈ cs, v.oneCell' = true) → (∀ v ∈ vs, v.oneCell' = true) → RowAt w base c cs g →
  (vs ≠ [] → ∃ a, vbase = some a ∧ a.spot = none ∧ some a.block ≠ g ∧ ∀ j v, vs[j]? = some v → w.cell? (a.add j) = some v) →
  Calls P f #[.slice base cs.length c, .int .i64 i, .slice vbase vs.length vc] w fun e w' => ∃ base' c' g', e = .returned (.slice base' (cs.length + vs.length) c') ∧ cs.length + vs.length ≤ c' ∧
    RowAt w' base' c' (cs.take i ++ vs ++ cs.drop i) g' ∧ NearI w g w' ∧ ∀ n, g' = some n → some n = g ∨ w.heap.size ≤ n

theorem NearI.refl' (w W : World) (h : W.heap = w.heap) (ho : W.os = w.os) (ht : SameT W w) (hu : W.output = w.output) (b : Option Nat) : NearI w b W :=
  ⟨by rw [h]; exact Nat.le_refl _, fun g _ _ => by rw [h], ho, ht, hu⟩
theorem NearI.trans {b : Option Nat} {w w' w'' : World} (h : NearI w b w') (h' : NearI w' b w'') : NearI w b w'' :=
  ⟨Nat.le_trans h.size h'.size, fun g hg hb => (h'.old g (Nat.lt_of_lt_of_le hg h.size) hb).trans (h.old g hg hb), h'.os.trans h.os, h'.tape.trans h.tape, h'.output.trans h.output⟩
theorem NearI.new {b b' : Option Nat} {w w' : World} (h : NearI w b w') (hb : ∀ g, b = some g → w.heap.size ≤ g) : NearI w b' w' :=
  ⟨h.size, fun g hg _ => h.old g hg fun he => by have := hb g he.symm; omega, h.os, h.tape, h.output⟩
theorem setCells_heap (b : Nat) : ∀ (vs : List Value) (o : Nat) (w : World) (A : Array Value) (T : TypeId), w.heap[b]? = some (.cells A T (0, 0)) → o + vs.length ≤ A.size →
    ∃ A', (w.setCells b o vs).heap[b]? = some (.cells A' T (0, 0)) ∧ A'.size = A.size ∧ A'.toList = A.toList.take o ++ vs ++ A.toList.drop (o + vs.length) ∧ NearI w (some b) (w.setCells b o vs)
  | [], o, w, A, T, h, hs => ⟨A, h, rfl, by simp, .refl' _ _ rfl rfl ⟨rfl, fun _ => Nat.le_refl _⟩ rfl _⟩
  | v :: r, o, w, A, T, h, hs => by
    simp only [List.length_cons] at hs
    have hlt : b < w.heap.size := (Array.getElem?_eq_some_iff.1 h).1
    have hg : w.heap[b] = .cells A T (0, 0) := (Array.getElem?_eq_some_iff.1 h).2
    have h1 : (w.setCell ⟨b, o, none⟩ v).heap[b]? = some (.cells (A.setIfInBounds o v) T (0, 0)) := by
      simp only [World.setCell]
      rw [Array.getElem?_modify]
      simp [h]
    obtain ⟨A', k1, k2, k3, k4⟩ := setCells_heap b r (o + 1) (w.setCell ⟨b, o, none⟩ v) _ T h1 (by rw [Array.size_setIfInBounds]; omega)
    have n0 : NearI w (some b) (w.setCell ⟨b, o, none⟩ v) := by
      refine ⟨?_, ?_, rfl, ⟨rfl, fun _ => Nat.le_refl _⟩, rfl⟩
      · simp only [World.setCell, Array.size_modify]; exact Nat.le_refl _
      · intro g hg hb
        simp only [World.setCell]
        rw [Array.getElem?_modify]
        rw [if_neg (fun he => hb (by rw [he]))]
    refine ⟨A', k1, by rw [k2, Array.size_setIfInBounds], ?_, n0.trans k4⟩
    · rw [k3, Array.toList_setIfInBounds]
      have e1 : (A.toList.set o v).take (o + 1) = A.toList.take o ++ [v] := by
        rw [List.take_set, List.take_add_one]
        have : A.toList[o]? = some (A.toList[o]'(by simp; omega)) := List.getElem?_eq_getElem _
        rw [this]
        simp only [Option.toList_some]
        rw [List.set_append_right _ _ (by simp; omega)]
        have : o - (A.toList.take o).length = 0 := by simp; omega
        rw [this]
        rfl
      rw [e1, List.drop_set_of_lt (by omega)]
      simp [Nat.add_assoc, Nat.add_comm 1]
theorem cell_cells {w : World} {b o : Nat} {v : Value} (h : w.cell? ⟨b, o, none⟩ = some v) : ∃ A T fr, w.heap[b]? = some (.cells A T fr) ∧ o < A.size ∧ A[o]? = some v := by
  unfold World.cell? at h
  split at h
  · rename_i A T fr hb
    exact ⟨A, T, fr, hb, (Array.getElem?_eq_some_iff.1 h).1, h⟩
  · cases h

section
variable (P : Program) (f : FuncId) (Z : Value) (e : TypeId)
def RdNil : Prop := ∀ (sv : Option Addr) (n c i vc : Nat) (vv : Option Addr) (w : World), i ≤ n → n ≤ c → Calls P f #[.slice sv n c, .int .i64 i, .slice vv 0 vc] w fun e w' => e = .returned (.slice sv n c) ∧ w' = w
def RdShift : Prop := ∀ (b n c i m vb vo vc : Nat) (cs vs : List Value) (w : World) (A : Array Value) (tA : TypeId) (fA : Nat × Nat) (B : Array Value) (tB : TypeId), i < n → 0 < m → n + m ≤ c → n + m ≤ 1000000000 → vb ≠ b →
    w.heap[vb]? = some (.cells A tA fA) → 0 < A.size → w.heap[b]? = some (.cells B tB (0, 0)) → B.size = c → cs.length = n → vs.length = m →
    (∀ (j : Nat) (v : Value), cs[j]? = some v → B[j]? = some v) → (∀ (j : Nat) (v : Value), vs[j]? = some v → w.cell? ⟨vb, vo + j, none⟩ = some v) → (∀ v ∈ cs, v.oneCell' = true) → (∀ v ∈ vs, v.oneCell' = true) →
    Calls P f #[.slice (some ⟨b, 0, none⟩) n c, .int .i64 i, .slice (some ⟨vb, vo, none⟩) m vc] w fun e w' => e = .returned (.slice (some ⟨b, 0, none⟩) (n + m) c) ∧ w' = (w.drew.setCells b (i + m) (cs.drop i)).setCells b i vs
def RdEndRoom : Prop := ∀ (b n c m vb vo vc : Nat) (vs : List Value) (w : World) (B : Array Value) (tB : TypeId), 0 < m → n + m ≤ c → n + m ≤ 1000000000 → w.heap[b]? = some (.cells B tB (0, 0)) → B.size = c → vs.length = m →
    (∀ (j : Nat) (v : Value), vs[j]? = some v → w.cell? ⟨vb, vo + j, none⟩ = some v) → (∀ v ∈ vs, v.oneCell' = true) →
    Calls P f #[.slice (some ⟨b, 0, none⟩) n c, .int .i64 n, .slice (some ⟨vb, vo, none⟩) m vc] w fun e w' => e = .returned (.slice (some ⟨b, 0, none⟩) (n + m) c) ∧ w' = w.setCells b n vs
def RdEndGrow : Prop := ∀ (base : Option Addr) (n c m vb vo vc : Nat) (cs vs : List Value) (w : World), 0 < m → n ≤ c → c < n + m → n + m ≤ 1000000000 → cs.length = n → vs.length = m → (base = none → n = 0) →
    (∀ a, base = some a → ∀ (j : Nat) (v : Value), cs[j]? = some v → w.cell? (a.add j) = some v) → (∀ (j : Nat) (v : Value), vs[j]? = some v → w.cell? ⟨vb, vo + j, none⟩ = some v) → (∀ v ∈ vs, v.oneCell' = true) →
    Calls P f #[.slice base n c, .int .i64 n, .slice (some ⟨vb, vo, none⟩) m vc] w fun e' w' => e' = .returned (.slice (some ⟨w.heap.size, 0, none⟩) (n + m) (grownCap w (n + m) c e)) ∧
      w' = w.drew.alloc (.cells ((cs ++ vs).toArray ++ Builtin.zeroCells Z.cells (grownCap w (n + m) c e - (n + m))) e)
def RdGrow : Prop := ∀ (b n c i m vb vo vc : Nat) (cs vs : List Value) (w : World), i < n → 0 < m → n ≤ c → c < n + m → n + m ≤ 1000000000 → cs.length = n → vs.length = m →
    (∀ (j : Nat) (v : Value), cs[j]? = some v → w.cell? ⟨b, j, none⟩ = some v) → (∀ (j : Nat) (v : Value), vs[j]? = some v → w.cell? ⟨vb, vo + j, none⟩ = some v) → (∀ v ∈ cs, v.oneCell' = true) → (∀ v ∈ vs, v.oneCell' = true) →
    Calls P f #[.slice (some ⟨b, 0, none⟩) n c, .int .i64 i, .slice (some ⟨vb, vo, none⟩) m vc] w fun e' w' => e' = .returned (.slice (some ⟨w.heap.size, 0, none⟩) (n + m) (grownCap w (n + m) c e)) ∧
      w' = (((w.alloc (.cells ((cs.take i).toArray ++ Builtin.zeroCells Z.cells (n + m - i) ++ Builtin.zeroCells Z.cells (grownCap w (n + m) c e - (n + m))) e)).drew.setCells w.heap.size i vs).drew).setCells w.heap.size (i + m) (cs.drop i)
end
theorem zeroCells_one {z : Value} (hz : z.cells.size = 1) (k : Nat) : (Builtin.zeroCells z.cells k).toList.length = k := by
  have := Go.size_zeroCells z.cells k
  rw [Array.length_toList, this, hz, Nat.mul_one]
theorem insC_of {P : Program} {f : FuncId} {Z : Value} {e : TypeId} (hz : Z.cells.size = 1) (h0 : RdNil P f) (h1 : RdShift P f) (h2 : RdEndRoom P f) (h3 : RdEndGrow P f Z e) (h4 : RdGrow P f Z e) : InsC P f := by
  intro cs vs base vbase c vc i g w hi hbig hcc hc1 hv1 hra hvs
  by_cases hm : vs = []
  · subst hm
    refine Calls.mono (h0 base cs.length c i vc vbase w hi hcc) ?_
    rintro e' w' ⟨rfl, rfl⟩
    refine ⟨base, c, g, by simp, by simpa using hcc, ?_, .refl' _ _ rfl rfl ⟨rfl, fun _ => Nat.le_refl _⟩ rfl _, fun n h => .inl h.symm⟩
    simpa using hra
  · obtain ⟨⟨vb, vo, vs0⟩, rfl, hsp, hne, hcell⟩ := hvs hm
    simp only at hsp
    subst hsp
    simp only [Addr.add_lit] at hcell
    have hpos : 0 < vs.length := by cases vs with
      | nil => exact absurd rfl hm
      | cons _ _ => simp
    -- a new row behind all
    have grow : ∀ (hend : i = cs.length), c < cs.length + vs.length → (base = none → cs.length = 0) → (∀ a, base = some a → ∀ (j : Nat) (v : Value), cs[j]? = some v → w.cell? (a.add j) = some v) →
        Calls P f #[.slice base cs.length c, .int .i64 i, .slice (some ⟨vb, vo, none⟩) vs.length vc] w fun e w' => ∃ base' c' g', e = .returned (.slice base' (cs.length + vs.length) c') ∧ cs.length + vs.length ≤ c' ∧
          RowAt w' base' c' (cs.take i ++ vs ++ cs.drop i) g' ∧ NearI w g w' ∧ ∀ n, g' = some n → some n = g ∨ w.heap.size ≤ n := by
      rintro rfl hroom hnil hcs
      refine Calls.mono (h3 base cs.length c vs.length vb vo vc cs vs w hpos hcc hroom hbig rfl rfl hnil hcs hcell hv1) ?_
      rintro e' w' ⟨rfl, rfl⟩
      have hG := grownCap_ge w (cs.length + vs.length) c e
      refine ⟨_, _, some w.heap.size, rfl, hG, ⟨by omega, _, e, rfl, Array.getElem?_push_size, ?_, (Builtin.zeroCells Z.cells (grownCap w (cs.length + vs.length) c e - (cs.length + vs.length))).toList, ?_⟩, ⟨?_, ?_, rfl, ⟨rfl, fun _ => Nat.le_succ _⟩, rfl⟩, fun n h => .inr (by cases h; exact Nat.le_refl _)⟩
      · rw [← Array.length_toList, Array.toList_append, List.length_append, zeroCells_one hz]
        simp
        omega
      · simp
      · simp only [World.alloc, Array.size_push]; exact Nat.le_succ _
      · intro g0 hg0 _
        exact Array.getElem?_push_lt hg0 |>.trans (Array.getElem?_eq_getElem hg0).symm
    cases g with
    | none =>
      obtain ⟨rfl, rfl⟩ := hra
      have : i = 0 := by simpa using hi
      subst this
      exact grow rfl (by simpa using hpos) (fun _ => rfl) (fun a _ j v h => by simp at h)
    | some gb =>
      obtain ⟨hc0, B, T, rfl, hB, hBs, rest, hBl⟩ := hra
      have hne' : vb ≠ gb := fun h => hne (by rw [h])
      have hcB : ∀ (j : Nat) (v : Value), cs[j]? = some v → B[j]? = some v := fun j v h => by
        rw [← Array.getElem?_toList, hBl, List.getElem?_append_left (List.getElem?_eq_some_iff.1 h).1]
        exact h
      have hcw : ∀ (j : Nat) (v : Value), cs[j]? = some v → w.cell? ⟨gb, j, none⟩ = some v := fun j v h => by
        simp only [World.cell?, hB]
        simpa using hcB j v h
      have hlen : cs.length + rest.length = c := by rw [← hBs, ← Array.length_toList, hBl, List.length_append]
      by_cases hend : i = cs.length
      · by_cases hroom : cs.length + vs.length ≤ c
        · subst hend
          refine Calls.mono (h2 gb cs.length c vs.length vb vo vc vs w B T hpos hroom hbig hB hBs rfl hcell hv1) ?_
          rintro e' w' ⟨rfl, rfl⟩
          obtain ⟨A', k1, k2, k3, k4⟩ := setCells_heap gb vs cs.length w B T hB (by omega)
          refine ⟨_, _, some gb, rfl, hroom, ⟨hc0, A', T, rfl, k1, by rw [k2, hBs], rest.drop vs.length, ?_⟩, k4, fun n h => .inl h.symm⟩
          rw [k3, hBl]
          simp
        · exact grow hend (by omega) (fun h => nomatch h) (fun a ha j v h => by cases ha; rw [addr_add]; simpa using hcw j v h)
      · have hlt : i < cs.length := by omega
        by_cases hroom : cs.length + vs.length ≤ c
        · obtain ⟨v0, hv0⟩ : ∃ v, vs[0]? = some v := ⟨_, List.getElem?_eq_getElem hpos⟩
          obtain ⟨A, tA, fA, hA, hA0, _⟩ := cell_cells (hcell 0 v0 hv0)
          refine Calls.mono (h1 gb cs.length c i vs.length vb vo vc cs vs w A tA fA B T hlt hpos hroom hbig hne' hA (by omega) hB hBs rfl rfl hcB hcell hc1 hv1) ?_
          rintro e' w' ⟨rfl, rfl⟩
          have hB' : w.drew.heap[gb]? = some (.cells B T (0, 0)) := hB
          obtain ⟨A1, k1, k2, k3, k4⟩ := setCells_heap gb (cs.drop i) (i + vs.length) w.drew B T hB' (by rw [List.length_drop]; omega)
          obtain ⟨A2, j1, j2, j3, j4⟩ := setCells_heap gb vs i _ A1 T k1 (by omega)
          refine ⟨_, _, some gb, rfl, hroom, ⟨hc0, A2, T, rfl, j1, by rw [j2, k2, hBs], rest.drop vs.length, ?_⟩, (NearI.refl' w w.drew rfl rfl ⟨rfl, fun _ => Nat.le_succ _⟩ rfl _).trans (k4.trans j4), fun n h => .inl h.symm⟩
          have hp : (B.toList.take (i + vs.length)).length = i + vs.length := by
            have := Array.length_toList (xs := B)
            rw [List.length_take]; omega
          have e1 : A1.toList.take i = cs.take i := by
            rw [k3, List.append_assoc, List.take_append_of_le_length (by rw [hp]; omega), List.take_take, Nat.min_eq_left (by omega), hBl, List.take_append_of_le_length (by omega)]
          have e2 : A1.toList.drop (i + vs.length) = cs.drop i ++ rest.drop vs.length := by
            rw [k3, List.append_assoc, List.drop_append_of_le_length (by omega), List.drop_of_length_le (by omega), List.nil_append, hBl]
            congr 1
            rw [List.length_drop, show i + vs.length + (cs.length - i) = cs.length + vs.length by omega, List.drop_append, List.drop_of_length_le (by omega), List.nil_append]
            congr 1
            omega
          rw [j3, e1, e2]
          simp
        · refine Calls.mono (h4 gb cs.length c i vs.length vb vo vc cs vs w hlt hpos hcc (by omega) hbig rfl rfl hcw hcell hc1 hv1) ?_
          rintro e' w' ⟨rfl, rfl⟩
          have hG := grownCap_ge w (cs.length + vs.length) c e
          obtain ⟨G, hGe⟩ : ∃ G, G = grownCap w (cs.length + vs.length) c e := ⟨_, rfl⟩
          rw [← hGe] at hG ⊢
          obtain ⟨ROW, hROW⟩ : ∃ ROW : Array Value, ROW = (cs.take i).toArray ++ Builtin.zeroCells Z.cells (cs.length + vs.length - i) ++ Builtin.zeroCells Z.cells (G - (cs.length + vs.length)) := ⟨_, rfl⟩
          rw [← hROW]
          have hRl : ROW.size = G := by
            rw [hROW, ← Array.length_toList, Array.toList_append, Array.toList_append, List.length_append, List.length_append, zeroCells_one hz, zeroCells_one hz]
            simp
            omega
          have hRt : ROW.toList.take i = cs.take i := by
            rw [hROW, Array.toList_append, Array.toList_append, List.append_assoc, List.take_append_of_le_length (by simp; omega)]
            exact List.take_of_length_le (by simp; omega)
          have hw1 : (w.alloc (.cells ROW e)).drew.heap[w.heap.size]? = some (.cells ROW e (0, 0)) := Array.getElem?_push_size
          obtain ⟨A1, k1, k2, k3, k4⟩ := setCells_heap w.heap.size vs i _ ROW e hw1 (by omega)
          have hw2 : ((w.alloc (.cells ROW e)).drew.setCells w.heap.size i vs).drew.heap[w.heap.size]? = some (.cells A1 e (0, 0)) := k1
          obtain ⟨A2, j1, j2, j3, j4⟩ := setCells_heap w.heap.size (cs.drop i) (i + vs.length) _ A1 e hw2 (by rw [List.length_drop]; omega)
          have n0 : NearI w (some w.heap.size) (w.alloc (.cells ROW e)).drew := by
            refine ⟨?_, ?_, rfl, ⟨rfl, fun _ => Nat.le_succ _⟩, rfl⟩
            · show w.heap.size ≤ (w.heap.push _).size
              rw [Array.size_push]; exact Nat.le_succ _
            · intro g0 hg0 _
              exact Array.getElem?_push_lt hg0 |>.trans (Array.getElem?_eq_getElem hg0).symm
          have d0 : ∀ X : World, NearI X (some w.heap.size) X.drew := fun X => .refl' X X.drew rfl rfl ⟨rfl, fun _ => Nat.le_succ _⟩ rfl _
          refine ⟨_, _, some w.heap.size, rfl, hG, ⟨by omega, A2, e, rfl, j1, by rw [j2, k2, hRl], A1.toList.drop (i + vs.length + (cs.drop i).length), ?_⟩, ((n0.trans (k4.trans ((d0 _).trans j4))).new fun g h => by cases h; exact Nat.le_refl _), fun n h => .inr (by cases h; exact Nat.le_refl _)⟩
          rw [j3]
          congr 2
          rw [k3, hRt, List.take_append_of_le_length (by simp; omega), List.take_of_length_le (by simp; omega)]

def moreI (g : FuncId) (e : Ty) (prev : Call2 E) : Call2 E := fun f ags ins => bif Nat.beq f g then (match ags, ins with
  | [.fs 0 e1 off len, .t (.int .i64) i, .t (.sl e3) vs], [.row e2 xs, .none, .none] => bif Nat.beq off 0 && decide (e1 = e) then (cst (.sl e2) (.sl e) xs).bind fun xs => (cst (.sl e3) (.sl e) vs).bind fun vs =>
      some ⟨List (E.D e), insO xs len i vs, fun r => (.ownrow e r, [.rowz e, .none, .none])⟩ else none
  | _, _ => none) else prev f ags ins

theorem insO_some {A : Type} {xs vs ys : List A} {ln : Nat} {i : Int} (h : insO xs ln i vs = some ys) : ln = xs.length ∧ ∃ k : Nat, i = (k : Int) ∧ k ≤ xs.length ∧ xs.length + vs.length ≤ 1000000000 ∧ ys = xs.take k ++ vs ++ xs.drop k := by
  unfold insO at h
  obtain ⟨hd, h⟩ := bif_some h
  simp only [decide_eq_true_eq] at hd
  obtain ⟨h1, h2, h3, h4⟩ := hd
  cases h
  subst h1
  exact ⟨rfl, i.toNat, by omega, by omega, h4, rfl⟩

theorem moreI_spec {g : FuncId} {e : Ty} {prev : Call2 E} {ags : List (AV E)} {ins : List (Blk E)} {r : AV E} {outs : List (Blk E)} (h : callR (moreI g e prev) g ags ins = some (r, outs)) :
    ∃ (xs vs : List (E.D e)) (k : Nat), ags = [.fs 0 e 0 xs.length, .t (.int .i64) (k : Int), .t (.sl e) vs] ∧ ins = [.row e xs, .none, .none] ∧ k ≤ xs.length ∧ xs.length + vs.length ≤ 1000000000 ∧ r = .ownrow e (xs.take k ++ vs ++ xs.drop k) ∧ outs = [.rowz e, .none, .none] := by
  unfold callR moreI at h
  rw [show Nat.beq g g = true from Nat.beq_refl g] at h
  simp only [cond_true] at h
  split at h
  · rename_i x hx
    split at hx
    · rename_i e1 off len i e3 vs e2 xs
      have hd : (Nat.beq off 0 && decide (e1 = e)) = true := by
        cases hd : (Nat.beq off 0 && decide (e1 = e)) with
        | true => rfl
        | false => rw [hd] at hx; cases hx
      rw [hd] at hx
      simp only [cond_true] at hx
      simp only [Bool.and_eq_true, decide_eq_true_eq] at hd
      obtain ⟨h0, rfl⟩ := hd
      have h0 := Nat.eq_of_beq_eq_true h0
      subst h0
      obtain ⟨xs', h1, hx⟩ := Option.bind_eq_some_iff.1 hx
      obtain ⟨vs', h2, hx⟩ := Option.bind_eq_some_iff.1 hx
      cases hx
      obtain ⟨ys, h3, h4⟩ := Option.map_eq_some_iff.1 h
      cases h4
      obtain ⟨hl, k, rfl, hk, hb, rfl⟩ := insO_some h3
      subst hl
      obtain ⟨e5, h5⟩ := cst_eq h1
      obtain ⟨e6, h6⟩ := cst_eq h2
      cases e5
      cases e6
      cases h5
      cases h6
      exact ⟨xs, vs, k, rfl, rfl, hk, hb, rfl, rfl⟩
    · cases hx
  · cases h

theorem NearI.holds {M : Mem} {w W : World} {blk : Option Nat} (hn : NearI w blk W) (h : Holds M w) (hb : ∀ g, blk = some g → ∀ o, M g o = none) : Holds M W := by
  intro g o v hm
  have hg : some g ≠ blk := fun e => by rw [hb g e.symm o] at hm; cases hm
  have hlt := Holds.lt h hm
  have ho := hn.old g hlt hg
  rcases h g o v hm with ⟨k1, k2⟩ | ⟨k1, es, c, k2, k3⟩ | ⟨cs3, T3, f3, k2, k3, k4⟩
  · refine .inl ⟨k1, ?_⟩
    have e : W.cell? ⟨g, o, none⟩ = w.cell? ⟨g, o, none⟩ := by simp only [World.cell?, ho]
    rw [e]
    exact k2
  · exact .inr (.inl ⟨k1, es, c, by rw [ho]; exact k2, k3⟩)
  · exact .inr (.inr ⟨cs3, T3, f3, by rw [ho]; exact k2, k3, k4⟩)

theorem RC.oneC1 {M : Mem} {t : Ty} {x : E.D t} {cs : List Value} (h : RC M t x cs) : ∀ c ∈ cs, c.oneCell' = true := by
  induction h with
  | one _ ih => exact ih
  | nm _ ih => exact ih
  | pair _ _ i1 i2 => exact fun c hc => (List.mem_append.1 hc).elim (i1 c) (i2 c)
  | arr n xs css hn hl _ ih =>
    intro c hc
    obtain ⟨l, h1, h2⟩ := List.mem_flatten.1 hc
    obtain ⟨i, hi, rfl⟩ := List.getElem_of_mem h1
    refine ih i (by omega) c ?_
    rw [List.getD_of_lt _ _ _ hi]
    exact h2
  | _ => intro c hc; rw [List.mem_singleton] at hc; subst hc; rfl
/-- Elements and their cells. -/
def PR (M : Mem) (e : Ty) (xs : List (E.D e)) (l : List (List Value)) : Prop := l.length = xs.length ∧ ∀ i (hi : i < xs.length), RC M e xs[i] (l.getD i [])
theorem PR.append {M : Mem} {e : Ty} {xs ys : List (E.D e)} {l k : List (List Value)} (h : PR M e xs l) (h' : PR M e ys k) : PR M e (xs ++ ys) (l ++ k) := by
  refine ⟨by simp [h.1, h'.1], fun i hi => ?_⟩
  rw [List.getElem_append, List.getD_eq_getElem?_getD]
  split
  · rw [List.getElem?_append_left (by rw [h.1]; assumption), ← List.getD_eq_getElem?_getD]
    exact h.2 i _
  · rw [List.getElem?_append_right (by rw [h.1]; omega), ← List.getD_eq_getElem?_getD, h.1]
    exact h'.2 _ _
theorem PR.take {M : Mem} {e : Ty} {xs : List (E.D e)} {l : List (List Value)} (h : PR M e xs l) (k : Nat) : PR M e (xs.take k) (l.take k) := by
  refine ⟨by simp [h.1], fun i hi => ?_⟩
  rw [List.length_take] at hi
  rw [List.getElem_take, List.getD_eq_getElem?_getD, List.getElem?_take, if_pos (by omega), ← List.getD_eq_getElem?_getD]
  exact h.2 i (by omega)
theorem PR.drop {M : Mem} {e : Ty} {xs : List (E.D e)} {l : List (List Value)} (h : PR M e xs l) (k : Nat) : PR M e (xs.drop k) (l.drop k) := by
  refine ⟨by simp [h.1], fun i hi => ?_⟩
  rw [List.length_drop] at hi
  rw [List.getElem_drop, List.getD_eq_getElem?_getD, List.getElem?_drop, ← List.getD_eq_getElem?_getD]
  exact h.2 (k + i) (by omega)
theorem flat1 : ∀ {l : List (List Value)}, (∀ c ∈ l, c.length = 1) → l.flatten.length = l.length ∧ (∀ k, (l.take k).flatten = l.flatten.take k) ∧ (∀ k, (l.drop k).flatten = l.flatten.drop k) ∧ ∀ (j : Nat) (v : Value), l.flatten[j]? = some v → ∃ c : List Value, l[j]? = some c ∧ c = [v]
  | [], _ => ⟨rfl, fun k => by simp, fun k => by simp, fun j v h => by simp at h⟩
  | c :: l, h => by
    obtain ⟨h1, h2, h3, h4⟩ := flat1 (l := l) fun c hc => h c (by simp [hc])
    have hc := h c (by simp)
    obtain ⟨x, rfl⟩ := List.length_eq_one_iff.1 hc
    refine ⟨by simp [h1, Nat.add_comm], fun k => ?_, fun k => ?_, fun j v hj => ?_⟩
    · cases k with
      | zero => simp
      | succ k => simp [h2]
    · cases k with
      | zero => simp
      | succ k => simp [h3]
    · cases j with
      | zero => simp at hj; subst hj; exact ⟨[x], rfl, rfl⟩
      | succ j =>
        simp only [List.flatten_cons, List.singleton_append, List.getElem?_cons_succ] at hj
        obtain ⟨c, h5, h6⟩ := h4 j v hj
        exact ⟨c, by simpa using h5, h6⟩
theorem PR.mem {M : Mem} {e : Ty} {xs : List (E.D e)} {l : List (List Value)} (h : PR M e xs l) {c : List Value} (hc : c ∈ l) : ∃ x : E.D e, RC M e x c := by
  obtain ⟨i, hi, rfl⟩ := List.getElem_of_mem hc
  have := h.2 i (by rw [← h.1]; exact hi)
  rw [List.getD_of_lt _ _ _ hi] at this
  exact ⟨_, this⟩
theorem PR.arr {M : Mem} {e : Ty} {xs : List (E.D e)} {l : List (List Value)} (h : PR M e xs l) : RC M (.arr xs.length e) xs l.flatten := .arr _ _ _ rfl h.1 h.2

theorem moreI_ok (hE : EnvOK E) {prev : Call2 E} (ok : CallOK P gl (callR prev)) {g : FuncId} {e : Ty} (hs1 : size E e = 1) (hfn : FnOK P g) (sc : InsC P g) (he : e ≠ .int .u8) : CallOK P gl (callR (moreI g e prev)) := by
  intro f ags ins r outs h
  by_cases hf : f = g
  · subst hf
    obtain ⟨xs, vs, k, rfl, rfl, hk, hb, rfl, rfl⟩ := moreI_spec h
    refine ⟨⟨hfn, by simp⟩, fun M μ w args hgl hw hl hok => ?_⟩
    obtain ⟨args⟩ := args
    simp only at hl
    cases hl with
    | cons h0 hl => cases hl with
      | cons h1 hl => cases hl with
        | cons h2 hl =>
          cases hl
          cases h0 with
          | v h0 => cases h0 with
            | fs _ _ _ _ cap base hbase hcp => cases h1 with
              | v h1 => cases h1 with
                | t h1 => cases h1 with
                  | int => cases h2 with
                    | v h2 => cases h2 with
                      | t h2 => cases h2 with
                        | sl _ vbase vcap vcs hvc hvr hvat hvn =>
                          have hb0 : blk [Blk.row e xs, Blk.none, Blk.none] 0 = .row e xs := rfl
                          have hbw := hw.bw 0
                          rw [hb0] at hbw
                          obtain ⟨gE, hgE⟩ : ∃ gE, gE = Exc (μ 0) (.row (E := E) e xs) := ⟨_, rfl⟩
                          -- the row's cells
                          have hrow : ∃ l, PR M e xs l ∧ RowAt w base cap l.flatten gE ∧ ∀ n, gE = some n → ∀ o, M n o = none := by
                            rcases hbw with ⟨k1, rfl⟩ | ⟨k1, cells, T, fr, css, g1, g2, ⟨rest, g3⟩, g4, g5, g6⟩
                            · have hg0 : gE = none := by rw [hgE]; simp [Exc, k1]
                              rw [hg0]
                              refine ⟨[], ⟨rfl, fun i hi => by simp at hi⟩, ⟨?_, rfl⟩, fun n h => by cases h⟩
                              rcases hbase with ⟨_, h⟩ | ⟨h, _⟩
                              · omega
                              · exact h
                            · have hg0 : gE = some (μ 0).g := by rw [hgE]; simp [Exc, k1]
                              rw [hg0]
                              have g6 := g6.zero he
                              subst g6
                              cases g2 with
                              | arr _ _ l hn hl hh =>
                                refine ⟨l, ⟨hl, hh⟩, ?_, fun n h o => by cases h; exact g4 o⟩
                                rcases hbase with ⟨h5, h6⟩ | ⟨_, h6⟩
                                · refine ⟨by omega, cells, T, by rw [h5, Nat.zero_mul], g1, ?_, rest, g3⟩
                                  rw [g5, hs1]
                                  omega
                                · omega
                          obtain ⟨l, hl, hra, hgn⟩ := hrow
                          have hvl : PR M e vs (List.ofFn fun i : Fin vs.length => vcs i) := by
                            refine ⟨by simp, fun i hi => ?_⟩
                            rw [List.getD_eq_getElem?_getD, List.getElem?_ofFn, dif_pos hi]
                            exact hvr i hi
                          have one : ∀ {ys : List (E.D e)} {m : List (List Value)}, PR M e ys m → ∀ c ∈ m, c.length = 1 := fun h c hc => by
                            obtain ⟨x, hx⟩ := h.mem hc
                            rw [hx.len hE, hs1]
                          have onec : ∀ {ys : List (E.D e)} {m : List (List Value)}, PR M e ys m → ∀ v ∈ m.flatten, v.oneCell' = true := fun h v hv => by
                            obtain ⟨c, hc, hv⟩ := List.mem_flatten.1 hv
                            obtain ⟨x, hx⟩ := h.mem hc
                            exact hx.oneC1 v hv
                          obtain ⟨f1, f2, f3, f4⟩ := flat1 (one hl)
                          obtain ⟨v1, v2, v3, v4⟩ := flat1 (one hvl)
                          rw [hl.1] at f1
                          rw [hvl.1] at v1
                          have key := sc l.flatten (List.ofFn fun i : Fin vs.length => vcs i).flatten base vbase cap vcap k gE w (by omega) (by omega) (by omega) (onec hl) (onec hvl) hra (by
                            intro hne
                            have hpos : 0 < vs.length := by
                              cases vs with
                              | nil => exact absurd rfl hne
                              | cons _ _ => simp
                            obtain ⟨a, ha, hsp, hat0⟩ := hvat 0 hpos
                            have hcell : ∀ i (hi : i < vs.length) v, vcs i = [v] → M a.block (a.off + i) = some v ∧ noT v := by
                              intro i hi v hv
                              obtain ⟨a', ha', hsp', hat⟩ := hvat i hi
                              rw [ha] at ha'
                              cases ha'
                              have := hat 0 (by rw [hv]; simp)
                              rw [hs1, Nat.mul_one, Nat.add_zero] at this
                              simp only [hv, List.getElem_cons_zero] at this
                              exact this
                            refine ⟨a, ha, hsp, ?_, fun j v hj => ?_⟩
                            · intro hg
                              have hl1 : (vcs 0).length = 1 := by rw [(hvr 0 hpos).len hE, hs1]
                              obtain ⟨v, hv⟩ := List.length_eq_one_iff.1 hl1
                              have := (hcell 0 hpos v hv).1
                              rw [hgn _ hg.symm] at this
                              cases this
                            · obtain ⟨c, hc, hcv⟩ := v4 j v hj
                              rw [List.getElem?_ofFn] at hc
                              split at hc
                              · rename_i hjl
                                cases hc
                                obtain ⟨k1, k2⟩ := hcell j hjl v hcv
                                have := (hw.holds _ _ _ k1).cell k2
                                obtain ⟨ab, ao, asp⟩ := a
                                simp only at hsp
                                subst hsp
                                rw [addr_add]
                                exact this
                              · cases hc)
                          rw [f1, v1] at key
                          refine Calls.mono key ?_
                          rintro e' w' ⟨base', c', g', rfl, hc', hro, hnear, hfr⟩
                          have hPR := ((hl.take k).append hvl).append (hl.drop k)
                          rw [← f2, ← f3, ← List.flatten_append, ← List.flatten_append] at hro
                          generalize hys : xs.take k ++ vs ++ xs.drop k = ys at hPR ⊢
                          have hyl : ys.length = xs.length + vs.length := by rw [← hys]; simp; omega
                          have hholds : Holds M w' := hnear.holds hw.holds hgn
                          have hbz : ∀ i, blk [Blk.rowz e, Blk.none, Blk.none] i = (.none : Blk E) ∨ blk [Blk.rowz e, Blk.none, Blk.none] i = (.rowz e : Blk E) := by
                            intro i
                            match i with
                            | 0 => exact .inr rfl
                            | 1 => exact .inl rfl
                            | 2 => exact .inl rfl
                            | _ + 3 => exact .inl rfl
                          have hez : ∀ i, Exc (μ i) (blk [Blk.rowz e, Blk.none, Blk.none] i : Blk E) = none := fun i => by
                            rcases hbz i with h | h <;> rw [h] <;> rfl
                          refine ⟨_, M, μ, rfl, ⟨.refl M, ?_, ⟨hholds, ?_, ?_, ?_⟩, rfl, hnear.size, ?_, fun _ _ h1 h2 => absurd h1 h2, ?_, hnear.os, hnear.tape, hnear.output⟩, ?_⟩
                          · intro i hi
                            match i, hi with
                            | 0, _ => exact ⟨rfl, rfl, rfl⟩
                            | 1, _ => trivial
                            | 2, _ => trivial
                          · intro i
                            rcases hbz i with h | h <;> rw [h] <;> trivial
                          · intro i j n h
                            rw [hez i] at h
                            cases h
                          · intro i ly a h
                            rcases hbz i with h' | h' <;> rw [h'] at h <;> cases h
                          · intro n hn hne
                            refine hnear.old n hn fun he => hne 0 ?_
                            rw [hb0, ← hgE, he]
                          · intro i n h
                            rw [hez i] at h
                            cases h
                          · have hown : ∀ n, g' = some n → (w.heap.size ≤ n ∨ Taken μ [Blk.row e xs, Blk.none, Blk.none] [Blk.rowz e, Blk.none, Blk.none] n) ∧ ∀ p, Exc (μ p) (blk [Blk.rowz e, Blk.none, Blk.none] p : Blk E) ≠ some n := by
                              intro n hn
                              refine ⟨?_, fun p => by rw [hez p]; simp⟩
                              rcases hfr n hn with h | h
                              · exact .inr ⟨0, by rw [hb0, ← hgE, ← h], e, rfl⟩
                              · exact .inl h
                            cases g' with
                            | none =>
                              obtain ⟨k1, k2⟩ := hro
                              have hy0 : ys = [] := by
                                have := congrArg List.length k2
                                rw [(flat1 (one hPR)).1, hPR.1] at this
                                exact List.length_eq_zero_iff.1 this
                              subst k1
                              refine ⟨none, ⟨⟨0, fun _ => (none, 0)⟩, base', 0, by rw [hyl], by rw [hyl]; omega, .inr ⟨rfl, rfl⟩, .inl ⟨rfl, hy0⟩, rfl⟩, fun n h => by cases h⟩
                            | some n =>
                              obtain ⟨k1, A, T, k2, k3, k4, rest, k5⟩ := hro
                              have hk0 : c' ≠ 0 := by omega
                              refine ⟨some n, ⟨⟨n, fun _ => (base', c')⟩, base', c', by rw [hyl], by omega, .inl ⟨k2, rfl⟩, .inr ⟨hk0, A, T, _, _, k3, hPR.arr, ⟨rest, k5⟩, ?_, by rw [hs1, Nat.mul_one, k4], .inl rfl⟩, by simp [Exc, hk0]⟩, fun m hm => hown m hm⟩
                              intro o
                              rcases hfr n rfl with h | h
                              · exact hgn n h.symm o
                              · exact Holds.new hw.holds h
  · refine ok f ags ins r outs ?_
    rw [← h]
    unfold callR moreI
    have : Nat.beq f g = false := by
      cases hb : Nat.beq f g with
      | false => rfl
      | true => exact absurd (Nat.eq_of_beq_eq_true hb) hf
    rw [this]
    rfl
end Go.Proofs.YtbbiogeemhohaaaGreatDoor.Fv
