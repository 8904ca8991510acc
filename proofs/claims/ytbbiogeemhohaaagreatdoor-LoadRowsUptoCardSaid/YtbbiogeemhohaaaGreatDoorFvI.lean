/- An evaluator of the model's code, part 9: Rows that are sorted by a comparison. Under the kit's contract of the sort. No condition. -/
import Derived.Test.YtbbiogeemhohaaaGreatDoorFvH
import Derived.Sort.AssemblyPlain
import Derived.Sort.Grow
import Derived.Deep.Draws
import Derived.Lib.BitFns
import Derived.Shelf.SlSortCmp.NoneTotal
import Derived.Shelf.Lay
import Derived.Ground.SlsfProg
set_option linter.unusedVariables false
set_option linter.unusedSectionVars false
set_option linter.unusedSimpArgs false
/-! Rows that are sorted by a comparison. Under the kit's contract of the sort. -/
namespace Go.Proofs.YtbbiogeemhohaaaGreatDoor.Fv
variable [Quiet]
variable {E : Env} {P : Program} {gl : Nat → AV E}

def ltI {α : Type} (cf : α → α → Int) (x y : α) : Bool := decide (cf x y < 0)
noncomputable def pdqL {n : Nat} (cf : Fin (n + 1) → Fin (n + 1) → Int) : List (Fin (n + 1)) := (Go.Sort.pdq (ltI cf) (Array.ofFn (n := n + 1) id) 0 (n + 1) (Go.Lib.bitLen (n + 1)) true true).toList
/-- A world that is ags another one, but for a block. -/
structure Near (w : World) (blk : Nat) (W : World) : Prop where
  size : w.heap.size ≤ W.heap.size
  old : ∀ g, g < w.heap.size → g ≠ blk → W.heap[g]? = w.heap[g]?
  os : W.os = w.os
  tape : SameT W w
  output : W.output = w.output
structure SortC (P : Program) (f : FuncId) (agg : Bool) (k : Nat) : Prop where
  c0 : ∀ p cap fv w, Calls P f #[.slice p 0 cap, fv] w fun e w' => e = .returned (.tuple #[]) ∧ w' = w
  c1 : ∀ (n : Nat) (enc : Fin (n + 1) → List Value), (∀ x, (enc x).length = k) → (∀ x, ∀ v ∈ enc x, v.oneCell' = true) → ∀ (cf : Fin (n + 1) → Fin (n + 1) → Int), Go.Sort.SWO (ltI cf) → ∀ (g : Nat) (cb : Array Value) (blk off cap : Nat) (w : World) (cs : Array Value) (T : TypeId),
    (∀ args w, (callFunc g args).run P w = .ok (.enter g args) w) →
    (∀ W, Near w blk W → ∀ x y, Calls P g (#[mkV agg (enc x), mkV agg (enc y)] ++ cb) W fun e w' => e = .returned (.int .i64 (cf x y)) ∧ ∃ q os', w' = Go.Sort.grow (W.drewN q) os') →
    w.heap[blk]? = some (.cells cs T (0, 0)) → n + 1 < 4611686018427387904 → off + (n + 1) * k ≤ cs.size → (cs.toList.drop off).take ((n + 1) * k) = (List.ofFn enc).flatten →
    Calls P f #[.slice (some ⟨blk, off, none⟩) (n + 1) cap, .func (.func g) #[] cb] w fun e w' => e = .returned (.tuple #[]) ∧ Near w blk w' ∧
      w'.heap[blk]? = some (.cells (cs.toList.take off ++ ((pdqL cf).map enc).flatten ++ cs.toList.drop (off + (n + 1) * k)).toArray T (0, 0))

noncomputable def cfOf {A : Type} (cmp : A → A → Option Int) (x : A) (t : List A) (i j : Fin (t.length + 1)) : Int := (cmp ((x :: t).get i) ((x :: t).get j)).getD 0
open Classical in
/-- What lies in order, where the comparison answers and is an order. -/
noncomputable def sortO {A : Type} (cmp : A → A → Option Int) : List A → Option (List A)
  | [] => some []
  | x :: t => if t.length + 1 < 4611686018427387904 ∧ (∀ i j : Fin (t.length + 1), (cmp ((x :: t).get i) ((x :: t).get j)).isSome = true) ∧ Go.Sort.SWO (ltI (cfOf cmp x t)) then some ((pdqL (cfOf cmp x t)).map fun i => (x :: t).get i) else none

def asI : AV E → Option Int
  | .t (.int .i64) z => some z
  | _ => none
def cmpOf (prev : Call2 E) (e : Ty) (c : FuncId) (cs : List (Cap E)) (a b : E.D e) : Option Int := match prev c ([.t e a, .t e b] ++ cs.map fun c => .imm c.ty c.v) ([.none, .none] ++ cs.map fun _ => .none) with
  | some x => x.val.bind fun r => asI (x.wr r).1
  | none => none
noncomputable def moreS (g : FuncId) (e : Ty) (cq prev : Call2 E) : Call2 E := fun f ags ins => bif Nat.beq f g then (match ags, ins with
  | [.fs 0 e1 off len, .func c cs], [.row e2 xs, .none] => bif decide (e1 = e2) && decide (e2 = e) then some ⟨List (E.D e2), sortO (cmpOf cq e2 c cs) ((xs.drop off).take len), fun r => (.tup [], [.row e2 (over xs r off), .none])⟩ else none
  | _, _ => none) else prev f ags ins

theorem RC.oneC {M : Mem} {t : Ty} {x : E.D t} {cs : List Value} (h : RC M t x cs) : ∀ c ∈ cs, c.oneCell' = true := by
  induction h with
  | one _ ih => exact ih
  | nm _ ih => exact ih
  | pair _ _ i1 i2 => exact fun c hc => (List.mem_append.1 hc).elim (i1 c) (i2 c)
  | arr n xs css hn hl _ ih =>
    intro c hc
    obtain ⟨l, h1, h2⟩ := List.mem_flatten.1 hc
    obtain ⟨i, hi, rfl⟩ := List.getElem_of_mem h1
    refine ih i (by omega) c ?_
    rw [List.getD_of_lt _ _ _ hi]
    exact h2
  | _ => intro c hc; rw [List.mem_singleton] at hc; subst hc; rfl

theorem moreS_spec {g : FuncId} {e : Ty} {cq prev : Call2 E} {ags : List (AV E)} {ins : List (Blk E)} {r : AV E} {outs : List (Blk E)} (h : callR (moreS g e cq prev) g ags ins = some (r, outs)) :
    ∃ off len c cs, ∃ xs ys : List (E.D e), ags = [.fs 0 e off len, .func c cs] ∧ ins = [.row e xs, .none] ∧ sortO (cmpOf cq e c cs) ((xs.drop off).take len) = some ys ∧ r = .tup [] ∧ outs = [.row e (over xs ys off), .none] := by
  unfold callR moreS at h
  rw [show Nat.beq g g = true from Nat.beq_refl g] at h
  simp only [cond_true] at h
  split at h
  · rename_i x hx
    split at hx
    · rename_i e1 off len c cs e2 xs
      by_cases hd1 : e1 = e2
      · subst hd1
        by_cases hd2 : e1 = e
        · subst hd2
          simp only [decide_true, Bool.and_self, cond_true, Option.some.injEq] at hx
          subst hx
          obtain ⟨ys, h1, h2⟩ := Option.map_eq_some_iff.1 h
          cases h2
          exact ⟨off, len, c, cs, xs, ys, rfl, rfl, h1, rfl, rfl⟩
        · simp [hd2] at hx
      · simp [hd1] at hx
    · cases hx
  · cases h
theorem cmpOf_spec {cq : Call2 E} {e : Ty} {c : FuncId} {cs : List (Cap E)} {a b : E.D e} {z : Int} (h : cmpOf cq e c cs a b = some z) :
    ∃ outs, callR cq c ([.t e a, .t e b] ++ cs.map fun c => .imm c.ty c.v) ([.none, .none] ++ cs.map fun _ => .none) = some (.t (.int .i64) z, outs) := by
  unfold cmpOf at h
  split at h
  · rename_i x hx
    obtain ⟨r, h1, h2⟩ := Option.bind_eq_some_iff.1 h
    unfold callR
    rw [hx]
    simp only [h1, Option.map_some]
    generalize x.wr r = p at h2
    obtain ⟨a, outs⟩ := p
    unfold asI at h2
    split at h2
    · cases h2
      rename_i hp
      simp only at hp
      subst hp
      exact ⟨outs, rfl⟩
    · cases h2
  · cases h

theorem swo_pdq {n : Nat} {cf : Fin (n + 1) → Fin (n + 1) → Int} (h : Go.Sort.SWO (ltI cf)) : (pdqL cf).Perm (List.ofFn (n := n + 1) id) ∧ (pdqL cf).length = n + 1 ∧ ∀ i j (hi : i < (pdqL cf).length) (hj : j < (pdqL cf).length), i < j → ltI cf (pdqL cf)[j] (pdqL cf)[i] = false := by
  have hs : (Array.ofFn (n := n + 1) id).size = n + 1 := by simp
  obtain ⟨⟨p1, p2, p3⟩, q⟩ := Go.Sort.pdq_sorts (ltI cf) h (Array.ofFn (n := n + 1) id) 0 (n + 1) (Go.Lib.bitLen (n + 1)) true true (Nat.zero_le _) (by omega) (Or.inl rfl)
  have hl : (pdqL cf).length = n + 1 := by unfold pdqL; rw [Array.length_toList, p1, hs]
  refine ⟨?_, hl, fun i j hi hj hij => ?_⟩
  · unfold pdqL
    have e1 : ∀ {A : Type} {m : Nat} (a : Array A), a.size = m → a.extract 0 m = a := fun a ha => by subst ha; simp
    rw [e1 _ (by rw [p1, hs]), e1 _ hs] at p3
    simpa using p3
  · have := q i j (Nat.zero_le _) hij (by omega)
    unfold pdqL at hi hj ⊢
    rw [Array.length_toList] at hi hj
    rw [getElem!_pos _ j hj, getElem!_pos _ i hi] at this
    simpa using this
theorem sortO_spec {A : Type} {cmp : A → A → Option Int} {x : A} {t ys : List A} (h : sortO cmp (x :: t) = some ys) :
    t.length + 1 < 4611686018427387904 ∧ (∀ i j : Fin (t.length + 1), cmp ((x :: t).get i) ((x :: t).get j) = some (cfOf cmp x t i j)) ∧ Go.Sort.SWO (ltI (cfOf cmp x t)) ∧ ys = (pdqL (cfOf cmp x t)).map fun i => (x :: t).get i := by
  rw [sortO] at h
  split at h
  · rename_i hc
    cases h
    refine ⟨hc.1, fun i j => ?_, hc.2.2, rfl⟩
    have := hc.2.1 i j
    unfold cfOf
    cases hz : cmp ((x :: t).get i) ((x :: t).get j) with
    | none => rw [hz] at this; cases this
    | some z => rfl
  · cases h

theorem heap_grow {W w' : World} (hs : W.heap.size ≤ w'.heap.size) (hf : ∀ g, g < W.heap.size → w'.heap[g]? = W.heap[g]?) (ho : w'.os = W.os) (ht : @SameT ⟨True⟩ w' W) (hu : w'.output = W.output) : ∃ q os', w' = Go.Sort.grow (W.drewN q) os' := by
  refine ⟨w'.drawn - W.drawn, w'.heap.extract W.heap.size w'.heap.size, ?_⟩
  have h1 : W.heap ++ w'.heap.extract W.heap.size w'.heap.size = w'.heap := by
    apply Array.ext_getElem?
    intro i
    by_cases hi : i < W.heap.size
    · rw [Array.getElem?_append_left hi, hf i hi]
    · rw [Array.getElem?_append_right (by omega), Array.getElem?_extract]
      split
      · congr 1; omega
      · rw [Array.getElem?_eq_none (by omega)]
  have h2 := @SameT.eq ⟨True⟩ _ _ ht
  have h3 : W.drawn ≤ w'.drawn := @SameT.le ⟨True⟩ _ _ ht trivial
  cases w'
  cases W
  simp only at h1 h2 h3 ho hu
  simp only [Go.Sort.grow, World.drewN, World.mk.injEq]
  exact ⟨h1.symm, h2, by omega, ho, hu⟩

theorem callFunc_enter {g : FuncId} (hf : FnOK P g) (args : Array Value) (w : World) : (callFunc g args).run P w = .ok (.enter g args) w := by
  obtain ⟨fn, cd, h1, h2, h3⟩ := hf
  have h2' : (fn.name == "runtime.NumGoroutine") = false := by simpa using h2
  simp only [callFunc, Sem.run_bind, run_program, Result.andThen_ok, h1, h2', h3, Option.isNone_some, Bool.false_eq_true, if_false, Sem.run_pure]
theorem Near.holds {M : Mem} {w W : World} {blk : Nat} (hn : Near w blk W) (h : Holds M w) (hb : ∀ o, M blk o = none) : Holds M W := by
  intro g o v hm
  have hg : g ≠ blk := fun e => by rw [e, hb o] at hm; cases hm
  have hlt := Holds.lt h hm
  have ho := hn.old g hlt hg
  rcases h g o v hm with ⟨k1, k2⟩ | ⟨k1, es, c, k2, k3⟩ | ⟨cs3, T3, f3, k2, k3, k4⟩
  · refine .inl ⟨k1, ?_⟩
    have e : W.cell? ⟨g, o, none⟩ = w.cell? ⟨g, o, none⟩ := by simp only [World.cell?, ho]
    rw [e]
    exact k2
  · exact .inr (.inl ⟨k1, es, c, by rw [ho]; exact k2, k3⟩)
  · exact .inr (.inr ⟨cs3, T3, f3, by rw [ho]; exact k2, k3, k4⟩)

theorem moreS_ok (hE : EnvOK E) {cq prev : Call2 E} (okq : @CallOK ⟨True⟩ E P gl (callR cq)) (ok : CallOK P gl (callR prev)) {g : FuncId} {e : Ty} (hfn : FnOK P g) (sc : SortC P g e.agg (size E e)) (he : e ≠ .int .u8) : CallOK P gl (callR (moreS g e cq prev)) := by
  intro f ags ins r outs h
  by_cases hf : f = g
  · subst hf
    obtain ⟨off, len, c, cs, xs, ys, rfl, rfl, hs, rfl, rfl⟩ := moreS_spec h
    refine ⟨⟨hfn, by simp⟩, fun M μ w args hgl hw hl hok => ?_⟩
    obtain ⟨args⟩ := args
    simp only at hl
    cases hl with
    | cons h0 hl =>
      cases hl with
      | cons h1 hl =>
        cases hl
        obtain ⟨vs, rfl, hvl, hcap⟩ := h1.func_inv
        have hok0 := hok (.fs 0 e off len) (by simp)
        have hol : off + len ≤ xs.length := by
          cases hok0 with
          | plain hp _ _ _ =>
            rcases hp with ⟨xs', hx, hle⟩ | hx
            · have hx : Blk.row e xs = Blk.row e xs' := hx
              cases hx
              exact hle
            · cases hx
        cases h0 with
        | v h0 =>
          cases h0 with
          | fs _ _ _ _ cap base hbase hcp =>
            have hvlen : ((xs.drop off).take len).length = len := by rw [List.length_take, List.length_drop]; omega
            have hb0 : blk [Blk.row e xs, Blk.none] 0 = .row e xs := rfl
            cases hv : (xs.drop off).take len with
            | nil =>
              rw [hv] at hs hvlen
              cases hs
              simp only [List.length_nil] at hvlen
              subst hvlen
              refine Calls.mono (sc.c0 base cap (.func (.func c) #[] vs.toArray) w) ?_
              rintro e' w' ⟨rfl, rfl⟩
              refine ⟨_, M, μ, rfl, ?_, [], rfl, rfl, fun _ => none, fun i hi => by simp at hi, fun i j n hi => by simp at hi⟩
              rw [over_nil]
              exact Tr.refl hw _
            | cons x t =>
              rw [hv] at hs hvlen
              obtain ⟨hbnd, hcmp, hswo, rfl⟩ := sortO_spec hs
              obtain ⟨hperm, hpl, _⟩ := swo_pdq hswo
              simp only [List.length_cons] at hvlen
              have hbw := hw.bw 0
              rw [hb0] at hbw
              obtain ⟨hv0, cells, T, fr, css, g1, g2, ⟨rest, g3⟩, g4, g5, g6⟩ := hbw.resolve_left fun h => by rw [h.2, List.length_nil] at hol; omega
              have g6 := g6.zero he
              subst g6
              have hE0 : Exc (μ 0) (blk [Blk.row e xs, Blk.none] 0) = some (μ 0).g := by rw [hb0]; simp [Exc, hv0]
              rcases hbase with ⟨rfl, hoc⟩ | ⟨h9, _⟩
              · obtain ⟨l, j1, j2, j3, j4⟩ := g2.arr_part hE off len hol
                subst hvlen
                have hget : ∀ i : Fin (t.length + 1), RC M e ((x :: t).get i) (l.getD i []) := fun i => by
                  have := j2 i (by rw [hv]; exact i.2)
                  simp only [hv] at this
                  exact this
                have hlenE : ∀ i : Fin (t.length + 1), (l.getD i []).length = size E e := fun i => (hget i).len hE
                have hofn : (List.ofFn fun i : Fin (t.length + 1) => l.getD i []) = l := by
                  apply List.ext_getElem
                  · simp [j1]
                  · intro i h1 h2
                    simp only [List.getElem_ofFn]
                    exact List.getD_of_lt _ _ _ h2
                obtain ⟨pre, post, p1, p2⟩ := j3 (t.length + 1) (Nat.le_refl _)
                rw [List.take_of_length_le (by omega)] at p1
                have hcells : cells.toList = pre ++ l.flatten ++ (post ++ rest) := by rw [g3, p1]; simp
                have hsz : off * size E e + (t.length + 1) * size E e ≤ cells.size := by
                  rw [← Array.length_toList, hcells]
                  simp only [List.length_append]
                  omega
                have htk : (cells.toList.drop (off * size E e)).take ((t.length + 1) * size E e) = (List.ofFn fun i : Fin (t.length + 1) => l.getD i []).flatten := by
                  rw [hofn, hcells, List.append_assoc, ← p2, List.drop_left, ← j4, List.take_left]
                have hcallc := fun i j => cmpOf_spec (hcmp i j)
                have hfc : FnOK P c := by
                  obtain ⟨o, ho⟩ := hcallc 0 0
                  exact (okq c _ _ _ _ ho).1.1
                have hsort := sc.c1 t.length (fun i => l.getD i []) hlenE (fun i => (hget i).oneC) (cfOf (cmpOf cq e c cs) x t) hswo c vs.toArray (μ 0).g (off * size E e) cap w cells T (callFunc_enter hfc) (fun W hn i j => by
                  obtain ⟨o, ho⟩ := hcallc i j
                  obtain ⟨_, hc⟩ := okq c _ _ _ _ ho
                  have hWR : WR M (fun _ => (μ 0)) ([.none, .none] ++ cs.map fun _ => (Blk.none : Blk E)) W := by
                    have hbn : ∀ i, blk ([.none, .none] ++ cs.map fun _ => (Blk.none : Blk E)) i = .none := by
                      intro i
                      rw [blk_append]
                      split
                      · rename_i hi
                        have : i = 0 ∨ i = 1 := by simp at hi; omega
                        rcases this with rfl | rfl <;> rfl
                      · exact blk_none _ _
                    refine ⟨hn.holds hw.holds g4, fun p => ?_, fun i j g' h1 h2 => ?_, fun i ly a h1 => ?_⟩
                    · rw [hbn]; trivial
                    · rw [hbn] at h1; cases h1
                    · rw [hbn] at h1; cases h1
                  have := hc M (fun _ => (μ 0)) W (#[mkV e.agg (l.getD i []), mkV e.agg (l.getD j [])] ++ vs.toArray) hgl hWR (by
                    have h1 : RSL M (fun _ => (μ 0)) [AV.t e ((x :: t).get i), AV.t e ((x :: t).get j)] [mkV e.agg (l.getD i []), mkV e.agg (l.getD j [])] := .cons (RS.v (.t (hget i))) (.cons (RS.v (.t (hget j))) .nil)
                    simpa using h1.append (caps_rsl cs vs hvl hcap _)) (by
                    intro a ha
                    rcases List.mem_append.1 ha with ha | ha
                    · simp only [List.mem_cons, List.not_mem_nil, or_false] at ha
                      rcases ha with rfl | rfl <;> exact .t _ _ _
                    · obtain ⟨c', _, rfl⟩ := List.mem_map.1 ha
                      exact .imm _ _ _)
                  refine Calls.mono this ?_
                  rintro e' w' ⟨v, M', μ', rfl, tr, ret⟩
                  obtain ⟨gg, ⟨h1, _⟩, _⟩ := ret
                  refine ⟨?_, heap_grow (@Tr.size E ⟨True⟩ _ _ _ _ _ _ _ _ _ tr) (fun g' hg' => @Tr.frame E ⟨True⟩ _ _ _ _ _ _ _ _ _ tr g' hg' fun p hp => ?_) (@Tr.os E ⟨True⟩ _ _ _ _ _ _ _ _ _ tr) (@Tr.tape E ⟨True⟩ _ _ _ _ _ _ _ _ _ tr) (@Tr.output E ⟨True⟩ _ _ _ _ _ _ _ _ _ tr)⟩
                  · cases h1 with
                    | v h1 => cases h1 with
                      | t h1 => cases h1; rfl
                  · have hbn := hWR.bw p
                    have : blk ([.none, .none] ++ cs.map fun _ => (Blk.none : Blk E)) p = .none := by
                      rw [blk_append]
                      split
                      · rename_i hi
                        have : p = 0 ∨ p = 1 := by simp at hi; omega
                        rcases this with rfl | rfl <;> rfl
                      · exact blk_none _ _
                    rw [this] at hp
                    cases hp) g1 hbnd hsz htk
                refine Calls.mono hsort ?_
                rintro e' w' ⟨rfl, hnear, hnew⟩
                refine ⟨_, M, μ, rfl, ?_, [], rfl, rfl, fun _ => none, fun i hi => by simp at hi, fun i j n hi => by simp at hi⟩
                generalize hys : ((pdqL (cfOf (cmpOf cq e c cs) x t)).map fun i => (x :: t).get i) = ys at *
                have hysl : ys.length = t.length + 1 := by rw [← hys, List.length_map, hpl]
                generalize hcy : ((pdqL (cfOf (cmpOf cq e c cs) x t)).map fun i : Fin (t.length + 1) => l.getD i []) = cy at *
                have hcyl : cy.length = ys.length := by rw [← hcy, ← hys, List.length_map, List.length_map]
                obtain ⟨pre', old, post', q1, q2, q3, q4⟩ := g2.arr_over hE (ys := ys) (cy := cy) (off := off) (k := 0) (cys := []) hcyl (fun i hi => by
                  have hi2 : i < (pdqL (cfOf (cmpOf cq e c cs) x t)).length := by rw [hpl]; omega
                  have := hget (pdqL (cfOf (cmpOf cq e c cs) x t))[i]
                  subst hys hcy
                  rw [List.getElem_map, List.getD_of_lt _ _ _ (by rw [List.length_map]; exact hi2), List.getElem_map]
                  exact this) (by omega)
                have hlt : (μ 0).g < w.heap.size := (Array.getElem?_eq_some_iff.1 g1).1
                refine Tr.make hw (fun i => i = 0) (.refl M) (hnear.holds hw.holds g4) rfl (fun i hi => ⟨?_, rfl⟩) (fun i hi => ?_) (fun _ i hi => ?_) (fun i j g' hi hj _ _ => by rw [hi, hj]) hnear.size (fun g' hg' hex => ?_) (fun _ _ h1 h2 => absurd h1 h2) (fun i g' hi h1 => ?_) (fun _ i ly a hi h1 => ?_) hnear.os hnear.tape hnear.output
                · match i, hi with
                  | 0, hi => exact absurd rfl hi
                  | 1, _ => rfl
                  | i + 2, _ => rfl
                · subst hi
                  exact ⟨rfl, over_len (by omega), rfl, rfl⟩
                · subst hi
                  refine .inr ⟨hv0, _, T, _, _, hnew, q4, ⟨rest, ?_⟩, g4, ?_, .inl rfl⟩
                  · have e1 : cells.toList.take (off * size E e) = pre' := by rw [g3, q1, List.append_assoc, List.append_assoc, ← q2, List.take_left]
                    have e2 : cells.toList.drop (off * size E e + (t.length + 1) * size E e) = post' ++ rest := by
                      rw [g3, q1, ← q2, ← hysl, ← q3, ← List.length_append, List.append_assoc, List.drop_left]
                    rw [e1, e2]
                    simp
                  · have e3 : cy.flatten.length = (t.length + 1) * size E e := by
                      rw [← hysl, ← hcyl]
                      refine flatten_len fun i hi => ?_
                      subst hcy
                      rw [List.getD_of_lt _ _ _ hi, List.getElem_map]
                      exact hlenE _
                    rw [← g5, List.size_toArray, List.length_append, List.length_append, e3, List.length_take, List.length_drop, ← Array.length_toList]
                    rw [← Array.length_toList] at hsz
                    omega
                · exact hnear.old g' hg' fun he => hex 0 rfl (by rw [hE0, he])
                · subst hi
                  refine .inr ⟨0, rfl, ?_, .inl rfl⟩
                  rw [hE0]
                  have h1 : Exc (μ 0) (.row (E := E) e (over xs ys off)) = some g' := h1
                  simp only [Exc, hv0, if_false] at h1
                  exact h1
                · subst hi
                  cases h1
              · omega
  · refine ok f ags ins r outs ?_
    rw [← h]
    unfold callR moreS
    have : Nat.beq f g = false := by
      cases hb : Nat.beq f g with
      | false => rfl
      | true => exact absurd (Nat.eq_of_beq_eq_true hb) hf
    rw [this]
    rfl
end Go.Proofs.YtbbiogeemhohaaaGreatDoor.Fv

/-! The kit's contract of slices.SortFunc, as it is asked here. -/
namespace Go.Proofs.YtbbiogeemhohaaaGreatDoor.Fv
variable [Quiet]
open Go.Proofs Go.Sort
variable {P : Program} {ρ : Go.Shelf.Ren}

theorem near_put {w : World} {blk m : Nat} {f : Array Value → Array Value} {os : Array Obj} : Near w blk (grow (mapBlock (Go.Sort.ahead w m) blk f) os) := by
  refine ⟨?_, fun g hg hne => ?_, rfl, ⟨rfl, ?_⟩, rfl⟩
  · show w.heap.size ≤ ((w.heap.modify blk (onCells f)) ++ os).size
    simp
  · show ((w.heap.modify blk (onCells f)) ++ os)[g]? = _
    rw [Array.getElem?_append_left (by simpa using hg), Array.getElem?_modify, if_neg (fun h => hne h.symm)]
  · intro _
    show w.drawn ≤ w.drawn + m
    omega
theorem put_at {w : World} {blk m : Nat} {f : Array Value → Array Value} {os : Array Obj} {cs : Array Value} {T : TypeId} {fr : Nat × Nat} (h : w.heap[blk]? = some (.cells cs T fr)) : (grow (mapBlock (Go.Sort.ahead w m) blk f) os).heap[blk]? = some (.cells (f cs) T fr) := by
  have hlt : blk < w.heap.size := (Array.getElem?_eq_some_iff.1 h).1
  show ((w.heap.modify blk (onCells f)) ++ os)[blk]? = _
  rw [Array.getElem?_append_left (by simpa using hlt), Array.getElem?_modify, if_pos rfl, h]
  rfl
theorem putCells_list {α : Type} [Inhabited α] (enc : α → Value) (off : Nat) (d : Array α) (c : Array Value) (h : off + d.size ≤ c.size) : putCells enc off d c = (c.toList.take off ++ d.toList.map enc ++ c.toList.drop (off + d.size)).toArray := by
  apply Array.ext'
  simp only [putCells]
  apply List.ext_getElem
  · simp; omega
  · intro i h1 h2
    simp only [Array.length_toList, Array.size_mapIdx] at h1
    simp only [Array.getElem_toList, Array.getElem_mapIdx]
    by_cases ha : i < off
    · rw [if_neg (by omega), List.getElem_append_left (by simp; omega), List.getElem_append_left (by simp; omega), List.getElem_take, Array.getElem_toList]
    · by_cases hb : i < off + d.size
      · rw [if_pos ⟨by omega, hb⟩, List.getElem_append_left (by simp; omega), List.getElem_append_right (by simp; omega), List.getElem_map]
        congr 1
        rw [getElem!_pos d (i - off) (by omega)]
        simp only [Array.getElem_toList, List.length_take, Array.length_toList]
        congr 1
        omega
      · rw [if_neg (by omega), List.getElem_append_right (by simp; omega), List.getElem_drop, Array.getElem_toList]
        congr 1
        simp
        omega
theorem flat_one : ∀ (l : List (List Value)), (∀ x ∈ l, x.length = 1) → l.flatten = l.map fun x => x.headD Go.undef
  | [], _ => rfl
  | x :: l, h => by
    have hx := h x (by simp)
    match x, hx with
    | [v], _ => simp [flat_one l fun y hy => h y (by simp [hy])]
theorem flat_get {k : Nat} : ∀ (l : List (List Value)), (∀ x ∈ l, x.length = k) → ∀ t, t < l.length * k → l.flatten[t]? = (l[t / k]?).bind fun x => x[t % k]?
  | [], _, t, ht => by simp at ht
  | x :: l, h, t, ht => by
    have hx := h x (by simp)
    have hk : 0 < k := by
      rcases Nat.eq_zero_or_pos k with h0 | h0
      · subst h0; simp at ht
      · exact h0
    rw [List.flatten_cons]
    by_cases htk : t < k
    · rw [List.getElem?_append_left (by omega), Nat.div_eq_of_lt htk, Nat.mod_eq_of_lt htk]
      rfl
    · have e1 : t / k = (t - k) / k + 1 := Nat.div_eq_sub_div hk (by omega)
      have e2 : t % k = (t - k) % k := by rw [Nat.mod_eq_sub_mod (by omega)]
      rw [List.getElem?_append_right (by omega), hx, e1, e2, flat_get l (fun y hy => h y (by simp [hy])) (t - k) (by simp only [List.length_cons, Nat.add_mul] at ht; omega)]
      rfl
theorem sortC1 (L : SlLaysF.n6 P ρ) : SortC P (ρ.f 6) false 1 where
  c0 := fun p cap fv w => AnyF.slices_SortFunc_none { L with } p cap fv w
  c1 := by
    intro n enc hk h1 cf hO g cb blk off cap w cs T eg hcmp hw hn hsz htk
    have hds : (Array.ofFn (n := n + 1) id).size = n + 1 := by simp
    have hlt : blk < w.heap.size := (Array.getElem?_eq_some_iff.1 hw).1
    rw [Nat.mul_one] at hsz htk
    have hone : ∀ x, enc x = [(enc x).headD Go.undef] := fun x => by
      have := hk x
      match enc x, this with
      | [v], _ => rfl
    have hfl : (List.ofFn enc).flatten = (List.ofFn enc).map fun x => x.headD Go.undef := flat_one _ fun x hx => by
      obtain ⟨i, rfl⟩ := List.mem_ofFn.1 hx
      exact hk i
    have hH : Go.Sort.Holds (fun x => (enc x).headD Go.undef) w blk off (Array.ofFn (n := n + 1) id) := by
      intro j hj
      rw [hds] at hj
      have e1 : (Array.ofFn (n := n + 1) id)[j]! = ⟨j, hj⟩ := by rw [getElem!_pos _ j (by rw [hds]; exact hj)]; simp
      have e2 : cs[off + j]? = some ((enc ⟨j, hj⟩).headD Go.undef) := by
        have := congrArg (fun l => l[j]?) htk
        simp only [hfl] at this
        rw [List.getElem?_take, if_pos hj, List.getElem?_drop, List.getElem?_map, List.getElem?_ofFn] at this
        simpa [hj] using this
      rw [e1]
      refine ⟨?_, ?_⟩
      · simp only [World.cell?, hw]
        exact e2
      · simp only [World.frozen?, hw]
        simp
    have := Any.slices_SortFunc_eq L (fun x => (enc x).headD Go.undef) (fun x => h1 x _ (by rw [hone x]; simp)) cf hO g cb blk off cap (Array.ofFn (n := n + 1) id) w eg (fun m os dk _ x y => hcmp _ near_put x y) hH hlt (by rw [hds]; exact hn)
    rw [hds] at this
    refine Calls.mono this ?_
    rintro e w' ⟨rfl, m, os, rfl⟩
    have hpl := (swo_pdq (cf := cf) hO).2.1
    refine ⟨rfl, near_put, ?_⟩
    refine (put_at hw).trans ?_
    have hd2 : (pdq (ltOf cf) (Array.ofFn (n := n + 1) id) 0 (n + 1) (Go.Lib.bitLen (n + 1)) true true).size = n + 1 := by rw [← Array.length_toList]; exact hpl
    rw [putCells_list _ _ _ _ (by rw [hd2]; exact hsz), hd2, Nat.mul_one]
    have hfl2 : ((pdqL cf).map enc).flatten = (pdqL cf).map fun x => (enc x).headD Go.undef := by
      rw [flat_one _ fun x hx => by
        obtain ⟨i, _, rfl⟩ := List.mem_map.1 hx
        exact hk i, List.map_map]
      rfl
    rw [hfl2]
    rfl

theorem flatK_list {α : Type} [Inhabited α] (enc : α → List Value) (k : Nat) (hk : ∀ x, (enc x).length = k) (d : Array α) : (flatK enc k d).toList = (d.toList.map enc).flatten := by
  have hl : (d.toList.map enc).flatten.length = d.size * k := by
    rw [flatten_len (k := k) fun i hi => by rw [List.getD_of_lt _ _ _ hi, List.getElem_map]; exact hk _]
    simp
  apply List.ext_getElem?
  intro t
  by_cases ht : t < d.size * k
  · have hk0 : 0 < k := by
      rcases Nat.eq_zero_or_pos k with h0 | h0
      · subst h0; simp at ht
      · exact h0
    have htk : t / k < d.size := Nat.div_lt_of_lt_mul (by rwa [Nat.mul_comm])
    have hm : t % k < k := Nat.mod_lt _ hk0
    rw [flat_get _ (fun x hx => by obtain ⟨i, _, rfl⟩ := List.mem_map.1 hx; exact hk i) t (by simpa using ht)]
    have e1 : (flatK enc k d).toList[t]? = some ((enc d[t / k]!)[t % k]!) := by
      have h1 := get_flatK enc k d t ht
      have h2 : t < (flatK enc k d).size := by rw [size_flatK]; exact ht
      rw [getElem!_pos _ t h2] at h1
      rw [Array.getElem?_toList, Array.getElem?_eq_getElem h2, h1]
    rw [e1, List.getElem?_map, Array.getElem?_toList, Array.getElem?_eq_getElem htk, getElem!_pos d _ htk]
    simp only [Option.map_some, Option.bind_some]
    have h3 : t % k < (enc d[t / k]).length := by rw [hk]; exact hm
    rw [getElem!_pos (enc d[t / k]) (t % k) h3, List.getElem?_eq_getElem h3]
  · rw [List.getElem?_eq_none (by rw [Array.length_toList, size_flatK]; omega), List.getElem?_eq_none (by rw [hl]; omega)]
theorem sortCK (L : SlLaysF0.n6 P ρ) (k : Nat) (aE : ∀ w, (isAgg (ρ.t 24)).run P w = .ok true w) (zE : ∀ w, (Go.sizeOf (ρ.t 24)).run P w = .ok k w) : SortC P (ρ.f 6) true k where
  c0 := fun p cap fv w => AnyF.slices_SortFunc_none { L with } p cap fv w
  c1 := by
    intro n enc hk h1 cf hO g cb blk off cap w cs T eg hcmp hw hn hsz htk
    have hds : (Array.ofFn (n := n + 1) id).size = n + 1 := by simp
    have hlt : blk < w.heap.size := (Array.getElem?_eq_some_iff.1 hw).1
    have hof : ((Array.ofFn (n := n + 1) id).toList.map enc) = List.ofFn enc := by
      apply List.ext_getElem
      · simp
      · intro i h1 h2
        simp only [List.getElem_map, List.getElem_ofFn, Array.getElem_toList, Array.getElem_ofFn, id]
    have hfs : (flatK enc k (Array.ofFn (n := n + 1) id)).size = (n + 1) * k := by rw [size_flatK, hds]
    have hH : HoldsK enc k w blk off (Array.ofFn (n := n + 1) id) := by
      intro j hj
      rw [hfs] at hj
      have e2 : cs[off + j]? = some ((flatK enc k (Array.ofFn (n := n + 1) id))[j]!) := by
        have := congrArg (fun l => l[j]?) htk
        simp only [← hof, ← flatK_list enc k hk] at this
        have h5 : j < (flatK enc k (Array.ofFn (n := n + 1) id)).size := by rw [hfs]; exact hj
        rw [List.getElem?_take, if_pos hj, List.getElem?_drop, Array.getElem?_toList, Array.getElem?_toList, Array.getElem?_eq_getElem h5] at this
        rw [this, getElem!_pos _ j (by rw [hfs]; exact hj)]
      refine ⟨?_, ?_⟩
      · simp only [World.cell?, hw]
        exact e2
      · simp only [World.frozen?, hw]
        simp
    have := AnyQ.slices_SortFunc_eq L k aE zE enc hk (fun x v hv => h1 x v hv) cf hO g cb blk off cap (Array.ofFn (n := n + 1) id) w eg (fun m os dk _ x y => hcmp _ near_put x y) hH hlt (by rw [hds]; exact hn)
    rw [hds] at this
    refine Calls.mono this ?_
    rintro e w' ⟨rfl, m, os, rfl⟩
    have hpl := (swo_pdq (cf := cf) hO).2.1
    refine ⟨rfl, near_put, ?_⟩
    refine (put_at hw).trans ?_
    have hd2 : (pdq (ltOf cf) (Array.ofFn (n := n + 1) id) 0 (n + 1) (Go.Lib.bitLen (n + 1)) true true).size = n + 1 := by rw [← Array.length_toList]; exact hpl
    have hd3 : (flatK enc k (pdq (ltOf cf) (Array.ofFn (n := n + 1) id) 0 (n + 1) (Go.Lib.bitLen (n + 1)) true true)).size = (n + 1) * k := by rw [size_flatK, hd2]
    rw [putCells_list _ _ _ _ (by rw [hd3]; exact hsz), hd3, List.map_id, flatK_list enc k hk]
    rfl
end Go.Proofs.YtbbiogeemhohaaaGreatDoor.Fv
