/- An evaluator of the model's code, part 3: Rows that are appended to. No condition. -/
import Derived.Test.YtbmpjppfdeohnaaDoorFvB
import Derived.MapKept
set_option linter.unusedVariables false
set_option linter.unusedSectionVars false
set_option linter.unusedSimpArgs false
/-! Rows that are appended to. -/
namespace Go.Proofs.YtbmpjppfdeohnaaDoor.Fv
variable [Quiet]
variable {E : Env} {P : Program} {tt : Nat → Option TE} {M M' : Mem} {μ μ' : Mu} {b b' : List (Blk E)} {w w' : World}

/-- What it takes to move a row to another home. -/
theorem row_move (hw : WR M μ b w) {id d : Nat} {e : Ty} {xs zs : List (E.D e)} (hd : free b d = true) (hb : blk b id = .row e xs) (c' : Conc) (holds : Holds M w')
    (bw : BW M (upd μ d c') w' c' (.row e zs)) (size : w.heap.size ≤ w'.heap.size) (frame : ∀ g, g < w.heap.size → Exc (μ id) (blk b id) ≠ some g → w'.heap[g]? = w.heap[g]?)
    (exf : ∀ g, Exc c' (.row (E := E) e zs) = some g → w.heap.size ≤ g ∨ Exc (μ id) (blk b id) = some g) (os : w'.os = w.os) (tape : SameT w' w) (output : w'.output = w.output) :
    Tr b.length M μ b w M (upd μ d c') ((b.set id (.rowz e)).set d (.row e zs)) w' := by
  obtain ⟨hd1, hd2⟩ := free_spec hd
  have hid : id < b.length := blk_lt (by rw [hb]; simp)
  have hne : d ≠ id := by
    rintro rfl
    rw [hb] at hd2
    cases hd2
  have hbd : blk ((b.set id (.rowz e)).set d (.row e zs)) d = .row e zs := blk_set_self (by simpa using hd1) _
  have hbi : blk ((b.set id (.rowz e)).set d (.row e zs)) id = .rowz e := by rw [blk_set_ne (Ne.symm hne)]; exact blk_set_self hid _
  have hmi : upd μ d c' id = μ id := upd_ne _ _ (Ne.symm hne)
  have excI : Exc (upd μ d c' id) (blk ((b.set id (.rowz e)).set d (.row e zs)) id) = none := by rw [hbi]; rfl
  refine Tr.make hw (fun i => i = d ∨ i = id) (.refl M) holds (by simp) ?_ ?_ ?_ ?_ size ?_ (fun _ _ h1 h2 => absurd h1 h2) ?_ ?_ os tape output
  · intro i hi
    have h1 : i ≠ d := fun h => hi (.inl h)
    have h2 : i ≠ id := fun h => hi (.inr h)
    exact ⟨by rw [blk_set_ne h1, blk_set_ne h2], upd_ne _ _ h1⟩
  · rintro i (rfl | rfl)
    · rw [hd2]; trivial
    · rw [hbi, hmi, hb]; exact ⟨rfl, rfl, rfl⟩
  · rintro lv i (rfl | rfl)
    · rw [hbd, upd_self]; exact bw
    · rw [hbi]; trivial
  · rintro i j g (rfl | rfl) (rfl | rfl) h1 h2
    · rfl
    · rw [excI] at h2; cases h2
    · rw [excI] at h1; cases h1
    · rfl
  · intro g hg h
    exact frame g hg (h id (.inr rfl))
  · rintro i g (rfl | rfl) h
    · rw [hbd, upd_self] at h
      exact (exf g h).imp _root_.id fun h => ⟨id, .inr rfl, h⟩
    · rw [excI] at h; cases h
  · rintro lv i ly a (rfl | rfl) h
    · rw [hbd] at h; cases h
    · rw [hbi] at h; cases h

theorem rs_fs {d n cap : Nat} {e : Ty} {base : Option Addr} (h : (base = some ⟨(μ d).g, 0, none⟩ ∧ cap = ((μ d).ver 0).2) ∨ (cap = 0 ∧ ((μ d).ver 0).2 = 0)) (hc : n ≤ cap) : RS (E := E) M μ (.fs d e 0 n) (.slice base n cap) :=
  RS.v (a := .fs d e 0 n) (RV.fs d e 0 n cap base (by simpa using h) hc)
theorem row_cells (hE : EnvOK E) {e : Ty} {xs : List (E.D e)} {css : List Value} (h : RC M (.arr xs.length e) xs css) : ∃ l : List (List Value), l.length = xs.length ∧ l.flatten = css ∧ ∀ i (hi : i < xs.length), RC M e xs[i] (l.getD i []) := by
  cases h with
  | arr _ _ css hn hl h => exact ⟨css, hl, rfl, h⟩

theorem rowapp_step (hE : EnvOK E) (hz : ∀ n, RC M (.nm n) (E.dfl n) (E.zc n)) (hT : TOK P E tt) (hw : WR M μ b w) {t u el ty id d : Nat} {e : Ty} (htd : tdOf tt t = .slice el) (hty : tyOf tt t = .sl e)
    {du : TypeDesc} (hu2 : P.underlying u = some du) (hdu : (∃ e, du = .slice e) ∨ du = .string) {xs ys : List (E.D e)} {x y : Value} (hx : RS (E := E) M μ (.fs id e 0 xs.length) x) (hl : SrcOK P M w e ys y)
    (hd : free b d = true) (hb : blk b id = .row e xs) (hle : xs.length + ys.length ≤ 4294967296) :
    ∃ v w' c', (Builtin.append_ #[t, u] ty #[x, y]).run P w = .ok v w' ∧ Tr b.length M μ b w M (upd μ d c') ((b.set id (.rowz e)).set d (.row e (xs ++ ys))) w' ∧ RS (E := E) M (upd μ d c') (.fs d e 0 (xs ++ ys).length) v := by
  obtain ⟨y', hy', hu, rfl, hfull, hby, hsz0, hsz1⟩ := hT.slice htd hty
  obtain ⟨i, z, hi, hz0, hsz, hzc⟩ := hT.zcells hy' hfull
  have hzl := zcells_len (M := M) hE hz hfull
  have hb' : i.bytes ≤ 32768 := by simpa [Program.bytesOf, hi] using hby
  obtain ⟨css, hc1, hc2, hc3⟩ := hl
  obtain ⟨hlen, hfst⟩ := hc3 w rfl
  have hfst := hfst ys.length (Nat.le_refl _)
  rw [← hc1, List.take_length, hc1, ← hsz] at hfst
  have hfl := css_flat_len hE hc1 hc2
  have hB := hw.bw id
  rw [hb] at hB
  have hnew : ∀ o, M w.heap.size o = none := fun o => hw.holds.new (Nat.le_refl _)
  have hzsz : z.cells.toList.length = size E y'.ty := by rw [hzc]; exact hzl
  obtain ⟨base, cap, rfl, hbase, hcap⟩ : ∃ base cap, x = .slice base xs.length cap ∧ ((base = some ⟨(μ id).g, 0, none⟩ ∧ cap = ((μ id).ver 0).2) ∨ (cap = 0 ∧ ((μ id).ver 0).2 = 0)) ∧ xs.length ≤ cap := by
    generalize hq : (AV.fs id y'.ty 0 xs.length : AV E) = q at hx
    cases hx with
    | v hx =>
      subst hq
      generalize hq : (AV.fs id y'.ty 0 xs.length : AV E) = q at hx
      cases hx <;> try (cases hq; done)
      rename_i cap base hbase hcap
      cases hq
      exact ⟨base, cap, rfl, by simpa using hbase, hcap⟩
    | _ => cases hq
  have hlen2 : (xs ++ ys).length = xs.length + ys.length := List.length_append
  -- the old cells
  obtain ⟨cso, ho1, hold, ho2⟩ : ∃ cso : List (List Value), cso.length = xs.length ∧ (∀ w1, (∀ g, w1.heap[g]? = w.heap[g]?) → (Builtin.firstCells i.size xs.length (.slice base xs.length cap)).run P w1 = .ok cso.flatten.toArray w1) ∧ ∀ j (hj : j < xs.length), RC M y'.ty xs[j] (cso.getD j []) := by
    rcases hB with ⟨_, rfl⟩ | ⟨hv0, cs, T, fr, cells, g1, g2, ⟨rest, g3⟩, g4, g5, g6⟩
    · refine ⟨[], rfl, fun w1 _ => ?_, fun j hj => by simp at hj⟩
      cases base <;> simp [Builtin.firstCells, loadCells, loadCellsFrom]
    · obtain ⟨l, k1, k2, k3⟩ := row_cells hE g2
      refine ⟨l, k1, fun w1 hw1 => ?_, k3⟩
      have hll : l.flatten.length = xs.length * i.size := by rw [css_flat_len hE k1 k3, hsz]
      by_cases hx0 : xs.length = 0
      · have hnil : l.flatten = [] := List.eq_nil_of_length_eq_zero (by rw [hll, hx0, Nat.zero_mul])
        rw [hnil, hx0]
        cases base <;> simp [Builtin.firstCells, loadCells, loadCellsFrom]
      · rcases hbase with ⟨rfl, _⟩ | h
        · simp only [Builtin.firstCells]
          rw [← hll]
          refine run_loadCells ?_
          have : InMem w1 (μ id).g 0 cs.toList := InMem.heap (by rw [hw1]; exact g1)
          rw [g3, ← k2] at this
          intro j hj
          have := this j (by rw [List.length_append]; omega)
          rwa [List.getElem_append_left hj] at this
        · omega
  have hfo := css_flat_len hE ho1 ho2
  have all : ∀ j (hj : j < (xs ++ ys).length), RC M y'.ty (xs ++ ys)[j] ((cso ++ css).getD j []) := by
    intro j hj
    by_cases hx : j < xs.length
    · rw [List.getElem_append_left hx, List.getD_eq_getElem?_getD, List.getElem?_append_left (by omega), ← List.getD_eq_getElem?_getD]
      exact ho2 j hx
    · rw [List.getElem_append_right (by omega), List.getD_eq_getElem?_getD, List.getElem?_append_right (by omega), ← List.getD_eq_getElem?_getD]
      rw [List.length_append] at hj
      have := hc2 (j - xs.length) (by omega)
      rw [ho1]
      exact this
  have arr : RC M (.arr (xs ++ ys).length y'.ty) (xs ++ ys : List (E.D y'.ty)) (cso ++ css).flatten := .arr _ _ (cso ++ css) rfl (by rw [List.length_append, ho1, hc1, hlen2]) all
  by_cases hroom : xs.length + ys.length ≤ cap
  · by_cases hm : ys.length = 0
    · have h0 : ys = [] := List.length_eq_zero_iff.1 hm
      subst h0
      have hn0 : css.flatten = [] := List.eq_nil_of_length_eq_zero (by rw [hfl]; simp)
      rw [hn0] at hfst
      refine ⟨_, w, μ id, run_app_room hu hu2 hdu hi hlen hfst hroom (by cases base <;> rfl), ?_, ?_⟩
      · refine row_move hw hd hb (μ id) hw.holds ?_ (Nat.le_refl _) (fun _ _ _ => rfl) (fun g h => .inr ?_) rfl ⟨rfl, fun _ => Nat.le_refl _⟩ rfl
        · rw [List.append_nil]; exact hB
        · rw [hb]; exact h
      · rw [List.append_nil]
        refine RS.v (RV.fs d y'.ty 0 _ cap base ?_ hcap)
        rw [upd_self, Nat.zero_mul, Nat.zero_add]
        simpa using hbase
    · rcases hbase with ⟨rfl, hcv⟩ | h
      · obtain ⟨hv0, cs, T, fr, cells, g1, g2, ⟨rest, g3⟩, g4, g5, g6⟩ := hB.resolve_left fun h => by have := h.1; omega
        have hfit : xs.length * i.size + css.flatten.length ≤ cs.size := by
          rw [hfl, g5, hsz, ← Nat.add_mul]; exact Nat.mul_le_mul_right _ (by omega)
        have hst := run_storeCells_fr P (μ id).g (xs.length * i.size) T fr css.flatten 0 cs w g1 g6.free (by simpa using hfit) (css_one' hc1 hc2)
        simp only [Nat.add_zero] at hst
        generalize hcs' : (cs.toList.take (xs.length * i.size) ++ css.flatten ++ cs.toList.drop (xs.length * i.size + css.flatten.length)).toArray = cs' at hst
        have hg := setRow_heap w (μ id).g cs cs' T fr g1
        have hsize : cs'.size = cs.size := by
          rw [← hcs']
          simp only [List.size_toArray, List.length_append, List.length_take, List.length_drop, Array.length_toList]
          omega
        have hcells : cells.length = xs.length * i.size := by rw [g2.len hE, hsz]; rfl
        obtain ⟨l, k1, k2, k3⟩ := row_cells hE g2
        have htake : cs.toList.take (xs.length * i.size) = l.flatten := by rw [g3, ← hcells, List.take_left, k2]
        have arr2 : RC M (.arr (xs ++ ys).length y'.ty) (xs ++ ys : List (E.D y'.ty)) (l ++ css).flatten := by
          refine .arr _ _ (l ++ css) rfl (by rw [List.length_append, k1, hc1, hlen2]) ?_
          intro j hj
          by_cases hx : j < xs.length
          · rw [List.getElem_append_left hx, List.getD_eq_getElem?_getD, List.getElem?_append_left (by omega), ← List.getD_eq_getElem?_getD]
            exact k3 j hx
          · rw [List.getElem_append_right (by omega), List.getD_eq_getElem?_getD, List.getElem?_append_right (by omega), ← List.getD_eq_getElem?_getD]
            rw [List.length_append] at hj
            have := hc2 (j - xs.length) (by omega)
            rw [k1]
            exact this
        have hE1 : Exc (μ id) (blk b id) = some (μ id).g := by rw [hb]; simp [Exc, hv0]
        refine ⟨_, _, μ id, run_app_room hu hu2 hdu hi hlen hfst hroom (by show (storeCells ((⟨(μ id).g, 0, none⟩ : Addr).add (xs.length * i.size)) css.flatten).run P w = _; rw [addr_add, Nat.zero_add]; exact hst), ?_, ?_⟩
        · refine row_move hw hd hb (μ id) (holds_setRow hw.holds _ g4) ?_ (by simp) ?_ ?_ rfl ⟨rfl, fun _ => Nat.le_refl _⟩ rfl
          · refine .inr ⟨hv0, cs', T, fr, _, hg, arr2, ⟨cs.toList.drop (xs.length * i.size + css.flatten.length), ?_⟩, g4, by rw [hsize]; exact g5, by rw [hsize]; exact g6⟩
            rw [← hcs', List.flatten_append, htake]
          · intro g _ hg
            rw [hE1] at hg
            exact setRow_other w _ g _ (fun e => hg (by rw [e]))
          · intro g h
            rw [hE1]
            have e1 : Exc (μ id) (.row (E := E) y'.ty (xs ++ ys)) = some (μ id).g := by simp [Exc, hv0]
            rw [e1] at h
            exact .inr h
        · rw [hlen2]
          exact rs_fs (by rw [upd_self]; exact .inl ⟨rfl, hcv⟩) hroom
      · omega
  · have hgr : cap < xs.length + ys.length := by omega
    obtain ⟨_, hfn1⟩ := hc3 w.drew rfl
    have hfn1 := hfn1 ys.length (Nat.le_refl _)
    rw [← hc1, List.take_length, hc1, ← hsz] at hfn1
    have hrun := run_app_grow (ty := ty) hu hu2 hdu hi hz0 hlen hfn1 hgr (hold w.drew fun _ => rfl) hle hb'
    have hge := grownCap_ge w (xs.length + ys.length) cap el
    generalize grownCap w (xs.length + ys.length) cap el = gc at hrun hge
    have hext : Ext w (w.drew.alloc (.cells (cso.flatten ++ css.flatten ++ (List.replicate (gc - (xs.length + ys.length)) z.cells.toList).flatten).toArray el)) := (Ext.drew w).trans (Ext.alloc w.drew _)
    have hheap := heap_alloc_new w.drew (.cells (cso.flatten ++ css.flatten ++ (List.replicate (gc - (xs.length + ys.length)) z.cells.toList).flatten).toArray el)
    have hheap : (w.drew.alloc (.cells (cso.flatten ++ css.flatten ++ (List.replicate (gc - (xs.length + ys.length)) z.cells.toList).flatten).toArray el)).heap[w.heap.size]? = _ := hheap
    generalize hW : w.drew.alloc (.cells (cso.flatten ++ css.flatten ++ (List.replicate (gc - (xs.length + ys.length)) z.cells.toList).flatten).toArray el) = W at hrun hext hheap
    have hgc0 : gc ≠ 0 := by omega
    refine ⟨_, W, ⟨w.heap.size, fun _ => (none, gc)⟩, hrun, ?_, ?_⟩
    · refine row_move hw hd hb ⟨w.heap.size, fun _ => (none, gc)⟩ (hext.holds hw.holds) ?_ hext.size (fun g hg _ => hext.old g hg) ?_ hext.os hext.tape hext.output
      · refine .inr ⟨hgc0, _, el, _, _, hheap, arr, ⟨(List.replicate (gc - (xs.length + ys.length)) z.cells.toList).flatten, ?_⟩, hnew, ?_, .inl rfl⟩
        · rw [List.flatten_append]
        · rw [List.size_toArray, List.length_append, List.length_append, hfo, hfl, flatten_rep _ _ _ hzsz, ← Nat.add_mul, ← Nat.add_mul]
          congr 1
          show _ = gc
          omega
      · intro g h
        simp only [Exc] at h
        split at h
        · cases h
        · cases h; exact .inl (Nat.le_refl _)
    · rw [hlen2]
      exact rs_fs (by rw [upd_self]; exact .inl ⟨rfl, rfl⟩) hge

/-! ### Room made ahead -/
theorem run_app_make {t u el ty : Nat} {ku : IntKind} {i : TypeInfo} {z : Value} (hu : P.underlying t = some (.slice el)) (hu2 : P.underlying u = some (.int ku)) (hi : P.info? el = some i) (hz : i.zero = some z) (hsz : i.size = z.cells.toList.length) (hpos : 0 < i.size) (k : IntKind) {n : Int} (h0 : 0 < n) (h32 : n ≤ 4294967296) (hby : i.bytes ≤ 32768) :
    (Builtin.append_ #[t, u] ty #[.slice none 0 0, .int k n]).run P w =
      .ok (.slice (some ⟨w.heap.size, 0, none⟩) n.toNat (grownCap w n.toNat 0 el)) (w.drew.alloc (.cells ((List.replicate n.toNat z.cells.toList).flatten ++ (List.replicate (grownCap w n.toNat 0 el - n.toNat) z.cells.toList).flatten).toArray el)) := by
  obtain ⟨m, rfl⟩ : ∃ m : Nat, n = (m : Int) := ⟨n.toNat, by omega⟩
  have hw64 : IntKind.i64.wrap (m : Int) = (m : Int) := by
    unfold IntKind.wrap
    simp only [IntKind.signed, IntKind.bits]
    simp
    omega
  have hm0 : ¬ (m = 0) := by omega
  have hprod : m * i.bytes ≤ 140737488355328 := Nat.le_trans (Nat.mul_le_mul (show m ≤ 4294967296 by omega) hby) (by decide)
  have h48 : ¬ (281474976710656 < (m : Int) * (i.bytes : Int)) := by
    rw [← Int.natCast_mul]
    omega
  have h63' : ¬ (9223372036854775807 < (m : Int)) := by omega
  have hfit := growslice_fits (need := m) (old := 0) (bytes := i.bytes) (by omega) hprod
  have h48' : ¬ (281474976710656 < Builtin.nextslicecap m 0 * i.bytes) := by omega
  have hms : ¬ (m * i.size = 0) := by
    intro h
    rcases Nat.mul_eq_zero.1 h with h | h <;> omega
  have hneg : ¬ ((m : Int) < 0) := by omega
  have hle0 : ¬ ((m : Int) ≤ 0) := by omega
  have hmax : max (m : Int) 0 = (m : Int) := by omega
  simp [Builtin.append_, run_underlying' hu, run_underlying' hu2, sizeOf, typeInfo, zeroValue, hi, hz, hw64, hm0, h48, h63', h48', hms, hneg, hle0, hmax, asInt, asIntOf, Question.forced, newRow, grownCap, zeroCells_eq, Builtin.firstCells]

theorem appMk_step (hE : EnvOK E) (hz : ∀ n, RC M (.nm n) (E.dfl n) (E.zc n)) (hT : TOK P E tt) (hw : WR M μ b w) {t u el ty d : Nat} {ku : IntKind} (htd : tdOf tt t = .slice el) (hud : P.underlying u = some (.int ku))
    {x y a : AV E} {vx vy : Value} {up : Upd E} (h : appMk tt b d t x y = some (true, a, up)) (hx : RS M μ x vx) (hy : RS M μ y vy)
    {s : Sem Next} (hs : s = (do pure (.value (← Builtin.append_ #[t, u] ty #[vx, vy])))) : OpStep P M μ b w s a up := by
  subst hs
  unfold appMk at h
  split at h
  · rename_i e n hn
    have h0 := bif_some h
    clear h
    obtain ⟨hc, h⟩ := h0
    simp only [Bool.and_eq_true, decide_eq_true_eq] at hc
    obtain ⟨hf, hty⟩ := hc
    have h := Option.some.inj h
    obtain ⟨hok, h⟩ := Prod.mk.inj h
    obtain ⟨rfl, rfl⟩ := Prod.mk.inj h
    simp only [Bool.and_eq_true, decide_eq_true_eq] at hok
    obtain ⟨y', hy', hu, rfl, hfull, hby, hsz0, hsz1⟩ := hT.slice htd hty
    obtain ⟨i, z, hi, hz0, hsz, hzc⟩ := hT.zcells hy' hfull
    have hzl := zcells_len (M := M) hE hz hfull
    have hb' : i.bytes ≤ 32768 := by simpa [Program.bytesOf, hi] using hby
    obtain ⟨k, rfl⟩ := hy.num_inv hn
    have hvx : vx = .slice none 0 0 := by
      cases hx with
      | v hx => cases hx with
        | snil => rfl
    subst hvx
    have hzsz : z.cells.toList.length = size E y'.ty := by rw [hzc]; exact hzl
    have hrun := run_app_make (ty := ty) (w := w) hu hud hi hz0 (by rw [hzsz, hsz]) (by rw [hsz]; exact hsz0) k hok.1 hok.2 hb'
    have hge := grownCap_ge w n.toNat 0 el
    generalize grownCap w n.toNat 0 el = gc at hrun hge
    obtain ⟨hd1, hd2⟩ := free_spec hf
    have hnew : ∀ o, M w.heap.size o = none := fun o => hw.holds.new (Nat.le_refl _)
    have hext : Ext w (w.drew.alloc (.cells ((List.replicate n.toNat z.cells.toList).flatten ++ (List.replicate (gc - n.toNat) z.cells.toList).flatten).toArray el)) := (Ext.drew w).trans (Ext.alloc w.drew _)
    have hheap := heap_alloc_new w.drew (.cells ((List.replicate n.toNat z.cells.toList).flatten ++ (List.replicate (gc - n.toNat) z.cells.toList).flatten).toArray el)
    have hheap : (w.drew.alloc (.cells ((List.replicate n.toNat z.cells.toList).flatten ++ (List.replicate (gc - n.toNat) z.cells.toList).flatten).toArray el)).heap[w.heap.size]? = _ := hheap
    generalize hW : w.drew.alloc (.cells ((List.replicate n.toNat z.cells.toList).flatten ++ (List.replicate (gc - n.toNat) z.cells.toList).flatten).toArray el) = W at hrun hext hheap
    refine ⟨_, W, M, upd μ d ⟨w.heap.size, fun _ => (some ⟨w.heap.size, 0, none⟩, gc)⟩, .inl (by simp [hrun]; rfl), ?_, ?_, .plain ⟨0, blk_set_self hd1 _⟩ (by simp) (by simp) (by simp)⟩
    · refine Tr.new hw hf ⟨w.heap.size, _⟩ _ (.refl M) (hext.holds hw.holds) hext ?_ (fun _ _ h1 h2 => absurd h1 h2) ?_ ?_
      · intro lv
        refine ⟨Nat.zero_le _, .inr ⟨_, el, rfl, hheap, ?_, fun o _ => hnew o⟩⟩
        rw [List.size_toArray, List.length_append, flatten_rep _ _ _ hzsz, flatten_rep _ _ _ hzsz, ← Nat.add_mul]
        congr 1
        show _ = gc
        omega
      · intro g h
        simp only [Exc] at h
        split at h
        · cases h
        · cases h; exact Nat.le_refl _
      · intro lv ly a h; cases h
    · have := RV.rsv (E := E) (M := M) (μ := upd μ d ⟨w.heap.size, fun _ => (some ⟨w.heap.size, 0, none⟩, gc)⟩) d y'.ty n.toNat (by rw [upd_self]; exact hge) (by rw [upd_self]; exact fun h => nomatch h)
      rw [upd_self] at this
      exact RS.v this
  · cases h

end Go.Proofs.YtbmpjppfdeohnaaDoor.Fv

/-! append, copy, conversions to bytes, closures. -/
namespace Go.Proofs.YtbmpjppfdeohnaaDoor.Fv
variable [Quiet]
variable {E : Env} {P : Program} {tt : Nat → Option TE} {M M' : Mem} {μ μ' : Mu} {b b' : List (Blk E)} {w w' : World}

theorem lstS_ok {a : AV E} {e : Ty} {xs : List (E.D e)} (h : lstS a = some ⟨e, xs⟩) : real a = true := by
  unfold lstS at h
  split at h
  · rfl
  · unfold lst at h
    split at h <;> first | rfl | cases h

theorem sl_of_tyOf (hT : TOK P E tt) {t : Nat} {e : Ty} {ht : TD} (h : tyOf tt t = .sl e) (htd : tdOf tt t = ht) (hs : ∃ el, ht = .slice el) : ∃ el, tdOf tt t = .slice el := by
  obtain ⟨el, rfl⟩ := hs
  exact ⟨el, htd⟩

theorem set_set_blk {d : Nat} {x y : Blk E} : (b.set d x).set d y = b.set d y := by simp
theorem upd_upd (μ : Mu) (d : Nat) (c c' : Conc) : upd (upd μ d c) d c' = upd μ d c' := by
  funext i
  by_cases h : i = d <;> simp [upd, h]

theorem appd_step (hE : EnvOK E) (hz : ∀ (M : Mem) n, RC M (.nm n) (E.dfl n) (E.zc n)) (hT : TOK P E tt) (hw : WR M μ b w) {t u el ty d : Nat} (htd : tdOf tt t = .slice el)
    {du : TypeDesc} (hu2 : P.underlying u = some du) (hd : (∃ e, du = .slice e) ∨ du = .string) {x y a : AV E} {vx vy : Value} {up : Upd E} (h : appd tt b d t x y = some (true, a, up)) (hx : RS M μ x vx) (hy : RS M μ y vy) (okx : OKA b x) (oky : OKA b y)
    {s : Sem Next} (hs : s = (do pure (.value (← Builtin.append_ #[t, u] ty #[vx, vy])))) : OpStep P M μ b w s a up := by
  subst hs
  unfold appd at h
  split at h
  · cases h
  · rename_i e' ys hl
    split at h
    · rename_i id e xs
      split at h
      · rename_i ys' e'' n hc hb
        obtain ⟨he, h⟩ := bif_some h
        simp only [Bool.and_eq_true, decide_eq_true_eq] at he
        obtain ⟨rfl, hty⟩ := he
        obtain ⟨hce, rfl⟩ := cst_eq hc
        injection hce with hce
        subst hce
        injection h with h; injection h with hok h; injection h with h1 h2
        subst h1 h2
        simp only [Bool.and_eq_true, decide_eq_true_eq] at hok
        obtain ⟨rfl, hle⟩ := hok
        obtain ⟨v, w', M', c', h1, h2, h3⟩ := app_step (ty := ty) hE (hz M) hT hw htd hty hu2 hd hx (srcB_ok hE hw hy oky hl) hb hle
        rw [← List.length_append] at h2
        refine ⟨v, w', M', _, .inl (by simp [h1]), h2, h3, .plain ⟨_, blk_set_self (blk_lt (by rw [hb]; simp)) _, by simp⟩ (by simp) (by simp) (by simp)⟩
      · cases h
    · rename_i e xs
      split at h
      · rename_i ys' hc
        obtain ⟨he, h⟩ := bif_some h
        simp only [Bool.and_eq_true, decide_eq_true_eq] at he
        obtain ⟨hf, hty⟩ := he
        obtain ⟨hce, rfl⟩ := cst_eq hc
        injection hce with hce
        subst hce
        injection h with h; injection h with hok h; injection h with h1 h2
        subst h1 h2
        simp only [decide_eq_true_eq] at hok
        obtain ⟨c0, g1, g2, g3⟩ := exact_home hw hf hx
        have hd1 := (free_spec hf).1
        obtain ⟨v, w', M', c', h1, h2, h3⟩ := app_step (ty := ty) hE (hz M) hT g1.wr htd hty hu2 hd g2 (srcB_ok hE hw hy oky hl) (blk_set_self hd1 _) hok
        rw [List.length_set] at h2
        have h4 := g1.trans h2
        rw [set_set_blk, upd_upd] at h4
        rw [upd_upd] at h3
        rw [← List.length_append] at h4
        exact ⟨v, w', M', _, .inl (by simp [h1]), h4, h3, .plain ⟨_, blk_set_self hd1 _, by simp⟩ (by simp) (by simp) (by simp)⟩
      · cases h
    · rename_i id e off len
      split at h
      · rename_i e'' xs hb
        split at h
        · rename_i ys' hc
          have h0 := bif_some h
          clear h
          obtain ⟨he, h⟩ := h0
          simp only [Bool.and_eq_true, decide_eq_true_eq] at he
          obtain ⟨⟨⟨rfl, hty⟩, rfl⟩, hf⟩ := he
          obtain ⟨hce, rfl⟩ := cst_eq hc
          injection hce with hce
          subst hce
          have h := Option.some.inj h
          obtain ⟨hok, h⟩ := Prod.mk.inj h
          obtain ⟨rfl, rfl⟩ := Prod.mk.inj h
          simp only [Bool.and_eq_true, decide_eq_true_eq] at hok
          obtain ⟨rfl, hle⟩ := hok
          obtain ⟨v, w', c', h1, h2, h3⟩ := rowapp_step (ty := ty) hE (hz M) hT hw htd hty hu2 hd hx (srcB_ok hE hw hy oky hl) hf hb hle
          refine ⟨v, w', M, _, .inl (by simp [h1]), h2, h3, .plain (.inl ⟨_, blk_set_self (by simpa using (free_spec hf).1) _, by simp⟩) (by simp) (by simp) (by simp)⟩
        · cases h
      · cases h
    · cases h

/-! ### copy -/
theorem run_cpy {t u el ty : Nat} {i : TypeInfo} (hu : P.underlying t = some (.slice el)) (hi : P.info? el = some i) {y : Value} {m : Nat} {cs : List Value} (hl : (Builtin.lenOf y).run P w = .ok m w) {base : Option Addr} {n cap : Nat}
    (hf : (Builtin.firstCells i.size (Nat.min m n) y).run P w = .ok cs.toArray w) (hst : match base with | none => w' = w | some a => (storeCells a cs).run P w = .ok () w') :
    (Builtin.copy_ #[t, u] ty #[.slice base n cap, y]).run P w = .ok (.int .i64 (Nat.min m n : Nat)) w' := by
  cases base with
  | none =>
    simp only at hst
    subst hst
    have e : (Nat.min m n) = min m n := rfl
    rw [e] at hf ⊢
    simp [Builtin.copy_, run_underlying' hu, run_sizeOf hi, hl, hf, goInt]
  | some a =>
    simp only at hst
    have e : (Nat.min m n) = min m n := rfl
    rw [e] at hf ⊢
    simp [Builtin.copy_, run_underlying' hu, run_sizeOf hi, hl, hf, hst, goInt]

theorem flatten_split (css : List (List Value)) (k : Nat) : (css.take k).flatten ++ (css.drop k).flatten = css.flatten := by rw [← List.flatten_append, List.take_append_drop]

theorem RC.arr_over (hE : EnvOK E) {e : Ty} {xs ys : List (E.D e)} {css cys : List Value} {k off : Nat} {cy : List (List Value)} (h : RC M (.arr xs.length e) xs css) (hl : cy.length = ys.length) (hy : ∀ i (hi : i < ys.length), RC M e ys[i] (cy.getD i [])) (ho : off + ys.length ≤ xs.length) :
    ∃ pre old post, css = pre ++ old ++ post ∧ pre.length = off * size E e ∧ old.length = ys.length * size E e ∧ RC M (.arr (over xs ys off).length e) (over xs ys off) (pre ++ cy.flatten ++ post) := by
  have key : ∀ (xs : List (E.D e)) (css : List Value) (n : Nat), RC M (.arr n e) xs css → n = xs.length → off + ys.length ≤ xs.length →
    ∃ pre old post, css = pre ++ old ++ post ∧ pre.length = off * size E e ∧ old.length = ys.length * size E e ∧ RC M (.arr (over xs ys off).length e) (over xs ys off) (pre ++ cy.flatten ++ post) := by
    intro xs css n h hn ho
    cases h with
    | arr n xs' css' hn' hl' hx =>
      have hk : ∀ (l : List (List Value)) (k : Nat), (∀ x ∈ l, x.length = k) → l.flatten.length = l.length * k := by
        intro l k h
        refine flatten_len (k := k) fun i hi => ?_
        rw [List.getD_of_lt _ _ _ hi]
        exact h _ (List.getElem_mem _)
      have hmem : ∀ x ∈ css', x.length = size E e := by
        intro x hxm
        obtain ⟨i, hi, rfl⟩ := List.mem_iff_getElem.1 hxm
        have := (hx i (by omega)).len hE
        rwa [List.getD_of_lt _ _ _ hi] at this
      refine ⟨(css'.take off).flatten, ((css'.drop off).take ys.length).flatten, (css'.drop (off + ys.length)).flatten, ?_, ?_, ?_, ?_⟩
      · rw [← List.flatten_append, ← List.flatten_append]
        congr 1
        rw [List.append_assoc, ← List.drop_drop, List.take_append_drop, List.take_append_drop]
      · rw [hk _ (size E e) fun x hx => hmem x (List.mem_of_mem_take hx), List.length_take, Nat.min_eq_left (by omega)]
      · rw [hk _ (size E e) fun x hx => hmem x (List.mem_of_mem_drop (List.mem_of_mem_take hx)), List.length_take, List.length_drop, Nat.min_eq_left (by omega)]
      · rw [← List.flatten_append, ← List.flatten_append]
        refine .arr _ _ _ rfl ?_ ?_
        · simp only [over, List.length_append, List.length_take, List.length_drop]; omega
        · intro i hi
          simp only [over, List.length_append, List.length_take, List.length_drop] at hi
          have hoff : (xs.take off).length = off := by rw [List.length_take]; omega
          have hoff' : (css'.take off).length = off := by rw [List.length_take]; omega
          simp only [over]
          rw [List.getD_eq_getElem?_getD]
          by_cases h1 : i < off
          · have hx' := hx i (by omega)
            rw [List.getD_eq_getElem?_getD] at hx'
            simp only [List.append_assoc]
            rw [List.getElem_append_left (by omega), List.getElem?_append_left (by omega), List.getElem?_take, if_pos h1, List.getElem_take]
            exact hx'
          · by_cases h2 : i < off + ys.length
            · have hy' := hy (i - off) (by omega)
              rw [List.getD_eq_getElem?_getD] at hy'
              simp only [List.append_assoc]
              rw [List.getElem_append_right (by omega), List.getElem?_append_right (by omega), List.getElem_append_left (by omega), List.getElem?_append_left (by omega)]
              simp only [hoff, hoff']
              exact hy'
            · have hx' := hx i (by omega)
              rw [List.getD_eq_getElem?_getD] at hx'
              simp only [List.append_assoc]
              rw [List.getElem_append_right (by omega), List.getElem?_append_right (by omega), List.getElem_append_right (by omega), List.getElem?_append_right (by omega)]
              simp only [hoff, hoff', hl, List.getElem_drop, List.getElem?_drop]
              have e1 : off + ys.length + (i - off - ys.length) = i := by omega
              simp only [e1]
              exact hx'
  exact key xs css _ h rfl ho

theorem cpy_step (hE : EnvOK E) (hT : TOK P E tt) (hw : WR M μ b w) {t u el ty : Nat} (htd : tdOf tt t = .slice el) {x y a : AV E} {vx vy : Value} {up : Upd E} (h : cpy tt b t x y = some (true, a, up)) (hx : RS M μ x vx) (hy : RS M μ y vy) (oky : OKA b y)
    {s : Sem Next} (hs : s = (do pure (.value (← Builtin.copy_ #[t, u] ty #[vx, vy])))) : OpStep P M μ b w s a up := by
  subst hs
  unfold cpy at h
  split at h
  · rename_i id e off len
    split at h
    · rename_i e' ys e'' xs hl hb
      split at h
      · rename_i ys' hc
        obtain ⟨he, h9⟩ := bif_some h
        clear h
        simp only [Bool.and_eq_true, decide_eq_true_eq] at he
        obtain ⟨rfl, hty⟩ := he
        obtain ⟨hce, rfl⟩ := cst_eq hc
        injection hce with hce
        subst hce
        injection h9 with h; injection h with hok h; injection h with h1 h2
        subst h1 h2
        simp only [decide_eq_true_eq] at hok
        obtain ⟨y', hy', hu, rfl, hfull, hby, hsz0, hsz1⟩ := hT.slice htd hty
        obtain ⟨i, hi, hsz⟩ := hT.size hy'
        obtain ⟨css, hc1, hc2, hc3⟩ := srcB_ok (P := P) hE hw hy oky hl
        obtain ⟨hlen, hf⟩ := hc3 w rfl
        have hf := hf (Nat.min ys.length len) (Nat.min_le_left _ _)
        have hid : id < b.length := blk_lt (by rw [hb]; simp)
        have hB := hw.bw id
        rw [hb] at hB
        by_cases hpos0 : xs.length = 0
        · have hxs : xs = [] := List.length_eq_zero_iff.1 hpos0
          subst hxs
          simp only [List.length_nil, Nat.le_zero_eq] at hok
          have hl0 : len = 0 := by omega
          have ho0 : off = 0 := by omega
          subst hl0 ho0
          have hm0 : Nat.min ys.length 0 = 0 := Nat.min_zero _
          rw [hm0, List.take_zero] at hf
          have hrun : (Builtin.copy_ #[t, u] ty #[vx, vy]).run P w = .ok (.int .i64 (Nat.min ys.length 0 : Nat)) w := by
            cases hx with
            | v hx =>
              cases hx with
              | fs _ _ _ _ cap base hbase hcap =>
                refine run_cpy (cs := []) hu hi hlen (by rw [hm0, hsz]; exact hf) ?_
                cases base with
                | none => rfl
                | some ad => rfl
          refine ⟨_, w, M, upd μ id (μ id), .inl (by simp [hrun]), ?_, RS.int _ _, .t _ _ _⟩
          refine Tr.one hw hid (μ id) _ (.refl M) hw.holds (by rw [hb]; exact ⟨rfl, by simp [over], rfl, rfl⟩) ?_ (Nat.le_refl _) (fun _ _ _ => rfl) (fun _ _ h1 h2 => absurd h1 h2) ?_ ?_ rfl ⟨rfl, fun _ => Nat.le_refl _⟩ rfl
          · intro lv
            have e0 : over ([] : List (E.D y'.ty)) (List.take 0 ys) 0 = [] := by simp [over]
            rw [e0]
            exact hB
          · intro g h
            rw [hb]
            have e0 : over ([] : List (E.D y'.ty)) (List.take 0 ys) 0 = [] := by simp [over]
            rw [e0] at h
            exact .inr h
          · intro lv ly a h
            cases h
        have hpos : 0 < xs.length := by omega
        obtain ⟨hv0, cs, T, fr, cells, h1, h2, ⟨rest, h3⟩, h4, hcsz, hfr⟩ := hB.resolve_left fun h => by rw [h.2] at hpos; simp at hpos
        have hyt : (ys.take len).length = min ys.length len := by rw [List.length_take, Nat.min_comm]
        have hct : (css.take (Nat.min ys.length len)).length = (ys.take len).length := by
          rw [hyt, List.length_take, hc1]; exact Nat.min_eq_left (Nat.min_le_left _ _)
        have hcy : ∀ i (hi : i < (ys.take len).length), RC M y'.ty (ys.take len)[i] ((css.take (Nat.min ys.length len)).getD i []) := by
          intro i hi
          have hi' : i < min ys.length len := hyt ▸ hi
          have hi2 : i < ys.length ∧ i < len := by omega
          rw [List.getD_eq_getElem?_getD, List.getElem?_take, if_pos (show i < Nat.min ys.length len from hi'), ← List.getD_eq_getElem?_getD, List.getElem_take]
          exact hc2 i hi2.1
        have hmin : min ys.length len ≤ len := Nat.min_le_right _ _
        obtain ⟨pre, old, post, e1, e2, e3, e4⟩ := RC.arr_over (k := 0) (cys := []) hE h2 hct hcy (off := off) (by omega)
        have hfl := css_flat_len hE hct hcy
        have h7 : Repl cs.toList (off * size E y'.ty) (css.take (Nat.min ys.length len)).flatten (pre ++ (css.take (Nat.min ys.length len)).flatten ++ (post ++ rest)) := ⟨pre, old, post ++ rest, by rw [h3, e1]; simp, rfl, e2, by rw [e3, hfl]⟩
        obtain ⟨w', hw1, hw2⟩ : ∃ w', (Builtin.copy_ #[t, u] ty #[vx, vy]).run P w = .ok (.int .i64 (Nat.min ys.length len : Nat)) w' ∧ w' = w.setRow (μ id).g (pre ++ (css.take (Nat.min ys.length len)).flatten ++ (post ++ rest)).toArray := by
          refine ⟨_, ?_, rfl⟩
          cases hx with
          | v hx =>
            cases hx with
            | fs _ _ _ _ cap base hbase hcap =>
              refine run_cpy hu hi hlen (by rw [hsz]; exact hf) ?_
              have hst : ∀ ad : Addr, base = some ad → (storeCells ad (css.take (Nat.min ys.length len)).flatten).run P w = .ok () (w.setRow (μ id).g (pre ++ (css.take (Nat.min ys.length len)).flatten ++ (post ++ rest)).toArray) := by
                intro ad had
                have hcs : cs = (pre ++ old ++ (post ++ rest)).toArray := by apply Array.ext'; rw [h3, e1]; simp
                have hdeg : len = 0 → (css.take (Nat.min ys.length len)).flatten = [] ∧ old = [] := by
                  intro h0
                  have : min ys.length len = 0 := by omega
                  have e0 : (ys.take len).length = 0 := by rw [hyt, this]
                  exact ⟨List.eq_nil_of_length_eq_zero (by rw [hfl, e0, Nat.zero_mul]), List.eq_nil_of_length_eq_zero (by rw [e3, e0, Nat.zero_mul])⟩
                by_cases h0 : len = 0
                · obtain ⟨g1, g2⟩ := hdeg h0
                  rw [g1]
                  rw [g2] at hcs
                  simp only [List.append_nil] at hcs ⊢
                  rw [← hcs, setRow_self w _ cs T fr h1]
                  rfl
                · rcases hbase with ⟨rfl, _⟩ | h'
                  · cases had
                    have hst := run_storeCells_fr P (μ id).g (off * size E y'.ty) T fr (css.take (Nat.min ys.length len)).flatten 0 cs w h1 hfr.free (by rw [hcs, Nat.add_zero, hfl, ← e3, ← e2]; simp only [List.size_toArray, List.length_append]; omega) (css_one' hct hcy)
                    rw [Nat.add_zero] at hst
                    refine hst.trans ?_
                    congr 3
                    rw [hcs, hfl, ← e3, ← e2]
                    simp [List.append_assoc]
                  · omega
              cases base with
              | none =>
                have h0 : len = 0 := by
                  rcases hbase with ⟨h, _⟩ | h
                  · cases h
                  · omega
                simp only
                have e0 : (ys.take len).length = 0 := by rw [hyt]; omega
                have g1 : (css.take (Nat.min ys.length len)).flatten = [] := List.eq_nil_of_length_eq_zero (by rw [hfl, e0, Nat.zero_mul])
                have g2 : old = [] := List.eq_nil_of_length_eq_zero (by rw [e3, e0, Nat.zero_mul])
                rw [g1]
                have hcs : cs = (pre ++ old ++ (post ++ rest)).toArray := by apply Array.ext'; rw [h3, e1]; simp
                rw [g2] at hcs
                simp only [List.append_nil] at hcs ⊢
                rw [← hcs, setRow_self w _ cs T fr h1]
              | some ad => exact hst ad rfl
        subst hw2
        refine ⟨_, _, M, upd μ id (μ id), .inl (by simp [hw1]; rfl), ?_, RS.int _ _, .t _ _ _⟩
        refine Tr.one hw hid (μ id) _ (.refl M) (holds_setRow hw.holds _ h4) (by rw [hb]; exact ⟨rfl, by simp only [over, List.length_append, List.length_take, List.length_drop]; omega, rfl, rfl⟩) ?_ (by simp) ?_ (fun _ _ h1 h2 => absurd h1 h2) ?_ ?_ rfl ⟨rfl, fun _ => Nat.le_refl _⟩ rfl
        · intro lv
          refine .inr ⟨hv0, _, T, fr, _, setRow_heap w _ cs _ T _ h1, e4, ⟨rest, by simp⟩, h4, ?_, ?_⟩
          · have hl7 := h7.len
            rw [Array.length_toList] at hl7
            rw [← hcsz, ← Array.length_toList (xs := cs), ← hl7]
            simp
          · have e9 : ∀ n, n = cs.size → FrOK _ n fr := fun n h => h ▸ hfr
            refine e9 _ ?_
            have hl7 := h7.len
            simp at hl7 ⊢
            omega
        · intro g _ hg
          rw [hb] at hg
          exact setRow_other w _ g _ (fun e => hg (by simp [Exc, e, hv0]))
        · intro g h
          rw [hb]
          exact .inr h
        · intro lv ly a h
          cases h
      · cases h
    · cases h
  · cases h

end Go.Proofs.YtbmpjppfdeohnaaDoor.Fv

/-! Bytes of a string, closures, structs whose slices grow. -/
namespace Go.Proofs.YtbmpjppfdeohnaaDoor.Fv
variable [Quiet]
variable {E : Env} {P : Program} {tt : Nat → Option TE} {M M' : Mem} {μ μ' : Mu} {b b' : List (Blk E)} {w w' : World}

/-! ### The bytes of a string -/
theorem freeze_heap (w : World) (a : Addr) (n g : Nat) (h : g ≠ a.block) : (w.freeze a n).heap[g]? = w.heap[g]? := by
  unfold World.freeze
  split
  · rfl
  · simp [Array.getElem?_modify, Ne.symm h]
theorem freeze_self (w : World) (g o : Nat) {cs : Array Value} {T : TypeId} {fr0 : Nat × Nat} (h : w.heap[g]? = some (.cells cs T fr0)) : ∃ fr, (w.freeze ⟨g, o, none⟩ 1).heap[g]? = some (.cells cs T fr) := by
  unfold World.freeze
  simp [Array.getElem?_modify, h]
theorem freeze_at (w : World) (g o : Nat) {cs : Array Value} {T : TypeId} (h : w.heap[g]? = some (.cells cs T (0, 0))) : (w.freeze ⟨g, o, none⟩ 1).heap[g]? = some (.cells cs T (o, o + 1)) := by
  unfold World.freeze
  simp [Array.getElem?_modify, h]
theorem freeze_size (w : World) (a : Addr) (n : Nat) : (w.freeze a n).heap.size = w.heap.size := by
  unfold World.freeze
  split <;> simp
theorem freeze_rest (w : World) (a : Addr) (n : Nat) : (w.freeze a n).os = w.os ∧ SameT (w.freeze a n) w ∧ (w.freeze a n).output = w.output := by
  unfold World.freeze
  split <;> exact ⟨rfl, ⟨rfl, fun _ => Nat.le_refl _⟩, rfl⟩

/-- A byte as a value. -/
def u8v (c : UInt8) : Value := .int .u8 (c.toNat : Int)
theorem run_s2b (el : TypeId) (s : ByteArray) : ∃ rest cap fr W, (Conv.stringToBytes el s).run P w = .ok (.slice (some ⟨w.heap.size, 0, none⟩) s.size cap) W ∧ s.size ≤ cap ∧ Ext w W ∧
    W.heap[w.heap.size]? = some (.cells (s.data.toList.map u8v ++ rest).toArray el fr) ∧ s.size + rest.length = cap ∧ cap ≤ fr.1 := by
  have hc := grownCap_ge w s.size 0 el
  refine ⟨List.replicate (grownCap w s.size 0 el - s.size) (Value.int .u8 0), grownCap w s.size 0 el, ?_⟩
  have hh := heap_alloc_new w.drew (.cells (s.data.toList.map u8v ++ List.replicate (grownCap w s.size 0 el - s.size) (Value.int .u8 0)).toArray el)
  generalize hW : w.drew.alloc (.cells (s.data.toList.map u8v ++ List.replicate (grownCap w s.size 0 el - s.size) (Value.int .u8 0)).toArray el) = W0 at hh
  have hh : W0.heap[w.heap.size]? = _ := hh
  have hext : Ext w W0 := by rw [← hW]; exact (Ext.drew w).trans (Ext.alloc w.drew _)
  have hsh : ∃ n, W0.shape? w.heap.size = some (el, n) ∧ n = grownCap w s.size 0 el := ⟨_, by simp only [World.shape?, hh]; rfl, by simp; omega⟩
  obtain ⟨n, hn, hn2⟩ := hsh
  have hfr := freeze_at W0 w.heap.size n hh
  obtain ⟨r1, r2, r3⟩ := freeze_rest W0 ⟨w.heap.size, n, none⟩ 1
  refine ⟨(n, n + 1), W0.freeze ⟨w.heap.size, n, none⟩ 1, ?_, hc, ⟨by rw [freeze_size]; exact hext.size, fun g hg => ?_, r1.trans hext.os, r2.trans hext.tape, r3.trans hext.output⟩, hfr, by simp; omega, by simp only; omega⟩
  · have e1 : (Array.map (fun b : UInt8 => Value.int .u8 b.toNat) s.data ++ Array.replicate (grownCap w s.size 0 el - s.size) (Value.int .u8 0)) = (s.data.toList.map u8v ++ List.replicate (grownCap w s.size 0 el - s.size) (Value.int .u8 0)).toArray := by
      apply Array.ext'
      simp
      intros
      rfl
    have e2 : (Question.appendCap s.size 0 el).cut (w.tape w.drawn (.appendCap s.size 0 el)) = grownCap w s.size 0 el := rfl
    simp only [Conv.stringToBytes, Sem.run_bind, run_choose, Question.forced, Bool.false_eq_true, if_false, World.drew_eq, Result.andThen_ok, e2, e1, run_newRow, World.size_drew, hW, markStringish, run_shape, hn, run_freeze, Sem.run_pure]
  · rw [freeze_heap _ _ _ _ (by simp only; omega)]
    exact hext.old g hg

theorem s2b_step (hE : EnvOK E) (hw : WR M μ b w) {el : Nat} {bs : ByteArray} {s : Sem Next} (hs : s.run P w = ((do pure (.value (← Conv.stringToBytes el bs))) : Sem Next).run P w) : OpStep P M μ b w s (.t (.sl (.int .u8)) (ints bs.data.toList)) [] := by
  obtain ⟨rest, cap, fr, W, h1, h2, h3, h4, _⟩ := run_s2b (P := P) (w := w) el bs
  have hnew : ∀ o, M w.heap.size o = none := fun o => hw.holds.new (Nat.le_refl _)
  have hcells : ∀ l : List UInt8, l.map u8v = ((ints l).map fun n => [Value.int .u8 n]).flatten := by
    intro l
    induction l with
    | nil => rfl
    | cons a l ih =>
      simp only [List.map_cons, ih, ints, List.flatten_cons]
      rfl
  refine ⟨_, W, plus M w.heap.size 0 (((ints bs.data.toList).map fun n => [Value.int .u8 n]).flatten), μ, .inl (by rw [hs]; simp [h1]; rfl), Tr.grown hw (plus_le fun o _ => hnew o) (plus_holds (h3.holds hw.holds) (fun c hc => by rw [← hcells] at hc; obtain ⟨_, _, rfl⟩ := List.mem_map.1 hc; trivial) ?_) h3 ?_, ?_, .t _ _ _⟩
  · have := InMem.heap h4
    have hp : Piece (bs.data.toList.map u8v ++ rest) 0 (((ints bs.data.toList).map fun n => [Value.int .u8 n]).flatten) := ⟨[], rest, by rw [← hcells]; rfl, rfl⟩
    have := InMem.piece this hp
    rwa [Nat.zero_add] at this
  · intro g o h5 h6
    exact Nat.le_of_eq (plus_new h5 h6).symm
  · have hbl : (ints bs.data.toList).length = bs.size := by simp [ints]
    have hlen : ((ints bs.data.toList).map fun n => [Value.int .u8 n]).length = (ints bs.data.toList).length := List.length_map _
    have := RC.new_row (E := E) (M := M) (e := .int .u8) (xs := ints bs.data.toList) (css := (ints bs.data.toList).map fun n => [Value.int .u8 n]) (g := w.heap.size) (hE := hE) hlen ?_ hnew (n := bs.size) (cap := cap) hbl.symm h2
    · exact RS.slice this
    · intro i hi
      have hi' : i < (ints bs.data.toList).length := hi
      rw [List.getD_of_lt _ _ _ (by rw [List.length_map]; exact hi')]
      simp only [List.getElem_map]
      exact RC.int _ _

/-- The bytes as a row of the call's own. -/
theorem s2b_row (hE : EnvOK E) (hw : WR M μ b w) {el d : Nat} {bs : ByteArray} {s : Sem Next} (hs : s.run P w = ((do pure (.value (← Conv.stringToBytes el bs))) : Sem Next).run P w) (hd : free b d = true) :
    OpStep P M μ b w s (.fs d (.int .u8) 0 (List.length (α := Int) (ints bs.data.toList))) [(d, .row (.int .u8) (ints bs.data.toList))] := by
  obtain ⟨rest, cap, fr, W, h1, h2, h3, h4, h5, h6⟩ := run_s2b (P := P) (w := w) el bs
  obtain ⟨hd1, hd2⟩ := free_spec hd
  have hnew : ∀ o, M w.heap.size o = none := fun o => hw.holds.new (Nat.le_refl _)
  have hbl : (ints bs.data.toList).length = bs.size := by simp [ints]
  have hcells : ∀ l : List UInt8, l.map u8v = ((ints l).map fun n => [Value.int .u8 n]).flatten := by
    intro l
    induction l with
    | nil => rfl
    | cons a l ih =>
      simp only [List.map_cons, ih, ints, List.flatten_cons]
      rfl
  refine ⟨_, W, M, upd μ d ⟨w.heap.size, fun _ => (none, cap)⟩, .inl (by rw [hs]; simp [h1]; rfl), ?_, ?_, .plain (.inl ⟨_, blk_set_self hd1 _, by rw [Nat.zero_add]; exact Nat.le_refl _⟩) (by simp) (by simp) (by simp)⟩
  · refine Tr.new hw hd ⟨w.heap.size, _⟩ _ (.refl M) (h3.holds hw.holds) h3 ?_ (fun _ _ h1 h2 => absurd h1 h2) ?_ ?_
    · intro lv
      by_cases hc0 : cap = 0
      · exact .inl ⟨hc0, List.eq_nil_of_length_eq_zero (by omega)⟩
      · refine .inr ⟨hc0, _, el, fr, _, h4, .arr _ _ ((ints bs.data.toList).map fun n => [Value.int .u8 n]) rfl (List.length_map _) ?_, ⟨rest, ?_⟩, hnew, ?_, .inr ⟨rfl, ?_⟩⟩
        · intro i hi
          have hi' : i < (ints bs.data.toList).length := hi
          rw [List.getD_of_lt _ _ _ (by rw [List.length_map]; exact hi')]
          simp only [List.getElem_map]
          exact RC.int _ _
        · rw [← hcells]
        · rw [List.size_toArray, List.length_append, List.length_map]
          show _ = cap * 1
          have : bs.data.toList.length = bs.size := by simp
          omega
        · rw [List.size_toArray, List.length_append, List.length_map]
          have : bs.data.toList.length = bs.size := by simp
          omega
    · intro g h
      simp only [Exc] at h
      split at h
      · cases h
      · cases h; exact Nat.le_refl _
    · intro lv ly a h; cases h
  · rw [hbl]
    refine RS.v (RV.fs d (.int .u8) 0 _ cap _ (.inl ?_) h2)
    rw [upd_self, Nat.zero_mul, Nat.zero_add]
    exact ⟨rfl, rfl⟩

/-! ### Several homes turned at once -/
theorem upds_len : ∀ (u : Upd E) (b : List (Blk E)), (upds b u).length = b.length
  | [], b => rfl
  | (i, x) :: u, b => by simp [upds, upds_len u]
theorem upds_out : ∀ (u : Upd E) (b : List (Blk E)) (i : Nat), (∀ p ∈ u, p.1 ≠ i) → blk (upds b u) i = blk b i
  | [], b, i, _ => rfl
  | (j, x) :: u, b, i, h => by
    simp only [upds]
    rw [upds_out u _ i (fun p hp => h p (List.mem_cons_of_mem _ hp)), blk_set_ne (Ne.symm (h (j, x) (by simp)))]
theorem upds_in : ∀ (u : Upd E) (b : List (Blk E)) (i : Nat) (x : Blk E), (∀ p ∈ u, p.1 = i → p.2 = x) → (∃ p ∈ u, p.1 = i) → i < b.length → blk (upds b u) i = x
  | [], b, i, x, _, h, _ => by obtain ⟨p, hp, _⟩ := h; simp at hp
  | (j, y) :: u, b, i, x, h, hex, hi => by
    simp only [upds]
    by_cases hu : ∃ p ∈ u, p.1 = i
    · exact upds_in u _ i x (fun p hp => h p (List.mem_cons_of_mem _ hp)) hu (by simpa using hi)
    · have hj : j = i := by
        obtain ⟨p, hp, he⟩ := hex
        rcases List.mem_cons.1 hp with rfl | hp
        · exact he
        · exact absurd ⟨p, hp, he⟩ hu
      subst hj
      rw [upds_out u _ j (fun p hp he => hu ⟨p, hp, he⟩), blk_set_self hi]
      exact h (j, y) (by simp) rfl
theorem upds_append : ∀ (u v : Upd E) (b : List (Blk E)), upds b (u ++ v) = upds (upds b u) v
  | [], v, b => rfl
  | p :: u, v, b => by simp only [List.cons_append, upds, upds_append u v]

/-! ### Closures -/
theorem caps_get : ∀ (l : List (AV E)) (cl : List (Cap E)) (u : Upd E), caps b l = some (cl, u) → cl.length = l.length ∧
    (∀ i (hi : i < l.length) (hi' : i < cl.length), ∃ v, cap1 b l[i] = some (cl[i], v) ∧ ∀ p ∈ v, p ∈ u) ∧ ∀ p ∈ u, ∃ ly a v, blk b p.1 = .var ly a ∧ toT a ly = some v ∧ p.2 = .frz ly v
  | [], cl, u, h => by
    cases h
    exact ⟨rfl, fun i hi => by simp at hi, fun p hp => by simp at hp⟩
  | a :: l, cl, u, h => by
    unfold caps at h
    split at h
    · rename_i x u1 y u2 h1 h2
      cases h
      obtain ⟨g1, g2, g3⟩ := caps_get l y u2 h2
      refine ⟨by simp [g1], ?_, ?_⟩
      · intro i hi hi'
        match i, hi, hi' with
        | 0, _, _ => exact ⟨u1, h1, fun p hp => List.mem_append_left _ hp⟩
        | i + 1, hi, hi' =>
          obtain ⟨v, k1, k2⟩ := g2 i (by simpa using hi) (by simpa using hi')
          exact ⟨v, k1, fun p hp => List.mem_append_right _ (k2 p hp)⟩
      · intro p hp
        rcases List.mem_append.1 hp with hp | hp
        · unfold cap1 at h1
          split at h1
          · split at h1
            · rename_i id ly _ ly' a' hb
              obtain ⟨hly, h1⟩ := bif_some h1
              split at h1
              · rename_i v hv
                cases h1
                simp only [List.mem_singleton] at hp
                subst hp
                exact ⟨ly', a', v, hb, hv, rfl⟩
              · cases h1
            · obtain ⟨_, h1⟩ := bif_some h1
              cases h1
              simp at hp
            · cases h1
          · cases h1
            simp at hp
          · cases h1
        · exact g3 p hp
    · cases h

open Classical in
/-- What was a variable is known for good. -/
noncomputable def settle (M : Mem) (w : World) (gs : Nat → Prop) : Mem := fun g o => if gs g then memOf w g o else M g o
theorem settle_le {gs : Nat → Prop} (h : ∀ g, gs g → ∀ o, M g o = none) : M.le (settle M w gs) := by
  intro g o v hm
  unfold settle
  split
  · rename_i hg; rw [h g hg o] at hm; cases hm
  · exact hm
theorem memOf_holds (w : World) : Holds (memOf w) w := by
  intro g o v h
  unfold memOf at h
  split at h
  · rename_i es c hg
    split at h
    · rename_i h0
      cases h
      exact .inr (.inl ⟨h0, es, c, hg, rfl⟩)
    · cases h
  · rename_i cs3 T3 f3 hg
    split at h
    · rename_i h0
      cases h
      exact .inr (.inr ⟨cs3, T3, f3, hg, h0, rfl⟩)
    · split at h
      · cases h
      · rename_i x hx
        exact .inl ⟨by cases v <;> first | trivial | exact absurd h (hx _), h⟩
  · split at h
    · cases h
    · rename_i hn
      refine .inl ⟨?_, h⟩
      cases v <;> first | trivial | exact absurd h (hn _)
theorem memOf_cell {g o : Nat} {v : Value} (h : w.cell? ⟨g, o, none⟩ = some v) (hn : noT v) : memOf w g o = some v := by
  unfold memOf
  split
  · rename_i es c hg
    rw [World.cell?, hg] at h
    cases h
  · rename_i cs3 T3 f3 hg
    rw [if_neg (by
      intro he
      rw [cell_heap hg, he] at h
      simp at h)]
    split
    · rename_i a ha
      rw [h] at ha
      cases ha
      exact hn.elim
    · exact h
  · split
    · rename_i a ha
      rw [h] at ha
      cases ha
      exact hn.elim
    · exact h
theorem settle_holds {gs : Nat → Prop} (h : Holds M w) : Holds (settle M w gs) w := by
  intro g o v hm
  unfold settle at hm
  split at hm
  · exact memOf_holds w g o v hm
  · exact h g o v hm
theorem settle_at {gs : Nat → Prop} {g : Nat} {cs : Array Value} {T : TypeId} {fr : Nat × Nat} (hg : gs g) (h : w.heap[g]? = some (.cells cs T fr)) {css rest : List Value} (he : cs.toList = css ++ rest) (hn : ∀ c ∈ css, noT c) : CellsAt (settle M w gs) g 0 css := by
  refine .of (fun j hj => ?_) hn
  unfold settle
  rw [if_pos hg, Nat.zero_add]
  refine memOf_cell ?_ (hn _ (List.getElem_mem _))
  rw [cell_heap h, ← Array.getElem?_toList, he, List.getElem?_append_left hj]
  simp [hj]
theorem settle_new {gs : Nat → Prop} {g o : Nat} (h1 : M g o = none) (h2 : settle M w gs g o ≠ none) : gs g := by
  unfold settle at h2
  split at h2
  · assumption
  · exact absurd h1 h2

theorem settle_move (hE : EnvOK E) (hw : WR M μ b w) {id : Nat} {e : Ty} {xs : List (E.D e)} {v : Value} {s : Sem Next} (hb : blk b id = .row e xs) (hx : RS (E := E) M μ (.fs id e 0 xs.length) v)
    (hs : s = pure (.value v)) : OpStep P M μ b w s (.t (.sl e) xs) [(id, .rowz e)] := by
  subst hs
  have hid : id < b.length := blk_lt (by rw [hb]; simp)
  have hbw := hw.bw id
  rw [hb] at hbw
  obtain ⟨base, cap, rfl, hbase, hcap⟩ : ∃ base cap, v = .slice base xs.length cap ∧ ((base = some ⟨(μ id).g, 0, none⟩ ∧ cap ≤ ((μ id).ver 0).2) ∨ cap = 0) ∧ xs.length ≤ cap := by
    generalize hq : (AV.fs id e 0 xs.length : AV E) = q at hx
    cases hx with
    | v hx =>
      subst hq
      generalize hq : (AV.fs id e 0 xs.length : AV E) = q at hx
      cases hx <;> try (cases hq; done)
      rename_i cap base hbase hcap
      cases hq
      exact ⟨base, cap, rfl, (show (base = some ⟨(μ id).g, 0, none⟩ ∧ cap = ((μ id).ver 0).2) ∨ (cap = 0 ∧ ((μ id).ver 0).2 = 0) by simpa using hbase).imp (fun h => ⟨h.1, Nat.le_of_eq h.2⟩) And.left, hcap⟩
    | _ => cases hq
  have hmu : upd μ id (μ id) = μ := by
    funext i
    by_cases hi : i = id
    · subst hi; exact upd_self ..
    · exact upd_ne _ _ hi
  by_cases h0 : xs.length = 0
  · have hnil : xs = [] := List.length_eq_zero_iff.1 h0
    subst hnil
    refine ⟨_, w, M, μ, .inl rfl, ?_, RS.slice (.sl [] base cap (fun _ => []) hcap (fun i hi => by simp at hi) (fun i hi => by simp at hi) (fun h => by rcases hbase with ⟨rfl, _⟩ | h' <;> first | exact h' | (intro; exact h') | cases h)), .t _ _ _⟩
    have := Tr.one (M' := M) (w' := w) hw hid (μ id) (.rowz e) (.refl M) hw.holds (by rw [hb]; exact ⟨rfl, rfl, rfl⟩) (fun _ => trivial) (Nat.le_refl _)
      (fun g _ _ => rfl) (fun g o h1 h2 => absurd h1 h2) (fun g h => by cases h) (fun _ ly a h => by cases h) rfl ⟨rfl, fun _ => Nat.le_refl _⟩ rfl
    rw [hmu] at this
    exact this
  · obtain ⟨hv0, cs, T, fr, css, g1, g2, ⟨rest, g3⟩, g4, _⟩ := hbw.resolve_left fun h => by rw [h.2] at h0; simp at h0
    have hE1 : Exc (μ id) (blk b id) = some (μ id).g := by rw [hb]; simp [Exc, hv0]
    have hle : M.le (settle M w fun g => g = (μ id).g) := settle_le fun g hg o => by subst hg; exact g4 o
    have hat : CellsAt (settle M w fun g => g = (μ id).g) (μ id).g 0 css := settle_at rfl g1 g3 g2.noT
    refine ⟨_, w, settle M w fun g => g = (μ id).g, μ, .inl rfl, ?_, ?_, .t _ _ _⟩
    · have := Tr.one (M' := settle M w fun g => g = (μ id).g) (w' := w) hw hid (μ id) (.rowz e) hle (settle_holds hw.holds) (by rw [hb]; exact ⟨rfl, rfl, rfl⟩) (fun _ => trivial) (Nat.le_refl _)
        (fun g _ _ => rfl) (fun g o h1 h2 => .inr (by rw [hE1, settle_new h1 h2])) (fun g h => by cases h) (fun _ ly a h => by cases h) rfl ⟨rfl, fun _ => Nat.le_refl _⟩ rfl
      rw [hmu] at this
      exact this
    · rcases hbase with ⟨rfl, _⟩ | h
      · cases g2 with
        | arr _ _ css' hn hl hcs =>
          refine RS.slice (.sl xs _ cap (fun i => css'.getD i []) hcap (fun i hi => (hcs i hi).mono hle) ?_ (fun h => nomatch h))
          intro i hi
          refine ⟨⟨(μ id).g, 0, none⟩, rfl, rfl, ?_⟩
          have hp := flatten_piece css' i (size E e) (by omega) (fun j hj => (hcs j (by omega)).len hE)
          exact hat.piece hp
      · omega

/-- A row of the call's own that is data from here on. -/
theorem settle_row (hE : EnvOK E) (hw : WR M μ b w) {id n : Nat} {e : Ty} {xs : List (E.D e)} {v : Value} {s : Sem Next} (hb : blk b id = .row e xs) (hx : RS (E := E) M μ (.fs id e 0 n) v) (hn : n = xs.length) (h0 : 0 < n)
    (hs : ∀ (a : Addr) (len cap : Nat), v = .slice (some a) len cap → s.run P w = ((do markStringish a; pure (.value v)) : Sem Next).run P w) : OpStep P M μ b w s (.t (.sl e) xs) [(id, .rowz e)] := by
  subst hn
  have hid : id < b.length := blk_lt (by rw [hb]; simp)
  have hbw := hw.bw id
  rw [hb] at hbw
  obtain ⟨hv0, cs, T, fr, css, g1, g2, ⟨rest, g3⟩, g4, _⟩ := hbw.resolve_left fun h => by rw [h.2] at h0; simp at h0
  obtain ⟨cap, hv, hcap⟩ : ∃ cap, v = .slice (some ⟨(μ id).g, 0, none⟩) xs.length cap ∧ xs.length ≤ cap := by
    generalize hq : (AV.fs id e 0 xs.length : AV E) = q at hx
    cases hx with
    | v hx =>
      subst hq
      generalize hq : (AV.fs id e 0 xs.length : AV E) = q at hx
      cases hx <;> try (cases hq; done)
      rename_i cap base hbase hcap
      cases hq
      rcases hbase with ⟨rfl, _⟩ | h
      · exact ⟨cap, by simp [mkV, AV.isAgg], hcap⟩
      · omega
    | _ => cases hq
  have hrun := hs _ _ _ hv
  have hshape : (w.shape? (μ id).g) = some (T, cs.size) := by simp [World.shape?, g1]
  have hrun2 : s.run P w = .ok (.value v) (w.freeze ⟨(μ id).g, cs.size, none⟩ 1) := by
    rw [hrun]
    simp [markStringish, hshape]
  obtain ⟨fr, hfr⟩ := freeze_self w (μ id).g cs.size g1
  obtain ⟨o1, o2, o3⟩ := freeze_rest w ⟨(μ id).g, cs.size, none⟩ 1
  have hother : ∀ g, g ≠ (μ id).g → (w.freeze ⟨(μ id).g, cs.size, none⟩ 1).heap[g]? = w.heap[g]? := fun g hg => freeze_heap w ⟨(μ id).g, cs.size, none⟩ 1 g hg
  have hcell : ∀ g o, (w.freeze ⟨(μ id).g, cs.size, none⟩ 1).cell? ⟨g, o, none⟩ = w.cell? ⟨g, o, none⟩ := by
    intro g o
    by_cases hg : g = (μ id).g
    · subst hg
      rw [cell_heap hfr, cell_heap g1]
    · simp only [World.cell?, hother g hg]
  have hholds : Holds (settle M w fun g => g = (μ id).g) (w.freeze ⟨(μ id).g, cs.size, none⟩ 1) := fun g o x hx => by
    rcases settle_holds hw.holds g o x hx with ⟨k1, k2⟩ | ⟨k1, es, c, k2, k3⟩ | ⟨cs3, T3, f3, k2, k3, k4⟩
    · exact .inl ⟨k1, by rw [hcell]; exact k2⟩
    · refine .inr (.inl ⟨k1, es, c, ?_, k3⟩)
      rw [hother g (fun h => by rw [h, g1] at k2; cases k2)]
      exact k2
    · by_cases hgg : g = (μ id).g
      · rw [hgg, g1] at k2
        cases k2
        rw [hgg]
        exact .inr (.inr ⟨_, _, _, hfr, k3, k4⟩)
      · exact .inr (.inr ⟨cs3, T3, f3, by rw [hother g hgg]; exact k2, k3, k4⟩)
  have hle : M.le (settle M w fun g => g = (μ id).g) := settle_le fun g hg o => by subst hg; exact g4 o
  have hat : CellsAt (settle M w fun g => g = (μ id).g) (μ id).g 0 css := settle_at rfl g1 g3 g2.noT
  have hE1 : Exc (μ id) (blk b id) = some (μ id).g := by rw [hb]; simp [Exc, hv0]
  have hmu : upd μ id (μ id) = μ := by
    funext i
    by_cases hi : i = id
    · subst hi; exact upd_self ..
    · exact upd_ne _ _ hi
  refine ⟨v, _, settle M w fun g => g = (μ id).g, μ, .inl hrun2, ?_, ?_, .t _ _ _⟩
  · have := Tr.one (M' := settle M w fun g => g = (μ id).g) (w' := w.freeze ⟨(μ id).g, cs.size, none⟩ 1) hw hid (μ id) (.rowz e) hle hholds (by rw [hb]; exact ⟨rfl, rfl, rfl⟩) (fun _ => trivial) (by rw [freeze_size]; exact Nat.le_refl _)
      (fun g _ hg => hother g fun h => hg (by rw [hE1, h])) (fun g o h1 h2 => .inr (by rw [hE1, settle_new h1 h2])) (fun g h => by cases h) (fun _ ly a h => by cases h) o1 o2 o3
    rw [hmu] at this
    exact this
  · rw [hv]
    cases g2 with
    | arr _ _ css' hn hl hcs =>
      refine RS.slice (.sl xs _ cap (fun i => css'.getD i []) hcap (fun i hi => (hcs i hi).mono hle) ?_ (fun h => nomatch h))
      intro i hi
      refine ⟨⟨(μ id).g, 0, none⟩, rfl, rfl, ?_⟩
      have hp := flatten_piece css' i (size E e) (by omega) (fun j hj => (hcs j (by omega)).len hE)
      exact hat.piece hp

theorem cpsOf_get (hw : WR M μ b w) : ∀ (l : List (AV E)) (ps : List (CP E)) (vs : List Value), cpsOf b l = some ps → RSL M μ l vs → ps.length = l.length ∧ vs.length = l.length ∧ (∀ i (hi : i < ps.length), CPV M μ ps[i] (vs.getD i undef)) ∧
    ∀ id ly, CP.pt id ly ∈ ps → (∃ a, blk b id = .var ly a) ∨ ∃ v, blk b id = .frz ly v
  | [], ps, vs, h, hl => by
    cases h
    cases hl
    exact ⟨rfl, rfl, fun i hi => by simp at hi, fun id ly h => by simp at h⟩
  | a :: l, ps, vs, h, hl => by
    unfold cpsOf at h
    split at h
    · rename_i x y h1 h2
      cases h
      cases hl with
      | cons h0 hl =>
        rename_i v0 vs0
        obtain ⟨g1, g2, g3, g4⟩ := cpsOf_get hw l y _ h2 hl
        have key : CPV M μ x v0 ∧ ∀ id ly, x = CP.pt id ly → (∃ a, blk b id = .var ly a) ∨ ∃ v, blk b id = .frz ly v := by
          unfold cpOf at h1
          split at h1
          · rename_i id ly
            have e0 : offTy E ly [] = 0 := by cases ly <;> rfl
            have hp : v0 = Value.pointer (some ⟨(μ id).g, 0, none⟩) := by
              cases h0 with
              | v h0 => cases h0 with
                | ptr => simp only [mkV, AV.isAgg, e0]; rfl
            split at h1
            · rename_i ly' a' hb
              obtain ⟨hd, h1⟩ := bif_some h1
              cases h1
              exact ⟨hp, fun id' ly'' he => by cases he; exact .inl ⟨_, hb⟩⟩
            · rename_i ly' v' hb
              obtain ⟨hd, h1⟩ := bif_some h1
              cases h1
              have hB := hw.bw id
              rw [hb] at hB
              obtain ⟨cs, k1, k2⟩ := hB
              exact ⟨⟨_, 0, cs, hp, k2, k1⟩, fun id' ly'' he => by cases he⟩
            · cases h1
          · rename_i ty v
            cases h1
            cases h0 with
            | v h0 => cases h0 with
              | imm b' o k1 k2 => exact ⟨⟨b', o, _, rfl, k1, k2⟩, fun id' ly'' he => by cases he⟩
          · cases h1
        refine ⟨by simp [g1], by simp [g2], fun i hi => ?_, fun id ly hm => ?_⟩
        · match i, hi with
          | 0, _ => exact key.1
          | i + 1, hi => exact g3 i (by simpa using hi)
        · rcases List.mem_cons.1 hm with hm | hm
          · exact key.2 id ly hm.symm
          · exact g4 id ly hm
    · cases h
theorem funp_step (hw : WR M μ b w) {g : FuncId} {l : List (AV E)} {vs : List Value} {ps : List (CP E)} (h : cpsOf b l = some ps) (hl : RSL M μ l vs) {s : Sem Next} (hs : s.run P w = .ok (.value (.func (.func g) #[] vs.toArray)) w) :
    OpStep P M μ b w s (.funp g ps) [] := by
  obtain ⟨g1, g2, g3, g4⟩ := cpsOf_get hw l ps vs h hl
  exact .same hw hs (RS.v (a := .funp g ps) (.funp g ps vs (by omega) g3)) (.plain g4 (by simp) (by simp) (by simp))
theorem caps_step (hE : EnvOK E) (hw : WR M μ b w) {g : FuncId} {l : List (AV E)} {vs : List Value} {cl : List (Cap E)} {u : Upd E} (h : caps b l = some (cl, u)) (hl : RSL M μ l vs) {s : Sem Next} (hs : s.run P w = .ok (.value (.func (.func g) #[] vs.toArray)) w) :
    OpStep P M μ b w s (.func g cl) u := by
  obtain ⟨g1, g2, g3⟩ := caps_get l cl u h
  let gs : Nat → Prop := fun n => ∃ p ∈ u, (μ p.1).g = n
  have hgs : ∀ n, gs n → ∃ p ∈ u, (μ p.1).g = n ∧ ∃ ly a v cs T, blk b p.1 = .var ly a ∧ toT a ly = some v ∧ p.2 = .frz ly v ∧ w.heap[n]? = some (.cells cs T (0, 0)) ∧ RV M μ a cs.toList ∧ fit ly a = true ∧ ∀ o, M n o = none := by
    rintro n ⟨p, hp, rfl⟩
    obtain ⟨ly, a, v, k1, k2, k3⟩ := g3 p hp
    have hB := hw.bw p.1
    rw [k1] at hB
    obtain ⟨cs, T, h1, h2, h3, h4⟩ := hB
    exact ⟨p, hp, rfl, ly, a, v, cs, T, k1, k2, k3, h1, h2, h3, h4⟩
  have hnone : ∀ n, gs n → ∀ o, M n o = none := fun n hn => by
    obtain ⟨p, _, _, ly, a, v, cs, T, _, _, _, _, _, _, h⟩ := hgs n hn
    exact h
  have hle : M.le (settle M w gs) := settle_le hnone
  have hin : ∀ p ∈ u, blk (upds b u) p.1 = p.2 := by
    intro p hp
    obtain ⟨ly, a, v, k1, k2, k3⟩ := g3 p hp
    refine upds_in u b p.1 p.2 ?_ ⟨p, hp, rfl⟩ (blk_lt (by rw [k1]; simp))
    intro q hq he
    obtain ⟨ly', a', v', k1', k2', k3'⟩ := g3 q hq
    rw [he, k1] at k1'
    cases k1'
    rw [k2] at k2'
    cases k2'
    rw [k3, k3']
  have hbw : ∀ p ∈ u, BW (settle M w gs) μ w (μ p.1) p.2 := by
    intro p hp
    obtain ⟨ly, a, v, k1, k2, k3⟩ := g3 p hp
    have hB := hw.bw p.1
    rw [k1] at hB
    obtain ⟨cs, T, h1, h2, h3, h4⟩ := hB
    rw [k3]
    exact ⟨cs.toList, settle_at ⟨p, hp, rfl⟩ h1 (List.append_nil _).symm (toT_sound hE h2 k2).noT, (toT_sound hE h2 k2).mono hle⟩
  refine ⟨_, w, settle M w gs, μ, .inl hs, ?_, ?_, .plain trivial (by simp) (by simp) (by simp)⟩
  · refine Tr.make hw (fun i => ∃ p ∈ u, p.1 = i) hle (settle_holds hw.holds) (upds_len u b) ?_ ?_ ?_ ?_ (Nat.le_refl _) (fun _ _ _ => rfl) ?_ ?_ ?_ rfl ⟨rfl, fun _ => Nat.le_refl _⟩ rfl
    · intro i hi
      exact ⟨upds_out u b i fun p hp he => hi ⟨p, hp, he⟩, rfl⟩
    · rintro i ⟨p, hp, rfl⟩
      obtain ⟨ly, a, v, k1, k2, k3⟩ := g3 p hp
      rw [hin p hp, k1, k3]
      exact ⟨rfl, rfl⟩
    · rintro _ i ⟨p, hp, rfl⟩
      rw [hin p hp]
      exact hbw p hp
    · rintro i j g ⟨p, hp, rfl⟩ _ h5
      obtain ⟨ly, a, v, k1, k2, k3⟩ := g3 p hp
      rw [hin p hp, k3] at h5
      cases h5
    · intro g o h5 h6
      obtain ⟨p, hp, k0, ly, a, v, cs, T, k1, _⟩ := hgs g (settle_new h5 h6)
      exact .inr ⟨p.1, ⟨p, hp, rfl⟩, by rw [k1]; exact congrArg some k0⟩
    · rintro i g ⟨p, hp, rfl⟩ h5
      obtain ⟨ly, a, v, k1, k2, k3⟩ := g3 p hp
      rw [hin p hp, k3] at h5
      cases h5
    · rintro _ i ly' a' ⟨p, hp, rfl⟩ h5
      obtain ⟨ly, a, v, k1, k2, k3⟩ := g3 p hp
      rw [hin p hp, k3] at h5
      cases h5
  · have hvl := hl.length
    refine RS.v (a := .func g cl) (.func g cl vs (by omega) ?_)
    intro i hi
    have hi1 : i < l.length := by omega
    obtain ⟨v, k1, k2⟩ := g2 i hi1 hi
    have hrs : RS M μ l[i] (vs.getD i undef) := by
      have key : ∀ (l : List (AV E)) (vs : List Value), RSL M μ l vs → ∀ i (hi : i < l.length), RS M μ l[i] (vs.getD i undef) := by
        intro l vs h
        induction h with
        | nil => intro i hi; simp at hi
        | cons h _ ih =>
          intro i hi
          match i, hi with
          | 0, _ => exact h
          | i + 1, hi => exact ih i (by simpa using hi)
      exact key l vs hl i hi1
    generalize l[i] = x at k1 hrs
    generalize vs.getD i undef = vx at hrs
    unfold cap1 at k1
    split at k1
    · rename_i id ly
      have e0 : offTy E ly [] = 0 := by cases ly <;> rfl
      cases hrs with
      | v hrs =>
        cases hrs
        split at k1
        · rename_i ly' a' hb
          obtain ⟨hly, k9⟩ := bif_some k1
          clear k1
          have hly : ly' = ly := by simpa using hly
          subst hly
          split at k9
          · rename_i y hy
            injection k9 with k1; injection k1 with k3 k4
            have hp := k2 (id, .frz ly' y) (by rw [← k4]; simp)
            have := hbw _ hp
            obtain ⟨cs, m1, m2⟩ := this
            refine ⟨(μ id).g, 0, cs, by simp only [mkV, AV.isAgg, e0]; rfl, ?_, m1⟩
            rw [← k3]
            exact m2
          · cases k9
        · rename_i ly' y hb
          obtain ⟨hly, k9⟩ := bif_some k1
          clear k1
          have hly : ly' = ly := by simpa using hly
          subst hly
          injection k9 with k1; injection k1 with k3 k4
          have hB := hw.bw id
          rw [hb] at hB
          obtain ⟨cs, m1, m2⟩ := hB
          refine ⟨(μ id).g, 0, cs, by simp only [mkV, AV.isAgg, e0]; rfl, ?_, m1.mono hle⟩
          rw [← k3]
          exact m2.mono hle
        · cases k1
    · rename_i ty y
      injection k1 with k1; injection k1 with k3 k4
      cases hrs with
      | v hrs =>
        cases hrs with
        | imm b' o hr hc =>
          refine ⟨b', o, _, rfl, ?_, hc.mono hle⟩
          rw [← k3]
          exact hr.mono hle
    · cases k1

/-! ### Structs whose slices are appended to -/
theorem regrow_step {css : Nat → List Value} (hs : List (Nat × Nat)) : ∀ (cs : List (AV E)) (i : Nat) (μ : Mu) (b : List (Blk E)), WR M μ b w → (∀ k (hk : k < cs.length), RV M μ cs[k] (css (i + k)) ∧ OKA b cs[k]) →
    ((regrow hs cs i).2.all fun x => free b x.1) = true → nodup ((regrow hs cs i).2.map (·.1)) = true →
    ∃ μ', Tr b.length M μ b w M μ' (upds b (regrow hs cs i).2) w ∧ (regrow hs cs i).1.length = cs.length ∧ ∀ k (hk : k < (regrow hs cs i).1.length), RV M μ' (regrow hs cs i).1[k] (css (i + k)) ∧ OKA (upds b (regrow hs cs i).2) (regrow hs cs i).1[k]
  | [], i, μ, b, hw, _, _, _ => ⟨μ, Tr.refl hw _, rfl, fun k hk => by simp [regrow] at hk⟩
  | c :: cs, i, μ, b, hw, hc, hf, hn => by
    have h0 := hc 0 (by simp)
    have hrest : ∀ k (hk : k < cs.length), RV M μ cs[k] (css (i + 1 + k)) ∧ OKA b cs[k] := fun k hk => by
      have := hc (k + 1) (by simpa using hk)
      rw [show i + (k + 1) = i + 1 + k by omega] at this
      exact this
    have plain : (regrow hs (c :: cs) i) = (c :: (regrow hs cs (i + 1)).1, (regrow hs cs (i + 1)).2) →
        ∃ μ', Tr b.length M μ b w M μ' (upds b (regrow hs (c :: cs) i).2) w ∧ (regrow hs (c :: cs) i).1.length = (c :: cs).length ∧ ∀ k (hk : k < (regrow hs (c :: cs) i).1.length), RV M μ' (regrow hs (c :: cs) i).1[k] (css (i + k)) ∧ OKA (upds b (regrow hs (c :: cs) i).2) (regrow hs (c :: cs) i).1[k] := by
      intro he
      rw [he] at hf hn ⊢
      obtain ⟨μ', h1, h2, h3⟩ := regrow_step hs cs (i + 1) μ b hw hrest hf hn
      refine ⟨μ', h1, by simp [h2], fun k hk => ?_⟩
      match k, hk with
      | 0, _ => exact ⟨h0.1.tr h0.2 h1.le (h1.all (Nat.le_refl _)), h0.2.tr (h1.all (Nat.le_refl _))⟩
      | k + 1, hk =>
        have := h3 k (by simpa using hk)
        rw [show i + 1 + k = i + (k + 1) by omega] at this
        exact this
    cases hl : hs.lookup i with
    | none => exact plain (by simp [regrow, hl])
    | some id =>
      by_cases hx : ∃ e xs, c = .exact e xs
      · obtain ⟨e, xs, rfl⟩ := hx
        have he : regrow hs (.exact e xs :: cs) i = (.sl id e xs :: (regrow hs cs (i + 1)).1, (id, .grow e xs.length) :: (regrow hs cs (i + 1)).2) := by simp [regrow, hl]
        rw [he] at hf hn ⊢
        simp only [List.all_cons, Bool.and_eq_true] at hf
        simp only [List.map_cons, nodup, Bool.and_eq_true, Bool.not_eq_true'] at hn
        obtain ⟨c', g1, g2, g3⟩ := exact_home hw hf.1 (RS.v (a := .exact e xs) h0.1)
        have hlen : (b.set id (.grow e xs.length)).length = b.length := by simp
        have hf' : ((regrow hs cs (i + 1)).2.all fun x => free (b.set id (.grow e xs.length)) x.1) = true := by
          have hf2 := hf.2
          simp only [List.all_eq_true] at hf2 ⊢
          intro x hx
          have h5 := hf2 x hx
          have hne : id ≠ x.1 := by
            rintro rfl
            have := hn.1
            simp only [List.contains_eq_mem, decide_eq_false_iff_not, List.mem_map, not_exists, not_and] at this
            exact this x hx rfl
          unfold free at h5 ⊢
          rw [List.getElem?_set_ne hne]
          exact h5
        obtain ⟨μ', h1, h2, h3⟩ := regrow_step hs cs (i + 1) (upd μ id c') (b.set id (.grow e xs.length)) g1.wr (fun k hk => by
          have := hrest k hk
          exact ⟨this.1.tr this.2 g1.le (g1.all (Nat.le_refl _)), this.2.tr (g1.all (Nat.le_refl _))⟩) hf' hn.2
        rw [hlen] at h1
        refine ⟨μ', g1.trans h1, by simp [h2], fun k hk => ?_⟩
        match k, hk with
        | 0, _ =>
          have hlv := (h1.all (by rw [hlen]; exact Nat.le_refl _))
          obtain ⟨cells, m1, m2, m3⟩ := g2.real rfl
          have e1 : cells = css (i + 0) := by
            rw [← m3]
            have h01 := h0.1
            simp only [List.getElem_cons_zero] at h01
            generalize css (i + 0) = cz at h01 ⊢
            cases h01 with
            | exact _ _ base hr => rfl
          rw [e1] at m1
          exact ⟨m1.tr g3 h1.le hlv, g3.tr hlv⟩
        | k + 1, hk =>
          have := h3 k (by simpa using hk)
          rw [show i + 1 + k = i + (k + 1) by omega] at this
          exact this
      · refine plain ?_
        cases c <;> first | exact absurd ⟨_, _, rfl⟩ hx | simp [regrow, hl]

/-- A new variable: zero; or a slice that is to grow. -/
theorem allocA_step (hE : EnvOK E) (hz : ∀ n, RC M (.nm n) (E.dfl n) (E.zc n)) (hT : TOK P E tt) (hw : WR M μ b w) {d t : Nat} {hs : List (Nat × Nat)} {a : AV E} {u : Upd E} (h : allocA tt b d t hs = some (true, a, u)) {ρ : Operand → Value} {o : Oper} (ho : o.op = .alloc t) :
    OpStep P M μ b w (execOp ρ o) a u := by
  unfold allocA at h
  split at h
  · obtain ⟨hc, h⟩ := bif_some h
    simp only [Bool.and_eq_true] at hc
    cases h
    exact alloc_step hE hz hT hw hc.1 hc.2 ho
  · rename_i c0 h0 _
    split at h
    · rename_i e hty
      obtain ⟨hc, h⟩ := bif_some h
      simp only [Bool.and_eq_true, Bool.not_eq_true', decide_eq_false_iff_not] at hc
      obtain ⟨⟨⟨hd, hh⟩, hne⟩, hfull⟩ := hc
      cases hx : tt t with
      | none => rw [tyOf, hx] at hty; cases hty
      | some x =>
        have hty' : x.ty = .sl e := by rw [tyOf, hx] at hty; exact hty
        obtain ⟨i, z, hi, hz0, hsz, hzc, hza⟩ := (hT t x hx).zero
        have hcs : z.cells.toList = [.slice none 0 0] := by
          rw [hzc]
          obtain ⟨xty, xd⟩ := x
          simp only at hty'
          subst hty'
          simp [zeroA, hx, zeroX, Ty.full, hfull, zA, zcells]
        have hd0 : ∀ B : Blk E, free (b.set h0 B) d = true := fun B => by
          unfold free at hd ⊢
          rw [List.getElem?_set_ne hne]
          exact hd
        cases hc1 : Nat.beq c0 1 with
        | true =>
        rw [hc1] at h
        cases h
        obtain ⟨hh1, hh2⟩ := free_spec hh
        have g1 : Tr b.length M μ b w M (upd μ h0 ⟨0, fun _ => (none, 0)⟩) (b.set h0 (.row e [])) w := by
          refine Tr.new hw hh ⟨0, fun _ => (none, 0)⟩ _ (.refl M) hw.holds (Ext.refl w) (fun _ => .inl ⟨rfl, rfl⟩) (fun _ _ h1 h2 => absurd h1 h2) ?_ ?_
          · intro g h; simp [Exc] at h
          · intro _ ly a h; cases h
        have hr : RV M (upd μ h0 ⟨0, fun _ => (none, 0)⟩) (.fs h0 e 0 0 : AV E) z.cells.toList := by
          rw [hcs]
          exact RV.fs h0 e 0 0 0 none (.inr ⟨rfl, by rw [upd_self]; exact Nat.le_refl _⟩) (Nat.le_refl _)
        obtain ⟨v, w', M', μ', k1, k2, k3, k4⟩ := var_step (P := P) g1.wr (hd0 (.row e [])) t (ly := .sl e) hr rfl (.plain (.inl ⟨[], blk_set_self hh1 _, by simp⟩) (by simp) (by simp) (by simp)) (s := execOp ρ o) (by
          simp only [execOp, ho, Instr.alloc, Sem.run_bind, run_zero hi hz0, Result.andThen_ok, run_newVar, Sem.run_pure])
        refine ⟨v, w', M', μ', k1, ?_, k3, k4⟩
        rw [List.length_set] at k2
        exact g1.trans k2
        | false =>
        rw [hc1] at h
        cases h
        have hv : RS (E := E) M μ (.exact e []) (.slice none 0 0) := RS.exact (n := 0) (.sl [] none 0 (fun _ => []) (Nat.le_refl _) (fun i hi => by simp at hi) (fun i hi => by simp at hi) (fun _ => rfl))
        obtain ⟨c', g1, g2, g3⟩ := exact_home hw hh hv
        have hlen : (b.set h0 (.grow e 0)).length = b.length := by simp
        have hd' : free (b.set h0 (.grow (E := E) e 0)) d = true := by
          unfold free at hd ⊢
          rw [List.getElem?_set_ne hne]
          exact hd
        obtain ⟨cells, m1, m2, m3⟩ := g2.real rfl
        have hr : RV M (upd μ h0 c') (.sl h0 e [] : AV E) z.cells.toList := by
          rw [hcs]
          have : cells = [.slice none 0 0] := by rw [← m3]; rfl
          rw [this] at m1
          exact m1
        obtain ⟨v, w', M', μ', k1, k2, k3, k4⟩ := var_step (P := P) g1.wr hd' t (ly := .sl e) hr rfl g3 (s := execOp ρ o) (by
          simp only [execOp, ho, Instr.alloc, Sem.run_bind, run_zero hi hz0, Result.andThen_ok, run_newVar, Sem.run_pure])
        refine ⟨v, w', M', μ', k1, ?_, k3, k4⟩
        have k2' : Tr b.length M (upd μ h0 c') (b.set h0 (.grow e 0)) w M' μ' (upds (b.set h0 (.grow e 0)) [(d, .var (.sl e) (.sl h0 e []))]) w' := by
          have k5 := k2
          have hl5 : (b.set h0 (.grow (E := E) e ([] : List (E.D e)).length)).length = b.length := by simp
          rw [hl5] at k5
          exact k5
        exact g1.trans k2'
    · cases h

end Go.Proofs.YtbmpjppfdeohnaaDoor.Fv

/-! Maps. -/
namespace Go.Proofs.YtbmpjppfdeohnaaDoor.Fv
variable [Quiet]
variable {E : Env} {P : Program} {tt : Nat → Option TE} {M M' : Mem} {μ μ' : Mu} {b b' : List (Blk E)} {w w' : World}

theorem toT_agg {cs : List (AV E)} {ty : Ty} {v : E.D ty} (h : toT (.agg cs) ty = some v) : ty.agg = true := by
  cases ty with
  | nm n => rfl
  | one a => rfl
  | pair a b => rfl
  | arr n e => rfl
  | int k => have h : toTs cs (.int k) = some v := h; cases cs <;> cases h
  | bool => have h : toTs cs .bool = some v := h; cases cs <;> cases h
  | str => have h : toTs cs .str = some v := h; cases cs <;> cases h
  | sl e => have h : toTs cs (.sl e) = some v := h; cases cs <;> cases h
  | mp k w => have h : toTs cs (.mp k w) = some v := h; cases cs <;> cases h
  | any => have h : toTs cs .any = some v := h; cases cs <;> cases h
theorem toT_isAgg {a : AV E} {ty : Ty} {v : E.D ty} (h : toT a ty = some v) : a.isAgg = ty.agg := by
  cases a with
  | t ty' v' =>
    obtain ⟨rfl, _⟩ := cst_eq (show cst ty' ty _ = some v from h)
    rfl
  | sl id e xs =>
    obtain ⟨he, _⟩ := cst_eq (show cst (.sl e) ty _ = some v from h)
    subst he
    rfl
  | exact e xs =>
    obtain ⟨he, _⟩ := cst_eq (show cst (.sl e) ty _ = some v from h)
    subst he
    rfl
  | snn e xs =>
    obtain ⟨he, _⟩ := cst_eq (show cst (.sl e) ty xs = _ from h)
    subst he
    rfl
  | snil e =>
    obtain ⟨he, _⟩ := cst_eq (show cst (.sl e) ty ([] : List (E.D e)) = _ from h)
    subst he
    rfl
  | agg cs => exact (toT_agg h).symm
  | _ => cases ty <;> cases h


/-- Entries and what is told of them. -/
inductive EL (M : Mem) (k v : Ty) : List (Value × Value) → List (E.D k × E.D v) → Prop
  | nil : EL M k v [] []
  | cons {p : Value × Value} {q : E.D k × E.D v} {l : List (Value × Value)} {es : List (E.D k × E.D v)} (ck cv : List Value) (hk : RC M k q.1 ck) (hv : RC M v q.2 cv) (he : p = (mkV k.agg ck, mkV v.agg cv)) (h : EL M k v l es) : EL M k v (p :: l) (q :: es)
theorem EL.of {k v : Ty} : ∀ {l : List (Value × Value)} {es : List (E.D k × E.D v)} (ck cv : Nat → List Value), l.length = es.length → (∀ i (hi : i < es.length), RC M k es[i].1 (ck i)) → (∀ i (hi : i < es.length), RC M v es[i].2 (cv i)) →
    (∀ i (hi : i < l.length), l[i] = (mkV k.agg (ck i), mkV v.agg (cv i))) → EL M k v l es
  | [], [], _, _, _, _, _, _ => .nil
  | [], _ :: _, _, _, h, _, _, _ => by simp at h
  | _ :: _, [], _, _, h, _, _, _ => by simp at h
  | p :: l, q :: es, ck, cv, hl, hk, hv, he =>
    .cons (ck 0) (cv 0) (hk 0 (by simp)) (hv 0 (by simp)) (he 0 (by simp))
      (EL.of (fun i => ck (i + 1)) (fun i => cv (i + 1)) (by simpa using hl) (fun i hi => hk (i + 1) (Nat.succ_lt_succ hi)) (fun i hi => hv (i + 1) (Nat.succ_lt_succ hi)) (fun i hi => he (i + 1) (Nat.succ_lt_succ hi)))
theorem EL.to {k v : Ty} {l : List (Value × Value)} {es : List (E.D k × E.D v)} (h : EL M k v l es) : ∃ ck cv : Nat → List Value, l.length = es.length ∧ (∀ i (hi : i < es.length), RC M k es[i].1 (ck i)) ∧ (∀ i (hi : i < es.length), RC M v es[i].2 (cv i)) ∧
    (∀ i (hi : i < l.length), l[i] = (mkV k.agg (ck i), mkV v.agg (cv i))) := by
  induction h with
  | nil => exact ⟨fun _ => [], fun _ => [], rfl, fun i hi => by simp at hi, fun i hi => by simp at hi, fun i hi => by simp at hi⟩
  | cons ck cv hk hv he _ ih =>
    obtain ⟨c1, c2, h1, h2, h3, h4⟩ := ih
    refine ⟨fun i => match i with | 0 => ck | i + 1 => c1 i, fun i => match i with | 0 => cv | i + 1 => c2 i, by simp [h1], fun i hi => ?_, fun i hi => ?_, fun i hi => ?_⟩
    · cases i with
      | zero => exact hk
      | succ i => simpa using h2 i (by simpa using hi)
    · cases i with
      | zero => exact hv
      | succ i => simpa using h3 i (by simpa using hi)
    · cases i with
      | zero => exact he
      | succ i => simpa using h4 i (by simpa using hi)
theorem EL.app {k v : Ty} {l l' : List (Value × Value)} {es es' : List (E.D k × E.D v)} (h : EL M k v l es) (h' : EL M k v l' es') : EL M k v (l ++ l') (es ++ es') := by
  induction h with
  | nil => exact h'
  | cons ck cv hk hv he _ ih => exact .cons ck cv hk hv he ih

/-- What is told of a type of keys. -/
def kindK : Ty → TypeDesc → Prop
  | .str, d => d = .string
  | .int i, d => d = .int i
  | .bool, d => d = .bool
  | _, _ => False
theorem kind_of (hT : TOK P E tt) {kt : Nat} {k : Ty} (h : keyOK tt kt k = true) : ∃ d, P.underlying kt = some d ∧ kindK k d := by
  cases hx : tt kt with
  | none => simp [keyOK, tdOf, hx] at h
  | some x =>
    obtain ⟨u, hu, ha, hd⟩ := (hT kt x hx).und
    refine ⟨u, hu, ?_⟩
    obtain ⟨ty, xd⟩ := x
    simp only [keyOK, tdOf, hx] at h
    cases k <;> cases xd <;> simp at h
    · subst h; exact hd.1
    · exact hd.1
    · exact hd.1
theorem same_key {k : Ty} {d : TypeDesc} (hd : kindK k d) {x y : E.D k} {cx cy : List Value} (hx : RC M k x cx) (hy : RC M k y cy) :
    Instr.sameNow d (mkV k.agg cx) (mkV k.agg cy) = some (eqK E k x y) ∧ (eqK E k x y = true → Instr.sameBits 10000 (mkV k.agg cy) (mkV k.agg cx) = true) := by
  cases k with
  | int i =>
    cases hx
    cases hy
    have hd : d = .int i := hd
    subst hd
    refine ⟨by simp [mkV, Ty.agg, Instr.sameNow, eqK], fun h => ?_⟩
    have h : @BEq.beq Int _ x y = true := h
    have := eq_of_beq h
    subst this
    simp [mkV, Ty.agg, Instr.sameBits]
    exact h
  | bool =>
    cases hx
    cases hy
    have hd : d = .bool := hd
    subst hd
    refine ⟨by simp [mkV, Ty.agg, Instr.sameNow, eqK], fun h => ?_⟩
    have h : @BEq.beq Bool _ x y = true := h
    have := eq_of_beq h
    subst this
    simp [mkV, Ty.agg, Instr.sameBits]
    exact h
  | str =>
    cases hx with
    | str s =>
      cases hy with
      | str s' =>
        have hd : d = .string := hd
        subst hd
        have e : (s == s') = (s.data.toList == s'.data.toList) := by
          rw [Bool.eq_iff_iff, MapKept.bytes_beq, beq_iff_eq]
          constructor
          · rintro rfl; rfl
          · intro h
            cases s
            cases s'
            simp only at h
            rw [Array.ext' h]
        refine ⟨by show some (s == s') = some (s.data.toList == s'.data.toList); rw [e], fun h => ?_⟩
        have h : (s.data.toList == s'.data.toList) = true := h
        rw [← e, MapKept.bytes_beq] at h
        subst h
        show (s == s) = true
        rw [MapKept.bytes_beq]
  | _ => exact hd.elim
/-- A key that is looked for. -/
theorem find_ok {k v : Ty} {d : TypeDesc} (hd : kindK k d) {x : E.D k} {cx : List Value} (hx : RC M k x cx) : ∀ {ml : List MapEntry} {es : List (E.D k × E.D v)}, EL M k v (ml.map fun e => (e.key, e.val)) es → ∀ i,
    (Instr.findNow d (mkV k.agg cx) ml i = some none ∧ mget E k v es x = none ∧ ∀ y, mset E k v x y es = es ++ [(x, y)]) ∨
    ∃ j cv y, Instr.findNow d (mkV k.agg cx) ml i = some (some (i + j, mkV v.agg cv)) ∧ RC M v y cv ∧ mget E k v es x = some y ∧ (∃ hj : j < ml.length, Instr.sameBits 10000 ml[j].key (mkV k.agg cx) = true) ∧
      ∀ (z : E.D v) (cz : List Value), RC M v z cz → EL M k v ((ml.modify j fun e => { e with key := mkV k.agg cx, val := mkV v.agg cz }).map fun e => (e.key, e.val)) (mset E k v x z es) := by
  intro ml
  induction ml with
  | nil =>
    intro es h i
    cases h
    exact .inl ⟨rfl, rfl, fun _ => rfl⟩
  | cons e ml ih =>
    intro es h i
    cases h with
    | @cons _ q _ es ck cv hk hv he h =>
      have he1 : e.key = mkV k.agg ck := congrArg Prod.fst he
      have he2 : e.val = mkV v.agg cv := congrArg Prod.snd he
      obtain ⟨s1, s2⟩ := same_key hd hx hk
      cases hq : eqK E k x q.1 with
      | true =>
        refine .inr ⟨0, cv, q.2, ?_, hv, ?_, ⟨by simp, ?_⟩, ?_⟩
        · simp only [Instr.findNow, he1, s1, hq, he2, Nat.add_zero]
        · simp [mget, hq]
        · simp only [List.getElem_cons_zero, he1]
          exact s2 hq
        · intro z cz hz
          simp only [List.modify_zero_cons, List.map_cons, mset, hq, cond_true]
          exact .cons cx cz hx hz rfl h
      | false =>
        rcases ih h (i + 1) with ⟨h1, h2, h3⟩ | ⟨j, cv', y, h1, h2, h3, ⟨hj, h4⟩, h5⟩
        · refine .inl ⟨?_, ?_, fun y => ?_⟩
          · simp only [Instr.findNow, he1, s1, hq, h1]
          · simp only [mget, List.find?_cons, hq]
            exact h2
          · simp only [mset, hq, cond_false, h3, List.cons_append]
        · refine .inr ⟨j + 1, cv', y, ?_, h2, ?_, ⟨by simp; omega, ?_⟩, ?_⟩
          · simp only [Instr.findNow, he1, s1, hq, h1]
            congr 3
            omega
          · simp only [mget, List.find?_cons, hq]
            exact h3
          · simpa using h4
          · intro z cz hz
            simp only [List.modify_succ_cons, List.map_cons, mset, hq, cond_false]
            exact .cons ck cv hk hv he (h5 z cz hz)
theorem isKey_of {k : Ty} {d : TypeDesc} (hd : kindK k d) {x : E.D k} {cx : List Value} (hx : RC M k x cx) : MapKept.IsKey d (mkV k.agg cx) := by
  cases k with
  | int i => cases hx; have hd : d = .int i := hd; subst hd; rfl
  | bool => cases hx; have hd : d = .bool := hd; subst hd; trivial
  | str => cases hx; have hd : d = .string := hd; subst hd; trivial
  | _ => exact hd.elim
/-! ### Entries in whatever order -/
theorem eqK_iff {k : Ty} {d : TypeDesc} (hd : kindK k d) (x y : E.D k) : eqK E k x y = true ↔ x = y := by
  cases k with
  | int i => exact ⟨fun h => eq_of_beq (α := Int) h, fun h => by subst h; exact beq_self_eq_true (α := Int) _⟩
  | bool => exact ⟨fun h => eq_of_beq (α := Bool) h, fun h => by subst h; exact beq_self_eq_true (α := Bool) _⟩
  | str => exact ⟨fun h => eq_of_beq (α := List UInt8) h, fun h => by subst h; exact beq_self_eq_true (α := List UInt8) _⟩
  | _ => exact hd.elim
theorem mget_iff {k v : Ty} {d : TypeDesc} (hd : kindK k d) (x : E.D k) (y : E.D v) : ∀ {es : List (E.D k × E.D v)}, (es.map (·.1)).Nodup → (mget E k v es x = some y ↔ (x, y) ∈ es)
  | [], _ => by simp [mget]
  | p :: r, hn => by
    rw [List.map_cons, List.nodup_cons] at hn
    have ih := mget_iff hd x y (es := r) hn.2
    cases hq : eqK E k x p.1 with
    | true =>
      have hx := (eqK_iff hd x p.1).1 hq
      have e : mget E k v (p :: r) x = some p.2 := by simp [mget, hq]
      rw [e]
      constructor
      · intro h
        injection h with h
        rw [← h, hx]
        simp
      · intro h
        rcases List.mem_cons.1 h with h | h
        · rw [← h]
        · exact absurd (List.mem_map.2 ⟨_, h, hx⟩) hn.1
    | false =>
      have hx : x ≠ p.1 := fun e => by rw [(eqK_iff hd x p.1).2 e] at hq; cases hq
      have e : mget E k v (p :: r) x = mget E k v r x := by simp [mget, List.find?_cons, hq]
      rw [e, ih]
      constructor
      · exact fun h => List.mem_cons_of_mem _ h
      · intro h
        rcases List.mem_cons.1 h with h | h
        · exact absurd (congrArg Prod.fst h) hx
        · exact h
theorem mget_perm {k v : Ty} {d : TypeDesc} (hd : kindK k d) {es es' : List (E.D k × E.D v)} (hp : es.Perm es') (hn : (es.map (·.1)).Nodup) (x : E.D k) : mget E k v es x = mget E k v es' x := by
  have hn' : (es'.map (·.1)).Nodup := (hp.map _).nodup_iff.1 hn
  apply Option.ext
  intro y
  rw [mget_iff hd x y hn, mget_iff hd x y hn', hp.mem_iff]
theorem mset_key {k v : Ty} {d : TypeDesc} (hd : kindK k d) (y : E.D k) (z : E.D v) (a : E.D k) : ∀ {es : List (E.D k × E.D v)}, a ∈ (mset E k v y z es).map (·.1) ↔ a = y ∨ a ∈ es.map (·.1)
  | [] => by simp [mset]
  | p :: r => by
    cases hq : eqK E k y p.1 with
    | true =>
      have hx := (eqK_iff hd y p.1).1 hq
      have e : mset E k v y z (p :: r) = (y, z) :: r := by simp [mset, hq]
      rw [e, List.map_cons, List.mem_cons, List.map_cons, List.mem_cons, ← hx]
      exact ⟨fun h => h.elim .inl fun h => .inr (.inr h), fun h => h.elim .inl id⟩
    | false =>
      have ih := mset_key hd y z a (es := r)
      simp only [mset, hq, cond_false, List.map_cons, List.mem_cons, ih]
      constructor
      · rintro (h | h | h)
        · exact .inr (.inl h)
        · exact .inl h
        · exact .inr (.inr h)
      · rintro (h | h | h)
        · exact .inr (.inl h)
        · exact .inl h
        · exact .inr (.inr h)
theorem mset_nodup {k v : Ty} {d : TypeDesc} (hd : kindK k d) (y : E.D k) (z : E.D v) : ∀ {es : List (E.D k × E.D v)}, (es.map (·.1)).Nodup → ((mset E k v y z es).map (·.1)).Nodup
  | [], _ => by simp [mset]
  | p :: r, hn => by
    rw [List.map_cons, List.nodup_cons] at hn
    cases hq : eqK E k y p.1 with
    | true =>
      have hx := (eqK_iff hd y p.1).1 hq
      have e : mset E k v y z (p :: r) = (y, z) :: r := by simp [mset, hq]
      rw [e, List.map_cons, hx]
      exact List.nodup_cons.2 hn
    | false =>
      have hx : y ≠ p.1 := fun e => by rw [(eqK_iff hd y p.1).2 e] at hq; cases hq
      simp only [mset, hq, cond_false, List.map_cons, List.nodup_cons, mset_key hd]
      exact ⟨fun h => h.elim (fun e => hx e.symm) hn.1, mset_nodup hd y z hn.2⟩
theorem mset_iff {k v : Ty} {d : TypeDesc} (hd : kindK k d) (y : E.D k) (z : E.D v) (q : E.D k × E.D v) : ∀ {es : List (E.D k × E.D v)}, (es.map (·.1)).Nodup → (q ∈ mset E k v y z es ↔ q = (y, z) ∨ q.1 ≠ y ∧ q ∈ es)
  | [], _ => by simp [mset]
  | p :: r, hn => by
    rw [List.map_cons, List.nodup_cons] at hn
    cases hq : eqK E k y p.1 with
    | true =>
      have hx := (eqK_iff hd y p.1).1 hq
      simp only [mset, hq, cond_true, List.mem_cons]
      constructor
      · rintro (h | h)
        · exact .inl h
        · exact .inr ⟨fun e => hn.1 (List.mem_map.2 ⟨q, h, by rw [e, hx]⟩), .inr h⟩
      · rintro (h | ⟨h1, h | h⟩)
        · exact .inl h
        · exact absurd (by rw [h, hx]) h1
        · exact .inr h
    | false =>
      have hx : y ≠ p.1 := fun e => by rw [(eqK_iff hd y p.1).2 e] at hq; cases hq
      have ih := mset_iff hd y z q (es := r) hn.2
      simp only [mset, hq, cond_false, List.mem_cons, ih]
      constructor
      · rintro (h | h | ⟨h1, h⟩)
        · exact .inr ⟨by rw [h]; exact fun e => hx e.symm, .inl h⟩
        · exact .inl h
        · exact .inr ⟨h1, .inr h⟩
      · rintro (h | ⟨h1, h | h⟩)
        · exact .inr (.inl h)
        · exact .inl h
        · exact .inr (.inr ⟨h1, h⟩)
theorem nodup_of_keys {A B : Type} {l : List (A × B)} (h : (l.map (·.1)).Nodup) : l.Nodup := by
  induction l with
  | nil => exact List.nodup_nil
  | cons p r ih =>
    rw [List.map_cons, List.nodup_cons] at h
    exact List.nodup_cons.2 ⟨fun hm => h.1 (List.mem_map.2 ⟨p, hm, rfl⟩), ih h.2⟩
theorem mset_perm {k v : Ty} {d : TypeDesc} (hd : kindK k d) (y : E.D k) (z : E.D v) {es es' : List (E.D k × E.D v)} (hp : es.Perm es') (hn : (es.map (·.1)).Nodup) : (mset E k v y z es).Perm (mset E k v y z es') := by
  have hn' : (es'.map (·.1)).Nodup := (hp.map _).nodup_iff.1 hn
  refine (List.perm_ext_iff_of_nodup (nodup_of_keys (mset_nodup hd y z hn)) (nodup_of_keys (mset_nodup hd y z hn'))).2 fun q => ?_
  rw [mset_iff hd y z q hn, mset_iff hd y z q hn', hp.mem_iff]
theorem ins_perm {V : Type} (y : List UInt8) (z : V) : ∀ es : List (List UInt8 × V), (insS y z es).Perm ((y, z) :: es)
  | [] => .refl _
  | p :: r => by
    unfold insS
    cases bytesLess y p.1 with
    | true => exact .refl _
    | false => exact ((ins_perm y z r).cons p).trans (.swap _ _ _)
theorem mset_new {k v : Ty} {d : TypeDesc} (hd : kindK k d) (y : E.D k) (z : E.D v) : ∀ {es : List (E.D k × E.D v)}, y ∉ es.map (·.1) → mset E k v y z es = es ++ [(y, z)]
  | [], _ => rfl
  | p :: r, h => by
    rw [List.map_cons, List.mem_cons, not_or] at h
    have hq : eqK E k y p.1 = false := by
      cases hq : eqK E k y p.1 with
      | false => rfl
      | true => exact absurd ((eqK_iff hd y p.1).1 hq) h.1
    simp only [mset, hq, cond_false, List.cons_append, mset_new hd y z h.2]
theorem putE_perm {k v : Ty} {d : TypeDesc} (hd : kindK k d) (key : AV E) (y : E.D k) (z : E.D v) {es es' : List (E.D k × E.D v)} (hp : es'.Perm es) (hn : (es'.map (·.1)).Nodup) (hc : (putE key k v y z es).1 = true) : (mset E k v y z es').Perm (putE key k v y z es).2 := by
  have gen := mset_perm hd y z hp hn
  cases k with
  | str =>
    cases key with
    | c val =>
      cases val with
      | string s =>
        have hc : (!(List.any (α := List UInt8 × E.D v) es fun p => p.1 == (y : List UInt8))) = true := hc
        have hab : (y : List UInt8) ∉ es'.map (·.1) := by
          intro hm
          have hm : (y : List UInt8) ∈ es.map (·.1) := (hp.map _).mem_iff.1 hm
          obtain ⟨q, hq, he⟩ := List.mem_map.1 hm
          have : (List.any (α := List UInt8 × E.D v) es fun p => p.1 == (y : List UInt8)) = true := List.any_eq_true.2 ⟨q, hq, by rw [show q.1 = y from he]; exact beq_self_eq_true (α := List UInt8) _⟩
          rw [this] at hc
          cases hc
        show (mset E .str v y z es').Perm (insS (V := E.D v) y z es)
        rw [mset_new hd y z hab]
        exact (List.perm_append_singleton _ _).trans ((hp.cons _).trans (ins_perm (V := E.D v) y z es).symm)
      | _ => exact gen
    | _ => exact gen
  | _ => exact gen
theorem entL_list (l : Array MapEntry) : entL l = l.toList.map fun e => (e.key, e.val) := rfl

/-- A map that is looked at. -/
theorem mapOf_ok (hw : WR M μ b w) {x : AV E} {vx : Value} {k v : Ty} {es : List (E.D k × E.D v)} (hx : RS M μ x vx) (h : mapOf b x = some ⟨k, v, es⟩) :
    ∃ a, vx = .map a ∧ ((a = none ∧ es = []) ∨ ∃ r l clock es', a = some r ∧ w.heap[r]? = some (.map l clock) ∧ es'.Perm es ∧ (es'.map (·.1)).Nodup ∧ EL M k v (entL l) es') := by
  unfold mapOf at h
  split at h
  · rename_i id k1 v1
    split at h
    · rename_i k' v' es' hb
      have hh := bif_some h
      clear h
      obtain ⟨hc, h⟩ := hh
      simp only [Bool.and_eq_true, decide_eq_true_eq] at hc
      obtain ⟨rfl, rfl⟩ := hc
      cases h
      have hB := hw.bw id
      rw [hb] at hB
      obtain ⟨es1, hp, hn, l, clock, ck, cv, h1, h2, h3, h4, h5, _⟩ := hB
      cases hx with
      | v hx =>
        cases hx
        exact ⟨_, rfl, .inr ⟨_, l, clock, es1, rfl, h1, hp, hn, EL.of ck cv h2 h3 h4 h5⟩⟩
    · cases h
  · rename_i k1 v1 es1
    cases h
    cases hx with
    | v hx =>
      cases hx with
      | t hx =>
        cases hx with
        | mpn => exact ⟨none, rfl, .inl ⟨rfl, rfl⟩⟩
        | mp _ es1 hp hn g l ck cv hl hg hk hv he =>
          rcases hw.holds _ _ _ hg with ⟨h1, _⟩ | ⟨_, ml, clock, h2, h3⟩ | ⟨_, _, _, _, _, h3⟩
          · exact h1.elim
          · have := encL_inj h3
            subst this
            exact ⟨some g, rfl, .inr ⟨g, ml, clock, es1, rfl, h2, hp, hn, EL.of ck cv hl hk hv he⟩⟩
          · exact absurd h3 (encL_ne l)
  · cases h

theorem lookM_step (hE : EnvOK E) (hz : ∀ n, RC M (.nm n) (E.dfl n) (E.zc n)) (hT : TOK P E tt) (hw : WR M μ b w) {t : Nat} {c : Bool} {x key a : AV E} {vx vk : Value} {u : Upd E} (h : lookM tt b t c x key = some (true, a, u)) (hx : RS M μ x vx) (hk : RS M μ key vk)
    {s : Sem Next} (hs : s = (do pure (.value (← Instr.lookup t vx vk c)))) : OpStep P M μ b w s a u := by
  subst hs
  unfold lookM at h
  split at h
  · rename_i kt vt k v es htd hm
    obtain ⟨hc, h⟩ := bif_some h
    simp only [Bool.and_eq_true, decide_eq_true_eq] at hc
    obtain ⟨⟨hko, hvf⟩, hvt⟩ := hc
    split at h
    · rename_i y hy
      cases h
      obtain ⟨x0, hx0, hd0, hty0, hF0⟩ := hT.get (t := t) (by rw [htd]; simp)
      obtain ⟨um, hum, _, hD⟩ := hF0.und
      rw [htd] at hd0
      rw [← hd0] at hD
      obtain ⟨rfl, _, hsv, _⟩ := hD
      obtain ⟨yv, hyv⟩ := Option.isSome_iff_exists.1 hsv
      rw [tyOf_some hyv] at hvt
      subst hvt
      obtain ⟨i, z, hi, hz0, _, hzc⟩ := hT.zcells hyv hvf
      have hzr := RC.zero M hz yv.ty hvf
      obtain ⟨d, hd, hkd⟩ := kind_of hT hko
      obtain ⟨ck, c1, c2, _⟩ := (ca_sound (tt := tt) (t := kt) hk).real (toT_real hy)
      have c3 := toT_sound hE c1 hy
      rw [toT_isAgg hy] at c2
      subst c2
      have hzv : z = mkV yv.ty.agg (zcells E yv.ty) := by
        obtain ⟨i', z', hi', hz', _, _, hza⟩ := (hT vt yv hyv).zero
        rw [hi] at hi'
        cases hi'
        rw [hz0] at hz'
        cases hz'
        cases hag : yv.ty.agg with
        | true => rw [hza hag, ← hzc]; simp [mkV]
        | false =>
          have hl := zcells_len hE hz hvf
          have h1 : size E yv.ty = 1 := by cases hq : yv.ty <;> rw [hq] at hag <;> first | rfl | simp [Ty.agg] at hag
          have hna := (hT vt yv hyv).nag i z hi hz0 hag
          rw [← hzc]
          cases z with
          | agg cs => exact absurd rfl (hna cs)
          | _ => simp [mkV, Value.cells]
      have fin : ∀ (bb : Bool) (yy : E.D yv.ty) (cc : List Value), RC M yv.ty yy cc → RS (E := E) M μ (bif c then .tup [.t yv.ty yy, .t .bool bb] else .t yv.ty yy) (if c then .tuple #[mkV yv.ty.agg cc, .bool bb] else mkV yv.ty.agg cc) ∧ OKA b (bif c then .tup [.t yv.ty yy, .t .bool bb] else .t yv.ty yy) := by
        intro bb yy cc hcc
        cases c with
        | true =>
          refine ⟨.tup [.t yv.ty yy, .t .bool bb] [mkV yv.ty.agg cc, .bool bb] rfl fun i hi => ?_, .tup _ fun q hq => ?_⟩
          · have : i = 0 ∨ i = 1 := by simp at hi; omega
            rcases this with rfl | rfl
            · exact .inr ⟨cc, .t hcc, rfl⟩
            · exact .inr ⟨[.bool bb], .t (.bool bb), rfl⟩
          · simp only [List.mem_cons, List.not_mem_nil, or_false] at hq
            rcases hq with rfl | rfl <;> exact .t _ _ _
        | false => exact ⟨RS.of_t hcc, .t _ _ _⟩
      obtain ⟨a', hva, hcase⟩ := mapOf_ok hw hx hm
      subst hva
      have hik := isKey_of hkd c3
      rcases hcase with ⟨rfl, rfl⟩ | ⟨r, l, clock, es1, rfl, hg, hpm, hnd, hel⟩
      · have hf : Instr.findNow d (mkV k.agg ck) ([] : List MapEntry) 0 = some none := rfl
        refine OpStep.same hw (v := if c then .tuple #[z, .bool false] else z) ?_ ?_ ?_
        · simp [Instr.lookup, run_underlying' hum, MapKept.run_checkKey hd hik, MapKept.run_findKey hd hf, run_zero hi hz0]
        · rw [hzv]
          exact (fin false _ _ hzr).1
        · exact (fin false _ _ hzr).2
      · rw [entL_list] at hel
        have hmg := mget_perm hkd hpm hnd
        rcases find_ok hkd c3 hel 0 with ⟨h1, h2, _⟩ | ⟨j, cv, yy, h1, h2, h3, _⟩
        · refine OpStep.same hw (v := if c then .tuple #[z, .bool false] else z) ?_ ?_ ?_
          · simp [Instr.lookup, run_underlying' hum, MapKept.run_getObj_map hg, MapKept.run_checkKey hd hik, MapKept.run_findKey hd h1, run_zero hi hz0]
          · rw [hzv]
            have := (fin false _ _ hzr).1
            simpa [mlook, mgetD, ← hmg, h2] using this
          · have := (fin false _ _ hzr).2
            simpa [mlook, mgetD, ← hmg, h2] using this
        · refine OpStep.same hw (v := if c then .tuple #[mkV yv.ty.agg cv, .bool true] else mkV yv.ty.agg cv) ?_ ?_ ?_
          · simp [Instr.lookup, run_underlying' hum, MapKept.run_getObj_map hg, MapKept.run_checkKey hd hik, MapKept.run_findKey hd h1]
          · have := (fin true _ _ h2).1
            simpa [mlook, mgetD, ← hmg, h3] using this
          · have := (fin true _ _ h2).2
            simpa [mlook, mgetD, ← hmg, h3] using this
    · cases h
  · cases h

/-- The length of a map. -/
theorem lenM_step (hw : WR M μ b w) {x : AV E} {vx : Value} {k v : Ty} {es : List (E.D k × E.D v)} (hm : mapOf b x = some ⟨k, v, es⟩) (hx : RS M μ x vx)
    {s : Sem Next} (hs : ∀ (a : Option Nat) , vx = .map a → (a = none → es.length = 0) → (∀ r, a = some r → ∃ l clock, w.heap[r]? = some (.map l clock) ∧ l.size = es.length) → s.run P w = .ok (.value (.int .i64 es.length)) w) :
    OpStep P M μ b w s (.t (.int .i64) (es.length : Int)) [] := by
  obtain ⟨a, hva, hcase⟩ := mapOf_ok hw hx hm
  refine OpStep.same hw (v := .int .i64 es.length) (hs a hva ?_ ?_) (RS.int _ _) (.t _ _ _)
  · intro ha
    rcases hcase with ⟨_, rfl⟩ | ⟨r, l, clock, _, rfl, _⟩
    · rfl
    · cases ha
  · intro r ha
    rcases hcase with ⟨rfl, _⟩ | ⟨r', l', clock', es1, rfl, hg', hpm, _, hel⟩
    · cases ha
    · cases ha
      obtain ⟨_, _, hl, _⟩ := hel.to
      refine ⟨l', clock', hg', ?_⟩
      rw [← hpm.length_eq, ← hl, entL_list]
      simp

/-- A new map. -/
theorem newM_step (hw : WR M μ b w) {d t : Nat} {a : AV E} {u : Upd E} (h : newM tt b d t = some (true, a, u)) {s : Sem Next} (hs : s.run P w = .ok (.value (.map (some w.heap.size))) (w.alloc (.map #[] 0))) : OpStep P M μ b w s a u := by
  unfold newM at h
  split at h
  · rename_i kt vt k v htd hty
    obtain ⟨hd, h⟩ := bif_some h
    cases h
    obtain ⟨hd1, hd2⟩ := free_spec hd
    refine ⟨_, _, M, upd μ d ⟨w.heap.size, fun _ => (none, 0)⟩, .inl hs, ?_, ?_, ?_⟩
    · refine Tr.new hw hd ⟨w.heap.size, _⟩ _ (.refl M) ((Ext.alloc w _).holds hw.holds) (Ext.alloc w _) ?_ (fun _ _ h1 h2 => absurd h1 h2) ?_ ?_
      · intro lv
        exact ⟨[], .refl _, List.nodup_nil, #[], 0, fun _ => [], fun _ => [], heap_alloc_new w _, rfl, fun i hi => by simp at hi, fun i hi => by simp at hi, fun i hi => by simp [entL] at hi, fun o => hw.holds.new (Nat.le_refl _)⟩
      · intro g h; cases h; exact Nat.le_refl _
      · intro lv ly a h; cases h
    · have := RV.mp (E := E) (M := M) (μ := upd μ d ⟨w.heap.size, fun _ => (none, 0)⟩) d k v
      rw [upd_self] at this
      exact RS.v this
    · exact .plain (.inl ⟨[], blk_set_self hd1 _⟩) (by simp) (by simp) (by simp)
  · cases h

/-- An entry that is set. -/
theorem putM_step (hE : EnvOK E) (hT : TOK P E tt) (hw : WR M μ b w) {t : Nat} {x key val a : AV E} {vx vk vv : Value} {u : Upd E} (h : putM tt b t x key val = some (true, a, u)) (hx : RS M μ x vx) (hk : RS M μ key vk) (hv : RS M μ val vv)
    {s : Sem Next} (hs : s = (do Instr.mapUpdate t vx vk vv; pure .skip)) : OpStep P M μ b w s a u := by
  subst hs
  unfold putM at h
  split at h
  · rename_i kt vt id k v htd
    split at h
    · rename_i k' v' es hb
      have hh := bif_some h
      clear h
      obtain ⟨hc, h⟩ := hh
      simp only [Bool.and_eq_true, decide_eq_true_eq] at hc
      obtain ⟨⟨⟨hko, rfl⟩, rfl⟩, hvt⟩ := hc
      split at h
      · rename_i y z hy hz
        injection h with h; injection h with hcE h; injection h with ha' hu'
        subst ha' hu'
        obtain ⟨x0, hx0, hd0, hty0, hF0⟩ := hT.get (t := t) (by rw [htd]; simp)
        obtain ⟨um, hum, _, hD⟩ := hF0.und
        rw [htd] at hd0
        rw [← hd0] at hD
        obtain ⟨rfl, _⟩ := hD
        obtain ⟨d, hd, hkd⟩ := kind_of hT hko
        obtain ⟨ck, c1, c2, _⟩ := (ca_sound (tt := tt) (t := kt) hk).real (toT_real hy)
        have c3 := toT_sound hE c1 hy
        rw [toT_isAgg hy] at c2
        subst c2
        obtain ⟨cv, e1, e2, _⟩ := (ca_sound (tt := tt) (t := vt) hv).real (toT_real hz)
        have e3 := toT_sound hE e1 hz
        rw [toT_isAgg hz] at e2
        subst e2
        have hid : id < b.length := blk_lt (by rw [hb]; simp)
        have hB := hw.bw id
        rw [hb] at hB
        obtain ⟨es1, hpm, hnd, l, clock, fk, fv, g1, g2, g3, g4, g5, g6⟩ := hB
        have hpp := putE_perm hkd key y z hpm hnd hcE
        have hnn := mset_nodup hkd y z hnd
        have hel := EL.of fk fv g2 g3 g4 g5
        rw [entL_list] at hel
        have hmu : upd μ id (μ id) = μ := by
          funext i
          by_cases hi : i = id
          · subst hi; exact upd_self ..
          · exact upd_ne _ _ hi
        have hva : vx = .map (some (μ id).g) := by
          cases hx with
          | v hx => cases hx; rfl
        subst hva
        have hik := isKey_of hkd c3
        have fin : ∀ (l' : Array MapEntry) (clock' : Nat), (Instr.mapUpdate t (.map (some (μ id).g)) (mkV k'.agg ck) (mkV v'.agg cv)).run P w = .ok () { w with heap := w.heap.setIfInBounds (μ id).g (.map l' clock') } →
            EL M k' v' (entL l') (mset E k' v' y z es1) → OpStep P M μ b w (do Instr.mapUpdate t (.map (some (μ id).g)) (mkV k'.agg ck) (mkV v'.agg cv); pure .skip) .undef [(id, .mp k' v' (putE key k' v' y z es).2)] := by
          intro l' clock' hrun hel'
          obtain ⟨hs1, hs2⟩ := MapKept.heap_set (o' := .map l' clock') g1
          refine ⟨undef, { w with heap := w.heap.setIfInBounds (μ id).g (.map l' clock') }, M, μ, .inr ⟨by rw [Sem.run_bind, hrun]; rfl, rfl⟩, ?_, .undef _, .undef _⟩
          have := Tr.one (M' := M) (w' := { w with heap := w.heap.setIfInBounds (μ id).g (.map l' clock') }) hw hid (μ id) (.mp k' v' (putE key k' v' y z es).2) (.refl M) ?_ (by rw [hb]; exact ⟨rfl, rfl, rfl⟩) ?_ (by simp) ?_ (fun g o h1 h2 => absurd h1 h2) (fun g h => .inr (by rw [hb]; exact h)) (fun _ ly a h => by cases h) rfl ⟨rfl, fun _ => Nat.le_refl _⟩ rfl
          · rw [hmu] at this
            exact this
          · intro g o x hgx
            have hne : g ≠ (μ id).g := by rintro rfl; rw [g6] at hgx; cases hgx
            rcases hw.holds g o x hgx with ⟨h1, h2⟩ | ⟨h1, es, c, h2, h3⟩ | ⟨cs3, T3, f3, h2, h3, h4⟩
            · refine .inl ⟨h1, ?_⟩
              rw [← h2]
              exact World.cell?_of_block (w := w) (a := ⟨g, o, none⟩) (hs2 g hne)
            · exact .inr (.inl ⟨h1, es, c, by rw [← h2]; exact hs2 g hne, h3⟩)
            · exact .inr (.inr ⟨cs3, T3, f3, by rw [← h2]; exact hs2 g hne, h3, h4⟩)
          · intro lv
            obtain ⟨ck', cv', q1, q2, q3, q4⟩ := hel'.to
            exact ⟨_, hpp, hnn, l', clock', ck', cv', hs1, q1, q2, q3, q4, g6⟩
          · intro g _ hg
            exact hs2 g fun he => hg (by rw [hb, he]; rfl)
        rcases find_ok hkd c3 hel 0 with ⟨h1, _, h3⟩ | ⟨j, cv', yy, h1, _, _, ⟨hj, h4⟩, h5⟩
        · refine fin (l.push { key := mkV k'.agg ck, val := mkV v'.agg cv, born := clock }) (clock + 1) ?_ ?_
          · simp [Instr.mapUpdate, run_underlying' hum, MapKept.run_getObj_map g1, MapKept.run_checkKey hd hik, MapKept.run_findKey hd h1, MapKept.run_setObj_map _ g1]
          · rw [h3 z, entL_list, Array.toList_push, List.map_append]
            exact hel.app (.cons ck cv c3 e3 rfl .nil)
        · refine fin (l.modify j fun e => { e with key := mkV k'.agg ck, val := mkV v'.agg cv }) clock ?_ ?_
          · have hj' : j < l.size := by simpa using hj
            have hjj : l[j]? = some l[j] := Array.getElem?_eq_getElem hj'
            have h4' : Instr.sameBits 10000 l[j].key (mkV k'.agg ck) = true := by simpa using h4
            have hkeep : (Instr.keyThatStays l[j].key (mkV k'.agg ck)).run P w = .ok (mkV k'.agg ck) w := by simp [Instr.keyThatStays, h4']
            simp [Instr.mapUpdate, run_underlying' hum, MapKept.run_getObj_map g1, MapKept.run_checkKey hd hik, MapKept.run_findKey hd h1, MapKept.run_setObj_map _ g1, hjj, hkeep]
          · rw [entL_list, Array.toList_modify]
            exact h5 z cv e3
      · cases h
    · cases h
  · cases h

/-- A map that is data from here on. -/
theorem frzM_ghost (hw : WR M μ b w) {id : Nat} {k v : Ty} {a : AV E} {u : Upd E} (h : frzM b id k v = some (true, a, u)) : ∃ M', Tr b.length M μ b w M' μ (upds b u) w ∧ RV M' μ a [.map (some (μ id).g)] ∧ OKA (upds b u) a := by
  unfold frzM at h
  split at h
  · rename_i k' v' es hb
    have hh := bif_some h
    clear h
    obtain ⟨hc, h⟩ := hh
    simp only [Bool.and_eq_true, decide_eq_true_eq] at hc
    obtain ⟨rfl, rfl⟩ := hc
    cases h
    have hid : id < b.length := blk_lt (by rw [hb]; simp)
    have hB := hw.bw id
    rw [hb] at hB
    obtain ⟨es1, hpm, hnd, l, clock, fk, fv, g1, g2, g3, g4, g5, g6⟩ := hB
    have hE1 : Exc (μ id) (blk b id) = some (μ id).g := by rw [hb]; rfl
    have hmu : upd μ id (μ id) = μ := by
      funext i
      by_cases hi : i = id
      · subst hi; exact upd_self ..
      · exact upd_ne _ _ hi
    have hle : M.le (settle M w fun g => g = (μ id).g) := settle_le fun g hg o => by subst hg; exact g6 o
    refine ⟨settle M w fun g => g = (μ id).g, ?_, ?_, .t _ _ _⟩
    · have := Tr.one (M' := settle M w fun g => g = (μ id).g) (w' := w) hw hid (μ id) .mpz hle (settle_holds hw.holds) (by rw [hb]; exact (rfl : (μ id).g = (μ id).g)) (fun _ => trivial) (Nat.le_refl _)
        (fun g _ _ => rfl) (fun g o h1 h2 => .inr (by rw [hE1, settle_new h1 h2])) (fun g h => by cases h) (fun _ ly a h => by cases h) rfl ⟨rfl, fun _ => Nat.le_refl _⟩ rfl
      rw [hmu] at this
      exact this
    · have hg : settle M w (fun g => g = (μ id).g) (μ id).g 0 = some (encL (entL l)) := by
        unfold settle
        rw [if_pos rfl]
        unfold memOf
        rw [g1]
        rfl
      exact .t (.mp es es1 hpm hnd (μ id).g (entL l) fk fv g2 hg (fun i hi => (g3 i hi).mono hle) (fun i hi => (g4 i hi).mono hle) g5)
  · cases h
theorem frzM_step (hw : WR M μ b w) {id : Nat} {k v : Ty} {a : AV E} {vx : Value} {u : Upd E} (h : frzM b id k v = some (true, a, u)) (hx : RS (E := E) M μ (.mp id k v) vx) {s : Sem Next} (hs : s = pure (.value vx)) : OpStep P M μ b w s a u := by
  subst hs
  obtain ⟨M', h1, h2, h3⟩ := frzM_ghost hw h
  have hva : vx = .map (some (μ id).g) := by
    cases hx with
    | v hx => cases hx; rfl
  subst hva
  refine ⟨_, w, M', μ, .inl rfl, h1, ?_, h3⟩
  have hag : a.isAgg = false := by
    unfold frzM at h
    split at h
    · obtain ⟨_, h⟩ := bif_some h
      cases h
      rfl
    · cases h
  have := RS.v h2
  rw [hag] at this
  exact this
end Go.Proofs.YtbmpjppfdeohnaaDoor.Fv

/-! Rows that are written on, cleared, looked at in part; rows and maps that are data from here on. -/
namespace Go.Proofs.YtbmpjppfdeohnaaDoor.Fv
variable [Quiet]
variable {E : Env} {P : Program} {tt : Nat → Option TE} {M M' : Mem} {μ μ' : Mu} {b b' : List (Blk E)} {w w' : World}

theorem upd_same (μ : Mu) (d : Nat) : upd μ d (μ d) = μ := by
  funext i
  by_cases hi : i = d
  · subst hi; exact upd_self ..
  · exact upd_ne _ _ hi

/-- A row is no longer than its room. -/
theorem row_room (hE : EnvOK E) {c : Conc} {e : Ty} {xs : List (E.D e)} (h0 : 0 < size E e) (h : BW M μ w c (.row e xs)) : xs.length ≤ (c.ver 0).2 := by
  rcases h with ⟨h1, rfl⟩ | ⟨hv0, cs, T, fr, cells, h1, h2, ⟨rest, h3⟩, h4, hcsz, hfr⟩
  · simp
  · have hl := h2.len hE
    have : cs.size = cells.length + rest.length := by rw [← Array.length_toList, h3, List.length_append]
    rw [hcsz, hl] at this
    have h5 : xs.length * size E e ≤ (c.ver 0).2 * size E e := by
      have e1 : size E (.arr xs.length e) = xs.length * size E e := rfl
      omega
    exact Nat.le_of_mul_le_mul_right h5 h0

/-- Elements written over a part of a row. -/
theorem row_write (hE : EnvOK E) (hw : WR M μ b w) {id : Nat} {e : Ty} {xs ys : List (E.D e)} {css : List (List Value)} (hb : blk b id = .row e xs) (hl : css.length = ys.length) (hy : ∀ i (hi : i < ys.length), RC M e ys[i] (css.getD i [])) {off : Nat}
    (ho : off + ys.length ≤ xs.length) (hpos : 0 < ys.length) :
    ∃ w', (storeCells ⟨(μ id).g, off * size E e, none⟩ css.flatten).run P w = .ok () w' ∧ Tr b.length M μ b w M μ (b.set id (.row e (over xs ys off))) w' := by
  have hid : id < b.length := blk_lt (by rw [hb]; simp)
  have hB := hw.bw id
  rw [hb] at hB
  obtain ⟨hv0, cs, T, fr, cells, h1, h2, ⟨rest, h3⟩, h4, hcsz, hfr⟩ := hB.resolve_left fun h => by rw [h.2, List.length_nil] at ho; omega
  obtain ⟨pre, old, post, e1, e2, e3, e4⟩ := RC.arr_over (k := 0) (cys := []) hE h2 hl hy (off := off) ho
  have hfl := css_flat_len hE hl hy
  have hcs : cs = (pre ++ old ++ (post ++ rest)).toArray := by apply Array.ext'; rw [h3, e1]; simp
  have hst := run_storeCells_fr P (μ id).g (off * size E e) T fr css.flatten 0 cs w h1 hfr.free (by rw [hcs, Nat.add_zero, hfl, ← e3, ← e2]; simp only [List.size_toArray, List.length_append]; omega) (css_one' hl hy)
  rw [Nat.add_zero] at hst
  have h7 : Repl cs.toList (off * size E e) css.flatten (pre ++ css.flatten ++ (post ++ rest)) := ⟨pre, old, post ++ rest, by rw [h3, e1]; simp, rfl, e2, by rw [e3, hfl]⟩
  refine ⟨w.setRow (μ id).g (pre ++ css.flatten ++ (post ++ rest)).toArray, ?_, ?_⟩
  · refine hst.trans ?_
    congr 3
    rw [hcs, hfl, ← e3, ← e2]
    simp [List.append_assoc]
  · have := Tr.one (M' := M) (w' := w.setRow (μ id).g (pre ++ css.flatten ++ (post ++ rest)).toArray) hw hid (μ id) (.row e (over xs ys off)) (.refl M) (holds_setRow hw.holds _ h4) (by rw [hb]; exact ⟨rfl, by simp only [over, List.length_append, List.length_take, List.length_drop]; omega, rfl, rfl⟩) ?_ (by simp) ?_ (fun _ _ h1 h2 => absurd h1 h2) ?_ ?_ rfl ⟨rfl, fun _ => Nat.le_refl _⟩ rfl
    · rw [upd_same] at this
      exact this
    · intro lv
      refine .inr ⟨hv0, _, T, fr, _, setRow_heap w _ cs _ T _ h1, e4, ⟨rest, by simp⟩, h4, ?_, ?_⟩
      · have hl7 := h7.len
        rw [Array.length_toList] at hl7
        rw [← hcsz, ← Array.length_toList (xs := cs), ← hl7]
      · have e9 : ∀ n, n = cs.size → FrOK _ n fr := fun n h => h ▸ hfr
        refine e9 _ ?_
        have hl7 := h7.len
        simp at hl7 ⊢
        omega
    · intro g _ hg
      rw [hb] at hg
      exact setRow_other w _ g _ (fun e => hg (by simp [Exc, e, hv0]))
    · intro g h
      rw [hb]
      exact .inr h
    · intro lv ly a h
      cases h

theorem over_nil {α : Type} (xs : List α) (off : Nat) : over xs [] off = xs := by simp [over]
theorem over_len {α : Type} {xs ys : List α} {off : Nat} (h : off + ys.length ≤ xs.length) : (over xs ys off).length = xs.length := by
  simp only [over, List.length_append, List.length_take, List.length_drop]; omega
theorem set_same_blk {id : Nat} {x : Blk E} (h : blk b id = x) (hid : id < b.length) : b.set id x = b := by
  apply List.ext_getElem
  · simp
  · intro i h1 h2
    by_cases hi : id = i
    · subst hi
      rw [List.getElem_set_self, ← h]
      simp [blk, List.getD_eq_getElem?_getD, h2]
    · rw [List.getElem_set_ne hi]

/-- What a view of a row is. -/
theorem fs_inv (hw : WR M μ b w) {id off len : Nat} {e : Ty} {v : Value} (hx : RS (E := E) M μ (.fs id e off len) v) : ∃ base cap, v = .slice base len cap ∧ ((base = some ⟨(μ id).g, off * size E e, none⟩ ∧ off + cap = ((μ id).ver 0).2) ∨ (cap = 0 ∧ ((μ id).ver 0).2 ≤ off)) ∧ len ≤ cap := by
  cases hx with
  | v hx =>
    cases hx with
    | fs _ _ _ _ cap base hbase hcap => exact ⟨base, cap, rfl, hbase, hcap⟩

theorem slcR_step (hE : EnvOK E) (hT : TOK P E tt) (hw : WR M μ b w) {t id off len : Nat} {e : Ty} {lo h : Int} {mx : Option Int} {a : AV E} {u : Upd E} {v : Value} {lo0 : Option Int} {vlo vhi vmx : Option Value} (hh : slcR tt b t id e off lo h mx = some (true, a, u)) (hx : RS (E := E) M μ (.fs id e off len) v)
    (hlo : NumO lo0 vlo) (hl0 : lo = lo0.getD 0) (hhi : NumO (some h) vhi) (hmx : NumO mx vmx) {s : Sem Next} (hs : s = (do pure (.value (← Instr.sliceAt t v vlo vhi vmx)))) : OpStep P M μ b w s a u := by
  subst hs hl0
  unfold slcR at hh
  split at hh
  · rename_i el e' xs htd hb
    obtain ⟨hd, h9⟩ := bif_some hh
    clear hh
    simp only [Bool.and_eq_true, decide_eq_true_eq] at hd
    obtain ⟨rfl, hty⟩ := hd
    obtain ⟨y, hy, hu, rfl, hfull, _, hsz0, _⟩ := hT.slice htd hty
    obtain ⟨j, hj, hs⟩ := hT.size hy
    have hB := hw.bw id
    rw [hb] at hB
    have hroom := row_room hE hsz0 hB
    obtain ⟨base, cap, rfl, hbase, hcap⟩ := fs_inv hw hx
    split at h9
    · injection h9 with h9; injection h9 with hok h9; injection h9 with h1 h2
      subst h1 h2
      simp only [Bool.and_eq_true, decide_eq_true_eq] at hok
      obtain ⟨⟨k1, k2⟩, k3⟩ := hok
      cases hmx
      have hl : (lo0 = none ∧ (lo0.getD 0).toNat = 0) ∨ ∃ n, lo0 = some n ∧ 0 ≤ n ∧ n.toNat = (lo0.getD 0).toNat := by
        cases lo0 with
        | none => exact .inl ⟨rfl, rfl⟩
        | some n => exact .inr ⟨n, rfl, k1, rfl⟩
      have hc : h.toNat ≤ cap := by rcases hbase with ⟨_, h1⟩ | ⟨h1, h2⟩ <;> omega
      have hrun := run_slice_sl hu hj base len cap hlo hhi hl (.inr ⟨h, rfl, by omega, rfl⟩) (by omega) hc w
      refine OpStep.same hw (by simp [hrun]; rfl) ?_ (.plain (.inl ⟨xs, hb, by omega⟩) (by simp) (by simp) (by simp))
      refine RS.v (RV.fs id y.ty _ _ (cap - (lo0.getD 0).toNat) _ ?_ (by omega))
      by_cases hcl : cap = (lo0.getD 0).toNat
      · refine .inr ⟨by omega, ?_⟩
        rcases hbase with ⟨_, hb2⟩ | ⟨_, hb2⟩ <;> omega
      · rw [if_neg hcl]
        rcases hbase with ⟨rfl, hb2⟩ | ⟨hb, _⟩
        · exact .inl ⟨by simp [addr_add, Nat.add_mul, hs], by omega⟩
        · omega
    · rename_i m
      injection h9 with h9; injection h9 with hok h9; injection h9 with h1 h2
      subst h1 h2
      simp only [Bool.and_eq_true, decide_eq_true_eq] at hok
      obtain ⟨⟨⟨k1, k2⟩, k3⟩, k4⟩ := hok
      have hc : m.toNat ≤ cap := by rcases hbase with ⟨_, h1⟩ | ⟨h1, h2⟩ <;> omega
      generalize hvh : vhi = vhi' at *
      cases hhi with | some kh _ =>
      cases hmx with | some km _ =>
      have A : ∀ {k : IntKind} {c}, (Instr.sliceBound (.int k m) cap c).run P w = .ok m.toNat w := fun {k c} => run_bound (by omega) (by omega) c w
      have A' : ∀ {k : IntKind} {c}, (Instr.sliceBound (.int k h) m.toNat c).run P w = .ok h.toNat w := fun {k c} => run_bound (by omega) (by omega) c w
      have hrun : ∃ r, (Instr.sliceAt t (.slice base len cap) vlo (some (.int kh h)) (some (.int km m))).run P w = .ok r w := by
        rw [sliceAt_slice hu]
        cases hlo with
        | none => exact ⟨_, by simp [Instr.slice, run_underlying' hu, Instr.sliceBounds, A, A', run_sizeOf hj]; rfl⟩
        | some k n =>
          have B : ∀ {k : IntKind} {c}, (Instr.sliceBound (.int k n) h.toNat c).run P w = .ok n.toNat w := fun {k c} => run_bound k1 (by show n ≤ _; have : n ≤ h := k2; omega) c w
          exact ⟨_, by simp [Instr.slice, run_underlying' hu, Instr.sliceBounds, A, A', B, run_sizeOf hj]; rfl⟩
      obtain ⟨r, hr⟩ := hrun
      exact OpStep.same hw (by simp [hr]; rfl) (.undef _) (.undef _)
  · cases hh

theorem sameR_spec {x y : AV E} {id off len off2 len2 : Nat} {e : Ty} (h : sameR x y = some (id, e, off, len, off2, len2)) : x = .fs id e off len ∧ ∃ e2, y = .fs id e2 off2 len2 := by
  unfold sameR at h
  split at h
  · rename_i id' e' off' len' id2 e2 off2' len2'
    obtain ⟨h1, h2⟩ := bif_some h
    have h1 := Nat.eq_of_beq_eq_true h1
    subst h1
    cases h2
    exact ⟨rfl, e2, rfl⟩
  · cases h

theorem appR_step (hE : EnvOK E) (hT : TOK P E tt) (hw : WR M μ b w) {t u el ty id off len off2 len2 : Nat} {e e2 : Ty} (htd : tdOf tt t = .slice el) {du : TypeDesc} (hu2 : P.underlying u = some du) (hdu : (∃ e, du = .slice e) ∨ du = .string)
    {a : AV E} {up : Upd E} {x y : Value} (h : appR tt b t id e off len off2 len2 = some (true, a, up)) (hx : RS (E := E) M μ (.fs id e off len) x) (hy : RS (E := E) M μ (.fs id e2 off2 len2) y) (oky : OKA b (.fs (E := E) id e2 off2 len2))
    {s : Sem Next} (hs : s = (do pure (.value (← Builtin.append_ #[t, u] ty #[x, y])))) : OpStep P M μ b w s a up := by
  subst hs
  unfold appR at h
  split at h
  · rename_i e' xs hb
    obtain ⟨hd, h9⟩ := bif_some h
    clear h
    simp only [Bool.and_eq_true, decide_eq_true_eq] at hd
    obtain ⟨rfl, hty⟩ := hd
    injection h9 with h9; injection h9 with hok h9; injection h9 with h1 h2
    subst h1 h2
    simp only [Bool.and_eq_true, decide_eq_true_eq] at hok
    obtain ⟨k1, k2⟩ := hok
    obtain ⟨y', hy', hu, rfl, hfull, _, hsz0, _⟩ := hT.slice htd hty
    obtain ⟨j, hj, hs⟩ := hT.size hy'
    have hid : id < b.length := blk_lt (by rw [hb]; simp)
    have hB := hw.bw id
    rw [hb] at hB
    have hroom := row_room hE hsz0 hB
    obtain rfl : y'.ty = e2 := by
      rcases oky.plain' (by simp) with ⟨ys, h1, _⟩ | h1 <;> rw [hb] at h1 <;> cases h1
      rfl
    have hlen : ((xs.drop off2).take len2).length = len2 := by rw [List.length_take, List.length_drop]; omega
    have hsrc : lstB b (.fs id y'.ty off2 len2) = some ⟨y'.ty, (xs.drop off2).take len2⟩ := by simp [lstB, hb]
    obtain ⟨css, hc1, hc2, hc3⟩ := srcB_ok (P := P) hE hw hy oky hsrc
    obtain ⟨hln, hf⟩ := hc3 w rfl
    have hf := hf len2 (by rw [hlen]; exact Nat.le_refl _)
    rw [hlen] at hln
    have hct : css.take len2 = css := by rw [List.take_of_length_le (by rw [hc1, hlen]; exact Nat.le_refl _)]
    rw [hct] at hf
    obtain ⟨base, cap, rfl, hbase, hcap⟩ := fs_inv hw hx
    have hr : len + len2 ≤ cap := by rcases hbase with ⟨_, h1⟩ | ⟨h1, h2⟩ <;> omega
    have ok' : ∀ b' : List (Blk E), (∃ xs' : List (E.D y'.ty), blk b' id = .row y'.ty xs' ∧ off + (len + len2) ≤ xs'.length) → OKA b' (.fs (E := E) id y'.ty off (len + len2)) := fun b' h => .plain (.inl h) (by simp) (by simp) (by simp)
    by_cases h0 : len2 = 0
    · subst h0
      have hn : ((xs.drop off2).take 0) = [] := by simp
      have hc0 : css = [] := List.eq_nil_of_length_eq_zero (by rw [hc1, hlen])
      rw [hn, over_nil]
      subst hc0
      have hrun : (Builtin.append_ #[t, u] ty #[.slice base len cap, y]).run P w = .ok (.slice base (len + 0) cap) w := by
        clear hx hbase
        cases base <;> exact run_app_room (ty := ty) (w' := w) (news := []) hu hu2 hdu hj hln (by rw [hs]; exact hf) hr rfl
      refine ⟨_, w, M, μ, .inl (by simp [hrun]; rfl), ?_, ?_, ?_⟩
      · show Tr _ _ _ _ _ _ _ (b.set id (.row y'.ty xs)) _
        rw [set_same_blk hb hid]
        exact Tr.refl hw _
      · exact RS.v (RV.fs id y'.ty off _ cap base hbase (by omega))
      · refine ok' _ ⟨xs, ?_, by omega⟩
        show blk (b.set id (.row y'.ty xs)) id = _
        rw [set_same_blk hb hid]
        exact hb
    · obtain ⟨w', hst, htr⟩ := row_write (P := P) (off := off + len) hE hw hb hc1 hc2 (by rw [hlen]; omega) (by rw [hlen]; omega)
      rcases hbase with ⟨rfl, hb2⟩ | ⟨h1, _⟩
      · have hrun := run_app_room (ty := ty) (w' := w') (base := some ⟨(μ id).g, off * size E y'.ty, none⟩) hu hu2 hdu hj hln (by rw [hs]; exact hf) hr (by
          show (storeCells ((⟨(μ id).g, off * size E y'.ty, none⟩ : Addr).add (len * j.size)) css.flatten).run P w = _
          rw [addr_add, hs, ← Nat.add_mul]
          exact hst)
        refine ⟨_, w', M, μ, .inl (by simp [hrun]; rfl), htr, ?_, ?_⟩
        · exact RS.v (RV.fs id y'.ty off _ cap _ (.inl ⟨rfl, hb2⟩) (by omega))
        · exact ok' _ ⟨_, blk_set_self hid _, by rw [over_len (by rw [hlen]; omega)]; omega⟩
      · omega
  · cases h

theorem appS_step (hE : EnvOK E) (hz : ∀ (M : Mem) n, RC M (.nm n) (E.dfl n) (E.zc n)) (hT : TOK P E tt) (hw : WR M μ b w) {t u el ty d : Nat} (htd : tdOf tt t = .slice el)
    {du : TypeDesc} (hu2 : P.underlying u = some du) (hd : (∃ e, du = .slice e) ∨ du = .string) {x y a : AV E} {vx vy : Value} {up : Upd E} (h : appS tt b d t x y = some (true, a, up)) (hx : RS M μ x vx) (hy : RS M μ y vy) (okx : OKA b x) (oky : OKA b y)
    {s : Sem Next} (hs : s = (do pure (.value (← Builtin.append_ #[t, u] ty #[vx, vy])))) : OpStep P M μ b w s a up := by
  unfold appS at h
  split at h
  · rename_i id e off len off2 len2 hsm
    obtain ⟨rfl, e2, rfl⟩ := sameR_spec hsm
    exact appR_step hE hT hw htd hu2 hd h hx hy oky hs
  · exact appd_step hE hz hT hw htd hu2 hd h hx hy okx oky hs

theorem clrR_step (hE : EnvOK E) (hz : ∀ n, RC M (.nm n) (E.dfl n) (E.zc n)) (hT : TOK P E tt) (hw : WR M μ b w) {t el ty : Nat} (htd : tdOf tt t = .slice el) {x a : AV E} {up : Upd E} {v : Value} (h : clrR tt b t x = some (true, a, up)) (hx : RS M μ x v)
    {s : Sem Next} (hs : s = (do pure (.value (← Builtin.clear_ #[t] ty #[v])))) : OpStep P M μ b w s a up := by
  subst hs
  unfold clrR at h
  split at h
  · rename_i id e off len
    split at h
    · rename_i e' xs hb
      obtain ⟨hd, h9⟩ := bif_some h
      clear h
      simp only [Bool.and_eq_true, decide_eq_true_eq] at hd
      obtain ⟨rfl, hty⟩ := hd
      injection h9 with h9; injection h9 with hok h9; injection h9 with h1 h2
      subst h1 h2
      have hok := of_decide_eq_true hok
      obtain ⟨y', hy', hu, rfl, hfull, _, hsz0, _⟩ := hT.slice htd hty
      obtain ⟨i, z, hi, hz0, hsz, hzc⟩ := hT.zcells hy' hfull
      have hid : id < b.length := blk_lt (by rw [hb]; simp)
      obtain ⟨base, cap, rfl, hbase, hcap⟩ := fs_inv hw hx
      by_cases h0 : len = 0
      · subst h0
        refine ⟨_, w, M, μ, .inl (by cases base <;> simp [Builtin.clear_, run_underlying' hu] <;> rfl), ?_, .undef _, .undef _⟩
        show Tr _ _ _ _ _ _ _ (b.set id (.row y'.ty (over xs (List.replicate 0 _) off))) _
        rw [List.replicate_zero, over_nil, set_same_blk hb hid]
        exact Tr.refl hw _
      · have hl : (List.replicate len (zcells E y'.ty)).length = (List.replicate len (dfl E y'.ty)).length := by simp
        obtain ⟨w', hst, htr⟩ := row_write (P := P) (off := off) (ys := List.replicate len (dfl E y'.ty)) (css := List.replicate len (zcells E y'.ty)) hE hw hb hl (fun k hk => by
          have hk' : k < len := by simpa using hk
          rw [List.getD_of_lt _ _ _ (by simpa using hk')]
          simp only [List.getElem_replicate]
          exact RC.zero M hz _ hfull) (by simpa using hok) (by simp; omega)
        rcases hbase with ⟨rfl, hb2⟩ | ⟨h1, _⟩
        · refine ⟨.tuple #[], w', M, μ, .inl ?_, htr, .undef _, .undef _⟩
          · have : (Builtin.zeroCells z.cells len).toList = (List.replicate len (zcells E y'.ty)).flatten := by rw [zeroCells_eq, hzc]
            obtain ⟨m, rfl⟩ : ∃ m, len = m + 1 := ⟨len - 1, by omega⟩
            simp [Builtin.clear_, run_underlying' hu, zeroValue, typeInfo, hi, hz0, this, hst]
        · omega
    · cases h
  · cases h

/-! ### Data from here on -/
theorem settle_part (hE : EnvOK E) (hw : WR M μ b w) {id off n : Nat} {e : Ty} {xs : List (E.D e)} {cs : List Value} (hb : blk b id = .row e xs) (hx : RV (E := E) M μ (.fs id e off n) cs) (hn : off + n ≤ xs.length) :
    ∃ M', Tr b.length M μ b w M' μ (b.set id (.rowz e)) w ∧ RV M' μ (.t (.sl e) ((xs.drop off).take n)) cs := by
  have hid : id < b.length := blk_lt (by rw [hb]; simp)
  have hbw := hw.bw id
  rw [hb] at hbw
  have hlen : ((xs.drop off).take n).length = n := by rw [List.length_take, List.length_drop]; omega
  cases hx with
  | fs _ _ _ _ cap base hbase hcap =>
    by_cases h0 : n = 0
    · subst h0
      refine ⟨M, ?_, ?_⟩
      · have := Tr.one (M' := M) (w' := w) hw hid (μ id) (.rowz e) (.refl M) hw.holds (by rw [hb]; exact ⟨rfl, rfl, rfl⟩) (fun _ => trivial) (Nat.le_refl _)
          (fun g _ _ => rfl) (fun g o h1 h2 => absurd h1 h2) (fun g h => by cases h) (fun _ ly a h => by cases h) rfl ⟨rfl, fun _ => Nat.le_refl _⟩ rfl
        rw [upd_same] at this
        exact this
      · have e0 : (xs.drop off).take 0 = [] := by simp
        rw [e0]
        exact .t (.sl [] base cap (fun _ => []) hcap (fun i hi => by simp at hi) (fun i hi => by simp at hi) (fun h => by rcases hbase with ⟨rfl, _⟩ | ⟨h', _⟩ <;> first | exact h' | cases h))
    · obtain ⟨hv0, cells, T, fr, css, g1, g2, ⟨rest, g3⟩, g4, _⟩ := hbw.resolve_left fun h => by rw [h.2, List.length_nil] at hn; omega
      have hE1 : Exc (μ id) (blk b id) = some (μ id).g := by rw [hb]; simp [Exc, hv0]
      have hle : M.le (settle M w fun g => g = (μ id).g) := settle_le fun g hg o => by subst hg; exact g4 o
      have hat : CellsAt (settle M w fun g => g = (μ id).g) (μ id).g 0 css := settle_at rfl g1 g3 g2.noT
      obtain ⟨l, j1, j2, j3, j4⟩ := g2.arr_part hE off n hn
      refine ⟨settle M w fun g => g = (μ id).g, ?_, ?_⟩
      · have := Tr.one (M' := settle M w fun g => g = (μ id).g) (w' := w) hw hid (μ id) (.rowz e) hle (settle_holds hw.holds) (by rw [hb]; exact ⟨rfl, rfl, rfl⟩) (fun _ => trivial) (Nat.le_refl _)
          (fun g _ _ => rfl) (fun g o h1 h2 => .inr (by rw [hE1, settle_new h1 h2])) (fun g h => by cases h) (fun _ ly a h => by cases h) rfl ⟨rfl, fun _ => Nat.le_refl _⟩ rfl
        rw [upd_same] at this
        exact this
      · rcases hbase with ⟨rfl, _⟩ | ⟨h, _⟩
        · refine .t ?_
          have := RC.sl (M := settle M w fun g => g = (μ id).g) ((xs.drop off).take n) (some ⟨(μ id).g, off * size E e, none⟩) cap (fun i => l.getD i []) (by rw [hlen]; exact hcap) (fun i hi => (j2 i hi).mono hle) (fun i hi => ⟨_, rfl, rfl, ?_⟩) (fun h => nomatch h)
          · rw [hlen] at this
            exact this
          · rw [hlen] at hi
            obtain ⟨pre, post, m1, m2⟩ := j3 n (Nat.le_refl _)
            have hlt : l.take n = l := by rw [List.take_of_length_le (by omega)]
            rw [hlt] at m1
            have hp := flatten_piece l i (size E e) (by omega) (fun j hj => (j2 j (by rw [hlen]; omega)).len hE)
            have h1 : CellsAt (settle M w fun g => g = (μ id).g) (μ id).g (off * size E e) l.flatten := by
              intro j hj
              have h5 := hat (off * size E e + j) (by rw [m1]; simp only [List.length_append]; omega)
              have e5 : css[off * size E e + j]'(by rw [m1]; simp only [List.length_append]; omega) = l.flatten[j] := by
                simp only [m1]
                rw [List.getElem_append_left (by simp only [List.length_append]; omega), List.getElem_append_right (by omega)]
                simp [m2]
              rw [e5, Nat.zero_add] at h5
              exact h5
            exact h1.piece hp
        · omega

theorem RV.agg_inv {cs : List (AV E)} {c : List Value} (h : RV M μ (.agg cs) c) : ∃ css : List (List Value), css.length = cs.length ∧ c = css.flatten ∧ ∀ i (hi : i < cs.length), RV M μ cs[i] (css.getD i []) := by
  cases h with
  | agg _ css hl h => exact ⟨css, hl, rfl, h⟩

/-- A variable that isn't written any more. -/
theorem frz_ghost (hE : EnvOK E) (hw : WR M μ b w) {id : Nat} {ly : Ty} {a : AV E} {v : E.D ly} (hb : blk b id = .var ly a) (hv : toT a ly = some v) : ∃ M', Tr b.length M μ b w M' μ (upds b [(id, .frz ly v)]) w := by
  have hid : id < b.length := blk_lt (by rw [hb]; simp)
  have hB := hw.bw id
  rw [hb] at hB
  obtain ⟨cs, T, g1, g2, g3, g4⟩ := hB
  have hE1 : Exc (μ id) (blk b id) = some (μ id).g := by rw [hb]; rfl
  have hmu : upd μ id (μ id) = μ := by
    funext i
    by_cases hi : i = id
    · subst hi; exact upd_self ..
    · exact upd_ne _ _ hi
  have hle : M.le (settle M w fun g => g = (μ id).g) := settle_le fun g hg o => by subst hg; exact g4 o
  refine ⟨settle M w fun g => g = (μ id).g, ?_⟩
  have := Tr.one (M' := settle M w fun g => g = (μ id).g) (w' := w) hw hid (μ id) (.frz ly v) hle (settle_holds hw.holds) (by rw [hb]; exact ⟨rfl, rfl⟩)
    (fun _ => ⟨cs.toList, settle_at rfl g1 (List.append_nil _).symm (toT_sound hE g2 hv).noT, (toT_sound hE g2 hv).mono hle⟩) (Nat.le_refl _)
    (fun g _ _ => rfl) (fun g o h1 h2 => .inr (by rw [hE1, settle_new h1 h2])) (fun g h => by cases h) (fun _ ly a h => by cases h) rfl ⟨rfl, fun _ => Nat.le_refl _⟩ rfl
  rw [hmu] at this
  exact this

mutual
theorem settleA_sound (hE : EnvOK E) {m : Nat} : ∀ (a : AV E) (b : List (Blk E)) {M : Mem} {w : World} {cs : List Value} {a' : AV E} {u : Upd E}, WR M μ b w → RV M μ a cs → OKA b a → settleA m b a = some (true, a', u) →
    ∃ M', Tr b.length M μ b w M' μ (upds b u) w ∧ RV M' μ a' cs ∧ a'.isAgg = a.isAgg ∧ OKA (upds b u) a'
  | .fs id e off n, b, M, w, cs, a', u, hw, hv, ok, h => by
    unfold settleA at h
    split at h
    · rename_i e' xs hb
      obtain ⟨hd, h9⟩ := bif_some h
      clear h
      have hd : e' = e := of_decide_eq_true hd
      subst hd
      split at h9
      · obtain ⟨h0, h8⟩ := bif_some h9
        clear h9
        have h0 : off = 0 := of_decide_eq_true h0
        subst h0
        injection h8 with h8; injection h8 with hn h8; injection h8 with h1 h2
        subst h1 h2
        have hn := of_decide_eq_true hn
        obtain ⟨M', k1, k2⟩ := settle_part hE hw hb hv (by omega)
        rw [hn, List.drop_zero, List.take_length] at k2
        exact ⟨M', k1, k2, rfl, .t _ _ _⟩
      · injection h9 with h8; injection h8 with hn h8; injection h8 with h1 h2
        subst h1 h2
        have hn := of_decide_eq_true hn
        obtain ⟨M', k1, k2⟩ := settle_part hE hw hb hv hn
        exact ⟨M', k1, k2, rfl, .t _ _ _⟩
    · cases h
  | .mp id k v, b, M, w, cs, a', u, hw, hv, ok, h => by
    unfold settleA at h
    split at h
    · rename_i k' v' es hb
      have h2 : frzM b id k v = some (true, a', u) := by
        unfold frzM
        rw [hb]
        exact h
      have hval : cs = [.map (some (μ id).g)] := by cases hv; rfl
      subst hval
      obtain ⟨M', h5, h6, h7⟩ := frzM_ghost hw h2
      refine ⟨M', h5, h6, ?_, h7⟩
      obtain ⟨_, h9⟩ := bif_some h
      cases h9
      rfl
    · cases h
  | .agg cs, b, M, w, cells, a', u, hw, hv, ok, h => by
    unfold settleA at h
    split at h
    · rename_i c l u' hl
      cases h
      obtain ⟨css, g1, rfl, g3⟩ := hv.agg_inv
      have okc : ∀ x ∈ cs, OKA b x := by
        cases ok with
        | plain _ hn => exact absurd rfl (hn cs)
        | agg _ h => exact h
      obtain ⟨M', k1, k2, k3, k4⟩ := settleL_sound hE cs b css hw (by omega) g3 okc hl
      exact ⟨M', k1, .agg _ css (by omega) k3, rfl, .agg _ k4⟩
    · cases h
  | .undef, b, M, w, cs, a', u, hw, hv, ok, h => by cases h; exact ⟨M, Tr.refl hw _, hv, rfl, ok⟩
  | .c _, b, M, w, cs, a', u, hw, hv, ok, h => by cases h; exact ⟨M, Tr.refl hw _, hv, rfl, ok⟩
  | .t _ _, b, M, w, cs, a', u, hw, hv, ok, h => by cases h; exact ⟨M, Tr.refl hw _, hv, rfl, ok⟩
  | .nilp, b, M, w, cs, a', u, hw, hv, ok, h => by cases h; exact ⟨M, Tr.refl hw _, hv, rfl, ok⟩
  | .nilfn, b, M, w, cs, a', u, hw, hv, ok, h => by cases h; exact ⟨M, Tr.refl hw _, hv, rfl, ok⟩
  | .niliface, b, M, w, cs, a', u, hw, hv, ok, h => by cases h; exact ⟨M, Tr.refl hw _, hv, rfl, ok⟩
  | .nilmap, b, M, w, cs, a', u, hw, hv, ok, h => by cases h; exact ⟨M, Tr.refl hw _, hv, rfl, ok⟩
  | .ptr id ly p, b, M, w, cs, a', u, hw, hv, ok, h => by
    unfold settleA at h
    split at h
    · split at h
      · rename_i ly' x hb
        obtain ⟨hd, h9⟩ := bif_some h
        clear h
        have hd : ly' = ly := of_decide_eq_true hd
        subst hd
        split at h9
        · rename_i v hv9
          cases h9
          obtain ⟨M', k1⟩ := frz_ghost hE hw hb hv9
          have hcs : cs = [.pointer (some ⟨(μ id).g, offTy E ly' p, none⟩)] := by cases hv; rfl
          subst hcs
          exact ⟨M', k1, .ptr id ly' p, rfl, .plain (.inr ⟨v, by simp only [upds]; exact blk_set_self (blk_lt (by rw [hb]; simp)) _⟩) (by simp) (by simp) (by simp)⟩
        · cases h9
      · cases h; exact ⟨M, Tr.refl hw _, hv, rfl, ok⟩
    · cases h; exact ⟨M, Tr.refl hw _, hv, rfl, ok⟩
  | .eptr _ _ _ _, b, M, w, cs, a', u, hw, hv, ok, h => by cases h; exact ⟨M, Tr.refl hw _, hv, rfl, ok⟩
  | .imm _ _, b, M, w, cs, a', u, hw, hv, ok, h => by cases h; exact ⟨M, Tr.refl hw _, hv, rfl, ok⟩
  | .sl _ _ _, b, M, w, cs, a', u, hw, hv, ok, h => by cases h; exact ⟨M, Tr.refl hw _, hv, rfl, ok⟩
  | .exact _ _, b, M, w, cs, a', u, hw, hv, ok, h => by cases h; exact ⟨M, Tr.refl hw _, hv, rfl, ok⟩
  | .own _ _, b, M, w, cs, a', u, hw, hv, ok, h => by cases h; exact ⟨M, Tr.refl hw _, hv, rfl, ok⟩
  | .ownrow _ _, b, M, w, cs, a', u, hw, hv, ok, h => by cases h; exact ⟨M, Tr.refl hw _, hv, rfl, ok⟩
  | .func _ _, b, M, w, cs, a', u, hw, hv, ok, h => by cases h; exact ⟨M, Tr.refl hw _, hv, rfl, ok⟩
  | .funp _ _, b, M, w, cs, a', u, hw, hv, ok, h => by cases h; exact ⟨M, Tr.refl hw _, hv, rfl, ok⟩
  | .iface _ _, b, M, w, cs, a', u, hw, hv, ok, h => by cases h; exact ⟨M, Tr.refl hw _, hv, rfl, ok⟩
  | .snil _, b, M, w, cs, a', u, hw, hv, ok, h => by cases h; exact ⟨M, Tr.refl hw _, hv, rfl, ok⟩
  | .snn _ _, b, M, w, cs, a', u, hw, hv, ok, h => by cases h; exact ⟨M, Tr.refl hw _, hv, rfl, ok⟩
  | .rsv _ _ _, b, M, w, cs, a', u, hw, hv, ok, h => by cases h; exact ⟨M, Tr.refl hw _, hv, rfl, ok⟩
  | .err _, b, M, w, cs, a', u, hw, hv, ok, h => by cases h; exact ⟨M, Tr.refl hw _, hv, rfl, ok⟩
  | .tup _, b, M, w, cs, a', u, hw, hv, ok, h => by cases h; exact ⟨M, Tr.refl hw _, hv, rfl, ok⟩
theorem settleL_sound (hE : EnvOK E) {m : Nat} : ∀ (cs : List (AV E)) (b : List (Blk E)) {M : Mem} {w : World} (css : List (List Value)) {l : List (AV E)} {u : Upd E}, WR M μ b w → css.length = cs.length → (∀ i (hi : i < cs.length), RV M μ cs[i] (css.getD i [])) → (∀ x ∈ cs, OKA b x) → settleL m b cs = some (true, l, u) →
    ∃ M', Tr b.length M μ b w M' μ (upds b u) w ∧ l.length = cs.length ∧ (∀ i (hi : i < l.length), RV M' μ l[i] (css.getD i [])) ∧ ∀ x ∈ l, OKA (upds b u) x
  | [], b, M, w, css, l, u, hw, hl, hv, ok, h => by
    cases h
    exact ⟨M, Tr.refl hw _, rfl, fun i hi => by simp at hi, by simp⟩
  | a :: cs, b, M, w, [], l, u, hw, hl, hv, ok, h => by simp at hl
  | a :: cs, b, M, w, d :: css, l, u, hw, hl, hv, ok, h => by
    unfold settleL at h
    split at h
    · rename_i c1 a' u1 h1
      split at h
      · rename_i c2 l' u2 h2
        injection h with h; injection h with hc h; injection h with h3 h4
        subst h3 h4
        simp only [Bool.and_eq_true] at hc
        obtain ⟨rfl, rfl⟩ := hc
        obtain ⟨M1, k1, k2, k3, k4⟩ := settleA_sound hE a b hw (hv 0 (by simp)) (ok a (by simp)) h1
        have hlv := k1.all (Nat.le_refl _)
        obtain ⟨M2, j1, j2, j3, j4⟩ := settleL_sound hE cs (upds b u1) css k1.wr (by simpa using hl) (fun i hi => by
          have := hv (i + 1) (by simpa using hi)
          simp only [List.getElem_cons_succ, List.getD_cons_succ] at this
          exact this.tr (ok _ (by simp)) k1.le hlv) (fun x hx => (ok x (by simp [hx])).tr hlv) h2
        have hlv2 := j1.all (Nat.le_refl _)
        rw [k1.len] at j1
        refine ⟨M2, ?_, by simp [j2], ?_, ?_⟩
        · rw [upds_append]
          exact k1.trans j1
        · intro i hi
          match i, hi with
          | 0, _ => exact k2.tr k4 j1.le hlv2
          | i + 1, hi => exact j3 i (by simpa using hi)
        · intro x hx
          rw [upds_append]
          rcases List.mem_cons.1 hx with rfl | hx
          · exact k4.tr hlv2
          · exact j4 x hx
      · cases h
    · cases h
end


/-! ### A view of an array -/
theorem arr_view (hE : EnvOK E) {n g l h : Nat} {e : Ty} {v : List (E.D e)} {cs : List Value} (hr : RC (E := E) M (.arr n e) v cs) (hat : CellsAt M g 0 cs) (h1 : l ≤ h) (h2 : h ≤ n) :
    RC (E := E) M (.sl e) ((v.take h).drop l) [.slice (some (if n = l then ⟨g, 0, none⟩ else ⟨g, 0 + l * size E e, none⟩)) (h - l) (n - l)] := by
  cases hr with
  | arr _ _ css hn hl hr =>
    have hlen : ((v.take h).drop l).length = h - l := by rw [List.length_drop, List.length_take]; omega
    have := RC.sl (E := E) (M := M) ((v.take h).drop l) (some (if n = l then ⟨g, 0, none⟩ else ⟨g, 0 + l * size E e, none⟩)) (n - l) (fun i => css.getD (l + i) []) (by rw [hlen]; omega) (fun i hi => ?_) (fun i hi => ⟨_, rfl, ?_, ?_⟩) (fun h => nomatch h)
    · rw [hlen] at this
      exact this
    · have h3 := hr (l + i) (by omega)
      have e1 : ((v.take h).drop l)[i] = v[l + i]'(by omega) := by simp
      rw [e1]
      exact h3
    · split <;> rfl
    · rw [hlen] at hi
      rw [if_neg (by omega)]
      have hp := flatten_piece css (l + i) (size E e) (by omega) (fun j hj => (hr j (by omega)).len hE)
      have := hat.piece hp
      show CellsAt M g (0 + l * size E e + i * size E e) _
      rw [show 0 + l * size E e + i * size E e = 0 + (l + i) * size E e by rw [Nat.add_mul]; omega]
      exact this
theorem slcA_step (hE : EnvOK E) (hT : TOK P E tt) (hw : WR M μ b w) {t id : Nat} {ly : Ty} {lo hi : Option Int} {a : AV E} {u : Upd E} {v : Value} {vlo vhi : Option Value} (hh : slcA tt b t id ly lo hi = some (true, a, u)) (hx : RS (E := E) M μ (.ptr id ly []) v)
    (hlo : NumO lo vlo) (hhi : NumO hi vhi) {s : Sem Next} (hs : s = (do pure (.value (← Instr.sliceAt t v vlo vhi none)))) : OpStep P M μ b w s a u := by
  subst hs
  unfold slcA at hh
  split at hh
  · rename_i n e
    split at hh
    · rename_i m el ly' ty v0 htd hb
      obtain ⟨hd, h9⟩ := bif_some hh
      clear hh
      simp only [Bool.and_eq_true, decide_eq_true_eq] at hd
      obtain ⟨rfl, hty⟩ := hd
      split at h9
      · rename_i v1 hv
        injection h9 with h9; injection h9 with hok h9; injection h9 with h1 h2
        subst h1 h2
        simp only [Bool.and_eq_true, decide_eq_true_eq] at hok
        obtain ⟨⟨k1, k2⟩, k3⟩ := hok
        obtain ⟨y, hy, hu, hty2⟩ := hT.arr htd
        rw [hty] at hty2
        injection hty2 with e1 e2
        subst e1 e2
        obtain ⟨j, hj, hsz⟩ := hT.size hy
        obtain ⟨M', k4⟩ := frz_ghost (ly := .arr n y.ty) hE hw hb (v := v1) hv
        have hB := k4.wr.bw id
        have hid : id < b.length := blk_lt (by rw [hb]; simp)
        rw [show blk (upds b [(id, Blk.frz (.arr n y.ty) v1)]) id = .frz (.arr n y.ty) v1 from blk_set_self hid _] at hB
        obtain ⟨cs, c1, c2⟩ := hB
        have hv0 : v = .pointer (some ⟨(μ id).g, 0, none⟩) := by
          cases hx with
          | v hx => cases hx; rfl
        subst hv0
        have hrun := run_slice_arr hu hj (μ id).g hlo hhi (l := (lo.getD 0).toNat) (h := (hi.getD n).toNat)
          (by cases lo with
            | none => exact .inl ⟨rfl, rfl⟩
            | some k => exact .inr ⟨k, rfl, k1, rfl⟩)
          (by cases hi with
            | none => exact .inl ⟨rfl, by simp⟩
            | some k => exact .inr ⟨k, rfl, by have : (some k).getD (n : Int) = k := rfl; rw [this] at k2; omega, rfl⟩) (by omega) (by omega) w
        rw [hsz] at hrun
        refine ⟨_, w, M', μ, .inl (by simp only [Sem.run_bind, hrun, Result.andThen_ok, Sem.run_pure]; rfl), k4, ?_, .t _ _ _⟩
        exact RS.slice (arr_view hE c2 c1 (by omega) (by omega))
      · cases h9
    · cases hh
  · cases hh
end Go.Proofs.YtbmpjppfdeohnaaDoor.Fv

/-! Every operation that makes or turns blocks. -/
namespace Go.Proofs.YtbmpjppfdeohnaaDoor.Fv
variable [Quiet]
variable {E : Env} {P : Program} {tt : Nat → Option TE} {M M' : Mem} {μ μ' : Mu} {b b' : List (Blk E)} {w w' : World}

theorem partsN_get (ps : List (Nat × AV E)) : ∀ (fs : List (Nat × Nat)) (k i : Nat) (f : Nat × Nat), fs[i]? = some f → (partsN tt ps fs k)[i]? = some (match ps.lookup (k + i) with
    | some x => ca tt f.1 x
    | none => match tyOf tt f.1 with
      | .sl e => bif e.full then .exact e [] else zeroA tt 20 f.1
      | _ => zeroA tt 20 f.1)
  | [], k, i, f, h => by simp at h
  | g :: fs, k, 0, f, h => by
    simp only [List.getElem?_cons_zero, Option.some.injEq] at h
    subst h
    simp only [partsN, List.getElem?_cons_zero, Nat.add_zero]
    rfl
  | g :: fs, k, i + 1, f, h => by
    have := partsN_get ps fs (k + 1) i f (by simpa using h)
    simp only [partsN, List.getElem?_cons_succ]
    rw [this, show k + 1 + i = k + (i + 1) by omega]
theorem partsN_len (ps : List (Nat × AV E)) : ∀ (fs : List (Nat × Nat)) (k : Nat), (partsN tt ps fs k).length = fs.length
  | [], k => rfl
  | g :: fs, k => by simp [partsN, partsN_len ps fs]

theorem fit_exact {ly : Ty} {id : Nat} {e : Ty} {xs : List (E.D e)} (h : fit ly (.sl id e xs) = true) : fit ly (.exact e xs) = true := by cases ly <;> simp_all [fit]
theorem regrow_fit (hs : List (Nat × Nat)) : ∀ (cs : List (AV E)) (i : Nat), (regrow hs cs i).1.length = cs.length ∧ ∀ k (hk : k < cs.length) (hk' : k < (regrow hs cs i).1.length) ly, fit ly (regrow hs cs i).1[k] = true → fit ly cs[k] = true
  | [], i => ⟨rfl, fun k hk => by simp at hk⟩
  | c :: cs, i => by
    obtain ⟨h1, h2⟩ := regrow_fit hs cs (i + 1)
    cases hl : hs.lookup i with
    | none =>
      have he : regrow hs (c :: cs) i = (c :: (regrow hs cs (i + 1)).1, (regrow hs cs (i + 1)).2) := by simp [regrow, hl]
      rw [he]
      refine ⟨by simp [h1], fun k hk hk' ly hf => ?_⟩
      match k, hk, hk' with
      | 0, _, _ => exact hf
      | k + 1, hk, hk' => exact h2 k (by simpa using hk) (by simpa using hk') ly hf
    | some id =>
      by_cases hx : ∃ e xs, c = .exact e xs
      · obtain ⟨e, xs, rfl⟩ := hx
        have he : regrow hs (.exact e xs :: cs) i = (.sl id e xs :: (regrow hs cs (i + 1)).1, (id, .grow e xs.length) :: (regrow hs cs (i + 1)).2) := by simp [regrow, hl]
        rw [he]
        refine ⟨by simp [h1], fun k hk hk' ly hf => ?_⟩
        match k, hk, hk' with
        | 0, _, _ => exact fit_exact hf
        | k + 1, hk, hk' => exact h2 k (by simpa using hk) (by simpa using hk') ly hf
      · have he : regrow hs (c :: cs) i = (c :: (regrow hs cs (i + 1)).1, (regrow hs cs (i + 1)).2) := by
          cases c <;> first | exact absurd ⟨_, _, rfl⟩ hx | simp [regrow, hl]
        rw [he]
        refine ⟨by simp [h1], fun k hk hk' ly hf => ?_⟩
        match k, hk, hk' with
        | 0, _, _ => exact hf
        | k + 1, hk, hk' => exact h2 k (by simpa using hk) (by simpa using hk') ly hf

theorem RSL.mem_ok {l : List (AV E)} {ks : List Nat} (hok : ∀ x ∈ l, OKA b x) {i : Nat} {y : AV E} (h : (ks.zip l).lookup i = some y) : OKA b y := hok y (List.of_mem_zip (lookup_mem' _ _ _ h)).2

theorem buildN_step (hE : EnvOK E) (hz : ∀ (M : Mem) n, RC M (.nm n) (E.dfl n) (E.zc n)) (hT : TOK P E tt) (hw : WR M μ b w) {t : Nat} {ty : Ty} {fs : List (Nat × Nat)} (hx : tt t = some ⟨ty, .struct fs⟩)
    {ks : List Nat} {l : List (AV E)} {vs : List Value} (hl : RSL M μ l vs) (hok : ∀ x ∈ l, OKA b x) (hks : ks.length = l.length) {hs : List (Nat × Nat)}
    (hf : fit ty (.agg (regrow hs (partsN tt (ks.zip l) fs 0) 0).1) = true) (hfr : ((regrow hs (partsN tt (ks.zip l) fs 0) 0).2.all fun x => free b x.1) = true) (hnd : nodup ((regrow hs (partsN tt (ks.zip l) fs 0) 0).2.map (·.1)) = true)
    (hn : nodup ks = true) (hlt : ks.all (fun k => decide (k < fs.length)) = true) {s : Sem Next} (hs' : s = (do pure (.value (← Instr.build t (ks.zip vs).toArray)))) :
    OpStep P M μ b w s (.agg (regrow hs (partsN tt (ks.zip l) fs 0) 0).1) (regrow hs (partsN tt (ks.zip l) fs 0) 0).2 := by
  subst hs'
  have hd' : tdOf tt t = .struct fs := tdOf_some hx
  have hlen := partsN_len (tt := tt) (ks.zip l) fs 0
  obtain ⟨hrl, hrf⟩ := regrow_fit hs (partsN tt (ks.zip l) fs 0) 0
  have hcomp : ∀ i (hi : i < (partsN tt (ks.zip l) fs 0).length), fit (fldTyS (bodyOf E ty) i) (partsN tt (ks.zip l) fs 0)[i] = true := by
    intro i hi
    refine hrf i hi (by omega) _ ?_
    cases hty : ty with
    | nm n => rw [hty] at hf; exact (fits_comps _ _ hf).2 i (by omega)
    | _ => rw [hty] at hf; exact (fits_comps _ _ hf).2 i (by omega)
  have hnil : ∀ (f : Nat × Nat) (e : Ty), tyOf tt f.1 = .sl e → e.full = true → RV M μ (.exact e ([] : List (E.D e))) (zA (zeroA (E := E) tt 20 f.1)) := by
    intro f e he hfull
    cases hX : tt f.1 with
    | none => rw [tyOf, hX] at he; cases he
    | some X =>
      rw [tyOf_some hX] at he
      have : zeroA (E := E) tt 20 f.1 = .t X.ty (dfl E X.ty) := by simp [zeroA, hX, zeroX, he, Ty.full, hfull]
      rw [this, he]
      exact .exact e [] none (.sl [] none 0 (fun _ => []) (Nat.le_refl _) (fun i hi => by simp at hi) (fun i hi => by simp at hi) (fun _ => rfl))
  have hzero : ∀ i (hi : i < (partsN tt (ks.zip l) fs 0).length) f, fs[i]? = some f → (ks.zip l).lookup i = none → RV M μ (partsN tt (ks.zip l) fs 0)[i] (zA (zeroA (E := E) tt 20 f.1)) := by
    intro i hi f hf' hlo
    have hg := partsN_get (tt := tt) (ks.zip l) fs 0 i f hf'
    rw [Nat.zero_add, hlo, List.getElem?_eq_getElem hi] at hg
    have hg := Option.some.inj hg
    have hc := hcomp i hi
    simp only at hg
    have other : (partsN tt (ks.zip l) fs 0)[i] = zeroA tt 20 f.1 → RV M μ (partsN tt (ks.zip l) fs 0)[i] (zA (zeroA (E := E) tt 20 f.1)) := by
      intro he
      rw [he] at hc ⊢
      exact zeroA_sound (hz M) 20 f.1 _ hc
    split at hg
    · rename_i e he
      cases hfull : e.full with
      | true =>
        rw [hfull] at hg
        simp only [cond_true] at hg
        rw [hg]
        exact hnil f e he hfull
      | false => rw [hfull] at hg; exact other hg
    · exact other hg
  obtain ⟨cells, h1, h2⟩ := run_built hE (hz M) hT hx hd' hl hks hn hlt (partsN tt (ks.zip l) fs 0) (by
    intro i f hf'
    have hi : i < (partsN tt (ks.zip l) fs 0).length := by rw [hlen]; exact (List.getElem?_eq_some_iff.1 hf').1
    refine ⟨_, List.getElem?_eq_getElem hi, ?_⟩
    cases hlo : (ks.zip l).lookup i with
    | some y =>
      have hg := partsN_get (tt := tt) (ks.zip l) fs 0 i f hf'
      rw [Nat.zero_add, hlo, List.getElem?_eq_getElem hi] at hg
      exact .inl ⟨y, rfl, Option.some.inj hg⟩
    | none => exact .inr ⟨rfl, hzero i hi f hf' hlo⟩) hlen (fun i hi => ⟨fit_real (hcomp i hi), fun c hc => fit_len hE hc (hcomp i hi)⟩) w
  obtain ⟨css, g1, g2, g3⟩ := h2.agg_inv
  have hokc : ∀ k (hk : k < (partsN tt (ks.zip l) fs 0).length), OKA b (partsN tt (ks.zip l) fs 0)[k] := by
    intro k hk
    have hk' : k < fs.length := by omega
    have hg := partsN_get (tt := tt) (ks.zip l) fs 0 k fs[k] (by simp [hk'])
    rw [Nat.zero_add, List.getElem?_eq_getElem hk] at hg
    rw [Option.some.inj hg]
    split
    · rename_i y hy
      exact .ca _ (RSL.mem_ok hok hy)
    · split
      · rename_i e he
        cases e.full
        · exact .zeroA _ _
        · exact .exact _ _ _
      · exact .zeroA _ _
  obtain ⟨μ', k1, k2, k3⟩ := regrow_step (css := fun i => css.getD i []) hs (partsN tt (ks.zip l) fs 0) 0 μ b hw (fun k hk => ⟨by rw [Nat.zero_add]; exact g3 k hk, hokc k hk⟩) hfr hnd
  refine ⟨.agg cells, w, M, μ', .inl (by simp [h1]), k1, ?_, ?_⟩
  · have : RV M μ' (.agg (regrow hs (partsN tt (ks.zip l) fs 0) 0).1) cells.toList := by
      rw [g2]
      refine .agg _ css (by omega) fun i hi => ?_
      have := (k3 i hi).1
      rwa [Nat.zero_add] at this
    have := RS.v this
    simpa [mkV, AV.isAgg] using this
  · refine .agg _ fun c hc => ?_
    obtain ⟨i, hi, rfl⟩ := List.mem_iff_getElem.1 hc
    exact (k3 i hi).2

theorem str_or (hT : TOK P E tt) {u : Nat} (h : (∃ el, tdOf tt u = .slice el) ∨ tdOf tt u = .str) : ∃ d, P.underlying u = some d ∧ ((∃ e, d = .slice e) ∨ d = .string) := by
  rcases h with ⟨el, h⟩ | h
  · exact ⟨_, hT.slice' h, .inl ⟨_, rfl⟩⟩
  · exact ⟨_, hT.str h, .inr rfl⟩

theorem wA_sound (hE : EnvOK E) (hz : ∀ (M : Mem) n, RC M (.nm n) (E.dfl n) (E.zc n)) (hT : TOK P E tt) (hw : WR M μ b w) {H : Hints} {f : FuncId} {d : Nat} {ρ : Operand → Value} {o : Oper} {l : List (AV E)} {a : AV E} {u : Upd E}
    (h : wA tt H f b o.op o.type d l = some (true, a, u)) (hl : RSL M μ l (o.op.operands.toList.map ρ)) (hok : ∀ x ∈ l, OKA b x) : OpStep P M μ b w (execOp ρ o) a u := by
  generalize hop : o.op = op at h hl
  unfold wA at h
  split at h
  case h_1 v _ =>
    cases hl with
    | cons hx _ => exact movN_step hw h (by have := ca_sound (tt := tt) (t := o.type) hx; exact this) (by simp only [execOp, hop])
  case h_2 v _ =>
    cases hl with
    | cons hx _ => exact movN_step hw h (by have := ca_sound (tt := tt) (t := o.type) hx; exact this) (by simp only [execOp, hop])
  case h_3 _ id e off n =>
    split at h
    · rename_i e' xs hb
      have h0 := bif_some h
      clear h
      obtain ⟨hd, h⟩ := h0
      simp only [Bool.and_eq_true, decide_eq_true_eq] at hd
      obtain ⟨rfl, rfl⟩ := hd
      have h := Option.some.inj h
      obtain ⟨hn, h⟩ := Prod.mk.inj h
      obtain ⟨rfl, rfl⟩ := Prod.mk.inj h
      have hn := of_decide_eq_true hn
      subst hn
      cases hl with
      | cons hx _ => exact settle_move hE hw hb hx (by simp only [execOp, hop])
    · cases h
  case h_4 _ id k v =>
    cases hl with
    | cons hx _ => exact frzM_step hw h hx (by simp only [execOp, hop])
  case h_5 _ id k v =>
    cases hl with
    | cons hx _ => exact frzM_step hw h hx (by simp only [execOp, hop])
  case h_6 t => exact newM_step hw h (by simp [execOp, hop, Instr.makeMap])
  case h_7 t r x =>
    split at h
    · rename_i n hn
      cases hl with
      | cons hx _ =>
        obtain ⟨k, hv⟩ := hx.num_inv hn
        have h0 := h
        unfold newM at h0
        split at h0
        · rename_i kt vt k' v' htd hty
          obtain ⟨x0, hx0, hd0, hty0, hF0⟩ := hT.get (t := t) (by rw [htd]; simp)
          obtain ⟨um, hum, _, hD⟩ := hF0.und
          rw [htd] at hd0
          rw [← hd0] at hD
          obtain ⟨rfl, _⟩ := hD
          exact newM_step hw h (by simp [execOp, hop, Instr.makeMap, hv, run_underlying' hum, asInt, asIntOf])
        · cases h0
    · cases h
  case h_8 t y z c x key =>
    simp only [Op.operands, List.map_cons, List.map_nil] at hl
    cases hl with
    | cons hx hl => cases hl with
      | cons hk _ => exact lookM_step hE (hz M) hT hw h hx hk (by simp only [execOp, hop])
  case h_9 t y z y2 x key val =>
    simp only [Op.operands, List.map_cons, List.map_nil] at hl
    cases hl with
    | cons hx hl => cases hl with
      | cons hk hl => cases hl with
        | cons hv _ => exact putM_step hE hT hw h hx hk hv (by simp only [execOp, hop])
  case h_10 t y z y2 x key val =>
    simp only [Op.operands, List.map_cons, List.map_nil] at hl
    cases hl with
    | cons hx hl => cases hl with
      | cons hk hl => cases hl with
        | cons hv _ => exact putM_step hE hT hw h hx hk hv (by simp only [execOp, hop])
  case h_11 t => exact allocA_step hE (hz M) hT hw h hop
  case h_12 t y x =>
    obtain ⟨hc, h⟩ := bif_some h
    simp only [Bool.and_eq_true] at hc
    cases h
    cases hl with
    | cons hx _ => exact box_step hw hc.1 hc.2 (ca_sound hx) (.ca _ (hok _ (by simp))) hop rfl
  case h_13 _ t ps =>
    split at h
    · rename_i ty fs hx
      obtain ⟨hc, h⟩ := bif_some h
      simp only [Bool.and_eq_true] at hc
      obtain ⟨⟨⟨⟨h1, h2⟩, h3⟩, h4⟩, h5⟩ := hc
      cases h
      have e : ∀ (t : TypeId) (ps : Array (Nat × Operand)), (Op.build t ps).operands.toList.map ρ = ps.toList.map fun p => ρ p.2 := fun t ps => by simp [Op.operands]
      rw [e] at hl
      refine buildN_step hE hz hT hw hx hl hok ?_ h1 h2 h3 h4 h5 ?_
      · have := hl.length
        simpa using this
      · simp only [execOp, hop]
        rw [build_parts]
    · cases h
  case h_14 _ t n ps =>
    split at h
    · rename_i el e htd hty
      split at h
      · rename_i xs hxs
        obtain ⟨hc, hxs⟩ := bif_some hxs
        simp only [Bool.and_eq_true, decide_eq_true_eq] at hc
        obtain ⟨⟨h1, h2⟩, h3⟩ := hc
        have e1 : ∀ (t : TypeId) n (ps : Array (Nat × Operand)), (Op.buildSlice t n ps).operands.toList.map ρ = ps.toList.map fun p => ρ p.2 := fun t n ps => by simp [Op.operands]
        rw [e1] at hl
        have hks : (ps.toList.map (·.1)).length = l.length := by have := hl.length; simpa using this
        obtain ⟨g1, g2⟩ := buildSlice_step (d := d + 16) hE (hz M) hT hw htd hty hl hks h1 h2 h3 hxs (s := execOp ρ o) (by simp only [execOp, hop]; rw [build_parts])
        cases ha : (H.asrow f).contains d with
        | true =>
          rw [ha] at h
          obtain ⟨hf, h⟩ := bif_some (show (bif free b (d + 16) then ru _ _ else none) = _ from h)
          cases h
          exact g2 hf
        | false =>
          rw [ha] at h
          cases h
          exact g1
      · cases h
    · cases h
  case h_15 t y z a' x =>
    simp only [Op.operands, List.map_cons, List.map_nil] at hl
    cases hl with
    | cons ha hl => cases hl with
      | cons hx _ =>
        obtain ⟨w', h1, μ', h2, rfl⟩ := put_step hE hT hw h ha (ca_sound hx) (.ca _ (hok _ (by simp)))
        exact ⟨undef, w', M, μ', .inr ⟨by simp [execOp, hop, h1], rfl⟩, h2, .undef _, .undef _⟩
  case h_16 t x' lo hi mx id ly l =>
    split at h
    · rename_i lo' h' ho
      simp only [Op.operands] at hl
      have e1 : ((#[x'] ++ lo.toArray ++ hi.toArray ++ mx.toArray).toList.map ρ) = ρ x' :: (([lo, hi, mx].filterMap _root_.id).map ρ) := by
        cases lo <;> cases hi <;> cases mx <;> rfl
      rw [e1] at hl
      cases hl with
      | cons hx hl =>
        obtain ⟨_, h2⟩ := optN_sound _ _ _ _ ho hl rfl
        have hm := h2 2 (by simp) (by simp)
        have hmx : mx.map ρ = none := by
          generalize hz : mx.map ρ = z at hm
          have hm : NumO none z := by simpa [hz] using hm
          cases hm; rfl
        exact slcA_step hE hT hw h hx (vlo := lo.map ρ) (vhi := hi.map ρ) (h2 0 (by simp) (by simp)) (h2 1 (by simp) (by simp)) (by simp only [execOp, hop, hmx])
    · cases h
  case h_17 t x' lo hi mx id e off len l =>
    split at h
    · rename_i lo' h' mx' ho
      simp only [Op.operands] at hl
      have e1 : ((#[x'] ++ lo.toArray ++ hi.toArray ++ mx.toArray).toList.map ρ) = ρ x' :: (([lo, hi, mx].filterMap _root_.id).map ρ) := by
        cases lo <;> cases hi <;> cases mx <;> rfl
      rw [e1] at hl
      cases hl with
      | cons hx hl =>
        obtain ⟨_, h2⟩ := optN_sound _ _ _ _ ho hl rfl
        exact slcR_step hE hT hw h hx (h2 0 (by simp) (by simp)) rfl (h2 1 (by simp) (by simp)) (h2 2 (by simp) (by simp)) (by simp only [execOp, hop]; rfl)
    · cases h
  case h_18 t x' lo hi mx x l _ _ =>
    split at h
    · rename_i lo' hi' mx' ho
      split at h
      · rename_i c e xs hsl
        obtain ⟨hf, h⟩ := bif_some h
        injection h with h; injection h with hc h; injection h with h1 h2
        subst h1 h2
        simp only [Bool.and_eq_true, decide_eq_true_eq] at hc
        obtain ⟨rfl, hx0⟩ := hc
        have hx0 := List.eq_nil_of_length_eq_zero hx0
        subst hx0
        simp only [Op.operands] at hl
        have e1 : ((#[x'] ++ lo.toArray ++ hi.toArray ++ mx.toArray).toList.map ρ) = ρ x' :: (([lo, hi, mx].filterMap _root_.id).map ρ) := by
          cases lo <;> cases hi <;> cases mx <;> rfl
        rw [e1] at hl
        cases hl with
        | cons hx hl =>
          obtain ⟨_, h2⟩ := optN_sound _ _ _ _ ho hl rfl
          obtain ⟨v, hv, hr⟩ := slc_sound hE hT hsl (ca_sound hx) (h2 0 (by simp) (by simp)) (h2 1 (by simp) (by simp)) (h2 2 (by simp) (by simp)) w hw.holds
          replace hv : (Instr.sliceAt t (ρ x') (lo.map ρ) (hi.map ρ) (mx.map ρ)).run P w = .ok v w := hv
          obtain ⟨hd1, hd2⟩ := free_spec hf
          cases hr with
          | v hr => cases hr with
            | exact _ _ base hr =>
              refine ⟨mkV (AV.fs (E := E) (d + 16) e 0 0).isAgg [Value.slice base 0 0], w, M, upd μ (d + 16) ⟨0, fun _ => (none, 0)⟩, .inl (by simp only [execOp, hop]; simp [hv]; rfl), ?_, ?_, .plain (.inl ⟨[], blk_set_self hd1 _, by simp⟩) (by simp) (by simp) (by simp)⟩
              · refine Tr.new hw hf ⟨0, fun _ => (none, 0)⟩ _ (.refl M) hw.holds (Ext.refl w) (fun _ => .inl ⟨rfl, rfl⟩) (fun _ _ h1 h2 => absurd h1 h2) ?_ ?_
                · intro g h; simp [Exc] at h
                · intro _ ly a h; cases h
              · exact RS.v (a := .fs (d + 16) e 0 0) (RV.fs (d + 16) e 0 0 0 base (.inr ⟨rfl, by rw [upd_self]; exact Nat.le_refl _⟩) (Nat.le_refl _))
      · cases h
    · cases h
  case h_19 src dst y x =>
    cases hl with
    | cons hx _ =>
      split at h
      · rename_i s el h1 hcs h2 h3
        split at h
        · rename_i h4
          have hx' := ca_sound (tt := tt) (t := src) hx
          rw [hcs] at hx'
          obtain ⟨bs, hv, hbs⟩ := hx'.str_inv
          subst hbs
          cases ha : (H.asrow f).contains d with
          | true =>
            rw [ha] at h
            simp only [cond_true] at h
            obtain ⟨hf, h⟩ := bif_some h
            cases h
            refine s2b_row hE hw (el := el) (bs := bs) ?_ hf
            simp only [execOp, hop]
            rw [hv]
            simp [convert, run_underlying' (hT.str h1), run_underlying' (hT.slice' h2), run_underlying' (hT.int h4)]
          | false =>
            rw [ha] at h
            cases h
            refine s2b_step hE hw (el := el) (bs := bs) ?_
            simp only [execOp, hop]
            rw [hv]
            simp [convert, run_underlying' (hT.str h1), run_underlying' (hT.slice' h2), run_underlying' (hT.int h4)]
        · cases h
      · rename_i el0 id e off n el e' h1 hcs h2 h3
        split at h
        · rename_i e'' xs h4 hb
          have h0 := bif_some h
          clear h
          obtain ⟨hd, h⟩ := h0
          simp only [Bool.and_eq_true, decide_eq_true_eq] at hd
          obtain ⟨⟨⟨rfl, rfl⟩, rfl⟩, rfl⟩ := hd
          have h := Option.some.inj h
          obtain ⟨hn, h⟩ := Prod.mk.inj h
          obtain ⟨rfl, rfl⟩ := Prod.mk.inj h
          simp only [Bool.and_eq_true, decide_eq_true_eq] at hn
          have hx' := ca_sound (tt := tt) (t := src) hx
          rw [hcs] at hx'
          refine settle_row hE hw hb hx' hn.1 hn.2 ?_
          intro a len cap hv
          have hel := h2
          rw [h1] at hel
          injection hel with hel
          subst hel
          simp only [execOp, hop]
          rw [hv]
          simp [convert, run_underlying' (hT.slice' h1), run_underlying' (hT.slice' h2), run_underlying' (hT.int h4)]
          cases Sem.run P (markStringish a) w <;> rfl
        · cases h
      · cases h
  case h_20 _ g fi cs =>
    cases hmc : H.mutcap.contains g with
    | true =>
      rw [hmc] at h
      simp only [cond_true] at h
      split at h
      · rename_i ps hfi hc
        cases h
        have hfi0 : fi = #[] := Array.size_eq_zero_iff.1 hfi
        subst hfi0
        refine funp_step hw hc (vs := cs.toList.map ρ) (by simpa [Op.operands] using hl) ?_
        simp only [execOp, hop, Instr.makeFunc, Sem.run_bind, Sem.run_pure, Result.andThen_ok]
        have e2 : cs.map ρ = (cs.toList.map ρ).toArray := by apply Array.ext'; simp
        rw [← e2]
        simp
      · cases h
    | false =>
    rw [hmc] at h
    simp only [cond_false] at h
    split at h
    · rename_i l' u' hfi hc
      cases h
      have hfi0 : fi = #[] := Array.size_eq_zero_iff.1 hfi
      subst hfi0
      refine caps_step hE hw hc (vs := cs.toList.map ρ) (by simpa [Op.operands] using hl) ?_
      simp only [execOp, hop, Instr.makeFunc, Sem.run_bind, Sem.run_pure, Result.andThen_ok]
      have e2 : cs.map ρ = (cs.toList.map ρ).toArray := by apply Array.ext'; simp
      rw [← e2]
      simp
    · cases h
  case h_21 t y z x y' =>
    simp only [Op.operands, List.map_cons, List.map_nil] at hl
    cases hl with
    | cons hx hl => cases hl with
      | cons hy _ =>
        split at h
        · rename_i el htd
          exact mkSl_step hE (hz M) hT hw h ⟨el, htd⟩ hx hy (by simp only [execOp, hop])
        · cases h
  case h_22 _ c =>
    simp only [Op.operands] at hl
    split at h
    · rename_i x y hcal
      split at h
      · rename_i t u' hat
        have h0 : c.argTypes = #[t, u'] := Array.ext' hat
        obtain ⟨y1, z1, hy1⟩ := args_two (by simpa [Call.operands, hcal] using hl.length)
        have hl' : RSL M μ [x, y] [ρ y1, ρ z1] := by simpa [Call.operands, hcal, hy1] using hl
        cases hl' with
        | cons hx hl' => cases hl' with
          | cons hy _ =>
            split at h
            · rename_i el el' htd htd'
              obtain ⟨du, hu2, hd⟩ := str_or (E := E) hT (u := u') (.inl ⟨_, htd'⟩)
              refine appS_step (ty := o.type) hE hz hT hw htd hu2 hd h (ca_sound hx).unN (ca_sound hy) (.unN (.ca _ (hok _ (by simp)))) (.ca _ (hok _ (by simp))) ?_
              rw [run_builtin hop hcal, hy1, show Array.map ρ #[y1, z1] = #[ρ y1, ρ z1] by simp, h0]
              rfl
            · rename_i el htd htd'
              obtain ⟨du, hu2, hd⟩ := str_or (E := E) hT (u := u') (.inr htd')
              refine appd_step (ty := o.type) hE hz hT hw htd hu2 hd h (ca_sound hx).unN (ca_sound hy) (.unN (.ca _ (hok _ (by simp)))) (.ca _ (hok _ (by simp))) ?_
              rw [run_builtin hop hcal, hy1, show Array.map ρ #[y1, z1] = #[ρ y1, ρ z1] by simp, h0]
              rfl
            · rename_i el k htd htd'
              refine appMk_step (ty := o.type) hE (hz M) hT hw htd (hT.int htd') h hx (ca_sound hy) ?_
              rw [run_builtin hop hcal, hy1, show Array.map ρ #[y1, z1] = #[ρ y1, ρ z1] by simp, h0]
              rfl
            · cases h
      · cases h
    · rename_i x hcal
      split at h
      · rename_i t hat
        obtain ⟨y1, hy1⟩ := args_one (by simpa [Call.operands, hcal] using hl.length)
        have hl' : RSL M μ [x] [ρ y1] := by simpa [Call.operands, hcal, hy1] using hl
        have h0 : c.argTypes = #[t] := Array.ext' hat
        cases hl' with
        | cons hx _ =>
          split at h
          · rename_i kt vt k v es htd hm
            cases h
            obtain ⟨x0, hx0, hd0, hty0, hF0⟩ := hT.get (t := t) (by rw [htd]; simp)
            obtain ⟨um, hum, _, hD⟩ := hF0.und
            rw [htd] at hd0
            rw [← hd0] at hD
            obtain ⟨rfl, _⟩ := hD
            refine lenM_step hw hm hx fun a ha hn hs => ?_
            rw [run_builtin hop hcal, hy1, show Array.map ρ #[y1] = #[ρ y1] by simp, h0, ha]
            cases a with
            | none =>
              have hn := hn rfl
              simp [builtin, Builtin.len_, run_underlying' hum, goInt, hn]
            | some r =>
              obtain ⟨l', clock', hg, hsz⟩ := hs r rfl
              simp [builtin, Builtin.len_, run_underlying' hum, MapKept.run_getObj_map hg, goInt, hsz]
          · cases h
      · cases h
    · rename_i x hcal
      split at h
      · rename_i t hat
        obtain ⟨y1, hy1⟩ := args_one (by simpa [Call.operands, hcal] using hl.length)
        have hl' : RSL M μ [x] [ρ y1] := by simpa [Call.operands, hcal, hy1] using hl
        have h0 : c.argTypes = #[t] := Array.ext' hat
        cases hl' with
        | cons hx _ =>
          split at h
          · rename_i el htd
            refine clrR_step (ty := o.type) hE (hz M) hT hw htd h hx ?_
            rw [run_builtin hop hcal, hy1, show Array.map ρ #[y1] = #[ρ y1] by simp, h0]
            rfl
          · cases h
      · cases h
    · rename_i x y hcal
      split at h
      · rename_i t u' hat
        have h0 : c.argTypes = #[t, u'] := Array.ext' hat
        obtain ⟨y1, z1, hy1⟩ := args_two (by simpa [Call.operands, hcal] using hl.length)
        have hl' : RSL M μ [x, y] [ρ y1, ρ z1] := by simpa [Call.operands, hcal, hy1] using hl
        cases hl' with
        | cons hx hl' => cases hl' with
          | cons hy _ =>
            split at h
            · rename_i el htd
              refine cpy_step (u := u') (ty := o.type) hE hT hw htd h hx (ca_sound hy) (.ca _ (hok _ (by simp))) ?_
              · rw [run_builtin hop hcal, hy1, show Array.map ρ #[y1, z1] = #[ρ y1, ρ z1] by simp, h0]
                rfl
            · cases h
      · cases h
    · cases h
  case h_23 => cases h

end Go.Proofs.YtbmpjppfdeohnaaDoor.Fv

/-! What comes next doesn't change what an operation comes to. -/
namespace Go.Proofs.YtbmpjppfdeohnaaDoor.Fv
variable [Quiet]
variable {E : Env} {P : Program} {tt : Nat → Option TE} {gl : Nat → AV E} {H : Hints}

section
variable {α β : Type}
theorem backK_nat (outs b : List (Blk E)) : ∀ {α : Type} (l : List (Nat × Nat)) (k : Upd E → Option α), backK outs b l k = (backK outs b l some).bind k
  | _, [], k => rfl
  | _, (p, id) :: l, k => by
    have key : ∀ x : Nat × Blk E, backK outs b l (fun u => k (x :: u)) = (backK outs b l fun u => some (x :: u)).bind k := fun x => by
      rw [backK_nat outs b l fun u => k (x :: u), backK_nat outs b l fun u => some (x :: u), Option.bind_assoc]; rfl
    simp only [backK]
    cases blk b id with
    | var ly a =>
      cases a <;> try rfl
      simp only [Option.bind_assoc]
      congr 1; funext v
      exact key _
    | row e xs =>
      simp only
      cases castZ e id (blk outs p) with
      | true => exact key _
      | false =>
        simp only [cond_false, Option.bind_assoc]
        congr 1; funext v
        exact key _
    | grow e n =>
      simp only [Option.bind_assoc]
      congr 1; funext v
      exact key _
    | _ => rfl

/-- A result, directly. -/
def recv1 (outs b : List (Blk E)) (back : List (Nat × Nat)) (id : Nat) (sh : RSh) (a : AV E) : Option (AV E × Upd E) := recvK outs b back id sh a fun a u => some (a, u)
theorem recvK_nat (outs b : List (Blk E)) (back : List (Nat × Nat)) (id : Nat) (sh : RSh) (a : AV E) (k : AV E → Upd E → Option α) : recvK outs b back id sh a k = (recv1 outs b back id sh a).bind fun x => k x.1 x.2 := by
  unfold recv1
  cases sh with
  | t ty => simp only [recvK]; cases castT ty a <;> rfl
  | asis => simp only [recvK]; cases castE a <;> rfl
  | own e =>
    simp only [recvK]
    cases castO e a with
    | none => rfl
    | some v => simp only [Option.bind_some]; cases free b id <;> rfl
  | ownrow e =>
    simp only [recvK]
    cases castR e a with
    | none => rfl
    | some v => simp only [Option.bind_some]; cases free b id <;> rfl
  | ag l e =>
    simp only [recvK]
    cases castA l e a with
    | none => rfl
    | some v => simp only [Option.bind_some]; cases free b id <;> rfl
  | inp p e =>
    simp only [recvK]
    cases castS p e a (blk outs p) with
    | none => rfl
    | some v => simp only [Option.bind_some]; cases back.lookup p <;> rfl
  | inrow p e =>
    simp only [recvK]
    cases castW p e a (blk outs p) with
    | none => rfl
    | some v =>
      simp only [Option.bind_some]
      cases decide (v.1 ≤ v.2) with
      | false => rfl
      | true => simp only [cond_true]; cases back.lookup p <;> rfl
  | _ => rfl
def recvs1 (outs b : List (Blk E)) (back : List (Nat × Nat)) (step id : Nat) (shs : List RSh) (as : List (AV E)) : Option (List (AV E) × Upd E) := recvsK outs b back step id shs as fun a u => some (a, u)
theorem recvsK_nat (outs b : List (Blk E)) (back : List (Nat × Nat)) (step : Nat) : ∀ {α : Type} (shs : List RSh) (id : Nat) (as : List (AV E)) (k : List (AV E) → Upd E → Option α), recvsK outs b back step id shs as k = (recvs1 outs b back step id shs as).bind fun x => k x.1 x.2
  | _, [], id, as, k => rfl
  | _, sh :: shs, id, as, k => by
    have e1 : recvs1 outs b back step id (sh :: shs) as = (recv1 outs b back id sh (as.headD .undef)).bind fun x => (recvs1 outs b back step (id + step) shs as.tail).bind fun y => some (x.1 :: y.1, x.2 ++ y.2) := by
      show recvK outs b back id sh (as.headD .undef) (fun a u => recvsK outs b back step (id + step) shs as.tail fun l v => some (a :: l, u ++ v)) = _
      rw [recvK_nat]
      congr 1; funext x
      rw [recvsK_nat outs b back step shs]
    rw [e1]
    show recvK outs b back id sh (as.headD .undef) (fun a u => recvsK outs b back step (id + step) shs as.tail fun l v => k (a :: l) (u ++ v)) = _
    rw [recvK_nat, Option.bind_assoc]
    congr 1; funext x
    rw [recvsK_nat outs b back step shs, Option.bind_assoc]
    rfl
theorem recvs1_cons (outs b : List (Blk E)) (back : List (Nat × Nat)) (step id : Nat) (sh : RSh) (shs : List RSh) (as : List (AV E)) :
    recvs1 outs b back step id (sh :: shs) as = (recv1 outs b back id sh (as.headD .undef)).bind fun x => (recvs1 outs b back step (id + step) shs as.tail).bind fun y => some (x.1 :: y.1, x.2 ++ y.2) := by
  show recvK outs b back id sh (as.headD .undef) (fun a u => recvsK outs b back step (id + step) shs as.tail fun l v => some (a :: l, u ++ v)) = _
  rw [recvK_nat]
  congr 1; funext x
  rw [recvsK_nat outs b back step shs]
theorem bif_bind {γ δ : Type} (c : Bool) (x : Option γ) (f : γ → Option δ) : (bif c then x else none).bind f = bif c then x.bind f else none := by cases c <;> rfl
def recvA1 (outs b : List (Blk E)) (back : List (Nat × Nat)) (step d : Nat) (sh : RSh) (a : AV E) : Option (AV E × Upd E) := recvAll outs b back step d sh a fun a u => some (a, u)
theorem recvAll_nat (outs b : List (Blk E)) (back : List (Nat × Nat)) (step d : Nat) (sh : RSh) (a : AV E) (k : AV E → Upd E → Option α) : recvAll outs b back step d sh a k = (recvA1 outs b back step d sh a).bind fun x => k x.1 x.2 := by
  unfold recvA1 recvAll
  cases sh with
  | tup shs =>
    simp only
    rw [bif_bind, recvsK_nat, recvsK_nat outs b back step shs _ _ (fun l u => some (AV.tup l, u)), Option.bind_assoc]
    rfl
  | _ => exact recvK_nat ..
theorem recvA1_tup (outs b : List (Blk E)) (back : List (Nat × Nat)) (step d : Nat) (shs : List RSh) (a : AV E) :
    recvA1 outs b back step d (.tup shs) a = bif decide (0 < shs.length) && decide (shs.length = (asTup a).length) then (recvs1 outs b back step (d + step) shs (asTup a)).map fun x => (.tup x.1, x.2) else none := by
  show (bif decide (0 < shs.length) && decide (shs.length = (asTup a).length) then recvsK outs b back step (d + step) shs (asTup a) (fun l u => some (AV.tup l, u)) else none) = _
  rw [recvsK_nat]
  cases recvs1 outs b back step (d + step) shs (asTup a) <;> rfl

abbrev Res (E : Env) := Cl × AV E × Upd E
def call10 (tt : Nat → Option TE) (H : Hints) (call : CallF E) (b : List (Blk E)) (step : Nat) (f : FuncId) (cs : List (Cap E)) (sh : RSh) (args : List (Nat × AV E)) (d : Nat) : Option (Res E) := callK0 tt H call b step f cs sh args d fun c a u => some (c, a, u)
theorem callK0_nat (call : CallF E) (b : List (Blk E)) (step : Nat) (f : FuncId) (cs : List (Cap E)) (sh : RSh) (args : List (Nat × AV E)) (d : Nat) (k : Cl → AV E → Upd E → Option α) :
    callK0 tt H call b step f cs sh args d k = (call10 tt H call b step f cs sh args d).bind fun x => k x.1 x.2.1 x.2.2 := by
  unfold call10 callK0
  cases passL tt b (H.cons f) 0 args with
  | none => rfl
  | some x =>
    obtain ⟨as, ins, back⟩ := x
    simp only
    rw [bif_bind]
    cases nodup (back.map (·.2)) with
    | false => rfl
    | true =>
      simp only [cond_true, Option.bind_assoc]
      congr 1; funext o
      rw [recvAll_nat, recvAll_nat o.2 b back step d sh o.1 (fun a u => backK o.2 b back fun v => _), Option.bind_assoc]
      congr 1; funext x
      rw [backK_nat, backK_nat o.2 b back (fun v => bif nodup ((x.2 ++ v).map (·.1)) then some _ else none), Option.bind_assoc]
      congr 1; funext v
      rw [bif_bind]
      rfl


def call1L (tt : Nat → Option TE) (H : Hints) (call : CallF E) (b : List (Blk E)) (step : Nat) (f : FuncId) (cs : List (Cap E)) (sh : RSh) (args : List (Nat × AV E)) (d : Nat) : Option (Res E) := callKL tt H call b step f cs sh args d fun c a u => some (c, a, u)
theorem callKL_nat (call : CallF E) (b : List (Blk E)) (step : Nat) (f : FuncId) (cs : List (Cap E)) (sh : RSh) (args : List (Nat × AV E)) (d : Nat) (k : Cl → AV E → Upd E → Option α) :
    callKL tt H call b step f cs sh args d k = (call1L tt H call b step f cs sh args d).bind fun x => k x.1 x.2.1 x.2.2 := by
  unfold call1L callKL
  split
  · rw [callK0_nat]
    rfl
  · split
    · rw [bif_bind, callK0_nat, callK0_nat (k := fun c a u => bif scal a && u.isEmpty then some (lCl _, a, []) else none), Option.bind_assoc]
      congr 1
      congr 1; funext x
      rw [bif_bind]
      rfl
    · rfl
/-- A call comes in two ways. -/
theorem call1L_two {call : CallF E} {b : List (Blk E)} {step : Nat} {f : FuncId} {cs : List (Cap E)} {sh : RSh} {args : List (Nat × AV E)} {d : Nat} {cl : Cl} {a : AV E} {u : Upd E} (h : call1L tt H call b step f cs sh args d = some (cl, a, u)) :
    (H.lend f = [] ∧ call10 tt H call b step f cs sh args d = some (cl, a, u)) ∨
    (H.lend f ≠ [] ∧ ∃ args' is c0, lendL b (H.lend f) 0 args = some (true, args', is) ∧ call10 tt H call [] step f cs sh args' d = some (c0, a, []) ∧ scal a = true ∧ cl = lCl is ∧ u = []) := by
  unfold call1L callKL at h
  split at h
  · rename_i hl
    exact .inl ⟨hl, h⟩
  · rename_i hl
    refine .inr ⟨fun e => hl e, ?_⟩
    split at h
    · rename_i c args' is h1
      obtain ⟨hc, h2⟩ := bif_some h
      subst hc
      rw [callK0_nat] at h2
      obtain ⟨⟨c0, a', u'⟩, h3, h4⟩ := Option.bind_eq_some_iff.1 h2
      obtain ⟨h5, h6⟩ := bif_some h4
      simp only [Bool.and_eq_true, List.isEmpty_iff] at h5
      cases h6
      obtain ⟨h5, h7⟩ := h5
      subst h7
      exact ⟨args', is, c0, h1, h3, h5, rfl, rfl⟩
    · cases h
theorem call1L_old {call : CallF E} {b : List (Blk E)} {step : Nat} {f : FuncId} {cs : List (Cap E)} {sh : RSh} {args : List (Nat × AV E)} {d : Nat} (hl : H.lend f = []) : call1L tt H call b step f cs sh args d = call10 tt H call b step f cs sh args d := by
  unfold call1L callKL
  rw [hl]
  rfl
theorem call1L_lend {call : CallF E} {b : List (Blk E)} {step : Nat} {f : FuncId} {cs : List (Cap E)} {sh : RSh} {args args' : List (Nat × AV E)} {is : List Nat} {d : Nat} {c0 : Cl} {a : AV E} (hl : H.lend f ≠ []) (h1 : lendL b (H.lend f) 0 args = some (true, args', is))
    (h2 : call10 tt H call [] step f cs sh args' d = some (c0, a, [])) (h3 : scal a = true) : call1L tt H call b step f cs sh args d = some (lCl is, a, []) := by
  unfold call1L callKL
  split
  · rename_i e; exact absurd e hl
  · rw [h1]
    simp only [cond_true, callK0_nat, h2, Option.bind_some, h3, List.isEmpty_nil, Bool.and_self]

def callP1 (tt : Nat → Option TE) (nx : Nat) (call : CallF E) (b : List (Blk E)) (base step : Nat) (f : FuncId) (cs : List (CP E)) (sh : RSh) (args : List (Nat × AV E)) (d : Nat) : Option (Res E) := callPK tt nx call b base step f cs sh args d fun c a u => some (c, a, u)
theorem callPK_nat (nx : Nat) (call : CallF E) (b : List (Blk E)) (base step : Nat) (f : FuncId) (cs : List (CP E)) (sh : RSh) (args : List (Nat × AV E)) (d : Nat) (k : Cl → AV E → Upd E → Option α) :
    callPK tt nx call b base step f cs sh args d k = (callP1 tt nx call b base step f cs sh args d).bind fun x => k x.1 x.2.1 x.2.2 := by
  unfold callP1 callPK
  cases passPs tt (posR base (homesP b step nx args cs)) b args with
  | none => rfl
  | some as =>
    simp only
    rw [bif_bind]
    cases okPs b base args cs (homesP b step nx args cs) with
    | false => rfl
    | true =>
      simp only [cond_true, Option.bind_assoc]
      congr 1; funext o
      rw [recvAll_nat]
      conv => rhs; rw [recvAll_nat]
      rw [Option.bind_assoc]
      congr 1; funext x
      rw [Option.bind_assoc]
      congr 1; funext v
      rw [bif_bind]
      rfl
def call1 (tt : Nat → Option TE) (H : Hints) (call : CallF E) (b : List (Blk E)) (step : Nat) (f : FuncId) (cs : List (Cap E)) (sh : RSh) (args : List (Nat × AV E)) (d : Nat) : Option (Res E) := callK tt H call b step f cs sh args d fun c a u => some (c, a, u)
theorem callK_nat (call : CallF E) (b : List (Blk E)) (step : Nat) (f : FuncId) (cs : List (Cap E)) (sh : RSh) (args : List (Nat × AV E)) (d : Nat) (k : Cl → AV E → Upd E → Option α) :
    callK tt H call b step f cs sh args d k = (call1 tt H call b step f cs sh args d).bind fun x => k x.1 x.2.1 x.2.2 := by
  unfold call1 callK
  split
  · rw [callKL_nat]; rfl
  · rw [callPK_nat]; rfl
theorem call1_eq (call : CallF E) (b : List (Blk E)) (step : Nat) (f : FuncId) (cs : List (Cap E)) (sh : RSh) (args : List (Nat × AV E)) (d : Nat) : call1 tt H call b step f cs sh args d = match H.phan f with
    | 0 => call1L tt H call b step f cs sh args d
    | base + 1 => callP1 tt (H.nx f) call b (base + 1) step f (cs.map .im) sh args d := by
  unfold call1 callK
  cases H.phan f <;> rfl
theorem callP1_cl {nx : Nat} {call : CallF E} {b : List (Blk E)} {base step : Nat} {f : FuncId} {cs : List (CP E)} {sh : RSh} {args : List (Nat × AV E)} {d : Nat} {cl : Cl} {a : AV E} {u : Upd E} (h : callP1 tt nx call b base step f cs sh args d = some (cl, a, u)) : cl = .w (u.map (·.1)) := by
  unfold callP1 callPK at h
  split at h
  · obtain ⟨_, h⟩ := bif_some h
    obtain ⟨o, _, h⟩ := Option.bind_eq_some_iff.1 h
    rw [recvAll_nat] at h
    obtain ⟨x, _, h⟩ := Option.bind_eq_some_iff.1 h
    obtain ⟨v, _, h⟩ := Option.bind_eq_some_iff.1 h
    obtain ⟨_, h⟩ := bif_some h
    cases h
    rfl
  · cases h

def step10 (tt : Nat → Option TE) (gl : Nat → AV E) (H : Hints) (call : CallF E) (f : FuncId) (s : St E) (o : Oper) : Option (Res E) := stepK0 tt gl H call f s o fun c a u => some (c, a, u)
theorem stepK0_nat (call : CallF E) (f : FuncId) (s : St E) (o : Oper) (k : Cl → AV E → Upd E → Option α) : stepK0 tt gl H call f s o k = (step10 tt gl H call f s o).bind fun x => k x.1 x.2.1 x.2.2 := by
  unfold step10 stepK0
  simp only
  split
  · split
    · split
      · rw [bif_bind]; rfl
      · split
        · rw [bif_bind]; rfl
        · rfl
    · rw [bif_bind, callK_nat]
      rfl
    · rw [bif_bind, callK_nat]
      rfl
    · rfl
  · split
    · rw [bif_bind]; rfl
    · split
      · split
        · split
          · rw [bif_bind]; rfl
          · rfl
        · rfl
      · split
        · rw [bif_bind]; rfl
        · rfl
def step1 (tt : Nat → Option TE) (gl : Nat → AV E) (H : Hints) (call : CallF E) (f : FuncId) (s : St E) (o : Oper) : Option (Res E) := stepK tt gl H call f s o fun c a u => some (c, a, u)
theorem stepK_nat (call : CallF E) (f : FuncId) (s : St E) (o : Oper) (k : Cl → AV E → Upd E → Option α) : stepK tt gl H call f s o k = (step1 tt gl H call f s o).bind fun x => k x.1 x.2.1 x.2.2 := by
  unfold step1 stepK
  split
  · exact callPK_nat ..
  · exact stepK0_nat ..
theorem step1_eq (call : CallF E) (f : FuncId) (s : St E) (o : Oper) : step1 tt gl H call f s o = match funpOf o.op (o.op.operands.toList.map (evo gl s.t)) with
    | some (g, ps, args) => callP1 tt (H.nx g) call s.b (H.phan g) s.t.length g ps (H.rsh g) args (o.dst.getD 100000)
    | none => step10 tt gl H call f s o := by
  unfold step1 stepK
  cases funpOf o.op (o.op.operands.toList.map (evo gl s.t)) <;> rfl
end
end Go.Proofs.YtbmpjppfdeohnaaDoor.Fv

/-! Calls: what is handed over and what comes back. -/
namespace Go.Proofs.YtbmpjppfdeohnaaDoor.Fv
variable [Quiet]
variable {E : Env} {P : Program} {tt : Nat → Option TE} {gl : Nat → AV E} {H : Hints} {M M' : Mem} {μ μ' : Mu} {b b' : List (Blk E)} {w w' : World}

/-- A row that is handed back. -/
def RowR (M : Mem) (μ : Mu) (w : World) (e : Ty) (xs : List (E.D e)) (v : Value) (g : Option Nat) : Prop :=
  ∃ (c : Conc) (base : Option Addr) (cap : Nat), v = .slice base xs.length cap ∧ xs.length ≤ cap ∧ ((base = some ⟨c.g, 0, none⟩ ∧ cap = (c.ver 0).2) ∨ (cap = 0 ∧ (c.ver 0).2 = 0)) ∧ BW M μ w c (.row e xs) ∧ g = Exc c (.row (E := E) e xs)
def RetAg (M : Mem) (μ : Mu) (w : World) : List (AV E) → List Value → Option Nat → Prop
  | [], _, _ => False
  | x :: r, cs, g => match r with
    | [] => (match x with
      | .ownrow e xs => ∃ v, cs = [v] ∧ RowR M μ w e xs v g
      | _ => False)
    | _ :: _ => (match x with
      | .t ty d => ∃ c1 c2, cs = c1 ++ c2 ∧ RC M ty d c1 ∧ RetAg M μ w r c2 g
      | _ => False)
/-- One thing that is handed back; and the block that comes with it. -/
def Ret1 (M : Mem) (μ : Mu) (outs : List (Blk E)) (w : World) (r : AV E) (v : Value) (g : Option Nat) : Prop :=
  match r with
  | .t ty x => RS M μ (.t ty x) v ∧ g = none
  | .own e xs => ∃ c : Conc, v = .slice (c.ver xs.length).1 xs.length (c.ver xs.length).2 ∧ RC M (.sl e) xs [v] ∧ BW M μ w c (.grow (E := E) e xs.length) ∧ g = Exc c (.grow (E := E) e xs.length)
  | .ownrow e xs => RowR M μ w e xs v g
  | .agg rs => ∃ cs : List Value, v = .agg cs.toArray ∧ RetAg M μ w rs cs g
  | .sl p e xs => RS M μ (.sl p e xs) v ∧ blk outs p = .grow e xs.length ∧ g = none
  | .fs p e off len => RS M μ (.fs (E := E) p e off len) v ∧ (∃ xs, blk outs p = .row (E := E) e xs) ∧ g = none
  | .undef => g = none
  | .err c => RS (E := E) M μ (.err c) v ∧ g = none
  | _ => False
def Own (ex : Nat → Prop) (μ : Mu) (outs : List (Blk E)) (w0 : World) (g : Option Nat) : Prop := ∀ n, g = some n → (w0.heap.size ≤ n ∨ ex n) ∧ ∀ p, Exc (μ p) (blk outs p) ≠ some n
/-- The rows that were handed over and taken. -/
def Taken (μ : Mu) (ins outs : List (Blk E)) (n : Nat) : Prop := ∃ p, Exc (μ p) (blk ins p) = some n
/-- All that is handed back. -/
def RetA (ex : Nat → Prop) (M : Mem) (μ : Mu) (outs : List (Blk E)) (w0 w : World) (r : AV E) (v : Value) : Prop :=
  match r with
  | .tup l => ∃ vs : List Value, v = .tuple vs.toArray ∧ vs.length = l.length ∧ ∃ gs : Nat → Option Nat, (∀ i (hi : i < l.length), Ret1 M μ outs w l[i] (vs.getD i undef) (gs i) ∧ Own ex μ outs w0 (gs i)) ∧ ∀ i j n, i < l.length → j < l.length → gs i = some n → gs j = some n → i = j
  | r => ∃ g, Ret1 M μ outs w r v g ∧ Own ex μ outs w0 g

/-- What is known of a function that the program has. -/
def FnOK (P : Program) (f : FuncId) : Prop := ∃ fn c, P.funcs[f]? = some fn ∧ fn.name ≠ "runtime.NumGoroutine" ∧ fn.body = some c

/-- What is told of the globals. -/
def GlOK (M : Mem) (gl : Nat → AV E) : Prop := ∀ g, gl g = .undef ∨ (∃ ty v cells, gl g = .imm ty v ∧ RC M ty v cells ∧ CellsAt M g 0 cells ∧ M g cells.length = some endm) ∨ (gl g = .err false ∧ ∃ t x, M g 0 = some (.iface t x))
/-- A right evaluator of calls. -/
def CallOK (P : Program) (gl : Nat → AV E) (call : CallF E) : Prop := ∀ f as ins r outs, call f as ins = some (r, outs) → (FnOK P f ∧ ins.length ≤ 16) ∧
  ∀ M μ w (args : Array Value), GlOK M gl → WR M μ ins w → RSL M μ as args.toList → (∀ a ∈ as, OKA ins a) → Calls P f args w fun e w' => ∃ v M' μ', e = .returned v ∧ Tr ins.length M μ ins w M' μ' outs w' ∧ RetA (Taken μ ins outs) M' μ' outs w w' r v

/-! ### Handing over -/
def muC (μ : Mu) (back : List (Nat × Nat)) : Mu := fun p => match back.lookup p with
  | some id => μ id
  | none => ⟨0, fun _ => (none, 0)⟩

/-- A block that can be handed over and back. -/
def Lent : Blk E → Prop
  | .var _ (.t _ _) => True
  | .grow _ _ => True
  | .row _ _ => True
  | _ => False
theorem BW.lent {c : Conc} {x : Blk E} (h : BW M μ w c x) (hl : Lent x) (μ' : Mu) : BW M μ' w c x := by
  cases x with
  | var ly a =>
    cases a with
    | t ty v =>
      obtain ⟨cs, T, h1, h2, h3, h4⟩ := h
      cases h2 with
      | t h2 => exact ⟨cs, T, h1, .t h2, h3, h4⟩
    | _ => exact hl.elim
  | grow e n => exact h
  | row e xs => exact h
  | _ => exact hl.elim

theorem closed_rv {a : AV E} {cs : List Value} (h : RV M μ a cs) (hc : closed1 a = true) (μ' : Mu) : RV M μ' a cs := by
  cases h with
  | t h => exact .t h
  | nilp => exact .nilp
  | nilfn => exact .nilfn
  | niliface => exact .niliface
  | nilmap => exact .nilmap
  | imm b o h hat => exact .imm b o h hat
  | _ => cases hc
theorem closed_ok {a : AV E} (hc : closed1 a = true) (b : List (Blk E)) : OKA b a := by
  cases a with
  | t ty v => exact .t _ _ _
  | imm ty v => exact .imm _ _ _
  | nilp => exact .plain trivial (by simp) (by simp) (by simp)
  | nilfn => exact .plain trivial (by simp) (by simp) (by simp)
  | niliface => exact .plain trivial (by simp) (by simp) (by simp)
  | nilmap => exact .plain trivial (by simp) (by simp) (by simp)
  | _ => cases hc

structure PassOK (M : Mem) (μ : Mu) (b : List (Blk E)) (pi : Nat) (v : Value) (x : AV E) (B : Blk E) (o : Option Nat) : Prop where
  rs : ∀ μc : Mu, (∀ id, o = some id → μc pi = μ id) → RS M μc x v
  ok : ∀ ins : List (Blk E), blk ins pi = B → OKA ins x
  none : o = none → B = .none
  some : ∀ id, o = some id → B = blk b id ∧ Lent B

theorem pass1_spec (hE : EnvOK E) (hw : WR M μ b w) {cons : Bool} {pi : Nat} {ty : Ty} {a x : AV E} {B : Blk E} {o : Option Nat} {v : Value} (h : pass1 b cons pi ty a = some (x, B, o)) (ha : RS M μ a v) (ok : OKA b a) : PassOK M μ b pi v x B o := by
  unfold pass1 at h
  split at h
  case h_1 =>
    cases h
    cases ha with
    | v ha => exact ⟨fun μc _ => RS.v (closed_rv ha rfl μc), fun ins _ => .t _ _ _, fun _ => rfl, fun id h => by cases h⟩
  case h_2 =>
    cases h
    cases ha with
    | v ha => cases ha with
      | exact _ _ base h => exact ⟨fun μc _ => RS.slice h, fun ins _ => .t _ _ _, fun _ => rfl, fun id h => by cases h⟩
  case h_3 e xs =>
    cases h
    cases ha with
    | v ha => cases ha with
      | snn _ _ a cap h => exact ⟨fun μc _ => RS.slice h, fun ins _ => .t _ _ _, fun _ => rfl, fun id h => by cases h⟩
  case h_4 e =>
    cases h
    cases ha with
    | v ha => cases ha with
      | snil => exact ⟨fun μc _ => RS.v (RV.snil e), fun ins _ => .plain trivial (by simp) (by simp) (by simp), fun _ => rfl, fun id h => by cases h⟩
  case h_5 id e xs =>
    cases ha with
    | v ha => cases ha with
      | sl _ _ _ hr =>
        cases cons with
        | true =>
          simp only [cond_true] at h
          split at h
          · rename_i e' n hb
            obtain ⟨hd, h⟩ := bif_some h
            simp only [Bool.and_eq_true, decide_eq_true_eq] at hd
            obtain ⟨rfl, rfl⟩ := hd
            cases h
            refine ⟨fun μc hc => ?_, fun ins hi => .plain ⟨_, hi, Nat.le_refl _⟩ (by simp) (by simp) (by simp), fun h => (by cases h), fun id h => (by cases h; exact ⟨hb.symm, trivial⟩)⟩
            have := RV.sl (E := E) (M := M) (μ := μc) pi e' xs (by rw [hc id rfl]; exact hr)
            rw [hc id rfl] at this
            exact RS.v this
          · cases h
        | false =>
          simp only [cond_false] at h
          cases h
          exact ⟨fun μc _ => RS.slice hr, fun ins _ => .t _ _ _, fun _ => rfl, fun id h => by cases h⟩
  case h_6 cs =>
    split at h
    · rename_i y hy
      cases h
      cases ha with
      | v ha =>
        have hr := toT_sound hE ha hy
        refine ⟨fun μc _ => ?_, fun ins _ => .t _ _ _, fun _ => rfl, fun id h => by cases h⟩
        have := RS.of_t (μ := μc) hr
        rwa [toT_agg hy] at this
    · cases h
  case h_7 id ly =>
    have e0 : offTy E ly [] = 0 := by cases ly <;> rfl
    cases ha with
    | v ha =>
      cases ha
      split at h
      · rename_i ly' ty' y hb
        obtain ⟨hd, h⟩ := bif_some h
        have hd : ly' = ly := by simpa using hd
        subst hd
        cases h
        refine ⟨fun μc hc => ?_, fun ins hi => .plain (.inl ⟨_, hi⟩) (by simp) (by simp) (by simp), fun h => (by cases h), fun id h => (by cases h; exact ⟨hb.symm, trivial⟩)⟩
        have := RV.ptr (E := E) (M := M) (μ := μc) pi ly' []
        rw [hc id rfl] at this
        exact RS.v this
      · rename_i ly' y hb
        obtain ⟨hd, h9⟩ := bif_some h
        clear h
        have hd : ly' = ly := by simpa using hd
        subst hd
        cases h9
        have hB := hw.bw id
        rw [hb] at hB
        obtain ⟨cs, m1, m2⟩ := hB
        refine ⟨fun μc _ => ?_, fun ins _ => .imm _ _ _, fun _ => rfl, fun id h => by cases h⟩
        rw [e0]
        exact RS.v (RV.imm _ _ m2 m1)
      · cases h
  case h_8 =>
    cases h
    cases ha with
    | v ha => exact ⟨fun μc _ => RS.v (closed_rv ha rfl μc), fun ins _ => .imm _ _ _, fun _ => rfl, fun id h => by cases h⟩
  case h_9 id e off len =>
    split at h
    · rename_i e' xs hb
      obtain ⟨hd, h⟩ := bif_some h
      have hd : e' = e := by simpa using hd
      subst hd
      cases h
      obtain ⟨ys, h1, h2⟩ := (ok.plain' (by simp)).resolve_right (by rw [hb]; exact fun h => nomatch h)
      rw [hb] at h1
      cases h1
      cases ha with
      | v ha => cases ha with
        | fs _ _ _ _ cap base hbase hcap =>
          refine ⟨fun μc hc => ?_, fun ins hi => .plain (.inl ⟨_, hi, h2⟩) (by simp) (by simp) (by simp), fun h => (by cases h), fun id h => (by cases h; exact ⟨hb.symm, trivial⟩)⟩
          exact RS.v (RV.fs pi e' off len cap base (by rw [hc id rfl]; exact hbase) hcap)
    · cases h
  case h_10 g cs =>
    cases h
    cases ha with
    | v ha => cases ha with
      | func _ _ vs hl h => exact ⟨fun μc _ => RS.v (RV.func _ _ vs hl h), fun ins _ => .plain trivial (by simp) (by simp) (by simp), fun _ => rfl, fun id h => by cases h⟩
  case h_11 t a' =>
    obtain ⟨hd, h⟩ := bif_some h
    cases h
    cases ha with
    | v ha => cases ha with
      | iface _ _ cs v hv he => exact ⟨fun μc _ => RS.v (RV.iface _ _ cs v (closed_rv hv hd μc) he), fun ins _ => .iface _ _ (closed_ok hd ins), fun _ => rfl, fun id h => by cases h⟩
  case h_12 => cases h; cases ha with | v ha => exact ⟨fun μc _ => RS.v (closed_rv ha rfl μc), fun ins _ => closed_ok rfl ins, fun _ => rfl, fun id h => by cases h⟩
  case h_13 => cases h; cases ha with | v ha => exact ⟨fun μc _ => RS.v (closed_rv ha rfl μc), fun ins _ => closed_ok rfl ins, fun _ => rfl, fun id h => by cases h⟩
  case h_14 => cases h; cases ha with | v ha => exact ⟨fun μc _ => RS.v (closed_rv ha rfl μc), fun ins _ => closed_ok rfl ins, fun _ => rfl, fun id h => by cases h⟩
  case h_15 => cases h; cases ha with | v ha => exact ⟨fun μc _ => RS.v (closed_rv ha rfl μc), fun ins _ => closed_ok rfl ins, fun _ => rfl, fun id h => by cases h⟩
  case h_16 => cases h

structure PassLOK (M : Mem) (μ : Mu) (b : List (Blk E)) (pi n : Nat) (vs : List Value) (as : List (AV E)) (bs : List (Blk E)) (os : List (Nat × Nat)) : Prop where
  la : as.length = n
  lb : bs.length = n
  rs : ∀ μc : Mu, (∀ p id, os.lookup p = some id → μc p = μ id) → RSL M μc as vs
  ok : ∀ ins : List (Blk E), (∀ k, k < n → blk ins (pi + k) = blk bs k) → ∀ a ∈ as, OKA ins a
  key : ∀ p id, (p, id) ∈ os → os.lookup p = some id ∧ pi ≤ p ∧ p < pi + n
  blks : ∀ k, k < n → (os.lookup (pi + k) = none ∧ blk bs k = .none) ∨ ∃ id, os.lookup (pi + k) = some id ∧ blk bs k = blk b id ∧ Lent (blk b id)

theorem blk_cons_zero (x : Blk E) (l : List (Blk E)) : blk (x :: l) 0 = x := rfl
theorem blk_cons_succ (x : Blk E) (l : List (Blk E)) (k : Nat) : blk (x :: l) (k + 1) = blk l k := rfl

theorem passL_spec (hE : EnvOK E) (hw : WR M μ b w) (cons : List Nat) : ∀ (args : List (Nat × AV E)) (pi : Nat) (vs : List Value) (as : List (AV E)) (bs : List (Blk E)) (os : List (Nat × Nat)),
    passL tt b cons pi args = some (as, bs, os) → RSL M μ (args.map (·.2)) vs → (∀ x ∈ args, OKA b x.2) → PassLOK M μ b pi args.length vs as bs os
  | [], pi, vs, as, bs, os, h, hl, hok => by
    cases h
    cases hl
    exact ⟨rfl, rfl, fun _ _ => .nil, fun _ _ a h => (by simp at h), fun p id h => (by simp at h), fun k hk => (by simp at hk)⟩
  | (t, x) :: l, pi, vs, as, bs, os, h, hl, hok => by
    unfold passL at h
    split at h
    · rename_i a bb o as' bs' os' h1 h2
      cases hl with
      | cons hx hl =>
        have p1 := pass1_spec hE hw h1 (caN_sound hx) (.caN _ (hok (t, x) (by simp)))
        have p2 := passL_spec hE hw cons l (pi + 1) _ as' bs' os' h2 hl (fun x hx => hok x (List.mem_cons_of_mem _ hx))
        have hne : ∀ p id, (p, id) ∈ os' → p ≠ pi := fun p id h => by have := (p2.key p id h).2.1; omega
        have hos0 : os'.lookup pi = none := by
          rw [List.lookup_eq_none_iff]
          intro q hq
          have := hne q.1 q.2 hq
          simpa using fun e : pi = q.1 => this e.symm
        cases o with
        | none =>
          cases h
          have hbb := p1.none rfl
          subst hbb
          refine ⟨by simp [p2.la], by simp [p2.lb], fun μc hc => .cons (p1.rs μc (fun id h => by cases h)) (p2.rs μc hc), ?_, ?_, ?_⟩
          · intro ins hins a' ha'
            rcases List.mem_cons.1 ha' with rfl | ha'
            · exact p1.ok ins (by have := hins 0 (by simp); simpa [blk_cons_zero] using this)
            · exact p2.ok ins (fun k hk => by have := hins (k + 1) (by simp; omega); rw [show pi + (k + 1) = pi + 1 + k by omega] at this; exact this) a' ha'
          · intro p id hp
            have := p2.key p id hp
            exact ⟨this.1, by omega, by simp; omega⟩
          · intro k hk
            match k, hk with
            | 0, _ => exact .inl ⟨hos0, rfl⟩
            | k + 1, hk =>
              have := p2.blks k (by simpa using hk)
              rw [show pi + 1 + k = pi + (k + 1) by omega] at this
              exact this
        | some id0 =>
          cases h
          obtain ⟨hB, hL⟩ := p1.some id0 rfl
          have hlk : ∀ p, p ≠ pi → ((pi, id0) :: os').lookup p = os'.lookup p := fun p hp => by rw [List.lookup_cons, show (p == pi) = false by simpa using hp]
          refine ⟨by simp [p2.la], by simp [p2.lb], fun μc hc => .cons (p1.rs μc (fun id h => by cases h; exact hc pi id0 (by simp))) (p2.rs μc fun p id h => hc p id ?_), ?_, ?_, ?_⟩
          · rw [hlk p ?_]
            · exact h
            · rintro rfl
              rw [hos0] at h
              cases h
          · intro ins hins a' ha'
            rcases List.mem_cons.1 ha' with rfl | ha'
            · exact p1.ok ins (by have := hins 0 (by simp); simpa [blk_cons_zero] using this)
            · exact p2.ok ins (fun k hk => by have := hins (k + 1) (by simp; omega); rw [show pi + (k + 1) = pi + 1 + k by omega] at this; exact this) a' ha'
          · intro p id hp
            rcases List.mem_cons.1 hp with h | hp
            · cases h
              exact ⟨by simp, Nat.le_refl _, by simp⟩
            · have := p2.key p id hp
              exact ⟨by rw [hlk p (hne p id hp)]; exact this.1, by omega, by simp; omega⟩
          · intro k hk
            match k, hk with
            | 0, _ => exact .inr ⟨id0, by simp, hB, by rw [← hB]; exact hL⟩
            | k + 1, hk =>
              have := p2.blks k (by simpa using hk)
              rw [show pi + 1 + k = pi + (k + 1) by omega] at this
              rw [hlk _ (by omega), blk_cons_succ]
              exact this
    · cases h

/-! ### What comes back -/
theorem castT_eq {ty : Ty} {a : AV E} {v : E.D ty} (h : castT ty a = some v) : a = .t ty v := by
  unfold castT at h
  split at h
  · obtain ⟨rfl, rfl⟩ := cst_eq h; rfl
  · cases h
theorem castE_eq {a : AV E} {v : Bool} (h : castE a = some v) : a = .err v := by
  unfold castE at h
  split at h
  · cases h; rfl
  · cases h
theorem castO_eq {e : Ty} {a : AV E} {v : List (E.D e)} (h : castO e a = some v) : a = .own e v := by
  cases a with
  | own e' v' =>
    obtain ⟨he, h'⟩ := cst_eq (a := .sl e') (b := .sl e) h
    clear h
    injection he with he'
    subst he'
    rw [h']
  | _ => cases h
theorem castR_eq {e : Ty} {a : AV E} {v : List (E.D e)} (h : castR e a = some v) : a = .ownrow e v := by
  cases a with
  | ownrow e' v' =>
    obtain ⟨he, h'⟩ := cst_eq (a := .sl e') (b := .sl e) h
    clear h
    injection he with he'
    subst he'
    rw [h']
  | _ => cases h
theorem castAg_eq {e : Ty} : ∀ {l : List Ty} {cs : List (AV E)} {x : AD E l e}, castAg l e cs = some x → cs = wag l e x
  | [], [c], x, h => by
    have h : castR e c = some x := h
    rw [castR_eq h]
    rfl
  | [], [], x, h => by cases h
  | [], _ :: _ :: _, x, h => by cases h
  | a :: l, [], x, h => by cases h
  | a :: l, c :: r, x, h => by
    have h : ((castT a c).bind fun x => (castAg l e r).map fun y => (x, y)) = some x := h
    obtain ⟨y, h1, h2⟩ := Option.bind_eq_some_iff.1 h
    obtain ⟨z, h3, h4⟩ := Option.map_eq_some_iff.1 h2
    subst h4
    rw [castT_eq h1, castAg_eq h3]
    rfl
theorem castA_eq {l : List Ty} {e : Ty} {a : AV E} {x : AD E l e} (h : castA l e a = some x) : a = .agg (wag l e x) := by
  unfold castA at h
  split at h
  · rw [castAg_eq h]
  · cases h
theorem wag_cons (e : Ty) : ∀ (l : List Ty) (x : AD E l e), ∃ y r, wag l e x = y :: r
  | [], x => ⟨_, _, rfl⟩
  | a :: l, x => ⟨_, _, rfl⟩
theorem RetAg.pair {M : Mem} {μ : Mu} {w : World} {a e : Ty} {d : E.D a} {l : List Ty} {x : AD E l e} {cs : List Value} {g : Option Nat} (h : RetAg M μ w (.t a d :: wag l e x) cs g) : ∃ c1 c2, cs = c1 ++ c2 ∧ RC M a d c1 ∧ RetAg M μ w (wag l e x) c2 g := by
  obtain ⟨y, r, hy⟩ := wag_cons e l x
  rw [hy] at h ⊢
  exact h
/-- A struct that was handed back, with its row at a home. -/
theorem ag_recv {M : Mem} {μ0 : Mu} {w : World} {e : Ty} {g : Option Nat} : ∀ {l : List Ty} {x : AD E l e} {cs : List Value}, RetAg M μ0 w (wag l e x) cs g →
    ∃ c : Conc, (∀ μ, BW M μ w c (.row e (rowAg l e x))) ∧ g = Exc c (.row (E := E) e (rowAg l e x)) ∧ ∀ (μ : Mu) (b' : List (Blk E)) (id : Nat), μ id = c → blk b' id = .row e (rowAg l e x) →
      ∃ css : List (List Value), css.length = (rag id l e x).length ∧ cs = css.flatten ∧ ∀ i (hi : i < (rag id l e x).length), RV M μ (rag id l e x)[i] (css.getD i []) ∧ OKA b' (rag id l e x)[i]
  | [], x, cs, h => by
    obtain ⟨v, rfl, c, base, cap, rfl, hcap, hbase, h3, rfl⟩ := h
    refine ⟨c, fun _ => h3, rfl, fun μ b' id h5 h6 => ⟨[[.slice base (List.length (α := E.D e) x) cap]], rfl, rfl, fun i hi => ?_⟩⟩
    have hi0 : i = 0 := by simpa [rag] using hi
    subst hi0
    refine ⟨.fs id e 0 (List.length (α := E.D e) x) cap base ?_ hcap, .plain (a := .fs id e 0 (List.length (α := E.D e) x)) (.inl ⟨_, h6, by simp [rowAg]⟩) (by simp) (by simp) (by simp)⟩
    rw [h5, Nat.zero_mul, Nat.zero_add]
    simpa using hbase
  | a :: l, x, cs, h => by
    obtain ⟨c1, c2, rfl, h1, h2⟩ := RetAg.pair (d := x.1) (x := x.2) h
    obtain ⟨c, k1, k2, k3⟩ := ag_recv h2
    refine ⟨c, k1, k2, fun μ b' id h5 h6 => ?_⟩
    obtain ⟨css, j1, j2, j3⟩ := k3 μ b' id h5 h6
    refine ⟨c1 :: css, by simp [rag, j1], by simp [j2], fun i hi => ?_⟩
    match i, hi with
    | 0, _ => exact ⟨.t h1, .t _ _ _⟩
    | i + 1, hi => exact j3 i (by simpa [rag] using hi)
theorem castS_eq {p : Nat} {e : Ty} {a : AV E} {x : Blk E} {v : List (E.D e)} (h : castS p e a x = some v) : a = .sl p e v ∧ x = .grow e v.length := by
  unfold castS at h
  split at h
  · rename_i p' e' v' a' n
    obtain ⟨hd, k⟩ := bif_some h
    clear h
    simp only [Bool.and_eq_true, decide_eq_true_eq] at hd
    obtain ⟨⟨rfl, rfl⟩, rfl⟩ := hd
    obtain ⟨he, h'⟩ := cst_eq (a := .sl a') (b := .sl e) k
    clear k
    injection he with he'
    subst he'
    rw [h']
    exact ⟨rfl, rfl⟩
  · cases h
theorem castV_eq {ly ty : Ty} {x : Blk E} {v : E.D ty} (h : castV ly ty x = some v) : x = .var ly (.t ty v) := by
  unfold castV at h
  split at h
  · obtain ⟨hd, k⟩ := bif_some h
    clear h
    have hd := of_decide_eq_true hd
    subst hd
    obtain ⟨rfl, rfl⟩ := cst_eq k
    rfl
  · cases h
theorem castRow_eq {e : Ty} {x : Blk E} {v : List (E.D e)} (h : castRow e x = some v) : x = .row e v := by
  cases x with
  | row e' v' =>
    obtain ⟨he, h'⟩ := cst_eq (a := .sl e') (b := .sl e) h
    clear h
    injection he with he'
    subst he'
    rw [h']
  | _ => cases h
theorem castG_eq {e : Ty} {x : Blk E} {n : Nat} (h : castG e x = some n) : x = .grow e n := by
  unfold castG at h
  split at h
  · obtain ⟨hd, k⟩ := bif_some h
    clear h
    have hd := of_decide_eq_true hd
    subst hd
    cases k
    rfl
  · cases h

/-- What came back: a block that can be handed over, or the end of a row that was taken. -/
def LentZ (id : Nat) (x : Blk E) : Prop := Lent x ∨ ∃ e, x = .rowz e
theorem castZ_eq {e : Ty} {id : Nat} {x : Blk E} (h : castZ e id x = true) : x = .rowz e := by
  unfold castZ at h
  split at h
  · rw [of_decide_eq_true h]
  · cases h
theorem backK_spec (outs b : List (Blk E)) : ∀ (l : List (Nat × Nat)) (v : Upd E), backK outs b l some = some v → v = l.map (fun q => (q.2, blk outs q.1)) ∧ ∀ q ∈ l, LentZ q.2 (blk outs q.1)
  | [], v, h => by
    have h : some ([] : Upd E) = some v := h
    cases h
    exact ⟨rfl, fun q hq => by simp at hq⟩
  | (p, id) :: l, v, h => by
    have step : ∀ x : Blk E, blk outs p = x → LentZ id x → backK outs b l (fun u => some ((id, x) :: u)) = some v → v = ((p, id) :: l).map (fun q => (q.2, blk outs q.1)) ∧ ∀ q ∈ (p, id) :: l, LentZ q.2 (blk outs q.1) := by
      intro x hx hL hk
      rw [backK_nat] at hk
      obtain ⟨u, hu, hk⟩ := Option.bind_eq_some_iff.1 hk
      cases hk
      obtain ⟨h1, h2⟩ := backK_spec outs b l u hu
      refine ⟨by simp [h1, hx], ?_⟩
      intro q hq
      rcases List.mem_cons.1 hq with rfl | hq
      · rw [hx]; exact hL
      · exact h2 q hq
    simp only [backK] at h
    split at h
    · obtain ⟨y, hy, h⟩ := Option.bind_eq_some_iff.1 h
      exact step _ (castV_eq hy) (.inl trivial) h
    · cases hz : castZ _ id (blk outs p) with
      | true => rw [hz] at h; exact step _ (castZ_eq hz) (.inr ⟨_, rfl⟩) h
      | false =>
        rw [hz] at h
        obtain ⟨y, hy, h⟩ := Option.bind_eq_some_iff.1 h
        exact step _ (castRow_eq hy) (.inl trivial) h
    · obtain ⟨y, hy, h⟩ := Option.bind_eq_some_iff.1 h
      exact step _ (castG_eq hy) (.inl trivial) h
    · cases h

/-- A new home for what was handed back. -/
structure Home (E : Env) where
  id : Nat
  c : Conc
  x : Blk E

/-- The same block; of a variable nothing is told. -/
def SameB (x y : Blk E) : Prop := x = y ∨ ∃ ly a, y = .var ly a
/-- What a received value needs of its homes. -/
structure RecvOK (M : Mem) (w : World) (b outs : List (Blk E)) (back : List (Nat × Nat)) (μo : Mu) (v : Value) (g : Option Nat) (id : Nat) (a : AV E) (u : Upd E) (hs : List (Home E)) : Prop where
  slot : ∀ h ∈ hs, h.id = id
  u : u = hs.map fun h => (h.id, h.x)
  home : ∀ h ∈ hs, free b h.id = true ∧ (∀ μ, BW M μ w h.c h.x) ∧ (∀ n, Exc h.c h.x = some n → g = some n) ∧ ∀ ly a, h.x ≠ .var ly a
  one : hs.length ≤ 1
  rv : ∀ (μ : Mu) (b' : List (Blk E)), (∀ h ∈ hs, μ h.id = h.c ∧ blk b' h.id = h.x) → (∀ p id, back.lookup p = some id → μ id = μo p ∧ SameB (blk b' id) (blk outs p)) → (a = .undef ∨ ∃ cs, RV M μ a cs ∧ v = mkV a.isAgg cs) ∧ OKA b' a

theorem castW_eq {p : Nat} {e : Ty} {a : AV E} {x : Blk E} {r : Nat × Nat} (h : castW p e a x = some r) : a = .fs p e 0 r.1 ∧ ∃ xs, x = .row e xs ∧ r.2 = xs.length := by
  unfold castW at h
  split at h
  · rename_i p' e' len e'' xs
    obtain ⟨hd, h9⟩ := bif_some h
    simp only [Bool.and_eq_true, decide_eq_true_eq] at hd
    obtain ⟨⟨h1, rfl⟩, rfl⟩ := hd
    have h1 := Nat.eq_of_beq_eq_true h1
    subst h1
    cases h9
    exact ⟨rfl, xs, rfl, rfl⟩
  · cases h
theorem recv1_spec {outs : List (Blk E)} {back : List (Nat × Nat)} {μo : Mu} {id : Nat} {sh : RSh} {r a : AV E} {u : Upd E} {v : Value} {g : Option Nat} (h : recv1 outs b back id sh r = some (a, u)) (hr : Ret1 M μo outs w r v g) :
    ∃ hs, RecvOK M w b outs back μo v g id a u hs := by
  unfold recv1 at h
  cases sh with
  | t ty =>
    simp only [recvK] at h
    obtain ⟨y, hy, k⟩ := Option.bind_eq_some_iff.1 h
    clear h
    cases k
    have := castT_eq hy
    subst this
    obtain ⟨h1, _⟩ := hr
    refine ⟨[], ⟨fun h hh => by simp at hh, rfl, fun h hh => by simp at hh, by simp, fun μ b' _ _ => ⟨.inr ?_, .t _ _ _⟩⟩⟩
    cases h1 with
    | v h1 => cases h1 with
      | t h1 => exact ⟨_, .t h1, rfl⟩
  | own e =>
    simp only [recvK] at h
    obtain ⟨y, hy, k⟩ := Option.bind_eq_some_iff.1 h
    clear h
    have := castO_eq hy
    subst this
    obtain ⟨c, rfl, h2, h3, rfl⟩ := hr
    cases hf : free b id with
    | true =>
      rw [hf] at k
      cases k
      refine ⟨[⟨id, c, .grow e y.length⟩], ⟨by simp, rfl, ?_, by simp, ?_⟩⟩
      · intro h hh
        simp only [List.mem_singleton] at hh
        subst hh
        exact ⟨hf, fun _ => h3, fun n hn => hn, fun ly a h => by cases h⟩
      · intro μ b' h4 _
        obtain ⟨h5, h6⟩ := h4 _ (List.mem_singleton.2 rfl)
        simp only at h5 h6
        refine ⟨.inr ⟨[.slice ((μ id).ver y.length).1 y.length ((μ id).ver y.length).2], .sl id e y ?_, ?_⟩, .plain ⟨_, h6, Nat.le_refl _⟩ (by simp) (by simp) (by simp)⟩
        · rw [h5]; exact h2
        · rw [h5]; rfl
    | false =>
      rw [hf] at k
      cases k
      refine ⟨[], ⟨fun h hh => by simp at hh, rfl, fun h hh => by simp at hh, by simp, fun μ b' _ _ => ⟨.inr ⟨_, .t h2, rfl⟩, .t _ _ _⟩⟩⟩
  | ownrow e =>
    simp only [recvK] at h
    obtain ⟨y, hy, k⟩ := Option.bind_eq_some_iff.1 h
    clear h
    have := castR_eq hy
    subst this
    obtain ⟨c, base, cap, rfl, hcap, hbase, h3, rfl⟩ := hr
    obtain ⟨hf, k'⟩ := bif_some k
    clear k
    cases k'
    refine ⟨[⟨id, c, .row e y⟩], ⟨by simp, rfl, ?_, by simp, ?_⟩⟩
    · intro h hh
      simp only [List.mem_singleton] at hh
      subst hh
      exact ⟨hf, fun _ => h3, fun n hn => hn, fun ly a h => by cases h⟩
    · intro μ b' h4 _
      obtain ⟨h5, h6⟩ := h4 _ (List.mem_singleton.2 rfl)
      simp only at h5 h6
      refine ⟨.inr ⟨_, .fs id e 0 y.length cap base ?_ hcap, rfl⟩, .plain (.inl ⟨_, h6, by omega⟩) (by simp) (by simp) (by simp)⟩
      rw [h5, Nat.zero_mul, Nat.zero_add]
      simpa using hbase
  | ag l e =>
    simp only [recvK] at h
    obtain ⟨y, hy, k⟩ := Option.bind_eq_some_iff.1 h
    clear h
    have := castA_eq hy
    subst this
    obtain ⟨cs, rfl, hag⟩ := hr
    obtain ⟨c, k1, rfl, k3⟩ := ag_recv hag
    obtain ⟨hf, k'⟩ := bif_some k
    clear k
    cases k'
    refine ⟨[⟨id, c, .row e (rowAg l e y)⟩], ⟨by simp, rfl, ?_, by simp, ?_⟩⟩
    · intro h hh
      simp only [List.mem_singleton] at hh
      subst hh
      exact ⟨hf, k1, fun n hn => hn, fun ly a h => by cases h⟩
    · intro μ b' h4 _
      obtain ⟨h5, h6⟩ := h4 _ (List.mem_singleton.2 rfl)
      simp only at h5 h6
      obtain ⟨css, j1, j2, j3⟩ := k3 μ b' id h5 h6
      refine ⟨.inr ⟨css.flatten, .agg _ css (by omega) fun i hi => (j3 i hi).1, by rw [j2]; rfl⟩, .agg _ fun z hz => ?_⟩
      obtain ⟨i, hi, rfl⟩ := List.mem_iff_getElem.1 hz
      exact (j3 i hi).2
  | inp p e =>
    simp only [recvK] at h
    obtain ⟨y, hy, k⟩ := Option.bind_eq_some_iff.1 h
    clear h
    obtain ⟨h1, h2⟩ := castS_eq hy
    subst h1
    obtain ⟨h3, _, _⟩ := hr
    split at k
    · rename_i id' hlk
      cases k
      refine ⟨[], ⟨fun h hh => by simp at hh, rfl, fun h hh => by simp at hh, by simp, fun μ b' _ h5 => ?_⟩⟩
      obtain ⟨h6, h7⟩ := h5 p id' hlk
      have h7 := h7.resolve_right (by rintro ⟨_, _, h⟩; rw [h2] at h; cases h)
      cases h3 with
      | v h3 => cases h3 with
        | sl _ _ _ hrc =>
          refine ⟨.inr ⟨[.slice ((μ id').ver y.length).1 y.length ((μ id').ver y.length).2], .sl id' e y ?_, ?_⟩, .plain ⟨_, by rw [h7]; exact h2, Nat.le_refl _⟩ (by simp) (by simp) (by simp)⟩
          · rw [h6]; exact hrc
          · rw [h6]; rfl
    · cases k
  | inrow p e =>
    simp only [recvK] at h
    obtain ⟨y, hy, k⟩ := Option.bind_eq_some_iff.1 h
    clear h
    obtain ⟨rfl, xs, h2, h8⟩ := castW_eq hy
    obtain ⟨h3, _, _⟩ := hr
    obtain ⟨hle, k'⟩ := bif_some k
    have hle := of_decide_eq_true hle
    split at k'
    · rename_i id' hlk
      cases k'
      refine ⟨[], ⟨fun h hh => by simp at hh, rfl, fun h hh => by simp at hh, by simp, fun μ b' _ h5 => ?_⟩⟩
      obtain ⟨h6, h7⟩ := h5 p id' hlk
      have h7 := h7.resolve_right (by rintro ⟨_, _, h⟩; rw [h2] at h; cases h)
      cases h3 with
      | v h3 => cases h3 with
        | fs _ _ _ _ cap base hbase hcap =>
          refine ⟨.inr ⟨_, .fs id' e 0 y.1 cap base ?_ hcap, rfl⟩, .plain (.inl ⟨xs, by rw [h7]; exact h2, by omega⟩) (by simp) (by simp) (by simp)⟩
          rw [h6]
          exact hbase
    · cases k'
  | unit =>
    cases h
    exact ⟨[], ⟨fun h hh => by simp at hh, rfl, fun h hh => by simp at hh, by simp, fun μ b' _ _ => ⟨.inl rfl, .undef _⟩⟩⟩
  | asis =>
    simp only [recvK] at h
    obtain ⟨y, hy, k⟩ := Option.bind_eq_some_iff.1 h
    clear h
    cases k
    have := castE_eq hy
    subst this
    obtain ⟨h1, _⟩ := hr
    refine ⟨[], ⟨fun h hh => by simp at hh, rfl, fun h hh => by simp at hh, by simp, fun μ b' _ _ => ⟨.inr ?_, .plain trivial (by simp) (by simp) (by simp)⟩⟩⟩
    cases h1 with
    | v h1 => cases h1 with
      | errn => exact ⟨_, .errn, rfl⟩
      | errs t x => exact ⟨_, .errs t x, rfl⟩
  | _ => cases h
end Go.Proofs.YtbmpjppfdeohnaaDoor.Fv
