/- An evaluator of the model's code, part 7: Functions of plain data that are taken by a contract. Under these contracts. No condition. -/
import Derived.Test.YtbmpjppfdeohnaaDoorFvF
import Derived.Lib.LaidTab
import Derived.Lib.ItoaNum
import Derived.Sort.Grow
import Derived.Deep.Draws
import Derived.Below
import Derived.Lib.Strings
import Derived.Lib.Bytealg
import Derived.Lib.Repeat
set_option linter.unusedVariables false
set_option linter.unusedSectionVars false
set_option linter.unusedSimpArgs false
/-! Functions of plain data that are taken by a contract. Under these contracts. -/
namespace Go.Proofs.YtbmpjppfdeohnaaDoor.Fv
variable [Quiet]
variable {E : Env} {P : Program} {gl : Nat → AV E}

theorem Ext.grow (w : World) (k : Nat) (os : Array Obj) : Ext w (Go.Sort.grow (w.drewN k) os) := by
  refine ⟨?_, ?_, rfl, ⟨rfl, ?_⟩, rfl⟩
  · show w.heap.size ≤ (w.heap ++ os).size
    simp
  · intro g hg
    show (w.heap ++ os)[g]? = w.heap[g]?
    exact Array.getElem?_append_left hg
  · intro _
    show w.drawn ≤ w.drawn + k
    omega
theorem Ext.below (hq : ¬ Quiet.q) {w w' : World} (h : Go.RowKit.Below w.heap.size w w') : Ext w w' := by
  obtain ⟨h1, h2, h3, h4, h5⟩ := h
  exact ⟨h4, fun g hg => h5 g hg, h1, ⟨h2, fun q => absurd q hq⟩, h3⟩

/-- Data of these types. -/
abbrev DT (E : Env) (ps : List Ty) : Type := PDs E (ps.map PK.t)
/-- A function of data: where F answers, it returns that, and all memory that was there stays. -/
def PlainC (P : Program) (gl : Nat → AV E) (g : FuncId) (ps : List Ty) (ty : Ty) (F : DT E ps → Option (E.D ty)) : Prop :=
  ∀ (M : Mem) (μ : Mu) (w : World) (x : DT E ps) (r : E.D ty) (args : Array Value), F x = some r → GlOK M gl → Holds M w → RSL M μ (encs 0 (ps.map PK.t) x) args.toList →
    Calls P g args w fun e w' => ∃ v M', e = .returned v ∧ Ext w w' ∧ M.le M' ∧ Holds M' w' ∧ (∀ b o, M b o = none → M' b o ≠ none → w.heap.size ≤ b) ∧ RS M' μ (.t ty r : AV E) v
def moreP (g : FuncId) (ps : List Ty) (ty : Ty) (F : DT E ps → Option (E.D ty)) (prev : Call2 E) : Call2 E := fun f aa ins => bif Nat.beq f g then (match decs 0 (ps.map PK.t) aa ins with
  | some x => some ⟨E.D ty, F x, fun r => (.t ty r, ps.map fun _ => .none)⟩
  | none => prev f aa ins) else prev f aa ins

theorem encBs_t : ∀ (ps : List Ty) (x : DT E ps), encBs (ps.map PK.t) x = ps.map fun _ => (.none : Blk E)
  | [], _ => rfl
  | p :: ps, x => congrArg (Blk.none :: ·) (encBs_t ps x.2)
theorem blk_nones (ps : List Ty) (i : Nat) : blk (ps.map fun _ => (.none : Blk E)) i = .none := by
  simp only [blk, List.getD_eq_getElem?_getD, List.getElem?_map]
  cases ps[i]? <;> rfl
/-- What a call hands back that was handed no block. -/
theorem plain_ret {M M' : Mem} {μ : Mu} {w w' : World} {ins : List (Blk E)} {ty : Ty} {x : E.D ty} {v : Value} {ex : Nat → Prop} (hw : WR M μ ins w) (hx : Ext w w') (hle : M.le M') (hh : Holds M' w') (hf : ∀ b o, M b o = none → M' b o ≠ none → w.heap.size ≤ b) (hn : ∀ i, blk ins i = .none) (hv : RS M' μ (.t ty x : AV E) v) :
    ∃ v0 M' μ', Ending.returned v = .returned v0 ∧ Tr ins.length M μ ins w M' μ' ins w' ∧ RetA ex M' μ' ins w w' (.t ty x : AV E) v0 := by
  have he : ∀ i, Exc (μ i) (blk ins i) = none := fun i => by rw [hn i]; rfl
  refine ⟨v, M', μ, rfl, ⟨hle, ?_, ⟨hh, ?_, ?_, ?_⟩, rfl, hx.size, ?_, fun g o h1 h2 => .inl (hf g o h1 h2), ?_, hx.os, hx.tape, hx.output⟩, none, ⟨hv, rfl⟩, fun n h => by cases h⟩
  · intro i _
    rw [hn i]; trivial
  · intro i
    rw [hn i]; trivial
  · intro i j g h
    rw [he i] at h; cases h
  · intro i ly a h
    rw [hn i] at h; cases h
  · intro g hg _
    exact hx.old g hg
  · intro i g h
    rw [he i] at h; cases h
theorem moreP_ok {prev : Call2 E} (ok : CallOK P gl (callR prev)) {g : FuncId} {ps : List Ty} {ty : Ty} {F : DT E ps → Option (E.D ty)} (h16 : Nat.ble ps.length 16 = true) (hfn : FnOK P g) (sc : PlainC P gl g ps ty F) : CallOK P gl (callR (moreP g ps ty F prev)) := by
  intro f aa ins r outs h
  by_cases hf : f = g
  · subst hf
    unfold callR moreP at h
    rw [show Nat.beq f f = true from Nat.beq_refl f] at h
    simp only [cond_true] at h
    cases hd : decs 0 (ps.map PK.t) aa ins with
    | none =>
      rw [hd] at h
      exact ok f aa ins r outs h
    | some x =>
      rw [hd] at h
      obtain ⟨y, hy, h2⟩ := Option.map_eq_some_iff.1 h
      obtain ⟨e1, e2⟩ := decs_spec hd
      rw [encBs_t] at e2
      subst e1 e2
      cases h2
      refine ⟨⟨hfn, by rw [List.length_map]; exact Nat.le_of_ble_eq_true h16⟩, fun M μ w args hgl hw hl hok => ?_⟩
      refine Calls.mono (sc M μ w x y args hy hgl hw.holds hl) ?_
      rintro e w' ⟨v, M', rfl, h1, h2, h3, h4, h5⟩
      exact plain_ret hw h1 h2 h3 h4 (blk_nones ps) h5
  · refine ok f aa ins r outs ?_
    rw [← h]
    unfold callR moreP
    have : Nat.beq f g = false := by
      cases hb : Nat.beq f g with
      | false => rfl
      | true => exact absurd (Nat.eq_of_beq_eq_true hb) hf
    rw [this]
    rfl

/-- A function of data that answers with a second thing, which nobody looks at. -/
def PlainT (P : Program) (gl : Nat → AV E) (g : FuncId) (ps : List Ty) (ty : Ty) (F : DT E ps → Option (E.D ty)) : Prop :=
  ∀ (M : Mem) (μ : Mu) (w : World) (x : DT E ps) (r : E.D ty) (args : Array Value), F x = some r → GlOK M gl → Holds M w → RSL M μ (encs 0 (ps.map PK.t) x) args.toList →
    Calls P g args w fun e w' => ∃ v u M', e = .returned (.tuple #[v, u]) ∧ Ext w w' ∧ M.le M' ∧ Holds M' w' ∧ (∀ b o, M b o = none → M' b o ≠ none → w.heap.size ≤ b) ∧ RS M' μ (.t ty r : AV E) v
def moreT (g : FuncId) (ps : List Ty) (ty : Ty) (F : DT E ps → Option (E.D ty)) (prev : Call2 E) : Call2 E := fun f aa ins => bif Nat.beq f g then (match decs 0 (ps.map PK.t) aa ins with
  | some x => some ⟨E.D ty, F x, fun r => (.tup [.t ty r, .undef], ps.map fun _ => .none)⟩
  | none => prev f aa ins) else prev f aa ins
theorem plain_retT {M M' : Mem} {μ : Mu} {w w' : World} {ins : List (Blk E)} {ty : Ty} {x : E.D ty} {v u : Value} {ex : Nat → Prop} (hw : WR M μ ins w) (hx : Ext w w') (hle : M.le M') (hh : Holds M' w') (hf : ∀ b o, M b o = none → M' b o ≠ none → w.heap.size ≤ b) (hn : ∀ i, blk ins i = .none) (hv : RS M' μ (.t ty x : AV E) v) :
    ∃ v0 M' μ', Ending.returned (.tuple #[v, u]) = .returned v0 ∧ Tr ins.length M μ ins w M' μ' ins w' ∧ RetA ex M' μ' ins w w' (.tup [.t ty x, .undef] : AV E) v0 := by
  have he : ∀ i, Exc (μ i) (blk ins i) = none := fun i => by rw [hn i]; rfl
  refine ⟨.tuple #[v, u], M', μ, rfl, ⟨hle, ?_, ⟨hh, ?_, ?_, ?_⟩, rfl, hx.size, ?_, fun g o h1 h2 => .inl (hf g o h1 h2), ?_, hx.os, hx.tape, hx.output⟩, [v, u], rfl, rfl, fun _ => none, fun i hi => ?_, fun i j n hi hj h => by cases h⟩
  · intro i _
    rw [hn i]; trivial
  · intro i
    rw [hn i]; trivial
  · intro i j g h
    rw [he i] at h; cases h
  · intro i ly a h
    rw [hn i] at h; cases h
  · intro g hg _
    exact hx.old g hg
  · intro i g h
    rw [he i] at h; cases h
  · refine ⟨?_, fun n h => by cases h⟩
    match i, hi with
    | 0, _ => exact ⟨hv, rfl⟩
    | 1, _ => exact rfl
theorem moreT_ok {prev : Call2 E} (ok : CallOK P gl (callR prev)) {g : FuncId} {ps : List Ty} {ty : Ty} {F : DT E ps → Option (E.D ty)} (h16 : Nat.ble ps.length 16 = true) (hfn : FnOK P g) (sc : PlainT P gl g ps ty F) : CallOK P gl (callR (moreT g ps ty F prev)) := by
  intro f aa ins r outs h
  by_cases hf : f = g
  · subst hf
    unfold callR moreT at h
    rw [show Nat.beq f f = true from Nat.beq_refl f] at h
    simp only [cond_true] at h
    cases hd : decs 0 (ps.map PK.t) aa ins with
    | none =>
      rw [hd] at h
      exact ok f aa ins r outs h
    | some x =>
      rw [hd] at h
      obtain ⟨y, hy, h2⟩ := Option.map_eq_some_iff.1 h
      obtain ⟨e1, e2⟩ := decs_spec hd
      rw [encBs_t] at e2
      subst e1 e2
      cases h2
      refine ⟨⟨hfn, by rw [List.length_map]; exact Nat.le_of_ble_eq_true h16⟩, fun M μ w args hgl hw hl hok => ?_⟩
      refine Calls.mono (sc M μ w x y args hy hgl hw.holds hl) ?_
      rintro e w' ⟨v, u, M', rfl, h1, h2, h3, h4, h5⟩
      exact plain_retT hw h1 h2 h3 h4 (blk_nones ps) h5
  · refine ok f aa ins r outs ?_
    rw [← h]
    unfold callR moreT
    have : Nat.beq f g = false := by
      cases hb : Nat.beq f g with
      | false => rfl
      | true => exact absurd (Nat.eq_of_beq_eq_true hb) hf
    rw [this]
    rfl

/-! ### What arguments are -/
theorem rs_str {M : Mem} {μ : Mu} {s : List UInt8} {v : Value} (h : RS (E := E) M μ (.t .str s) v) : ∃ b : ByteArray, v = .string b ∧ s = b.data.toList := by
  cases h with
  | v h => cases h with
    | t h => cases h with
      | str b => exact ⟨b, rfl, rfl⟩
theorem rs_int {M : Mem} {μ : Mu} {k : IntKind} {n : Int} {v : Value} (h : RS (E := E) M μ (.t (.int k) n) v) : v = .int k n := by
  cases h with
  | v h => cases h with
    | t h => cases h with
      | int => rfl
theorem rsl1 {M : Mem} {μ : Mu} {a : AV E} {args : Array Value} (h : RSL M μ [a] args.toList) : ∃ v, args = #[v] ∧ RS M μ a v := by
  obtain ⟨l⟩ := args
  simp only at h
  cases h with
  | cons h1 h => cases h; exact ⟨_, rfl, h1⟩
theorem rsl2 {M : Mem} {μ : Mu} {a b : AV E} {args : Array Value} (h : RSL M μ [a, b] args.toList) : ∃ v u, args = #[v, u] ∧ RS M μ a v ∧ RS M μ b u := by
  obtain ⟨l⟩ := args
  simp only at h
  cases h with
  | cons h1 h => cases h with
    | cons h2 h => cases h; exact ⟨_, _, rfl, h1, h2⟩
theorem RS.str_mk {M : Mem} {μ : Mu} (l : List UInt8) : RS (E := E) M μ (.t .str l) (.string ⟨l.toArray⟩) := by
  have : RC (E := E) M .str l [.string ⟨l.toArray⟩] := by
    have := RC.str (E := E) (M := M) ⟨l.toArray⟩
    simpa using this
  exact RS.v (a := .t .str l) (.t this)

/-! ### Kinds of contracts: texts, truths and numbers -/
theorem plain_ext {M : Mem} {μ : Mu} {w w' : World} {ty : Ty} {r : E.D ty} {v : Value} (hh : Holds M w) (hx : Ext w w') (hv : RS M μ (.t ty r : AV E) v) : ∃ v' M', Ending.returned v = .returned v' ∧ Ext w w' ∧ M.le M' ∧ Holds M' w' ∧ (∀ b o, M b o = none → M' b o ≠ none → w.heap.size ≤ b) ∧ RS M' μ (.t ty r : AV E) v' :=
  ⟨v, M, rfl, hx, .refl M, hx.holds hh, fun b o h1 h2 => absurd h1 h2, hv⟩
/-- Two texts to a truth. -/
theorem plain_ssb {g : FuncId} {F : List UInt8 → List UInt8 → Option Bool} (h : ∀ (a b : ByteArray) (w : World) r, F a.data.toList b.data.toList = some r → Calls P g #[.string a, .string b] w fun e w' => e = .returned (.bool r) ∧ w' = w) :
    PlainC (E := E) P gl g [.str, .str] .bool (fun x => F x.1 x.2.1) := by
  intro M μ w x r args hF hgl hh hl
  obtain ⟨v, u, rfl, h1, h2⟩ := rsl2 (a := .t .str x.1) (b := .t .str x.2.1) hl
  obtain ⟨a, rfl, e1⟩ := rs_str h1
  obtain ⟨b, rfl, e2⟩ := rs_str h2
  have hF : F x.1 x.2.1 = some r := hF
  rw [e1, e2] at hF
  refine Calls.mono (h a b w r hF) ?_
  rintro e w' ⟨rfl, rfl⟩
  exact plain_ext hh (.refl _) (.v (.t (.bool _)))
/-- Two texts to a text. -/
theorem plain_sss {g : FuncId} {F : List UInt8 → List UInt8 → Option (List UInt8)} (h : ∀ (a b : ByteArray) (w : World) r, F a.data.toList b.data.toList = some r → Calls P g #[.string a, .string b] w fun e w' => e = .returned (.string ⟨r.toArray⟩) ∧ w' = w) :
    PlainC (E := E) P gl g [.str, .str] .str (fun x => F x.1 x.2.1) := by
  intro M μ w x r args hF hgl hh hl
  obtain ⟨v, u, rfl, h1, h2⟩ := rsl2 (a := .t .str x.1) (b := .t .str x.2.1) hl
  obtain ⟨a, rfl, e1⟩ := rs_str h1
  obtain ⟨b, rfl, e2⟩ := rs_str h2
  have hF : F x.1 x.2.1 = some r := hF
  rw [e1, e2] at hF
  refine Calls.mono (h a b w r hF) ?_
  rintro e w' ⟨rfl, rfl⟩
  exact plain_ext hh (.refl _) (.str_mk _)
/-- A text and a number to a text, while memory grows. -/
theorem plain_sis {g : FuncId} {F : List UInt8 → Int → Option (List UInt8)} (h : ∀ (a : ByteArray) (n : Int) (w : World) r, F a.data.toList n = some r → Calls P g #[.string a, .int .i64 n] w fun e w' => e = .returned (.string ⟨r.toArray⟩) ∧ Ext w w') :
    PlainC (E := E) P gl g [.str, .int .i64] .str (fun x => F x.1 x.2.1) := by
  intro M μ w x r args hF hgl hh hl
  obtain ⟨v, u, rfl, h1, h2⟩ := rsl2 (a := .t .str x.1) (b := .t (.int .i64) x.2.1) hl
  obtain ⟨a, rfl, e1⟩ := rs_str h1
  have e2 := rs_int h2
  subst e2
  have hF : F x.1 x.2.1 = some r := hF
  rw [e1] at hF
  refine Calls.mono (h a _ w r hF) ?_
  rintro e w' ⟨rfl, hx⟩
  exact plain_ext hh hx (.str_mk _)
/-- A text and a byte to a number. -/
theorem plain_sbi {g : FuncId} {F : List UInt8 → Int → Int} (h : ∀ (a : ByteArray) (n : Int) (w : World), Calls P g #[.string a, .int .u8 n] w fun e w' => e = .returned (.int .i64 (F a.data.toList n)) ∧ w' = w) :
    PlainC (E := E) P gl g [.str, .int .u8] (.int .i64) (fun x => some (F x.1 x.2.1)) := by
  intro M μ w x r args hF hgl hh hl
  obtain ⟨v, u, rfl, h1, h2⟩ := rsl2 (a := .t .str x.1) (b := .t (.int .u8) x.2.1) hl
  obtain ⟨a, rfl, e1⟩ := rs_str h1
  have e2 := rs_int h2
  subst e2
  have hF : F x.1 x.2.1 = r := Option.some.inj hF
  rw [e1] at hF
  refine Calls.mono (h a _ w) ?_
  rintro e w' ⟨rfl, rfl⟩
  rw [hF]
  exact plain_ext hh (.refl _) (.v (.t (.int _ _)))

/-! ### A table of numbers -/
theorem flat_ints (k : IntKind) : ∀ xs : List Int, (xs.map fun z => [Value.int k z]).flatten = xs.map (Value.int k)
  | [] => rfl
  | x :: l => by simp only [List.map_cons, List.flatten_cons, List.singleton_append, flat_ints k l]
theorem arr_cells {M : Mem} {k : IntKind} {n : Nat} {xs : List Int} {cells : List Value} (h : RC (E := E) M (.arr n (.int k)) xs cells) : xs.length = n ∧ cells = xs.map (Value.int k) := by
  cases h with
  | arr _ _ css hn hl h =>
    refine ⟨hn, ?_⟩
    have hc : css = xs.map fun z => [Value.int k z] := by
      apply List.ext_getElem
      · rw [List.length_map]; exact hl.trans hn.symm
      · intro i h1 h2
        have h2' : i < (xs : List Int).length := by simpa using h2
        have := h i h2'
        rw [List.getD_of_lt _ _ _ h1] at this
        simp only [List.getElem_map]
        generalize css[i] = c at this
        cases this
        rfl
    rw [hc, flat_ints]
theorem tab_heap {M : Mem} {w : World} (hgl : GlOK M gl) (hw : Holds M w) {g n : Nat} {k : IntKind} {xs : List Int} (h : gl g = .imm (.arr n (.int k)) xs) : ∃ T fr, w.heap[g]? = some (.cells (xs.map (Value.int k)).toArray T fr) := by
  rcases hgl g with h1 | ⟨ty, v, cells, h1, h2, h3, h4⟩ | ⟨h1, _⟩
  · rw [h] at h1; cases h1
  rotate_left
  · rw [h] at h1; cases h1
  · rw [h] at h1
    cases h1
    obtain ⟨hl, rfl⟩ := arr_cells h2
    rcases hw _ _ _ h4 with ⟨k1, _⟩ | ⟨k0, es, c, k2, k3⟩ | ⟨cs, T, fr, k1, k2, _⟩
    · exact k1.elim
    · exact absurd k3.symm (encL_ne _)
    · refine ⟨T, fr, ?_⟩
      rw [k1]
      congr 2
      apply Array.ext_getElem?
      intro i
      by_cases hi : i < cs.size
      · obtain ⟨j1, j2⟩ := h3 i (by omega)
        have := (hw _ _ _ j1).cell j2
        rw [World.cell?, k1] at this
        simp only [Nat.zero_add] at this
        simp only [List.getElem?_toArray]
        rw [List.getElem?_eq_getElem (by omega)]
        simpa using this
      · rw [Array.getElem?_eq_none (by omega)]
        simp only [List.getElem?_toArray]
        rw [List.getElem?_eq_none (by omega)]
theorem tab_is {M : Mem} {w : World} (hgl : GlOK M gl) (hw : Holds M w) {g n : Nat} {k : IntKind} {xs : List Int} {name : String} (h : gl g = .imm (.arr n (.int k)) xs) (hn : P.globalNamed name = some g) : Go.Lib.TabIs P w name k xs := by
  obtain ⟨T, fr, hh⟩ := tab_heap hgl hw h
  unfold Go.Lib.TabIs World.var?
  rw [hn, Option.bind_some, hh]
/-- .. and what the first reading of the table gives. -/
theorem tab_gl {W : World} {g : Nat} {k : IntKind} {xs : List Int} {T : TypeId} {fr : Nat × Nat} (h : W.heap[g]? = some (.cells (xs.map (Value.int k)).toArray T fr)) :
    ∃ cells, RC (E := E) (memOf W) (.arr xs.length (.int k)) (xs : List Int) cells ∧ CellsAt (memOf W) g 0 cells ∧ memOf W g cells.length = some endm := by
  refine ⟨(xs.map fun z => [Value.int k z]).flatten, RC.arr (E := E) (e := .int k) xs.length (xs : List (E.D (.int k))) (xs.map fun z => [Value.int k z]) rfl (by simp) (fun i hi => ?_), ?_, ?_⟩
  · have hi' : i < (xs.map fun z => [Value.int k z]).length := by rw [List.length_map]; exact hi
    rw [List.getD_of_lt _ _ _ hi', List.getElem_map]
    exact .int k _
  all_goals rw [flat_ints]
  · refine .of (fun j hj => ?_) (fun c hc => ?_)
    · refine memOf_cell ?_ ?_
      · rw [Nat.zero_add, World.cell?, h]
        simp only [Option.isNone_none, if_true, List.getElem?_toArray]
        first | exact List.getElem?_eq_getElem hj | simp [hj]
      · obtain ⟨z, _, hz⟩ := List.mem_map.1 (List.getElem_mem hj)
        rw [← hz]
        trivial
    · obtain ⟨z, _, rfl⟩ := List.mem_map.1 hc
      trivial
  · unfold memOf
    rw [h]
    simp
theorem tabIs_gl {W : World} {g : Nat} {k : IntKind} {xs : List Int} {name : String} (hn : P.globalNamed name = some g) (h : Go.Lib.TabIs P W name k xs) :
    ∃ cells, RC (E := E) (memOf W) (.arr xs.length (.int k)) (xs : List Int) cells ∧ CellsAt (memOf W) g 0 cells ∧ memOf W g cells.length = some endm := by
  unfold Go.Lib.TabIs World.var? at h
  rw [hn, Option.bind_some] at h
  split at h
  · rename_i cs T fr hh
    injection h with h
    subst h
    exact tab_gl hh
  · cases h

/-! ### Numbers' texts -/
def i64R (n : Int) : Bool := decide (-9223372036854775808 ≤ n) && decide (n ≤ 9223372036854775807)
def itoaO (n : Int) : Option (List UInt8) := bif i64R n then some (Go.Lib.itoa n) else none
def ItoaC (P : Program) (f : FuncId) (name : String) : Prop := ∀ (n : Int), -9223372036854775808 ≤ n → n ≤ 9223372036854775807 → ∀ w, Go.Lib.TabIs P w name .u64 Go.Lib.pow10Tab →
  Calls P f #[.int .i64 n] w fun e w' => e = .returned (.string ⟨(Go.Lib.itoa n).toArray⟩) ∧ ∃ k os, w' = Go.Sort.grow (w.drewN k) os
theorem itoaP {g gp : FuncId} {name : String} (sc : ItoaC P g name) (hname : P.globalNamed name = some gp) (hg : gl gp = .imm (.arr 20 (.int .u64)) Go.Lib.pow10Tab) : PlainC (E := E) P gl g [.int .i64] .str (fun x => itoaO x.1) := by
  intro M μ w x r args hF hgl hh hl
  obtain ⟨v, rfl, h1⟩ := rsl1 (a := .t (.int .i64) x.1) hl
  have e1 := rs_int h1
  subst e1
  have hF : itoaO x.1 = some r := hF
  unfold itoaO at hF
  cases hr : i64R x.1 with
  | false => rw [hr] at hF; cases hF
  | true =>
    rw [hr] at hF
    cases hF
    simp only [i64R, Bool.and_eq_true, decide_eq_true_eq] at hr
    refine Calls.mono (sc _ hr.1 hr.2 w (tab_is hgl hh hg hname)) ?_
    rintro e w' ⟨rfl, k, os, rfl⟩
    exact plain_ext hh (Ext.grow w k os) (RS.str_mk _)
def u64R (n : Int) : Bool := decide (0 ≤ n) && decide (n ≤ 18446744073709551615)
def fmtuO (n b : Int) : Option (List UInt8) := bif u64R n && decide (b = 10) then some (Go.Lib.decDigits n.toNat) else none
def FmtuC (P : Program) (f : FuncId) (name : String) : Prop := ∀ (u : Nat), u < 18446744073709551616 → ∀ w, Go.Lib.TabIs P w name .u64 Go.Lib.pow10Tab →
  Calls P f #[.int .u64 u, .int .i64 10] w fun e w' => e = .returned (.string ⟨(Go.Lib.decDigits u).toArray⟩) ∧ ∃ k os, w' = Go.Sort.grow (w.drewN k) os
theorem fmtuO_some {n b : Int} {r : List UInt8} (h : fmtuO n b = some r) : (0 ≤ n ∧ n ≤ 18446744073709551615) ∧ b = 10 ∧ r = Go.Lib.decDigits n.toNat := by
  unfold fmtuO at h
  cases hr : (u64R n && decide (b = 10)) with
  | false => rw [hr] at h; cases h
  | true =>
    rw [hr] at h
    cases h
    simp only [u64R, Bool.and_eq_true, decide_eq_true_eq] at hr
    exact ⟨hr.1, hr.2, rfl⟩
theorem fmtuP {g gp : FuncId} {name : String} (sc : FmtuC P g name) (hname : P.globalNamed name = some gp) (hg : gl gp = .imm (.arr 20 (.int .u64)) Go.Lib.pow10Tab) : PlainC (E := E) P gl g [.int .u64, .int .i64] .str (fun x => fmtuO x.1 x.2.1) := by
  intro M μ w x r args hF hgl hh hl
  obtain ⟨v, u, rfl, h1, h2⟩ := rsl2 (a := .t (.int .u64) x.1) (b := .t (.int .i64) x.2.1) hl
  have e1 := rs_int h1
  have e2 := rs_int h2
  subst e1 e2
  obtain ⟨⟨h3, h4⟩, h5, rfl⟩ := fmtuO_some (show fmtuO x.1 x.2.1 = some r from hF)
  rw [h5, show x.1 = ((Int.toNat x.1 : Nat) : Int) from (Int.toNat_of_nonneg h3).symm]
  refine Calls.mono (sc (Int.toNat x.1) (by omega) w (tab_is hgl hh hg hname)) ?_
  rintro e w' ⟨rfl, k, os, rfl⟩
  rw [Int.toNat_natCast]
  exact plain_ext hh (Ext.grow w k os) (RS.str_mk _)

/-! ### Texts -/
def hasSufO (s p : List UInt8) : Option Bool := bif decide (List.length s ≤ 4294967296) then some (Go.Lib.hasSuffix s p) else none
theorem hasSufO_some {s p : List UInt8} {r : Bool} (h : hasSufO s p = some r) : List.length s ≤ 4294967296 ∧ r = Go.Lib.hasSuffix s p := by
  unfold hasSufO at h
  obtain ⟨h1, h2⟩ := bif_some h
  exact ⟨of_decide_eq_true h1, (Option.some.inj h2).symm⟩
def repO (s : List UInt8) (n : Int) : Option (List UInt8) := bif decide (0 ≤ n) && decide (n ≤ 4294967296) && decide (List.length s ≤ 32768) then some (Go.Lib.repeatL s n.toNat) else none
theorem repO_some {s : List UInt8} {n : Int} {r : List UInt8} (h : repO s n = some r) : 0 ≤ n ∧ n ≤ 4294967296 ∧ List.length s ≤ 32768 ∧ r = Go.Lib.repeatL s n.toNat := by
  unfold repO at h
  obtain ⟨h1, h2⟩ := bif_some h
  simp only [Bool.and_eq_true, decide_eq_true_eq] at h1
  exact ⟨h1.1.1, h1.1.2, h1.2, (Option.some.inj h2).symm⟩
def idxByte (s : List UInt8) (c : Int) : Int := Go.Lib.indexByte s c.toNat.toUInt8

/-! ### Tables that a row lists -/
theorem tabIs_laidV {P : Program} {W : World} {name : String} {k : IntKind} {zs : List Int} {rest : List (String × DataW Unit)} {g : Nat} {t e : TypeId} {n : Nat}
    (hg : P.globalNamed name = some g) (hty : (P.globals[g]?).map (·.type) = some t) (ht : P.underlying t = some (.array n e)) (he : P.underlying e = some (.int k)) (hce : P.cellsOf e = 1) (hct : P.cellsOf t = n) :
    ∀ (pre : List (String × DataW Unit)) (ps : List MemPlace), DataW.LaidVars P W (pre ++ (name, Go.Lib.tabData k zs) :: rest) ps → Go.Lib.TabIs P W name k zs
  | [], ps, h => by
    obtain ⟨g', t', cs, fuel, p, q, hg', ht', hvar, hd, _, _⟩ := h
    obtain rfl := Option.some.inj (hg.symm.trans hg')
    obtain rfl := Option.some.inj (hty.symm.trans ht')
    unfold Go.Lib.TabIs
    rw [hvar, ← Go.Lib.cells_of_tab ht he hce hct hd]
  | x :: pre, ps, h => by
    obtain ⟨g', t', cs, fuel, p, q, hg', ht', hvar, hd, h', _⟩ := h
    exact tabIs_laidV hg hty ht he hce hct pre q h'
theorem tabIs_laid {P : Program} {W : World} {name : String} {k : IntKind} {zs : List Int} {rest : List (String × DataW Unit)} {g : Nat} {t e : TypeId} {n : Nat}
    (hg : P.globalNamed name = some g) (hty : (P.globals[g]?).map (·.type) = some t) (ht : P.underlying t = some (.array n e)) (he : P.underlying e = some (.int k)) (hce : P.cellsOf e = 1) (hct : P.cellsOf t = n)
    (pre : List (String × DataW Unit)) (h : laidMet P (pre ++ (name, Go.Lib.tabData k zs) :: rest) W) : Go.Lib.TabIs P W name k zs := by
  obtain ⟨ps, h, _⟩ := h
  exact tabIs_laidV hg hty ht he hce hct pre ps h
/-- The table of a bit's place. -/
def db64 : List Int := [0, 1, 56, 2, 57, 49, 28, 3, 61, 58, 42, 50, 38, 29, 17, 4, 62, 47, 59, 36, 45, 43, 51, 22, 53, 39, 33, 30, 24, 18, 12, 5,
  63, 55, 48, 27, 60, 41, 37, 16, 46, 35, 44, 21, 52, 32, 23, 11, 54, 26, 40, 15, 34, 20, 31, 10, 25, 14, 19, 9, 13, 8, 7, 6]
end Go.Proofs.YtbmpjppfdeohnaaDoor.Fv
