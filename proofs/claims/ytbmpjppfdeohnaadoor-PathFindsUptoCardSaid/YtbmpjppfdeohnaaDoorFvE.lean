/- An evaluator of the model's code, part 5: Regions in whatever order their edges leave open. No condition. -/
import Derived.Test.YtbmpjppfdeohnaaDoorFvD
import GoSem.ClaimJoined
import Derived.WalkKit
import Derived.ProofKit
import Derived.OpenShut
import Derived.ShutString
import Derived.ChangeOld
import Derived.SizedLaws
import Derived.Carry
set_option linter.unusedVariables false
set_option linter.unusedSectionVars false
set_option linter.unusedSimpArgs false
/-! Regions in whatever order their edges leave open. -/
namespace Go.Proofs.YtbmpjppfdeohnaaDoor.Fv
variable [Quiet] [Dfr]
variable {E : Env} {P : Program} {tt : Nat → Option TE} {gl : Nat → AV E} {H : Hints} {M M' : Mem} {μ μ' : Mu} {b b' : List (Blk E)} {w w' : World}

def plain1 (c : Bool) : AV E → Bool
  | .ptr _ _ _ | .fs _ _ _ _ => false
  | .sl _ _ _ => !c
  | _ => true
theorem plainAs_cons (cons : List Nat) (pi : Nat) (t : Nat) (x : AV E) (l : List (Nat × AV E)) : plainAs cons pi ((t, x) :: l) = (plain1 (cons.contains pi) x && plainAs cons (pi + 1) l) := by
  cases x <;> rfl
theorem pass1_plain {c : Bool} {pi : Nat} {ty : Ty} {x : AV E} (h : plain1 c x = true) (b b' : List (Blk E)) : pass1 b c pi ty x = pass1 b' c pi ty x ∧ ∀ a B o, pass1 b c pi ty x = some (a, B, o) → o = none := by
  cases x with
  | ptr id ly p => cases h
  | fs id e off len => cases h
  | sl id e xs =>
    have hc : c = false := by simpa [plain1] using h
    subst hc
    refine ⟨rfl, fun a B o h => ?_⟩
    simp only [pass1, cond_false] at h
    cases h; rfl
  | agg cs =>
    refine ⟨rfl, fun a B o h => ?_⟩
    simp only [pass1] at h
    split at h <;> cases h
    rfl
  | iface t a =>
    refine ⟨rfl, fun a B o h => ?_⟩
    simp only [pass1] at h
    obtain ⟨_, h⟩ := bif_some h
    cases h; rfl
  | _ => exact ⟨rfl, fun a B o h => by first | (cases h; rfl) | cases h⟩
theorem plain_ca {c : Bool} {t : Nat} {x : AV E} (h : plain1 c x = true) : plain1 c (ca tt t x) = true := by
  cases x with
  | c v =>
    simp only [ca, cv]
    split <;> first | rfl | (split <;> rfl)
  | _ => exact h
theorem plain_caN {c : Bool} {t : Nat} {x : AV E} (h : plain1 c x = true) : plain1 c (caN tt t x) = true := by
  unfold caN
  split
  · split <;> rfl
  · exact plain_ca h
theorem passL_plain (cons : List Nat) (b b' : List (Blk E)) : ∀ (args : List (Nat × AV E)) (pi : Nat), plainAs cons pi args = true → passL tt b cons pi args = passL tt b' cons pi args ∧ ∀ as bs os, passL tt b cons pi args = some (as, bs, os) → os = []
  | [], pi, h => ⟨rfl, fun as bs os h => by cases h; rfl⟩
  | (t, x) :: l, pi, h => by
    rw [plainAs_cons, Bool.and_eq_true] at h
    obtain ⟨h1, h2⟩ := pass1_plain (pi := pi) (ty := tyOf tt t) (plain_caN (tt := tt) (t := t) h.1) b b'
    obtain ⟨h3, h4⟩ := passL_plain cons b b' l (pi + 1) h.2
    refine ⟨by simp only [passL]; rw [h1, h3], fun as bs os h => ?_⟩
    simp only [passL] at h
    split at h
    · rename_i a bb o as' bs' os' k1 k2
      have := h2 _ _ _ k1
      subst this
      cases h
      exact h4 _ _ _ k2
    · cases h


theorem recv1_simple {outs : List (Blk E)} {back : List (Nat × Nat)} {id : Nat} {sh : RSh} {r : AV E} (hs : simpleSh sh = true) (ht : ∀ l, sh ≠ .tup l) (b b' : List (Blk E)) :
    recv1 outs b back id sh r = recv1 outs b' back id sh r ∧ ∀ a u, recv1 outs b back id sh r = some (a, u) → u = [] := by
  cases sh with
  | t ty =>
    refine ⟨rfl, fun a u h => ?_⟩
    unfold recv1 at h
    simp only [recvK] at h
    obtain ⟨y, hy, k⟩ := Option.bind_eq_some_iff.1 h
    cases k; rfl
  | unit => exact ⟨rfl, fun a u h => by cases h; rfl⟩
  | asis =>
    refine ⟨rfl, fun a u h => ?_⟩
    unfold recv1 at h
    simp only [recvK] at h
    obtain ⟨y, hy, k⟩ := Option.bind_eq_some_iff.1 h
    cases k; rfl
  | tup l => exact absurd rfl (ht l)
  | _ => cases hs
/-- Shapes within a tuple: no tuple among them. -/
theorem recvs1_simple {outs : List (Blk E)} {back : List (Nat × Nat)} {step : Nat} (b b' : List (Blk E)) : ∀ (shs : List RSh) (id : Nat) (as : List (AV E)), simpleShs shs = true →
    recvs1 outs b back step id shs as = recvs1 outs b' back step id shs as ∧ ∀ l u, recvs1 outs b back step id shs as = some (l, u) → u = []
  | [], id, as, h => ⟨rfl, fun l u h => by
      have h : some (([] : List (AV E)), ([] : Upd E)) = some (l, u) := h
      cases h; rfl⟩
  | sh :: shs, id, as, h => by
    simp only [simpleShs, Bool.and_eq_true] at h
    obtain ⟨h3, h4⟩ := recvs1_simple b b' shs (id + step) as.tail h.2
    by_cases ht : ∃ l, sh = .tup l
    · obtain ⟨l, rfl⟩ := ht
      rw [recvs1_cons, recvs1_cons]
      exact ⟨rfl, fun l u h => by cases h⟩
    · obtain ⟨h1, h2⟩ := recv1_simple (outs := outs) (back := back) (id := id) (r := as.headD .undef) h.1 (fun l hl => ht ⟨l, hl⟩) b b'
      rw [recvs1_cons, recvs1_cons, h1, h3]
      refine ⟨rfl, fun l u h => ?_⟩
      obtain ⟨⟨a, u1⟩, k1, h⟩ := Option.bind_eq_some_iff.1 h
      obtain ⟨⟨l2, u2⟩, k2, h⟩ := Option.bind_eq_some_iff.1 h
      cases h
      rw [← h1] at k1
      rw [← h3] at k2
      rw [h2 a u1 k1, h4 l2 u2 k2]
      rfl
theorem recvA1_simple {outs : List (Blk E)} {back : List (Nat × Nat)} {step d : Nat} {sh : RSh} {r : AV E} (hs : simpleSh sh = true) (b b' : List (Blk E)) :
    recvA1 outs b back step d sh r = recvA1 outs b' back step d sh r ∧ ∀ a u, recvA1 outs b back step d sh r = some (a, u) → u = [] := by
  by_cases ht : ∃ l, sh = .tup l
  · obtain ⟨shs, rfl⟩ := ht
    obtain ⟨h1, h2⟩ := recvs1_simple (outs := outs) (back := back) (step := step) b b' shs (d + step) (asTup r) hs
    rw [recvA1_tup, recvA1_tup, h1]
    refine ⟨rfl, fun a u h => ?_⟩
    obtain ⟨_, h⟩ := bif_some h
    obtain ⟨⟨l, u'⟩, k1, k2⟩ := Option.map_eq_some_iff.1 h
    cases k2
    rw [← h1] at k1
    exact h2 l _ k1
  · have e : ∀ b : List (Blk E), recvA1 outs b back step d sh r = recv1 outs b back d sh r := fun b => by
      cases sh <;> first | rfl | exact absurd ⟨_, rfl⟩ ht
    rw [e, e]
    exact recv1_simple hs (fun l hl => ht ⟨l, hl⟩) b b'

theorem call10_cl {call : CallF E} {step : Nat} {f : FuncId} {cs : List (Cap E)} {sh : RSh} {args : List (Nat × AV E)} {d : Nat} {cl : Cl} {a : AV E} {u : Upd E} (h : call10 tt H call b step f cs sh args d = some (cl, a, u)) :
    (cl = .p ∧ u = [] ∧ ∀ b', call10 tt H call b' step f cs sh args d = some (.p, a, [])) ∨ (cl = .n (u.map (·.1)) ∧ ∀ b', (∀ i ∈ u.map (·.1), free b' i = free b i) → call10 tt H call b' step f cs sh args d = some (cl, a, u)) ∨ cl = .w (u.map (·.1)) := by
  unfold call10 callK0 at h
  split at h
  · rename_i as ins back hp
    obtain ⟨hnd, h9⟩ := bif_some h
    clear h
    obtain ⟨⟨r, outs⟩, hcall, h8⟩ := Option.bind_eq_some_iff.1 h9
    clear h9
    rw [recvAll_nat] at h8
    obtain ⟨⟨a', u'⟩, hrecv, h7⟩ := Option.bind_eq_some_iff.1 h8
    clear h8
    rw [backK_nat] at h7
    obtain ⟨v', hback, h6⟩ := Option.bind_eq_some_iff.1 h7
    clear h7
    obtain ⟨hnu, h5⟩ := bif_some h6
    clear h6
    cases hc : (plainAs (H.cons f) 0 args && simpleSh sh) with
    | false =>
      rw [hc] at h5
      cases hn : (plainAs (H.cons f) 0 args && ownSh sh) with
      | false =>
        rw [hn] at h5
        cases h5
        exact .inr (.inr rfl)
      | true =>
        rw [hn] at h5
        cases h5
        right; left
        simp only [Bool.and_eq_true] at hn
        have hb0 := (passL_plain (tt := tt) (H.cons f) b b args 0 hn.1).2 _ _ _ hp
        subst hb0
        have hv : v' = [] := by
          have h : some ([] : Upd E) = some v' := hback
          cases h; rfl
        subst hv
        refine ⟨rfl, fun b' hfr => ?_⟩
        have e1 := (passL_plain (tt := tt) (H.cons f) b b' args 0 hn.1).1
        have e2 : recvA1 outs b' [] step d sh r = some (a', u') := by
          cases sh with
          | ownrow e =>
            obtain ⟨xs, hx, hr⟩ := Option.bind_eq_some_iff.1 (show (castR e r).bind (fun xs => bif free b d then some (AV.fs d e 0 xs.length, [(d, Blk.row e xs)]) else none) = some (a', u') from hrecv)
            obtain ⟨hf, hr⟩ := bif_some hr
            cases hr
            have hf' : free b' d = true := by rw [hfr d (by simp)]; exact hf
            show (castR e r).bind (fun xs => bif free b' d then some (AV.fs d e 0 xs.length, [(d, Blk.row e xs)]) else none) = _
            rw [hx, Option.bind_some, hf']
            rfl
          | _ => exact absurd hn.2 (fun h => nomatch h)
        unfold call10 callK0
        rw [← e1, hp]
        simp only
        rw [hnd]
        simp only [cond_true]
        rw [hcall]
        simp only [Option.bind_some]
        rw [recvAll_nat, e2]
        simp only [Option.bind_some, backK]
        rw [hc, hn.1, hn.2]
        simp only [Bool.and_self]
        rw [hnu]
        rfl
    | true =>
      rw [hc] at h5
      cases h5
      left
      simp only [Bool.and_eq_true] at hc
      have hb0 := (passL_plain (tt := tt) (H.cons f) b b args 0 hc.1).2 _ _ _ hp
      subst hb0
      have hv : v' = [] := by
        have h : some ([] : Upd E) = some v' := hback
        cases h; rfl
      subst hv
      have hu := (recvA1_simple (outs := outs) (back := []) (step := step) (d := d) (r := r) hc.2 b b).2 _ _ hrecv
      subst hu
      refine ⟨rfl, rfl, fun b' => ?_⟩
      have e1 := (passL_plain (tt := tt) (H.cons f) b b' args 0 hc.1).1
      have e2 := (recvA1_simple (outs := outs) (back := []) (step := step) (d := d) (r := r) hc.2 b b').1
      unfold call10 callK0
      rw [← e1, hp]
      simp only
      rw [hnd]
      simp only [cond_true]
      rw [hcall]
      simp only [Option.bind_some]
      rw [recvAll_nat, ← e2, hrecv]
      simp only [Option.bind_some, backK]
      rw [hc.1, hc.2]
      rfl
  · cases h

theorem lendC_b {b b' : List (Blk E)} : ∀ (ps : List (CP E)) {cs : List (Cap E)} {is : List Nat}, lendC b ps = some (cs, is) → (∀ id ∈ is, blk b' id = blk b id) → lendC b' ps = some (cs, is)
  | [], cs, is, h, hb => h
  | .im c :: l, cs, is, h, hb => by
    simp only [lendC] at h ⊢
    split at h
    · rename_i x i hx
      cases h
      rw [lendC_b l hx hb]
    · cases h
  | .pt id ly :: l, cs, is, h, hb => by
    simp only [lendC] at h ⊢
    split at h
    · rename_i ly' ty v x i hb0 hx
      cases hd : (decide (ly' = ly) && decide (ty = ly)) with
      | false => rw [hd] at h; cases h
      | true =>
        rw [hd] at h
        cases h
        rw [lendC_b l hx fun id' hi => hb id' (List.mem_cons_of_mem _ hi), hb id (by simp), hb0]
        simp only [hd, cond_true]
    · cases h
theorem lend0_b {b b' : List (Blk E)} {m : Option Nat} {x y : AV E} {c : Bool} {i : List Nat} (h : lend0 b m x = some (c, y, i)) (hb : ∀ id ∈ i, blk b' id = blk b id) : lend0 b' m x = some (c, y, i) := by
  cases x with
  | fs id e off n =>
    have key : id ∈ i := by
      simp only [lend0] at h
      split at h
      · cases h
      · split at h
        · obtain ⟨_, h9⟩ := bif_some h
          split at h9
          · obtain ⟨_, h9⟩ := bif_some h9
            cases h9; simp
          · cases h9; simp
        · cases h
    rw [← h]
    simp only [lend0]
    rw [hb id key]
  | funp f ps =>
    simp only [lend0] at h ⊢
    split at h
    · rename_i cs' i' hc
      cases h
      rw [lendC_b ps hc hb]
    · cases h
  | _ => exact h
theorem lendFs_b {b b' : List (Blk E)} : ∀ (cs : List (AV E)) {c : Bool} {l : List (AV E)} {is : List Nat}, lendFs b cs = some (c, l, is) → (∀ id ∈ is, blk b' id = blk b id) → lendFs b' cs = some (c, l, is)
  | [], c, l, is, h, hb => h
  | a :: cs, c, l, is, h, hb => by
    unfold lendFs at h ⊢
    split at h
    · rename_i c0 x i c' l' is' h1 h2
      cases h
      rw [lend0_b h1 (fun id hi => hb id (List.mem_append_left _ hi)), lendFs_b cs h2 (fun id hi => hb id (List.mem_append_right _ hi))]
    · cases h
theorem lend1_b {b b' : List (Blk E)} {m : Option Nat} {x y : AV E} {c : Bool} {i : List Nat} (h : lend1 b m x = some (c, y, i)) (hb : ∀ id ∈ i, blk b' id = blk b id) : lend1 b' m x = some (c, y, i) := by
  unfold lend1 at h ⊢
  split at h
  · rename_i cs
    split at h
    · cases h
    · split at h
      · rename_i c0 l is hl
        cases h
        rw [lendFs_b cs hl hb]
      · cases h
  · exact lend0_b h hb
theorem lendL_b {b b' : List (Blk E)} {lp : List (Nat × Nat)} : ∀ (args : List (Nat × AV E)) (p : Nat) {c : Bool} {args' : List (Nat × AV E)} {is : List Nat}, lendL b lp p args = some (c, args', is) → (∀ id ∈ is, blk b' id = blk b id) → lendL b' lp p args = some (c, args', is)
  | [], p, c, args', is, h, hb => h
  | (t, x) :: l, p, c, args', is, h, hb => by
    unfold lendL at h ⊢
    split at h
    · rename_i c0 y i c' l' is' h1 h2
      cases h
      rw [lend1_b h1 (fun id hi => hb id (List.mem_append_left _ hi)), lendL_b l (p + 1) h2 (fun id hi => hb id (List.mem_append_right _ hi))]
    · cases h
theorem call1L_cl {call : CallF E} {step : Nat} {f : FuncId} {cs : List (Cap E)} {sh : RSh} {args : List (Nat × AV E)} {d : Nat} {cl : Cl} {a : AV E} {u : Upd E} (h : call1L tt H call b step f cs sh args d = some (cl, a, u)) :
    (cl = .p ∧ u = [] ∧ ∀ b', call1L tt H call b' step f cs sh args d = some (.p, a, [])) ∨ (∃ id, cl = .l id ∧ u = [] ∧ ∀ b', blk b' id = blk b id → call1L tt H call b' step f cs sh args d = some (.l id, a, [])) ∨ (cl = .n (u.map (·.1)) ∧ ∀ b', (∀ i ∈ u.map (·.1), free b' i = free b i) → call1L tt H call b' step f cs sh args d = some (cl, a, u)) ∨ cl = .w (u.map (·.1)) := by
  rcases call1L_two h with ⟨hl, h1⟩ | ⟨hl, args', is, c0, h1, h2, h3, rfl, rfl⟩
  · rcases call10_cl h1 with ⟨rfl, rfl, h2⟩ | ⟨h2, h3⟩ | h2
    · exact .inl ⟨rfl, rfl, fun b' => by rw [call1L_old hl]; exact h2 b'⟩
    · exact .inr (.inr (.inl ⟨h2, fun b' hb => by rw [call1L_old hl]; exact h3 b' hb⟩))
    · exact .inr (.inr (.inr h2))
  · match is, h1 with
    | [], h1 => exact .inl ⟨rfl, rfl, fun b' => call1L_lend hl (lendL_b args 0 h1 (fun id hi => by simp at hi)) h2 h3⟩
    | [id], h1 => exact .inr (.inl ⟨id, rfl, rfl, fun b' hb => call1L_lend hl (lendL_b args 0 h1 (fun id' hi => by simp at hi; subst hi; exact hb)) h2 h3⟩)
    | _ :: _ :: _, h1 => exact .inr (.inr (.inr rfl))

theorem call1_cl {call : CallF E} {step : Nat} {f : FuncId} {cs : List (Cap E)} {sh : RSh} {args : List (Nat × AV E)} {d : Nat} {cl : Cl} {a : AV E} {u : Upd E} (h : call1 tt H call b step f cs sh args d = some (cl, a, u)) :
    (cl = .p ∧ u = [] ∧ ∀ b', call1 tt H call b' step f cs sh args d = some (.p, a, [])) ∨ (∃ id, cl = .l id ∧ u = [] ∧ ∀ b', blk b' id = blk b id → call1 tt H call b' step f cs sh args d = some (.l id, a, [])) ∨ (cl = .n (u.map (·.1)) ∧ ∀ b', (∀ i ∈ u.map (·.1), free b' i = free b i) → call1 tt H call b' step f cs sh args d = some (cl, a, u)) ∨ cl = .w (u.map (·.1)) := by
  simp only [call1_eq] at h ⊢
  cases hp : H.phan f with
  | zero =>
    rw [hp] at h
    exact call1L_cl h
  | succ n =>
    rw [hp] at h
    exact .inr (.inr (.inr (callP1_cl h)))

/-- Two states that an operation cannot tell apart by its operands. -/
structure Agree (gl : Nat → AV E) (s s' : St E) (o : Oper) : Prop where
  len : s'.t.length = s.t.length
  ops : o.op.operands.toList.map (evo gl s'.t) = o.op.operands.toList.map (evo gl s.t)

theorem wA_bs {H : Hints} {f : FuncId} {b : List (Blk E)} {t n ty d : Nat} {ps : Array (Nat × Operand)} {l : List (AV E)} : wA tt H f b (.buildSlice t n ps) ty d l = match tdOf tt t, tyOf tt t with
      | .slice el, .sl e => match (bif nodup (ps.toList.map (·.1)) && (ps.toList.map (·.1)).all (fun p => decide (p < n)) && decide (n ≤ 1000) then elems tt el ((ps.toList.map (·.1)).zip l) e n 0 else none) with
        | some xs => bif (H.asrow f).contains d then (bif free b (d + 16) then ru (.fs (d + 16) e 0 n) [(d + 16, .row e xs)] else none) else ru (.exact e xs) []
        | none => none
      | _, _ => none := by
  cases l <;> rfl
theorem wA_conv {H : Hints} {f : FuncId} {b : List (Blk E)} {src dst ty d i : Nat} {y : Operand} {l : List (AV E)} {c : Bool} {a : AV E} {e : Ty} {xs : List (E.D e)} (h : wA tt H f b (.convert src dst y) ty d l = some (c, a, [(i, Blk.row e xs)])) (b' : List (Blk E)) (hb : free b' i = free b i) :
    wA tt H f b' (.convert src dst y) ty d l = some (c, a, [(i, Blk.row e xs)]) := by
  match l, h with
  | [], h => cases h
  | _ :: _ :: _, h => cases h
  | [x], h =>
    have key : ∀ b : List (Blk E), wA tt H f b (.convert src dst y) ty d [x] = (match tdOf tt src, ca tt src x, tdOf tt dst, tyOf tt dst with
    | .str, .t .str s, .slice el, .sl (.int .u8) => match tdOf tt el with
      | .int .u8 => bif (H.asrow f).contains d then (bif free b (d + 16) then ru (.fs (d + 16) (.int .u8) 0 (List.length (α := Int) (ints s))) [(d + 16, .row (.int .u8) (ints s))] else none) else ru (.t (.sl (.int .u8)) (ints s)) []
      | _ => none
    | .slice _, .fs id e off n, .slice el, .sl e' => match tdOf tt el, blk b id with
      | .int .u8, .row e'' xs => bif decide (src = dst) && decide (off = 0) && decide (e' = e'') && decide (e = e'') then some (decide (n = xs.length) && decide (0 < n), .t (.sl e'') xs, [(id, .rowz e'')]) else none
      | _, _ => none
    | _, _, _, _ => none) := fun b => rfl
    rw [key] at h ⊢
    split at h
    · split at h
      · cases ha : (H.asrow f).contains d with
        | false => rw [ha] at h; cases h
        | true =>
          rw [ha] at h
          obtain ⟨hf, h9⟩ := bif_some (show (bif free b (d + 16) then ru _ _ else none) = _ from h)
          cases h9
          simp only [cond_true]
          rw [hb, hf]
          rfl
      · cases h
    · split at h
      · obtain ⟨_, h9⟩ := bif_some h
        cases h9
      · cases h
    · cases h

theorem wA_parts {H : Hints} {f : FuncId} {b : List (Blk E)} {t n ty d : Nat} {ps : Array (Nat × Operand)} {l : List (AV E)} {c : Bool} {a : AV E} (h : wA tt H f b (.buildSlice t n ps) ty d l = some (c, a, [])) (b' : List (Blk E)) : wA tt H f b' (.buildSlice t n ps) ty d l = some (c, a, []) := by
  rw [wA_bs] at h ⊢
  split at h
  · split at h
    · rename_i hxs
      cases ha : (H.asrow f).contains d with
      | true =>
        rw [ha] at h
        obtain ⟨_, h9⟩ := bif_some (show (bif free b (d + 16) then ru _ _ else none) = _ from h)
        cases h9
      | false =>
        rw [ha] at h
        exact h
    · cases h
  · cases h
theorem putM_ins {b : List (Blk E)} {t i : Nat} {x val a : AV E} {s : ByteArray} {v : Ty} {es2 : List (E.D .str × E.D v)} (h : putM tt b t x (.c (.string s)) val = some (true, a, [(i, .mp .str v es2)])) :
    ∃ (z : E.D v) (es : List (E.D .str × E.D v)), a = .undef ∧ es2 = insS (V := E.D v) s.data.toList z es ∧ blk b i = .mp .str v es ∧ (List.any (α := List UInt8 × E.D v) es fun p => p.1 == s.data.toList) = false ∧
      ∀ (b' : List (Blk E)) (es' : List (E.D .str × E.D v)), blk b' i = .mp .str v es' → (List.any (α := List UInt8 × E.D v) es' fun p => p.1 == s.data.toList) = false → putM tt b' t x (.c (.string s)) val = some (true, .undef, [(i, .mp .str v (insS (V := E.D v) s.data.toList z es'))]) := by
  unfold putM at h
  split at h
  · rename_i kt vt id k v' htd
    split at h
    · rename_i k1 v1 es hb
      obtain ⟨hc, h⟩ := bif_some h
      split at h
      · rename_i y z hy hz
        injection h with h
        injection h with hcE h
        injection h with ha hu
        injection hu with hu _
        injection hu with hi hB
        injection hB with e1 e2 e3
        subst hi e1 e2
        have e3 := eq_of_heq e3
        have hy' : some s.data.toList = some y := hy
        injection hy' with hy'
        subst hy'
        have hcE : (!(List.any (α := List UInt8 × E.D v1) es fun p => p.1 == s.data.toList)) = true := hcE
        refine ⟨z, es, ha.symm, e3.symm, hb, by simpa using hcE, ?_⟩
        intro b' es' hb' hany
        unfold putM
        simp only [htd, hb', hc, cond_true, hy, hz]
        have : (putE (E := E) (.c (.string s)) .str v1 s.data.toList z es') = (true, insS (V := E.D v1) s.data.toList z es') := by
          show (!(List.any (α := List UInt8 × E.D v1) es' fun p => p.1 == s.data.toList), insS (V := E.D v1) s.data.toList z es') = _
          rw [hany]
          rfl
        rw [this]
      · cases h
    · cases h
  · cases h
/-- A text's entry in a map: what its being set hangs on. -/
def KChar (F : St E → Option (Res E)) (ag : St E → Prop) (s : St E) (cl : Cl) (a : AV E) (u : Upd E) : Prop :=
  ∃ (i : Nat) (key : List UInt8) (v : Ty) (z : E.D v) (es : List (E.D .str × E.D v)), cl = .k i key ∧ a = .undef ∧ u = [(i, .mp .str v (insS (V := E.D v) key z es))] ∧ blk s.b i = .mp .str v es ∧ (List.any (α := List UInt8 × E.D v) es fun p => p.1 == key) = false ∧
    ∀ s', ag s' → ∀ es' : List (E.D .str × E.D v), blk s'.b i = .mp .str v es' → (List.any (α := List UInt8 × E.D v) es' fun p => p.1 == key) = false → F s' = some (.k i key, .undef, [(i, .mp .str v (insS (V := E.D v) key z es'))])
theorem step10_cl {call : CallF E} {f : FuncId} {s : St E} {o : Oper} {cl : Cl} {a : AV E} {u : Upd E} (h : step10 tt gl H call f s o = some (cl, a, u)) :
    (cl = .p ∧ u = [] ∧ ∀ s', Agree gl s s' o → step10 tt gl H call f s' o = some (.p, a, [])) ∨
    (∃ id, cl = .l id ∧ u = [] ∧ ∀ s', Agree gl s s' o → blk s'.b id = blk s.b id → step10 tt gl H call f s' o = some (.l id, a, [])) ∨
    (cl = .w (u.map (·.1)) ∧ ∀ s', Agree gl s s' o → s'.b = s.b → step10 tt gl H call f s' o = some (cl, a, u)) ∨
    (cl = .n (u.map (·.1)) ∧ ∀ s', Agree gl s s' o → (∀ i ∈ u.map (·.1), free s'.b i = free s.b i) → step10 tt gl H call f s' o = some (cl, a, u)) ∨
    KChar (fun s' => step10 tt gl H call f s' o) (fun s' => Agree gl s s' o) s cl a u := by
  have hw : ∀ s', Agree gl s s' o → s'.b = s.b → step10 tt gl H call f s' o = some (cl, a, u) := by
    intro s' ha hb
    rw [← h]
    unfold step10 stepK0
    simp only [ha.ops, ha.len, hb]
  have h0 := h
  unfold step10 stepK0 at h
  simp only at h
  split at h
  · rename_i c hop
    split at h
    · rename_i bi hcal
      split at h
      · rename_i c0 a0 hp
        obtain ⟨hc, h9⟩ := bif_some h
        clear h
        cases h9
        subst hc
        refine .inl ⟨rfl, rfl, fun s' ha => ?_⟩
        unfold step10 stepK0
        simp only [ha.ops]
        split
        · rename_i c' hop'
          rw [hop] at hop'
          cases hop'
          split
          · rename_i bi' hcal'
            rw [hp]
            rfl
          · rename_i hcal' _; rw [hcal] at hcal'; cases hcal'
          · rename_i hcal' _; rw [hcal] at hcal'; cases hcal'
          · rename_i hn _ _; exact absurd hcal (hn _)
        · rename_i hn; exact absurd hop (hn _)
      · split at h
        · rename_i c0 a0 u0 hp
          obtain ⟨hc, h9⟩ := bif_some h
          cases h9
          exact .inr (.inr (.inl ⟨rfl, hw⟩))
        · cases h
    · rename_i g x l hcal heq
      obtain ⟨hlen, h9⟩ := bif_some h
      clear h
      rcases call1_cl (show call1 tt H call s.b s.t.length g [] (H.rsh g) (c.argTypes.toList.zip l) (o.dst.getD 100000) = some (cl, a, u) from h9) with ⟨rfl, rfl, h2⟩ | ⟨id, rfl, rfl, h2⟩ | ⟨hcn, h2⟩ | rfl
      · refine .inl ⟨rfl, rfl, fun s' ha => ?_⟩
        have h3 := h2 s'.b
        unfold step10 stepK0
        simp only [ha.ops, ha.len]
        split
        · rename_i c' hop'
          rw [hop] at hop'
          cases hop'
          split
          · rename_i hcal'; rw [hcal] at hcal'; cases hcal'
          · rename_i g' x' l' hcal' heq'
            rw [hcal] at hcal'
            cases hcal'
            rw [heq] at heq'
            cases heq'
            rw [hlen]
            exact h3
          · rename_i hn hcal' heq'
            rw [hcal] at hcal'
            cases hcal'
            exact (hn _ rfl).elim
          · rename_i hn _
            exact absurd heq (hn _ _ _ hcal)
        · rename_i hn; exact absurd hop (hn _)
      · refine .inr (.inl ⟨id, rfl, rfl, fun s' ha hb => ?_⟩)
        have h3 := h2 s'.b hb
        unfold step10 stepK0
        simp only [ha.ops, ha.len]
        split
        · rename_i c' hop'
          rw [hop] at hop'
          cases hop'
          split
          · rename_i hcal'; rw [hcal] at hcal'; cases hcal'
          · rename_i g' x' l' hcal' heq'
            rw [hcal] at hcal'
            cases hcal'
            rw [heq] at heq'
            cases heq'
            rw [hlen]
            exact h3
          · rename_i hn hcal' heq'
            rw [hcal] at hcal'
            cases hcal'
            exact (hn _ rfl).elim
          · rename_i hn _
            exact absurd heq (hn _ _ _ hcal)
        · rename_i hn; exact absurd hop (hn _)
      · refine .inr (.inr (.inr (.inl ⟨hcn, fun s' ha hb => ?_⟩)))
        have h3 := h2 s'.b hb
        unfold step10 stepK0
        simp only [ha.ops, ha.len]
        split
        · rename_i c' hop'
          rw [hop] at hop'
          cases hop'
          split
          · rename_i hcal'; rw [hcal] at hcal'; cases hcal'
          · rename_i g' x' l' hcal' heq'
            rw [hcal] at hcal'
            cases hcal'
            rw [heq] at heq'
            cases heq'
            rw [hlen]
            exact h3
          · rename_i hn hcal' heq'
            rw [hcal] at hcal'
            cases hcal'
            exact (hn _ rfl).elim
          · rename_i hn _
            exact absurd heq (hn _ _ _ hcal)
        · rename_i hn; exact absurd hop (hn _)
      · exact .inr (.inr (.inl ⟨rfl, hw⟩))
    · rename_i fo g cs l hnf hcal heq
      obtain ⟨hlen, h9⟩ := bif_some h
      clear h
      rcases call1_cl (H := { H with cons := fun _ => [], lend := fun _ => [] }) (show call1 tt { H with cons := fun _ => [], lend := fun _ => [] } call s.b s.t.length g cs (.t (tyOf tt o.type)) (c.argTypes.toList.zip l) (o.dst.getD 100000) = some (cl, a, u) from h9) with ⟨rfl, rfl, h2⟩ | ⟨id, rfl, rfl, h2⟩ | ⟨hcn, h2⟩ | rfl
      · refine .inl ⟨rfl, rfl, fun s' ha => ?_⟩
        have h3 := h2 s'.b
        unfold step10 stepK0
        simp only [ha.ops, ha.len]
        split
        · rename_i c' hop'
          rw [hop] at hop'
          cases hop'
          split
          · rename_i hcal'; rw [hcal] at hcal'; cases hcal'
          · rename_i g' x' l' hcal' heq'
            rw [hcal] at hcal'
            cases hcal'
            exact (hnf _ rfl).elim
          · rename_i hn hcal' heq'
            rw [hcal] at hcal'
            cases hcal'
            rw [heq] at heq'
            cases heq'
            rw [hlen]
            exact h3
          · rename_i hn hn2
            exact (hn2 _ _ _ _ hcal heq).elim
        · rename_i hn; exact absurd hop (hn _)
      · refine .inr (.inl ⟨id, rfl, rfl, fun s' ha hb => ?_⟩)
        have h3 := h2 s'.b hb
        unfold step10 stepK0
        simp only [ha.ops, ha.len]
        split
        · rename_i c' hop'
          rw [hop] at hop'
          cases hop'
          split
          · rename_i hcal'; rw [hcal] at hcal'; cases hcal'
          · rename_i g' x' l' hcal' heq'
            rw [hcal] at hcal'
            cases hcal'
            exact (hnf _ rfl).elim
          · rename_i hn hcal' heq'
            rw [hcal] at hcal'
            cases hcal'
            rw [heq] at heq'
            cases heq'
            rw [hlen]
            exact h3
          · rename_i hn hn2
            exact (hn2 _ _ _ _ hcal heq).elim
        · rename_i hn; exact absurd hop (hn _)
      · refine .inr (.inr (.inr (.inl ⟨hcn, fun s' ha hb => ?_⟩)))
        have h3 := h2 s'.b hb
        unfold step10 stepK0
        simp only [ha.ops, ha.len]
        split
        · rename_i c' hop'
          rw [hop] at hop'
          cases hop'
          split
          · rename_i hcal'; rw [hcal] at hcal'; cases hcal'
          · rename_i g' x' l' hcal' heq'
            rw [hcal] at hcal'
            cases hcal'
            exact (hnf _ rfl).elim
          · rename_i hn hcal' heq'
            rw [hcal] at hcal'
            cases hcal'
            rw [heq] at heq'
            cases heq'
            rw [hlen]
            exact h3
          · rename_i hn hn2
            exact (hn2 _ _ _ _ hcal heq).elim
        · rename_i hn; exact absurd hop (hn _)
      · exact .inr (.inr (.inl ⟨rfl, hw⟩))
    · cases h
  · rename_i hnc
    split at h
    · rename_i c0 a0 hp
      obtain ⟨hc, h9⟩ := bif_some h
      clear h
      cases h9
      subst hc
      refine .inl ⟨rfl, rfl, fun s' ha => ?_⟩
      unfold step10 stepK0
      simp only [ha.ops]
      split
      · rename_i heq
        rw [hp] at heq
        cases heq
        rfl
      · rename_i heq
        rw [hp] at heq
        cases heq
    · rename_i hp
      split at h
      · rename_i t y x hop heq
        split at h
        · rename_i id hid
          split at h
          · rename_i c0 a0 hlk
            obtain ⟨hc, h9⟩ := bif_some h
            clear h
            cases h9
            subst hc
            refine .inr (.inl ⟨id, rfl, rfl, fun s' ha hb => ?_⟩)
            unfold step10 stepK0
            simp only [ha.ops]
            split
            · rename_i heq0
              rw [hp] at heq0
              cases heq0
            · split
              · rename_i t' y' x' hop' heq'
                rw [hop] at hop'
                cases hop'
                rw [heq] at heq'
                cases heq'
                rw [hid]
                simp only [hb]
                rw [hlk]
                rfl
              · rename_i hn
                exact (hn _ _ _ hop heq).elim
          · cases h
        · cases h
      · split at h
        · rename_i hnl c0 a0 u0 hp2
          obtain ⟨hc, h9⟩ := bif_some h
          cases h9
          by_cases hbs : (∃ t n ps, o.op = .buildSlice t n ps) ∧ u = []
          · obtain ⟨⟨t, n, ps, hop⟩, rfl⟩ := hbs
            have hcl : wCl (E := E) o.op [] = .p := by rw [hop]; rfl
            rw [hcl]
            refine .inl ⟨rfl, rfl, fun s' ha => ?_⟩
            subst hc
            have hkey : wA tt H f s'.b o.op o.type (o.dst.getD 100000) (List.map (evo gl s.t) o.op.operands.toList) = some (true, a, []) := by
              rw [hop] at hp2 ⊢
              exact wA_parts hp2 s'.b
            unfold step10 stepK0
            simp only [ha.ops]
            split
            · rename_i heq0
              rw [hp] at heq0
              cases heq0
            · split
              · rename_i heq'
                rw [hkey] at heq'
                cases heq'
                rw [hop]
                rfl
              · rename_i heq'
                rw [hkey] at heq'
                cases heq'
          · by_cases hcv : ∃ src dst y i e xs, o.op = .convert src dst y ∧ u = [(i, Blk.row e xs)]
            · obtain ⟨src, dst, y, i, e, xs, hop, rfl⟩ := hcv
              have hcl : wCl (E := E) o.op [(i, Blk.row e xs)] = .n [i] := by rw [hop]; rfl
              rw [hcl]
              refine .inr (.inr (.inr (.inl ⟨rfl, fun s' ha hfr => ?_⟩)))
              subst hc
              have hkey : wA tt H f s'.b o.op o.type (o.dst.getD 100000) (List.map (evo gl s.t) o.op.operands.toList) = some (true, a, [(i, Blk.row e xs)]) := by
                rw [hop] at hp2 ⊢
                exact wA_conv hp2 s'.b (hfr i (by simp))
              unfold step10 stepK0
              simp only [ha.ops]
              split
              · rename_i heq0
                rw [hp] at heq0
                cases heq0
              · split
                · rename_i heq'
                  rw [hkey] at heq'
                  cases heq'
                  rw [hop]
                  rfl
                · rename_i heq'
                  rw [hkey] at heq'
                  cases heq'
            · by_cases hin : ∃ t y w z i v es, o.op = .insert t y (.const (.string w)) z ∧ u = [(i, Blk.mp .str v es)]
              · obtain ⟨t, y, w, z, i, v, es, hop, rfl⟩ := hin
                have hcl : wCl (E := E) o.op [(i, Blk.mp .str v es)] = .k i w.data.toList := by rw [hop]; rfl
                rw [hcl]
                subst hc
                have hq : putM tt s.b t (evo gl s.t y) (.c (.string w)) (evo gl s.t z) = some (true, a, [(i, .mp .str v es)]) := by
                  rw [hop] at hp2
                  exact hp2
                obtain ⟨z', es0, k1, k2, k3, k4, k5⟩ := putM_ins hq
                subst k1 k2
                refine .inr (.inr (.inr (.inr ⟨i, w.data.toList, v, z', es0, rfl, rfl, rfl, k3, k4, fun s' ha es' hb' hany => ?_⟩)))
                have hkey : wA tt H f s'.b o.op o.type (o.dst.getD 100000) (List.map (evo gl s.t) o.op.operands.toList) = some (true, .undef, [(i, .mp .str v (insS (V := E.D v) w.data.toList z' es'))]) := by
                  rw [hop]
                  exact k5 s'.b es' hb' hany
                show step10 tt gl H call f s' o = _
                unfold step10 stepK0
                simp only [ha.ops]
                split
                · rename_i heq0
                  rw [hp] at heq0
                  cases heq0
                · split
                  · rename_i heq'
                    rw [hkey] at heq'
                    cases heq'
                    rw [hop]
                    rfl
                  · rename_i heq'
                    rw [hkey] at heq'
                    cases heq'
              have hcl : wCl o.op u = .w (u.map (·.1)) := by
                unfold wCl
                split
                · rename_i t n ps hop
                  exact absurd ⟨⟨t, n, ps, hop⟩, rfl⟩ hbs
                · rename_i src dst y i e xs hop
                  exact absurd ⟨src, dst, y, i, e, xs, hop, rfl⟩ hcv
                · rename_i t y w z i v es hop
                  exact absurd ⟨t, y, w, z, i, v, es, hop, rfl⟩ hin
                · rfl
              rw [hcl] at hw ⊢
              exact .inr (.inr (.inl ⟨rfl, hw⟩))
        · cases h

theorem step1_cl {call : CallF E} {f : FuncId} {s : St E} {o : Oper} {cl : Cl} {a : AV E} {u : Upd E} (h : step1 tt gl H call f s o = some (cl, a, u)) :
    (cl = .p ∧ u = [] ∧ ∀ s', Agree gl s s' o → step1 tt gl H call f s' o = some (.p, a, [])) ∨
    (∃ id, cl = .l id ∧ u = [] ∧ ∀ s', Agree gl s s' o → blk s'.b id = blk s.b id → step1 tt gl H call f s' o = some (.l id, a, [])) ∨
    (cl = .w (u.map (·.1)) ∧ ∀ s', Agree gl s s' o → s'.b = s.b → step1 tt gl H call f s' o = some (cl, a, u)) ∨
    (cl = .n (u.map (·.1)) ∧ ∀ s', Agree gl s s' o → (∀ i ∈ u.map (·.1), free s'.b i = free s.b i) → step1 tt gl H call f s' o = some (cl, a, u)) ∨
    KChar (fun s' => step1 tt gl H call f s' o) (fun s' => Agree gl s s' o) s cl a u := by
  cases hf : funpOf o.op (o.op.operands.toList.map (evo gl s.t)) with
  | none =>
    have e : ∀ s', Agree gl s s' o → step1 tt gl H call f s' o = step10 tt gl H call f s' o := fun s' ha => by rw [step1_eq, ha.ops, hf]
    rw [e s ⟨rfl, rfl⟩] at h
    rcases step10_cl h with ⟨h1, h2, h3⟩ | ⟨id, h1, h2, h3⟩ | ⟨h1, h3⟩ | ⟨h1, h3⟩ | ⟨i, key, v, z, es, h1, h2, h3, h4, h5, h6⟩
    · exact .inl ⟨h1, h2, fun s' ha => by rw [e s' ha]; exact h3 s' ha⟩
    · exact .inr (.inl ⟨id, h1, h2, fun s' ha hb => by rw [e s' ha]; exact h3 s' ha hb⟩)
    · exact .inr (.inr (.inl ⟨h1, fun s' ha hb => by rw [e s' ha]; exact h3 s' ha hb⟩))
    · exact .inr (.inr (.inr (.inl ⟨h1, fun s' ha hb => by rw [e s' ha]; exact h3 s' ha hb⟩)))
    · exact .inr (.inr (.inr (.inr ⟨i, key, v, z, es, h1, h2, h3, h4, h5, fun s' ha es' k1 k2 => by
        show step1 tt gl H call f s' o = _
        rw [e s' ha]; exact h6 s' ha es' k1 k2⟩)))
  | some q =>
    obtain ⟨g, ps, args⟩ := q
    rw [step1_eq, hf] at h
    refine .inr (.inr (.inl ⟨callP1_cl h, fun s' ha hb => ?_⟩))
    rw [step1_eq, ha.ops, hf, hb, ha.len]
    exact h

end Go.Proofs.YtbmpjppfdeohnaaDoor.Fv

/-! Operations that change places. -/
namespace Go.Proofs.YtbmpjppfdeohnaaDoor.Fv
variable [Quiet] [Dfr]
variable {E : Env} {P : Program} {tt : Nat → Option TE} {gl : Nat → AV E} {H : Hints} {M M' : Mem} {μ μ' : Mu} {b b' : List (Blk E)} {w w' : World}

structure AgreeG (gl : Nat → AV E) (all : List Oper) (s s' : St E) (o : Oper) : Prop where
  ag : Agree gl s s' o
  guard : ∀ j want d, o.guard = some (j, want) → dstOf all j = some d → s'.t.getD d .undef = s.t.getD d .undef

/-- What an operation's outcome hangs on. -/
def Hangs (F : St E → Option (Res E)) (ag : St E → Prop) (s : St E) (cl : Cl) (a : AV E) (u : Upd E) : Prop :=
  (cl = .p ∧ u = [] ∧ ∀ s', ag s' → F s' = some (.p, a, [])) ∨ (∃ id, cl = .l id ∧ u = [] ∧ ∀ s', ag s' → blk s'.b id = blk s.b id → F s' = some (.l id, a, [])) ∨ (cl = .w (u.map (·.1)) ∧ ∀ s', ag s' → s'.b = s.b → F s' = some (cl, a, u)) ∨ (cl = .n (u.map (·.1)) ∧ ∀ s', ag s' → (∀ i ∈ u.map (·.1), free s'.b i = free s.b i) → F s' = some (cl, a, u)) ∨ KChar F ag s cl a u
theorem act1_cl {call : CallF E} {f : FuncId} {all : List Oper} {s : St E} {o : Oper} {cl : Cl} {a : AV E} {u : Upd E} (h : act1 tt gl H call f all s o = some (cl, a, u)) :
    Hangs (fun s' => act1 tt gl H call f all s' o) (fun s' => AgreeG gl all s s' o) s cl a u := by
  have core : ∀ (k : ∀ s', AgreeG gl all s s' o → act1 tt gl H call f all s' o = step1 tt gl H call f s' o), step1 tt gl H call f s o = some (cl, a, u) → Hangs (fun s' => act1 tt gl H call f all s' o) (fun s' => AgreeG gl all s s' o) s cl a u := fun k h1 => by
    rcases step1_cl h1 with ⟨h2, h3, h4⟩ | ⟨id, h2, h3, h4⟩ | ⟨h2, h4⟩ | ⟨h2, h4⟩ | ⟨i, key, v, z, es, e1, e2, e3, e4, e5, e6⟩
    · exact Or.inl ⟨h2, h3, fun s' ha => (k s' ha).trans (h4 s' ha.ag)⟩
    · exact Or.inr (.inl ⟨id, h2, h3, fun s' ha hb => (k s' ha).trans (h4 s' ha.ag hb)⟩)
    · exact Or.inr (.inr (.inl ⟨h2, fun s' ha hb => (k s' ha).trans (h4 s' ha.ag hb)⟩))
    · exact Or.inr (.inr (.inr (.inl ⟨h2, fun s' ha hb => (k s' ha).trans (h4 s' ha.ag hb)⟩)))
    · exact Or.inr (.inr (.inr (.inr ⟨i, key, v, z, es, e1, e2, e3, e4, e5, fun s' ha es' hb hn => (k s' ha).trans (e6 s' ha.ag es' hb hn)⟩)))
  unfold act1 at h
  cases hg : o.guard with
  | none =>
    rw [hg] at h
    exact core (fun s' _ => by unfold act1; rw [hg]) h
  | some g =>
    obtain ⟨j, want⟩ := g
    rw [hg] at h
    simp only at h
    cases hd : dstOf all j with
    | none => rw [hd] at h; cases h
    | some d =>
      rw [hd] at h
      simp only at h
      split at h
      · rename_i bb hb
        cases hbw : eqb bb want with
        | true =>
          rw [hbw] at h
          exact core (fun s' ha => by
            unfold act1
            rw [hg]
            simp only
            rw [hd]
            simp only
            rw [ha.guard j want d hg hd, hb]
            simp only
            rw [hbw]
            rfl) h
        | false =>
          rw [hbw] at h
          cases h
          refine .inl ⟨rfl, rfl, fun s' ha => ?_⟩
          show act1 tt gl H call f all s' o = _
          unfold act1
          rw [hg]
          simp only
          rw [hd]
          simp only
          rw [ha.guard j want d hg hd, hb]
          simp only
          rw [hbw]
          rfl
      · rename_i vv hb
        cases hnb : noB vv with
        | false => rw [hnb] at h; cases h
        | true =>
          rw [hnb] at h
          cases h
          refine .inl ⟨rfl, rfl, fun s' ha => ?_⟩
          show act1 tt gl H call f all s' o = _
          unfold act1
          rw [hg]
          simp only
          rw [hd]
          simp only
          rw [ha.guard j want d hg hd, hb]
          simp only
          rw [hnb]
          rfl
      · cases h
end Go.Proofs.YtbmpjppfdeohnaaDoor.Fv

/-! Two operations that change places. -/
namespace Go.Proofs.YtbmpjppfdeohnaaDoor.Fv
variable [Quiet] [Dfr]
variable {E : Env} {P : Program} {tt : Nat → Option TE} {gl : Nat → AV E} {H : Hints} {M M' : Mem} {μ μ' : Mu} {b b' : List (Blk E)} {w w' : World}

theorem AgreeG.symm {all : List Oper} {s s' : St E} {o : Oper} (h : AgreeG gl all s s' o) : AgreeG gl all s' s o :=
  ⟨⟨h.ag.len.symm, h.ag.ops.symm⟩, fun j want d h1 h2 => (h.guard j want d h1 h2).symm⟩
theorem did_agree {all : List Oper} {s : St E} {d : Option Nat} {a : AV E} {u : Upd E} {y : Oper} (h : ∀ d', d = some d' → d' ∉ opUses all y) : AgreeG gl all s (s.did d a u) y := by
  have hget : ∀ i, i ∈ opUses all y → (s.did d a u).t.getD i .undef = s.t.getD i .undef := by
    intro i hi
    cases d with
    | none => rfl
    | some d' =>
      have : d' ≠ i := fun e => h d' rfl (e ▸ hi)
      show (s.t.set d' a).getD i .undef = _
      simp only [List.getD_eq_getElem?_getD, List.getElem?_set_ne this]
  refine ⟨⟨?_, ?_⟩, fun j want d' h1 h2 => ?_⟩
  · cases d with
    | none => rfl
    | some d' => show (s.t.set d' a).length = _; simp
  · refine List.map_congr_left fun x hx => ?_
    cases x with
    | tmp t =>
      refine hget t ?_
      unfold opUses
      exact List.mem_append_right _ (List.mem_filterMap.2 ⟨.tmp t, hx, rfl⟩)
    | _ => rfl
  · refine hget d' ?_
    unfold opUses
    refine List.mem_append_left _ ?_
    rw [h1]
    simp only
    rw [show (all[j]?).bind (·.dst) = some d' from h2]
    simp

theorem apart_spec {all : List Oper} {x y : Oper} (h : apart all x y = true) : (∀ d, x.dst = some d → d ∉ opUses all y) ∧ (∀ d, y.dst = some d → d ∉ opUses all x) ∧ ∀ d, x.dst = some d → y.dst ≠ some d := by
  unfold apart at h
  rw [Bool.and_eq_true] at h
  obtain ⟨h1, h2⟩ := h
  refine ⟨fun d hd => ?_, fun d hd => ?_, fun d hd => ?_⟩
  · rw [hd] at h1
    simp at h1
    exact h1.2
  · rw [hd] at h2
    simp at h2
    exact h2
  · rw [hd] at h1
    simp at h1
    exact h1.1

theorem upds_comm : ∀ (u v : Upd E) (b : List (Blk E)), (∀ p ∈ u, ∀ q ∈ v, p.1 ≠ q.1) → upds (upds b u) v = upds (upds b v) u
  | [], v, b, _ => rfl
  | (i, x) :: u, v, b, h => by
    have key : ∀ (v : Upd E) (b : List (Blk E)), (∀ q ∈ v, i ≠ q.1) → upds (b.set i x) v = (upds b v).set i x := by
      intro v
      induction v with
      | nil => intro b _; rfl
      | cons q v ih =>
        intro b hq
        obtain ⟨j, y⟩ := q
        show upds ((b.set i x).set j y) v = (upds (b.set j y) v).set i x
        rw [List.set_comm _ _ (hq (j, y) (by simp)), ih _ fun q h => hq q (by simp [h])]
    show upds (upds (b.set i x) u) v = upds ((upds b v).set i x) u
    rw [upds_comm u v (b.set i x) fun p hp q hq => h p (by simp [hp]) q hq, key v b fun q hq => h (i, x) (by simp) q hq]
theorem upds_get {i : Nat} : ∀ (u : Upd E) (b : List (Blk E)), (∀ p ∈ u, p.1 ≠ i) → (upds b u)[i]? = b[i]?
  | [], _, _ => rfl
  | (j, x) :: u, b, h => by
    show (upds (b.set j x) u)[i]? = _
    rw [upds_get u _ fun p hp => h p (by simp [hp]), List.getElem?_set_ne (h (j, x) (by simp))]
theorem free_upds {u : Upd E} {b : List (Blk E)} {i : Nat} (h : ∀ p ∈ u, p.1 ≠ i) : free (upds b u) i = free b i := by
  unfold free
  rw [upds_get u b h]
/-! ### Keys in their order -/
theorem bl_irr : ∀ a : List UInt8, bytesLess a a = false
  | [] => rfl
  | x :: a => by
    have h : ¬ x < x := UInt8.lt_irrefl x
    simp [bytesLess, h, bl_irr a]
theorem bl_tri : ∀ a b : List UInt8, a ≠ b → bytesLess a b = false → bytesLess b a = true
  | [], [], h, _ => absurd rfl h
  | [], _ :: _, _, h => by simp [bytesLess] at h
  | _ :: _, [], _, _ => rfl
  | x :: a, y :: b, h, h1 => by
    simp only [bytesLess, Bool.or_eq_false_iff, Bool.and_eq_false_iff, decide_eq_false_iff_not, beq_eq_false_iff_ne] at h1
    simp only [bytesLess, Bool.or_eq_true, Bool.and_eq_true, decide_eq_true_eq, beq_iff_eq]
    by_cases hxy : x = y
    · subst hxy
      right
      refine ⟨rfl, bl_tri a b (fun e => h (by rw [e])) ?_⟩
      rcases h1.2 with h2 | h2
      · exact absurd rfl h2
      · exact h2
    · left
      have h3 := h1.1
      have h4 : x.toNat ≠ y.toNat := fun e => hxy (UInt8.toNat_inj.1 e)
      rw [UInt8.lt_iff_toNat_lt] at h3 ⊢
      omega
theorem bl_trans : ∀ a b c : List UInt8, bytesLess a b = true → bytesLess b c = true → bytesLess a c = true
  | _, [], _, h, _ => by simp [bytesLess] at h
  | _, _ :: _, [], _, h => by simp [bytesLess] at h
  | [], _ :: _, _ :: _, _, _ => rfl
  | x :: a, y :: b, z :: c, h1, h2 => by
    simp only [bytesLess, Bool.or_eq_true, Bool.and_eq_true, decide_eq_true_eq, beq_iff_eq] at h1 h2 ⊢
    rcases h1 with h1 | ⟨rfl, h1⟩
    · rcases h2 with h2 | ⟨rfl, h2⟩
      · left
        rw [UInt8.lt_iff_toNat_lt] at *
        omega
      · exact .inl h1
    · rcases h2 with h2 | ⟨rfl, h2⟩
      · exact .inl h2
      · exact .inr ⟨rfl, bl_trans a b c h1 h2⟩
theorem bl_asym {a b : List UInt8} (h : bytesLess a b = true) : bytesLess b a = false := by
  cases h2 : bytesLess b a with
  | false => rfl
  | true =>
    have := bl_trans a b a h h2
    rw [bl_irr] at this
    cases this
theorem ins_comm {V : Type} {y1 y2 : List UInt8} (hne : y1 ≠ y2) (z1 z2 : V) : ∀ es : List (List UInt8 × V), insS y1 z1 (insS y2 z2 es) = insS y2 z2 (insS y1 z1 es)
  | [] => by
    cases h : bytesLess y1 y2 with
    | true => simp [insS, h, bl_asym h]
    | false => simp [insS, h, bl_tri _ _ hne h]
  | p :: r => by
    cases h1 : bytesLess y1 p.1 with
    | true =>
      cases h2 : bytesLess y2 p.1 with
      | true =>
        cases h : bytesLess y1 y2 with
        | true => simp [insS, h1, h2, h, bl_asym h]
        | false => simp [insS, h1, h2, h, bl_tri _ _ hne h]
      | false =>
        have h : bytesLess y2 y1 = false := by
          cases h : bytesLess y2 y1 with
          | false => rfl
          | true => rw [bl_trans _ _ _ h h1] at h2; cases h2
        simp [insS, h1, h2, h]
    | false =>
      cases h2 : bytesLess y2 p.1 with
      | true =>
        have h : bytesLess y1 y2 = false := by
          cases h : bytesLess y1 y2 with
          | false => rfl
          | true => rw [bl_trans _ _ _ h h2] at h1; cases h1
        simp [insS, h1, h2, h]
      | false => simp [insS, h1, h2, ins_comm hne z1 z2 r]
theorem any_ins {V : Type} (y : List UInt8) (z : V) (x : List UInt8) : ∀ es : List (List UInt8 × V), (List.any (insS y z es) fun p => p.1 == x) = ((y == x) || List.any es fun p => p.1 == x)
  | [] => by simp [insS]
  | p :: r => by
    cases h : bytesLess y p.1 with
    | true => simp [insS, h]
    | false =>
      simp only [insS, h, cond_false, List.any_cons, any_ins y z x r]
      cases (y == x) <;> cases (p.1 == x) <;> rfl
/-- .. but no text's entry. -/
def Hangs0 (F : St E → Option (Res E)) (ag : St E → Prop) (s : St E) (cl : Cl) (a : AV E) (u : Upd E) : Prop :=
  (cl = .p ∧ u = [] ∧ ∀ s', ag s' → F s' = some (.p, a, [])) ∨ (∃ id, cl = .l id ∧ u = [] ∧ ∀ s', ag s' → blk s'.b id = blk s.b id → F s' = some (.l id, a, [])) ∨ (cl = .w (u.map (·.1)) ∧ ∀ s', ag s' → s'.b = s.b → F s' = some (cl, a, u)) ∨ (cl = .n (u.map (·.1)) ∧ ∀ s', ag s' → (∀ i ∈ u.map (·.1), free s'.b i = free s.b i) → F s' = some (cl, a, u))
theorem Hangs.no {F : St E → Option (Res E)} {ag : St E → Prop} {s : St E} {cl : Cl} {a : AV E} {u : Upd E} (h : Hangs F ag s cl a u) (hk : ∀ i k, cl ≠ .k i k) : Hangs0 F ag s cl a u := by
  rcases h with h | h | h | h | ⟨i, k, _, _, _, e, _⟩
  · exact .inl h
  · exact .inr (.inl h)
  · exact .inr (.inr (.inl h))
  · exact .inr (.inr (.inr h))
  · exact absurd e (hk i k)
theorem swap_step0 {call : CallF E} {f : FuncId} {all : List Oper} {s : St E} {x y : Oper} {clx cly : Cl} {ax ay : AV E} {ux uy : Upd E} (hkx : ∀ i k, clx ≠ .k i k) (hky : ∀ i k, cly ≠ .k i k) (hap : apart all x y = true) (hcl : clash clx cly = false)
    (hx : act1 tt gl H call f all s x = some (clx, ax, ux)) (hy : act1 tt gl H call f all (s.did x.dst ax ux) y = some (cly, ay, uy)) :
    act1 tt gl H call f all s y = some (cly, ay, uy) ∧ act1 tt gl H call f all (s.did y.dst ay uy) x = some (clx, ax, ux) ∧ (s.did x.dst ax ux).did y.dst ay uy = (s.did y.dst ay uy).did x.dst ax ux := by
  obtain ⟨p1, p2, p3⟩ := apart_spec hap
  have ay1 : AgreeG gl all (s.did x.dst ax ux) s y := (did_agree (gl := gl) (a := ax) (u := ux) (s := s) p1).symm
  have ax1 : AgreeG gl all s (s.did y.dst ay uy) x := did_agree (gl := gl) (a := ay) (u := uy) (s := s) p2
  have hX := Hangs.no (act1_cl hx) hkx
  have hY := Hangs.no (act1_cl hy) hky
  have ht : (s.did x.dst ax ux).t = setD s.t x.dst ax := rfl
  have hset : setD (setD s.t x.dst ax) y.dst ay = setD (setD s.t y.dst ay) x.dst ax := by
    cases hdx : x.dst with
    | none => rfl
    | some dx =>
      cases hdy : y.dst with
      | none => rfl
      | some dy =>
        have : dx ≠ dy := fun e => p3 dx hdx (by rw [hdy, e])
        exact List.set_comm _ _ this
  -- which of the two turns blocks
  have fin : ux = [] ∨ uy = [] → (s.did x.dst ax ux).did y.dst ay uy = (s.did y.dst ay uy).did x.dst ax ux := by
    intro h
    unfold St.did
    simp only [hset]
    rcases h with rfl | rfl <;> rfl
  rcases hX with ⟨rfl, rfl, hX⟩ | ⟨ix, rfl, rfl, hX⟩ | ⟨rfl, hX⟩ | ⟨rfl, hX⟩
  · have hY' : act1 tt gl H call f all s y = some (cly, ay, uy) := by
      rcases hY with ⟨rfl, rfl, hY⟩ | ⟨iy, rfl, rfl, hY⟩ | ⟨rfl, hY⟩ | ⟨rfl, hY⟩
      · exact hY s ay1
      · exact hY s ay1 rfl
      · exact hY s ay1 rfl
      · exact hY s ay1 fun _ _ => rfl
    exact ⟨hY', hX _ ax1, fin (.inl rfl)⟩
  · have hY' : act1 tt gl H call f all s y = some (cly, ay, uy) := by
      rcases hY with ⟨rfl, rfl, hY⟩ | ⟨iy, rfl, rfl, hY⟩ | ⟨rfl, hY⟩ | ⟨rfl, hY⟩
      · exact hY s ay1
      · exact hY s ay1 rfl
      · exact hY s ay1 rfl
      · exact hY s ay1 fun _ _ => rfl
    refine ⟨hY', hX _ ax1 ?_, fin (.inl rfl)⟩
    rcases hY with ⟨rfl, rfl, hY⟩ | ⟨iy, rfl, rfl, hY⟩ | ⟨rfl, hY⟩ | ⟨rfl, hY⟩
    · rfl
    · rfl
    · show blk (upds s.b uy) ix = blk s.b ix
      refine upds_out _ _ _ fun p hp he => ?_
      have : (uy.map (·.1)).contains ix = false := hcl
      simp only [List.contains_eq_mem, decide_eq_false_iff_not, List.mem_map, not_exists, not_and] at this
      exact this p hp he
    · show blk (upds s.b uy) ix = blk s.b ix
      refine upds_out _ _ _ fun p hp he => ?_
      have : (uy.map (·.1)).contains ix = false := hcl
      simp only [List.contains_eq_mem, decide_eq_false_iff_not, List.mem_map, not_exists, not_and] at this
      exact this p hp he
  · rcases hY with ⟨rfl, rfl, hY⟩ | ⟨iy, rfl, rfl, hY⟩ | ⟨rfl, hY⟩ | ⟨rfl, hY⟩
    · exact ⟨hY s ay1, hX _ ax1 rfl, fin (.inr rfl)⟩
    · refine ⟨hY s ay1 ?_, hX _ ax1 rfl, fin (.inr rfl)⟩
      show blk s.b iy = blk (upds s.b ux) iy
      refine (upds_out _ _ _ fun p hp he => ?_).symm
      have : (ux.map (·.1)).contains iy = false := hcl
      simp only [List.contains_eq_mem, decide_eq_false_iff_not, List.mem_map, not_exists, not_and] at this
      exact this p hp he
    · cases hcl
    · cases hcl
  · rcases hY with ⟨rfl, rfl, hY⟩ | ⟨iy, rfl, rfl, hY⟩ | ⟨rfl, hY⟩ | ⟨rfl, hY⟩
    · exact ⟨hY s ay1, hX _ ax1 fun _ _ => rfl, fin (.inr rfl)⟩
    · refine ⟨hY s ay1 ?_, hX _ ax1 fun _ _ => rfl, fin (.inr rfl)⟩
      show blk s.b iy = blk (upds s.b ux) iy
      refine (upds_out _ _ _ fun p hp he => ?_).symm
      have : (ux.map (·.1)).contains iy = false := hcl
      simp only [List.contains_eq_mem, decide_eq_false_iff_not, List.mem_map, not_exists, not_and] at this
      exact this p hp he
    · cases hcl
    · have hd : ∀ p ∈ ux, ∀ q ∈ uy, p.1 ≠ q.1 := by
        intro p hp q hq he
        have hcl : ((ux.map (·.1)).any fun i => (uy.map (·.1)).contains i) = false := hcl
        have h2 := List.any_eq_false.1 hcl p.1 (List.mem_map.2 ⟨p, hp, rfl⟩)
        exact h2 (by rw [List.contains_eq_mem]; exact decide_eq_true (List.mem_map.2 ⟨q, hq, he.symm⟩))
      refine ⟨hY s ay1 fun i hi => ?_, hX _ ax1 fun i hi => ?_, ?_⟩
      · obtain ⟨q, hq, rfl⟩ := List.mem_map.1 hi
        show free s.b q.1 = free (upds s.b ux) q.1
        exact (free_upds fun p hp => hd p hp q hq).symm
      · obtain ⟨p, hp, rfl⟩ := List.mem_map.1 hi
        show free (upds s.b uy) p.1 = free s.b p.1
        exact free_upds fun q hq => fun e => hd p hp q hq e.symm
      · unfold St.did
        simp only [hset]
        rw [upds_comm ux uy s.b hd]
theorem swap_step {call : CallF E} {f : FuncId} {all : List Oper} {s : St E} {x y : Oper} {clx cly : Cl} {ax ay : AV E} {ux uy : Upd E} (hap : apart all x y = true) (hcl : clash clx cly = false)
    (hx : act1 tt gl H call f all s x = some (clx, ax, ux)) (hy : act1 tt gl H call f all (s.did x.dst ax ux) y = some (cly, ay, uy)) :
    ∃ ux' uy', act1 tt gl H call f all s y = some (cly, ay, uy') ∧ act1 tt gl H call f all (s.did y.dst ay uy') x = some (clx, ax, ux') ∧ (s.did x.dst ax ux).did y.dst ay uy = (s.did y.dst ay uy').did x.dst ax ux' := by
  obtain ⟨p1, p2, p3⟩ := apart_spec hap
  have ay1 : AgreeG gl all (s.did x.dst ax ux) s y := (did_agree (gl := gl) (a := ax) (u := ux) (s := s) p1).symm
  have ax1 : ∀ u, AgreeG gl all s (s.did y.dst ay u) x := fun u => did_agree (gl := gl) (a := ay) (u := u) (s := s) p2
  have hX := act1_cl hx
  have hY := act1_cl hy
  have hset : setD (setD s.t x.dst ax) y.dst ay = setD (setD s.t y.dst ay) x.dst ax := by
    cases hdx : x.dst with
    | none => rfl
    | some dx =>
      cases hdy : y.dst with
      | none => rfl
      | some dy =>
        have : dx ≠ dy := fun e => p3 dx hdx (by rw [hdy, e])
        exact List.set_comm _ _ this
  have both : ∀ u1 u2 u3 u4 : Upd E, upds (upds s.b u1) u2 = upds (upds s.b u3) u4 → (s.did x.dst ax u1).did y.dst ay u2 = (s.did y.dst ay u3).did x.dst ax u4 := by
    intro u1 u2 u3 u4 h
    unfold St.did
    simp only [hset, h]
  have out1 : ∀ (i j : Nat) (B : Blk E), i ≠ j → blk (upds s.b [(i, B)]) j = blk s.b j := fun i j B h => upds_out _ _ _ fun p hp he => by
    rw [List.mem_singleton.1 hp] at he
    exact h he
  by_cases hkx : ∃ i k, clx = .k i k
  · rcases hX with ⟨rfl, _⟩ | ⟨_, rfl, _⟩ | ⟨rfl, _⟩ | ⟨rfl, _⟩ | ⟨i, a, v, z, es, rfl, rfl, rfl, hb, hany, hX⟩
    · obtain ⟨_, _, e⟩ := hkx; cases e
    · obtain ⟨_, _, e⟩ := hkx; cases e
    · obtain ⟨_, _, e⟩ := hkx; cases e
    · obtain ⟨_, _, e⟩ := hkx; cases e
    have hil : i < s.b.length := blk_lt (by rw [hb]; simp)
    rcases hY with ⟨rfl, rfl, hY⟩ | ⟨iy, rfl, rfl, hY⟩ | ⟨rfl, hY⟩ | ⟨rfl, hY⟩ | ⟨j, c, v2, z2, es2, rfl, rfl, rfl, hb2, hany2, hY⟩
    · exact ⟨_, [], hY s ay1, hX _ (ax1 []) es hb hany, both _ _ _ _ rfl⟩
    · have hne : i ≠ iy := by
        have : (i == iy) = false := hcl
        exact beq_eq_false_iff_ne.1 this
      exact ⟨_, [], hY s ay1 (out1 i iy _ hne).symm, hX _ (ax1 []) es hb hany, both _ _ _ _ rfl⟩
    · cases hcl
    · cases hcl
    · by_cases hij : i = j
      · subst hij
        have hac : a ≠ c := by
          intro e
          subst e
          have : (i == i && a == a) = false := hcl
          simp at this
        have hbb : blk (upds s.b [(i, .mp .str v (insS (V := E.D v) a z es))]) i = .mp .str v (insS (V := E.D v) a z es) := blk_set_self hil _
        have hb2 : blk (upds s.b [(i, .mp .str v (insS (V := E.D v) a z es))]) i = .mp .str v2 es2 := hb2
        rw [hbb] at hb2
        injection hb2 with _ e1 e2
        subst e1
        have e2 := eq_of_heq e2
        subst e2
        have hany2 : (List.any (insS (V := E.D v) a z es) fun p => p.1 == c) = false := hany2
        have hany2 := Bool.or_eq_false_iff.1 ((any_ins (V := E.D v) a z c es).symm.trans hany2)
        have h3 : (List.any (insS (V := E.D v) c z2 es) fun p => p.1 == a) = false := (any_ins (V := E.D v) c z2 a es).trans (Bool.or_eq_false_iff.2 ⟨beq_eq_false_iff_ne.2 fun e => hac e.symm, hany⟩)
        refine ⟨_, _, hY s ay1 es hb hany2.2, hX _ (ax1 _) (insS (V := E.D v) c z2 es) (blk_set_self hil _) h3, both _ _ _ _ ?_⟩
        show (s.b.set i _).set i _ = (s.b.set i _).set i _
        rw [List.set_set, List.set_set]
        exact congrArg (fun l => s.b.set i (.mp .str v l)) (ins_comm (V := E.D v) hac z z2 es).symm
      · have hb3 : blk s.b j = .mp .str v2 es2 := (out1 i j _ hij).symm.trans hb2
        refine ⟨_, _, hY s ay1 es2 hb3 hany2, hX _ (ax1 _) es ((out1 j i _ fun e => hij e.symm).trans hb) hany, both _ _ _ _ (upds_comm _ _ _ fun p hp q hq => ?_)⟩
        rw [List.mem_singleton.1 hp, List.mem_singleton.1 hq]
        exact hij
  · by_cases hky : ∃ i k, cly = .k i k
    · rcases hY with ⟨rfl, _⟩ | ⟨_, rfl, _⟩ | ⟨rfl, _⟩ | ⟨rfl, _⟩ | ⟨j, c, v2, z2, es2, rfl, rfl, rfl, hb2, hany2, hY⟩
      · obtain ⟨_, _, e⟩ := hky; cases e
      · obtain ⟨_, _, e⟩ := hky; cases e
      · obtain ⟨_, _, e⟩ := hky; cases e
      · obtain ⟨_, _, e⟩ := hky; cases e
      rcases hX with ⟨rfl, rfl, hX⟩ | ⟨ix, rfl, rfl, hX⟩ | ⟨rfl, hX⟩ | ⟨rfl, hX⟩ | ⟨i, a, _, _, _, e, _⟩
      · exact ⟨[], _, hY s ay1 es2 hb2 hany2, hX _ (ax1 _), both _ _ _ _ rfl⟩
      · have hne : j ≠ ix := by
          have : (j == ix) = false := hcl
          exact beq_eq_false_iff_ne.1 this
        exact ⟨[], _, hY s ay1 es2 hb2 hany2, hX _ (ax1 _) (out1 j ix _ hne), both _ _ _ _ rfl⟩
      · cases hcl
      · cases hcl
      · exact absurd ⟨i, a, e⟩ hkx
    · exact ⟨ux, uy, swap_step0 (fun i k e => hkx ⟨i, k, e⟩) (fun i k e => hky ⟨i, k, e⟩) hap hcl hx hy⟩
end Go.Proofs.YtbmpjppfdeohnaaDoor.Fv

/-! A drawn region's operations in whatever order. -/
namespace Go.Proofs.YtbmpjppfdeohnaaDoor.Fv
variable [Quiet] [Dfr]
variable {E : Env} {P : Program} {tt : Nat → Option TE} {gl : Nat → AV E} {H : Hints} {M M' : Mem} {μ μ' : Mu} {b b' : List (Blk E)} {w w' : World}

/-- Operations by their numbers, each of its class. -/
inductive RunC (tt : Nat → Option TE) (gl : Nat → AV E) (H : Hints) (call : CallF E) (f : FuncId) (all : List Oper) (cls : Nat → Cl) : List Nat → St E → St E → Prop
  | nil (s : St E) : RunC tt gl H call f all cls [] s s
  | cons {i : Nat} {r : List Nat} {s s' : St E} {o : Oper} {a : AV E} {u : Upd E} (ho : all[i]? = some o) (h : act1 tt gl H call f all s o = some (cls i, a, u)) (t : RunC tt gl H call f all cls r (s.did o.dst a u) s') : RunC tt gl H call f all cls (i :: r) s s'

/-- May two of them change places? -/
def Comm (all : List Oper) (cls : Nat → Cl) (i j : Nat) : Prop := ∀ x y, all[i]? = some x → all[j]? = some y → apart all x y = true ∧ clash (cls i) (cls j) = false

theorem RunC.swap {call : CallF E} {f : FuncId} {all : List Oper} {cls : Nat → Cl} {i j : Nat} {r : List Nat} {s s' : St E} (h : RunC tt gl H call f all cls (i :: j :: r) s s') (hc : Comm all cls i j) : RunC tt gl H call f all cls (j :: i :: r) s s' := by
  cases h with
  | cons ho h t => cases t with
    | cons ho' h' t' =>
      obtain ⟨h1, h2⟩ := hc _ _ ho ho'
      obtain ⟨_, _, k1, k2, k3⟩ := swap_step h1 h2 h h'
      refine .cons ho' k1 (.cons ho k2 ?_)
      rw [← k3]
      exact t'
theorem RunC.bubble {call : CallF E} {f : FuncId} {all : List Oper} {cls : Nat → Cl} {j : Nat} {post : List Nat} {s' : St E} : ∀ (pre : List Nat) (s : St E), (∀ i ∈ pre, Comm all cls i j) → RunC tt gl H call f all cls (pre ++ j :: post) s s' → RunC tt gl H call f all cls (j :: (pre ++ post)) s s'
  | [], s, _, h => h
  | i :: pre, s, hc, h => by
    cases h with
    | cons ho h t =>
      have := RunC.bubble pre _ (fun k hk => hc k (List.mem_cons_of_mem _ hk)) t
      exact RunC.swap (.cons ho h this) (hc i (by simp))

/-- Known to come before. -/
inductive Reach (all : List Oper) : Nat → Nat → Prop
  | edge {j : Nat} {o : Oper} {e : Edge} (ho : all[j]? = some o) (he : e ∈ o.after) (hb : Region.binds .any e = true) : Reach all j e.on
  | step {j i : Nat} {o : Oper} {e : Edge} (ho : all[j]? = some o) (he : e ∈ o.after) (hb : Region.binds .any e = true) (h : Reach all e.on i) : Reach all j i

theorem fold_bit (acc : List Nat) (i : Nat) : ∀ (l : List Edge) (m : Nat), (l.foldl (fun m e => bif Region.binds .any e then m ||| 2 ^ e.on ||| acc.getD e.on 0 else m) m).testBit i = true →
    m.testBit i = true ∨ ∃ e ∈ l, Region.binds .any e = true ∧ (e.on = i ∨ (acc.getD e.on 0).testBit i = true)
  | [], m, h => .inl h
  | e :: l, m, h => by
    simp only [List.foldl_cons] at h
    rcases fold_bit acc i l _ h with h1 | ⟨e', he, h2⟩
    · cases hb : Region.binds .any e with
      | false => rw [hb] at h1; exact .inl h1
      | true =>
        rw [hb] at h1
        simp only [cond_true, Nat.testBit_or, Bool.or_eq_true] at h1
        rcases h1 with (h1 | h1) | h1
        · exact .inl h1
        · rw [Nat.testBit_two_pow] at h1
          exact .inr ⟨e, by simp, hb, .inl (by simpa using h1)⟩
        · exact .inr ⟨e, by simp, hb, .inr h1⟩
    · exact .inr ⟨e', List.mem_cons_of_mem _ he, h2⟩

theorem masks_sound (all : List Oper) : ∀ (r pre : List Oper) (acc : List Nat), all = pre ++ r → acc.length = pre.length → (∀ j i, (acc.getD j 0).testBit i = true → Reach all j i) →
    ∀ j i, ((masks r acc).getD j 0).testBit i = true → Reach all j i
  | [], pre, acc, _, _, h => h
  | o :: r, pre, acc, ha, hl, h => by
    refine masks_sound all r (pre ++ [o]) _ (by simp [ha]) (by simp [hl]) ?_
    intro j i hj
    rw [List.getD_eq_getElem?_getD] at hj
    rcases Nat.lt_or_ge j acc.length with hlt | hge
    · rw [List.getElem?_append_left hlt, ← List.getD_eq_getElem?_getD] at hj
      exact h j i hj
    · rw [List.getElem?_append_right hge] at hj
      by_cases h0 : j - acc.length = 0
      · rw [h0] at hj
        simp only [List.getElem?_cons_zero, Option.getD_some] at hj
        have hjo : all[j]? = some o := by
          rw [ha, List.getElem?_append_right (by omega), show j - pre.length = 0 by omega]
          rfl
        rcases fold_bit acc i _ _ hj with h1 | ⟨e, he, hb, h2⟩
        · simp at h1
        · have he' : e ∈ o.after := Array.mem_toList_iff.1 he
          rcases h2 with rfl | h2
          · exact .edge hjo he' hb
          · exact .step hjo he' hb (h _ _ h2)
      · obtain ⟨n, hn⟩ := Nat.exists_eq_succ_of_ne_zero h0
        rw [hn] at hj
        simp at hj

/-- Listed ones have listed ones ahead. -/
def Down (all : List Oper) (listed : Nat → Bool) : Prop := ∀ j, listed j = true → ∀ o, all[j]? = some o → ∀ e ∈ o.after, Region.binds .any e = true → listed e.on = true
theorem Reach.listed {all : List Oper} {listed : Nat → Bool} (hd : Down all listed) {j i : Nat} (h : Reach all j i) : (∀ o, all[j]? = some o → ∀ e ∈ o.after, Region.binds .any e = true → listed e.on = true) → listed i = true := by
  induction h with
  | edge ho he hb => exact fun hj => hj _ ho _ he hb
  | step ho he hb _ ih => exact fun hj => ih (hd _ (hj _ ho _ he hb))
end Go.Proofs.YtbmpjppfdeohnaaDoor.Fv

/-! Drawn regions, the whole. -/
namespace Go.Proofs.YtbmpjppfdeohnaaDoor.Fv
variable [Quiet] [Dfr]
variable {E : Env} {P : Program} {tt : Nat → Option TE} {gl : Nat → AV E} {H : Hints} {M M' : Mem} {μ μ' : Mu} {b b' : List (Blk E)} {w w' : World}

theorem freeRow_spec (all : List Oper) (m : Nat) (y : Oper × Cl) : ∀ (l : List (Oper × Cl)) (i : Nat), freeGo.freeRow all m y l i = true → ∀ k x, l[k]? = some x → m.testBit (i + k) = true ∨ (clash x.2 y.2 = false ∧ apart all x.1 y.1 = true)
  | [], i, h, k, x, hk => by simp at hk
  | z :: l, i, h, k, x, hk => by
    simp only [freeGo.freeRow, Bool.and_eq_true, Bool.or_eq_true, Bool.not_eq_true'] at h
    match k, hk with
    | 0, hk =>
      simp only [List.getElem?_cons_zero, Option.some.injEq] at hk
      subst hk
      exact h.1
    | k + 1, hk =>
      have := freeRow_spec all m y l (i + 1) h.2 k x (by simpa using hk)
      rw [show i + 1 + k = i + (k + 1) by omega] at this
      exact this
theorem freeGo_spec (all : List Oper) (ms : List Nat) : ∀ (r acc : List (Oper × Cl)) (j : Nat), j = acc.length → freeGo all ms acc r j = true → ∀ k y, r[k]? = some y →
    (∀ e ∈ y.1.after, Region.binds .any e = true → e.on < j + k) ∧ ∀ i x, i < j + k → (acc.reverse ++ r)[i]? = some x → (ms.getD (j + k) 0).testBit i = true ∨ (clash x.2 y.2 = false ∧ apart all x.1 y.1 = true)
  | [], acc, j, hj, h, k, y, hk => by simp at hk
  | z :: r, acc, j, hj, h, k, y, hk => by
    simp only [freeGo, Bool.and_eq_true] at h
    obtain ⟨⟨h1, h2⟩, h3⟩ := h
    match k, hk with
    | 0, hk =>
      simp only [List.getElem?_cons_zero, Option.some.injEq] at hk
      subst hk
      refine ⟨fun e he hb => ?_, fun i x hi hx => ?_⟩
      · simp only [List.all_eq_true, Bool.or_eq_true, Bool.not_eq_true', decide_eq_true_eq] at h1
        rcases h1 e (Array.mem_toList_iff.2 he) with h4 | h4
        · rw [hb] at h4; cases h4
        · exact h4
      · rw [List.getElem?_append_left (by simp; omega)] at hx
        have := freeRow_spec all _ z acc.reverse 0 h2 i x hx
        rwa [Nat.zero_add] at this
    | k + 1, hk =>
      have := freeGo_spec all ms r (z :: acc) (j + 1) (by simp [hj]) h3 k y (by simpa using hk)
      rw [show j + 1 + k = j + (k + 1) by omega] at this
      refine ⟨this.1, fun i x hi hx => this.2 i x hi (by simpa using hx)⟩

theorem opsK_run {call : CallF E} {f : FuncId} {all : List Oper} {α : Type} {k : List Cl → St E → Option α} {res : α} : ∀ (r pre : List Oper) (acc : List Cl) (s : St E), all = pre ++ r → acc.length = pre.length → opsK tt gl H call f all r acc s k = some res →
    ∃ (cl : List Cl) (s' : St E), cl.length = r.length ∧ k (acc.reverse ++ cl) s' = some res ∧ RunC tt gl H call f all (fun i => (acc.reverse ++ cl).getD i .p) (List.range' pre.length r.length) s s'
  | [], pre, acc, s, ha, hl, h => ⟨[], s, rfl, by rw [List.append_nil]; exact h, .nil s⟩
  | o :: r, pre, acc, s, ha, hl, h => by
    rw [opsK_cons] at h
    obtain ⟨⟨c, a, u⟩, h1, h2⟩ := Option.bind_eq_some_iff.1 h
    obtain ⟨cl, s', k1, k2, k3⟩ := opsK_run r (pre ++ [o]) (c :: acc) (s.did o.dst a u) (by simp [ha]) (by simp [hl]) h2
    have e1 : (c :: acc).reverse ++ cl = acc.reverse ++ (c :: cl) := by simp
    rw [e1] at k2 k3
    refine ⟨c :: cl, s', by simp [k1], k2, ?_⟩
    rw [List.length_cons, List.range'_succ]
    refine .cons (o := o) (a := a) (u := u) (by rw [ha, List.getElem?_append_right (Nat.le_refl _)]; simp) ?_ (by simpa using k3)
    have e2 : (acc.reverse ++ (c :: cl)).getD pre.length .p = c := by
      rw [List.getD_eq_getElem?_getD, List.getElem?_append_right (by simp [hl])]
      simp [hl]
    rw [e2]
    exact h1

/-- The ones that are left. -/
def rem (n : Nat) (listed : Array Bool) : List Nat := (List.range n).filter fun i => !listed.getD i true
theorem rem_split {n i : Nat} {listed : Array Bool} (hi : i < n) (hs : listed.size = n) (hl : listed.getD i true = false) : ∃ pre post, rem n listed = pre ++ i :: post ∧ rem n (listed.setIfInBounds i true) = pre ++ post ∧ ∀ j ∈ pre, j < i ∧ listed.getD j true = false := by
  have e : List.range n = List.range i ++ i :: (List.range (n - i - 1)).map (fun x => i + 1 + x) := by
    have h1 : n = i + (1 + (n - i - 1)) := by omega
    conv => lhs; rw [h1]
    rw [List.range_add, Nat.add_comm 1, List.range_succ_eq_map]
    simp [List.map_map, Function.comp_def, Nat.add_assoc, Nat.add_comm]
    intros
    omega
  have hother : ∀ j, j ≠ i → (listed.setIfInBounds i true).getD j true = listed.getD j true := fun j hj => getD_set_ne true (Ne.symm hj)
  have hself : (listed.setIfInBounds i true).getD i true = true := by simp [hs, hi]
  refine ⟨(List.range i).filter (fun j => !listed.getD j true), ((List.range (n - i - 1)).map (fun x => i + 1 + x)).filter (fun j => !listed.getD j true), ?_, ?_, ?_⟩
  · unfold rem
    rw [e, List.filter_append, List.filter_cons_of_pos (by simp [hl])]
  · unfold rem
    rw [e, List.filter_append, List.filter_cons_of_neg (by simp [hself])]
    congr 1
    · refine List.filter_congr fun j hj => ?_
      rw [hother j (by have := List.mem_range.1 hj; omega)]
    · refine List.filter_congr fun j hj => ?_
      obtain ⟨x, _, rfl⟩ := List.mem_map.1 hj
      rw [hother _ (by omega)]
  · intro j hj
    have := List.mem_filter.1 hj
    exact ⟨List.mem_range.1 this.1, by simpa using this.2⟩
end Go.Proofs.YtbmpjppfdeohnaaDoor.Fv

/-! Drawn regions: the theorem. -/
namespace Go.Proofs.YtbmpjppfdeohnaaDoor.Fv
variable [Quiet] [Dfr]
variable {E : Env} {P : Program} {tt : Nat → Option TE} {gl : Nat → AV E} {H : Hints} {M M' : Mem} {μ μ' : Mu} {b b' : List (Blk E)} {w w' : World}

theorem getD_iff {listed : Array Bool} {i : Nat} (h : i < listed.size) : listed.getD i true = listed.getD i false := by
  simp [Array.getD, h]
theorem any_loop (hE : EnvOK E) (hz : ∀ (M : Mem) n, RC M (.nm n) (E.dfl n) (E.zc n)) (hT : TOK P E tt) {call : CallF E} (hC : CallOK P gl call) {S : Since E} (hL : S.L ≤ S.b.length) (hgl : GlOK S.M gl) {f : FuncId} {all : List Oper} {cls : Nat → Cl} {s' : St E} {Q : Exit → Act → World → Prop}
    (hfin : ∀ act w, Inv gl S s' act w → Q .normal act w) (hback : ∀ j o, all[j]? = some o → ∀ e ∈ o.after, Region.binds .any e = true → e.on < j)
    (hcomm : ∀ i j, i < j → j < all.length → ¬ Reach all j i → Comm all cls i j) :
    ∀ (fuel : Nat) (listed : Array Bool) (s : St E) (act : Act) (w : World), listed.size = all.length → Down all (fun i => listed.getD i false) → (rem all.length listed).length ≤ fuel → RunC tt gl H call f all cls (rem all.length listed) s s' → Inv gl S s act w →
      wpAny P .any all.toArray Q fuel listed act w := by
  have hready : ∀ (listed : Array Bool), listed.size = all.length → Region.ready .any all.toArray listed = [] → rem all.length listed = [] := by
    intro listed hs hr
    have key : ∀ i, i < all.length → listed.getD i true = true := by
      intro i
      induction i using Nat.strongRecOn with
      | _ i ih =>
        intro hi
        cases hl : listed.getD i true with
        | true => rfl
        | false =>
          exfalso
          have : i ∈ Region.ready .any all.toArray listed := by
            rw [mem_ready]
            refine ⟨hl, all[i], by simp [hi], fun e he hb => ?_⟩
            have h1 := hback i all[i] (by simp [hi]) e he hb
            rw [← getD_iff (by omega)]
            exact ih e.on h1 (by omega)
          rw [hr] at this
          simp at this
    unfold rem
    rw [List.filter_eq_nil_iff]
    intro i hi
    simp only [key i (List.mem_range.1 hi), Bool.not_true, Bool.false_eq_true, not_false_iff]
  intro fuel
  induction fuel with
  | zero =>
    intro listed s act w hs hd hlen hrun hI
    have h0 : rem all.length listed = [] := List.length_eq_zero_iff.1 (by omega)
    rw [h0] at hrun
    cases hrun
    refine ⟨?_, hfin _ _ hI⟩
    cases hr : Region.ready .any all.toArray listed with
    | nil => rfl
    | cons i l =>
      exfalso
      have hi : i ∈ Region.ready .any all.toArray listed := by rw [hr]; simp
      obtain ⟨h1, o, h2, _⟩ := mem_ready.1 hi
      have hin : i < all.length := by
        have := (Array.getElem?_eq_some_iff.1 h2).1
        simpa using this
      have : i ∈ rem all.length listed := List.mem_filter.2 ⟨List.mem_range.2 hin, by simp only [h1, Bool.not_false]⟩
      rw [h0] at this
      simp at this
  | succ fuel ih =>
    intro listed s act w hs hd hlen hrun hI
    refine ⟨fun hr => ?_, fun i hi => ?_⟩
    · rw [hready listed hs hr] at hrun
      cases hrun
      exact hfin _ _ hI
    · obtain ⟨h1, o, h2, h3⟩ := mem_ready.1 hi
      have hin : i < all.length := by
        have := (Array.getElem?_eq_some_iff.1 h2).1
        simpa using this
      have h2' : all[i]? = some o := by simpa using h2
      obtain ⟨pre, post, e1, e2, e3⟩ := rem_split hin hs h1
      rw [e1] at hrun
      have hrun' := RunC.bubble pre s (fun j hj => by
        obtain ⟨k1, k2⟩ := e3 j hj
        refine hcomm j i k1 hin fun hre => ?_
        have := hre.listed (listed := fun i => listed.getD i false) hd (fun o' ho' e he hb => by
          rw [h2'] at ho'
          cases ho'
          exact h3 e he hb)
        rw [getD_iff (by omega)] at k2
        rw [k2] at this
        cases this) hrun
      cases hrun' with
      | cons ho h t =>
        rename_i o' a u
        refine wpOp_of hE hz hT hC hL hgl hI h (by simpa using ho) fun act' w' hI' => ?_
        refine ih (listed.setIfInBounds i true) _ act' w' (by simp [hs]) ?_ ?_ (by rw [e2]; exact t) hI'
        · intro j hj o1 ho1 e he hb
          by_cases hji : j = i
          · subst hji
            rw [h2'] at ho1
            cases ho1
            exact getD_set_true (h3 e he hb)
          · have hj : (listed.setIfInBounds i true).getD j false = true := hj
            rw [getD_set_ne false (Ne.symm hji)] at hj
            exact getD_set_true (hd j hj o1 ho1 e he hb)
        · rw [e2]
          rw [e1] at hlen
          simp only [List.length_append, List.length_cons] at hlen ⊢
          omega

theorem any_ok (hE : EnvOK E) (hz : ∀ (M : Mem) n, RC M (.nm n) (E.dfl n) (E.zc n)) (hT : TOK P E tt) {call : CallF E} (hC : CallOK P gl call) (f : FuncId) (S : Since E) (hL : S.L ≤ S.b.length) (hgl : GlOK S.M gl) : AnyOK P tt gl H call S f := by
  intro ops s act w α k res Q h hI hQ
  obtain ⟨cl, s', k1, k2, k3⟩ := opsK_run (all := ops.toList) ops.toList [] [] s rfl rfl h
  simp only [List.reverse_nil, List.nil_append, List.length_nil] at k2 k3
  obtain ⟨hf, hk⟩ := bif_some k2
  unfold freeOrder at hf
  have hspec := freeGo_spec ops.toList (masks ops.toList []) (ops.toList.zip cl) [] 0 rfl hf
  have hms := masks_sound ops.toList ops.toList [] [] rfl rfl (fun j i h => by simp at h)
  have hzip : ∀ i o, ops.toList[i]? = some o → (ops.toList.zip cl)[i]? = some (o, cl.getD i .p) := by
    intro i o ho
    have hi := (List.getElem?_eq_some_iff.1 ho).1
    rw [List.getElem?_zip_eq_some]
    refine ⟨ho, ?_⟩
    rw [List.getD_of_lt _ _ _ (by omega)]
    simp
  have := any_loop (Q := Q) (H := H) (f := f) hE hz hT hC hL hgl (s' := s') (cls := fun i => cl.getD i .p) (fun act w hI => hQ s' act w hk hI)
    (fun j o ho e he hb => by
      have := (hspec j _ (hzip j o ho)).1 e he hb
      simpa using this)
    (fun i j hij hj hn x y hx hy => by
      have := (hspec j _ (hzip j y hy)).2 i _ (by omega) (by simpa using hzip i x hx)
      rw [Nat.zero_add] at this
      rcases this with h1 | h1
      · exact absurd (hms j i h1) hn
      · exact ⟨h1.2, h1.1⟩)
    ops.size (Array.replicate ops.size false) s act w (by simp) (fun j hj => by simp [Array.getD] at hj) ?_ ?_ hI
  · simpa using this
  · unfold rem
    exact Nat.le_trans (List.length_filter_le _ _) (by simp)
  · have e : rem ops.toList.length (Array.replicate ops.size false) = List.range' 0 ops.toList.length := by
      unfold rem
      rw [← List.range_eq_range', List.filter_eq_self]
      intro i hi
      have := List.mem_range.1 hi
      simp at this
      simp [this]
    rw [e]
    exact k3

omit [Dfr] in
theorem calls_ok (hE : EnvOK E) (hz : ∀ (M : Mem) n, RC M (.nm n) (E.dfl n) (E.zc n)) (hT : TOK P E tt) (hmix : P.follows .mixedOrders = true) {fs : FuncId → Option Func} (hfs : FsOK P fs) (n : Nat) : CallOK P gl (run tt gl H fs n) :=
  run_sound hE hz hT hmix hfs (fun call hC f S hL hgl => @any_ok _ dfr0 _ _ _ _ _ hE hz hT _ hC f S hL hgl) n
end Go.Proofs.YtbmpjppfdeohnaaDoor.Fv

/-! The data that a call is handed, read as typed values. -/
namespace Go.Proofs.YtbmpjppfdeohnaaDoor.Fv
variable [Quiet]
variable {E : Env} {P : Program} {tt : Nat → Option TE}

/-- In range, and of a size that memory has room for. -/
def Good0 (E : Env) (rec : (n : Nat) → E.R n → Prop) : (t : Ty) → E.D t → Prop
  | .int k, n => (Lit.int k n).wf = true
  | .str, s => List.length (α := UInt8) s ≤ reachBytes
  | .one a, v => Good0 E rec a v
  | .pair a b, v => Good0 E rec a v.1 ∧ Good0 E rec b v.2
  | .sl e, xs => List.length (α := E.D e) xs ≤ reachBytes ∧ ∀ x, List.Mem (α := E.D e) x xs → Good0 E rec e x
  | .arr n e, xs => List.length (α := E.D e) xs = n ∧ ∀ x, List.Mem (α := E.D e) x xs → Good0 E rec e x
  | .nm n, v => rec n v
  | .bool, _ => True
  | .mp _ _, _ => True
  | .any, _ => True
def GoodN (E : Env) : Nat → (n : Nat) → E.R n → Prop
  | 0, _, _ => True
  | g + 1, n, v => Good0 E (GoodN E g) (E.body n) (E.un n v)
def Good (E : Env) (g : Nat) (t : Ty) (v : E.D t) : Prop := Good0 E (GoodN E g) t v

/-- How many values and letters. -/
def Bulk0 (E : Env) (rec : (n : Nat) → E.R n → Nat) : (t : Ty) → E.D t → Nat
  | .int _, _ => 1
  | .bool, _ => 1
  | .any, _ => 0
  | .str, s => List.length (α := UInt8) s + 1
  | .one a, v => Bulk0 E rec a v
  | .pair a b, v => Bulk0 E rec a v.1 + Bulk0 E rec b v.2
  | .sl e, xs => (List.map (α := E.D e) (Bulk0 E rec e) xs).sum + 1
  | .arr _ e, xs => (List.map (α := E.D e) (Bulk0 E rec e) xs).sum
  | .nm n, v => rec n v
  | .mp _ _, _ => 0
def BulkN (E : Env) : Nat → (n : Nat) → E.R n → Nat
  | 0, _, _ => 0
  | g + 1, n, v => Bulk0 E (BulkN E g) (E.body n) (E.un n v)
def Bulk (E : Env) (g : Nat) (t : Ty) (v : E.D t) : Nat := Bulk0 E (BulkN E g) t v
/-- A measure of handed data that counts each value and letter. -/
structure IsBulk {H : Type} (f : DataW H → Nat) (fa : List (DataW H) → Nat) : Prop where
  str : ∀ b, f (.lit (.string b)) = b.length + 1
  lit : ∀ l, 1 ≤ f (.lit l)
  nil : 1 ≤ f .nil
  sl : ∀ e s, f (.slice e s) = fa e + fa s + 1
  agg : ∀ p, f (.agg p) = fa p + 1
  ni : fa [] = 0
  co : ∀ d r, fa (d :: r) = f d + fa r
theorem IsBulk.all {H : Type} {f : DataW H → Nat} {fa : List (DataW H) → Nat} (h : IsBulk f fa) : ∀ l, fa l = (l.map f).sum
  | [] => h.ni
  | d :: r => by rw [h.co, h.all r]; simp
def sumN (B : Nat → Nat) : Nat → Nat
  | 0 => 0
  | n + 1 => B 0 + sumN (fun i => B (i + 1)) n
theorem sumN_list (l : List Nat) : sumN (fun i => l.getD i 0) l.length = l.sum := by
  induction l with
  | nil => rfl
  | cons a l ih => simp only [List.length_cons, sumN, List.sum_cons]; rw [← ih]; rfl
theorem sum_le {l r : List Nat} : ∀ (hl : l.length = r.length), (∀ i (h : i < l.length), l[i] ≤ r[i]'(by omega)) → l.sum ≤ r.sum := by
  induction l generalizing r with
  | nil => intro _ _; exact Nat.zero_le _
  | cons a l ih =>
    intro hl h
    cases r with
    | nil => simp at hl
    | cons b r =>
      simp only [List.sum_cons]
      have h1 := h 0 (by simp)
      have h2 := ih (r := r) (by simpa using hl) fun i hi => h (i + 1) (Nat.succ_lt_succ hi)
      simp only [List.getElem_cons_zero] at h1
      omega

def wfTail : Ty → Bool
  | .one _ => true
  | .pair _ b => wfTail b
  | _ => false
def rdOK (P : Program) (E : Env) (x : TE) : Bool := match x.d with
  | .int _ | .bool | .str | .arr _ _ => true
  | .slice el => decide (1 ≤ P.bytesOf el)
  | .struct _ => wfTail (bodyOf E x.ty) && (bodyOf E x.ty).full
  | _ => false
def RdOK (P : Program) (E : Env) (tt : Nat → Option TE) : Prop := ∀ t x, tt t = some x → x.ty.full = true → rdOK P E x = true

theorem mapM_some {α β : Type} {f : α → Option β} : ∀ {l : List α} {r : List β}, l.mapM f = some r → r.length = l.length ∧ ∀ i (h : i < l.length), ∃ h' : i < r.length, f l[i] = some r[i]
  | [], r, h => by
    simp at h
    subst h
    exact ⟨rfl, fun i h => by simp at h⟩
  | a :: l, r, h => by
    rw [List.mapM_cons] at h
    cases h1 : f a with
    | none => simp [h1] at h
    | some b =>
      cases h2 : l.mapM f with
      | none => simp [h1, h2] at h
      | some r' =>
        simp [h1, h2] at h
        subst h
        obtain ⟨i1, i2⟩ := mapM_some h2
        refine ⟨by simp [i1], fun i hi => ?_⟩
        cases i with
        | zero => exact ⟨by simp, by simpa using h1⟩
        | succ i =>
          obtain ⟨h', e⟩ := i2 i (by simpa using hi)
          exact ⟨by simpa using h', by simpa using e⟩

theorem cellsOf_eq {t : Nat} {x : TE} (hx : tt t = some x) (hT : TOK P E tt) : P.cellsOf t = size E x.ty := by
  obtain ⟨i, hi, hs⟩ := (hT t x hx).size
  simp [Program.cellsOf, hi, hs]

theorem cells_spec {W : World} {base : Nat} {a : Addr} {n : Nat} {cs : List Value} (h : W.cells? base a n = some cs) : cs.length = n ∧ (0 < n → a.spot = none) ∧ ∀ j (h : j < cs.length), W.cell? ⟨a.block, a.off + j, none⟩ = some cs[j] := by
  unfold World.cells? at h
  split at h
  · obtain ⟨h1, h2⟩ := mapM_some h
    simp only [List.length_range] at h1 h2
    have h3 : 0 < n → a.spot = none := by
      intro h0
      obtain ⟨_, e⟩ := h2 0 h0
      simp only [List.getElem_range, Addr.add, if_true, World.cell?] at e
      split at e
      · cases hs : a.spot with
        | none => rfl
        | some s => simp [hs] at e
      · cases e
    refine ⟨h1, h3, fun j hj => ?_⟩
    obtain ⟨_, e⟩ := h2 j (by omega)
    simp only [List.getElem_range] at e
    rw [← e]
    congr 1
    have := h3 (by omega)
    unfold Addr.add
    cases a
    simp only at this
    subst this
    by_cases hj0 : j = 0 <;> simp [hj0]
  · cases h

theorem fldTyS_full : ∀ (T : Ty) (i : Nat), T.full = true → i < arity T → (fldTyS T i).full = true
  | .one a, 0, h, _ => h
  | .one a, i + 1, h, hi => by simp [arity] at hi
  | .pair a b, 0, h, _ => by simp [Ty.full] at h; exact h.1
  | .pair a b, i + 1, h, hi => by simp [Ty.full] at h; exact fldTyS_full b i h.2 (by simpa [arity] using hi)
  | .int _, _, _, hi => by simp [arity] at hi
  | .bool, _, _, hi => by simp [arity] at hi
  | .str, _, _, hi => by simp [arity] at hi
  | .sl _, _, _, hi => by simp [arity] at hi
  | .arr _ _, _, _, hi => by simp [arity] at hi
  | .nm _, _, _, hi => by simp [arity] at hi
  | .mp _ _, _, _, hi => by simp [arity] at hi
  | .any, _, _, hi => by simp [arity] at hi

theorem rd_flds (M : Mem) (Q : Prop) : ∀ (T : Ty) (cs : List Value) (B : Nat → Nat), cs.length = size E T → wfTail T = true →
    (∀ i, i < arity T → ∃ v : E.D (fldTyS T i), RC M _ v ((cs.drop (fldOffS E T i)).take (size E (fldTyS T i))) ∧ (Q → ∀ g, Good E g _ v) ∧ ∀ g, Bulk E g _ v ≤ B i) →
    ∃ v : E.D T, RC M T v cs ∧ (Q → ∀ g, Good E g T v) ∧ ∀ g, Bulk E g T v ≤ sumN B (arity T)
  | .one a, cs, B, hl, _, h => by
    obtain ⟨(v : E.D a), h1, h2, h3⟩ := h 0 (by simp [arity])
    simp only [fldTyS, fldOffS, List.drop_zero] at h1 h2 h3
    rw [List.take_of_length_le (by simp [size] at hl; omega)] at h1
    exact ⟨v, RC.one (a := a) h1, h2, fun g => Nat.le_trans (h3 g) (Nat.le_add_right _ _)⟩
  | .pair a b, cs, B, hl, hw, h => by
    obtain ⟨(v : E.D a), h1, h2, h2b⟩ := h 0 (by simp [arity])
    simp only [fldTyS, fldOffS, List.drop_zero] at h1 h2 h2b
    obtain ⟨y, h3, h4, h5⟩ := rd_flds M Q b (cs.drop (size E a)) (fun i => B (i + 1)) (by simp [size] at hl; simp; omega) hw (fun i hi => by
      obtain ⟨(z : E.D (fldTyS b i)), k1, k2, k3⟩ := h (i + 1) (by simpa [arity] using hi)
      simp only [fldTyS, fldOffS] at k1 k2 k3
      rw [List.drop_drop]
      exact ⟨z, k1, k2, k3⟩)
    refine ⟨(v, y), ?_, fun q g => ⟨h2 q g, h4 q g⟩, fun g => ?_⟩
    · have := RC.pair h1 h3
      rwa [List.take_append_drop] at this
    · have e : sumN B (arity (.pair a b)) = B 0 + sumN (fun i => B (i + 1)) (arity b) := by rw [show arity (.pair a b) = arity b + 1 by simp [arity]]; rfl
      rw [e]
      have h6 := h2b g
      have h7 := h5 g
      show Bulk E g a v + Bulk E g b y ≤ _
      omega
  | .int _, _, _, _, hw, _ => by simp [wfTail] at hw
  | .bool, _, _, _, hw, _ => by simp [wfTail] at hw
  | .str, _, _, _, hw, _ => by simp [wfTail] at hw
  | .sl _, _, _, _, hw, _ => by simp [wfTail] at hw
  | .arr _ _, _, _, _, hw, _ => by simp [wfTail] at hw
  | .nm _, _, _, _, hw, _ => by simp [wfTail] at hw
  | .mp _ _, _, _, _, hw, _ => by simp [wfTail] at hw
  | .any, _, _, _, hw, _ => by simp [wfTail] at hw

theorem fldsOK_spec : ∀ {fs : List (Nat × Nat)} {T : Ty} {k : Nat}, fldsOK E tt T fs k = true → ∀ i (h : i < fs.length), fldTy T (k + i) = tyOf tt fs[i].1 ∧ fldOff E T (k + i) = fs[i].2 ∧ (tt fs[i].1).isSome = true
  | [], _, _, _, i, h => by simp at h
  | f :: fs, T, k, hf, i, h => by
    simp only [fldsOK, Bool.and_eq_true, decide_eq_true_eq] at hf
    cases i with
    | zero => exact ⟨hf.1.1.1.1, hf.1.1.1.2, hf.1.2⟩
    | succ i =>
      have := fldsOK_spec hf.2 i (by simpa using h)
      rw [show k + 1 + i = k + (i + 1) by omega] at this
      simpa using this

theorem wfTail_fld {T : Ty} (h : wfTail T = true) (i : Nat) : fldTy T i = fldTyS T i ∧ fldOff E T i = fldOffS E T i := by
  cases T <;> first | exact ⟨rfl, rfl⟩ | simp [wfTail] at h

section
variable {H : Type} {enc : TypeId × Value → H}

theorem weightsAll_mem {e : Nat} : ∀ {ds : List (DataW H)}, (DataW.weightsAll P e ds).all (· ≤ reachBytes) = true → ∀ d ∈ ds, (d.weights P e).all (· ≤ reachBytes) = true
  | [], _, d, hd => by simp at hd
  | a :: l, h, d, hd => by
    simp only [DataW.weightsAll, List.all_append, Bool.and_eq_true] at h
    rcases List.mem_cons.1 hd with rfl | hd
    · exact h.1
    · exact weightsAll_mem h.2 d hd
theorem weightsEach_get : ∀ {ts : List Nat} {ds : List (DataW H)}, (DataW.weightsEach P ts ds).all (· ≤ reachBytes) = true → ∀ i (h1 : i < ts.length) (h2 : i < ds.length), (ds[i].weights P ts[i]).all (· ≤ reachBytes) = true
  | [], _, _, _, h1, _ => by simp at h1
  | _ :: _, [], _, _, _, h2 => by simp at h2
  | t :: ts, d :: ds, h, i, h1, h2 => by
    simp only [DataW.weightsEach, List.all_append, Bool.and_eq_true] at h
    cases i with
    | zero => exact h.1
    | succ i => exact weightsEach_get h.2 i (by simpa using h1) (by simpa using h2)

theorem chunks {cs : List Value} {n k : Nat} (hl : cs.length = n * k) : ((List.range n).map fun i => (cs.drop (i * k)).take k).flatten = cs := by
  induction n generalizing cs with
  | zero => simp at hl; simp [hl]
  | succ n ih =>
    rw [List.range_succ_eq_map]
    simp only [List.map_cons, List.map_map, List.flatten_cons, Nat.zero_mul, List.drop_zero]
    have := ih (cs := cs.drop k) (by simp [hl, Nat.succ_mul])
    have e : ((fun i => (cs.drop (i * k)).take k) ∘ Nat.succ) = fun i => ((cs.drop k).drop (i * k)).take k := by
      funext i
      simp only [Function.comp, List.drop_drop, Nat.succ_mul]
      rw [Nat.add_comm]
    rw [e, this, List.take_append_drop]

theorem listOf {α : Type} {p : Nat → α → Prop} : ∀ {n : Nat}, (∀ i, i < n → ∃ z, p i z) → ∃ zs : List α, zs.length = n ∧ ∀ i (hi : i < zs.length), p i zs[i]
  | 0, _ => ⟨[], rfl, fun i hi => by simp at hi⟩
  | n + 1, h => by
    obtain ⟨zs, k1, k2⟩ := listOf (p := p) (n := n) fun i hi => h i (by omega)
    obtain ⟨z, hz⟩ := h n (by omega)
    refine ⟨zs ++ [z], by simp [k1], fun i hi => ?_⟩
    by_cases hin : i < zs.length
    · rw [List.getElem_append_left hin]
      exact k2 i hin
    · have : i = zs.length := by simp at hi; omega
      subst this
      rw [List.getElem_append_right (Nat.le_refl _)]
      simp only [Nat.sub_self, List.getElem_cons_zero, k1]
      exact hz

theorem trod_rc {f : DataW H → Nat} {fa : List (DataW H) → Nat} (hB : IsBulk f fa) (hE : EnvOK E) (hT : TOK P E tt) (hR : RdOK P E tt) (W : World) (base : Nat) (spare : Nat → Bool) (held : Bool) : ∀ (fuel t : Nat) (x : TE) (cs : List Value) (d : DataW H) (ps : List MemPlace),
    tt t = some x → x.ty.full = true → DataW.trod enc P W base spare held fuel t cs = some (d, ps) →
    ∃ v : E.D x.ty, RC (memOf W) x.ty v cs ∧ ((d.weights P t).all (· ≤ reachBytes) = true → ∀ g, Good E g x.ty v) ∧ ∀ g, Bulk E g x.ty v ≤ f d
  | 0, _, _, _, _, _, _, _, h => by cases h
  | fuel + 1, t, x, cs, d, ps, hx, hf, h => by
    obtain ⟨u, hu, ha, hd⟩ := (hT t x hx).und
    have hr := hR t x hx hf
    have hsz := cellsOf_eq hx hT
    obtain ⟨ty, xd⟩ := x
    unfold DataW.trod at h
    simp only at hd ha hf hr hsz
    cases xd with
    | int k =>
      obtain ⟨rfl, rfl⟩ := hd
      simp only [hu] at h
      split at h <;> try (cases h; done)
      all_goals simp_all only [Option.some.injEq, TypeDesc.int.injEq, reduceCtorEq]
      rename_i k' n hk
      split at h
      · rename_i hc
        obtain ⟨hk', hw⟩ := hc
        rw [hk', hk]
        exact ⟨n, .int _ n, fun _ g => hw, fun g => by injection h with h; injection h with h; rw [← h]; exact hB.lit _⟩
      · cases h
    | bool =>
      obtain ⟨rfl, rfl⟩ := hd
      simp only [hu] at h
      split at h <;> try (cases h; done)
      all_goals simp_all only [Option.some.injEq, reduceCtorEq]
      exact ⟨_, .bool _, fun _ g => trivial, fun g => by injection h with h; rw [← h]; exact hB.lit _⟩
    | str =>
      obtain ⟨rfl, rfl⟩ := hd
      simp only [hu] at h
      split at h <;> try (cases h; done)
      all_goals simp_all only [Option.some.injEq, reduceCtorEq]
      split at h
      · simp only [Option.some.injEq, Prod.mk.injEq] at h
        obtain ⟨rfl, rfl⟩ := h
        refine ⟨_, .str _, fun hw g => ?_, fun g => Nat.le_of_eq (hB.str _).symm⟩
        simp [DataW.weights] at hw
        simpa [Good, Good0] using hw
      · cases h
    | slice el =>
      obtain ⟨rfl, hd⟩ := hd
      rcases hd with rfl | ⟨rfl, hfe, hse, _, hp, _⟩
      · simp [Ty.full] at hf
      obtain ⟨y, hy⟩ := Option.isSome_iff_exists.1 hse
      rw [tyOf_some hy] at hfe hp ⊢
      have hcy := cellsOf_eq hy hT
      simp only [hu] at h
      split at h <;> try (cases h; done)
      all_goals simp_all only [Option.some.injEq, TypeDesc.slice.injEq, reduceCtorEq]
      · exact ⟨([] : List _), .sl [] none 0 (fun _ => []) (Nat.le_refl _) (fun i hi => by simp at hi) (fun i hi => by simp at hi) (fun _ => rfl), fun _ g => ⟨Nat.zero_le _, fun z hz => nomatch hz⟩, fun g => by injection h with h; rw [← h]; exact hB.nil⟩
      · rename_i e a len cap hb1 hb2 hee
        subst hee
        split at h
        · rename_i hc
          cases h1 : (List.range len).mapM fun i => (W.cells? base (a.add (i * size E y.ty)) (size E y.ty)).bind (DataW.trod enc P W base spare held fuel el) with
          | none => simp [h1] at h
          | some xs =>
            simp only [h1, Option.bind_some, Option.map_eq_some_iff, Prod.mk.injEq] at h
            obtain ⟨rest, hrest, hd1, hd2⟩ := h
            obtain ⟨m1, m2⟩ := mapM_some h1
            simp only [List.length_range, List.getElem_range] at m1 m2
            let Bq : Nat → Nat := fun i => (xs.map fun x => f x.1).getD i 0
            have m3 : ∀ i : Nat, i < len → ∃ (cz : List Value) (z : E.D y.ty), W.cells? base (a.add (i * size E y.ty)) (size E y.ty) = some cz ∧ RC (memOf W) y.ty z cz ∧ (((d.weights P t).all (· ≤ reachBytes) = true) → ∀ g, Good E g y.ty z) ∧ ∀ g, Bulk E g y.ty z ≤ Bq i := by
              intro i hi
              obtain ⟨hi', e⟩ := m2 i hi
              cases hc : W.cells? base (a.add (i * size E y.ty)) (size E y.ty) with
              | none => simp [hc] at e
              | some cz =>
                rw [hc, Option.bind_some] at e
                obtain ⟨z, r1, r2, r3⟩ := trod_rc hB hE hT hR W base spare held fuel el y cz _ _ hy hfe e
                refine ⟨cz, z, rfl, r1, fun hw => r2 ?_, fun g => Nat.le_trans (r3 g) (by simp [Bq, hi'])⟩
                rw [← hd1] at hw
                simp only [DataW.weights, hu, List.all_cons, List.all_append, Bool.and_eq_true] at hw
                exact weightsAll_mem hw.2.1 _ (List.mem_map.2 ⟨xs[i], List.getElem_mem _, rfl⟩)
            let css : Nat → List Value := fun i => (W.cells? base (a.add (i * size E y.ty)) (size E y.ty)).getD []
            have m4 : ∀ i : Nat, i < len → ∃ z : E.D y.ty, W.cells? base (a.add (i * size E y.ty)) (size E y.ty) = some (css i) ∧ RC (memOf W) y.ty z (css i) ∧ (((d.weights P t).all (· ≤ reachBytes) = true) → ∀ g, Good E g y.ty z) ∧ ∀ g, Bulk E g y.ty z ≤ Bq i := by
              intro i hi
              obtain ⟨cz, z, c1, c2, c3⟩ := m3 i hi
              have : css i = cz := by simp [css, c1]
              rw [this]
              exact ⟨z, c1, c2, c3⟩
            obtain ⟨zs, hzl, hzs⟩ : ∃ zs : List (E.D y.ty), zs.length = len ∧ ∀ i (hi : i < zs.length), RC (memOf W) y.ty zs[i] (css i) ∧ (((d.weights P t).all (· ≤ reachBytes) = true) → ∀ g, Good E g y.ty zs[i]) ∧ ∀ g, Bulk E g y.ty zs[i] ≤ Bq i :=
              listOf (p := fun i z => RC (memOf W) y.ty z (css i) ∧ (((d.weights P t).all (· ≤ reachBytes) = true) → ∀ g, Good E g y.ty z) ∧ ∀ g, Bulk E g y.ty z ≤ Bq i) fun i hi => let ⟨z, _, z2⟩ := m4 i hi; ⟨z, z2⟩
            have hspot : 0 < len → a.spot = none := by
              intro h0
              obtain ⟨z, c1, _⟩ := m4 0 h0
              have := (cells_spec c1).2.1 hp
              simpa [Addr.add] using this
            refine ⟨zs, ?_, fun hw g => ⟨?_, fun z hz => ?_⟩, fun g => ?_⟩
            · have := RC.sl (M := memOf W) zs (some a) cap css (by omega) (fun i hi => (hzs i hi).1) (fun i hi => ⟨a, rfl, hspot (by omega), by
                obtain ⟨z, c1, c2, _⟩ := m4 i (by omega)
                have h5 := (cells_spec c1).2.2
                have h6 := hspot (by omega)
                have e1 : (a.add (i * size E y.ty)).block = a.block := by unfold Addr.add; split <;> rfl
                have e2 : (a.add (i * size E y.ty)).off = a.off + i * size E y.ty := by unfold Addr.add; split <;> simp_all
                rw [e1, e2] at h5
                exact .of (fun j hj => memOf_cell (h5 j hj) (c2.noT _ (List.getElem_mem _))) c2.noT⟩) (fun h => nomatch h)
              rwa [hzl] at this
            · show zs.length ≤ _
              rw [← hd1] at hw
              simp only [DataW.weights, hu, List.all_cons, List.all_append, Bool.and_eq_true, decide_eq_true_eq, List.length_map] at hw
              simp [rdOK] at hr
              have : xs.length ≤ (xs.length + rest.length) * P.bytesOf el := Nat.le_trans (Nat.le_add_right _ _) (Nat.le_mul_of_pos_right _ hr)
              omega
            · obtain ⟨i, hi, rfl⟩ := List.getElem_of_mem (show z ∈ zs from hz)
              exact (hzs i hi).2.1 hw g
            · rw [← hd1, hB.sl, hB.all]
              have : (List.map (Bulk E g y.ty) zs).sum ≤ (List.map f (xs.map (·.1))).sum := sum_le (by simp [hzl, m1]) fun i hi => by
                have h8 := (hzs i (by simpa using hi)).2.2 g
                have h9 : i < xs.length := by simp at hi; omega
                simpa [Bq, h9] using h8
              show (List.map (Bulk E g y.ty) zs).sum + 1 ≤ _
              omega
        · cases h
    | struct fs =>
      obtain ⟨⟨fields, rfl, hfs⟩, har, hfo⟩ := hd
      simp only [hu] at h
      split at h <;> try (cases h; done)
      all_goals simp_all only [Option.some.injEq, TypeDesc.struct.injEq, reduceCtorEq]
      rename_i hlen
      rw [Option.map_eq_some_iff] at h
      obtain ⟨xs, hxs, he⟩ := h
      simp only [Prod.mk.injEq] at he
      obtain ⟨hd1, hd2⟩ := he
      obtain ⟨m1, m2⟩ := mapM_some hxs
      have hfl : fs.length = fields.toList.length := by rw [← hfs, List.length_map]
      have hwt : wfTail (bodyOf E ty) = true ∧ (bodyOf E ty).full = true := by simpa [rdOK] using hr
      have hsb : size E (bodyOf E ty) = size E ty := by
        cases ty <;> first | rfl | exact (hE.sz _).symm
      have key := rd_flds (E := E) (memOf W) ((d.weights P t).all (· ≤ reachBytes) = true) (bodyOf E ty) cs (fun i => (xs.map fun x => f x.1).getD i 0) (by omega) hwt.1 (by
        intro i hi
        have hi2 : i < fs.length := by omega
        have hi3 : i < fields.toList.length := by omega
        obtain ⟨f1, f2, f3⟩ := fldsOK_spec hfo i hi2
        rw [Nat.zero_add, (wfTail_fld (E := E) hwt.1 i).1] at f1
        rw [Nat.zero_add, (wfTail_fld (E := E) hwt.1 i).2] at f2
        obtain ⟨y, hy⟩ := Option.isSome_iff_exists.1 f3
        have hg : fs[i] = (fields.toList[i].type, fields.toList[i].offset) := by
          have : fs[i]? = (fields.toList.map (fun f => (f.type, f.offset)))[i]? := by rw [hfs]
          rw [List.getElem?_eq_getElem hi2, List.getElem?_map, List.getElem?_eq_getElem hi3] at this
          simpa using this
        obtain ⟨hi', e⟩ := m2 i hi3
        rw [hg] at f1 f2 hy
        simp only at f1 f2 hy
        rw [tyOf_some hy] at f1
        have hfy : y.ty.full = true := by
          rw [← f1]
          exact fldTyS_full _ i hwt.2 hi
        rw [cellsOf_eq hy hT, ← f2] at e
        obtain ⟨z, r1, r2, r3⟩ := trod_rc hB hE hT hR W base spare held fuel _ y _ _ _ hy hfy e
        rw [f1]
        refine ⟨z, r1, fun hw => r2 ?_, fun g => Nat.le_trans (r3 g) (by simp [hi'])⟩
        rw [← hd1] at hw
        simp only [DataW.weights, hu] at hw
        have := weightsEach_get hw i (by simpa using hi3) (by simpa using hi')
        simpa using this)
      have hsum : sumN (fun i => (xs.map fun x => f x.1).getD i 0) (arity (bodyOf E ty)) ≤ f d := by
        rw [← hd1, hB.agg, hB.all, show arity (bodyOf E ty) = (xs.map fun x => f x.1).length by simp; omega, sumN_list]
        simp [Function.comp_def]
      cases ty with
      | nm n =>
        have key' : ∃ v : E.D (E.body n), RC (memOf W) (E.body n) v cs ∧ (((d.weights P t).all (· ≤ reachBytes) = true) → ∀ g, Good E g (E.body n) v) ∧ ∀ g, Bulk E g (E.body n) v ≤ _ := key
        obtain ⟨v, k1, k2, k3⟩ := key'
        refine ⟨E.ro n v, .nm (by rw [hE.un_ro]; exact k1), fun hw g => ?_, fun g => ?_⟩
        · cases g with
          | zero => trivial
          | succ g =>
            show Good0 E (GoodN E g) (E.body n) (E.un n (E.ro n v))
            rw [hE.un_ro]
            exact k2 hw g
        · cases g with
          | zero => exact Nat.zero_le _
          | succ g =>
            show Bulk0 E (BulkN E g) (E.body n) (E.un n (E.ro n v)) ≤ _
            rw [hE.un_ro]
            exact Nat.le_trans (k3 g) hsum
      | _ => obtain ⟨v, k1, k2, k3⟩ := key; exact ⟨v, k1, k2, fun g => Nat.le_trans (k3 g) hsum⟩
    | arr n el =>
      obtain ⟨rfl, rfl, hse⟩ := hd
      obtain ⟨y, hy⟩ := Option.isSome_iff_exists.1 hse
      have hfe : y.ty.full = true := by rw [tyOf_some hy] at hf; simpa [Ty.full] using hf
      rw [tyOf_some hy] at hsz ⊢
      have hcy := cellsOf_eq hy hT
      simp only [hu] at h
      split at h <;> try (cases h; done)
      all_goals simp_all only [Option.some.injEq, TypeDesc.array.injEq, reduceCtorEq]
      rename_i hlen
      rw [Option.map_eq_some_iff] at h
      obtain ⟨xs, hxs, he⟩ := h
      simp only [Prod.mk.injEq] at he
      obtain ⟨hd1, hd2⟩ := he
      obtain ⟨m1, m2⟩ := mapM_some hxs
      simp only [List.length_range, List.getElem_range] at m1 m2
      have m4 : ∀ i : Nat, i < n → ∃ z : E.D y.ty, RC (memOf W) y.ty z ((cs.drop (i * size E y.ty)).take (size E y.ty)) ∧ (((d.weights P t).all (· ≤ reachBytes) = true) → ∀ g, Good E g y.ty z) ∧ ∀ g, Bulk E g y.ty z ≤ (xs.map fun x => f x.1).getD i 0 := by
        intro i hi
        obtain ⟨hi', e⟩ := m2 i hi
        obtain ⟨z, r1, r2, r3⟩ := trod_rc hB hE hT hR W base spare held fuel el y _ _ _ hy hfe e
        refine ⟨z, r1, fun hw => r2 ?_, fun g => Nat.le_trans (r3 g) (by simp [hi'])⟩
        rw [← hd1] at hw
        simp only [DataW.weights, hu] at hw
        exact weightsAll_mem hw _ (List.mem_map.2 ⟨xs[i], List.getElem_mem _, rfl⟩)
      obtain ⟨zs, hzl, hzs⟩ : ∃ zs : List (E.D y.ty), zs.length = n ∧ ∀ i (hi : i < zs.length), RC (memOf W) y.ty zs[i] ((cs.drop (i * size E y.ty)).take (size E y.ty)) ∧ (((d.weights P t).all (· ≤ reachBytes) = true) → ∀ g, Good E g y.ty zs[i]) ∧ ∀ g, Bulk E g y.ty zs[i] ≤ (xs.map fun x => f x.1).getD i 0 :=
        listOf m4
      refine ⟨zs, ?_, fun hw g => ⟨hzl, fun z hz => ?_⟩, fun g => ?_⟩
      · have := RC.arr (M := memOf W) (e := y.ty) n zs ((List.range n).map fun i => (cs.drop (i * size E y.ty)).take (size E y.ty)) hzl (by simp) (fun i hi => by
          have : i < n := by omega
          have h5 := (hzs i hi).1
          simp only [List.getD_eq_getElem?_getD, List.getElem?_map, List.getElem?_range this, Option.map_some, Option.getD_some]
          exact h5)
        rwa [chunks (by simpa [size] using hlen)] at this
      · obtain ⟨i, hi, rfl⟩ := List.getElem_of_mem (show z ∈ zs from hz)
        exact (hzs i hi).2.1 hw g
      · rw [← hd1, hB.agg, hB.all]
        have : (List.map (Bulk E g y.ty) zs).sum ≤ (List.map f (xs.map (·.1))).sum := sum_le (by simp [hzl, m1]) fun i hi => by
          have h8 := (hzs i (by simpa using hi)).2.2 g
          have h9 : i < xs.length := by simp at hi; omega
          simpa [h9] using h8
        show (List.map (Bulk E g y.ty) zs).sum ≤ _
        omega
    | _ => simp [rdOK] at hr
end
end Go.Proofs.YtbmpjppfdeohnaaDoor.Fv

/-! From what the evaluator answers to what a law's call does. -/
namespace Go.Proofs.YtbmpjppfdeohnaaDoor.Fv
variable [Quiet]
open Go.WideShapes Go.RowKit
variable {E : Env} {P : Program} {tt : Nat → Option TE} {gl : Nat → AV E} {H : Hints}

/-- Whatever a law may be handed at parameters of these types. -/
inductive Ins (E : Env) (tt : Nat → Option TE) : List Nat → List (AV E) → Prop
  | nil : Ins E tt [] []
  | cons {t : Nat} {ts : List Nat} {as : List (AV E)} (x : TE) (hx : tt t = some x) (v : E.D x.ty) (hg : ∀ g, Good E g x.ty v) (r : Ins E tt ts as) : Ins E tt (t :: ts) (.t x.ty v :: as)

theorem cases1 {t : Nat} {x : TE} (hT : TFact P E tt t x) (hr : rdOK P E x = true) {W : World} {base : Nat} {v : Value} (hv : Value.okWide P W .any base t v) : v = mkV x.ty.agg v.cells.toList := by
  obtain ⟨u, hu, ha, hd⟩ := hT.und
  obtain ⟨ty, xd⟩ := x
  cases xd with
  | int k => obtain ⟨rfl, rfl⟩ := hd; obtain ⟨n, rfl⟩ := okWide_int hu hv; rfl
  | bool => obtain ⟨rfl, rfl⟩ := hd; obtain ⟨n, rfl⟩ := okWide_bool hu hv; rfl
  | str => obtain ⟨rfl, rfl⟩ := hd; obtain ⟨n, rfl⟩ := okWide_string hu hv; rfl
  | slice el =>
    obtain ⟨rfl, hd⟩ := hd
    obtain ⟨a, l, c, rfl⟩ := okWide_slice hu hv
    simp only at ha
    rw [← ha]
    rfl
  | struct fs =>
    obtain ⟨⟨fields, rfl, _⟩, _⟩ := hd
    obtain ⟨cs, rfl, _⟩ := okWide_struct hu hv
    simp only at ha
    rw [← ha]
    simp [mkV, aggD, Value.cells]
  | arr n el =>
    obtain ⟨rfl, rfl, _⟩ := hd
    unfold Value.okWide at hv
    rw [hu] at hv
    obtain ⟨cs, rfl, _⟩ := hv
    simp [mkV, Ty.agg, Value.cells]
  | _ => simp [rdOK] at hr

section
variable {Hh : Type} {enc : TypeId × Value → Hh}

def bulkA (E : Env) (g : Nat) : AV E → Nat
  | .t ty v => Bulk E g ty v
  | _ => 0
mutual
/-- A measure that counts something, for a law that asks for no bound. -/
def cnt : DataW Hh → Nat
  | .lit (.string b) => b.length + 1
  | .lit _ => 1
  | .nil => 1
  | .ptr _ => 1
  | .slice e s => cntAll e + cntAll s + 1
  | .agg p => cntAll p + 1
  | .iface _ _ => 1
  | .map _ => 1
  | .held _ => 1
def cntAll : List (DataW Hh) → Nat
  | [] => 0
  | d :: r => cnt d + cntAll r
end
theorem cnt_bulk : IsBulk (cnt : DataW Hh → Nat) cntAll where
  str b := by simp [cnt]
  lit l := by cases l <;> simp [cnt]
  nil := by simp [cnt]
  sl e s := by simp [cnt]
  agg p := by simp [cnt]
  ni := by simp [cntAll]
  co d r := by simp [cntAll]
/-- The arguments, read. -/
theorem args_read {bf : DataW Hh → Nat} {ba : List (DataW Hh) → Nat} (hB : IsBulk bf ba) (hE : EnvOK E) (hT : TOK P E tt) (hR : RdOK P E tt) (μ : Mu) (W : World) (base : Nat) : ∀ {ts : List Nat} {args : List Value} {ds : List (DataW Hh)} {ps : List MemPlace},
    DataW.TrodAll enc P W 0 (fun _ => true) true ts args ds ps → (DataW.weightsEach P ts ds).all (· ≤ reachBytes) = true →
    (∀ (j : Nat) t v, ts[j]? = some t → args[j]? = some v → Value.okWide P W .any base t v) →
    (∀ t ∈ ts, ∃ x, tt t = some x ∧ x.ty.full = true) → ∃ as, Ins E tt ts as ∧ RSL (memOf W) μ as args ∧ as.length = ts.length ∧ ∀ g, (as.map (bulkA E g)).sum ≤ ba ds
  | [], [], [], _, _, _, _, _ => ⟨[], .nil, .nil, rfl, fun _ => Nat.zero_le _⟩
  | t :: ts, v :: vs, d :: ds, _, h, hz, hv, ht => by
    obtain ⟨p, q, ⟨fuel, h1⟩, h2, _⟩ := h
    obtain ⟨x, hx, hf⟩ := ht t (by simp)
    simp only [DataW.weightsEach, List.all_append, Bool.and_eq_true] at hz
    obtain ⟨y, r1, r2, r4⟩ := trod_rc hB hE hT hR W 0 (fun _ => true) true fuel t x _ d p hx hf h1
    obtain ⟨as, i1, i2, i3, i4⟩ := args_read hB hE hT hR μ W base h2 hz.2 (fun j t' v' a b => hv (j + 1) t' v' (by simpa using a) (by simpa using b)) (fun t' h' => ht t' (by simp [h']))
    refine ⟨.t x.ty y :: as, .cons x hx y (r2 hz.1) i1, .cons ?_ i2, by simp [i3], fun g => by rw [hB.co, List.map_cons, List.sum_cons]; exact Nat.add_le_add (r4 g) (i4 g)⟩
    have := cases1 (hT t x hx) (hR t x hx hf) (hv 0 t v rfl rfl)
    rw [this]
    exact RS.v (a := .t x.ty y) (RV.t r1)
  | [], [], _ :: _, _, h, _, _, _ => h.elim
  | [], _ :: _, _, _, h, _, _, _ => by cases h
  | _ :: _, [], _, _, h, _, _, _ => by cases h
  | _ :: _, _ :: _, [], _, h, _, _, _ => by cases h

theorem ins_closed {ts : List Nat} {as : List (AV E)} (h : Ins E tt ts as) (b : List (Blk E)) : ∀ a ∈ as, OKA b a := by
  induction h with
  | nil => intro a ha; simp at ha
  | cons x hx v hg r ih =>
    intro a ha
    rcases List.mem_cons.1 ha with rfl | ha
    · exact .plain trivial (fun _ h => nomatch h) (fun _ h => nomatch h) (fun _ _ h => nomatch h)
    · exact ih a ha

theorem blk_repl (n i : Nat) : blk (List.replicate n (.none : Blk E)) i = .none := by
  simp only [blk, List.getD_eq_getElem?_getD, List.getElem?_replicate]
  split <;> rfl

/-- A LAW'S CALL: the evaluator says true at whatever it may be handed; so the call returns true and leaves all memory as it was. -/
theorem law_calls (hE : EnvOK E) (hz : ∀ (M : Mem) n, RC M (.nm n) (E.dfl n) (E.zc n)) (hT : TOK P E tt) (hR : RdOK P E tt) (hmix : P.follows .mixedOrders = true) {fs : FuncId → Option Func} (hfs : FsOK P fs)
    {f : FuncId} {ts : List Nat} {W : World} {base : Nat} {args : Array Value} {ds : List (DataW Hh)} {ps : List MemPlace} (hgl : GlOK (memOf W) gl)
    (hA : DataW.TrodAll enc P W 0 (fun _ => true) true ts args.toList ds ps) (hw : (DataW.weightsEach P ts ds).all (· ≤ reachBytes) = true)
    (hval : ∀ (j : Nat) t v, ts[j]? = some t → args[j]? = some v → Value.okWide P W .any base t v)
    (hts : ∀ t ∈ ts, ∃ x, tt t = some x ∧ x.ty.full = true)
    (pure : ∀ as, Ins E tt ts as → ∃ n outs, run tt gl H fs n f as (List.replicate ts.length .none) = some (.t .bool true, outs)) :
    Calls P f args W fun e w' => e = .returned (.bool true) ∧ Below W.heap.size W w' := by
  let μ : Mu := fun _ => ⟨0, fun _ => (none, 0)⟩
  obtain ⟨as, i1, i2, i3, _⟩ := args_read cnt_bulk hE hT hR μ W base hA hw (fun j t v a b => hval j t v a (by simpa using b)) hts
  obtain ⟨n, outs, hr⟩ := pure as i1
  have hwr : WR (memOf W) μ (List.replicate ts.length (.none : Blk E)) W :=
    ⟨memOf_holds W, fun i => by rw [blk_repl]; trivial, fun i j g h => by rw [blk_repl] at h; simp [Exc] at h, fun i ly a h => by rw [blk_repl] at h; cases h⟩
  refine ((calls_ok hE hz hT hmix hfs n f as _ _ _ hr).2 (memOf W) μ W args hgl hwr i2 (ins_closed i1 _)).mono ?_
  rintro e w' ⟨v, M', μ', rfl, tr, hret⟩
  constructor
  · obtain ⟨g, h1, _⟩ := hret
    obtain ⟨h1, _⟩ := h1
    congr 1
    generalize ha : (AV.t .bool true : AV E) = a at h1
    cases h1 with
    | undef => cases ha
    | c => cases ha
    | tup => cases ha
    | v h2 =>
      subst ha
      generalize ha : (AV.t .bool true : AV E) = a at h2
      cases h2 <;> try (cases ha; done)
      rename_i h3
      cases ha
      cases h3
      rfl
  · exact ⟨tr.os, tr.tape.eq, tr.output, tr.size, fun k hk => tr.frame k hk fun i => by rw [blk_repl]; simp [Exc]⟩

/-- The arguments read as they did. -/
theorem args_back {enc : TypeId × Value → Hh} (hl : laidOutB P = true) {W W' : World} (hb : Below W.heap.size W W') : ∀ {ts : List Nat} {args : List Value} {ds : List (DataW Hh)} {ps : List MemPlace},
    (ts.all fun t => P.readableRec t && decide (t < P.types.size)) = true →
    DataW.TrodAll enc P W 0 (fun _ => true) true ts args ds ps → DataW.TrodAll enc P W' 0 (fun b => decide (b < W.heap.size)) true ts args ds ps
  | [], [], [], _, _, h => h
  | t :: ts, v :: vs, d :: ds, _, hr, h => by
    obtain ⟨p, q, h1, h2, h3⟩ := h
    simp only [List.all_cons, Bool.and_eq_true, decide_eq_true_eq] at hr
    have lt : ∀ x ∈ p, x.block < W.heap.size := by obtain ⟨m, hm⟩ := h1; exact DataW.trod_lt m _ _ _ hm
    exact ⟨p, q, RowKit.Below.trod hl hr.1.1 hr.1.2 h1 hb lt, args_back hl hb hr.2 h2, h3⟩
  | [], [], _ :: _, _, _, h => h.elim
  | [], _ :: _, _, _, _, h => by cases h
  | _ :: _, [], _, _, _, h => by cases h
  | _ :: _, _ :: _, [], _, _, h => by cases h
end
end Go.Proofs.YtbmpjppfdeohnaaDoor.Fv

/-! The evaluator once more, in the form that is reckoned with: answers of any type, calls by their own functions, loops that are let go at their back edge; and it answers as the first one does. -/
namespace Go.Proofs.YtbmpjppfdeohnaaDoor.Fv
variable [Quiet]
open Go.RowKit
variable {E : Env}

/-- What a call comes to: a reckoning of its own, and how its answer is read. -/
structure Ans (E : Env) where
  ty : Type
  val : Option ty
  wr : ty → AV E × List (Blk E)
abbrev Call2 (E : Env) := FuncId → List (AV E) → List (Blk E) → Option (Ans E)
def callR (call : Call2 E) : CallF E := fun f as ins => match call f as ins with
  | some x => x.val.map x.wr
  | none => none

section
variable (tt : Nat → Option TE) (gl : Nat → AV E) (H : Hints) {α : Type}

/-- What is handed over, and on which condition. -/
def pass2 (b : List (Blk E)) (consumes : Bool) (pi : Nat) (ty : Ty) (a : AV E) : Option (Bool × AV E × Blk E × Option Nat) :=
  match consumes, a with
  | true, .sl id e xs => match blk b id with
    | .grow e' n => bif decide (e' = e) then some (decide (n = xs.length), .sl pi e xs, .grow e n, some id) else none
    | _ => none
  | c, a => match pass1 b c pi ty a with
    | some (x, y, o) => some (true, x, y, o)
    | none => none
def passL2 (b : List (Blk E)) (cons : List Nat) : Nat → List (Nat × AV E) → Option (Bool × List (AV E) × List (Blk E) × List (Nat × Nat))
  | _, [] => some (true, [], [], [])
  | pi, (t, x) :: l => match pass2 b (cons.contains pi) pi (tyOf tt t) (caN tt t x), passL2 b cons (pi + 1) l with
    | some (c, a, bb, o), some (c', as, bs, os) => some (c && c', a :: as, bb :: bs, (match o with
      | some id => (pi, id) :: os
      | none => os))
    | _, _ => none
def castS2 (p : Nat) (e : Ty) : AV E → Blk E → Option (Bool × List (E.D e))
  | .sl p' a v, .grow a' n => bif decide (p' = p) && decide (a' = a) then match cst (.sl a) (.sl e) v with
      | some (v' : List (E.D e)) => some (decide (n = v.length), v')
      | none => none
    else none
  | _, _ => none
def recvK2 (outs : List (Blk E)) (b : List (Blk E)) (back : List (Nat × Nat)) (id : Nat) (sh : RSh) (a : AV E) (k : AV E → Upd E → Option α) : Option α :=
  match sh with
  | .inp p e => match castS2 p e a (blk outs p) with
    | some (c, xs) => bif c then match back.lookup p with
      | some id => k (.sl id e xs) []
      | none => none
      else none
    | none => none
  | sh => recvK outs b back id sh a k
def recvsK2 (outs : List (Blk E)) (b : List (Blk E)) (back : List (Nat × Nat)) (step : Nat) : Nat → List RSh → List (AV E) → (List (AV E) → Upd E → Option α) → Option α
  | _, [], _, k => k [] []
  | id, sh :: shs, as, k => recvK2 outs b back id sh (as.headD .undef) fun a u => recvsK2 outs b back step (id + step) shs as.tail fun l v => k (a :: l) (u ++ v)
def recvAll2 (outs : List (Blk E)) (b : List (Blk E)) (back : List (Nat × Nat)) (step d : Nat) (sh : RSh) (a : AV E) (k : AV E → Upd E → Option α) : Option α :=
  match sh with
  | .tup shs => bif decide (0 < shs.length) && decide (shs.length = (asTup a).length) then recvsK2 outs b back step (d + step) shs (asTup a) fun l u => k (.tup l) u else none
  | sh => recvK2 outs b back d sh a k

def callK20 (call : Call2 E) (b : List (Blk E)) (step : Nat) (f : FuncId) (cs : List (Cap E)) (sh : RSh) (args : List (Nat × AV E)) (d : Nat) (k : Cl → AV E → Upd E → Option α) : Option α :=
  match passL2 tt b (H.cons f) 0 args with
  | some (c, as, ins, back) => bif c then (bif nodup (back.map (·.2)) then match call f (as ++ cs.map fun c => .imm c.ty c.v) (ins ++ cs.map fun _ => .none) with
      | some x => x.val.bind fun r => recvAll2 (x.wr r).2 b back step d sh (x.wr r).1 fun a u => backK (x.wr r).2 b back fun v => bif nodup ((u ++ v).map (·.1)) then k (callCl (plainAs (H.cons f) 0 args && simpleSh sh) (plainAs (H.cons f) 0 args && ownSh sh) (u ++ v)) a (u ++ v) else none
      | none => none
    else none) else none
  | none => none

def callKL2 (call : Call2 E) (b : List (Blk E)) (step : Nat) (f : FuncId) (cs : List (Cap E)) (sh : RSh) (args : List (Nat × AV E)) (d : Nat) (k : Cl → AV E → Upd E → Option α) : Option α :=
  match H.lend f with
  | [] => callK20 tt H call b step f cs sh args d k
  | lp => match lendL b lp 0 args with
    | some (c, args', is) => bif c then callK20 tt H call [] step f cs sh args' d fun _ a u => bif scal a && u.isEmpty then k (lCl is) a [] else none else none
    | none => none

def callPK2 (nx : Nat) (call : Call2 E) (b : List (Blk E)) (base step : Nat) (f : FuncId) (cs : List (CP E)) (sh : RSh) (args : List (Nat × AV E)) (d : Nat) (k : Cl → AV E → Upd E → Option α) : Option α :=
  match passPs tt (posR base (homesP b step nx args cs)) b args with
  | some as => bif okPs b base args cs (homesP b step nx args cs) then match call f (argsP base (homesP b step nx args cs) as cs) (insP b base (homesP b step nx args cs)) with
      | some x => x.val.bind fun r => recvAll2 (x.wr r).2 b (backL base (homesP b step nx args cs)) step d sh (x.wr r).1 fun a u => (backP (x.wr r).2 base (homesP b step nx args cs) base (homesP b step nx args cs)).bind fun v => bif nodup ((u ++ v).map (·.1)) then k (.w ((u ++ v).map (·.1))) a (u ++ v) else none
      | none => none
    else none
  | none => none
def callK2 (call : Call2 E) (b : List (Blk E)) (step : Nat) (f : FuncId) (cs : List (Cap E)) (sh : RSh) (args : List (Nat × AV E)) (d : Nat) (k : Cl → AV E → Upd E → Option α) : Option α :=
  match H.phan f with
  | 0 => callKL2 tt H call b step f cs sh args d k
  | base + 1 => callPK2 tt (H.nx f) call b (base + 1) step f (cs.map .im) sh args d k

def stepK20 (call : Call2 E) (f : FuncId) (s : St E) (o : Oper) (k : Cl → AV E → Upd E → Option α) : Option α :=
  let d := o.dst.getD 100000
  let l := o.op.operands.toList.map (evo gl s.t)
  match o.op, l with
  | .call c, l => match c.callee, l with
    | .builtin bi, l => match pureA tt o.op o.type l with
      | some (c, a) => bif c then k .p a [] else none
      | none => match wA tt H f s.b o.op o.type d l with
        | some (c, a, u) => bif c then k (.w (u.map (·.1))) a u else none
        | none => none
    | .value (.func g), _ :: l => bif decide (c.argTypes.size = l.length) then callK2 tt H call s.b s.t.length g [] (H.rsh g) (c.argTypes.toList.zip l) d k else none
    | .value _, .func g cs :: l => bif decide (c.argTypes.size = l.length) then callK2 tt { H with cons := fun _ => [], lend := fun _ => [] } call s.b s.t.length g cs (.t (tyOf tt o.type)) (c.argTypes.toList.zip l) d k else none
    | _, _ => none
  | op, l => match (match H.asagg f d with | [] => pureA tt op o.type l | _ => none) with
    | some (c, a) => bif c then k .p a [] else none
    | none => match op, l with
      | .load t _, [a] => match ptrId a with
        | some id => match look tt (blk s.b id) a t with
          | some (c, x) => bif c then k (.l id) x [] else none
          | none => none
        | none => none
      | op, l => match wA tt H f s.b op o.type d l with
        | some (c, a, u) => bif c then k (wCl op u) a u else none
        | none => none

def stepK2 (call : Call2 E) (f : FuncId) (s : St E) (o : Oper) (k : Cl → AV E → Upd E → Option α) : Option α :=
  match funpOf o.op (o.op.operands.toList.map (evo gl s.t)) with
  | some (g, ps, args) => callPK2 tt (H.nx g) call s.b (H.phan g) s.t.length g ps (H.rsh g) args (o.dst.getD 100000) k
  | none => stepK20 tt gl H call f s o k

def opsK2 (call : Call2 E) (f : FuncId) (all : List Oper) : List Oper → List Cl → St E → (List Cl → St E → Option α) → Option α
  | [], acc, s, k => k acc.reverse s
  | o :: r, acc, s, k =>
    let go := fun (s : St E) => stepK2 tt gl H call f s o fun c a u => opsK2 call f all r (c :: acc) (s.did o.dst a u) k
    let skip := fun (s : St E) => opsK2 call f all r (.p :: acc) (s.did o.dst (.c (.tuple #[])) []) k
    match o.guard with
    | none => go s
    | some (j, want) => match dstOf all j with
      | none => none
      | some d => match s.t.getD d .undef with
        | .t .bool b => bif b then (let s' := { s with t := s.t.set d (bl true) }; bif want then go s' else skip s')
                        else (let s' := { s with t := s.t.set d (bl false) }; bif want then skip s' else go s')
        | .c v => bif noB v then skip s else none
        | _ => none

def opsP2 (call : Call2 E) (f : FuncId) (all : List Oper) : List Oper → St E → (St E → Option α) → Option α
  | [], s, k => k s
  | o :: r, s, k => preK (preO H f o) s fun s => opsK2 tt gl H call f all [o] [] s fun _ s => opsP2 call f all r s k

/-- A loop from its head on: what isn't kept is let go behind each round. -/
def loop2 (np : Nat) (body : (Ex → St E → Option α) → St E → Option α) (k : List (Nat × Nat)) (kb : List Nat) (K : Ex → St E → Option α) : Nat → St E → Option α
  | 0, _ => none
  | n + 1, s => body (fun e s => match e with
      | .normal => match prune np k kb s with
        | some s => loop2 np body k kb K n s
        | none => none
      | e => K e s) s

def kSeq2 (g : (Ex → St E → Option α) → St E → Option α) (K : Ex → St E → Option α) : Ex → St E → Option α
  | .normal, s => g K s
  | e, s => K e s
def kBlock2 (id : Nat) (K : Ex → St E → Option α) : Ex → St E → Option α
  | .exit id', s => bif id' == id then K .normal s else K (.exit id') s
  | e, s => K e s

section
variable (np : Nat) (call : Call2 E) (fuel : Nat) (f : FuncId)
def exec2 : Code → Nat → (Ex → St E → Option α) → St E → Option α
  | .skip, _, k, s => k .normal s
  | .ret, _, k, s => k .ret s
  | .exit id, _, k, s => k (.exit id) s
  | .seq a b, bid, k, s => exec2 a bid (kSeq2 (exec2 b bid) k) s
  | .cond c a b, bid, k, s => match evo gl s.t c with
    | .t .bool v => bif v then exec2 a bid k s else exec2 b bid k s
    | .c (.bool v) => bif v then exec2 a bid k s else exec2 b bid k s
    | _ => none
  | .block id c, _, k, s => exec2 c id (kBlock2 id k) s
  | .loop c, bid, k, s => match prune np (H.keep f bid) (H.keepB f bid) s with
    | some s => loop2 np (exec2 c bid) (H.keep f bid) (H.keepB f bid) k fuel s
    | none => none
  | .region i o false, _, k, s => preK (H.preT f i) s fun s => opsP2 tt gl H call f o.toList o.toList s fun s => k .normal s
  | .region i o true, _, k, s => preK (H.preT f i) s fun s => opsK2 tt gl H call f o.toList o.toList [] s fun cls s => bif freeOrder o.toList cls then k .normal s else none
  | _, _, _, _ => none
end
end

section
variable {tt : Nat → Option TE} {gl : Nat → AV E} {H : Hints} {α : Type} {call : Call2 E}

theorem pass2_eq (b : List (Blk E)) (c : Bool) (pi : Nat) (ty : Ty) (a : AV E) : pass1 b c pi ty a = (pass2 b c pi ty a).bind fun x => bif x.1 then some x.2 else none := by
  have gen : ∀ o : Option (AV E × Blk E × Option Nat), o = (match o with | some (x, y, o) => some (true, x, y, o) | none => none).bind fun x => bif x.1 then some x.2 else none := by
    intro o
    cases o <;> rfl
  cases c with
  | false => exact gen _
  | true =>
    cases a with
    | sl id e xs =>
      simp only [pass1, pass2, cond_true]
      cases blk b id with
      | grow e' n =>
        simp only []
        cases decide (e' = e) <;> cases decide (n = xs.length) <;> rfl
      | _ => rfl
    | _ => exact gen _
theorem passL2_eq (b : List (Blk E)) (cons : List Nat) : ∀ (l : List (Nat × AV E)) (pi : Nat), passL tt b cons pi l = (passL2 tt b cons pi l).bind fun x => bif x.1 then some x.2 else none
  | [], pi => rfl
  | (t, x) :: l, pi => by
    simp only [passL, passL2, pass2_eq, passL2_eq b cons l (pi + 1)]
    cases pass2 b (cons.contains pi) pi (tyOf tt t) (caN tt t x) with
    | none => rfl
    | some y =>
      obtain ⟨c, a, bb, o⟩ := y
      cases passL2 tt b cons (pi + 1) l with
      | none => cases c <;> rfl
      | some z =>
        obtain ⟨c', as, bs, os⟩ := z
        cases c <;> cases c' <;> rfl
theorem castS2_eq (p : Nat) (e : Ty) (a : AV E) (bb : Blk E) : castS p e a bb = (castS2 p e a bb).bind fun x => bif x.1 then some x.2 else none := by
  cases a with
  | sl p' a v =>
    cases bb with
    | grow a' n =>
      simp only [castS, castS2]
      cases decide (p' = p) <;> cases decide (a' = a) <;> cases hd : decide (n = v.length) <;> cases cst (.sl a) (.sl e) v <;> rfl
    | _ => rfl
  | _ => cases bb <;> rfl
theorem recvK2_eq (outs b : List (Blk E)) (back : List (Nat × Nat)) (id : Nat) (sh : RSh) (a : AV E) (k : AV E → Upd E → Option α) : recvK2 outs b back id sh a k = recvK outs b back id sh a k := by
  cases sh with
  | inp p e =>
    simp only [recvK2, recvK, castS2_eq]
    cases castS2 p e a (blk outs p) with
    | none => rfl
    | some x =>
      obtain ⟨c, xs⟩ := x
      cases c <;> rfl
  | _ => rfl
theorem recvsK2_eq (outs b : List (Blk E)) (back : List (Nat × Nat)) (step : Nat) : ∀ (shs : List RSh) (id : Nat) (as : List (AV E)) (k : List (AV E) → Upd E → Option α), recvsK2 outs b back step id shs as k = recvsK outs b back step id shs as k
  | [], _, _, _ => rfl
  | sh :: shs, id, as, k => by
    simp only [recvsK2, recvsK, recvK2_eq, recvsK2_eq outs b back step shs]
theorem recvAll2_eq (outs b : List (Blk E)) (back : List (Nat × Nat)) (step d : Nat) (sh : RSh) (a : AV E) (k : AV E → Upd E → Option α) : recvAll2 outs b back step d sh a k = recvAll outs b back step d sh a k := by
  cases sh with
  | tup l => simp only [recvAll2, recvAll, recvsK2_eq]
  | _ => simp only [recvAll2, recvAll, recvK2_eq]

theorem callK20_eq (b : List (Blk E)) (step : Nat) (f : FuncId) (cs : List (Cap E)) (sh : RSh) (args : List (Nat × AV E)) (d : Nat) (k : Cl → AV E → Upd E → Option α) :
    callK20 tt H call b step f cs sh args d k = callK0 tt H (callR call) b step f cs sh args d k := by
  unfold callK20 callK0
  rw [passL2_eq]
  cases h : passL2 tt b (H.cons f) 0 args with
  | none => rfl
  | some x =>
    obtain ⟨c, as, ins, back⟩ := x
    cases c with
    | false => rfl
    | true =>
      simp only [callR, Option.bind_some, cond_true, recvAll2_eq]
      congr 1
      cases call f (as ++ cs.map fun c => .imm c.ty c.v) (ins ++ cs.map fun _ => .none) with
      | none => rfl
      | some x => cases hx : x.val <;> simp [hx]

theorem callKL2_eq (b : List (Blk E)) (step : Nat) (f : FuncId) (cs : List (Cap E)) (sh : RSh) (args : List (Nat × AV E)) (d : Nat) (k : Cl → AV E → Upd E → Option α) :
    callKL2 tt H call b step f cs sh args d k = callKL tt H (callR call) b step f cs sh args d k := by
  unfold callKL2 callKL
  simp only [callK20_eq]
  rfl

theorem callPK2_eq (nx : Nat) (b : List (Blk E)) (base step : Nat) (f : FuncId) (cs : List (CP E)) (sh : RSh) (args : List (Nat × AV E)) (d : Nat) (k : Cl → AV E → Upd E → Option α) :
    callPK2 tt nx call b base step f cs sh args d k = callPK tt nx (callR call) b base step f cs sh args d k := by
  unfold callPK2 callPK
  cases passPs tt (posR base (homesP b step nx args cs)) b args with
  | none => rfl
  | some as =>
    simp only [callR, recvAll2_eq]
    congr 1
    cases call f (argsP base (homesP b step nx args cs) as cs) (insP b base (homesP b step nx args cs)) with
    | none => rfl
    | some x => cases hx : x.val <;> simp [hx]
theorem callK2_eq (b : List (Blk E)) (step : Nat) (f : FuncId) (cs : List (Cap E)) (sh : RSh) (args : List (Nat × AV E)) (d : Nat) (k : Cl → AV E → Upd E → Option α) :
    callK2 tt H call b step f cs sh args d k = callK tt H (callR call) b step f cs sh args d k := by
  unfold callK2 callK
  simp only [callKL2_eq, callPK2_eq]
  rfl

theorem stepK20_eq (f : FuncId) (s : St E) (o : Oper) (k : Cl → AV E → Upd E → Option α) : stepK20 tt gl H call f s o k = stepK0 tt gl H (callR call) f s o k := by
  unfold stepK20 stepK0
  simp only [callK2_eq]
  rfl
theorem stepK2_eq (f : FuncId) (s : St E) (o : Oper) (k : Cl → AV E → Upd E → Option α) : stepK2 tt gl H call f s o k = stepK tt gl H (callR call) f s o k := by
  unfold stepK2 stepK
  simp only [stepK20_eq, callPK2_eq]
  rfl

theorem opsK2_eq (f : FuncId) (all : List Oper) : ∀ (l : List Oper) (acc : List Cl) (s : St E) (k : List Cl → St E → Option α), opsK2 tt gl H call f all l acc s k = opsK tt gl H (callR call) f all l acc s k
  | [], acc, s, k => rfl
  | o :: r, acc, s, k => by
    have h1 : ∀ s : St E, (stepK2 tt gl H call f s o fun c a u => opsK2 tt gl H call f all r (c :: acc) (s.did o.dst a u) k) = stepK tt gl H (callR call) f s o fun c a u => opsK tt gl H (callR call) f all r (c :: acc) (s.did o.dst a u) k := by
      intro s
      rw [stepK2_eq]
      congr 1
      funext c a u
      exact opsK2_eq f all r _ _ _
    have h2 : ∀ s : St E, opsK2 tt gl H call f all r (.p :: acc) (s.did o.dst (.c (.tuple #[])) []) k = opsK tt gl H (callR call) f all r (.p :: acc) (s.did o.dst (.c (.tuple #[])) []) k := fun s => opsK2_eq f all r _ _ _
    unfold opsK2 opsK
    simp only [h1, h2]
    cases o.guard with
    | none => rfl
    | some g =>
      obtain ⟨j, want⟩ := g
      simp only
      cases dstOf all j with
      | none => rfl
      | some d =>
        simp only
        cases s.t.getD d .undef with
        | t ty v => cases ty <;> rfl
        | _ => rfl

theorem opsK2_nat {β : Type} (g : α → Option β) (f : FuncId) (all : List Oper) : ∀ (l : List Oper) (acc : List Cl) (s : St E) (k : List Cl → St E → Option α), (opsK2 tt gl H call f all l acc s k).bind g = opsK2 tt gl H call f all l acc s fun c s => (k c s).bind g
  | [], acc, s, k => rfl
  | o :: r, acc, s, k => by
    have h1 : ∀ s : St E, (stepK2 tt gl H call f s o fun c a u => opsK2 tt gl H call f all r (c :: acc) (s.did o.dst a u) k).bind g = stepK2 tt gl H call f s o fun c a u => opsK2 tt gl H call f all r (c :: acc) (s.did o.dst a u) fun c s => (k c s).bind g := by
      intro s
      rw [stepK2_eq, stepK2_eq, stepK_nat, stepK_nat, Option.bind_assoc]
      congr 1
      funext x
      exact opsK2_nat g f all r _ _ _
    have h2 : ∀ s : St E, (opsK2 tt gl H call f all r (.p :: acc) (s.did o.dst (.c (.tuple #[])) []) k).bind g = opsK2 tt gl H call f all r (.p :: acc) (s.did o.dst (.c (.tuple #[])) []) fun c s => (k c s).bind g := fun s => opsK2_nat g f all r _ _ _
    unfold opsK2
    simp only []
    split
    · exact h1 s
    · rename_i j want _
      split
      · rfl
      · split
        · rename_i b _
          cases b <;> cases want <;> first | exact h1 _ | exact h2 _
        · rename_i v _
          cases noB v
          · rfl
          · exact h2 _
        · rfl

theorem opsP2_eq (f : FuncId) (all : List Oper) : ∀ (l : List Oper) (s : St E) (k : St E → Option α), opsP2 tt gl H call f all l s k = opsP tt gl H (callR call) f all l s k
  | [], s, k => rfl
  | o :: r, s, k => by
    simp only [opsP2, opsP, opsK2_eq]
    congr 1
    funext s
    congr 1
    funext _ s
    exact opsP2_eq f all r s k
theorem preK_nat {α β : Type} (g : α → Option β) (l : List (Nat × Nat)) (s : St E) (k : St E → Option α) : (preK l s k).bind g = preK l s fun s => (k s).bind g := by
  unfold preK
  split
  · rfl
  · split
    · rename_i c s' _
      cases c <;> rfl
    · rfl
theorem opsP2_nat {β : Type} (g : α → Option β) (f : FuncId) (all : List Oper) : ∀ (l : List Oper) (s : St E) (k : St E → Option α), (opsP2 tt gl H call f all l s k).bind g = opsP2 tt gl H call f all l s fun s => (k s).bind g
  | [], s, k => rfl
  | o :: r, s, k => by
    simp only [opsP2]
    rw [preK_nat]
    congr 1
    funext s
    rw [opsK2_nat]
    congr 1
    funext _ s
    exact opsP2_nat g f all r s k

section
variable {np : Nat} {fuel : Nat} {f : FuncId}

theorem loop2_eq {B : (Ex → St E → Out E) → St E → Out E} {k : List (Nat × Nat)} {kb : List Nat} {K : Ex → St E → Out E} : ∀ (n : Nat) (s : St E),
    (match prune np k kb s with | some s => loop2 np B k kb K n s | none => none) = loopN np B k kb K n s
  | 0, s => by
    simp only [loopN, loop2]
    split <;> rfl
  | n + 1, s => by
    simp only [loopN]
    cases hs : prune np k kb s with
    | none => rfl
    | some s' =>
      simp only [loop2]
      congr 1
      funext e t
      cases e with
      | normal => exact loop2_eq n t
      | _ => rfl

theorem kSeq2_eq : (kSeq2 (E := E) (α := AV E × List (Blk E))) = kSeq := by
  funext g K e s
  cases e <;> rfl
theorem kBlock2_eq : (kBlock2 (E := E) (α := AV E × List (Blk E))) = kBlock := by
  funext g K e s
  cases e <;> rfl

theorem exec2_eq : ∀ (c : Code) (bid : Nat) (k : Ex → St E → Out E) (s : St E), exec2 tt gl H np call fuel f c bid k s = exec tt gl H np (callR call) fuel f c bid k s
  | .skip, _, _, _ => rfl
  | .ret, _, _, _ => rfl
  | .exit _, _, _, _ => rfl
  | .seq a b, bid, k, s => by
    simp only [exec2, exec]
    rw [exec2_eq a, kSeq2_eq]
    congr 2
    funext k s
    exact exec2_eq b bid k s
  | .cond c a b, bid, k, s => by
    simp only [exec2, exec, exec2_eq a, exec2_eq b]
    rfl
  | .block id c, _, k, s => by
    simp only [exec2, exec]
    rw [exec2_eq c, kBlock2_eq]
  | .loop c, bid, k, s => by
    simp only [exec2, exec]
    rw [← loop2_eq]
    have : (exec2 tt gl H np call fuel f c bid : (Ex → St E → Out E) → St E → Out E) = exec tt gl H np (callR call) fuel f c bid := by
      funext k s
      exact exec2_eq c bid k s
    rw [this]
  | .region i o false, _, k, s => by simp only [exec2, exec, opsP2_eq]
  | .region i o true, _, k, s => by simp only [exec2, exec, opsK2_eq]
  | .rangeFunc .., _, _, _ => rfl
  | .scope _, _, _, _ => rfl
  | .label _, _, _, _ => rfl
  | .goto _, _, _, _ => rfl
  | .refuse _, _, _, _ => rfl

theorem loop2_nat {β : Type} (g : α → Option β) {B : (Ex → St E → Option α) → St E → Option α} {B' : (Ex → St E → Option β) → St E → Option β} {k : List (Nat × Nat)} {kb : List Nat}
    (hB : ∀ K s, (B K s).bind g = B' (fun e s => (K e s).bind g) s) {K : Ex → St E → Option α} : ∀ (n : Nat) (s : St E), (loop2 np B k kb K n s).bind g = loop2 np B' k kb (fun e s => (K e s).bind g) n s
  | 0, s => rfl
  | n + 1, s => by
    simp only [loop2]
    rw [hB]
    congr 1
    funext e t
    cases e with
    | normal =>
      simp only []
      split
      · exact loop2_nat g hB n _
      · rfl
    | _ => rfl
theorem exec2_nat : ∀ {α β : Type} (g : α → Option β) (c : Code) (bid : Nat) (k : Ex → St E → Option α) (s : St E), (exec2 tt gl H np call fuel f c bid k s).bind g = exec2 tt gl H np call fuel f c bid (fun e s => (k e s).bind g) s
  | _, _, g, .skip, _, _, _ => rfl
  | _, _, g, .ret, _, _, _ => rfl
  | _, _, g, .exit _, _, _, _ => rfl
  | _, _, g, .seq a b, bid, k, s => by
    simp only [exec2]
    rw [exec2_nat g a]
    congr 1
    funext e t
    cases e with
    | normal => exact exec2_nat g b bid k t
    | _ => rfl
  | _, _, g, .cond c a b, bid, k, s => by
    simp only [exec2]
    split
    · rename_i v _
      cases v
      · exact exec2_nat g b bid k s
      · exact exec2_nat g a bid k s
    · rename_i v _
      cases v
      · exact exec2_nat g b bid k s
      · exact exec2_nat g a bid k s
    · rfl
  | _, _, g, .block id c, _, k, s => by
    simp only [exec2]
    rw [exec2_nat g c]
    congr 1
    funext e t
    cases e with
    | exit i => simp only [kBlock2]; cases (i == id) <;> rfl
    | _ => rfl
  | _, _, g, .loop c, bid, k, s => by
    simp only [exec2]
    cases prune np (H.keep f bid) (H.keepB f bid) s with
    | none => rfl
    | some t => exact loop2_nat g (fun K s => exec2_nat g c bid K s) fuel t
  | _, _, g, .region i o false, _, k, s => by
    simp only [exec2]
    rw [preK_nat]
    congr 1
    funext t
    rw [opsP2_nat]
  | _, _, g, .region i o true, _, k, s => by
    simp only [exec2]
    rw [preK_nat]
    congr 1
    funext t
    rw [opsK2_nat]
    congr 1
    funext c t
    cases freeOrder o.toList c <;> rfl
  | _, _, _, .rangeFunc .., _, _, _ => rfl
  | _, _, _, .scope _, _, _, _ => rfl
  | _, _, _, .label _, _, _, _ => rfl
  | _, _, _, .goto _, _, _, _ => rfl
  | _, _, _, .refuse _, _, _, _ => rfl
end

theorem exec2_mono {α β : Type} {c : Code} {bid : Nat} {k : Ex → St E → Option α} {k' : Ex → St E → Option β} {w : α → β} {s : St E} {r : α} {np fuel : Nat} {f : FuncId}
    (hk : ∀ e s r, k e s = some r → k' e s = some (w r)) (h : exec2 tt gl H np call fuel f c bid k s = some r) : exec2 tt gl H np call fuel f c bid k' s = some (w r) := by
  have e1 := exec2_nat (tt := tt) (gl := gl) (H := H) (call := call) (np := np) (fuel := fuel) (f := f) (fun p : Ex × St E => k p.1 p.2) c bid (fun e s => some (e, s)) s
  have e2 := exec2_nat (tt := tt) (gl := gl) (H := H) (call := call) (np := np) (fuel := fuel) (f := f) (fun p : Ex × St E => k' p.1 p.2) c bid (fun e s => some (e, s)) s
  simp only [Option.bind_some] at e1 e2
  rw [← e1, Option.bind_eq_some_iff] at h
  obtain ⟨p, h1, h2⟩ := h
  rw [← e2, h1]
  exact hk _ _ _ h2

/-! ### Functions -/
/-- A parameter: data; a place that stays; a function; a slice that is appended to; a row that is written; a variable. -/
inductive CK where
  | t (ty : Ty) | gr (h : Nat) (e : Ty) | ptr (h : Nat) (ly : Ty) | nilp | fs (h : Nat) (e : Ty)
/-- What an open variable holds: one thing, or a struct of such. -/
inductive CT where
  | one (c : CK) | ag (l : List CK)
inductive FK where
  | im (ty : Ty) | pt (h : Nat) (ly : Ty)
/-- (From pp on: pointers, functions, rows and maps at a home behind the parameters; from q0 on: those homes. qz: a row that is given up; qx: a home for a row that comes back.) -/
inductive PK where
  | t (ty : Ty) | imm (ty : Ty) | fn (g : FuncId) (ty : List Ty) | gr (e : Ty) | row (e : Ty) | var (ty : Ty) | snil (e : Ty) | snn (e : Ty)
  | pp (h : Nat) (ly : Ty) | fp (g : FuncId) (l : List FK) | fr (h : Nat) (e : Ty) | mpp (h : Nat) (k v : Ty)
  | q0 | qg (e : Ty) | qr (e : Ty) | qv (ly : Ty) (c : CT) | qm (k v : Ty) | qz (e : Ty) | qx (e : Ty) | qw (ly : Ty) (c c' : CT)
def isQ : PK → Bool
  | .q0 | .qg _ | .qr _ | .qv _ _ | .qm _ _ | .qz _ | .qx _ | .qw _ _ _ => true
  | _ => false
def isX : PK → Bool
  | .qx _ => true
  | _ => false
def isN : PK → Bool
  | .gr _ | .row _ | .var _ | .qg _ | .qr _ | .qv _ _ | .qm _ _ | .qz _ | .qw _ _ _ => false
  | _ => true
def CKD (E : Env) : CK → Type
  | .t ty => E.D ty
  | .gr _ e => List (E.D e)
  | .fs _ _ => Nat
  | _ => Unit
def CKs (E : Env) : List CK → Type
  | [] => Unit
  | c :: l => CKD E c × CKs E l
def CTD (E : Env) : CT → Type
  | .one c => CKD E c
  | .ag l => CKs E l
def FKs (E : Env) : List FK → Type
  | [] => Unit
  | .im ty :: l => E.D ty × FKs E l
  | .pt _ _ :: l => FKs E l
def capD (E : Env) : List Ty → Type
  | [] => Unit
  | t :: l => E.D t × capD E l
def PD (E : Env) : PK → Type
  | .t ty => E.D ty
  | .imm ty => E.D ty
  | .fn _ l => capD E l
  | .gr e => List (E.D e) × Nat
  | .row e => List (E.D e) × Nat × Nat
  | .var ty => E.D ty
  | .snil _ => Unit
  | .snn e => List (E.D e)
  | .fp _ l => FKs E l
  | .fr _ _ => Nat × Nat
  | .qg _ => Nat
  | .qr e => List (E.D e)
  | .qv _ c => CTD E c
  | .qm k v => List (E.D k × E.D v)
  | .qz e => List (E.D e)
  | .qw _ c _ => CTD E c
  | _ => Unit
def PDs (E : Env) : List PK → Type
  | [] => Unit
  | p :: l => PD E p × PDs E l
def decCap : (l : List Ty) → List (Cap E) → Option (capD E l)
  | [], [] => some ()
  | t :: l, c :: cs => (cst c.ty t c.v).bind fun x => (decCap l cs).map fun y => (x, y)
  | _, _ => none
def encCap : (l : List Ty) → capD E l → List (Cap E)
  | [], _ => []
  | t :: l, x => ⟨t, x.1⟩ :: encCap l x.2
def castI (ty : Ty) : AV E → Option (E.D ty)
  | .imm a v => cst a ty v
  | _ => none
def castF (g : FuncId) (l : List Ty) : AV E → Option (capD E l)
  | .func g' cs => bif Nat.beq g' g then decCap l cs else none
  | _ => none
def noneB : Blk E → Option Unit
  | .none => some ()
  | _ => none
def castGr (i : Nat) (e : Ty) (a : AV E) (b : Blk E) : Option (List (E.D e) × Nat) := match a, b with
  | .sl i' a v, .grow a' n => bif Nat.beq i' i && decide (a' = a) then (cst (.sl a) (.sl e) v).map fun v => (v, n) else none
  | _, _ => none
def castRw (i : Nat) (e : Ty) (a : AV E) (b : Blk E) : Option (List (E.D e) × Nat × Nat) := match a, b with
  | .fs i' a off len, .row a' v => bif Nat.beq i' i && decide (a = e) then (cst (.sl a') (.sl e) v).map fun v => (v, off, len) else none
  | _, _ => none
def castVr (i : Nat) (ty : Ty) (a : AV E) (b : Blk E) : Option (E.D ty) := match a, b with
  | .ptr i' ly [], .var ly' (.t a v) => bif Nat.beq i' i && decide (ly = ty) && decide (ly' = ty) then cst a ty v else none
  | _, _ => none
def castNil (e : Ty) : AV E → Option Unit
  | .snil a => bif decide (a = e) then some () else none
  | _ => none
def castNn (e : Ty) : AV E → Option (List (E.D e))
  | .snn a v => cst (.sl a) (.sl e) v
  | _ => none
def encCK : (c : CK) → CKD E c → AV E
  | .t ty, x => .t ty x
  | .gr h e, x => .sl h e x
  | .ptr h ly, _ => .ptr h ly []
  | .nilp, _ => .nilp
  | .fs h e, x => .fs h e 0 x
def encCKs : (l : List CK) → CKs E l → List (AV E)
  | [], _ => []
  | c :: l, x => encCK c x.1 :: encCKs l x.2
def encCT : (c : CT) → CTD E c → AV E
  | .one c, x => encCK c x
  | .ag l, x => .agg (encCKs l x)
def castP (h : Nat) (ly : Ty) : AV E → Option Unit
  | .ptr h' ly' [] => bif Nat.beq h' h && decide (ly' = ly) then some () else none
  | _ => none
def castNp : AV E → Option Unit
  | .nilp => some ()
  | _ => none
def castSl (h : Nat) (e : Ty) : AV E → Option (List (E.D e))
  | .sl h' a v => bif Nat.beq h' h then cst (.sl a) (.sl e) v else none
  | _ => none
def castFr (h : Nat) (e : Ty) : AV E → Option (Nat × Nat)
  | .fs h' e' off len => bif Nat.beq h' h && decide (e' = e) then some (off, len) else none
  | _ => none
def castF0 (h : Nat) (e : Ty) (a : AV E) : Option Nat := match castFr h e a with
  | some (0, n) => some n
  | _ => none
def castRz (e : Ty) : Blk E → Option Unit
  | .rowz a => bif decide (a = e) then some () else none
  | _ => none
def decCK (c : CK) (a : AV E) : Option (CKD E c) := match c with
  | .t ty => castT ty a
  | .gr h e => castSl h e a
  | .ptr h ly => castP h ly a
  | .nilp => castNp a
  | .fs h e => castF0 h e a
def decCKs : (l : List CK) → List (AV E) → Option (CKs E l)
  | [], [] => some ()
  | c :: l, a :: as => (decCK c a).bind fun x => (decCKs l as).map fun y => (x, y)
  | _, _ => none
def aggL : AV E → Option (List (AV E))
  | .agg l => some l
  | _ => none
def decCT (c : CT) (a : AV E) : Option (CTD E c) := match c with
  | .one c => decCK c a
  | .ag l => (aggL a).bind fun as => decCKs l as
def castCT (ly : Ty) (c : CT) : Blk E → Option (CTD E c)
  | .var ly' a => bif decide (ly' = ly) then decCT c a else none
  | _ => none
def castMp (k v : Ty) : Blk E → Option (List (E.D k × E.D v))
  | .mp k' v' es => cst (.mp k' v') (.mp k v) es
  | _ => none
def encFK : (l : List FK) → FKs E l → List (CP E)
  | [], _ => []
  | .im ty :: l, x => .im ⟨ty, x.1⟩ :: encFK l x.2
  | .pt h ly :: l, x => .pt h ly :: encFK l x
def decFK : (l : List FK) → List (CP E) → Option (FKs E l)
  | [], [] => some ()
  | .im ty :: l, .im c :: cs => (cst c.ty ty c.v).bind fun x => (decFK l cs).map fun y => (x, y)
  | .pt h ly :: l, .pt h' ly' :: cs => bif Nat.beq h' h && decide (ly' = ly) then decFK l cs else none
  | _, _ => none
def castFp (g : FuncId) (l : List FK) : AV E → Option (FKs E l)
  | .funp g' cs => bif Nat.beq g' g then decFK l cs else none
  | _ => none
def castMa (h : Nat) (k v : Ty) : AV E → Option Unit
  | .mp h' k' v' => bif Nat.beq h' h && decide (k' = k) && decide (v' = v) then some () else none
  | _ => none
def dec1 (i : Nat) (p : PK) (a : AV E) (b : Blk E) : Option (PD E p) := match p with
  | .pp h ly => (noneB b).bind fun _ => castP h ly a
  | .fp g l => (noneB b).bind fun _ => castFp g l a
  | .fr h e => (noneB b).bind fun _ => castFr h e a
  | .mpp h k v => (noneB b).bind fun _ => castMa h k v a
  | .q0 => noneB b
  | .qg e => castG e b
  | .qr e => castRow e b
  | .qv ly c => castCT ly c b
  | .qm k v => castMp k v b
  | .qz e => castRow e b
  | .qx _ => noneB b
  | .qw ly c _ => castCT ly c b
  | .t ty => (noneB b).bind fun _ => castT ty a
  | .imm ty => (noneB b).bind fun _ => castI ty a
  | .fn g l => (noneB b).bind fun _ => castF g l a
  | .gr e => castGr i e a b
  | .row e => castRw i e a b
  | .var ty => castVr i ty a b
  | .snil e => (noneB b).bind fun _ => castNil e a
  | .snn e => (noneB b).bind fun _ => castNn e a
def enc1 (i : Nat) : (p : PK) → PD E p → AV E
  | .t ty, x => .t ty x
  | .imm ty, x => .imm ty x
  | .fn g l, x => .func g (encCap l x)
  | .gr e, x => .sl i e x.1
  | .row e, x => .fs i e x.2.1 x.2.2
  | .var ty, x => .ptr i ty []
  | .snil e, _ => .snil e
  | .snn e, x => .snn e x
  | .pp h ly, _ => .ptr h ly []
  | .fp g l, x => .funp g (encFK l x)
  | .fr h e, x => .fs h e x.1 x.2
  | .mpp h k v, _ => .mp h k v
  | _, _ => .undef
def encb : (p : PK) → PD E p → Blk E
  | .gr e, x => .grow e x.2
  | .row e, x => .row e x.1
  | .var ty, x => .var ty (.t ty x)
  | .qg e, x => .grow e x
  | .qr e, x => .row e x
  | .qv ly c, x => .var ly (encCT c x)
  | .qm k v, x => .mp k v x
  | .qz e, x => .row e x
  | .qw ly c _, x => .var ly (encCT c x)
  | _, _ => .none
def decs : (i : Nat) → (ps : List PK) → List (AV E) → List (Blk E) → Option (PDs E ps)
  | _, [], [], [] => some ()
  | i, p :: ps, as, b :: bs => bif isQ p then (dec1 i p .undef b).bind fun x => (decs (i + 1) ps as bs).map fun y => (x, y) else match as with
    | a :: as => (dec1 i p a b).bind fun x => (decs (i + 1) ps as bs).map fun y => (x, y)
    | [] => none
  | _, _, _, _ => none
def encs : (i : Nat) → (ps : List PK) → PDs E ps → List (AV E)
  | _, [], _ => []
  | i, p :: ps, x => bif isQ p then encs (i + 1) ps x.2 else enc1 i p x.1 :: encs (i + 1) ps x.2
def encBs : (ps : List PK) → PDs E ps → List (Blk E)
  | [], _ => []
  | p :: ps, x => encb p x.1 :: encBs ps x.2

theorem cst_spec {a b : Ty} {v : E.D a} {x : E.D b} (h : cst a b v = some x) : ∃ e : a = b, HEq v x := by
  unfold cst at h
  split at h
  · rename_i e
    subst e
    injection h with h
    exact ⟨rfl, heq_of_eq h⟩
  · cases h
theorem decCap_spec : ∀ (l : List Ty) (cs : List (Cap E)) (x : capD E l), decCap l cs = some x → cs = encCap l x := by
  intro l
  induction l with
  | nil =>
    intro cs x h
    cases cs with
    | nil => rfl
    | cons _ _ => cases h
  | cons t l ih =>
    intro cs x h
    cases cs with
    | nil => cases h
    | cons c cs =>
      simp only [decCap] at h
      obtain ⟨y, h1, h2⟩ := Option.bind_eq_some_iff.1 h
      obtain ⟨z, h2', h3⟩ := Option.map_eq_some_iff.1 h2
      subst h3
      obtain ⟨ty, v⟩ := c
      obtain ⟨e, h3⟩ := cst_spec h1
      simp only at e h3
      subst e
      cases h3
      rw [ih cs z h2']
      rfl
theorem castT_sp {ty : Ty} {a : AV E} {x : E.D ty} (h : castT ty a = some x) : a = .t ty x := by
  cases a with
  | t a v =>
    obtain ⟨e, h3⟩ := cst_spec (show cst a ty v = some x from h)
    subst e
    cases h3
    rfl
  | _ => cases h
theorem castI_sp {ty : Ty} {a : AV E} {x : E.D ty} (h : castI ty a = some x) : a = .imm ty x := by
  cases a with
  | imm a v =>
    obtain ⟨e, h3⟩ := cst_spec (show cst a ty v = some x from h)
    subst e
    cases h3
    rfl
  | _ => cases h
theorem castF_sp {g : FuncId} {l : List Ty} {a : AV E} {x : capD E l} (h : castF g l a = some x) : a = .func g (encCap l x) := by
  cases a with
  | func g' cs =>
    have h : (bif Nat.beq g' g then decCap l cs else none) = some x := h
    cases e : Nat.beq g' g with
    | true =>
      have e := Nat.eq_of_beq_eq_true e
      subst e
      simp only [Nat.beq_refl, cond_true] at h
      rw [decCap_spec _ _ _ h]
    | false => simp [e] at h
  | _ => cases h
theorem castNil_sp {e : Ty} {a : AV E} {x : Unit} (h : castNil e a = some x) : a = .snil e := by
  cases a with
  | snil a =>
    have h : (bif decide (a = e) then some () else none) = some x := h
    cases hd : decide (a = e) with
    | false => simp [hd] at h
    | true => rw [of_decide_eq_true hd]
  | _ => cases h
theorem castNn_sp {e : Ty} {a : AV E} {x : List (E.D e)} (h : castNn e a = some x) : a = .snn e x := by
  cases a with
  | snn a v =>
    obtain ⟨e', h3⟩ := cst_spec (show cst (E := E) (.sl a) (.sl e) v = some x from h)
    injection e' with e'
    subst e'
    cases h3
    rfl
  | _ => cases h
theorem noneB_sp {b : Blk E} {u : Unit} (h : noneB b = some u) : b = .none := by
  cases b with
  | none => rfl
  | _ => cases h
theorem castGr_sp {i : Nat} {e : Ty} {a : AV E} {b : Blk E} {x : List (E.D e) × Nat} (h : castGr i e a b = some x) : a = .sl i e x.1 ∧ b = .grow e x.2 := by
  unfold castGr at h
  split at h
  · rename_i i' a' v a'' n
    cases h1 : Nat.beq i' i <;> cases h2 : decide (a'' = a') <;> simp [h1, h2] at h
    have h1 := Nat.eq_of_beq_eq_true h1
    have h2 := of_decide_eq_true h2
    subst h1 h2
    obtain ⟨v', h3, h4⟩ := Option.map_eq_some_iff.1 h
    obtain ⟨e', h3⟩ := cst_spec h3
    injection e' with e'
    subst e' h4
    cases h3
    exact ⟨rfl, rfl⟩
  · cases h
theorem castRw_sp {i : Nat} {e : Ty} {a : AV E} {b : Blk E} {x : List (E.D e) × Nat × Nat} (h : castRw i e a b = some x) : a = .fs i e x.2.1 x.2.2 ∧ b = .row e x.1 := by
  unfold castRw at h
  split at h
  · rename_i i' a' off len a'' v
    cases h1 : Nat.beq i' i <;> cases h2 : decide (a' = e) <;> simp [h1, h2] at h
    have h1 := Nat.eq_of_beq_eq_true h1
    have h2 := of_decide_eq_true h2
    subst h1 h2
    obtain ⟨v', h3, h4⟩ := Option.map_eq_some_iff.1 h
    obtain ⟨e', h3⟩ := cst_spec h3
    injection e' with e'
    subst e' h4
    cases h3
    exact ⟨rfl, rfl⟩
  · cases h
theorem castVr_sp {i : Nat} {ty : Ty} {a : AV E} {b : Blk E} {x : E.D ty} (h : castVr i ty a b = some x) : a = .ptr i ty [] ∧ b = .var ty (.t ty x) := by
  unfold castVr at h
  split at h
  · rename_i i' ly ly' a' v
    cases h1 : Nat.beq i' i <;> cases h2 : decide (ly = ty) <;> cases h3 : decide (ly' = ty) <;> simp [h1, h2, h3] at h
    have h1 := Nat.eq_of_beq_eq_true h1
    have h2 := of_decide_eq_true h2
    have h3 := of_decide_eq_true h3
    subst h1 h2 h3
    obtain ⟨e', h3⟩ := cst_spec h
    subst e'
    cases h3
    exact ⟨rfl, rfl⟩
  · cases h
theorem castP_sp {h : Nat} {ly : Ty} {a : AV E} {u : Unit} (k : castP h ly a = some u) : a = .ptr h ly [] := by
  unfold castP at k
  split at k
  · obtain ⟨k, _⟩ := bif_some k
    simp only [Bool.and_eq_true] at k
    rw [Nat.eq_of_beq_eq_true k.1, of_decide_eq_true k.2]
  · cases k
theorem castNp_sp {a : AV E} {u : Unit} (k : castNp a = some u) : a = .nilp := by
  cases a with
  | nilp => rfl
  | _ => cases k
theorem cstL' {a e : Ty} {xs : List (E.D a)} {ys : List (E.D e)} (h : cst (E := E) (.sl a) (.sl e) xs = some ys) : a = e ∧ HEq xs ys := by
  obtain ⟨e', h3⟩ := cst_spec (E := E) (a := .sl a) (b := .sl e) h
  injection e' with e'
  exact ⟨e', h3⟩
theorem castSl_sp {h : Nat} {e : Ty} {a : AV E} {x : List (E.D e)} (k : castSl h e a = some x) : a = .sl h e x := by
  unfold castSl at k
  split at k
  · obtain ⟨k1, k2⟩ := bif_some k
    have k1 := Nat.eq_of_beq_eq_true k1
    obtain ⟨k3, k4⟩ := cstL' k2
    subst k1 k3
    cases k4
    rfl
  · cases k
theorem castFr_sp {h : Nat} {e : Ty} {a : AV E} {x : Nat × Nat} (k : castFr h e a = some x) : a = .fs h e x.1 x.2 := by
  cases a with
  | fs h' e' off len =>
    obtain ⟨h1, h2⟩ := bif_some (show (bif Nat.beq h' h && decide (e' = e) then some (off, len) else none) = some x from k)
    simp only [Bool.and_eq_true] at h1
    cases h2
    rw [Nat.eq_of_beq_eq_true h1.1, of_decide_eq_true h1.2]
  | _ => cases k
theorem castF0_sp {h : Nat} {e : Ty} {a : AV E} {x : Nat} (k : castF0 h e a = some x) : a = .fs h e 0 x := by
  unfold castF0 at k
  split at k
  · rename_i n hn
    cases k
    exact castFr_sp hn
  · cases k
theorem castRz_sp {e : Ty} {b : Blk E} {u : Unit} (h : castRz e b = some u) : b = .rowz e := by
  cases b with
  | rowz a =>
    obtain ⟨h1, _⟩ := bif_some (show (bif decide (a = e) then some () else none) = some u from h)
    rw [of_decide_eq_true h1]
  | _ => cases h
theorem decCK_sp {c : CK} {a : AV E} {x : CKD E c} (h : decCK c a = some x) : a = encCK c x := by
  cases c with
  | t ty => exact castT_sp h
  | gr h' e => exact castSl_sp h
  | ptr h' ly => exact castP_sp h
  | nilp => exact castNp_sp h
  | fs h' e => exact castF0_sp h
theorem decCKs_sp : ∀ {l : List CK} {as : List (AV E)} {x : CKs E l}, decCKs l as = some x → as = encCKs l x
  | [], [], x, h => rfl
  | [], _ :: _, x, h => by cases h
  | _ :: _, [], x, h => by cases h
  | c :: l, a :: as, x, h => by
    have h : ((decCK c a).bind fun x => (decCKs l as).map fun y => ((x, y) : CKs E (c :: l))) = some x := h
    obtain ⟨y, h1, h2⟩ := Option.bind_eq_some_iff.1 h
    obtain ⟨z, h3, h4⟩ := Option.map_eq_some_iff.1 h2
    subst h4
    rw [decCK_sp h1, decCKs_sp h3]
    rfl
theorem decCT_sp {c : CT} {a : AV E} {x : CTD E c} (h : decCT c a = some x) : a = encCT c x := by
  cases c with
  | one c => exact decCK_sp h
  | ag l =>
    obtain ⟨as, h1, h2⟩ := Option.bind_eq_some_iff.1 (show ((aggL a).bind fun as => decCKs l as) = some x from h)
    cases a with
    | agg l' =>
      cases h1
      rw [decCKs_sp h2]
      rfl
    | _ => cases h1
theorem castCT_sp {ly : Ty} {c : CT} {b : Blk E} {x : CTD E c} (h : castCT ly c b = some x) : b = .var ly (encCT c x) := by
  cases b with
  | var ly' a =>
    obtain ⟨h1, h2⟩ := bif_some (show (bif decide (ly' = ly) then decCT c a else none) = some x from h)
    rw [of_decide_eq_true h1, decCT_sp h2]
  | _ => cases h
theorem castMp_sp {k v : Ty} {b : Blk E} {x : List (E.D k × E.D v)} (h : castMp k v b = some x) : b = .mp k v x := by
  cases b with
  | mp k' v' es =>
    obtain ⟨h1, h2⟩ := cst_spec (show cst (E := E) (.mp k' v') (.mp k v) es = some x from h)
    injection h1 with h3 h4
    subst h3 h4
    cases h2
    rfl
  | _ => cases h
theorem decFK_sp : ∀ {l : List FK} {cs : List (CP E)} {x : FKs E l}, decFK l cs = some x → cs = encFK l x
  | [], [], x, h => rfl
  | [], _ :: _, x, h => by cases h
  | .im _ :: _, [], x, h => by cases h
  | .pt _ _ :: _, [], x, h => by cases h
  | .im ty :: l, .im c :: cs, x, h => by
    have h : ((cst c.ty ty c.v).bind fun x => (decFK l cs).map fun y => ((x, y) : FKs E (.im ty :: l))) = some x := h
    obtain ⟨y, h1, h2⟩ := Option.bind_eq_some_iff.1 h
    obtain ⟨z, h3, h4⟩ := Option.map_eq_some_iff.1 h2
    subst h4
    obtain ⟨t0, v0⟩ := c
    obtain ⟨e, h5⟩ := cst_spec h1
    simp only at e h5
    subst e
    cases h5
    rw [decFK_sp h3]
    rfl
  | .im ty :: l, .pt _ _ :: cs, x, h => by cases h
  | .pt _ _ :: l, .im _ :: cs, x, h => by cases h
  | .pt h0 ly :: l, .pt h' ly' :: cs, x, h => by
    obtain ⟨h1, h2⟩ := bif_some (show (bif Nat.beq h' h0 && decide (ly' = ly) then decFK l cs else none) = some x from h)
    simp only [Bool.and_eq_true] at h1
    rw [Nat.eq_of_beq_eq_true h1.1, of_decide_eq_true h1.2, decFK_sp h2]
    rfl
theorem castFp_sp {g : FuncId} {l : List FK} {a : AV E} {x : FKs E l} (h : castFp g l a = some x) : a = .funp g (encFK l x) := by
  cases a with
  | funp g' cs =>
    obtain ⟨h1, h2⟩ := bif_some (show (bif Nat.beq g' g then decFK l cs else none) = some x from h)
    rw [Nat.eq_of_beq_eq_true h1, decFK_sp h2]
  | _ => cases h
theorem castMa_sp {h : Nat} {k v : Ty} {a : AV E} {u : Unit} (q : castMa h k v a = some u) : a = .mp h k v := by
  cases a with
  | mp h' k' v' =>
    obtain ⟨h1, _⟩ := bif_some (show (bif Nat.beq h' h && decide (k' = k) && decide (v' = v) then some () else none) = some u from q)
    simp only [Bool.and_eq_true] at h1
    rw [Nat.eq_of_beq_eq_true h1.1.1, of_decide_eq_true h1.1.2, of_decide_eq_true h1.2]
  | _ => cases q
theorem castG_sp {e : Ty} {b : Blk E} {n : Nat} (h : castG e b = some n) : b = .grow e n := by
  cases b with
  | grow a m =>
    have h : (bif decide (a = e) then some m else none) = some n := h
    cases hd : decide (a = e) with
    | false => simp [hd] at h
    | true =>
      have := of_decide_eq_true hd
      subst this
      simp at h
      rw [h]
  | _ => cases h
theorem castRow_sp {e : Ty} {b : Blk E} {n : List (E.D e)} (h : castRow e b = some n) : b = .row e n := by
  cases b with
  | row a m =>
    obtain ⟨h1, h2⟩ := cstL' (show cst (E := E) (.sl a) (.sl e) m = some n from h)
    subst h1
    cases h2
    rfl
  | _ => cases h
theorem dec1_spec {i : Nat} {p : PK} {a : AV E} {b : Blk E} {x : PD E p} (h : dec1 i p a b = some x) : (isQ p = false → a = enc1 i p x) ∧ b = encb p x := by
  have old : (a = enc1 i p x ∧ b = encb p x) → (isQ p = false → a = enc1 i p x) ∧ b = encb p x := fun h => ⟨fun _ => h.1, h.2⟩
  cases p with
  | pp h' ly =>
    obtain ⟨u, h1, h2⟩ := Option.bind_eq_some_iff.1 (show ((noneB b).bind fun _ => castP h' ly a) = some x from h)
    exact old ⟨castP_sp h2, noneB_sp h1⟩
  | fp g l =>
    obtain ⟨u, h1, h2⟩ := Option.bind_eq_some_iff.1 (show ((noneB b).bind fun _ => castFp g l a) = some x from h)
    exact old ⟨castFp_sp h2, noneB_sp h1⟩
  | fr h' e =>
    obtain ⟨u, h1, h2⟩ := Option.bind_eq_some_iff.1 (show ((noneB b).bind fun _ => castFr h' e a) = some x from h)
    exact old ⟨castFr_sp h2, noneB_sp h1⟩
  | mpp h' k v =>
    obtain ⟨u, h1, h2⟩ := Option.bind_eq_some_iff.1 (show ((noneB b).bind fun _ => castMa h' k v a) = some x from h)
    exact old ⟨castMa_sp h2, noneB_sp h1⟩
  | q0 => exact ⟨fun h => (by cases h), noneB_sp (show noneB b = some x from h)⟩
  | qg e => exact ⟨fun h => (by cases h), castG_sp h⟩
  | qr e => exact ⟨fun h => (by cases h), castRow_sp h⟩
  | qv ly c => exact ⟨fun h => (by cases h), castCT_sp h⟩
  | qm k v => exact ⟨fun h => (by cases h), castMp_sp h⟩
  | qz e => exact ⟨fun h => (by cases h), castRow_sp h⟩
  | qx e => exact ⟨fun h => (by cases h), noneB_sp (show noneB b = some x from h)⟩
  | qw ly c c' => exact ⟨fun h => (by cases h), castCT_sp h⟩
  | t ty =>
    obtain ⟨u, h1, h2⟩ := Option.bind_eq_some_iff.1 (show ((noneB b).bind fun _ => castT ty a) = some x from h)
    exact old ⟨castT_sp h2, noneB_sp h1⟩
  | imm ty =>
    obtain ⟨u, h1, h2⟩ := Option.bind_eq_some_iff.1 (show ((noneB b).bind fun _ => castI ty a) = some x from h)
    exact old ⟨castI_sp h2, noneB_sp h1⟩
  | fn g l =>
    obtain ⟨u, h1, h2⟩ := Option.bind_eq_some_iff.1 (show ((noneB b).bind fun _ => castF g l a) = some x from h)
    exact old ⟨castF_sp h2, noneB_sp h1⟩
  | gr e => exact old (castGr_sp h)
  | row e => exact old (castRw_sp h)
  | var ty => exact old (castVr_sp h)
  | snil e =>
    obtain ⟨u, h1, h2⟩ := Option.bind_eq_some_iff.1 (show ((noneB b).bind fun _ => castNil e a) = some x from h)
    exact old ⟨castNil_sp h2, noneB_sp h1⟩
  | snn e =>
    obtain ⟨u, h1, h2⟩ := Option.bind_eq_some_iff.1 (show ((noneB b).bind fun _ => castNn e a) = some x from h)
    exact old ⟨castNn_sp h2, noneB_sp h1⟩
theorem decs_spec : ∀ {ps : List PK} {i : Nat} {as : List (AV E)} {bs : List (Blk E)} {x : PDs E ps}, decs i ps as bs = some x → as = encs i ps x ∧ bs = encBs ps x := by
  intro l
  induction l with
  | nil =>
    intro i cs bs x h
    cases cs with
    | nil => cases bs with
      | nil => exact ⟨rfl, rfl⟩
      | cons _ _ => cases h
    | cons _ _ => cases bs <;> cases h
  | cons t l ih =>
    intro i cs bs x h
    cases bs with
    | nil => cases cs <;> cases h
    | cons bb bs =>
      cases hq : isQ t with
      | true =>
        simp only [decs, hq, cond_true] at h
        obtain ⟨y, h1, h2⟩ := Option.bind_eq_some_iff.1 h
        obtain ⟨z, h2', h3⟩ := Option.map_eq_some_iff.1 h2
        subst h3
        obtain ⟨_, e2⟩ := dec1_spec h1
        obtain ⟨e3, e4⟩ := ih h2'
        rw [e2, e3, e4]
        exact ⟨by simp only [encs, hq, cond_true], rfl⟩
      | false =>
        simp only [decs, hq, cond_false] at h
        cases cs with
        | nil => cases h
        | cons c cs =>
          obtain ⟨y, h1, h2⟩ := Option.bind_eq_some_iff.1 h
          obtain ⟨z, h2', h3⟩ := Option.map_eq_some_iff.1 h2
          subst h3
          obtain ⟨e1, e2⟩ := dec1_spec h1
          obtain ⟨e3, e4⟩ := ih h2'
          rw [e1 hq, e2, e3, e4]
          exact ⟨by simp only [encs, hq, cond_false], rfl⟩

/-! Results -/
def RD (E : Env) : RSh → Type
  | .t ty => E.D ty
  | .own e => List (E.D e)
  | .ownrow e => List (E.D e)
  | .inp _ e => List (E.D e)
  | .inrow _ _ => Nat
  | .ag l e => AD E l e
  | _ => Unit
def RDs (E : Env) : List RSh → Type
  | [] => Unit
  | [a] => RD E a
  | a :: b :: l => RD E a × RDs E (b :: l)
def wr1 : (sh : RSh) → RD E sh → AV E
  | .t ty, r => .t ty r
  | .own e, r => .own e r
  | .ownrow e, r => .ownrow e r
  | .inp p e, r => .sl p e r
  | .inrow p e, r => .fs p e 0 r
  | .ag l e, r => .agg (wag l e r)
  | _, _ => .undef
def wrs : (l : List RSh) → RDs E l → List (AV E)
  | [], _ => []
  | [a], r => [wr1 a r]
  | a :: b :: l, r => wr1 a r.1 :: wrs (b :: l) r.2
def RDx (E : Env) : RSh → Type
  | .tup l => RDs E l
  | .unit => Unit
  | .t ty => RD E (.t ty)
  | .own e => RD E (.own e)
  | .ownrow e => RD E (.ownrow e)
  | .inp p e => RD E (.inp p e)
  | .inrow p e => RD E (.inrow p e)
  | .ag l e => RD E (.ag l e)
  | _ => Unit
def wrx : (sh : RSh) → RDx E sh → AV E
  | .tup l, r => .tup (wrs l r)
  | .unit, _ => .tup []
  | .t ty, r => wr1 (.t ty) r
  | .own e, r => wr1 (.own e) r
  | .ownrow e, r => wr1 (.ownrow e) r
  | .inp p e, r => wr1 (.inp p e) r
  | .inrow p e, r => wr1 (.inrow p e) r
  | .ag l e, r => wr1 (.ag l e) r
  | _, _ => .undef

section
variable (np : Nat) (b : List (Blk E))
/-- A result, on its condition. -/
def retO (e : Ty) : AV E → Option (Bool × List (E.D e))
  | .sl id e' xs => bif decide (np ≤ id) then match blk b id with
      | .grow e'' n => bif decide (e'' = e') then match cst (.sl e') (.sl e) xs with
          | some (ys : List (E.D e)) => some (decide (n = xs.length), ys)
          | none => none
        else none
      | _ => none
    else none
  | .exact e' xs => match cst (.sl e') (.sl e) xs with
    | some (ys : List (E.D e)) => some (true, ys)
    | none => none
  | .snil e' => bif decide (e' = e) then some (true, []) else none
  | _ => none
def retR (e : Ty) : AV E → Option (Bool × List (E.D e))
  | .fs id e' 0 n => bif decide (np ≤ id) then match blk b id with
      | .row e'' xs => bif decide (e'' = e') then match cst (.sl e'') (.sl e) xs with
          | some (ys : List (E.D e)) => some (decide (n = xs.length), ys)
          | none => none
        else none
      | _ => none
    else none
  | .exact e' [] => bif decide (e' = e) then some (true, []) else none
  | .snil e' => bif decide (e' = e) then some (true, []) else none
  | _ => none
def retI (p : Nat) (e : Ty) : AV E → Option (Bool × List (E.D e))
  | .sl id e' xs => bif decide (id = p) && decide (p < np) then match blk b id with
      | .grow e'' n => bif decide (e'' = e') then match cst (.sl e') (.sl e) xs with
          | some (ys : List (E.D e)) => some (decide (n = xs.length), ys)
          | none => none
        else none
      | _ => none
    else none
  | _ => none
def retW (p : Nat) (e : Ty) : AV E → Option (Bool × Nat)
  | .fs id e' off len => bif decide (id = p) && decide (p < np) && decide (e' = e) then match blk b id with
      | .row e'' _ => bif decide (e'' = e') then some (decide (off = 0), len) else none
      | _ => none
    else none
  | _ => none
def retT (ty : Ty) (a : AV E) : Option (Bool × E.D ty) := match toT a ty with
  | some x => some (true, x)
  | none => none
def retAg2 : (l : List Ty) → (e : Ty) → List (AV E) → Option (Bool × AD E l e)
  | [], e, cs => match cs with
    | [c] => retR np b e c
    | _ => none
  | a :: l, e, cs => match cs with
    | c :: r => (toT c a).bind fun x => (retAg2 l e r).map fun ky => (ky.1, (x, ky.2))
    | [] => none
def retA2 (l : List Ty) (e : Ty) : AV E → Option (Bool × AD E l e)
  | .agg cs => retAg2 np b l e cs
  | _ => none
def ret2 (sh : RSh) (a : AV E) : Option (Bool × RD E sh) := match sh with
  | .t ty => retT ty a
  | .own e => retO np b e a
  | .ownrow e => retR np b e a
  | .inp p e => retI np b p e a
  | .inrow p e => retW np b p e a
  | .ag l e => retA2 np b l e a
  | _ => none

theorem cstL {a e : Ty} {xs : List (E.D a)} {ys : List (E.D e)} (h : cst (E := E) (.sl a) (.sl e) xs = some ys) : a = e ∧ HEq xs ys := by
  obtain ⟨e', h3⟩ := cst_spec (E := E) (a := .sl a) (b := .sl e) h
  injection e' with e'
  exact ⟨e', h3⟩
theorem retR_spec {e : Ty} {a : AV E} {r : List (E.D e)} (h : retR np b e a = some (true, r)) : retRow np b e a = some (.ownrow e r) := by
  unfold retR at h
  split at h
  · rename_i id e' n
    simp only [retRow]
    cases h1 : decide (np ≤ id) with
    | false => simp [h1] at h
    | true =>
      simp only [h1, cond_true] at h ⊢
      cases hb : blk b id with
      | row e'' xs =>
        simp only [hb] at h ⊢
        cases h2 : decide (e'' = e') with
        | false => simp [h2] at h
        | true =>
          simp only [h2, cond_true] at h
          have h2 := of_decide_eq_true h2
          cases hc : cst (E := E) (.sl e'') (.sl e) xs with
          | none => simp [hc] at h
          | some ys =>
            rw [hc] at h
            obtain ⟨h3, h4⟩ := Prod.mk.inj (Option.some.inj h)
            have h3 := of_decide_eq_true h3
            obtain ⟨h5, h6⟩ := cstL hc
            subst h2 h5 h4
            cases h6
            simp [h3]
      | _ => simp [hb] at h
  · rename_i e'
    obtain ⟨hc, h1⟩ := bif_some h
    have hc := of_decide_eq_true hc
    subst hc
    have h1 := (Prod.mk.inj (Option.some.inj h1)).2
    subst h1
    simp [retRow]
  · rename_i e'
    obtain ⟨hc, h1⟩ := bif_some h
    have hc := of_decide_eq_true hc
    subst hc
    have h1 := (Prod.mk.inj (Option.some.inj h1)).2
    subst h1
    simp [retRow]
  · cases h

theorem retAg2_spec {e : Ty} : ∀ {l : List Ty} {cs : List (AV E)} {r : AD E l e}, retAg2 np b l e cs = some (true, r) → retAg np b l e cs = some (wag l e r)
  | [], [c], r, h => by
    have h : retR np b e c = some (true, r) := h
    show (retRow np b e c).map (fun x => [x]) = _
    rw [retR_spec np b h]
    rfl
  | [], [], r, h => by cases h
  | [], _ :: _ :: _, r, h => by cases h
  | a :: l, [], r, h => by cases h
  | a :: l, c :: cs, r, h => by
    have h : ((toT c a).bind fun x => (retAg2 np b l e cs).map fun ky => (ky.1, ((x, ky.2) : AD E (a :: l) e))) = some (true, r) := h
    obtain ⟨x, h1, h2⟩ := Option.bind_eq_some_iff.1 h
    obtain ⟨ky, h3, h4⟩ := Option.map_eq_some_iff.1 h2
    obtain ⟨h5, h6⟩ := Prod.mk.inj h4
    obtain ⟨k, y⟩ := ky
    simp only at h5 h6
    subst h5 h6
    have h7 := retAg2_spec h3
    simp only [retAg, h1, h7]
    rfl
theorem ret2_spec {sh : RSh} {a : AV E} {r : RD E sh} (h : ret2 np b sh a = some (true, r)) : ret1 np b sh a = some (wr1 sh r) := by
  cases sh with
  | t ty =>
    have h : retT ty a = some (true, r) := h
    unfold retT at h
    cases ht : toT a ty with
    | none => simp [ht] at h
    | some x =>
      rw [ht] at h
      have h := (Prod.mk.inj (Option.some.inj h)).2
      subst h
      simp [ret1, ht, wr1]
  | own e =>
    have h : retO np b e a = some (true, r) := h
    unfold retO at h
    cases a with
    | sl id e' xs =>
      simp only [ret1]
      simp only at h
      cases h1 : decide (np ≤ id) with
      | false => simp [h1] at h
      | true =>
        simp only [h1, cond_true] at h ⊢
        cases hb : blk b id with
        | grow e'' n =>
          simp only [hb] at h ⊢
          cases h2 : decide (e'' = e') with
          | false => simp [h2] at h
          | true =>
            simp only [h2, cond_true] at h
            have h2 := of_decide_eq_true h2
            cases hc : cst (E := E) (.sl e') (.sl e) xs with
            | none => simp [hc] at h
            | some ys =>
              rw [hc] at h
              obtain ⟨h3, h4⟩ := Prod.mk.inj (Option.some.inj h)
              have h3 := of_decide_eq_true h3
              obtain ⟨h5, h6⟩ := cstL hc
              subst h2 h5 h4
              cases h6
              simp [h3, wr1]
        | _ => simp [hb] at h
    | snil e' =>
      simp only [ret1]
      simp only at h
      cases h1 : decide (e' = e) with
      | false => simp [h1] at h
      | true =>
        rw [h1, cond_true] at h
        have h2 := (Prod.mk.inj (Option.some.inj h)).2
        have h3 := of_decide_eq_true h1
        subst h3 h2
        simp [wr1]
    | exact e' xs =>
      simp only [ret1]
      simp only at h
      cases hc : cst (E := E) (.sl e') (.sl e) xs with
      | none => simp [hc] at h
      | some ys =>
        rw [hc] at h
        have h := (Prod.mk.inj (Option.some.inj h)).2
        obtain ⟨h5, h6⟩ := cstL hc
        subst h5 h
        cases h6
        simp [wr1]
    | _ => cases h
  | ownrow e => exact retR_spec np b h
  | ag l e =>
    have h : retA2 np b l e a = some (true, r) := h
    unfold retA2 at h
    split at h
    · simp only [ret1, retAg2_spec np b h]
      rfl
    · cases h
  | inp p e =>
    have h : retI np b p e a = some (true, r) := h
    unfold retI at h
    cases a with
    | sl id e' xs =>
      simp only [ret1]
      simp only at h
      cases h1 : decide (id = p) && decide (p < np) with
      | false => simp [h1] at h
      | true =>
        simp only [h1, cond_true] at h
        simp only [Bool.and_eq_true, decide_eq_true_eq] at h1
        cases hb : blk b id with
        | grow e'' n =>
          simp only [hb] at h ⊢
          cases h2 : decide (e'' = e') with
          | false => simp [h2] at h
          | true =>
            simp only [h2, cond_true] at h
            have h2 := of_decide_eq_true h2
            cases hc : cst (E := E) (.sl e') (.sl e) xs with
            | none => simp [hc] at h
            | some ys =>
              rw [hc] at h
              obtain ⟨h3, h4⟩ := Prod.mk.inj (Option.some.inj h)
              have h3 := of_decide_eq_true h3
              obtain ⟨h5, h6⟩ := cstL hc
              subst h2 h5 h4
              cases h6
              obtain ⟨h7, h8⟩ := h1
              subst h7
              simp [h3, h8, wr1]
        | _ => simp [hb] at h
    | _ => cases h
  | inrow p e =>
    have h : retW np b p e a = some (true, r) := h
    unfold retW at h
    cases a with
    | fs id e' off len =>
      simp only [ret1]
      simp only at h
      cases h1 : decide (id = p) && decide (p < np) && decide (e' = e) with
      | false => simp [h1] at h
      | true =>
        simp only [h1, cond_true] at h ⊢
        simp only [Bool.and_eq_true, decide_eq_true_eq] at h1
        cases hb : blk b id with
        | row e'' xs =>
          simp only [hb] at h ⊢
          cases h2 : decide (e'' = e') with
          | false => simp [h2] at h
          | true =>
            simp only [h2, cond_true] at h ⊢
            obtain ⟨⟨h7, _⟩, h8⟩ := h1
            subst h7 h8
            obtain ⟨h3, h⟩ := Prod.mk.inj (Option.some.inj h)
            have h3 := of_decide_eq_true h3
            subst h h3
            rfl
        | _ => simp [hb] at h
    | _ => cases h
  | _ => cases h
end

section
variable (tt : Nat → Option TE)
def rets2 (np : Nat) (s : St E) : (l : List RSh) → List ResultVar → Option (Bool × RDs E l)
  | [], [] => some (true, ())
  | [a], [r] => (resA tt s.b s.t r).bind (ret2 np s.b a)
  | a :: b :: l, r :: rs => match (resA tt s.b s.t r).bind (ret2 np s.b a), rets2 np s (b :: l) rs with
    | some (c, x), some (c', y) => some (c && c', (x, y))
    | _, _ => none
  | _, _ => none
def retsA2 (np : Nat) (s : St E) (rs : List ResultVar) (sh : RSh) : Option (Bool × RDx E sh) :=
  match sh with
  | .unit => match rs with
    | [] => some (true, ())
    | _ => none
  | .tup l => bif nodup (gone tt s rs l) && decide (2 ≤ rs.length) then rets2 tt np s l rs else none
  | .t ty => match rs with
    | [r] => (resA tt s.b s.t r).bind (ret2 np s.b (.t ty))
    | _ => none
  | .own e => match rs with
    | [r] => (resA tt s.b s.t r).bind (ret2 np s.b (.own e))
    | _ => none
  | .ownrow e => match rs with
    | [r] => (resA tt s.b s.t r).bind (ret2 np s.b (.ownrow e))
    | _ => none
  | .inp p e => match rs with
    | [r] => (resA tt s.b s.t r).bind (ret2 np s.b (.inp p e))
    | _ => none
  | .inrow p e => match rs with
    | [r] => (resA tt s.b s.t r).bind (ret2 np s.b (.inrow p e))
    | _ => none
  | .ag l e => match rs with
    | [r] => (resA tt s.b s.t r).bind (ret2 np s.b (.ag l e))
    | _ => none
  | .asis => none

theorem nodup_ok : True := trivial
theorem rets2_spec {np : Nat} {s : St E} : ∀ {l : List RSh} {rs : List ResultVar} {r : RDs E l}, rets2 tt np s l rs = some (true, r) → rets tt np s rs l = some (wrs l r) := by
  intro l
  induction l with
  | nil =>
    intro rs r h
    cases rs with
    | nil => rfl
    | cons _ _ => cases h
  | cons a l ih =>
    intro rs r h
    cases rs with
    | nil => cases l <;> cases h
    | cons x rs =>
      cases l with
      | nil =>
        cases rs with
        | cons _ _ => cases h
        | nil =>
          have h : ((resA tt s.b s.t x).bind (ret2 np s.b a)) = some (true, r) := h
          obtain ⟨y, h1, h2⟩ := Option.bind_eq_some_iff.1 h
          have := ret2_spec np s.b h2
          simp only [rets, h1, Option.bind_some, this]
          rfl
      | cons b l =>
        have h : (match (resA tt s.b s.t x).bind (ret2 np s.b a), rets2 tt np s (b :: l) rs with
          | some (c, x), some (c', y) => some (c && c', (x, y))
          | _, _ => none) = some (true, r) := h
        split at h
        · rename_i c y c' z h1 h2
          obtain ⟨y', h3, h4⟩ := Option.bind_eq_some_iff.1 h1
          have h5 := Prod.mk.inj (Option.some.inj h)
          obtain ⟨h5, h6⟩ := h5
          simp only [Bool.and_eq_true] at h5
          obtain ⟨rfl, rfl⟩ := h5
          have k1 := ret2_spec np s.b h4
          have k2 := ih h2
          rw [rets, h3, Option.bind_some, k1, k2, ← h6]
          rfl
        · cases h
theorem retsA2_spec {np : Nat} {s : St E} {rs : List ResultVar} {sh : RSh} {r : RDx E sh} (h : retsA2 tt np s rs sh = some (true, r)) : retsA tt np s rs sh = some (wrx sh r) := by
  have one : ∀ (sh : RSh) (rs : List ResultVar) (r : RD E sh), (match rs with | [x] => (resA tt s.b s.t x).bind (ret2 np s.b sh) | _ => none) = some (true, r) → ∃ x, rs = [x] ∧ (resA tt s.b s.t x).bind (ret1 np s.b sh) = some (wr1 sh r) := by
    intro sh rs r h
    split at h
    · rename_i x
      obtain ⟨y, h1, h2⟩ := Option.bind_eq_some_iff.1 h
      exact ⟨x, rfl, by rw [h1, Option.bind_some, ret2_spec np s.b h2]⟩
    · cases h
  cases sh with
  | unit =>
    cases rs with
    | nil => rfl
    | cons _ _ => cases h
  | tup l =>
    have h : (bif nodup (gone tt s rs l) && decide (2 ≤ rs.length) then rets2 tt np s l rs else none) = some (true, r) := h
    cases hc : nodup (gone tt s rs l) && decide (2 ≤ rs.length) with
    | false => simp [hc] at h
    | true =>
      rw [hc, cond_true] at h
      have := rets2_spec tt h
      simp only [retsA, hc, cond_true, this]
      rfl
  | t ty => obtain ⟨x, rfl, h2⟩ := one (.t ty) rs r h; exact h2
  | own e => obtain ⟨x, rfl, h2⟩ := one (.own e) rs r h; exact h2
  | ownrow e => obtain ⟨x, rfl, h2⟩ := one (.ownrow e) rs r h; exact h2
  | inp p e => obtain ⟨x, rfl, h2⟩ := one (.inp p e) rs r h; exact h2
  | inrow p e => obtain ⟨x, rfl, h2⟩ := one (.inrow p e) rs r h; exact h2
  | ag l e => obtain ⟨x, rfl, h2⟩ := one (.ag l e) rs r h; exact h2
  | asis => cases h
end

def isB : PK → Bool
  | .gr _ | .row _ | .var _ | .qg _ | .qr _ | .qv _ _ | .qm _ _ | .qz _ | .qx _ | .qw _ _ _ => true
  | _ => false
def ODs (E : Env) : List PK → Type
  | [] => Unit
  | p :: l => match p with
    | .gr _ => Nat × ODs E l
    | .row e => List (E.D e) × ODs E l
    | .var ty => E.D ty × ODs E l
    | .qg _ => Nat × ODs E l
    | .qr e => List (E.D e) × ODs E l
    | .qv _ c => CTD E c × ODs E l
    | .qm k v => List (E.D k × E.D v) × ODs E l
    | .qx e => List (E.D e) × ODs E l
    | .qw _ _ c => CTD E c × ODs E l
    | _ => ODs E l
def outD : (ps : List PK) → List (Blk E) → Option (ODs E ps)
  | [], [] => some ()
  | .t _ :: ps, b :: bs => (noneB b).bind fun _ => outD ps bs
  | .imm _ :: ps, b :: bs => (noneB b).bind fun _ => outD ps bs
  | .fn _ _ :: ps, b :: bs => (noneB b).bind fun _ => outD ps bs
  | .snil _ :: ps, b :: bs => (noneB b).bind fun _ => outD ps bs
  | .snn _ :: ps, b :: bs => (noneB b).bind fun _ => outD ps bs
  | .pp _ _ :: ps, b :: bs => (noneB b).bind fun _ => outD ps bs
  | .fp _ _ :: ps, b :: bs => (noneB b).bind fun _ => outD ps bs
  | .fr _ _ :: ps, b :: bs => (noneB b).bind fun _ => outD ps bs
  | .mpp _ _ _ :: ps, b :: bs => (noneB b).bind fun _ => outD ps bs
  | .q0 :: ps, b :: bs => (noneB b).bind fun _ => outD ps bs
  | .gr e :: ps, b :: bs => (castG e b).bind fun n => (outD ps bs).bind fun l => some (n, l)
  | .row e :: ps, b :: bs => (castRow e b).bind fun n => (outD ps bs).bind fun l => some (n, l)
  | .var ty :: ps, b :: bs => (castV ty ty b).bind fun n => (outD ps bs).bind fun l => some (n, l)
  | .qg e :: ps, b :: bs => (castG e b).bind fun n => (outD ps bs).bind fun l => some (n, l)
  | .qr e :: ps, b :: bs => (castRow e b).bind fun n => (outD ps bs).bind fun l => some (n, l)
  | .qv ly c :: ps, b :: bs => (castCT ly c b).bind fun n => (outD ps bs).bind fun l => some (n, l)
  | .qm k v :: ps, b :: bs => (castMp k v b).bind fun n => (outD ps bs).bind fun l => some (n, l)
  | .qz e :: ps, b :: bs => (castRz e b).bind fun _ => outD ps bs
  | .qx e :: ps, b :: bs => (castRow e b).bind fun n => (outD ps bs).bind fun l => some (n, l)
  | .qw ly _ c :: ps, b :: bs => (castCT ly c b).bind fun n => (outD ps bs).bind fun l => some (n, l)
  | _, _ => none
def wrO : (ps : List PK) → ODs E ps → List (Blk E)
  | [], _ => []
  | .t _ :: ps, o => .none :: wrO ps o
  | .imm _ :: ps, o => .none :: wrO ps o
  | .fn _ _ :: ps, o => .none :: wrO ps o
  | .snil _ :: ps, o => .none :: wrO ps o
  | .snn _ :: ps, o => .none :: wrO ps o
  | .pp _ _ :: ps, o => .none :: wrO ps o
  | .fp _ _ :: ps, o => .none :: wrO ps o
  | .fr _ _ :: ps, o => .none :: wrO ps o
  | .mpp _ _ _ :: ps, o => .none :: wrO ps o
  | .q0 :: ps, o => .none :: wrO ps o
  | .gr e :: ps, o => .grow e o.1 :: wrO ps o.2
  | .row e :: ps, o => .row e o.1 :: wrO ps o.2
  | .var ty :: ps, o => .var ty (.t ty o.1) :: wrO ps o.2
  | .qg e :: ps, o => .grow e o.1 :: wrO ps o.2
  | .qr e :: ps, o => .row e o.1 :: wrO ps o.2
  | .qv ly c :: ps, o => .var ly (encCT c o.1) :: wrO ps o.2
  | .qm k v :: ps, o => .mp k v o.1 :: wrO ps o.2
  | .qz e :: ps, o => .rowz e :: wrO ps o
  | .qx e :: ps, o => .row e o.1 :: wrO ps o.2
  | .qw ly _ c :: ps, o => .var ly (encCT c o.1) :: wrO ps o.2
def AT (E : Env) (b : Bool) (sh : RSh) (ps : List PK) : Type := match b with
  | true => RDx E sh × ODs E ps
  | false => RDx E sh
def mkA (sh : RSh) (ps : List PK) (r : RDx E sh) (o : ODs E ps) : (b : Bool) → AT E b sh ps
  | true => (r, o)
  | false => r
def wrA (sh : RSh) (ps : List PK) : (b : Bool) → AT E b sh ps → AV E × List (Blk E)
  | true, x => (wrx sh x.1, wrO ps x.2)
  | false, x => (wrx sh x, ps.map fun _ => .none)

theorem castV_sp {ty : Ty} {b : Blk E} {n : E.D ty} (h : castV ty ty b = some n) : b = .var ty (.t ty n) := by
  unfold castV at h
  split at h
  · rename_i ly a v
    cases hd : decide (ly = ty) with
    | false => simp [hd] at h
    | true =>
      have := of_decide_eq_true hd
      subst this
      simp only [hd, cond_true] at h
      obtain ⟨e, h2⟩ := cst_spec h
      subst e
      cases h2
      rfl
  · cases h
theorem outD_spec : ∀ {ps : List PK} {bs : List (Blk E)} {o : ODs E ps}, outD ps bs = some o → bs = wrO ps o := by
  intro l
  induction l with
  | nil =>
    intro bs o h
    cases bs with
    | nil => rfl
    | cons _ _ => cases h
  | cons p l ih =>
    intro bs o h
    cases bs with
    | nil => cases p <;> cases h
    | cons b bs =>
      cases p with
      | t ty =>
        obtain ⟨u, h1, h2⟩ := Option.bind_eq_some_iff.1 (show ((noneB b).bind fun _ => outD l bs) = some o from h)
        rw [noneB_sp h1, ih h2]
        rfl
      | imm ty =>
        obtain ⟨u, h1, h2⟩ := Option.bind_eq_some_iff.1 (show ((noneB b).bind fun _ => outD l bs) = some o from h)
        rw [noneB_sp h1, ih h2]
        rfl
      | fn g ty =>
        obtain ⟨u, h1, h2⟩ := Option.bind_eq_some_iff.1 (show ((noneB b).bind fun _ => outD l bs) = some o from h)
        rw [noneB_sp h1, ih h2]
        rfl
      | snil ty =>
        obtain ⟨u, h1, h2⟩ := Option.bind_eq_some_iff.1 (show ((noneB b).bind fun _ => outD l bs) = some o from h)
        rw [noneB_sp h1, ih h2]
        rfl
      | snn ty =>
        obtain ⟨u, h1, h2⟩ := Option.bind_eq_some_iff.1 (show ((noneB b).bind fun _ => outD l bs) = some o from h)
        rw [noneB_sp h1, ih h2]
        rfl
      | pp h' ly =>
        obtain ⟨u, h1, h2⟩ := Option.bind_eq_some_iff.1 (show ((noneB b).bind fun _ => outD l bs) = some o from h)
        rw [noneB_sp h1, ih h2]
        rfl
      | fp g ty =>
        obtain ⟨u, h1, h2⟩ := Option.bind_eq_some_iff.1 (show ((noneB b).bind fun _ => outD l bs) = some o from h)
        rw [noneB_sp h1, ih h2]
        rfl
      | fr h' e =>
        obtain ⟨u, h1, h2⟩ := Option.bind_eq_some_iff.1 (show ((noneB b).bind fun _ => outD l bs) = some o from h)
        rw [noneB_sp h1, ih h2]
        rfl
      | mpp h' k v =>
        obtain ⟨u, h1, h2⟩ := Option.bind_eq_some_iff.1 (show ((noneB b).bind fun _ => outD l bs) = some o from h)
        rw [noneB_sp h1, ih h2]
        rfl
      | q0 =>
        obtain ⟨u, h1, h2⟩ := Option.bind_eq_some_iff.1 (show ((noneB b).bind fun _ => outD l bs) = some o from h)
        rw [noneB_sp h1, ih h2]
        rfl
      | gr e =>
        obtain ⟨u, h1, h2⟩ := Option.bind_eq_some_iff.1 (show ((castG e b).bind fun n => (outD l bs).bind fun l => some (n, l)) = some o from h)
        obtain ⟨z, h2, h3⟩ := Option.bind_eq_some_iff.1 h2
        rw [castG_sp h1, ih h2, ← Option.some.inj h3]
        rfl
      | row e =>
        obtain ⟨u, h1, h2⟩ := Option.bind_eq_some_iff.1 (show ((castRow e b).bind fun n => (outD l bs).bind fun l => some (n, l)) = some o from h)
        obtain ⟨z, h2, h3⟩ := Option.bind_eq_some_iff.1 h2
        rw [castRow_sp h1, ih h2, ← Option.some.inj h3]
        rfl
      | var e =>
        obtain ⟨u, h1, h2⟩ := Option.bind_eq_some_iff.1 (show ((castV e e b).bind fun n => (outD l bs).bind fun l => some (n, l)) = some o from h)
        obtain ⟨z, h2, h3⟩ := Option.bind_eq_some_iff.1 h2
        rw [castV_sp h1, ih h2, ← Option.some.inj h3]
        rfl
      | qg e =>
        obtain ⟨u, h1, h2⟩ := Option.bind_eq_some_iff.1 (show ((castG e b).bind fun n => (outD l bs).bind fun l => some (n, l)) = some o from h)
        obtain ⟨z, h2, h3⟩ := Option.bind_eq_some_iff.1 h2
        rw [castG_sp h1, ih h2, ← Option.some.inj h3]
        rfl
      | qr e =>
        obtain ⟨u, h1, h2⟩ := Option.bind_eq_some_iff.1 (show ((castRow e b).bind fun n => (outD l bs).bind fun l => some (n, l)) = some o from h)
        obtain ⟨z, h2, h3⟩ := Option.bind_eq_some_iff.1 h2
        rw [castRow_sp h1, ih h2, ← Option.some.inj h3]
        rfl
      | qv ly c =>
        obtain ⟨u, h1, h2⟩ := Option.bind_eq_some_iff.1 (show ((castCT ly c b).bind fun n => (outD l bs).bind fun l => some (n, l)) = some o from h)
        obtain ⟨z, h2, h3⟩ := Option.bind_eq_some_iff.1 h2
        rw [castCT_sp h1, ih h2, ← Option.some.inj h3]
        rfl
      | qm k v =>
        obtain ⟨u, h1, h2⟩ := Option.bind_eq_some_iff.1 (show ((castMp k v b).bind fun n => (outD l bs).bind fun l => some (n, l)) = some o from h)
        obtain ⟨z, h2, h3⟩ := Option.bind_eq_some_iff.1 h2
        rw [castMp_sp h1, ih h2, ← Option.some.inj h3]
        rfl
      | qz e =>
        obtain ⟨u, h1, h2⟩ := Option.bind_eq_some_iff.1 (show ((castRz e b).bind fun _ => outD l bs) = some o from h)
        rw [castRz_sp h1, ih h2]
        rfl
      | qx e =>
        obtain ⟨u, h1, h2⟩ := Option.bind_eq_some_iff.1 (show ((castRow e b).bind fun n => (outD l bs).bind fun l => some (n, l)) = some o from h)
        obtain ⟨z, h2, h3⟩ := Option.bind_eq_some_iff.1 h2
        rw [castRow_sp h1, ih h2, ← Option.some.inj h3]
        rfl
      | qw ly c' c =>
        obtain ⟨u, h1, h2⟩ := Option.bind_eq_some_iff.1 (show ((castCT ly c b).bind fun n => (outD l bs).bind fun l => some (n, l)) = some o from h)
        obtain ⟨z, h2, h3⟩ := Option.bind_eq_some_iff.1 h2
        rw [castCT_sp h1, ih h2, ← Option.some.inj h3]
        rfl
theorem wrO_none : ∀ {ps : List PK}, ps.any isB = false → ∀ o : ODs E ps, wrO ps o = ps.map fun _ => .none := by
  intro l
  induction l with
  | nil => intro _ _; rfl
  | cons p l ih =>
    intro h o
    simp only [List.any_cons, Bool.or_eq_false_iff] at h
    cases p with
    | t ty => exact congrArg (Blk.none :: ·) (ih h.2 o)
    | imm ty => exact congrArg (Blk.none :: ·) (ih h.2 o)
    | fn g ty => exact congrArg (Blk.none :: ·) (ih h.2 o)
    | snil ty => exact congrArg (Blk.none :: ·) (ih h.2 o)
    | snn ty => exact congrArg (Blk.none :: ·) (ih h.2 o)
    | pp h' ly => exact congrArg (Blk.none :: ·) (ih h.2 o)
    | fp g ty => exact congrArg (Blk.none :: ·) (ih h.2 o)
    | fr h' e => exact congrArg (Blk.none :: ·) (ih h.2 o)
    | mpp h' k v => exact congrArg (Blk.none :: ·) (ih h.2 o)
    | q0 => exact congrArg (Blk.none :: ·) (ih h.2 o)
    | _ => simp [isB] at h

section
variable (tt : Nat → Option TE) (gl : Nat → AV E) (H : Hints)
def fin2 (ps : List PK) (np : Nat) (rs : List ResultVar) (sh : RSh) (b : Bool) : Ex → St E → Option (AT E b sh ps)
  | .exit _, _ => none
  | _, s => match retsA2 tt np s rs sh with
    | some (c, r) => match outD ps (s.b.take np) with
      | some o => bif (s.b.take np).all (back1 np) then bif c then some (mkA sh ps r o b) else none else none
      | none => none
    | none => none
theorem fin2_spec {ps : List PK} {np : Nat} {rs : List ResultVar} {sh : RSh} {e : Ex} {s : St E} {x : AT E (ps.any isB) sh ps} (h : fin2 tt ps np rs sh (ps.any isB) e s = some x) : fin tt np rs sh e s = some (wrA sh ps _ x) := by
  have gen : ∀ o : Option (Bool × RDx E sh), retsA2 tt np s rs sh = o → (match o with
    | some (c, r) => match outD ps (s.b.take np) with
      | some o => bif (s.b.take np).all (back1 np) then bif c then some (mkA sh ps r o (ps.any isB)) else none else none
      | none => none
    | none => none) = some x → (match retsA tt np s rs sh with
      | some a => bif (s.b.take np).all (back1 np) then some (a, s.b.take np) else none
      | none => none) = some (wrA sh ps _ x) := by
    intro o ho hx
    cases o with
    | none => cases hx
    | some q =>
      obtain ⟨c, r⟩ := q
      simp only at hx
      cases hd : outD ps (s.b.take np) with
      | none => rw [hd] at hx; cases hx
      | some o =>
        rw [hd] at hx
        obtain ⟨k2, hx⟩ := bif_some hx
        cases c with
        | false => cases hx
        | true =>
          have hx : mkA sh ps r o (ps.any isB) = x := Option.some.inj hx
          have k1 := outD_spec hd
          rw [retsA2_spec tt ho]
          simp only [k2, cond_true]
          rw [← hx, k1]
          congr 1
          cases hb : ps.any isB with
          | true => rfl
          | false => rw [wrO_none hb]; rfl
  cases e with
  | exit _ => cases h
  | normal => exact gen _ rfl h
  | ret => exact gen _ rfl h

def finM2 (ps : List PK) (np : Nat) (mv : List Nat) (rs : List ResultVar) (sh : RSh) (b : Bool) : Ex → St E → Option (AT E b sh ps)
  | .exit _, _ => none
  | e, s => match (mvs np mv s).bind (drops mv) with
    | some s => fin2 tt ps ps.length rs sh b e s
    | none => none
theorem finM2_spec {ps : List PK} {np : Nat} {mv : List Nat} {rs : List ResultVar} {sh : RSh} {e : Ex} {s : St E} {x : AT E (ps.any isB) sh ps} (h : finM2 tt ps np mv rs sh (ps.any isB) e s = some x) : finM tt np ps.length mv rs sh e s = some (wrA sh ps _ x) := by
  cases e with
  | exit _ => cases h
  | normal =>
    simp only [finM2] at h
    simp only [finM]
    split at h
    · rename_i s' h1; rw [h1]; exact fin2_spec tt h
    · cases h
  | ret =>
    simp only [finM2] at h
    simp only [finM]
    split at h
    · rename_i s' h1; rw [h1]; exact fin2_spec tt h
    · cases h

def cOf (fn : Func) : Code := match fn.body with
  | some c => c
  | none => .skip
/-- A function: f at these parameters, when calls are answered by 'call'. -/
def F2 (call : Call2 E) (fuel : Nat) (f : FuncId) (fn : Func) (ps : List PK) (x : PDs E ps) : Option (AT E (ps.any isB) (H.rsh f) ps) :=
  match fn.body with
  | none => none
  | some c => bif Nat.ble ps.length 16 && (ps.drop (ps.length - H.nx f)).all isX && ((H.keepB f 100000).all fun q => Nat.ble 1000000 q || isN (ps.getD q .q0)) then exec2 tt gl H (ps.length - H.nx f) call fuel f c 0 (finM2 tt ps (ps.length - H.nx f) (H.keepB f 100000) fn.results.toList (H.rsh f) (ps.any isB)) (start fn (encs 0 ps x) (encBs ps x)) else none
/-- The same as an answer to a call. -/
def ans2 (call : Call2 E) (fuel : Nat) (f : FuncId) (fn : Func) (ps : List PK) (as : List (AV E)) (ins : List (Blk E)) : Option (Ans E) :=
  match decs 0 ps as ins with
  | some x => some ⟨AT E (ps.any isB) (H.rsh f) ps, F2 tt gl H call fuel f fn ps x, wrA (H.rsh f) ps (ps.any isB)⟩
  | none => none
/-- One more function. -/
def more (call : Call2 E) (fuel : Nat) (f : FuncId) (fn : Func) (ps : List PK) (rest : Call2 E) : Call2 E := fun g as ins =>
  bif Nat.beq g f then match ans2 tt gl H call fuel f fn ps as ins with
    | some x => some x
    | none => rest g as ins
  else rest g as ins
/-- A function whose only parameter is a slice, at data: it comes to the same for nil as for an empty slice that isn't nil. -/
def moreN (call : Call2 E) (fuel : Nat) (f : FuncId) (fn : Func) (e : Ty) (rest : Call2 E) : Call2 E := fun g as ins =>
  bif Nat.beq g f then match decs 0 [.t (.sl e)] as ins with
    | some x => some ⟨AT E false (H.rsh f) [.snn e], F2 tt gl H call fuel f fn [.snn e] x, wrA (H.rsh f) [.snn e] false⟩
    | none => rest g as ins
  else rest g as ins
/-- A loop within a function. -/
def kLoop (np : Nat) {α : Type} (body : (Ex → St E → Option α) → St E → Option α) (k : List (Nat × Nat)) (kb : List Nat) (K : Ex → St E → Option α) (n : Nat) : Ex → St E → Option α := fun e s => match e with
  | .normal => match prune np k kb s with
    | some s => loop2 np body k kb K n s
    | none => none
  | e => K e s
def lpAt {α : Type} (np : Nat) (call : Call2 E) (fuel : Nat) (f : FuncId) : Code → List Nat → Nat → (Ex → St E → Option α) → List Nat → Nat → St E → Option α
  | .loop c, [], bid, K, _, m, s => loop2 np (exec2 tt gl H np call fuel f c bid) (H.keep f bid) (H.keepB f bid) K m s
  | .loop c, _ :: p, bid, K, m' :: ms, m, s => lpAt np call fuel f c p bid (kLoop np (exec2 tt gl H np call fuel f c bid) (H.keep f bid) (H.keepB f bid) K m') ms m s
  | .seq a b, 0 :: p, bid, K, ms, m, s => lpAt np call fuel f a p bid (kSeq2 (exec2 tt gl H np call fuel f b bid) K) ms m s
  | .seq a b, _ :: p, bid, K, ms, m, s => lpAt np call fuel f b p bid K ms m s
  | .cond _ a b, 0 :: p, bid, K, ms, m, s => lpAt np call fuel f a p bid K ms m s
  | .cond _ a b, _ :: p, bid, K, ms, m, s => lpAt np call fuel f b p bid K ms m s
  | .block id c, _ :: p, bid, K, ms, m, s => lpAt np call fuel f c p id (kBlock2 id K) ms m s
  | _, _, _, _, _, _, _ => none
def lp {ps : List PK} (call : Call2 E) (fuel : Nat) (f : FuncId) (fn : Func) (path : List Nat) (ms : List Nat) (m : Nat) (s : St E) : Option (AT E (ps.any isB) (H.rsh f) ps) :=
  lpAt tt gl H (ps.length - H.nx f) call fuel f (cOf fn) path 0 (finM2 tt ps (ps.length - H.nx f) (H.keepB f 100000) fn.results.toList (H.rsh f) (ps.any isB)) ms m s
/-- Slots and blocks by their numbers. -/
def mkT : Nat → Nat → List (Nat × AV E) → List (AV E)
  | 0, _, _ => []
  | n + 1, i, l => (match l.lookup i with
    | some a => a
    | none => .undef) :: mkT n (i + 1) l
def mkB : Nat → Nat → List (Nat × Blk E) → List (Blk E)
  | 0, _, _ => []
  | n + 1, i, l => (match l.lookup i with
    | some a => a
    | none => .none) :: mkB n (i + 1) l
end

section
variable {tt : Nat → Option TE} {gl : Nat → AV E} {H : Hints}
theorem none_ok {P : Program} : CallOK P gl (callR (fun _ _ _ => none : Call2 E)) := fun f as ins r outs h => by cases h

theorem encBs_len : ∀ (ps : List PK) (x : PDs E ps), (encBs ps x).length = ps.length
  | [], _ => rfl
  | p :: ps, x => congrArg (· + 1) (encBs_len ps x.2)

theorem encBs_drop : ∀ (n : Nat) (ps : List PK) (x : PDs E ps), (ps.drop n).all isX = true → ((encBs ps x).drop n).all noB1 = true
  | 0, [], _, _ => rfl
  | _ + 1, [], _, _ => rfl
  | n + 1, p :: ps, x, h => encBs_drop n ps x.2 h
  | 0, p :: ps, x, h => by
    rw [List.drop_zero, List.all_cons, Bool.and_eq_true] at h
    have h2 := encBs_drop 0 ps x.2 h.2
    show (noB1 (encb p x.1) && (encBs ps x.2).all noB1) = true
    rw [List.drop_zero] at h2
    rw [h2, Bool.and_true]
    cases p <;> first | rfl | exact absurd h.1 (by simp [isX])
theorem encBs_isN : ∀ (q : Nat) (ps : List PK) (x : PDs E ps), isN (ps.getD q .q0) = true → noB1 (blk (encBs ps x) q) = true
  | _, [], _, _ => rfl
  | 0, p :: ps, x, h => by
    show noB1 (encb p x.1) = true
    cases p <;> first | rfl | exact absurd h (by simp [isN])
  | q + 1, p :: ps, x, h => encBs_isN q ps x.2 h
theorem body_cond {n : Nat} {l : List Nat} {ps : List PK} {x : PDs E ps} (h : (Nat.ble ps.length 16 && (ps.drop (ps.length - n)).all isX && (l.all fun q => Nat.ble 1000000 q || isN (ps.getD q .q0))) = true) :
    (decide ((encBs ps x).length ≤ 16) && (((encBs ps x).drop ((encBs ps x).length - n)).all noB1) && (l.all fun q => Nat.ble 1000000 q || noB1 (blk (encBs ps x) q))) = true := by
  rw [Bool.and_eq_true, Bool.and_eq_true] at h
  rw [encBs_len, encBs_drop _ _ _ h.1.2, decide_eq_true (Nat.le_of_ble_eq_true h.1.1), Bool.and_true, Bool.true_and]
  have h2 := h.2
  rw [List.all_eq_true] at h2 ⊢
  intro q hq
  have := h2 q hq
  rw [Bool.or_eq_true] at this ⊢
  exact this.imp id (encBs_isN q ps x)

theorem more_ok {P : Program} (hE : EnvOK E) (hz : ∀ (M : Mem) n, RC M (.nm n) (E.dfl n) (E.zc n)) (hT : TOK P E tt) (hmix : P.follows .mixedOrders = true) {call rest : Call2 E} (hC : CallOK P gl (callR call)) (hr : CallOK P gl (callR rest))
    {fuel : Nat} {f : FuncId} {fn : Func} {ps : List PK} (hfn : P.funcs[f]? = some fn) (hnm : fn.name ≠ "runtime.NumGoroutine") : CallOK P gl (callR (more tt gl H call fuel f fn ps rest)) := by
  intro g as ins r outs h
  by_cases hg : g = f
  · subst hg
    cases ha : ans2 tt gl H call fuel g fn ps as ins with
    | none =>
      refine hr g as ins r outs ?_
      rw [← h]
      simp [callR, more, ha]
    | some x =>
      have h1 : x.val.map x.wr = some (r, outs) := by
        rw [← h]
        simp [callR, more, ha]
      unfold ans2 at ha
      cases hd : decs 0 ps as ins with
      | none => rw [hd] at ha; cases ha
      | some y =>
        rw [hd] at ha
        have ha := Option.some.inj ha
        subst ha
        obtain ⟨q, h2, h3⟩ := Option.map_eq_some_iff.1 h1
        obtain ⟨e1, e2⟩ := decs_spec hd
        have h4 : body tt gl H (callR call) fuel g fn as ins = some (r, outs) := by
          rw [← h3, e1, e2]
          have h2 : F2 tt gl H call fuel g fn ps y = some q := h2
          unfold F2 at h2
          unfold body
          cases hb : fn.body with
          | none => rw [hb] at h2; cases h2
          | some c =>
            rw [hb] at h2
            obtain ⟨h16, h2⟩ := bif_some h2
            simp only
            rw [body_cond h16, encBs_len, cond_true, ← exec2_eq]
            exact exec2_mono (fun e s r h => finM2_spec tt h) h2
        obtain ⟨⟨⟨c, hc⟩, h16⟩, h7⟩ := body_sound hE hz hT hmix hC hfn (fun S hL hgl => any_ok hE hz hT hC g S hL hgl) h4
        exact ⟨⟨⟨fn, c, hfn, hnm, hc⟩, h16⟩, h7⟩
  · refine hr g as ins r outs ?_
    rw [← h]
    have : Nat.beq g f = false := by
      cases hb : Nat.beq g f with
      | false => rfl
      | true => exact absurd (Nat.eq_of_beq_eq_true hb) hg
    simp [callR, more, this]

theorem F2_body {call : Call2 E} {fuel : Nat} {g : FuncId} {fn : Func} {ps : List PK} {y : PDs E ps} {q} (h2 : F2 tt gl H call fuel g fn ps y = some q) :
    body tt gl H (callR call) fuel g fn (encs 0 ps y) (encBs ps y) = some (wrA (H.rsh g) ps _ q) := by
  unfold F2 at h2
  unfold body
  cases hb : fn.body with
  | none => rw [hb] at h2; cases h2
  | some c =>
    rw [hb] at h2
    obtain ⟨h16, h2⟩ := bif_some h2
    simp only
    rw [body_cond h16, encBs_len, cond_true, ← exec2_eq]
    exact exec2_mono (fun e s r h => finM2_spec tt h) h2
theorem moreN_ok {P : Program} (hE : EnvOK E) (hz : ∀ (M : Mem) n, RC M (.nm n) (E.dfl n) (E.zc n)) (hT : TOK P E tt) (hmix : P.follows .mixedOrders = true) {call rest : Call2 E} (hC : CallOK P gl (callR call)) (hr : CallOK P gl (callR rest))
    {fuel : Nat} {f : FuncId} {fn : Func} {e : Ty} (hfn : P.funcs[f]? = some fn) (hnm : fn.name ≠ "runtime.NumGoroutine")
    (hq : (F2 tt gl H call fuel f fn [.snil e] ((), ()) : Option (AT E false (H.rsh f) [.snil e])) = F2 tt gl H call fuel f fn [.snn e] ([], ())) : CallOK P gl (callR (moreN tt gl H call fuel f fn e rest)) := by
  intro g as ins r outs h
  by_cases hg : g = f
  · subst hg
    cases hd : decs 0 [.t (.sl e)] as ins with
    | none =>
      refine hr g as ins r outs ?_
      rw [← h]
      simp [callR, moreN, hd]
    | some x =>
      have h1 : ((F2 tt gl H call fuel g fn [.snn e] x).map (wrA (H.rsh g) [.snn e] false)) = some (r, outs) := by
        rw [← h]
        simp [callR, moreN, hd]
      obtain ⟨xs, u⟩ := x
      cases u
      obtain ⟨q, h2, h3⟩ := Option.map_eq_some_iff.1 h1
      obtain ⟨e1, e2⟩ := decs_spec hd
      have h4 : body tt gl H (callR call) fuel g fn [.snn e xs] [.none] = some (r, outs) := by
        rw [← h3]; exact F2_body h2
      obtain ⟨⟨⟨c, hc⟩, h16⟩, h7⟩ := body_sound hE hz hT hmix hC hfn (fun S hL hgl => any_ok hE hz hT hC g S hL hgl) h4
      have e1 : as = [.t (.sl e) xs] := e1
      have e2 : ins = [.none] := e2
      subst e1 e2
      refine ⟨⟨⟨fn, c, hfn, hnm, hc⟩, h16⟩, fun M μ w args hgl hw hl hok => ?_⟩
      obtain ⟨v, hv, ha⟩ : ∃ v, RS (E := E) M μ (.t (.sl e) xs) v ∧ args.toList = [v] := by
        generalize args.toList = l at hl
        cases hl with
        | cons h t => cases t; exact ⟨_, h, rfl⟩
      obtain ⟨base, cap, rfl, hrc⟩ := hv.lst_inv (e := e) (xs := xs) rfl
      cases base with
      | some a =>
        refine h7 M μ w args hgl hw ?_ (fun a h => ?_)
        · rw [ha]
          exact .cons (RS.v (RV.snn e xs a cap hrc)) .nil
        · have h := List.mem_singleton.1 h
          subst h
          exact .plain trivial (by simp) (by simp) (by simp)
      | none =>
        have : xs = [] ∧ cap = 0 := by
          generalize hzz : (none : Option Addr) = bb at hrc
          cases hrc with
          | sl _ _ _ css hcap h hat hnil =>
            subst hzz
            have h0 := hnil rfl
            exact ⟨List.length_eq_zero_iff.1 (by omega), h0⟩
        obtain ⟨rfl, rfl⟩ := this
        have h5 : body tt gl H (callR call) fuel g fn [.snil e] [.none] = some (r, outs) := by
          rw [← h3]; exact F2_body (ps := [.snil e]) (y := ((), ())) (hq.trans h2)
        obtain ⟨_, h8⟩ := body_sound hE hz hT hmix hC hfn (fun S hL hgl => any_ok hE hz hT hC g S hL hgl) h5
        refine h8 M μ w args hgl hw ?_ (fun a h => ?_)
        · rw [ha]
          exact .cons (RS.v (RV.snil e)) .nil
        · have h := List.mem_singleton.1 h
          subst h
          exact .plain trivial (by simp) (by simp) (by simp)
  · refine hr g as ins r outs ?_
    rw [← h]
    have : Nat.beq g f = false := by
      cases hb : Nat.beq g f with
      | false => rfl
      | true => exact absurd (Nat.eq_of_beq_eq_true hb) hg
    simp [callR, moreN, this]

/-- A LAW'S CALL: the evaluator says true at whatever it may be handed, of this bulk at most; so the call returns true and leaves all memory as it was. -/
theorem ins_sub {ttr tt : Nat → Option TE} {ts : List Nat} {as : List (AV E)} (hs : ∀ t ∈ ts, ttr t = tt t) (h : Ins E ttr ts as) : Ins E tt ts as := by
  induction h with
  | nil => exact .nil
  | cons x hx v hg _ ih => exact .cons x (by rw [← hs _ (by simp)]; exact hx) v hg (ih fun t ht => hs t (by simp [ht]))
theorem law_calls3 {P : Program} {Hh : Type} {enc : TypeId × Value → Hh} {bf : DataW Hh → Nat} {ba : List (DataW Hh) → Nat} (hB : IsBulk bf ba) {N : Nat} (hE : EnvOK E) {ttr : Nat → Option TE} (hT : TOK P E ttr) (hR : RdOK P E ttr)  {C : Nat → Call2 E} (hC : ∀ n, CallOK P gl (callR (C n)))
    {f : FuncId} {ts : List Nat} (hsub : ∀ t ∈ ts, ttr t = tt t) {W : World} {base : Nat} {args : Array Value} {ds : List (DataW Hh)} {ps : List MemPlace} (hgl : GlOK (memOf W) gl)
    (hA : DataW.TrodAll enc P W 0 (fun _ => true) true ts args.toList ds ps) (hw : (DataW.weightsEach P ts ds).all (· ≤ reachBytes) = true)
    (hval : ∀ (j : Nat) t v, ts[j]? = some t → args[j]? = some v → Value.okWide P W .any base t v)
    (hts : ∀ t ∈ ts, ∃ x, tt t = some x ∧ x.ty.full = true)
    (hN : ba ds ≤ N) (pure : ∀ as, Ins E tt ts as → (∀ g, (as.map (bulkA E g)).sum ≤ N) → ∃ n outs, callR (C n) f as (List.replicate ts.length .none) = some (.t .bool true, outs)) :
    Calls P f args W fun e w' => e = .returned (.bool true) ∧ Below W.heap.size W w' := by
  let μ : Mu := fun _ => ⟨0, fun _ => (none, 0)⟩
  obtain ⟨as, i1, i2, i3, i4⟩ := args_read hB hE hT hR μ W base hA hw (fun j t v a b => hval j t v a (by simpa using b)) (fun t ht => by rw [hsub t ht]; exact hts t ht)
  obtain ⟨n, outs, hr⟩ := pure as (ins_sub hsub i1) fun g => Nat.le_trans (i4 g) hN
  have hwr : WR (memOf W) μ (List.replicate ts.length (.none : Blk E)) W :=
    ⟨memOf_holds W, fun i => by rw [blk_repl]; trivial, fun i j g h => by rw [blk_repl] at h; simp [Exc] at h, fun i ly a h => by rw [blk_repl] at h; cases h⟩
  refine ((hC n f as _ _ _ hr).2 (memOf W) μ W args hgl hwr i2 (ins_closed i1 _)).mono ?_
  rintro e w' ⟨v, M', μ', rfl, tr, hret⟩
  constructor
  · obtain ⟨g, h1, _⟩ := hret
    obtain ⟨h1, _⟩ := h1
    congr 1
    generalize ha : (AV.t .bool true : AV E) = a at h1
    cases h1 with
    | undef => cases ha
    | c => cases ha
    | tup => cases ha
    | v h2 =>
      subst ha
      generalize ha : (AV.t .bool true : AV E) = a at h2
      cases h2 <;> try (cases ha; done)
      rename_i h3
      cases ha
      cases h3
      rfl
  · exact ⟨tr.os, tr.tape.eq, tr.output, tr.size, fun k hk => tr.frame k hk fun i => by rw [blk_repl]; simp [Exc]⟩

/-- A LAW'S CALL: the evaluator says true at whatever it may be handed; so the call returns true and leaves all memory as it was. -/
theorem law_calls2 {P : Program} {Hh : Type} {enc : TypeId × Value → Hh} (hE : EnvOK E) {ttr : Nat → Option TE} (hT : TOK P E ttr) (hR : RdOK P E ttr)  {C : Nat → Call2 E} (hC : ∀ n, CallOK P gl (callR (C n)))
    {f : FuncId} {ts : List Nat} (hsub : ∀ t ∈ ts, ttr t = tt t) {W : World} {base : Nat} {args : Array Value} {ds : List (DataW Hh)} {ps : List MemPlace} (hgl : GlOK (memOf W) gl)
    (hA : DataW.TrodAll enc P W 0 (fun _ => true) true ts args.toList ds ps) (hw : (DataW.weightsEach P ts ds).all (· ≤ reachBytes) = true)
    (hval : ∀ (j : Nat) t v, ts[j]? = some t → args[j]? = some v → Value.okWide P W .any base t v)
    (hts : ∀ t ∈ ts, ∃ x, tt t = some x ∧ x.ty.full = true)
    (pure : ∀ as, Ins E tt ts as → ∃ n outs, callR (C n) f as (List.replicate ts.length .none) = some (.t .bool true, outs)) :
    Calls P f args W fun e w' => e = .returned (.bool true) ∧ Below W.heap.size W w' :=
  law_calls3 cnt_bulk hE hT hR hC hsub hgl hA hw hval hts (Nat.le_refl _) fun as h _ => pure as h

end
end
end Go.Proofs.YtbmpjppfdeohnaaDoor.Fv

/-! The table of types, out of closed facts. -/
namespace Go.Proofs.YtbmpjppfdeohnaaDoor.Fv
variable {E : Env} {P : Program}

def look2 : List (Nat × TE) → Nat → Option TE
  | [], _ => none
  | p :: l, t => bif Nat.beq t p.1 then some p.2 else look2 l t
theorem look2_mem : ∀ {l : List (Nat × TE)} {t : Nat} {x : TE}, look2 l t = some x → (t, x) ∈ l
  | [], _, _, h => by cases h
  | p :: l, t, x, h => by
    unfold look2 at h
    cases hb : Nat.beq t p.1 with
    | true =>
      rw [hb] at h
      have := Nat.eq_of_beq_eq_true hb
      subst this
      cases h
      exact List.mem_cons_self ..
    | false =>
      rw [hb] at h
      exact List.mem_cons_of_mem _ (look2_mem h)
theorem mem_nil2 {Q : Nat × TE → Prop} : ∀ p ∈ ([] : List (Nat × TE)), Q p := fun p h => nomatch h
theorem mem_cons2 {Q : Nat × TE → Prop} {q : Nat × TE} {l : List (Nat × TE)} (h : Q q) (r : ∀ p ∈ l, Q p) : ∀ p ∈ q :: l, Q p := fun p hp => by
  rcases List.mem_cons.1 hp with rfl | hp
  · exact h
  · exact r p hp
theorem TOK.of {l : List (Nat × TE)} (h : ∀ p ∈ l, TFact P E (look2 l) p.1 p.2) : TOK P E (look2 l) := fun t x hx => h (t, x) (look2_mem hx)
theorem RdOK.of {l : List (Nat × TE)} (h : (l.all fun p => !p.2.ty.full || rdOK P E p.2) = true) : RdOK P E (look2 l) := fun t x hx hf => by
  have := List.all_eq_true.1 h (t, x) (look2_mem hx)
  simpa [hf] using this

def undD (tt : Nat → Option TE) (P : Program) (E : Env) (x : TE) (u : TypeDesc) : Prop := aggD u = x.ty.agg ∧
    match x.d with
    | .int k => u = .int k ∧ x.ty = .int k
    | .bool => u = .bool ∧ x.ty = .bool
    | .str => u = .string ∧ x.ty = .str
    | .slice el => u = .slice el ∧ (x.ty = .any ∨ (x.ty = .sl (tyOf tt el) ∧ (tyOf tt el).full = true ∧ (tt el).isSome = true ∧ P.bytesOf el ≤ 32768 ∧ 0 < size E (tyOf tt el) ∧ size E (tyOf tt el) ≤ 16384))
    | .struct fs => (∃ fields, u = .struct fields ∧ fields.toList.map (fun f => (f.type, f.offset)) = fs) ∧ arity (bodyOf E x.ty) = fs.length ∧ fldsOK E tt (bodyOf E x.ty) fs 0 = true
    | .arr n el => u = .array n el ∧ x.ty = .arr n (tyOf tt el) ∧ (tt el).isSome = true
    | .map k v => u = .map k v ∧ (tt k).isSome = true ∧ (tt v).isSome = true ∧ (x.ty = .any ∨ x.ty = .mp (tyOf tt k) (tyOf tt v))
    | .ptr el => u = .pointer el
    | .func => ∃ a b c, u = .func a b c
    | .iface => ∃ ms, u = .interface ms
    | _ => True
theorem names_of {t : Nat} {fs : Array Field} (hu : P.underlying t = some (.struct fs)) (h : fs.toList.all (fun f => f.name != "_") = true) : ∀ fields, P.underlying t = some (.struct fields) → fields.toList.all (fun f => f.name != "_") = true := by
  intro fields hf
  rw [hu] at hf
  injection hf with hf
  injection hf with hf
  rw [← hf]
  exact h
theorem TFact.of {tt : Nat → Option TE} {t : Nat} {x : TE} {u : TypeDesc} {z : Value} {bs : Nat} (hu : P.underlying t = some u) (hd : undD tt P E x u)
    (hi : (P.info? t).map (fun i => (i.zero, i.size, i.bytes)) = some (some z, Fv.size E x.ty, bs)) (hz : z.cells.toList = zA (E := E) (zeroA tt 20 t)) (ha : x.ty.agg = true → z = .agg z.cells)
    (hl : (zA (E := E) (zeroA tt 20 t)).length = Fv.size E x.ty)
    (hs : match x.d with
      | .struct fs => z.cells.toList = (fs.map fun f => zA (E := E) (zeroA tt 20 f.1)).flatten
      | _ => True) (hna : x.ty.agg = false → ∀ cs, z ≠ .agg cs)
    (hq : match x.d with
      | .struct fs => eqC tt (bodyOf E x.ty) 0 fs = true → (∀ fields, P.underlying t = some (.struct fields) → fields.toList.all (fun f => f.name != "_") = true) ∧ P.stoodInHeld t = false ∧ P.eqGuardType P.depth t = false
      | .arr n el => okF tt (tyOf tt el) el = true → P.eqGuardType P.depth t = false
      | _ => True) : TFact P E tt t x where
  und := ⟨u, hu, hd⟩
  eqs := hq
  info := ⟨z, bs, hi, hz, ha⟩
  zlen := hl
  zst := fun i z' h1 h2 => by
    rw [h1] at hi
    simp only [Option.map_some, Option.some.injEq, Prod.mk.injEq] at hi
    obtain ⟨h3, _⟩ := hi
    rw [h2] at h3
    have h3 := Option.some.inj h3
    subst h3
    exact hs
  nag := fun i z' h1 h2 => by
    rw [h1] at hi
    simp only [Option.map_some, Option.some.injEq, Prod.mk.injEq] at hi
    obtain ⟨h3, _⟩ := hi
    rw [h2] at h3
    have h3 := Option.some.inj h3
    subst h3
    exact hna
end Go.Proofs.YtbmpjppfdeohnaaDoor.Fv
