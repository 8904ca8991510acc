/- An evaluator of the model's code, part 4: One operation. No condition. -/
import Derived.Test.YtoegcppcmgbkmaaGreatDoorFvC
import Derived.LoopN
import GoSem.ClaimJoined
import Derived.WalkKit
import Derived.ProofKit
import Derived.OpenShut
import Derived.ShutString
import Derived.ChangeOld
import Derived.SizedLaws
import Derived.Carry
set_option linter.unusedVariables false
set_option linter.unusedSectionVars false
set_option linter.unusedSimpArgs false
/-! One operation. -/
namespace Go.Proofs.YtoegcppcmgbkmaaGreatDoor.Fv
variable [Quiet]
variable {E : Env} {P : Program} {tt : Nat → Option TE} {gl : Nat → AV E} {H : Hints} {M M' : Mem} {μ μ' : Mu} {b b' : List (Blk E)} {w w' : World}

/-- How the evaluator's state stands to the frame and the memory. -/
structure SR (M : Mem) (μ : Mu) (s : St E) (a : Act) (w : World) : Prop where
  defers : a.defers = []
  size : a.tmps.size = s.t.length
  tmps : ∀ i, RS M μ (s.t.getD i .undef) (a.tmps.getD i undef)
  ok : ∀ i, OKA s.b (s.t.getD i .undef)
  wr : WR M μ s.b w

theorem GlOK.mono (h : GlOK M gl) (le : M.le M') : GlOK M' gl := fun g => by
  rcases h g with h | ⟨ty, v, cells, h1, h2, h3, h4⟩ | ⟨h1, t, x, h2⟩
  · exact .inl h
  · exact .inr (.inl ⟨ty, v, cells, h1, h2.mono le, h3.mono le, le _ _ _ h4⟩)
  · exact .inr (.inr ⟨h1, t, x, le _ _ _ h2⟩)

theorem evo_sound (hgl : GlOK M gl) {s : St E} {a : Act} (h : SR M μ s a w) (x : Operand) : RS M μ (evo gl s.t x) (a.eval x) ∧ OKA s.b (evo gl s.t x) := by
  cases x with
  | tmp t => exact ⟨h.tmps t, h.ok t⟩
  | const v => exact ⟨.c v, show OKA s.b (.c v) from .plain trivial (by simp) (by simp) (by simp)⟩
  | func f => exact ⟨RS.v (a := .func f []) (.func f [] [] rfl fun i hi => by simp at hi), show OKA s.b (.func f []) from .plain trivial (by simp) (by simp) (by simp)⟩
  | global g =>
    show RS M μ (glE (gl g)) _ ∧ OKA s.b (glE (gl g))
    rcases hgl g with h | ⟨ty, v, cells, h1, h2, h3, h4⟩ | ⟨h1, _⟩
    · rw [h]; exact ⟨.undef _, .undef _⟩
    · rw [h1]; exact ⟨RS.v (.imm g 0 h2 h3), .imm _ _ _⟩
    · rw [h1]; exact ⟨.undef _, .undef _⟩
theorem evos_sound (hgl : GlOK M gl) {s : St E} {a : Act} (h : SR M μ s a w) : ∀ (l : List Operand), RSL M μ (l.map (evo gl s.t)) (l.map a.eval) ∧ ∀ x ∈ l.map (evo gl s.t), OKA s.b x
  | [] => ⟨.nil, by simp⟩
  | x :: l => by
    obtain ⟨h1, h2⟩ := evo_sound hgl h x
    obtain ⟨h3, h4⟩ := evos_sound hgl h l
    refine ⟨.cons h1 h3, ?_⟩
    intro y hy
    rcases List.mem_cons.1 hy with rfl | hy
    · exact h2
    · exact h4 y hy

theorem RS.func_inv {g : FuncId} {cs : List (Cap E)} {v : Value} (h : RS M μ (.func g cs) v) : ∃ vs : List Value, v = .func (.func g) #[] vs.toArray ∧ vs.length = cs.length ∧
    ∀ i (hi : i < cs.length), ∃ b o cells, vs.getD i Go.undef = .pointer (some ⟨b, o, none⟩) ∧ RC M cs[i].ty cs[i].v cells ∧ CellsAt M b o cells := by
  cases h with
  | v h => cases h with
    | func _ _ vs hl h => exact ⟨vs, rfl, hl, h⟩
theorem caps_rsl : ∀ (cs : List (Cap E)) (vs : List Value), vs.length = cs.length → (∀ i (hi : i < cs.length), ∃ b o cells, vs.getD i Go.undef = .pointer (some ⟨b, o, none⟩) ∧ RC M cs[i].ty cs[i].v cells ∧ CellsAt M b o cells) →
    ∀ μ, RSL (E := E) M μ (cs.map fun c => .imm c.ty c.v) vs
  | [], vs, hl, h, μ => by
    have : vs = [] := List.length_eq_zero_iff.1 hl
    subst this
    exact .nil
  | c :: cs, [], hl, h, μ => by simp at hl
  | c :: cs, v :: vs, hl, h, μ => by
    obtain ⟨b, o, cells, h1, h2, h3⟩ := h 0 (by simp)
    simp only [List.getD_cons_zero] at h1
    subst h1
    refine .cons (RS.v (.imm b o h2 h3)) (caps_rsl cs vs (by simpa using hl) (fun i hi => ?_) μ)
    have := h (i + 1) (by simpa using hi)
    simpa using this

/-- An operation's step, or a call that is one. -/
def OpDoes (P : Program) (M : Mem) (μ : Mu) (b : List (Blk E)) (w : World) (s : Sem Next) (a : AV E) (u : Upd E) : Prop :=
  OpStep P M μ b w s a u ∨ ∃ f args, s.run P w = .ok (.enter f args) w ∧
    Calls P f args w fun e w' => ∃ v M' μ', e = .returned v ∧ Tr b.length M μ b w M' μ' (upds b u) w' ∧ RS M' μ' a v ∧ OKA (upds b u) a

theorem run_enter {ρ : Operand → Value} {o : Oper} {c : Call} {fo : Operand} {g : FuncId} {caps : Array Value} (hop : o.op = .call c) (hcal : c.callee = .value fo) (hv : ρ fo = .func (.func g) #[] caps) (hf : FnOK P g) :
    (execOp ρ o).run P w = .ok (.enter g (c.args.map ρ ++ caps)) w := by
  obtain ⟨fn, cd, h1, h2, h3⟩ := hf
  have h2' : (fn.name == "runtime.NumGoroutine") = false := by simpa using h2
  simp only [execOp, hop, resolve, hcal, hv, Deferred.ofValue, Sem.run_bind, Sem.run_pure, Result.andThen_ok, invoke, callFunc, run_program, h1, h2', h3, Option.isNone_some, Bool.false_eq_true, if_false, Array.empty_append]

theorem step_sound (hE : EnvOK E) (hz : ∀ (M : Mem) n, RC M (.nm n) (E.dfl n) (E.zc n)) (hT : TOK P E tt) {call : CallF E} (hC : CallOK P gl call) (hgl : GlOK M gl) {f : FuncId} {s : St E} {o : Oper} {act : Act} (hs : SR M μ s act w) {cl : Cl} {a : AV E} {u : Upd E}
    (h : step1 tt gl H call f s o = some (cl, a, u)) : OpDoes P M μ s.b w (execOp act.eval o) a u := by
  obtain ⟨hl, hok⟩ := evos_sound hgl hs o.op.operands.toList
  have hρ : ∀ v, act.eval (.const v) = v := fun _ => rfl
  unfold step1 stepK at h
  simp only at h
  split at h
  · rename_i c hop
    have hlc := hl
    split at h
    · rename_i bi hcal
      split at h
      · rename_i c0 a0 hp
        obtain ⟨hc, h9⟩ := bif_some h
        clear h
        cases h9
        subst hc
        exact .inl ((pure_sound hE (hz M) hT hρ hp hl).step hs.wr (pure_ok hp rfl s.b hok))
      · split at h
        · rename_i c0 a0 u0 hp
          obtain ⟨hc, h9⟩ := bif_some h
          clear h
          cases h9
          subst hc
          exact .inl (wA_sound hE hz hT hs.wr hp hl hok)
        · cases h
    · rename_i g x l hcal heq
      obtain ⟨hlen, h9⟩ := bif_some h
      clear h
      have hlen := of_decide_eq_true hlen
      have e1 : o.op.operands.toList = .func g :: c.args.toList := by simp [hop, Op.operands, Call.operands, hcal]
      rw [e1] at heq hl hok
      simp only [List.map_cons, List.cons.injEq] at heq
      obtain ⟨_, hl'⟩ := heq
      simp only [List.map_cons] at hl hok
      rw [hl'] at hl hok
      cases hl with
      | cons _ hl =>
        have hlv := hl.length
        have e2 : (c.argTypes.toList.zip l).map (·.2) = l := List.map_snd_zip (by simp [hlen])
        obtain ⟨hfn, hcalls⟩ := call_step (vs := c.args.toList.map act.eval) (vc := []) hE hC hgl hs.wr (show call1 tt H call s.b s.t.length g [] (H.rsh g) (c.argTypes.toList.zip l) (o.dst.getD 100000) = some (cl, a, u) from h9) (by rw [e2]; exact hl) (fun x hx => hok _ (List.mem_cons_of_mem _ (by rw [← e2]; exact List.mem_map.2 ⟨x, hx, rfl⟩))) (fun _ _ _ => .nil)
        refine .inr ⟨g, _, run_enter hop hcal rfl hfn, ?_⟩
        have e3 : c.args.map act.eval ++ #[] = (c.args.toList.map act.eval ++ []).toArray := by apply Array.ext'; simp
        rw [e3]
        exact hcalls
    · rename_i fo g cs l hnf hcal heq
      obtain ⟨hlen, h9⟩ := bif_some h
      clear h
      have hlen := of_decide_eq_true hlen
      have e1 : o.op.operands.toList = fo :: c.args.toList := by simp [hop, Op.operands, Call.operands, hcal]
      rw [e1] at heq hl hok
      simp only [List.map_cons, List.cons.injEq] at heq
      obtain ⟨hfo, hl'⟩ := heq
      simp only [List.map_cons] at hl hok
      rw [hl', hfo] at hl
      rw [hl'] at hok
      cases hl with
      | cons hf hl =>
        have hlv := hl.length
        have e2 : (c.argTypes.toList.zip l).map (·.2) = l := List.map_snd_zip (by simp [hlen])
        obtain ⟨vs, hv, hvl, hcap⟩ := hf.func_inv
        obtain ⟨hfn, hcalls⟩ := call_step (H := { H with cons := fun _ => [], lend := fun _ => [] }) (vs := c.args.toList.map act.eval) (vc := vs) hE hC hgl hs.wr (show call1 tt { H with cons := fun _ => [], lend := fun _ => [] } call s.b s.t.length g cs (.t (tyOf tt o.type)) (c.argTypes.toList.zip l) (o.dst.getD 100000) = some (cl, a, u) from h9) (by rw [e2]; exact hl) (fun x hx => hok _ (List.mem_cons_of_mem _ (by rw [← e2]; exact List.mem_map.2 ⟨x, hx, rfl⟩))) (fun M' hle => caps_rsl cs vs hvl fun i hi => by
          obtain ⟨b, o, cells, h1, h2, h3⟩ := hcap i hi
          exact ⟨b, o, cells, h1, h2.mono hle, h3.mono hle⟩)
        refine .inr ⟨g, _, run_enter hop hcal hv hfn, ?_⟩
        have e3 : c.args.map act.eval ++ vs.toArray = (c.args.toList.map act.eval ++ vs).toArray := by apply Array.ext'; simp
        rw [e3]
        exact hcalls
    · cases h
  · rename_i hnc
    split at h
    · rename_i c0 a0 hp
      obtain ⟨hc, h9⟩ := bif_some h
      clear h
      cases h9
      subst hc
      split at hp
      · exact .inl ((pure_sound hE (hz M) hT hρ hp hl).step hs.wr (pure_ok hp rfl s.b hok))
      · cases hp
    · split at h
      · rename_i t y x hop heq
        rw [hop] at heq hl hok
        simp only [Op.operands, List.map_cons, List.map_nil, List.cons.injEq, and_true] at heq
        have e1 : (Op.load t y).operands.toList = [y] := rfl
        rw [e1] at hl hok
        simp only [List.map_cons, List.map_nil] at hl hok
        rw [heq] at hl hok
        cases hl with
        | cons hx _ =>
          split at h
          · rename_i id hid
            split at h
            · rename_i c0 a0 hlk
              obtain ⟨hc, h9⟩ := bif_some h
              clear h
              cases h9
              subst hc
              obtain ⟨⟨v', h1, h2⟩, h3⟩ := look_sound hE hT hs.wr hid hlk hx
              exact .inl (.same hs.wr (by simp [execOp, hop, h1]) h2 h3)
            · cases h
          · cases h
      · split at h
        · rename_i c0 a0 u0 hp
          obtain ⟨hc, h9⟩ := bif_some h
          clear h
          cases h9
          subst hc
          exact .inl (wA_sound hE hz hT hs.wr hp hl hok)
        · cases h
end Go.Proofs.YtoegcppcmgbkmaaGreatDoor.Fv

/-! Regions that are run in the order of the text. -/
namespace Go.Proofs.YtoegcppcmgbkmaaGreatDoor.Fv
variable [Quiet]
variable {E : Env} {P : Program} {tt : Nat → Option TE} {gl : Nat → AV E} {H : Hints} {M M' : Mem} {μ μ' : Mu} {b b' : List (Blk E)} {w w' : World}

theorem SR.did {s : St E} {act : Act} (hs : SR M μ s act w) {u : Upd E} {a : AV E} {v : Value} (tr : Tr s.b.length M μ s.b w M' μ' (upds s.b u) w') (hr : RS M' μ' a v) (ok : OKA (upds s.b u) a) (d : Option Nat) : SR M' μ' (s.did d a u) (act.put d v) w' := by
  have lv := tr.all (Nat.le_refl _)
  have old : ∀ i, RS M' μ' (s.t.getD i .undef) (act.tmps.getD i undef) ∧ OKA (upds s.b u) (s.t.getD i .undef) := fun i => ⟨(hs.tmps i).tr (hs.ok i) tr.le lv, (hs.ok i).tr lv⟩
  cases d with
  | none => exact ⟨hs.defers, hs.size, fun i => (old i).1, fun i => (old i).2, tr.wr⟩
  | some d =>
    have key : ∀ i, ((s.t.set d a).getD i .undef = s.t.getD i .undef ∧ (act.tmps.setIfInBounds d v).getD i undef = act.tmps.getD i undef) ∨ ((s.t.set d a).getD i .undef = a ∧ (act.tmps.setIfInBounds d v).getD i undef = v) := by
      intro i
      simp only [List.getD_eq_getElem?_getD, Array.getD_eq_getD_getElem?]
      by_cases hi : d = i
      · subst hi
        by_cases hd : d < s.t.length
        · right
          have hd' : d < act.tmps.size := by rw [hs.size]; exact hd
          rw [List.getElem?_set_self hd]
          simp [hd']
        · left
          have hd' : ¬ d < act.tmps.size := by rw [hs.size]; exact hd
          rw [List.set_eq_of_length_le (by omega), Array.setIfInBounds_eq_of_size_le (by omega)]
          exact ⟨rfl, rfl⟩
      · left
        rw [List.getElem?_set_ne hi, Array.getElem?_setIfInBounds_ne hi]
        exact ⟨rfl, rfl⟩
    refine ⟨hs.defers, ?_, fun i => ?_, fun i => ?_, tr.wr⟩
    · show (act.tmps.setIfInBounds d v).size = (s.t.set d a).length
      simp [hs.size]
    · show RS M' μ' ((s.t.set d a).getD i .undef) ((act.tmps.setIfInBounds d v).getD i undef)
      rcases key i with ⟨h1, h2⟩ | ⟨h1, h2⟩
      · rw [h1, h2]; exact (old i).1
      · rw [h1, h2]; exact hr
    · show OKA (upds s.b u) ((s.t.set d a).getD i .undef)
      rcases key i with ⟨h1, h2⟩ | ⟨h1, h2⟩
      · rw [h1]; exact (old i).2
      · rw [h1]; exact ok

/-- What is true since the call began. -/
structure Since (E : Env) where
  L : Nat
  M : Mem
  μ : Mu
  b : List (Blk E)
  w : World
def Inv (gl : Nat → AV E) (S : Since E) (s : St E) (act : Act) (w : World) : Prop :=
  ∃ M μ, Tr S.L S.M S.μ S.b S.w M μ s.b w ∧ SR M μ s act w
theorem Inv.step {S : Since E} (hL : S.L ≤ S.b.length) {s : St E} {act : Act} {M : Mem} {μ : Mu} (h : Tr S.L S.M S.μ S.b S.w M μ s.b w) (hs : SR M μ s act w) {u : Upd E} {a : AV E} {v : Value} (tr : Tr s.b.length M μ s.b w M' μ' (upds s.b u) w') (hr : RS M' μ' a v) (ok : OKA (upds s.b u) a) (d : Option Nat) :
    Inv gl S (s.did d a u) (act.put d v) w' :=
  ⟨M', μ', h.trans (tr.mono (by rw [h.len]; exact hL)), hs.did tr hr ok d⟩

def eqb (x y : Bool) : Bool := bif x then y else !y
/-- One of a region's operations, its guard heard. -/
def act1 (tt : Nat → Option TE) (gl : Nat → AV E) (H : Hints) (call : CallF E) (f : FuncId) (all : List Oper) (s : St E) (o : Oper) : Option (Res E) :=
  match o.guard with
  | none => step1 tt gl H call f s o
  | some (j, want) => match dstOf all j with
    | none => none
    | some d => match s.t.getD d .undef with
      | .t .bool b => bif eqb b want then step1 tt gl H call f s o else some (.p, .c (.tuple #[]), [])
      | .c v => bif noB v then some (.p, .c (.tuple #[]), []) else none
      | _ => none

theorem set_same {s : St E} {d : Nat} {x : AV E} (h : s.t.getD d .undef = x) (hx : x ≠ .undef) : { s with t := s.t.set d x } = s := by
  have hd : d < s.t.length := by
    rcases Nat.lt_or_ge d s.t.length with h' | h'
    · exact h'
    · rw [List.getD_eq_getElem?_getD, List.getElem?_eq_none h'] at h
      exact absurd h.symm hx
  cases s with
  | mk t b =>
    simp only at h hd ⊢
    congr 1
    rw [List.getD_of_lt _ _ _ hd] at h
    rw [← h]
    exact List.set_getElem_self hd

theorem opsK_cons {α : Type} (call : CallF E) (f : FuncId) (all : List Oper) (o : Oper) (r : List Oper) (acc : List Cl) (s : St E) (k : List Cl → St E → Option α) :
    opsK tt gl H call f all (o :: r) acc s k = (act1 tt gl H call f all s o).bind fun x => opsK tt gl H call f all r (x.1 :: acc) (s.did o.dst x.2.1 x.2.2) k := by
  conv => lhs; unfold opsK
  unfold act1
  simp only
  cases o.guard with
  | none => exact stepK_nat ..
  | some g =>
    obtain ⟨j, want⟩ := g
    simp only
    cases dstOf all j with
    | none => rfl
    | some d =>
      simp only
      split
      · rename_i bb hb
        have hs : ∀ c : Bool, bb = c → ({ s with t := s.t.set d (bl c) } : St E) = s := by
          rintro c rfl
          exact set_same (x := bl bb) hb (by simp [bl])
        cases bb with
        | true =>
          rw [hs true rfl, hb]
          cases want with
          | true => simp only [cond_true, eqb]; exact stepK_nat call f s o _
          | false => rfl
        | false =>
          rw [hs false rfl, hb]
          cases want with
          | true => rfl
          | false => simp only [cond_true, cond_false, eqb, Bool.not_false]; exact stepK_nat call f s o _
      · rename_i v hb
        rw [hb]
        simp only
        cases noB v <;> rfl
      · rename_i hn hn2
        cases hx : s.t.getD d .undef with
        | t ty v => cases ty <;> first | rfl | exact absurd hx (hn _)
        | c v => exact absurd hx (hn2 _)
        | _ => rfl

theorem wpOp_of (hE : EnvOK E) (hz : ∀ (M : Mem) n, RC M (.nm n) (E.dfl n) (E.zc n)) (hT : TOK P E tt) {call : CallF E} (hC : CallOK P gl call) {S : Since E} (hL : S.L ≤ S.b.length) (hgl : GlOK S.M gl) {f : FuncId} {all : List Oper} {s : St E} {o : Oper} {act : Act}
    (hI : Inv gl S s act w) {cl : Cl} {a : AV E} {u : Upd E} (h : act1 tt gl H call f all s o = some (cl, a, u)) {i : Nat} (ho : all.toArray[i]? = some o) {Q : Exit → Act → World → Prop} {K : Act → World → Prop}
    (hK : ∀ act' w', Inv gl S (s.did o.dst a u) act' w' → K act' w') : wpOp P all.toArray Q i K act w := by
  obtain ⟨M, μ, htr, hs⟩ := hI
  have hgl' := hgl.mono htr.le
  have run : step1 tt gl H call f s o = some (cl, a, u) → o.wp P act w K Q := by
    intro h1
    unfold Oper.wp
    rcases step_sound hE hz hT hC hgl' hs h1 with ⟨v, w', M', μ', hr, h2, h3, h4⟩ | ⟨g, args, hr, hcalls⟩
    · have := hK _ _ (Inv.step (gl := gl) hL htr hs h2 h3 h4 o.dst)
      rcases hr with hr | ⟨hr, rfl⟩
      · rw [hr]; exact this
      · rw [hr]; exact this
    · rw [hr]
      refine Calls.mono hcalls ?_
      rintro e w'' ⟨v, M', μ', rfl, h2, h3, h4⟩
      exact hK _ _ (Inv.step (gl := gl) hL htr hs h2 h3 h4 o.dst)
  have fin : (Region.wanted o (yielded all.toArray act.tmps) = true ∧ step1 tt gl H call f s o = some (cl, a, u)) ∨ (Region.wanted o (yielded all.toArray act.tmps) = false ∧ a = .c (.tuple #[]) ∧ u = []) := by
    unfold act1 at h
    unfold Region.wanted
    cases hg : o.guard with
    | none =>
      rw [hg] at h
      exact .inl ⟨rfl, h⟩
    | some g =>
      obtain ⟨j, want⟩ := g
      rw [hg] at h
      simp only at h ⊢
      cases hd : dstOf all j with
      | none => rw [hd] at h; cases h
      | some d =>
        rw [hd] at h
        simp only at h
        split at h
        · rename_i bb hb
          have hyl : yielded all.toArray act.tmps j = some (show Bool from bb) := by
            have hrs := hs.tmps d
            rw [hb] at hrs
            have hv := hrs.bool_inv
            have hdl : d < act.tmps.size := by
              rw [hs.size]
              rcases Nat.lt_or_ge d s.t.length with h' | h'
              · exact h'
              · rw [List.getD_eq_getElem?_getD, List.getElem?_eq_none h'] at hb; cases hb
            have e1 : (all.toArray[j]?).bind (·.dst) = some d := by simpa [dstOf] using hd
            have e2 : act.tmps[d]? = some (.bool bb) := by
              rw [Array.getElem?_eq_getElem hdl]
              rw [Array.getD_eq_getD_getElem?, Array.getElem?_eq_getElem hdl] at hv
              exact congrArg some hv
            unfold yielded
            rw [e1, Option.bind_some, e2]
          rw [hyl]
          have hx : ∀ x y : Bool, (some x == some y) = eqb x y := by decide
          rw [hx]
          cases hbw : eqb bb want with
          | true =>
            rw [hbw] at h
            exact .inl ⟨rfl, h⟩
          | false =>
            rw [hbw] at h
            cases h
            exact .inr ⟨rfl, rfl, rfl⟩
        · rename_i vv hb
          cases hnb : noB vv with
          | false => rw [hnb] at h; cases h
          | true =>
            rw [hnb] at h
            cases h
            have hyl : yielded all.toArray act.tmps j = none := by
              have hrs := hs.tmps d
              rw [hb] at hrs
              have hdl : d < act.tmps.size := by
                rw [hs.size]
                rcases Nat.lt_or_ge d s.t.length with h' | h'
                · exact h'
                · rw [List.getD_eq_getElem?_getD, List.getElem?_eq_none h'] at hb; cases hb
              have e1 : (all.toArray[j]?).bind (·.dst) = some d := by simpa [dstOf] using hd
              have e2 : act.tmps[d]? = some vv := by
                rw [Array.getElem?_eq_getElem hdl]
                rw [Array.getD_eq_getD_getElem?, Array.getElem?_eq_getElem hdl] at hrs
                exact congrArg some hrs.c_inv
              unfold yielded
              rw [e1, Option.bind_some, e2]
              cases vv <;> first | rfl | simp [noB] at hnb
            exact .inr ⟨by rw [hyl]; rfl, rfl, rfl⟩
        · cases h
  unfold wpOp
  rw [ho]
  simp only
  rcases fin with ⟨h1, h2⟩ | ⟨h1, rfl, rfl⟩
  · rw [if_pos h1]
    exact .inl (run h2)
  · rw [if_neg (by rw [h1]; simp)]
    exact hK _ _ (Inv.step (gl := gl) hL htr hs (u := []) (Tr.refl hs.wr _) (.c _) (.plain trivial (fun _ h => nomatch h) (fun _ h => nomatch h) (fun _ _ h => nomatch h)) o.dst)

theorem ops_seq (hE : EnvOK E) (hz : ∀ (M : Mem) n, RC M (.nm n) (E.dfl n) (E.zc n)) (hT : TOK P E tt) {call : CallF E} (hC : CallOK P gl call) {S : Since E} (hL : S.L ≤ S.b.length) (hgl : GlOK S.M gl) {f : FuncId} {α : Type} {k : List Cl → St E → Option α} {res : α} {Q : Exit → Act → World → Prop} :
    ∀ (r pre : List Oper) (acc : List Cl) (s : St E) (act : Act) (w : World), opsK tt gl H call f (pre ++ r) r acc s k = some res → Inv gl S s act w →
      (∀ cls s' act' w', k cls s' = some res → Inv gl S s' act' w' → Q .normal act' w') → wpOps P (pre ++ r).toArray Q (List.range' pre.length r.length) act w
  | [], pre, acc, s, act, w, h, hI, hQ => hQ _ _ _ _ h hI
  | o :: r, pre, acc, s, act, w, h, hI, hQ => by
    rw [opsK_cons] at h
    obtain ⟨⟨cl, a, u⟩, h1, h2⟩ := Option.bind_eq_some_iff.1 h
    simp only [List.length_cons, List.range'_succ]
    rw [wpOps_cons]
    refine wpOp_of hE hz hT hC hL hgl hI h1 (by simp) ?_
    intro act' w' hI'
    have := ops_seq hE hz hT hC hL hgl r (pre ++ [o]) (cl :: acc) _ act' w' (by simpa using h2) hI' hQ
    simpa using this

/-! ### Data from here on -/
theorem settle_tmp (hE : EnvOK E) {s : St E} {act : Act} {m i : Nat} {a : AV E} {u : Upd E} (hs : SR M μ s act w) (h : settleA m s.b (s.t.getD i .undef) = some (true, a, u)) :
    ∃ M', Tr s.b.length M μ s.b w M' μ (upds s.b u) w ∧ SR M' μ { t := s.t.set i a, b := upds s.b u } act w := by
  have key : ∃ M', Tr s.b.length M μ s.b w M' μ (upds s.b u) w ∧ RS M' μ a (act.tmps.getD i Go.undef) ∧ OKA (upds s.b u) a := by
    have hr := hs.tmps i
    have hok := hs.ok i
    generalize s.t.getD i .undef = x at h hr hok
    generalize act.tmps.getD i Go.undef = v at hr
    cases hr with
    | undef v => cases h; exact ⟨M, Tr.refl hs.wr _, .undef _, hok⟩
    | c v => cases h; exact ⟨M, Tr.refl hs.wr _, .c _, hok⟩
    | tup l vs hl hv => cases h; exact ⟨M, Tr.refl hs.wr _, .tup l vs hl hv, hok⟩
    | v hv =>
      obtain ⟨M', h1, h2, h3, h4⟩ := settleA_sound hE x s.b hs.wr hv hok h
      refine ⟨M', h1, ?_, h4⟩
      rw [← h3]
      exact RS.v h2
  obtain ⟨M', h1, h2, h3⟩ := key
  have lv := h1.all (Nat.le_refl _)
  refine ⟨M', h1, hs.defers, by simpa using hs.size, fun j => ?_, fun j => ?_, h1.wr⟩
  · show RS M' μ ((s.t.set i a).getD j .undef) _
    by_cases hj : i = j
    · subst hj
      by_cases hi : i < s.t.length
      · rw [List.getD_of_lt _ _ _ (by simpa using hi), List.getElem_set_self]
        exact h2
      · rw [List.getD_eq_getElem?_getD, List.getElem?_eq_none (by simpa using hi)]
        exact .undef _
    · rw [List.getD_eq_getElem?_getD, List.getElem?_set_ne hj, ← List.getD_eq_getElem?_getD]
      exact (hs.tmps j).tr (hs.ok j) h1.le lv
  · show OKA _ ((s.t.set i a).getD j .undef)
    by_cases hj : i = j
    · subst hj
      by_cases hi : i < s.t.length
      · rw [List.getD_of_lt _ _ _ (by simpa using hi), List.getElem_set_self]
        exact h3
      · rw [List.getD_eq_getElem?_getD, List.getElem?_eq_none (by simpa using hi)]
        exact .undef _
    · rw [List.getD_eq_getElem?_getD, List.getElem?_set_ne hj, ← List.getD_eq_getElem?_getD]
      exact (hs.ok j).tr lv
theorem settleT_inv (hE : EnvOK E) {S : Since E} (hL : S.L ≤ S.b.length) {act : Act} : ∀ (l : List (Nat × Nat)) {s s' : St E}, Inv gl S s act w → settleT l s = some (true, s') → Inv gl S s' act w
  | [], s, s', hI, h => by cases h; exact hI
  | (i, m) :: r, s, s', hI, h => by
    unfold settleT at h
    split at h
    · rename_i c a u h1
      split at h
      · rename_i c' s1 h2
        injection h with h; injection h with hc h
        subst h
        simp only [Bool.and_eq_true] at hc
        obtain ⟨rfl, rfl⟩ := hc
        obtain ⟨M, μ, htr, hs⟩ := hI
        obtain ⟨M', k1, k2⟩ := settle_tmp hE hs h1
        exact settleT_inv hE hL r ⟨M', μ, htr.trans (k1.mono (by rw [htr.len]; exact hL)), k2⟩ h2
      · cases h
    · cases h
theorem preK_inv (hE : EnvOK E) {α : Type} {S : Since E} (hL : S.L ≤ S.b.length) {act : Act} {l : List (Nat × Nat)} {s : St E} {k : St E → Option α} {res : α} (h : preK l s k = some res) (hI : Inv gl S s act w) : ∃ s', k s' = some res ∧ Inv gl S s' act w := by
  unfold preK at h
  split at h
  · exact ⟨s, h, hI⟩
  · split at h
    · rename_i c s' h1
      obtain ⟨hc, h2⟩ := bif_some h
      subst hc
      exact ⟨s', h2, settleT_inv hE hL _ hI h1⟩
    · cases h

theorem ops_seqP (hE : EnvOK E) (hz : ∀ (M : Mem) n, RC M (.nm n) (E.dfl n) (E.zc n)) (hT : TOK P E tt) {call : CallF E} (hC : CallOK P gl call) {S : Since E} (hL : S.L ≤ S.b.length) (hgl : GlOK S.M gl) {f : FuncId} {α : Type} {k : St E → Option α} {res : α} {Q : Exit → Act → World → Prop} :
    ∀ (r pre : List Oper) (s : St E) (act : Act) (w : World), opsP tt gl H call f (pre ++ r) r s k = some res → Inv gl S s act w →
      (∀ s' act' w', k s' = some res → Inv gl S s' act' w' → Q .normal act' w') → wpOps P (pre ++ r).toArray Q (List.range' pre.length r.length) act w
  | [], pre, s, act, w, h, hI, hQ => hQ _ _ _ h hI
  | o :: r, pre, s, act, w, h, hI, hQ => by
    obtain ⟨s1, h1, hI1⟩ := preK_inv hE hL (show preK (preO H f o) s (fun s => opsK tt gl H call f (pre ++ o :: r) [o] [] s fun _ s => opsP tt gl H call f (pre ++ o :: r) r s k) = some res from h) hI
    rw [opsK_cons] at h1
    obtain ⟨⟨cl, a, u⟩, h2, h3⟩ := Option.bind_eq_some_iff.1 h1
    have h3 : opsP tt gl H call f (pre ++ o :: r) r (s1.did o.dst a u) k = some res := h3
    simp only [List.length_cons, List.range'_succ]
    rw [wpOps_cons]
    refine wpOp_of hE hz hT hC hL hgl hI1 h2 (by simp) ?_
    intro act' w' hI'
    have := ops_seqP hE hz hT hC hL hgl r (pre ++ [o]) _ act' w' (by simpa using h3) hI' hQ
    simpa using this

end Go.Proofs.YtoegcppcmgbkmaaGreatDoor.Fv

/-! At a loop's head. -/
namespace Go.Proofs.YtoegcppcmgbkmaaGreatDoor.Fv
variable [Quiet]
variable {E : Env} {P : Program} {tt : Nat → Option TE} {gl : Nat → AV E} {H : Hints} {M M' : Mem} {μ μ' : Mu} {b b' : List (Blk E)} {w w' : World}

theorem idsL_mem {l : List (AV E)} {a : AV E} (h : a ∈ l) : ∀ i ∈ ids a, i ∈ idsL l := by
  induction l with
  | nil => simp at h
  | cons x l ih =>
    intro i hi
    simp only [idsL, List.mem_append]
    rcases List.mem_cons.1 h with rfl | h
    · exact .inl hi
    · exact .inr (ih h i hi)

/-- What a value is hangs on the homes that it leads to. -/
theorem cpIds_mem : ∀ (ps : List (CP E)) (id : Nat) (ly : Ty), CP.pt id ly ∈ ps → id ∈ cpIds ps
  | [], id, ly, h => by simp at h
  | .im c :: l, id, ly, h => by
    rcases List.mem_cons.1 h with h | h
    · cases h
    · exact cpIds_mem l id ly h
  | .pt i y :: l, id, ly, h => by
    rcases List.mem_cons.1 h with h | h
    · cases h; simp [cpIds]
    · exact List.mem_cons_of_mem _ (cpIds_mem l id ly h)
theorem RV.agree {a : AV E} {cs : List Value} (h : RV M μ a cs) (ha : ∀ i ∈ ids a, μ' i = μ i) : RV M μ' a cs := by
  induction h with
  | t h => exact .t h
  | nilp => exact .nilp
  | nilfn => exact .nilfn
  | niliface => exact .niliface
  | nilmap => exact .nilmap
  | ptr id ly p => rw [← ha id (by simp [ids])]; exact .ptr id ly p
  | eptr id e i p => rw [← ha id (by simp [ids])]; exact .eptr id e i p
  | imm b o h hc => exact .imm b o h hc
  | sl id e xs h => rw [← ha id (by simp [ids])] at h ⊢; exact .sl id e xs h
  | mp id k v => rw [← ha id (by simp [ids])]; exact .mp id k v
  | exact e xs base h => exact .exact e xs base h
  | snil e => exact .snil e
  | errn => exact .errn
  | errs t x => exact .errs t x
  | snn e xs a cap h => exact .snn e xs a cap h
  | rsv id e n hc hbn =>
    have e1 := ha id (by simp [ids])
    rw [← e1]
    exact .rsv id e n (by rw [e1]; exact hc) (by rw [e1]; exact hbn)
  | fs id e off len cap base h hc => exact .fs id e off len cap base (by rw [ha id (by simp [ids])]; exact h) hc
  | func f cs vs hl h => exact .func f cs vs hl h
  | funp f ps vs hl h =>
    refine .funp f ps vs hl fun i hi => ?_
    have hi' := h i hi
    cases hp : ps[i] with
    | im c => rw [hp] at hi'; exact hi'
    | pt id ly =>
      rw [hp] at hi'
      have : μ' id = μ id := ha id (by simp only [ids]; exact cpIds_mem ps id ly (by rw [← hp]; exact List.getElem_mem hi))
      show vs.getD i undef = .pointer (some ⟨(μ' id).g, 0, none⟩)
      rw [this]
      exact hi'
  | agg cs css hl h ih => exact .agg cs css hl fun i hi => ih i hi fun j hj => ha j (by simp only [ids]; exact idsL_mem (List.getElem_mem hi) j hj)
  | iface tid a cs v h hv ih => exact .iface tid a cs v (ih fun j hj => ha j (by simp only [ids]; exact hj)) hv
theorem RS.agree {a : AV E} {v : Value} (h : RS M μ a v) (ha : ∀ i ∈ ids a, μ' i = μ i) : RS M μ' a v := by
  cases h with
  | undef => exact .undef _
  | c => exact .c _
  | v h => exact .v (h.agree ha)
  | tup l vs hl h =>
    refine .tup l vs hl fun i hi => ?_
    rcases h i hi with h | ⟨cs, h1, h2⟩
    · exact .inl h
    · exact .inr ⟨cs, h1.agree fun j hj => ha j (by simp only [ids]; exact idsL_mem (List.getElem_mem hi) j hj), h2⟩
theorem OKA.agree {a : AV E} (h : OKA b a) (ha : ∀ i ∈ ids a, blk b' i = blk b i) : OKA b' a := by
  induction h with
  | plain h hn ht hi =>
    refine .plain ?_ hn ht hi
    rename_i a
    cases a with
    | funp f ps => intro id ly hp; have h := h id ly hp; rw [← ha id (by simp only [ids]; exact cpIds_mem ps id ly hp)] at h; exact h
    | ptr id ly p => have h : (∃ a, blk b id = .var ly a) ∨ ∃ v, blk b id = .frz ly v := h; rw [← ha id (by simp [ids])] at h; exact h
    | eptr id e i p => have h : (∃ xs, blk b id = .row e xs) ∨ blk b id = .rowz e := h; rw [← ha id (by simp [ids])] at h; exact h
    | sl id e xs => have h : ∃ n, blk b id = .grow e n ∧ xs.length ≤ n := h; rw [← ha id (by simp [ids])] at h; exact h
    | rsv id e n => have h : ∃ n, blk b id = .grow e n := h; rw [← ha id (by simp [ids])] at h; exact h
    | fs id e off len => have h : (∃ xs, blk b id = .row e xs ∧ off + len ≤ xs.length) ∨ blk b id = .rowz e := h; rw [← ha id (by simp [ids])] at h; exact h
    | mp id k v => have h : (∃ es, blk b id = .mp k v es) ∨ blk b id = .mpz := h; rw [← ha id (by simp [ids])] at h; exact h
    | _ => trivial
  | agg cs _ ih => exact .agg cs fun c hc => ih c hc fun j hj => ha j (by simp only [ids]; exact idsL_mem hc j hj)
  | tup l _ ih => exact .tup l fun c hc => ih c hc fun j hj => ha j (by simp only [ids]; exact idsL_mem hc j hj)
  | iface t x _ ih => exact .iface t x (ih fun j hj => ha j (by simp only [ids]; exact hj))

/-- A home that a slot takes; the one that it left. -/
structure Mv (E : Env) where
  h : Home E
  src : Option Nat

structure KeepOK (M : Mem) (μ : Mu) (b : List (Blk E)) (w : World) (lo : Nat) (u : Upd E) (src men : List Nat) (ms : List (Mv E)) : Prop where
  u : u = ms.map fun m => (m.h.id, m.h.x)
  src : src = ms.filterMap (·.src)
  lo : ∀ m ∈ ms, lo + 16 ≤ m.h.id
  home : ∀ m ∈ ms, (∀ μ, BW M μ w m.h.c m.h.x) ∧ (∀ ly a, m.h.x ≠ .var ly a) ∧ ∀ g, Exc m.h.c m.h.x = some g → ∃ s, m.src = some s ∧ Exc (μ s) (blk b s) = some g

theorem keepH_spec (hw : WR M μ b w) {sl : Nat} {a : AV E} {v : Value} (hv : RS M μ a v) (ok : OKA b a) :
    ∃ ms, KeepOK M μ b w sl (keepH b sl a).u (keepH b sl a).src (keepH b sl a).men ms ∧ ms.length ≤ 1 ∧ (∀ x ∈ ms, x.h.id = sl + 16) ∧
      ∀ (μ' : Mu) (b' : List (Blk E)), (∀ x ∈ ms, μ' x.h.id = x.h.c ∧ blk b' x.h.id = x.h.x) → (∀ i ∈ (keepH b sl a).men, μ' i = μ i ∧ blk b' i = blk b i) → RS M μ' (keepH b sl a).v v ∧ OKA b' (keepH b sl a).v := by
  have plain : ∀ (x : Kp E), x = ⟨a, [], [], ids a⟩ → ∃ ms, KeepOK M μ b w sl x.u x.src x.men ms ∧ ms.length ≤ 1 ∧ (∀ x ∈ ms, x.h.id = sl + 16) ∧
      ∀ (μ' : Mu) (b' : List (Blk E)), (∀ x ∈ ms, μ' x.h.id = x.h.c ∧ blk b' x.h.id = x.h.x) → (∀ i ∈ x.men, μ' i = μ i ∧ blk b' i = blk b i) → RS M μ' x.v v ∧ OKA b' x.v := by
    rintro x rfl
    exact ⟨[], ⟨rfl, rfl, by simp, by simp⟩, by simp, by simp, fun μ' b' _ h => ⟨hv.agree fun i hi => (h i hi).1, ok.agree fun i hi => (h i hi).2⟩⟩
  unfold keepH
  split
  · rename_i id e xs
    split
    · rename_i e' n hb
      cases hc : (decide (e' = e)) with
      | false => exact ⟨[], ⟨rfl, rfl, by simp, by simp⟩, by simp, by simp, fun μ' b' _ h => ⟨.undef _, .undef _⟩⟩
      | true =>
        have hc := of_decide_eq_true hc
        subst hc
        have hB := hw.bw id
        rw [hb] at hB
        have hin : xs.length ≤ n := by
          obtain ⟨m, h1, h2⟩ := ok.plain' (by simp)
          rw [hb] at h1
          cases h1
          exact h2
        refine ⟨[⟨⟨sl + 16, μ id, .grow e' n⟩, some id⟩], ⟨rfl, rfl, by simp, ?_⟩, by simp, by simp, ?_⟩
        · intro m hm
          simp only [List.mem_singleton] at hm
          subst hm
          exact ⟨fun _ => hB, fun ly a h => (by cases h), fun g hg => ⟨id, rfl, by rw [hb]; exact hg⟩⟩
        · intro μ' b' h1 _
          obtain ⟨h2, h3⟩ := h1 _ (List.mem_singleton.2 rfl)
          simp only at h2 h3
          refine ⟨?_, .plain ⟨_, h3, hin⟩ (by simp) (by simp) (by simp)⟩
          cases hv with
          | v hv => cases hv with
            | sl _ _ _ hr =>
              have := RV.sl (E := E) (M := M) (μ := μ') (sl + 16) e' xs (by rw [h2]; exact hr)
              rw [h2] at this
              exact RS.v this
    · exact ⟨[], ⟨rfl, rfl, by simp, by simp⟩, by simp, by simp, fun μ' b' _ h => ⟨.undef _, .undef _⟩⟩
  · rename_i e xs
    cases hv with
    | v hv => cases hv with
      | exact _ _ base hr =>
        refine ⟨[⟨⟨sl + 16, ⟨0, fun _ => (base, xs.length)⟩, .grow e xs.length⟩, none⟩], ⟨rfl, rfl, by simp, ?_⟩, by simp, by simp, ?_⟩
        · intro m hm
          simp only [List.mem_singleton] at hm
          subst hm
          exact ⟨fun _ => ⟨Nat.le_refl _, .inl rfl⟩, fun ly a h => (by cases h), fun g hg => (by simp [Exc] at hg)⟩
        · intro μ' b' h1 _
          obtain ⟨h2, h3⟩ := h1 _ (List.mem_singleton.2 rfl)
          simp only at h2 h3
          refine ⟨?_, .plain ⟨_, h3, Nat.le_refl _⟩ (by simp) (by simp) (by simp)⟩
          have := RV.sl (E := E) (M := M) (μ := μ') (sl + 16) e xs (by rw [h2]; exact hr)
          rw [h2] at this
          exact RS.v this
  · rename_i id e off len
    split
    · rename_i e' xs hb
      cases hc : (decide (e' = e) && decide (off = 0)) with
      | false => exact ⟨[], ⟨rfl, rfl, by simp, by simp⟩, by simp, by simp, fun μ' b' _ h => ⟨.undef _, .undef _⟩⟩
      | true =>
        simp only [Bool.and_eq_true, decide_eq_true_eq] at hc
        obtain ⟨rfl, rfl⟩ := hc
        have hB := hw.bw id
        rw [hb] at hB
        have hin : len ≤ xs.length := by
          obtain ⟨zs, h1, h2⟩ := (ok.plain' (by simp)).resolve_right (by rw [hb]; exact fun h => nomatch h)
          rw [hb] at h1
          cases h1
          omega
        refine ⟨[⟨⟨sl + 16, μ id, .row e' xs⟩, some id⟩], ⟨rfl, rfl, by simp, ?_⟩, by simp, by simp, ?_⟩
        · intro m hm
          simp only [List.mem_singleton] at hm
          subst hm
          exact ⟨fun _ => hB, fun ly a h => (by cases h), fun g hg => ⟨id, rfl, by rw [hb]; exact hg⟩⟩
        · intro μ' b' h1 _
          obtain ⟨h2, h3⟩ := h1 _ (List.mem_singleton.2 rfl)
          simp only at h2 h3
          refine ⟨?_, .plain (.inl ⟨_, h3, by omega⟩) (by simp) (by simp) (by simp)⟩
          cases hv with
          | v hv => cases hv with
            | fs _ _ _ _ cap base hbase hcap =>
              exact RS.v (a := .fs (sl + 16) e' 0 len) (RV.fs (sl + 16) e' 0 len cap base (by rw [h2]; exact hbase) hcap)
    · exact ⟨[], ⟨rfl, rfl, by simp, by simp⟩, by simp, by simp, fun μ' b' _ h => ⟨.undef _, .undef _⟩⟩
  · exact plain _ rfl

theorem keep1_spec (hw : WR M μ b w) {m sl : Nat} {a : AV E} {v : Value} (hv : RS M μ a v) (ok : OKA b a) :
    ∃ ms, KeepOK M μ b w sl (keep1 b m sl a).u (keep1 b m sl a).src (keep1 b m sl a).men ms ∧ ms.length ≤ 1 ∧ (∀ x ∈ ms, x.h.id = sl + 16) ∧
      ∀ (μ' : Mu) (b' : List (Blk E)), (∀ x ∈ ms, μ' x.h.id = x.h.c ∧ blk b' x.h.id = x.h.x) → (∀ i ∈ (keep1 b m sl a).men, μ' i = μ i ∧ blk b' i = blk b i) → RS M μ' (keep1 b m sl a).v v ∧ OKA b' (keep1 b m sl a).v := by
  have plain : ∀ (x : Kp E), x = ⟨a, [], [], ids a⟩ → ∃ ms, KeepOK M μ b w sl x.u x.src x.men ms ∧ ms.length ≤ 1 ∧ (∀ x ∈ ms, x.h.id = sl + 16) ∧
      ∀ (μ' : Mu) (b' : List (Blk E)), (∀ x ∈ ms, μ' x.h.id = x.h.c ∧ blk b' x.h.id = x.h.x) → (∀ i ∈ x.men, μ' i = μ i ∧ blk b' i = blk b i) → RS M μ' x.v v ∧ OKA b' x.v := by
    rintro x rfl
    exact ⟨[], ⟨rfl, rfl, by simp, by simp⟩, by simp, by simp, fun μ' b' _ h => ⟨hv.agree fun i hi => (h i hi).1, ok.agree fun i hi => (h i hi).2⟩⟩
  unfold keep1
  split
  · exact keepH_spec hw hv.unN ok.unN
  · split
    · rename_i e xs hl
      obtain ⟨base, cap, rfl, hr⟩ := hv.lst_inv hl
      exact ⟨[], ⟨rfl, rfl, by simp, by simp⟩, by simp, by simp, fun μ' b' _ h => ⟨RS.slice hr, .t _ _ _⟩⟩
    · exact plain _ rfl
  · exact plain _ rfl

theorem keepT_spec (hw : WR M μ b w) (k : List (Nat × Nat)) : ∀ (l : List (AV E)) (i : Nat) (vs : Nat → Value), (∀ j (hj : j < l.length), RS M μ l[j] (vs (i + j)) ∧ OKA b l[j]) →
    ∃ ms, KeepOK M μ b w i (keepT b k l i).2.1 (keepT b k l i).2.2.1 (keepT b k l i).2.2.2 ms ∧ (keepT b k l i).1.length = l.length ∧
      (∀ m ∈ ms, ∀ m' ∈ ms, m.h.id = m'.h.id → m = m') ∧ (nodup (keepT b k l i).2.2.1 = true → ∀ m ∈ ms, ∀ m' ∈ ms, ∀ s, m.src = some s → m'.src = some s → m = m') ∧
      ∀ (μ' : Mu) (b' : List (Blk E)), (∀ x ∈ ms, μ' x.h.id = x.h.c ∧ blk b' x.h.id = x.h.x) → (∀ j ∈ (keepT b k l i).2.2.2, μ' j = μ j ∧ blk b' j = blk b j) →
        ∀ j (hj : j < (keepT b k l i).1.length), RS M μ' (keepT b k l i).1[j] (vs (i + j)) ∧ OKA b' (keepT b k l i).1[j]
  | [], i, vs, h => ⟨[], ⟨rfl, rfl, by simp, by simp⟩, rfl, by simp, by simp, fun μ' b' _ _ j hj => by simp [keepT] at hj⟩
  | a :: l, i, vs, h => by
    obtain ⟨ms, k1, k2, k3, k4, k5⟩ := keepT_spec hw k l (i + 1) vs (fun j hj => by have := h (j + 1) (by simpa using hj); rw [show i + (j + 1) = i + 1 + j by omega] at this; exact this)
    have h0 : RS M μ a (vs (i + 0)) ∧ OKA b a := h 0 (by simp)
    cases hl : k.lookup i with
    | none =>
      have he : keepT b k (a :: l) i = (.undef :: (keepT b k l (i + 1)).1, (keepT b k l (i + 1)).2) := by simp [keepT, hl]
      rw [he]
      refine ⟨ms, ⟨k1.u, k1.src, fun m hm => by have := k1.lo m hm; omega, k1.home⟩, by simp [k2], k3, k4, fun μ' b' h1 h2 j hj => ?_⟩
      match j, hj with
      | 0, _ => exact ⟨.undef _, .undef _⟩
      | j + 1, hj =>
        have := k5 μ' b' h1 h2 j (by simpa using hj)
        rw [show i + 1 + j = i + (j + 1) by omega] at this
        exact this
    | some m =>
      have he : keepT b k (a :: l) i = ((keep1 b m i a).v :: (keepT b k l (i + 1)).1, (keep1 b m i a).u ++ (keepT b k l (i + 1)).2.1, (keep1 b m i a).src ++ (keepT b k l (i + 1)).2.2.1, (keep1 b m i a).men ++ (keepT b k l (i + 1)).2.2.2) := by simp [keepT, hl]
      rw [he]
      obtain ⟨ms0, j1, j2, j3, j4⟩ := keep1_spec (m := m) (sl := i) hw h0.1 h0.2
      refine ⟨ms0 ++ ms, ⟨by rw [j1.u, k1.u, List.map_append], by rw [j1.src, k1.src, List.filterMap_append], ?_, ?_⟩, by simp [k2], ?_, ?_, ?_⟩
      · intro x hx
        rcases List.mem_append.1 hx with hx | hx
        · rw [j3 x hx]; exact Nat.le_refl _
        · have := k1.lo x hx; omega
      · intro x hx
        rcases List.mem_append.1 hx with hx | hx
        · exact j1.home x hx
        · exact k1.home x hx
      · intro x hx y hy hxy
        rcases List.mem_append.1 hx with hx | hx <;> rcases List.mem_append.1 hy with hy | hy
        · match ms0, j2, hx, hy with
          | [z], _, hx, hy => rw [List.mem_singleton.1 hx, List.mem_singleton.1 hy]
        · have := j3 x hx; have := k1.lo y hy; omega
        · have := j3 y hy; have := k1.lo x hx; omega
        · exact k3 x hx y hy hxy
      · intro hn x hx y hy s hsx hsy
        obtain ⟨n1, n2, n3⟩ := nodup_append hn
        have insrc : ∀ x ∈ ms0, ∀ s, x.src = some s → s ∈ (keep1 b m i a).src := fun x hx s hs => by rw [j1.src]; exact List.mem_filterMap.2 ⟨x, hx, hs⟩
        have insrc' : ∀ x ∈ ms, ∀ s, x.src = some s → s ∈ (keepT b k l (i + 1)).2.2.1 := fun x hx s hs => by rw [k1.src]; exact List.mem_filterMap.2 ⟨x, hx, hs⟩
        rcases List.mem_append.1 hx with hx | hx <;> rcases List.mem_append.1 hy with hy | hy
        · match ms0, j2, hx, hy with
          | [z], _, hx, hy => rw [List.mem_singleton.1 hx, List.mem_singleton.1 hy]
        · exact absurd (insrc' y hy s hsy) (n3 s (insrc x hx s hsx))
        · exact absurd (insrc' x hx s hsx) (n3 s (insrc y hy s hsy))
        · exact k4 n2 x hx y hy s hsx hsy
      · intro μ' b' h1 h2 j hj
        match j, hj with
        | 0, _ => exact j4 μ' b' (fun x hx => h1 x (List.mem_append_left _ hx)) (fun q hq => h2 q (List.mem_append_left _ hq))
        | j + 1, hj =>
          have := k5 μ' b' (fun x hx => h1 x (List.mem_append_right _ hx)) (fun q hq => h2 q (List.mem_append_right _ hq)) j (by simpa using hj)
          rw [show i + 1 + j = i + (j + 1) by omega] at this
          exact this

theorem keepBs_len (np : Nat) (k : List Nat) : ∀ (l : List (Blk E)) (i : Nat), (keepBs np k l i).length = l.length
  | [], i => rfl
  | x :: l, i => by simp [keepBs, keepBs_len np k l]
theorem keepBs_blk (np : Nat) (k : List Nat) : ∀ (l : List (Blk E)) (i j : Nat), blk (keepBs np k l i) j = bif decide (i + j < np) || k.contains (i + j) then blk l j else .none
  | [], i, j => by
    have : blk ([] : List (Blk E)) j = .none := by simp [blk]
    simp only [keepBs, this]
    cases (decide (i + j < np) || k.contains (i + j)) <;> rfl
  | x :: l, i, 0 => rfl
  | x :: l, i, j + 1 => by
    simp only [keepBs, blk_cons_succ]
    rw [keepBs_blk np k l (i + 1) j, show i + 1 + j = i + (j + 1) by omega]

open Classical in
noncomputable def muP (μ : Mu) (ms : List (Mv E)) : Mu := fun i => if h : ∃ m ∈ ms, m.h.id = i then (Classical.choose h).h.c else μ i

theorem prune_sound {S : Since E} (hL : S.L ≤ S.b.length) (hS : ∀ i, S.L ≤ i ∨ 16 ≤ i → blk S.b i = .none) {s s' : St E} {act : Act} {k : List (Nat × Nat)} {kb : List Nat} (h : prune S.L k kb s = some s') (hI : Inv gl S s act w) : Inv gl S s' act w := by
  obtain ⟨M, μ, tr, hs⟩ := hI
  unfold prune at h
  simp only at h
  obtain ⟨hc, h9⟩ := bif_some h
  clear h
  cases h9
  simp only [Bool.and_eq_true, List.all_eq_true, Bool.not_eq_true', decide_eq_true_eq] at hc
  obtain ⟨⟨⟨⟨c1, c2⟩, c3⟩, c4⟩, c5⟩ := hc
  have hw := hs.wr
  obtain ⟨ms, k1, k2, k3, k4, k5⟩ := keepT_spec hw k s.t 0 (fun i => act.tmps.getD i undef) (fun j hj => by
    have h1 := hs.tmps j
    have h2 := hs.ok j
    rw [List.getD_of_lt _ _ _ hj] at h1 h2
    rw [Nat.zero_add]
    exact ⟨h1, h2⟩)
  have kept : ∀ i, (decide (i < S.L) || kb.contains i) = true → blk (keepBs S.L kb s.b 0) i = blk s.b i := fun i hi => by
    rw [keepBs_blk, Nat.zero_add, hi]; rfl
  have nkept : ∀ i, (decide (i < S.L) || kb.contains i) = false → blk (keepBs S.L kb s.b 0) i = .none := fun i hi => by
    rw [keepBs_blk, Nat.zero_add, hi]; rfl
  have hnk : ∀ m ∈ ms, (decide (m.h.id < S.L) || kb.contains m.h.id) = false ∧ m.h.id < (keepBs S.L kb s.b 0).length := fun m hm => by
    have := c3 (m.h.id, m.h.x) (by rw [k1.u]; exact List.mem_map.2 ⟨m, hm, rfl⟩)
    exact this
  have hb1 : ∀ m ∈ ms, blk (upds (keepBs S.L kb s.b 0) (keepT s.b k s.t 0).2.1) m.h.id = m.h.x := by
    intro m hm
    refine upds_in _ _ _ _ ?_ ⟨(m.h.id, m.h.x), by rw [k1.u]; exact List.mem_map.2 ⟨m, hm, rfl⟩, rfl⟩ (hnk m hm).2
    intro q hq he
    rw [k1.u] at hq
    obtain ⟨m', hm', rfl⟩ := List.mem_map.1 hq
    rw [k3 m' hm' m hm he]
  have hb2 : ∀ i, (∀ m ∈ ms, m.h.id ≠ i) → blk (upds (keepBs S.L kb s.b 0) (keepT s.b k s.t 0).2.1) i = blk (keepBs S.L kb s.b 0) i := by
    intro i hi
    refine upds_out _ _ _ fun q hq => ?_
    rw [k1.u] at hq
    obtain ⟨m', hm', rfl⟩ := List.mem_map.1 hq
    exact hi m' hm'
  have hm1 : ∀ m ∈ ms, muP μ ms m.h.id = m.h.c := by
    intro m hm
    have hex : ∃ x ∈ ms, x.h.id = m.h.id := ⟨m, hm, rfl⟩
    unfold muP
    rw [dif_pos hex]
    have := Classical.choose_spec hex
    rw [k3 _ this.1 m hm this.2]
  have hm2 : ∀ i, (∀ m ∈ ms, m.h.id ≠ i) → muP μ ms i = μ i := by
    intro i hi
    unfold muP
    rw [dif_neg (by rintro ⟨m, hm, he⟩; exact hi m hm he)]
  have hkm : ∀ i, (decide (i < S.L) || kb.contains i) = true → ∀ m ∈ ms, m.h.id ≠ i := by
    rintro i hi m hm rfl
    rw [(hnk m hm).1] at hi
    cases hi
  have hK : ∀ i, (decide (i < S.L) || kb.contains i) = true → muP μ ms i = μ i ∧ blk (upds (keepBs S.L kb s.b 0) (keepT s.b k s.t 0).2.1) i = blk s.b i := fun i hi =>
    ⟨hm2 i (hkm i hi), by rw [hb2 i (hkm i hi), kept i hi]⟩
  have hcase : ∀ i, ((decide (i < S.L) || kb.contains i) = true) ∨ (∃ m ∈ ms, m.h.id = i) ∨ blk (upds (keepBs S.L kb s.b 0) (keepT s.b k s.t 0).2.1) i = .none := by
    intro i
    by_cases h1 : ∃ m ∈ ms, m.h.id = i
    · exact .inr (.inl h1)
    · cases h2 : (decide (i < S.L) || kb.contains i) with
      | true => exact .inl rfl
      | false => exact .inr (.inr (by rw [hb2 i (fun m hm he => h1 ⟨m, hm, he⟩), nkept i h2]))
  have hvar : ∀ i ly a, (decide (i < S.L) || kb.contains i) = true → blk s.b i = .var ly a → ∀ j ∈ ids a, (decide (j < S.L) || kb.contains j) = true := by
    intro i ly a hi hb j hj
    have hlt : i < (keepBs S.L kb s.b 0).length := by rw [keepBs_len]; exact blk_lt (by rw [hb]; simp)
    have hmem : (keepBs S.L kb s.b 0)[i] ∈ keepBs S.L kb s.b 0 := List.getElem_mem hlt
    have e1 : (keepBs S.L kb s.b 0)[i] = .var ly a := by
      have := kept i hi
      rw [hb] at this
      rw [blk, List.getD_of_lt _ _ _ hlt] at this
      exact this
    exact c2 _ hmem j (by rw [e1]; exact hj)
  have hexc : ∀ m ∈ ms, ∀ g, Exc m.h.c m.h.x = some g → ∃ sr, m.src = some sr ∧ Exc (μ sr) (blk s.b sr) = some g ∧ (decide (sr < S.L) || kb.contains sr) = false := by
    intro m hm g hg
    obtain ⟨sr, h1, h2⟩ := (k1.home m hm).2.2 g hg
    exact ⟨sr, h1, h2, c4 sr (by rw [k1.src]; exact List.mem_filterMap.2 ⟨m, hm, h1⟩)⟩
  have hWR : WR M (muP μ ms) (upds (keepBs S.L kb s.b 0) (keepT s.b k s.t 0).2.1) w := by
    refine ⟨hw.holds, fun i => ?_, fun i j g h1 h2 => ?_, fun i ly a hb => ?_⟩
    · rcases hcase i with hi | ⟨m, hm, rfl⟩ | hi
      · obtain ⟨e1, e2⟩ := hK i hi
        rw [e1, e2]
        have hB := hw.bw i
        cases hb : blk s.b i with
        | var ly a =>
          rw [hb] at hB
          obtain ⟨cs, T, h1, h2, h3, h4⟩ := hB
          exact ⟨cs, T, h1, h2.agree fun j hj => (hK j (hvar i ly a hi hb j hj)).1, h3, h4⟩
        | _ => rw [hb] at hB; exact hB
      · rw [hb1 m hm, hm1 m hm]; exact (k1.home m hm).1 _
      · rw [hi]; trivial
    · rcases hcase i with hi | ⟨m, hm, rfl⟩ | hi
      · obtain ⟨e1, e2⟩ := hK i hi
        rw [e1, e2] at h1
        rcases hcase j with hj | ⟨m', hm', rfl⟩ | hj
        · obtain ⟨e3, e4⟩ := hK j hj
          rw [e3, e4] at h2
          exact hw.exc i j g h1 h2
        · rw [hb1 m' hm', hm1 m' hm'] at h2
          obtain ⟨sr, _, h4, h5⟩ := hexc m' hm' g h2
          have := hw.exc i sr g h1 h4
          subst this
          rw [hi] at h5
          cases h5
        · rw [hj] at h2; cases h2
      · rw [hb1 m hm, hm1 m hm] at h1
        obtain ⟨sr, h3, h4, h5⟩ := hexc m hm g h1
        rcases hcase j with hj | ⟨m', hm', rfl⟩ | hj
        · obtain ⟨e3, e4⟩ := hK j hj
          rw [e3, e4] at h2
          have := hw.exc sr j g h4 h2
          subst this
          rw [hj] at h5
          cases h5
        · rw [hb1 m' hm', hm1 m' hm'] at h2
          obtain ⟨sr', h6, h7, _⟩ := hexc m' hm' g h2
          have := hw.exc sr sr' g h4 h7
          subst this
          rw [k4 c5 m hm m' hm' sr h3 h6]
        · rw [hj] at h2; cases h2
      · rw [hi] at h1; cases h1
    · rcases hcase i with hi | ⟨m, hm, rfl⟩ | hi
      · obtain ⟨e1, e2⟩ := hK i hi
        rw [e2] at hb
        exact (hw.oks i ly a hb).agree fun j hj => (hK j (hvar i ly a hi hb j hj)).2
      · rw [hb1 m hm] at hb
        exact absurd hb ((k1.home m hm).2.1 ly a)
      · rw [hi] at hb; cases hb
  have hvals := k5 (muP μ ms) (upds (keepBs S.L kb s.b 0) (keepT s.b k s.t 0).2.1) (fun m hm => ⟨hm1 m hm, hb1 m hm⟩) (fun j hj => hK j (c1 j hj))
  refine ⟨M, muP μ ms, ⟨tr.le, fun i hi => ?_, hWR, by rw [upds_len, keepBs_len]; exact tr.len, tr.size, tr.frame, tr.fresh, fun i g h1 => ?_, tr.os, tr.tape, tr.output⟩, ⟨hs.defers, by rw [k2]; exact hs.size, fun i => ?_, fun i => ?_, hWR⟩⟩
  · obtain ⟨e1, e2⟩ := hK i (by simp [hi])
    rw [e1, e2]
    exact tr.lives i hi
  · rcases hcase i with hi | ⟨m, hm, rfl⟩ | hi
    · obtain ⟨e1, e2⟩ := hK i hi
      rw [e1, e2] at h1
      exact tr.exf i g h1
    · rw [hb1 m hm, hm1 m hm] at h1
      obtain ⟨sr, h3, h4, h5⟩ := hexc m hm g h1
      rcases tr.exf sr g h4 with h6 | ⟨j, h6, h7⟩
      · exact .inl h6
      · simp only [Bool.or_eq_false_iff, decide_eq_false_iff_not] at h5
        rw [hS j (by rcases h7 with rfl | h7 <;> omega)] at h6
        cases h6
    · rw [hi] at h1; cases h1
  · show RS M (muP μ ms) ((keepT s.b k s.t 0).1.getD i .undef) _
    rcases Nat.lt_or_ge i (keepT s.b k s.t 0).1.length with hi | hi
    · rw [List.getD_of_lt _ _ _ hi]
      have := (hvals i hi).1
      rwa [Nat.zero_add] at this
    · rw [List.getD_eq_getElem?_getD, List.getElem?_eq_none hi]
      exact .undef _
  · show OKA _ ((keepT s.b k s.t 0).1.getD i .undef)
    rcases Nat.lt_or_ge i (keepT s.b k s.t 0).1.length with hi | hi
    · rw [List.getD_of_lt _ _ _ hi]
      exact (hvals i hi).2
    · rw [List.getD_eq_getElem?_getD, List.getElem?_eq_none hi]
      exact .undef _

end Go.Proofs.YtoegcppcmgbkmaaGreatDoor.Fv

/-! Whole bodies. -/
namespace Go.Proofs.YtoegcppcmgbkmaaGreatDoor.Fv
variable [Quiet]
variable {E : Env} {P : Program} {tt : Nat → Option TE} {gl : Nat → AV E} {H : Hints} {M M' : Mem} {μ μ' : Mu} {b b' : List (Blk E)} {w w' : World}

theorem Inv.drew {S : Since E} {s : St E} {act : Act} (h : Inv gl S s act w) : Inv gl S s act { w with drawn := w.drawn + 1 } := by
  obtain ⟨M, μ, tr, hs⟩ := h
  have hw : WR M μ s.b { w with drawn := w.drawn + 1 } := ⟨hs.wr.holds, hs.wr.bw, hs.wr.exc, hs.wr.oks⟩
  exact ⟨M, μ, ⟨tr.le, tr.lives, hw, tr.len, tr.size, tr.frame, tr.fresh, tr.exf, tr.os, ⟨tr.tape.eq, fun q => Nat.le_succ_of_le (tr.tape.le q)⟩, tr.output⟩, ⟨hs.defers, hs.size, hs.tmps, hs.ok, hw⟩⟩

/-- What holds behind a piece of code. -/
def Post {α : Type} (gl : Nat → AV E) (S : Since E) (k : Ex → St E → Option α) (res : α) : Exit → Act → World → Prop
  | .normal, a, w => ∃ s, k .normal s = some res ∧ Inv gl S s a w
  | .exit id, a, w => ∃ s, k (.exit id) s = some res ∧ Inv gl S s a w
  | .ret, a, w => ∃ s, k .ret s = some res ∧ Inv gl S s a w
  | _, _, _ => False

/-- Regions in whatever order their edges leave open. -/
def AnyOK (P : Program) (tt : Nat → Option TE) (gl : Nat → AV E) (H : Hints) (call : CallF E) (S : Since E) (f : FuncId) : Prop :=
  ∀ (ops : Array Oper) (s : St E) (act : Act) (w : World) (α : Type) (k : St E → Option α) (res : α) (Q : Exit → Act → World → Prop),
    opsK tt gl H call f ops.toList ops.toList [] s (fun cls s => bif freeOrder ops.toList cls then k s else none) = some res → Inv gl S s act w →
    (∀ s' act' w', k s' = some res → Inv gl S s' act' w' → Q .normal act' w') → wpAny P .any ops Q ops.size (Array.replicate ops.size false) act w

theorem exec_sound (hE : EnvOK E) (hz : ∀ (M : Mem) n, RC M (.nm n) (E.dfl n) (E.zc n)) (hT : TOK P E tt) (hmix : P.follows .mixedOrders = true) {call : CallF E} (hC : CallOK P gl call) {S : Since E} (hL : S.L ≤ S.b.length) (hS : ∀ i, S.L ≤ i ∨ 16 ≤ i → blk S.b i = .none) (hgl : GlOK S.M gl) {f : FuncId}
    (hAny : AnyOK P tt gl H call S f) (fuel : Nat) {res : AV E × List (Blk E)} :
    ∀ (c : Code) (bid : Nat) (k : Ex → St E → Out E) (s : St E) (act : Act) (w : World), exec tt gl H S.L call fuel f c bid k s = some res → Inv gl S s act w → c.wp P (Post gl S k res) act w := by
  intro c
  induction c with
  | skip => exact fun bid k s act w h hI => wp_skip ⟨s, h, hI⟩
  | ret => exact fun bid k s act w h hI => wp_ret ⟨s, h, hI⟩
  | exit id => exact fun bid k s act w h hI => wp_exit ⟨s, h, hI⟩
  | seq a b iha ihb =>
    intro bid k s act w h hI
    refine wp_seq (wp_mono (iha bid (kSeq (exec tt gl H S.L call fuel f b bid) k) s act w h hI) ?_)
    rintro e a' w' hp
    cases e with
    | normal => obtain ⟨s', h1, h2⟩ := hp; exact ihb bid k s' a' w' h1 h2
    | exit id => obtain ⟨s', h1, h2⟩ := hp; exact ⟨s', h1, h2⟩
    | ret => obtain ⟨s', h1, h2⟩ := hp; exact ⟨s', h1, h2⟩
    | goto l => exact hp
    | panic c => exact hp
    | outgrown => exact hp
  | cond c a b iha ihb =>
    intro bid k s act w h hI
    obtain ⟨M, μ, tr, hs⟩ := hI
    simp only [exec] at h
    split at h
    · rename_i v hv
      have hc := (evo_sound (hgl.mono tr.le) hs c).1
      rw [hv] at hc
      refine wp_cond (t := v) hc.bool_inv ?_
      cases v with
      | true => exact iha bid k s act w h ⟨M, μ, tr, hs⟩
      | false => exact ihb bid k s act w h ⟨M, μ, tr, hs⟩
    · rename_i v hv
      have hc := (evo_sound (hgl.mono tr.le) hs c).1
      rw [hv] at hc
      have hc : act.eval c = .bool v := by
        generalize act.eval c = z at hc
        cases hc with
        | c => rfl
        | v h => cases h
      refine wp_cond (t := v) hc ?_
      cases v with
      | true => exact iha bid k s act w h ⟨M, μ, tr, hs⟩
      | false => exact ihb bid k s act w h ⟨M, μ, tr, hs⟩
    · cases h
  | block id c ih =>
    intro bid k s act w h hI
    refine wp_block (wp_mono (ih id (kBlock id k) s act w h hI) ?_)
    rintro e a' w' hp
    cases e with
    | normal => exact hp
    | exit id' =>
      obtain ⟨s', h1, h2⟩ := hp
      have h1 : (bif id' == id then k .normal s' else k (.exit id') s') = some res := h1
      show if id' = id then Post gl S k res .normal a' w' else Post gl S k res (.exit id') a' w'
      by_cases hid : id' = id
      · rw [if_pos hid]
        rw [show (id' == id) = true by simpa using hid] at h1
        exact ⟨s', h1, h2⟩
      · rw [if_neg hid]
        rw [show (id' == id) = false by simpa using hid] at h1
        exact ⟨s', h1, h2⟩
    | ret => exact hp
    | goto l => exact hp
    | panic c => exact hp
    | outgrown => exact hp
  | loop c ih =>
    intro bid k s act w h hI
    simp only [exec] at h
    refine wp_loop_rounds fuel ?_
    have key : ∀ (n : Nat) (s : St E) (act : Act) (w : World), loopN S.L (exec tt gl H S.L call fuel f c bid) (H.keep f bid) (H.keepB f bid) k n s = some res → Inv gl S s act w → Code.rounds P c (Post gl S k res) n act w := by
      intro n
      induction n with
      | zero => intro s act w h hI; cases h
      | succ n ihn =>
        intro s act w h hI
        simp only [loopN] at h
        split at h
        · rename_i s1 hp
          have hI1 := prune_sound hL hS hp hI
          refine wp_mono (ih bid _ s1 act w h hI1) ?_
          rintro e a' w' hp
          cases e with
          | normal => obtain ⟨s', h1, h2⟩ := hp; exact ihn s' a' w' h1 h2
          | exit id => exact hp
          | ret => exact hp
          | goto l => exact hp
          | panic c => exact hp
          | outgrown => exact hp
        · cases h
    exact key fuel s act w h hI
  | region id ops draw =>
    intro bid k s act w h hI
    cases draw with
    | false =>
      obtain ⟨s1, h1, hI1⟩ := preK_inv hE hL (show preK (H.preT f id) s (fun s => opsP tt gl H call f ops.toList ops.toList s fun s => k .normal s) = some res from h) hI
      refine wp_region ?_
      have := ops_seqP hE hz hT hC hL hgl (Q := Post gl S k res) ops.toList [] s1 act w h1 hI1 (fun s' act' w' h1 h2 => ⟨s', h1, h2⟩)
      rw [List.range_eq_range']
      simpa using this
    | true =>
      obtain ⟨s1, h1, hI1⟩ := preK_inv hE hL (show preK (H.preT f id) s (fun s => opsK tt gl H call f ops.toList ops.toList [] s fun cls s => bif freeOrder ops.toList cls then k .normal s else none) = some res from h) hI
      refine wp_region_any hmix ?_
      exact hAny ops s1 act _ _ (k .normal) res _ h1 hI1.drew (fun s' act' w' h1 h2 => ⟨s', h1, h2⟩)
  | _ => intro bid k s act w h; cases h

end Go.Proofs.YtoegcppcmgbkmaaGreatDoor.Fv

/-! Functions. -/
namespace Go.Proofs.YtoegcppcmgbkmaaGreatDoor.Fv
variable [Quiet]
variable {ex : Nat → Prop} {E : Env} {P : Program} {tt : Nat → Option TE} {gl : Nat → AV E} {H : Hints} {M M' : Mem} {μ μ' : Mu} {b b' : List (Blk E)} {w w' : World}

/-! ### Results -/
def resRun (tmps : Array Value) : ResultVar → Sem Value := fun
  | .tmp t => pure (tmps.getD t undef)
  | .cell a t => do loadVar t (← asAddr (tmps.getD a undef))
theorem run_mapM {α β : Type} (f : α → Sem β) : ∀ (l : List α) (vs : List β), vs.length = l.length → (∀ i (hi : i < l.length) (hi' : i < vs.length), (f l[i]).run P w = .ok vs[i] w) → (l.mapM f).run P w = .ok vs w
  | [], vs, hl, h => by
    have : vs = [] := List.length_eq_zero_iff.1 hl
    subst this
    simp
  | a :: l, [], hl, h => by simp at hl
  | a :: l, v :: vs, hl, h => by
    have h0 := h 0 (by simp) (by simp)
    have ih := run_mapM f l vs (by simpa using hl) (fun i hi hi' => by have := h (i + 1) (by simpa using hi) (by simpa using hi'); simpa using this)
    simp only [List.getElem_cons_zero] at h0
    simp [List.mapM_cons, h0, ih]
theorem run_results {fn : Func} {tmps : Array Value} {vs : List Value} (hl : vs.length = fn.results.toList.length) (h : ∀ i (hi : i < fn.results.toList.length) (hi' : i < vs.length), (resRun tmps fn.results.toList[i]).run P w = .ok vs[i] w) :
    (results fn tmps).run P w = .ok (if h : vs.length = 1 then vs[0] else .tuple vs.toArray) w := by
  have h1 := run_mapM (P := P) (w := w) (resRun tmps) fn.results.toList vs hl h
  have e : results fn tmps = (do
    let vs ← fn.results.mapM (resRun tmps)
    pure (if h : vs.size = 1 then vs[0] else .tuple vs)) := rfl
  rw [e, Array.mapM_eq_mapM_toList]
  simp only [Sem.run_bind, Sem.run_map, h1, Result.andThen_ok, Sem.run_pure]
  congr 1

theorem resA_sound (hE : EnvOK E) (hT : TOK P E tt) {s : St E} {act : Act} (hs : SR M μ s act w) {r : ResultVar} {a : AV E} (h : resA tt s.b s.t r = some a) : ∃ v, (resRun act.tmps r).run P w = .ok v w ∧ RS M μ a v ∧ OKA s.b a := by
  unfold resA at h
  split at h
  · rename_i i
    cases h
    exact ⟨_, rfl, hs.tmps i, hs.ok i⟩
  · rename_i i t
    split at h
    · rename_i id hid
      split at h
      · rename_i c x hlk
        obtain ⟨hc, h9⟩ := bif_some h
        clear h
        cases h9
        subst hc
        obtain ⟨⟨v', h1, h2⟩, h3⟩ := look_sound hE hT hs.wr hid hlk (hs.tmps i)
        refine ⟨v', ?_, h2, h3⟩
        have hrs := hs.tmps i
        have hp : ∃ ad, act.tmps.getD i undef = .pointer (some ad) := by
          generalize act.tmps.getD i undef = va at hrs
          cases hx : s.t.getD i AV.undef with
          | ptr id ly p =>
            rw [hx] at hrs
            cases hrs with
            | v hrs => cases hrs; exact ⟨_, rfl⟩
          | eptr id e j p =>
            rw [hx] at hrs
            cases hrs with
            | v hrs => cases hrs; exact ⟨_, rfl⟩
          | _ => rw [hx] at hid; cases hid
        obtain ⟨ad, hp⟩ := hp
        rw [hp] at h1
        show (do loadVar t (← asAddr (act.tmps.getD i undef)) : Sem Value).run P w = _
        rw [hp]
        simpa [Instr.loadAt, Instr.sureAddr, asAddr] using h1
      · cases h
    · cases h

theorem blk_take (np : Nat) (i : Nat) : blk (b.take np) i = if i < np then blk b i else .none := by
  simp only [blk, List.getD_eq_getElem?_getD, List.getElem?_take]
  split <;> rfl

theorem own_of (hw : WR M μ b w) {np : Nat} {w0 : World} (hfr : ∀ i, np ≤ i → ∀ g, Exc (μ i) (blk b i) = some g → w0.heap.size ≤ g) : ∀ id, np ≤ id → ∀ g, g = Exc (μ id) (blk b id) → Own ex μ (b.take np) w0 g := by
  rintro id hid g rfl n hn
  refine ⟨.inl (hfr id hid n hn), fun p hp => ?_⟩
  rw [blk_take] at hp
  split at hp
  · have := hw.exc p id n hp hn
    omega
  · cases hp
theorem retRow_sound (hw : WR M μ b w) {np : Nat} {w0 : World} (hfr : ∀ i, np ≤ i → ∀ g, Exc (μ i) (blk b i) = some g → w0.heap.size ≤ g) {e : Ty} {a r : AV E} {v : Value} (h : retRow np b e a = some r) (ha : RS M μ a v) :
    ∃ (xs : List (E.D e)) (g : Option Nat), r = .ownrow e xs ∧ RowR M μ w e xs v g ∧ Own ex μ (b.take np) w0 g ∧ (∀ m, g = some m → ∃ id, Exc (μ id) (blk b id) = some m ∧ ∃ off n, a = .fs id e off n) := by
  have own := own_of (ex := ex) hw hfr
  unfold retRow at h
  split at h
  · rename_i id e' n
    obtain ⟨hid, h1⟩ := bif_some h
    clear h
    have hid := of_decide_eq_true hid
    split at h1
    · rename_i e'' xs hb
      obtain ⟨hc, h2⟩ := bif_some h1
      clear h1
      simp only [Bool.and_eq_true, decide_eq_true_eq] at hc
      obtain ⟨⟨rfl, rfl⟩, rfl⟩ := hc
      cases h2
      have hB := hw.bw id
      rw [hb] at hB
      cases ha with
      | v ha => cases ha with
        | fs _ _ _ _ cap base hbase hcap =>
          exact ⟨xs, Exc (μ id) (.row (E := E) e'' xs), rfl, ⟨μ id, base, cap, rfl, hcap, by simpa using hbase, hB, rfl⟩, own id hid _ (by rw [hb]), fun m hm => ⟨id, by rw [hb]; exact hm, _, _, rfl⟩⟩
    · cases h1
  · rename_i e'
    obtain ⟨hc, h1⟩ := bif_some h
    clear h
    have hc := of_decide_eq_true hc
    subst hc
    cases h1
    cases ha with
    | v ha => cases ha with
      | exact _ _ base hr =>
        exact ⟨[], none, rfl, ⟨⟨0, fun _ => (none, 0)⟩, base, 0, rfl, Nat.le_refl _, .inr ⟨rfl, rfl⟩, .inl ⟨rfl, rfl⟩, by simp [Exc]⟩, fun n hn => (by cases hn), fun m hm => (by cases hm)⟩
  · rename_i e'
    obtain ⟨hc, h1⟩ := bif_some h
    clear h
    have hc := of_decide_eq_true hc
    subst hc
    cases h1
    replace ha : RS (E := E) M μ (.exact e' []) v := ha.unN
    cases ha with
    | v ha => cases ha with
      | exact _ _ base hr =>
        exact ⟨[], none, rfl, ⟨⟨0, fun _ => (none, 0)⟩, base, 0, rfl, Nat.le_refl _, .inr ⟨rfl, rfl⟩, .inl ⟨rfl, rfl⟩, by simp [Exc]⟩, fun n hn => (by cases hn), fun m hm => (by cases hm)⟩
  · cases h
theorem retAg_sound (hE : EnvOK E) (hw : WR M μ b w) {np : Nat} {w0 : World} (hfr : ∀ i, np ≤ i → ∀ g, Exc (μ i) (blk b i) = some g → w0.heap.size ≤ g) {e : Ty} : ∀ {l : List Ty} {cs rs : List (AV E)} {css : List (List Value)}, retAg np b l e cs = some rs → css.length = cs.length → (∀ i (hi : i < cs.length), RV M μ cs[i] (css.getD i [])) →
    ∃ g, RetAg M μ w rs css.flatten g ∧ Own ex μ (b.take np) w0 g ∧ (∀ m, g = some m → ∃ id, Exc (μ id) (blk b id) = some m ∧ id ∈ goneAg cs) ∧ rs ≠ []
  | [], [c], rs, [d], h, hl, hv => by
    have h : ((retRow np b e c).map fun x => [x]) = some rs := h
    obtain ⟨x, h1, rfl⟩ := Option.map_eq_some_iff.1 h
    have hv0 : RV M μ c d := hv 0 (by simp)
    have hone : ∃ y, d = [y] ∧ RS M μ c y := by
      unfold retRow at h1
      split at h1
      · cases hv0 with
        | fs _ _ _ _ cap base hb hc => exact ⟨_, rfl, RS.v (RV.fs _ _ _ _ cap base hb hc)⟩
      · cases hv0 with
        | exact _ _ base hr => exact ⟨_, rfl, RS.v (RV.exact _ _ base hr)⟩
      · cases hv0 with
        | snil => exact ⟨_, rfl, RS.v (RV.snil _)⟩
      · cases h1
    obtain ⟨y, rfl, hy⟩ := hone
    obtain ⟨xs, g, rfl, k1, k2, k3⟩ := retRow_sound hw hfr h1 hy
    exact ⟨g, ⟨y, rfl, k1⟩, k2, fun m hm => by obtain ⟨id, j1, off, n, rfl⟩ := k3 m hm; exact ⟨id, j1, by simp [goneAg]⟩, by simp⟩
  | [], [], rs, css, h, hl, hv => by cases h
  | [], _ :: _ :: _, rs, css, h, hl, hv => by cases h
  | [], [c], rs, [], h, hl, hv => by simp at hl
  | [], [c], rs, _ :: _ :: _, h, hl, hv => by simp at hl
  | a :: l, [], rs, css, h, hl, hv => by cases h
  | a :: l, c :: cs, rs, [], h, hl, hv => by simp at hl
  | a :: l, c :: cs, rs, d :: css, h, hl, hv => by
    have h : (match toT c a, retAg np b l e cs with
      | some x, some y => some (.t a x :: y)
      | _, _ => none) = some rs := h
    split at h
    · rename_i x y h1 h2
      cases h
      have hv0 : RV M μ c d := hv 0 (by simp)
      obtain ⟨g, k1, k2, k3, k4⟩ := retAg_sound hE hw hfr (css := css) h2 (by simpa using hl) (fun i hi => by
        have := hv (i + 1) (by simpa using hi)
        simpa using this)
      refine ⟨g, ?_, k2, fun m hm => ?_, by simp⟩
      · cases y with
        | nil => exact absurd rfl k4
        | cons z y => exact ⟨d, css.flatten, by simp, toT_sound hE hv0 h1, k1⟩
      · obtain ⟨id, j1, j2⟩ := k3 m hm
        refine ⟨id, j1, ?_⟩
        cases cs with
        | nil => simp [goneAg] at j2
        | cons z cs => exact j2
    · cases h
theorem ret1_sound (hE : EnvOK E) (hw : WR M μ b w) {np : Nat} {w0 : World} (hfr : ∀ i, np ≤ i → ∀ g, Exc (μ i) (blk b i) = some g → w0.heap.size ≤ g) {sh : RSh} {a r : AV E} {v : Value} (h : ret1 np b sh a = some r) (ha : RS M μ a v) (ok : OKA b a) :
    ∃ g, Ret1 M μ (b.take np) w r v g ∧ Own ex μ (b.take np) w0 g ∧ (∀ m, g = some m → ∃ id, Exc (μ id) (blk b id) = some m ∧ id ∈ goneOf sh (some a)) ∧ ∀ l, r ≠ .tup l := by
  have own : ∀ id, np ≤ id → ∀ g, g = Exc (μ id) (blk b id) → Own ex μ (b.take np) w0 g := by
    rintro id hid g rfl n hn
    refine ⟨.inl (hfr id hid n hn), fun p hp => ?_⟩
    rw [blk_take] at hp
    split at hp
    · have := hw.exc p id n hp hn
      omega
    · cases hp
  unfold ret1 at h
  split at h
  · rename_i ty
    obtain ⟨y, hy, rfl⟩ := Option.map_eq_some_iff.1 h
    obtain ⟨cs, h1, h2, _⟩ := ha.real (toT_real hy)
    refine ⟨none, ⟨?_, rfl⟩, fun n hn => (by cases hn), fun m hm => (by cases hm), by simp⟩
    have := RS.of_t (μ := μ) (toT_sound hE h1 hy)
    rwa [← toT_isAgg hy, ← h2] at this
  · rename_i e
    split at h
    · rename_i id e' xs
      obtain ⟨hid, h1⟩ := bif_some h
      clear h
      have hid := of_decide_eq_true hid
      split at h1
      · rename_i e'' n hb
        obtain ⟨hc, h2⟩ := bif_some h1
        clear h1
        simp only [Bool.and_eq_true, decide_eq_true_eq] at hc
        obtain ⟨⟨rfl, rfl⟩, rfl⟩ := hc
        cases h2
        have hB := hw.bw id
        rw [hb] at hB
        cases ha with
        | v ha => cases ha with
          | sl _ _ _ hr =>
            exact ⟨Exc (μ id) (.grow (E := E) e'' xs.length), ⟨μ id, rfl, hr, hB, rfl⟩, own id hid _ (by rw [hb]), fun m hm => ⟨id, by rw [hb]; exact hm, by simp [goneOf]⟩, by simp⟩
      · cases h1
    · rename_i e' xs
      obtain ⟨hc, h1⟩ := bif_some h
      clear h
      have hc := of_decide_eq_true hc
      subst hc
      cases h1
      cases ha with
      | v ha => cases ha with
        | exact _ _ base hr =>
          refine ⟨none, ⟨⟨0, fun _ => (base, xs.length)⟩, rfl, hr, ⟨Nat.le_refl _, .inl rfl⟩, by simp [Exc]⟩, fun n hn => (by cases hn), fun m hm => (by cases hm), by simp⟩
    · rename_i e'
      obtain ⟨hc, h1⟩ := bif_some h
      clear h
      have hc := of_decide_eq_true hc
      subst hc
      cases h1
      replace ha : RS (E := E) M μ (.exact e' []) v := ha.unN
      cases ha with
      | v ha => cases ha with
        | exact _ _ base hr =>
          refine ⟨none, ⟨⟨0, fun _ => (base, 0)⟩, rfl, hr, ⟨Nat.le_refl _, .inl rfl⟩, by simp [Exc]⟩, fun n hn => (by cases hn), fun m hm => (by cases hm), by simp⟩
    · cases h
  · rename_i e
    obtain ⟨xs, g, rfl, k1, k2, k3⟩ := retRow_sound hw hfr h ha
    exact ⟨g, k1, k2, fun m hm => by obtain ⟨id, j1, off, n, rfl⟩ := k3 m hm; exact ⟨id, j1, by simp [goneOf]⟩, by simp⟩
  · rename_i l e
    split at h
    · rename_i cs
      obtain ⟨rs, h1, rfl⟩ := Option.map_eq_some_iff.1 h
      cases ha with
      | v ha => cases ha with
        | agg _ css hl hv =>
          obtain ⟨g, k1, k2, k3, _⟩ := retAg_sound hE hw hfr h1 hl hv
          exact ⟨g, ⟨css.flatten, rfl, k1⟩, k2, fun m hm => by obtain ⟨id, j1, j2⟩ := k3 m hm; exact ⟨id, j1, by simpa [goneOf] using j2⟩, by simp⟩
    · cases h
  · rename_i p e
    split at h
    · rename_i id e' xs
      obtain ⟨hid, h1⟩ := bif_some h
      clear h
      simp only [Bool.and_eq_true, decide_eq_true_eq] at hid
      obtain ⟨⟨rfl, hp⟩, rfl⟩ := hid
      split at h1
      · rename_i e'' n hb
        obtain ⟨hc, h2⟩ := bif_some h1
        clear h1
        simp only [Bool.and_eq_true, decide_eq_true_eq] at hc
        obtain ⟨rfl, rfl⟩ := hc
        cases h2
        exact ⟨none, ⟨ha, by rw [blk_take, if_pos hp]; exact hb, rfl⟩, fun n hn => (by cases hn), fun m hm => (by cases hm), by simp⟩
      · cases h1
    · cases h
  · rename_i p e
    split at h
    · rename_i id e' off len
      obtain ⟨hid, h1⟩ := bif_some h
      clear h
      simp only [Bool.and_eq_true, decide_eq_true_eq] at hid
      obtain ⟨⟨rfl, hp⟩, rfl⟩ := hid
      split at h1
      · rename_i e'' xs hb
        obtain ⟨hc, h2⟩ := bif_some h1
        clear h1
        simp only [Bool.and_eq_true, decide_eq_true_eq] at hc
        obtain ⟨rfl, rfl⟩ := hc
        cases h2
        exact ⟨none, ⟨ha, ⟨xs, by rw [blk_take, if_pos hp]; exact hb⟩, rfl⟩, fun n hn => (by cases hn), fun m hm => (by cases hm), by simp⟩
      · cases h1
    · cases h
  · cases h


theorem rets_sound (hE : EnvOK E) (hT : TOK P E tt) {s : St E} {act : Act} (hs : SR M μ s act w) {np : Nat} {w0 : World} (hfr : ∀ i, np ≤ i → ∀ g, Exc (μ i) (blk s.b i) = some g → w0.heap.size ≤ g) :
    ∀ (rs : List ResultVar) (shs : List RSh) (l : List (AV E)), rets tt np s rs shs = some l → nodup (gone tt s rs shs) = true → ∃ (vs : List Value) (gs : Nat → Option Nat), vs.length = rs.length ∧ l.length = rs.length ∧
      (∀ i (hi : i < rs.length) (hi' : i < vs.length), (resRun act.tmps rs[i]).run P w = .ok vs[i] w) ∧ (∀ i (hi : i < l.length), Ret1 M μ (s.b.take np) w l[i] (vs.getD i Go.undef) (gs i) ∧ Own ex μ (s.b.take np) w0 (gs i)) ∧
      (∀ i m, i < l.length → gs i = some m → ∃ id ∈ gone tt s rs shs, Exc (μ id) (blk s.b id) = some m) ∧ ∀ i j m, i < l.length → j < l.length → gs i = some m → gs j = some m → i = j
  | [], [], l, h, hn => by
    cases h
    exact ⟨[], fun _ => none, rfl, rfl, by simp, by simp, by simp, by simp⟩
  | [], _ :: _, l, h, hn => by cases h
  | _ :: _, [], l, h, hn => by cases h
  | r :: rs, sh :: shs, l, h, hn => by
    unfold rets at h
    split at h
    · rename_i a l' h1 h2
      cases h
      obtain ⟨x, hx, h3⟩ := Option.bind_eq_some_iff.1 h1
      obtain ⟨v, k1, k2, k3⟩ := resA_sound (P := P) hE hT hs hx
      obtain ⟨g, k4, k5, k6, _⟩ := ret1_sound hE hs.wr hfr h3 k2 k3
      have e : gone tt s (r :: rs) (sh :: shs) = goneOf sh (some x) ++ gone tt s rs shs := by
        show goneOf sh (resA tt s.b s.t r) ++ gone tt s rs shs = _
        rw [hx]
      rw [e] at hn ⊢
      obtain ⟨n1, n2, n3⟩ := nodup_append hn
      obtain ⟨vs, gs, j1, j2, j3, j4, j5, j6⟩ := rets_sound hE hT hs hfr rs shs l' h2 n2
      refine ⟨v :: vs, fun i => match i with | 0 => g | i + 1 => gs i, by simp [j1], by simp [j2], ?_, ?_, ?_, ?_⟩
      · intro i hi hi'
        match i, hi, hi' with
        | 0, _, _ => exact k1
        | i + 1, hi, hi' => exact j3 i (by simpa using hi) (by simpa using hi')
      · intro i hi
        match i, hi with
        | 0, _ => exact ⟨k4, k5⟩
        | i + 1, hi => exact j4 i (by simpa using hi)
      · intro i m hi hm
        match i, hi, hm with
        | 0, _, hm =>
          obtain ⟨id, m1, m2⟩ := k6 m hm
          exact ⟨id, List.mem_append_left _ m2, m1⟩
        | i + 1, hi, hm =>
          obtain ⟨id, m1, m2⟩ := j5 i m (by simpa using hi) hm
          exact ⟨id, List.mem_append_right _ m1, m2⟩
      · have cross : ∀ j m, j < l'.length → g = some m → gs j = some m → False := by
          intro j m hj hg hgj
          obtain ⟨id, m1, m2⟩ := k6 m hg
          obtain ⟨id', m3, m4⟩ := j5 j m hj hgj
          have := hs.wr.exc id id' m m1 m4
          subst this
          exact n3 id m2 m3
        intro i j m hi hj hgi hgj
        match i, j, hi, hj, hgi, hgj with
        | 0, 0, _, _, _, _ => rfl
        | 0, j + 1, _, hj, hgi, hgj => exact (cross j m (by simpa using hj) hgi hgj).elim
        | i + 1, 0, hi, _, hgi, hgj => exact (cross i m (by simpa using hi) hgj hgi).elim
        | i + 1, j + 1, hi, hj, hgi, hgj => rw [j6 i j m (by simpa using hi) (by simpa using hj) hgi hgj]
    · cases h

theorem retsA_sound (hE : EnvOK E) (hT : TOK P E tt) {s : St E} {act : Act} (hs : SR M μ s act w) {np : Nat} {w0 : World} (hfr : ∀ i, np ≤ i → ∀ g, Exc (μ i) (blk s.b i) = some g → w0.heap.size ≤ g)
    {fn : Func} {sh : RSh} {r : AV E} (h : retsA tt np s fn.results.toList sh = some r) : ∃ v, (results fn act.tmps).run P w = .ok v w ∧ RetA ex M μ (s.b.take np) w0 w r v := by
  have single : ∀ x, fn.results.toList = [x] → (resA tt s.b s.t x).bind (ret1 np s.b sh) = some r → ∃ v, (results fn act.tmps).run P w = .ok v w ∧ RetA ex M μ (s.b.take np) w0 w r v := by
    intro x hx h1
    obtain ⟨a, ha, h3⟩ := Option.bind_eq_some_iff.1 h1
    obtain ⟨v, k1, k2, k3⟩ := resA_sound (P := P) hE hT hs ha
    obtain ⟨g, k4, k5, _, k7⟩ := ret1_sound hE hs.wr hfr h3 k2 k3
    have := run_results (P := P) (w := w) (fn := fn) (tmps := act.tmps) (vs := [v]) (by rw [hx]; rfl) (fun i hi hi' => by
      have hi0 : i = 0 := by simpa using hi'
      subst hi0
      simp only [hx, List.getElem_cons_zero]
      exact k1)
    refine ⟨v, by simpa using this, ?_⟩
    cases r <;> first | exact absurd rfl (k7 _) | exact ⟨g, k4, k5⟩
  unfold retsA at h
  split at h
  · rename_i hr
    cases h
    have := run_results (P := P) (w := w) (fn := fn) (tmps := act.tmps) (vs := []) (by rw [hr]; rfl) (fun i hi hi' => by simp at hi')
    refine ⟨.tuple #[], by simpa using this, [], rfl, rfl, fun _ => none, by simp, by simp⟩
  · rename_i _ shs
    obtain ⟨hc, h1⟩ := bif_some h
    clear h
    simp only [Bool.and_eq_true, decide_eq_true_eq] at hc
    obtain ⟨l, hl, rfl⟩ := Option.map_eq_some_iff.1 h1
    obtain ⟨vs, gs, j1, j2, j3, j4, j5, j6⟩ := rets_sound (P := P) hE hT hs hfr _ shs l hl hc.1
    have := run_results (P := P) (w := w) (fn := fn) (tmps := act.tmps) (vs := vs) j1 j3
    rw [dif_neg (by omega)] at this
    exact ⟨_, this, vs, rfl, by omega, gs, j4, j6⟩
  · exact single _ (by assumption) h
  · cases h
end Go.Proofs.YtoegcppcmgbkmaaGreatDoor.Fv

/-! The evaluator says what the program does. -/
namespace Go.Proofs.YtoegcppcmgbkmaaGreatDoor.Fv
variable [Quiet]
variable {E : Env} {P : Program} {tt : Nat → Option TE} {gl : Nat → AV E} {H : Hints} {M M' : Mem} {μ μ' : Mu} {b b' : List (Blk E)} {w w' : World}

theorem blk_pad (ins : List (Blk E)) (n i : Nat) : blk (ins ++ List.replicate n .none) i = blk ins i := by
  rw [blk_append]
  split
  · rfl
  · rename_i h
    rw [blk_ge (b := ins) (i := i) (by omega)]
    simp only [blk, List.getD_eq_getElem?_getD, List.getElem?_replicate]
    split <;> rfl

theorem WR.congr (h : WR M μ b w) (hb : ∀ i, blk b' i = blk b i) : WR M μ b' w :=
  ⟨h.holds, fun i => by rw [hb]; exact h.bw i, fun i j g h1 h2 => by rw [hb] at h1 h2; exact h.exc i j g h1 h2, fun i ly a h1 => by
    rw [hb] at h1
    exact (h.oks i ly a h1).agree fun j _ => hb j⟩

theorem RSL.getD : ∀ {l : List (AV E)} {vs : List Value}, RSL M μ l vs → ∀ i, RS M μ (l.getD i .undef) (vs.getD i Go.undef)
  | _, _, .nil, i => by simp; exact .undef _
  | _, _, .cons h t, 0 => h
  | _, _, .cons h t, i + 1 => by simpa using RSL.getD t i

theorem body_sound (hE : EnvOK E) (hz : ∀ (M : Mem) n, RC M (.nm n) (E.dfl n) (E.zc n)) (hT : TOK P E tt) (hmix : P.follows .mixedOrders = true) {call : CallF E} (hC : CallOK P gl call) {f : FuncId} {fn : Func} (hfn : P.funcs[f]? = some fn) {fuel : Nat}
    (hAny : ∀ S : Since E, S.L ≤ S.b.length → GlOK S.M gl → AnyOK P tt gl H call S f) {as : List (AV E)} {ins : List (Blk E)} {r : AV E} {outs : List (Blk E)} (h : body tt gl H call fuel f fn as ins = some (r, outs)) :
    ((∃ c, fn.body = some c) ∧ ins.length ≤ 16) ∧ ∀ M μ w (args : Array Value), GlOK M gl → WR M μ ins w → RSL M μ as args.toList → (∀ a ∈ as, OKA ins a) →
      Calls P f args w fun e w' => ∃ v M' μ', e = .returned v ∧ Tr ins.length M μ ins w M' μ' outs w' ∧ RetA (Taken μ ins outs) M' μ' outs w w' r v := by
  unfold body at h
  split at h
  · cases h
  · rename_i c hc
    obtain ⟨h16, h⟩ := bif_some h
    have h16 := of_decide_eq_true h16
    refine ⟨⟨⟨c, hc⟩, h16⟩, fun M μ w args hgl hw hl hok => ?_⟩
    have hpad : ∀ i, blk (start fn as ins).b i = blk ins i := fun i => blk_pad ins _ i
    let S : Since E := ⟨ins.length, M, μ, (start fn as ins).b, w⟩
    have hL : S.L ≤ S.b.length := by show ins.length ≤ (ins ++ List.replicate _ _).length; simp
    have hS : ∀ i, S.L ≤ i ∨ 16 ≤ i → blk S.b i = .none := fun i hi => by
      have hi : ins.length ≤ i := by rcases hi with hi | hi; exact hi; omega
      show blk (start fn as ins).b i = .none
      rw [hpad, blk_ge hi]
    have hw0 : WR M μ (start fn as ins).b w := hw.congr hpad
    have hlen : args.size = as.length := by have := hl.length; simpa using this
    have hI : Inv gl S (start fn as ins) { tmps := args ++ Array.replicate (fn.ntmps - args.size) undef, defers := [] } w := by
      refine ⟨M, μ, Tr.refl hw0 _, ⟨rfl, by simp [start, hlen], fun i => ?_, fun i => ?_, hw0⟩⟩
      · show RS M μ ((as ++ List.replicate _ AV.undef).getD i .undef) ((args ++ Array.replicate _ undef).getD i undef)
        rcases Nat.lt_or_ge i as.length with hi | hi
        · have h1 := hl.getD i
          have e1 : (as ++ List.replicate (fn.ntmps - as.length) AV.undef).getD i .undef = as.getD i .undef := by
            simp only [List.getD_eq_getElem?_getD, List.getElem?_append_left hi]
          have e2 : (args ++ Array.replicate (fn.ntmps - args.size) undef).getD i undef = args.toList.getD i undef := by
            simp only [Array.getD_eq_getD_getElem?, List.getD_eq_getElem?_getD]
            rw [Array.getElem?_append_left (by omega)]
            simp
          rw [e1, e2]
          exact h1
        · have e1 : (as ++ List.replicate (fn.ntmps - as.length) AV.undef).getD i .undef = .undef := by
            simp only [List.getD_eq_getElem?_getD, List.getElem?_append_right hi, List.getElem?_replicate]
            split <;> rfl
          rw [e1]
          exact .undef _
      · show OKA _ ((as ++ List.replicate _ AV.undef).getD i .undef)
        rcases Nat.lt_or_ge i as.length with hi | hi
        · have e1 : (as ++ List.replicate (fn.ntmps - as.length) AV.undef).getD i .undef = as[i] := by
            simp only [List.getD_eq_getElem?_getD, List.getElem?_append_left hi, List.getElem?_eq_getElem hi, Option.getD_some]
          rw [e1]
          exact (hok _ (List.getElem_mem hi)).agree fun j _ => hpad j
        · have e1 : (as ++ List.replicate (fn.ntmps - as.length) AV.undef).getD i .undef = .undef := by
            simp only [List.getD_eq_getElem?_getD, List.getElem?_append_right hi, List.getElem?_replicate]
            split <;> rfl
          rw [e1]
          exact .undef _
    have hwp := exec_sound hE hz hT hmix hC hL hS hgl (hAny S hL hgl) fuel c 0 _ _ _ w h hI
    refine calls_of_wp hfn hc (wp_mono hwp ?_)
    have done : ∀ (a : Act) (w' : World) (s : St E) (e : Ex), fin tt ins.length fn.results.toList (H.rsh f) e s = some (r, outs) → Inv gl S s a w' →
        a.defers = [] ∧ ∃ v, (results fn a.tmps).run P w' = .ok v w' ∧ ∃ v0 M' μ', Ending.returned v = .returned v0 ∧ Tr ins.length M μ ins w M' μ' outs w' ∧ RetA (Taken μ ins outs) M' μ' outs w w' r v0 := by
      intro a w' s e hf hI
      obtain ⟨M', μ', tr, hs⟩ := hI
      have hf : ∃ x, retsA tt ins.length s fn.results.toList (H.rsh f) = some x ∧ ((s.b.take ins.length).all back1) = true ∧ r = x ∧ outs = s.b.take ins.length := by
        unfold fin at hf
        split at hf
        · cases hf
        · split at hf
          · rename_i x hx
            obtain ⟨h1, h2⟩ := bif_some hf
            injection h2 with h2
            injection h2 with h3 h4
            exact ⟨x, hx, h1, h3.symm, h4.symm⟩
          · cases hf
      obtain ⟨x, hx, hall, rfl, rfl⟩ := hf
      have hfr : ∀ i, ins.length ≤ i → ∀ g, Exc (μ' i) (blk s.b i) = some g → w.heap.size ≤ g := by
        intro i hi g hg
        rcases tr.exf i g hg with h1 | ⟨j, h1, h2⟩
        · exact h1
        · rw [hS j (by rcases h2 with rfl | h2; exact .inl hi; exact .inr h2)] at h1; cases h1
      obtain ⟨v, h1, h2⟩ := retsA_sound hE hT hs hfr hx
      refine ⟨hs.defers, v, h1, v, M', μ', rfl, ?_, h2⟩
      have hsl : ins.length ≤ s.b.length := by have := tr.len; rw [this]; exact hL
      refine ⟨tr.le, fun i hi => ?_, ?_, ?_, tr.size, fun g hg hn => tr.frame g hg fun i => ?_, fun g o h3 h4 => ?_, fun i g h3 => ?_, tr.os, tr.tape, tr.output⟩
      · rw [blk_take, if_pos hi, ← hpad i]
        exact tr.lives i hi
      · refine ⟨hs.wr.holds, fun i => ?_, fun i j g h3 h4 => ?_, fun i ly a h3 => ?_⟩
        · rw [blk_take]
          split
          · exact hs.wr.bw i
          · trivial
        · rw [blk_take] at h3 h4
          split at h3
          · split at h4
            · exact hs.wr.exc i j g h3 h4
            · cases h4
          · cases h3
        · have hlt : i < (s.b.take ins.length).length := blk_lt (by rw [h3]; simp)
          simp only [List.all_eq_true] at hall
          have := hall _ (List.getElem_mem hlt)
          rw [blk, List.getD_of_lt _ _ _ hlt] at h3
          rw [h3] at this
          cases a with
          | t ty v => exact .t _ _ _
          | _ => cases this
      · rw [List.length_take, Nat.min_eq_left hsl]
      · show Exc (μ i) (blk (start fn as ins).b i) ≠ some g
        rw [hpad]
        exact hn i
      · rcases tr.fresh g o h3 h4 with h5 | ⟨i, h5⟩
        · exact .inl h5
        · refine .inr ⟨i, ?_⟩
          rw [← hpad i]
          exact h5
      · rw [blk_take] at h3
        split at h3
        · rcases tr.exf i g h3 with h5 | ⟨j, h5, h6⟩
          · exact .inl h5
          · right
            refine ⟨j, ?_, h6⟩
            rw [← hpad j]
            exact h5
        · cases h3
    rintro e a' w' hp
    cases e with
    | normal => obtain ⟨s, h1, h2⟩ := hp; exact done a' w' s _ h1 h2
    | ret => obtain ⟨s, h1, h2⟩ := hp; exact done a' w' s _ h1 h2
    | exit id => obtain ⟨s, h1, h2⟩ := hp; cases h1
    | goto l => exact hp.elim
    | panic c => exact hp.elim
    | outgrown => exact hp.elim

/-- What is known of the program's functions. -/
def FsOK (P : Program) (fs : FuncId → Option Func) : Prop := ∀ f fn, fs f = some fn → P.funcs[f]? = some fn ∧ fn.name ≠ "runtime.NumGoroutine"

theorem run_sound (hE : EnvOK E) (hz : ∀ (M : Mem) n, RC M (.nm n) (E.dfl n) (E.zc n)) (hT : TOK P E tt) (hmix : P.follows .mixedOrders = true) {fs : FuncId → Option Func} (hfs : FsOK P fs)
    (hAny : ∀ (call : CallF E), CallOK P gl call → ∀ f (S : Since E), S.L ≤ S.b.length → GlOK S.M gl → AnyOK P tt gl H call S f) : ∀ n, CallOK P gl (run tt gl H fs n)
  | 0 => fun f as ins r outs h => by cases h
  | n + 1 => fun f as ins r outs h => by
    simp only [run] at h
    split at h
    · rename_i fn hf
      obtain ⟨h1, h2⟩ := hfs f fn hf
      have ih := run_sound hE hz hT hmix hfs hAny n
      obtain ⟨⟨⟨c, hc⟩, h5⟩, h4⟩ := body_sound hE hz hT hmix ih h1 (hAny _ ih f) h
      exact ⟨⟨⟨fn, c, h1, h2, hc⟩, h5⟩, h4⟩
    · cases h

end Go.Proofs.YtoegcppcmgbkmaaGreatDoor.Fv

/-! Regions in whatever order their edges leave open. -/
namespace Go.Proofs.YtoegcppcmgbkmaaGreatDoor.Fv
variable [Quiet]
variable {E : Env} {P : Program} {tt : Nat → Option TE} {gl : Nat → AV E} {H : Hints} {M M' : Mem} {μ μ' : Mu} {b b' : List (Blk E)} {w w' : World}

def plain1 (c : Bool) : AV E → Bool
  | .ptr _ _ _ | .fs _ _ _ _ => false
  | .sl _ _ _ => !c
  | _ => true
theorem plainAs_cons (cons : List Nat) (pi : Nat) (t : Nat) (x : AV E) (l : List (Nat × AV E)) : plainAs cons pi ((t, x) :: l) = (plain1 (cons.contains pi) x && plainAs cons (pi + 1) l) := by
  cases x <;> rfl
theorem pass1_plain {c : Bool} {pi : Nat} {ty : Ty} {x : AV E} (h : plain1 c x = true) (b b' : List (Blk E)) : pass1 b c pi ty x = pass1 b' c pi ty x ∧ ∀ a B o, pass1 b c pi ty x = some (a, B, o) → o = none := by
  cases x with
  | ptr id ly p => cases h
  | fs id e off len => cases h
  | sl id e xs =>
    have hc : c = false := by simpa [plain1] using h
    subst hc
    refine ⟨rfl, fun a B o h => ?_⟩
    simp only [pass1, cond_false] at h
    cases h; rfl
  | agg cs =>
    refine ⟨rfl, fun a B o h => ?_⟩
    simp only [pass1] at h
    split at h <;> cases h
    rfl
  | iface t a =>
    refine ⟨rfl, fun a B o h => ?_⟩
    simp only [pass1] at h
    obtain ⟨_, h⟩ := bif_some h
    cases h; rfl
  | _ => exact ⟨rfl, fun a B o h => by first | (cases h; rfl) | cases h⟩
theorem plain_ca {c : Bool} {t : Nat} {x : AV E} (h : plain1 c x = true) : plain1 c (ca tt t x) = true := by
  cases x with
  | c v =>
    simp only [ca, cv]
    split <;> first | rfl | (split <;> rfl)
  | _ => exact h
theorem plain_caN {c : Bool} {t : Nat} {x : AV E} (h : plain1 c x = true) : plain1 c (caN tt t x) = true := by
  unfold caN
  split
  · split <;> rfl
  · exact plain_ca h
theorem passL_plain (cons : List Nat) (b b' : List (Blk E)) : ∀ (args : List (Nat × AV E)) (pi : Nat), plainAs cons pi args = true → passL tt b cons pi args = passL tt b' cons pi args ∧ ∀ as bs os, passL tt b cons pi args = some (as, bs, os) → os = []
  | [], pi, h => ⟨rfl, fun as bs os h => by cases h; rfl⟩
  | (t, x) :: l, pi, h => by
    rw [plainAs_cons, Bool.and_eq_true] at h
    obtain ⟨h1, h2⟩ := pass1_plain (pi := pi) (ty := tyOf tt t) (plain_caN (tt := tt) (t := t) h.1) b b'
    obtain ⟨h3, h4⟩ := passL_plain cons b b' l (pi + 1) h.2
    refine ⟨by simp only [passL]; rw [h1, h3], fun as bs os h => ?_⟩
    simp only [passL] at h
    split at h
    · rename_i a bb o as' bs' os' k1 k2
      have := h2 _ _ _ k1
      subst this
      cases h
      exact h4 _ _ _ k2
    · cases h


theorem recv1_simple {outs : List (Blk E)} {back : List (Nat × Nat)} {id : Nat} {sh : RSh} {r : AV E} (hs : simpleSh sh = true) (ht : ∀ l, sh ≠ .tup l) (b b' : List (Blk E)) :
    recv1 outs b back id sh r = recv1 outs b' back id sh r ∧ ∀ a u, recv1 outs b back id sh r = some (a, u) → u = [] := by
  cases sh with
  | t ty =>
    refine ⟨rfl, fun a u h => ?_⟩
    unfold recv1 at h
    simp only [recvK] at h
    obtain ⟨y, hy, k⟩ := Option.bind_eq_some_iff.1 h
    cases k; rfl
  | unit => exact ⟨rfl, fun a u h => by cases h; rfl⟩
  | asis =>
    refine ⟨rfl, fun a u h => ?_⟩
    unfold recv1 at h
    simp only [recvK] at h
    obtain ⟨y, hy, k⟩ := Option.bind_eq_some_iff.1 h
    cases k; rfl
  | tup l => exact absurd rfl (ht l)
  | _ => cases hs
/-- Shapes within a tuple: no tuple among them. -/
theorem recvs1_simple {outs : List (Blk E)} {back : List (Nat × Nat)} {step : Nat} (b b' : List (Blk E)) : ∀ (shs : List RSh) (id : Nat) (as : List (AV E)), simpleShs shs = true →
    recvs1 outs b back step id shs as = recvs1 outs b' back step id shs as ∧ ∀ l u, recvs1 outs b back step id shs as = some (l, u) → u = []
  | [], id, as, h => ⟨rfl, fun l u h => by
      have h : some (([] : List (AV E)), ([] : Upd E)) = some (l, u) := h
      cases h; rfl⟩
  | sh :: shs, id, as, h => by
    simp only [simpleShs, Bool.and_eq_true] at h
    obtain ⟨h3, h4⟩ := recvs1_simple b b' shs (id + step) as.tail h.2
    by_cases ht : ∃ l, sh = .tup l
    · obtain ⟨l, rfl⟩ := ht
      rw [recvs1_cons, recvs1_cons]
      exact ⟨rfl, fun l u h => by cases h⟩
    · obtain ⟨h1, h2⟩ := recv1_simple (outs := outs) (back := back) (id := id) (r := as.headD .undef) h.1 (fun l hl => ht ⟨l, hl⟩) b b'
      rw [recvs1_cons, recvs1_cons, h1, h3]
      refine ⟨rfl, fun l u h => ?_⟩
      obtain ⟨⟨a, u1⟩, k1, h⟩ := Option.bind_eq_some_iff.1 h
      obtain ⟨⟨l2, u2⟩, k2, h⟩ := Option.bind_eq_some_iff.1 h
      cases h
      rw [← h1] at k1
      rw [← h3] at k2
      rw [h2 a u1 k1, h4 l2 u2 k2]
      rfl
theorem recvA1_simple {outs : List (Blk E)} {back : List (Nat × Nat)} {step d : Nat} {sh : RSh} {r : AV E} (hs : simpleSh sh = true) (b b' : List (Blk E)) :
    recvA1 outs b back step d sh r = recvA1 outs b' back step d sh r ∧ ∀ a u, recvA1 outs b back step d sh r = some (a, u) → u = [] := by
  by_cases ht : ∃ l, sh = .tup l
  · obtain ⟨shs, rfl⟩ := ht
    obtain ⟨h1, h2⟩ := recvs1_simple (outs := outs) (back := back) (step := step) b b' shs (d + step) (asTup r) hs
    rw [recvA1_tup, recvA1_tup, h1]
    refine ⟨rfl, fun a u h => ?_⟩
    obtain ⟨_, h⟩ := bif_some h
    obtain ⟨⟨l, u'⟩, k1, k2⟩ := Option.map_eq_some_iff.1 h
    cases k2
    rw [← h1] at k1
    exact h2 l _ k1
  · have e : ∀ b : List (Blk E), recvA1 outs b back step d sh r = recv1 outs b back d sh r := fun b => by
      cases sh <;> first | rfl | exact absurd ⟨_, rfl⟩ ht
    rw [e, e]
    exact recv1_simple hs (fun l hl => ht ⟨l, hl⟩) b b'

theorem call10_cl {call : CallF E} {step : Nat} {f : FuncId} {cs : List (Cap E)} {sh : RSh} {args : List (Nat × AV E)} {d : Nat} {cl : Cl} {a : AV E} {u : Upd E} (h : call10 tt H call b step f cs sh args d = some (cl, a, u)) :
    (cl = .p ∧ u = [] ∧ ∀ b', call10 tt H call b' step f cs sh args d = some (.p, a, [])) ∨ (cl = .n (u.map (·.1)) ∧ ∀ b', (∀ i ∈ u.map (·.1), free b' i = free b i) → call10 tt H call b' step f cs sh args d = some (cl, a, u)) ∨ cl = .w (u.map (·.1)) := by
  unfold call10 callK0 at h
  split at h
  · rename_i as ins back hp
    obtain ⟨hnd, h9⟩ := bif_some h
    clear h
    obtain ⟨⟨r, outs⟩, hcall, h8⟩ := Option.bind_eq_some_iff.1 h9
    clear h9
    rw [recvAll_nat] at h8
    obtain ⟨⟨a', u'⟩, hrecv, h7⟩ := Option.bind_eq_some_iff.1 h8
    clear h8
    rw [backK_nat] at h7
    obtain ⟨v', hback, h6⟩ := Option.bind_eq_some_iff.1 h7
    clear h7
    obtain ⟨hnu, h5⟩ := bif_some h6
    clear h6
    cases hc : (plainAs (H.cons f) 0 args && simpleSh sh) with
    | false =>
      rw [hc] at h5
      cases hn : (plainAs (H.cons f) 0 args && ownSh sh) with
      | false =>
        rw [hn] at h5
        cases h5
        exact .inr (.inr rfl)
      | true =>
        rw [hn] at h5
        cases h5
        right; left
        simp only [Bool.and_eq_true] at hn
        have hb0 := (passL_plain (tt := tt) (H.cons f) b b args 0 hn.1).2 _ _ _ hp
        subst hb0
        have hv : v' = [] := by
          have h : some ([] : Upd E) = some v' := hback
          cases h; rfl
        subst hv
        refine ⟨rfl, fun b' hfr => ?_⟩
        have e1 := (passL_plain (tt := tt) (H.cons f) b b' args 0 hn.1).1
        have e2 : recvA1 outs b' [] step d sh r = some (a', u') := by
          cases sh with
          | ownrow e =>
            obtain ⟨xs, hx, hr⟩ := Option.bind_eq_some_iff.1 (show (castR e r).bind (fun xs => bif free b d then some (AV.fs d e 0 xs.length, [(d, Blk.row e xs)]) else none) = some (a', u') from hrecv)
            obtain ⟨hf, hr⟩ := bif_some hr
            cases hr
            have hf' : free b' d = true := by rw [hfr d (by simp)]; exact hf
            show (castR e r).bind (fun xs => bif free b' d then some (AV.fs d e 0 xs.length, [(d, Blk.row e xs)]) else none) = _
            rw [hx, Option.bind_some, hf']
            rfl
          | _ => exact absurd hn.2 (fun h => nomatch h)
        unfold call10 callK0
        rw [← e1, hp]
        simp only
        rw [hnd]
        simp only [cond_true]
        rw [hcall]
        simp only [Option.bind_some]
        rw [recvAll_nat, e2]
        simp only [Option.bind_some, backK]
        rw [hc, hn.1, hn.2]
        simp only [Bool.and_self]
        rw [hnu]
        rfl
    | true =>
      rw [hc] at h5
      cases h5
      left
      simp only [Bool.and_eq_true] at hc
      have hb0 := (passL_plain (tt := tt) (H.cons f) b b args 0 hc.1).2 _ _ _ hp
      subst hb0
      have hv : v' = [] := by
        have h : some ([] : Upd E) = some v' := hback
        cases h; rfl
      subst hv
      have hu := (recvA1_simple (outs := outs) (back := []) (step := step) (d := d) (r := r) hc.2 b b).2 _ _ hrecv
      subst hu
      refine ⟨rfl, rfl, fun b' => ?_⟩
      have e1 := (passL_plain (tt := tt) (H.cons f) b b' args 0 hc.1).1
      have e2 := (recvA1_simple (outs := outs) (back := []) (step := step) (d := d) (r := r) hc.2 b b').1
      unfold call10 callK0
      rw [← e1, hp]
      simp only
      rw [hnd]
      simp only [cond_true]
      rw [hcall]
      simp only [Option.bind_some]
      rw [recvAll_nat, ← e2, hrecv]
      simp only [Option.bind_some, backK]
      rw [hc.1, hc.2]
      rfl
  · cases h

theorem lendC_b {b b' : List (Blk E)} : ∀ (ps : List (CP E)) {cs : List (Cap E)} {is : List Nat}, lendC b ps = some (cs, is) → (∀ id ∈ is, blk b' id = blk b id) → lendC b' ps = some (cs, is)
  | [], cs, is, h, hb => h
  | .im c :: l, cs, is, h, hb => by
    simp only [lendC] at h ⊢
    split at h
    · rename_i x i hx
      cases h
      rw [lendC_b l hx hb]
    · cases h
  | .pt id ly :: l, cs, is, h, hb => by
    simp only [lendC] at h ⊢
    split at h
    · rename_i ly' ty v x i hb0 hx
      cases hd : (decide (ly' = ly) && decide (ty = ly)) with
      | false => rw [hd] at h; cases h
      | true =>
        rw [hd] at h
        cases h
        rw [lendC_b l hx fun id' hi => hb id' (List.mem_cons_of_mem _ hi), hb id (by simp), hb0]
        simp only [hd, cond_true]
    · cases h
theorem lend0_b {b b' : List (Blk E)} {m : Option Nat} {x y : AV E} {c : Bool} {i : List Nat} (h : lend0 b m x = some (c, y, i)) (hb : ∀ id ∈ i, blk b' id = blk b id) : lend0 b' m x = some (c, y, i) := by
  cases x with
  | fs id e off n =>
    have key : id ∈ i := by
      simp only [lend0] at h
      split at h
      · cases h
      · split at h
        · obtain ⟨_, h9⟩ := bif_some h
          split at h9
          · obtain ⟨_, h9⟩ := bif_some h9
            cases h9; simp
          · cases h9; simp
        · cases h
    rw [← h]
    simp only [lend0]
    rw [hb id key]
  | funp f ps =>
    simp only [lend0] at h ⊢
    split at h
    · rename_i cs' i' hc
      cases h
      rw [lendC_b ps hc hb]
    · cases h
  | _ => exact h
theorem lendFs_b {b b' : List (Blk E)} : ∀ (cs : List (AV E)) {c : Bool} {l : List (AV E)} {is : List Nat}, lendFs b cs = some (c, l, is) → (∀ id ∈ is, blk b' id = blk b id) → lendFs b' cs = some (c, l, is)
  | [], c, l, is, h, hb => h
  | a :: cs, c, l, is, h, hb => by
    unfold lendFs at h ⊢
    split at h
    · rename_i c0 x i c' l' is' h1 h2
      cases h
      rw [lend0_b h1 (fun id hi => hb id (List.mem_append_left _ hi)), lendFs_b cs h2 (fun id hi => hb id (List.mem_append_right _ hi))]
    · cases h
theorem lend1_b {b b' : List (Blk E)} {m : Option Nat} {x y : AV E} {c : Bool} {i : List Nat} (h : lend1 b m x = some (c, y, i)) (hb : ∀ id ∈ i, blk b' id = blk b id) : lend1 b' m x = some (c, y, i) := by
  unfold lend1 at h ⊢
  split at h
  · rename_i cs
    split at h
    · cases h
    · split at h
      · rename_i c0 l is hl
        cases h
        rw [lendFs_b cs hl hb]
      · cases h
  · exact lend0_b h hb
theorem lendL_b {b b' : List (Blk E)} {lp : List (Nat × Nat)} : ∀ (args : List (Nat × AV E)) (p : Nat) {c : Bool} {args' : List (Nat × AV E)} {is : List Nat}, lendL b lp p args = some (c, args', is) → (∀ id ∈ is, blk b' id = blk b id) → lendL b' lp p args = some (c, args', is)
  | [], p, c, args', is, h, hb => h
  | (t, x) :: l, p, c, args', is, h, hb => by
    unfold lendL at h ⊢
    split at h
    · rename_i c0 y i c' l' is' h1 h2
      cases h
      rw [lend1_b h1 (fun id hi => hb id (List.mem_append_left _ hi)), lendL_b l (p + 1) h2 (fun id hi => hb id (List.mem_append_right _ hi))]
    · cases h
theorem call1_cl {call : CallF E} {step : Nat} {f : FuncId} {cs : List (Cap E)} {sh : RSh} {args : List (Nat × AV E)} {d : Nat} {cl : Cl} {a : AV E} {u : Upd E} (h : call1 tt H call b step f cs sh args d = some (cl, a, u)) :
    (cl = .p ∧ u = [] ∧ ∀ b', call1 tt H call b' step f cs sh args d = some (.p, a, [])) ∨ (∃ id, cl = .l id ∧ u = [] ∧ ∀ b', blk b' id = blk b id → call1 tt H call b' step f cs sh args d = some (.l id, a, [])) ∨ (cl = .n (u.map (·.1)) ∧ ∀ b', (∀ i ∈ u.map (·.1), free b' i = free b i) → call1 tt H call b' step f cs sh args d = some (cl, a, u)) ∨ cl = .w (u.map (·.1)) := by
  rcases call1_two h with ⟨hl, h1⟩ | ⟨hl, args', is, c0, h1, h2, h3, rfl, rfl⟩
  · rcases call10_cl h1 with ⟨rfl, rfl, h2⟩ | ⟨h2, h3⟩ | h2
    · exact .inl ⟨rfl, rfl, fun b' => by rw [call1_old hl]; exact h2 b'⟩
    · exact .inr (.inr (.inl ⟨h2, fun b' hb => by rw [call1_old hl]; exact h3 b' hb⟩))
    · exact .inr (.inr (.inr h2))
  · match is, h1 with
    | [], h1 => exact .inl ⟨rfl, rfl, fun b' => call1_lend hl (lendL_b args 0 h1 (fun id hi => by simp at hi)) h2 h3⟩
    | [id], h1 => exact .inr (.inl ⟨id, rfl, rfl, fun b' hb => call1_lend hl (lendL_b args 0 h1 (fun id' hi => by simp at hi; subst hi; exact hb)) h2 h3⟩)
    | _ :: _ :: _, h1 => exact .inr (.inr (.inr rfl))

/-- Two states that an operation cannot tell apart by its operands. -/
structure Agree (gl : Nat → AV E) (s s' : St E) (o : Oper) : Prop where
  len : s'.t.length = s.t.length
  ops : o.op.operands.toList.map (evo gl s'.t) = o.op.operands.toList.map (evo gl s.t)

theorem wA_bs {H : Hints} {f : FuncId} {b : List (Blk E)} {t n ty d : Nat} {ps : Array (Nat × Operand)} {l : List (AV E)} : wA tt H f b (.buildSlice t n ps) ty d l = match tdOf tt t, tyOf tt t with
      | .slice el, .sl e => match (bif nodup (ps.toList.map (·.1)) && (ps.toList.map (·.1)).all (fun p => decide (p < n)) && decide (n ≤ 1000) then elems tt el ((ps.toList.map (·.1)).zip l) e n 0 else none) with
        | some xs => bif (H.asrow f).contains d then (bif free b (d + 16) then ru (.fs (d + 16) e 0 n) [(d + 16, .row e xs)] else none) else ru (.exact e xs) []
        | none => none
      | _, _ => none := by
  cases l <;> rfl
theorem wA_conv {H : Hints} {f : FuncId} {b : List (Blk E)} {src dst ty d i : Nat} {y : Operand} {l : List (AV E)} {c : Bool} {a : AV E} {e : Ty} {xs : List (E.D e)} (h : wA tt H f b (.convert src dst y) ty d l = some (c, a, [(i, Blk.row e xs)])) (b' : List (Blk E)) (hb : free b' i = free b i) :
    wA tt H f b' (.convert src dst y) ty d l = some (c, a, [(i, Blk.row e xs)]) := by
  match l, h with
  | [], h => cases h
  | _ :: _ :: _, h => cases h
  | [x], h =>
    have key : ∀ b : List (Blk E), wA tt H f b (.convert src dst y) ty d [x] = (match tdOf tt src, ca tt src x, tdOf tt dst, tyOf tt dst with
    | .str, .t .str s, .slice el, .sl (.int .u8) => match tdOf tt el with
      | .int .u8 => bif (H.asrow f).contains d then (bif free b (d + 16) then ru (.fs (d + 16) (.int .u8) 0 (List.length (α := Int) (ints s))) [(d + 16, .row (.int .u8) (ints s))] else none) else ru (.t (.sl (.int .u8)) (ints s)) []
      | _ => none
    | .slice _, .fs id e off n, .slice el, .sl e' => match tdOf tt el, blk b id with
      | .int .u8, .row e'' xs => bif decide (src = dst) && decide (off = 0) && decide (e' = e'') && decide (e = e'') then some (decide (n = xs.length) && decide (0 < n), .t (.sl e'') xs, [(id, .rowz e'')]) else none
      | _, _ => none
    | _, _, _, _ => none) := fun b => rfl
    rw [key] at h ⊢
    split at h
    · split at h
      · cases ha : (H.asrow f).contains d with
        | false => rw [ha] at h; cases h
        | true =>
          rw [ha] at h
          obtain ⟨hf, h9⟩ := bif_some (show (bif free b (d + 16) then ru _ _ else none) = _ from h)
          cases h9
          simp only [cond_true]
          rw [hb, hf]
          rfl
      · cases h
    · split at h
      · obtain ⟨_, h9⟩ := bif_some h
        cases h9
      · cases h
    · cases h

theorem wA_parts {H : Hints} {f : FuncId} {b : List (Blk E)} {t n ty d : Nat} {ps : Array (Nat × Operand)} {l : List (AV E)} {c : Bool} {a : AV E} (h : wA tt H f b (.buildSlice t n ps) ty d l = some (c, a, [])) (b' : List (Blk E)) : wA tt H f b' (.buildSlice t n ps) ty d l = some (c, a, []) := by
  rw [wA_bs] at h ⊢
  split at h
  · split at h
    · rename_i hxs
      cases ha : (H.asrow f).contains d with
      | true =>
        rw [ha] at h
        obtain ⟨_, h9⟩ := bif_some (show (bif free b (d + 16) then ru _ _ else none) = _ from h)
        cases h9
      | false =>
        rw [ha] at h
        exact h
    · cases h
  · cases h
theorem putM_ins {b : List (Blk E)} {t i : Nat} {x val a : AV E} {s : ByteArray} {v : Ty} {es2 : List (E.D .str × E.D v)} (h : putM tt b t x (.c (.string s)) val = some (true, a, [(i, .mp .str v es2)])) :
    ∃ (z : E.D v) (es : List (E.D .str × E.D v)), a = .undef ∧ es2 = insS (V := E.D v) s.data.toList z es ∧ blk b i = .mp .str v es ∧ (List.any (α := List UInt8 × E.D v) es fun p => p.1 == s.data.toList) = false ∧
      ∀ (b' : List (Blk E)) (es' : List (E.D .str × E.D v)), blk b' i = .mp .str v es' → (List.any (α := List UInt8 × E.D v) es' fun p => p.1 == s.data.toList) = false → putM tt b' t x (.c (.string s)) val = some (true, .undef, [(i, .mp .str v (insS (V := E.D v) s.data.toList z es'))]) := by
  unfold putM at h
  split at h
  · rename_i kt vt id k v' htd
    split at h
    · rename_i k1 v1 es hb
      obtain ⟨hc, h⟩ := bif_some h
      split at h
      · rename_i y z hy hz
        injection h with h
        injection h with hcE h
        injection h with ha hu
        injection hu with hu _
        injection hu with hi hB
        injection hB with e1 e2 e3
        subst hi e1 e2
        have e3 := eq_of_heq e3
        have hy' : some s.data.toList = some y := hy
        injection hy' with hy'
        subst hy'
        have hcE : (!(List.any (α := List UInt8 × E.D v1) es fun p => p.1 == s.data.toList)) = true := hcE
        refine ⟨z, es, ha.symm, e3.symm, hb, by simpa using hcE, ?_⟩
        intro b' es' hb' hany
        unfold putM
        simp only [htd, hb', hc, cond_true, hy, hz]
        have : (putE (E := E) (.c (.string s)) .str v1 s.data.toList z es') = (true, insS (V := E.D v1) s.data.toList z es') := by
          show (!(List.any (α := List UInt8 × E.D v1) es' fun p => p.1 == s.data.toList), insS (V := E.D v1) s.data.toList z es') = _
          rw [hany]
          rfl
        rw [this]
      · cases h
    · cases h
  · cases h
/-- A text's entry in a map: what its being set hangs on. -/
def KChar (F : St E → Option (Res E)) (ag : St E → Prop) (s : St E) (cl : Cl) (a : AV E) (u : Upd E) : Prop :=
  ∃ (i : Nat) (key : List UInt8) (v : Ty) (z : E.D v) (es : List (E.D .str × E.D v)), cl = .k i key ∧ a = .undef ∧ u = [(i, .mp .str v (insS (V := E.D v) key z es))] ∧ blk s.b i = .mp .str v es ∧ (List.any (α := List UInt8 × E.D v) es fun p => p.1 == key) = false ∧
    ∀ s', ag s' → ∀ es' : List (E.D .str × E.D v), blk s'.b i = .mp .str v es' → (List.any (α := List UInt8 × E.D v) es' fun p => p.1 == key) = false → F s' = some (.k i key, .undef, [(i, .mp .str v (insS (V := E.D v) key z es'))])
theorem step1_cl {call : CallF E} {f : FuncId} {s : St E} {o : Oper} {cl : Cl} {a : AV E} {u : Upd E} (h : step1 tt gl H call f s o = some (cl, a, u)) :
    (cl = .p ∧ u = [] ∧ ∀ s', Agree gl s s' o → step1 tt gl H call f s' o = some (.p, a, [])) ∨
    (∃ id, cl = .l id ∧ u = [] ∧ ∀ s', Agree gl s s' o → blk s'.b id = blk s.b id → step1 tt gl H call f s' o = some (.l id, a, [])) ∨
    (cl = .w (u.map (·.1)) ∧ ∀ s', Agree gl s s' o → s'.b = s.b → step1 tt gl H call f s' o = some (cl, a, u)) ∨
    (cl = .n (u.map (·.1)) ∧ ∀ s', Agree gl s s' o → (∀ i ∈ u.map (·.1), free s'.b i = free s.b i) → step1 tt gl H call f s' o = some (cl, a, u)) ∨
    KChar (fun s' => step1 tt gl H call f s' o) (fun s' => Agree gl s s' o) s cl a u := by
  have hw : ∀ s', Agree gl s s' o → s'.b = s.b → step1 tt gl H call f s' o = some (cl, a, u) := by
    intro s' ha hb
    rw [← h]
    unfold step1 stepK
    simp only [ha.ops, ha.len, hb]
  have h0 := h
  unfold step1 stepK at h
  simp only at h
  split at h
  · rename_i c hop
    split at h
    · rename_i bi hcal
      split at h
      · rename_i c0 a0 hp
        obtain ⟨hc, h9⟩ := bif_some h
        clear h
        cases h9
        subst hc
        refine .inl ⟨rfl, rfl, fun s' ha => ?_⟩
        unfold step1 stepK
        simp only [ha.ops]
        split
        · rename_i c' hop'
          rw [hop] at hop'
          cases hop'
          split
          · rename_i bi' hcal'
            rw [hp]
            rfl
          · rename_i hcal' _; rw [hcal] at hcal'; cases hcal'
          · rename_i hcal' _; rw [hcal] at hcal'; cases hcal'
          · rename_i hn _ _; exact absurd hcal (hn _)
        · rename_i hn; exact absurd hop (hn _)
      · split at h
        · rename_i c0 a0 u0 hp
          obtain ⟨hc, h9⟩ := bif_some h
          cases h9
          exact .inr (.inr (.inl ⟨rfl, hw⟩))
        · cases h
    · rename_i g x l hcal heq
      obtain ⟨hlen, h9⟩ := bif_some h
      clear h
      rcases call1_cl (show call1 tt H call s.b s.t.length g [] (H.rsh g) (c.argTypes.toList.zip l) (o.dst.getD 100000) = some (cl, a, u) from h9) with ⟨rfl, rfl, h2⟩ | ⟨id, rfl, rfl, h2⟩ | ⟨hcn, h2⟩ | rfl
      · refine .inl ⟨rfl, rfl, fun s' ha => ?_⟩
        have h3 := h2 s'.b
        unfold step1 stepK
        simp only [ha.ops, ha.len]
        split
        · rename_i c' hop'
          rw [hop] at hop'
          cases hop'
          split
          · rename_i hcal'; rw [hcal] at hcal'; cases hcal'
          · rename_i g' x' l' hcal' heq'
            rw [hcal] at hcal'
            cases hcal'
            rw [heq] at heq'
            cases heq'
            rw [hlen]
            exact h3
          · rename_i hn hcal' heq'
            rw [hcal] at hcal'
            cases hcal'
            exact (hn _ rfl).elim
          · rename_i hn _
            exact absurd heq (hn _ _ _ hcal)
        · rename_i hn; exact absurd hop (hn _)
      · refine .inr (.inl ⟨id, rfl, rfl, fun s' ha hb => ?_⟩)
        have h3 := h2 s'.b hb
        unfold step1 stepK
        simp only [ha.ops, ha.len]
        split
        · rename_i c' hop'
          rw [hop] at hop'
          cases hop'
          split
          · rename_i hcal'; rw [hcal] at hcal'; cases hcal'
          · rename_i g' x' l' hcal' heq'
            rw [hcal] at hcal'
            cases hcal'
            rw [heq] at heq'
            cases heq'
            rw [hlen]
            exact h3
          · rename_i hn hcal' heq'
            rw [hcal] at hcal'
            cases hcal'
            exact (hn _ rfl).elim
          · rename_i hn _
            exact absurd heq (hn _ _ _ hcal)
        · rename_i hn; exact absurd hop (hn _)
      · refine .inr (.inr (.inr (.inl ⟨hcn, fun s' ha hb => ?_⟩)))
        have h3 := h2 s'.b hb
        unfold step1 stepK
        simp only [ha.ops, ha.len]
        split
        · rename_i c' hop'
          rw [hop] at hop'
          cases hop'
          split
          · rename_i hcal'; rw [hcal] at hcal'; cases hcal'
          · rename_i g' x' l' hcal' heq'
            rw [hcal] at hcal'
            cases hcal'
            rw [heq] at heq'
            cases heq'
            rw [hlen]
            exact h3
          · rename_i hn hcal' heq'
            rw [hcal] at hcal'
            cases hcal'
            exact (hn _ rfl).elim
          · rename_i hn _
            exact absurd heq (hn _ _ _ hcal)
        · rename_i hn; exact absurd hop (hn _)
      · exact .inr (.inr (.inl ⟨rfl, hw⟩))
    · rename_i fo g cs l hnf hcal heq
      obtain ⟨hlen, h9⟩ := bif_some h
      clear h
      rcases call1_cl (H := { H with cons := fun _ => [], lend := fun _ => [] }) (show call1 tt { H with cons := fun _ => [], lend := fun _ => [] } call s.b s.t.length g cs (.t (tyOf tt o.type)) (c.argTypes.toList.zip l) (o.dst.getD 100000) = some (cl, a, u) from h9) with ⟨rfl, rfl, h2⟩ | ⟨id, rfl, rfl, h2⟩ | ⟨hcn, h2⟩ | rfl
      · refine .inl ⟨rfl, rfl, fun s' ha => ?_⟩
        have h3 := h2 s'.b
        unfold step1 stepK
        simp only [ha.ops, ha.len]
        split
        · rename_i c' hop'
          rw [hop] at hop'
          cases hop'
          split
          · rename_i hcal'; rw [hcal] at hcal'; cases hcal'
          · rename_i g' x' l' hcal' heq'
            rw [hcal] at hcal'
            cases hcal'
            exact (hnf _ rfl).elim
          · rename_i hn hcal' heq'
            rw [hcal] at hcal'
            cases hcal'
            rw [heq] at heq'
            cases heq'
            rw [hlen]
            exact h3
          · rename_i hn hn2
            exact (hn2 _ _ _ _ hcal heq).elim
        · rename_i hn; exact absurd hop (hn _)
      · refine .inr (.inl ⟨id, rfl, rfl, fun s' ha hb => ?_⟩)
        have h3 := h2 s'.b hb
        unfold step1 stepK
        simp only [ha.ops, ha.len]
        split
        · rename_i c' hop'
          rw [hop] at hop'
          cases hop'
          split
          · rename_i hcal'; rw [hcal] at hcal'; cases hcal'
          · rename_i g' x' l' hcal' heq'
            rw [hcal] at hcal'
            cases hcal'
            exact (hnf _ rfl).elim
          · rename_i hn hcal' heq'
            rw [hcal] at hcal'
            cases hcal'
            rw [heq] at heq'
            cases heq'
            rw [hlen]
            exact h3
          · rename_i hn hn2
            exact (hn2 _ _ _ _ hcal heq).elim
        · rename_i hn; exact absurd hop (hn _)
      · refine .inr (.inr (.inr (.inl ⟨hcn, fun s' ha hb => ?_⟩)))
        have h3 := h2 s'.b hb
        unfold step1 stepK
        simp only [ha.ops, ha.len]
        split
        · rename_i c' hop'
          rw [hop] at hop'
          cases hop'
          split
          · rename_i hcal'; rw [hcal] at hcal'; cases hcal'
          · rename_i g' x' l' hcal' heq'
            rw [hcal] at hcal'
            cases hcal'
            exact (hnf _ rfl).elim
          · rename_i hn hcal' heq'
            rw [hcal] at hcal'
            cases hcal'
            rw [heq] at heq'
            cases heq'
            rw [hlen]
            exact h3
          · rename_i hn hn2
            exact (hn2 _ _ _ _ hcal heq).elim
        · rename_i hn; exact absurd hop (hn _)
      · exact .inr (.inr (.inl ⟨rfl, hw⟩))
    · cases h
  · rename_i hnc
    split at h
    · rename_i c0 a0 hp
      obtain ⟨hc, h9⟩ := bif_some h
      clear h
      cases h9
      subst hc
      refine .inl ⟨rfl, rfl, fun s' ha => ?_⟩
      unfold step1 stepK
      simp only [ha.ops]
      split
      · rename_i heq
        rw [hp] at heq
        cases heq
        rfl
      · rename_i heq
        rw [hp] at heq
        cases heq
    · rename_i hp
      split at h
      · rename_i t y x hop heq
        split at h
        · rename_i id hid
          split at h
          · rename_i c0 a0 hlk
            obtain ⟨hc, h9⟩ := bif_some h
            clear h
            cases h9
            subst hc
            refine .inr (.inl ⟨id, rfl, rfl, fun s' ha hb => ?_⟩)
            unfold step1 stepK
            simp only [ha.ops]
            split
            · rename_i heq0
              rw [hp] at heq0
              cases heq0
            · split
              · rename_i t' y' x' hop' heq'
                rw [hop] at hop'
                cases hop'
                rw [heq] at heq'
                cases heq'
                rw [hid]
                simp only [hb]
                rw [hlk]
                rfl
              · rename_i hn
                exact (hn _ _ _ hop heq).elim
          · cases h
        · cases h
      · split at h
        · rename_i hnl c0 a0 u0 hp2
          obtain ⟨hc, h9⟩ := bif_some h
          cases h9
          by_cases hbs : (∃ t n ps, o.op = .buildSlice t n ps) ∧ u = []
          · obtain ⟨⟨t, n, ps, hop⟩, rfl⟩ := hbs
            have hcl : wCl (E := E) o.op [] = .p := by rw [hop]; rfl
            rw [hcl]
            refine .inl ⟨rfl, rfl, fun s' ha => ?_⟩
            subst hc
            have hkey : wA tt H f s'.b o.op o.type (o.dst.getD 100000) (List.map (evo gl s.t) o.op.operands.toList) = some (true, a, []) := by
              rw [hop] at hp2 ⊢
              exact wA_parts hp2 s'.b
            unfold step1 stepK
            simp only [ha.ops]
            split
            · rename_i heq0
              rw [hp] at heq0
              cases heq0
            · split
              · rename_i heq'
                rw [hkey] at heq'
                cases heq'
                rw [hop]
                rfl
              · rename_i heq'
                rw [hkey] at heq'
                cases heq'
          · by_cases hcv : ∃ src dst y i e xs, o.op = .convert src dst y ∧ u = [(i, Blk.row e xs)]
            · obtain ⟨src, dst, y, i, e, xs, hop, rfl⟩ := hcv
              have hcl : wCl (E := E) o.op [(i, Blk.row e xs)] = .n [i] := by rw [hop]; rfl
              rw [hcl]
              refine .inr (.inr (.inr (.inl ⟨rfl, fun s' ha hfr => ?_⟩)))
              subst hc
              have hkey : wA tt H f s'.b o.op o.type (o.dst.getD 100000) (List.map (evo gl s.t) o.op.operands.toList) = some (true, a, [(i, Blk.row e xs)]) := by
                rw [hop] at hp2 ⊢
                exact wA_conv hp2 s'.b (hfr i (by simp))
              unfold step1 stepK
              simp only [ha.ops]
              split
              · rename_i heq0
                rw [hp] at heq0
                cases heq0
              · split
                · rename_i heq'
                  rw [hkey] at heq'
                  cases heq'
                  rw [hop]
                  rfl
                · rename_i heq'
                  rw [hkey] at heq'
                  cases heq'
            · by_cases hin : ∃ t y w z i v es, o.op = .insert t y (.const (.string w)) z ∧ u = [(i, Blk.mp .str v es)]
              · obtain ⟨t, y, w, z, i, v, es, hop, rfl⟩ := hin
                have hcl : wCl (E := E) o.op [(i, Blk.mp .str v es)] = .k i w.data.toList := by rw [hop]; rfl
                rw [hcl]
                subst hc
                have hq : putM tt s.b t (evo gl s.t y) (.c (.string w)) (evo gl s.t z) = some (true, a, [(i, .mp .str v es)]) := by
                  rw [hop] at hp2
                  exact hp2
                obtain ⟨z', es0, k1, k2, k3, k4, k5⟩ := putM_ins hq
                subst k1 k2
                refine .inr (.inr (.inr (.inr ⟨i, w.data.toList, v, z', es0, rfl, rfl, rfl, k3, k4, fun s' ha es' hb' hany => ?_⟩)))
                have hkey : wA tt H f s'.b o.op o.type (o.dst.getD 100000) (List.map (evo gl s.t) o.op.operands.toList) = some (true, .undef, [(i, .mp .str v (insS (V := E.D v) w.data.toList z' es'))]) := by
                  rw [hop]
                  exact k5 s'.b es' hb' hany
                show step1 tt gl H call f s' o = _
                unfold step1 stepK
                simp only [ha.ops]
                split
                · rename_i heq0
                  rw [hp] at heq0
                  cases heq0
                · split
                  · rename_i heq'
                    rw [hkey] at heq'
                    cases heq'
                    rw [hop]
                    rfl
                  · rename_i heq'
                    rw [hkey] at heq'
                    cases heq'
              have hcl : wCl o.op u = .w (u.map (·.1)) := by
                unfold wCl
                split
                · rename_i t n ps hop
                  exact absurd ⟨⟨t, n, ps, hop⟩, rfl⟩ hbs
                · rename_i src dst y i e xs hop
                  exact absurd ⟨src, dst, y, i, e, xs, hop, rfl⟩ hcv
                · rename_i t y w z i v es hop
                  exact absurd ⟨t, y, w, z, i, v, es, hop, rfl⟩ hin
                · rfl
              rw [hcl] at hw ⊢
              exact .inr (.inr (.inl ⟨rfl, hw⟩))
        · cases h

end Go.Proofs.YtoegcppcmgbkmaaGreatDoor.Fv

/-! Operations that change places. -/
namespace Go.Proofs.YtoegcppcmgbkmaaGreatDoor.Fv
variable [Quiet]
variable {E : Env} {P : Program} {tt : Nat → Option TE} {gl : Nat → AV E} {H : Hints} {M M' : Mem} {μ μ' : Mu} {b b' : List (Blk E)} {w w' : World}

structure AgreeG (gl : Nat → AV E) (all : List Oper) (s s' : St E) (o : Oper) : Prop where
  ag : Agree gl s s' o
  guard : ∀ j want d, o.guard = some (j, want) → dstOf all j = some d → s'.t.getD d .undef = s.t.getD d .undef

/-- What an operation's outcome hangs on. -/
def Hangs (F : St E → Option (Res E)) (ag : St E → Prop) (s : St E) (cl : Cl) (a : AV E) (u : Upd E) : Prop :=
  (cl = .p ∧ u = [] ∧ ∀ s', ag s' → F s' = some (.p, a, [])) ∨ (∃ id, cl = .l id ∧ u = [] ∧ ∀ s', ag s' → blk s'.b id = blk s.b id → F s' = some (.l id, a, [])) ∨ (cl = .w (u.map (·.1)) ∧ ∀ s', ag s' → s'.b = s.b → F s' = some (cl, a, u)) ∨ (cl = .n (u.map (·.1)) ∧ ∀ s', ag s' → (∀ i ∈ u.map (·.1), free s'.b i = free s.b i) → F s' = some (cl, a, u)) ∨ KChar F ag s cl a u
theorem act1_cl {call : CallF E} {f : FuncId} {all : List Oper} {s : St E} {o : Oper} {cl : Cl} {a : AV E} {u : Upd E} (h : act1 tt gl H call f all s o = some (cl, a, u)) :
    Hangs (fun s' => act1 tt gl H call f all s' o) (fun s' => AgreeG gl all s s' o) s cl a u := by
  have core : ∀ (k : ∀ s', AgreeG gl all s s' o → act1 tt gl H call f all s' o = step1 tt gl H call f s' o), step1 tt gl H call f s o = some (cl, a, u) → Hangs (fun s' => act1 tt gl H call f all s' o) (fun s' => AgreeG gl all s s' o) s cl a u := fun k h1 => by
    rcases step1_cl h1 with ⟨h2, h3, h4⟩ | ⟨id, h2, h3, h4⟩ | ⟨h2, h4⟩ | ⟨h2, h4⟩ | ⟨i, key, v, z, es, e1, e2, e3, e4, e5, e6⟩
    · exact Or.inl ⟨h2, h3, fun s' ha => (k s' ha).trans (h4 s' ha.ag)⟩
    · exact Or.inr (.inl ⟨id, h2, h3, fun s' ha hb => (k s' ha).trans (h4 s' ha.ag hb)⟩)
    · exact Or.inr (.inr (.inl ⟨h2, fun s' ha hb => (k s' ha).trans (h4 s' ha.ag hb)⟩))
    · exact Or.inr (.inr (.inr (.inl ⟨h2, fun s' ha hb => (k s' ha).trans (h4 s' ha.ag hb)⟩)))
    · exact Or.inr (.inr (.inr (.inr ⟨i, key, v, z, es, e1, e2, e3, e4, e5, fun s' ha es' hb hn => (k s' ha).trans (e6 s' ha.ag es' hb hn)⟩)))
  unfold act1 at h
  cases hg : o.guard with
  | none =>
    rw [hg] at h
    exact core (fun s' _ => by unfold act1; rw [hg]) h
  | some g =>
    obtain ⟨j, want⟩ := g
    rw [hg] at h
    simp only at h
    cases hd : dstOf all j with
    | none => rw [hd] at h; cases h
    | some d =>
      rw [hd] at h
      simp only at h
      split at h
      · rename_i bb hb
        cases hbw : eqb bb want with
        | true =>
          rw [hbw] at h
          exact core (fun s' ha => by
            unfold act1
            rw [hg]
            simp only
            rw [hd]
            simp only
            rw [ha.guard j want d hg hd, hb]
            simp only
            rw [hbw]
            rfl) h
        | false =>
          rw [hbw] at h
          cases h
          refine .inl ⟨rfl, rfl, fun s' ha => ?_⟩
          show act1 tt gl H call f all s' o = _
          unfold act1
          rw [hg]
          simp only
          rw [hd]
          simp only
          rw [ha.guard j want d hg hd, hb]
          simp only
          rw [hbw]
          rfl
      · rename_i vv hb
        cases hnb : noB vv with
        | false => rw [hnb] at h; cases h
        | true =>
          rw [hnb] at h
          cases h
          refine .inl ⟨rfl, rfl, fun s' ha => ?_⟩
          show act1 tt gl H call f all s' o = _
          unfold act1
          rw [hg]
          simp only
          rw [hd]
          simp only
          rw [ha.guard j want d hg hd, hb]
          simp only
          rw [hnb]
          rfl
      · cases h
end Go.Proofs.YtoegcppcmgbkmaaGreatDoor.Fv

/-! Two operations that change places. -/
namespace Go.Proofs.YtoegcppcmgbkmaaGreatDoor.Fv
variable [Quiet]
variable {E : Env} {P : Program} {tt : Nat → Option TE} {gl : Nat → AV E} {H : Hints} {M M' : Mem} {μ μ' : Mu} {b b' : List (Blk E)} {w w' : World}

theorem AgreeG.symm {all : List Oper} {s s' : St E} {o : Oper} (h : AgreeG gl all s s' o) : AgreeG gl all s' s o :=
  ⟨⟨h.ag.len.symm, h.ag.ops.symm⟩, fun j want d h1 h2 => (h.guard j want d h1 h2).symm⟩
theorem did_agree {all : List Oper} {s : St E} {d : Option Nat} {a : AV E} {u : Upd E} {y : Oper} (h : ∀ d', d = some d' → d' ∉ opUses all y) : AgreeG gl all s (s.did d a u) y := by
  have hget : ∀ i, i ∈ opUses all y → (s.did d a u).t.getD i .undef = s.t.getD i .undef := by
    intro i hi
    cases d with
    | none => rfl
    | some d' =>
      have : d' ≠ i := fun e => h d' rfl (e ▸ hi)
      show (s.t.set d' a).getD i .undef = _
      simp only [List.getD_eq_getElem?_getD, List.getElem?_set_ne this]
  refine ⟨⟨?_, ?_⟩, fun j want d' h1 h2 => ?_⟩
  · cases d with
    | none => rfl
    | some d' => show (s.t.set d' a).length = _; simp
  · refine List.map_congr_left fun x hx => ?_
    cases x with
    | tmp t =>
      refine hget t ?_
      unfold opUses
      exact List.mem_append_right _ (List.mem_filterMap.2 ⟨.tmp t, hx, rfl⟩)
    | _ => rfl
  · refine hget d' ?_
    unfold opUses
    refine List.mem_append_left _ ?_
    rw [h1]
    simp only
    rw [show (all[j]?).bind (·.dst) = some d' from h2]
    simp

theorem apart_spec {all : List Oper} {x y : Oper} (h : apart all x y = true) : (∀ d, x.dst = some d → d ∉ opUses all y) ∧ (∀ d, y.dst = some d → d ∉ opUses all x) ∧ ∀ d, x.dst = some d → y.dst ≠ some d := by
  unfold apart at h
  rw [Bool.and_eq_true] at h
  obtain ⟨h1, h2⟩ := h
  refine ⟨fun d hd => ?_, fun d hd => ?_, fun d hd => ?_⟩
  · rw [hd] at h1
    simp at h1
    exact h1.2
  · rw [hd] at h2
    simp at h2
    exact h2
  · rw [hd] at h1
    simp at h1
    exact h1.1

theorem upds_comm : ∀ (u v : Upd E) (b : List (Blk E)), (∀ p ∈ u, ∀ q ∈ v, p.1 ≠ q.1) → upds (upds b u) v = upds (upds b v) u
  | [], v, b, _ => rfl
  | (i, x) :: u, v, b, h => by
    have key : ∀ (v : Upd E) (b : List (Blk E)), (∀ q ∈ v, i ≠ q.1) → upds (b.set i x) v = (upds b v).set i x := by
      intro v
      induction v with
      | nil => intro b _; rfl
      | cons q v ih =>
        intro b hq
        obtain ⟨j, y⟩ := q
        show upds ((b.set i x).set j y) v = (upds (b.set j y) v).set i x
        rw [List.set_comm _ _ (hq (j, y) (by simp)), ih _ fun q h => hq q (by simp [h])]
    show upds (upds (b.set i x) u) v = upds ((upds b v).set i x) u
    rw [upds_comm u v (b.set i x) fun p hp q hq => h p (by simp [hp]) q hq, key v b fun q hq => h (i, x) (by simp) q hq]
theorem upds_get {i : Nat} : ∀ (u : Upd E) (b : List (Blk E)), (∀ p ∈ u, p.1 ≠ i) → (upds b u)[i]? = b[i]?
  | [], _, _ => rfl
  | (j, x) :: u, b, h => by
    show (upds (b.set j x) u)[i]? = _
    rw [upds_get u _ fun p hp => h p (by simp [hp]), List.getElem?_set_ne (h (j, x) (by simp))]
theorem free_upds {u : Upd E} {b : List (Blk E)} {i : Nat} (h : ∀ p ∈ u, p.1 ≠ i) : free (upds b u) i = free b i := by
  unfold free
  rw [upds_get u b h]
/-! ### Keys in their order -/
theorem bl_irr : ∀ a : List UInt8, bytesLess a a = false
  | [] => rfl
  | x :: a => by
    have h : ¬ x < x := UInt8.lt_irrefl x
    simp [bytesLess, h, bl_irr a]
theorem bl_tri : ∀ a b : List UInt8, a ≠ b → bytesLess a b = false → bytesLess b a = true
  | [], [], h, _ => absurd rfl h
  | [], _ :: _, _, h => by simp [bytesLess] at h
  | _ :: _, [], _, _ => rfl
  | x :: a, y :: b, h, h1 => by
    simp only [bytesLess, Bool.or_eq_false_iff, Bool.and_eq_false_iff, decide_eq_false_iff_not, beq_eq_false_iff_ne] at h1
    simp only [bytesLess, Bool.or_eq_true, Bool.and_eq_true, decide_eq_true_eq, beq_iff_eq]
    by_cases hxy : x = y
    · subst hxy
      right
      refine ⟨rfl, bl_tri a b (fun e => h (by rw [e])) ?_⟩
      rcases h1.2 with h2 | h2
      · exact absurd rfl h2
      · exact h2
    · left
      have h3 := h1.1
      have h4 : x.toNat ≠ y.toNat := fun e => hxy (UInt8.toNat_inj.1 e)
      rw [UInt8.lt_iff_toNat_lt] at h3 ⊢
      omega
theorem bl_trans : ∀ a b c : List UInt8, bytesLess a b = true → bytesLess b c = true → bytesLess a c = true
  | _, [], _, h, _ => by simp [bytesLess] at h
  | _, _ :: _, [], _, h => by simp [bytesLess] at h
  | [], _ :: _, _ :: _, _, _ => rfl
  | x :: a, y :: b, z :: c, h1, h2 => by
    simp only [bytesLess, Bool.or_eq_true, Bool.and_eq_true, decide_eq_true_eq, beq_iff_eq] at h1 h2 ⊢
    rcases h1 with h1 | ⟨rfl, h1⟩
    · rcases h2 with h2 | ⟨rfl, h2⟩
      · left
        rw [UInt8.lt_iff_toNat_lt] at *
        omega
      · exact .inl h1
    · rcases h2 with h2 | ⟨rfl, h2⟩
      · exact .inl h2
      · exact .inr ⟨rfl, bl_trans a b c h1 h2⟩
theorem bl_asym {a b : List UInt8} (h : bytesLess a b = true) : bytesLess b a = false := by
  cases h2 : bytesLess b a with
  | false => rfl
  | true =>
    have := bl_trans a b a h h2
    rw [bl_irr] at this
    cases this
theorem ins_comm {V : Type} {y1 y2 : List UInt8} (hne : y1 ≠ y2) (z1 z2 : V) : ∀ es : List (List UInt8 × V), insS y1 z1 (insS y2 z2 es) = insS y2 z2 (insS y1 z1 es)
  | [] => by
    cases h : bytesLess y1 y2 with
    | true => simp [insS, h, bl_asym h]
    | false => simp [insS, h, bl_tri _ _ hne h]
  | p :: r => by
    cases h1 : bytesLess y1 p.1 with
    | true =>
      cases h2 : bytesLess y2 p.1 with
      | true =>
        cases h : bytesLess y1 y2 with
        | true => simp [insS, h1, h2, h, bl_asym h]
        | false => simp [insS, h1, h2, h, bl_tri _ _ hne h]
      | false =>
        have h : bytesLess y2 y1 = false := by
          cases h : bytesLess y2 y1 with
          | false => rfl
          | true => rw [bl_trans _ _ _ h h1] at h2; cases h2
        simp [insS, h1, h2, h]
    | false =>
      cases h2 : bytesLess y2 p.1 with
      | true =>
        have h : bytesLess y1 y2 = false := by
          cases h : bytesLess y1 y2 with
          | false => rfl
          | true => rw [bl_trans _ _ _ h h2] at h1; cases h1
        simp [insS, h1, h2, h]
      | false => simp [insS, h1, h2, ins_comm hne z1 z2 r]
theorem any_ins {V : Type} (y : List UInt8) (z : V) (x : List UInt8) : ∀ es : List (List UInt8 × V), (List.any (insS y z es) fun p => p.1 == x) = ((y == x) || List.any es fun p => p.1 == x)
  | [] => by simp [insS]
  | p :: r => by
    cases h : bytesLess y p.1 with
    | true => simp [insS, h]
    | false =>
      simp only [insS, h, cond_false, List.any_cons, any_ins y z x r]
      cases (y == x) <;> cases (p.1 == x) <;> rfl
/-- .. but no text's entry. -/
def Hangs0 (F : St E → Option (Res E)) (ag : St E → Prop) (s : St E) (cl : Cl) (a : AV E) (u : Upd E) : Prop :=
  (cl = .p ∧ u = [] ∧ ∀ s', ag s' → F s' = some (.p, a, [])) ∨ (∃ id, cl = .l id ∧ u = [] ∧ ∀ s', ag s' → blk s'.b id = blk s.b id → F s' = some (.l id, a, [])) ∨ (cl = .w (u.map (·.1)) ∧ ∀ s', ag s' → s'.b = s.b → F s' = some (cl, a, u)) ∨ (cl = .n (u.map (·.1)) ∧ ∀ s', ag s' → (∀ i ∈ u.map (·.1), free s'.b i = free s.b i) → F s' = some (cl, a, u))
theorem Hangs.no {F : St E → Option (Res E)} {ag : St E → Prop} {s : St E} {cl : Cl} {a : AV E} {u : Upd E} (h : Hangs F ag s cl a u) (hk : ∀ i k, cl ≠ .k i k) : Hangs0 F ag s cl a u := by
  rcases h with h | h | h | h | ⟨i, k, _, _, _, e, _⟩
  · exact .inl h
  · exact .inr (.inl h)
  · exact .inr (.inr (.inl h))
  · exact .inr (.inr (.inr h))
  · exact absurd e (hk i k)
theorem swap_step0 {call : CallF E} {f : FuncId} {all : List Oper} {s : St E} {x y : Oper} {clx cly : Cl} {ax ay : AV E} {ux uy : Upd E} (hkx : ∀ i k, clx ≠ .k i k) (hky : ∀ i k, cly ≠ .k i k) (hap : apart all x y = true) (hcl : clash clx cly = false)
    (hx : act1 tt gl H call f all s x = some (clx, ax, ux)) (hy : act1 tt gl H call f all (s.did x.dst ax ux) y = some (cly, ay, uy)) :
    act1 tt gl H call f all s y = some (cly, ay, uy) ∧ act1 tt gl H call f all (s.did y.dst ay uy) x = some (clx, ax, ux) ∧ (s.did x.dst ax ux).did y.dst ay uy = (s.did y.dst ay uy).did x.dst ax ux := by
  obtain ⟨p1, p2, p3⟩ := apart_spec hap
  have ay1 : AgreeG gl all (s.did x.dst ax ux) s y := (did_agree (gl := gl) (a := ax) (u := ux) (s := s) p1).symm
  have ax1 : AgreeG gl all s (s.did y.dst ay uy) x := did_agree (gl := gl) (a := ay) (u := uy) (s := s) p2
  have hX := Hangs.no (act1_cl hx) hkx
  have hY := Hangs.no (act1_cl hy) hky
  have ht : (s.did x.dst ax ux).t = setD s.t x.dst ax := rfl
  have hset : setD (setD s.t x.dst ax) y.dst ay = setD (setD s.t y.dst ay) x.dst ax := by
    cases hdx : x.dst with
    | none => rfl
    | some dx =>
      cases hdy : y.dst with
      | none => rfl
      | some dy =>
        have : dx ≠ dy := fun e => p3 dx hdx (by rw [hdy, e])
        exact List.set_comm _ _ this
  -- which of the two turns blocks
  have fin : ux = [] ∨ uy = [] → (s.did x.dst ax ux).did y.dst ay uy = (s.did y.dst ay uy).did x.dst ax ux := by
    intro h
    unfold St.did
    simp only [hset]
    rcases h with rfl | rfl <;> rfl
  rcases hX with ⟨rfl, rfl, hX⟩ | ⟨ix, rfl, rfl, hX⟩ | ⟨rfl, hX⟩ | ⟨rfl, hX⟩
  · have hY' : act1 tt gl H call f all s y = some (cly, ay, uy) := by
      rcases hY with ⟨rfl, rfl, hY⟩ | ⟨iy, rfl, rfl, hY⟩ | ⟨rfl, hY⟩ | ⟨rfl, hY⟩
      · exact hY s ay1
      · exact hY s ay1 rfl
      · exact hY s ay1 rfl
      · exact hY s ay1 fun _ _ => rfl
    exact ⟨hY', hX _ ax1, fin (.inl rfl)⟩
  · have hY' : act1 tt gl H call f all s y = some (cly, ay, uy) := by
      rcases hY with ⟨rfl, rfl, hY⟩ | ⟨iy, rfl, rfl, hY⟩ | ⟨rfl, hY⟩ | ⟨rfl, hY⟩
      · exact hY s ay1
      · exact hY s ay1 rfl
      · exact hY s ay1 rfl
      · exact hY s ay1 fun _ _ => rfl
    refine ⟨hY', hX _ ax1 ?_, fin (.inl rfl)⟩
    rcases hY with ⟨rfl, rfl, hY⟩ | ⟨iy, rfl, rfl, hY⟩ | ⟨rfl, hY⟩ | ⟨rfl, hY⟩
    · rfl
    · rfl
    · show blk (upds s.b uy) ix = blk s.b ix
      refine upds_out _ _ _ fun p hp he => ?_
      have : (uy.map (·.1)).contains ix = false := hcl
      simp only [List.contains_eq_mem, decide_eq_false_iff_not, List.mem_map, not_exists, not_and] at this
      exact this p hp he
    · show blk (upds s.b uy) ix = blk s.b ix
      refine upds_out _ _ _ fun p hp he => ?_
      have : (uy.map (·.1)).contains ix = false := hcl
      simp only [List.contains_eq_mem, decide_eq_false_iff_not, List.mem_map, not_exists, not_and] at this
      exact this p hp he
  · rcases hY with ⟨rfl, rfl, hY⟩ | ⟨iy, rfl, rfl, hY⟩ | ⟨rfl, hY⟩ | ⟨rfl, hY⟩
    · exact ⟨hY s ay1, hX _ ax1 rfl, fin (.inr rfl)⟩
    · refine ⟨hY s ay1 ?_, hX _ ax1 rfl, fin (.inr rfl)⟩
      show blk s.b iy = blk (upds s.b ux) iy
      refine (upds_out _ _ _ fun p hp he => ?_).symm
      have : (ux.map (·.1)).contains iy = false := hcl
      simp only [List.contains_eq_mem, decide_eq_false_iff_not, List.mem_map, not_exists, not_and] at this
      exact this p hp he
    · cases hcl
    · cases hcl
  · rcases hY with ⟨rfl, rfl, hY⟩ | ⟨iy, rfl, rfl, hY⟩ | ⟨rfl, hY⟩ | ⟨rfl, hY⟩
    · exact ⟨hY s ay1, hX _ ax1 fun _ _ => rfl, fin (.inr rfl)⟩
    · refine ⟨hY s ay1 ?_, hX _ ax1 fun _ _ => rfl, fin (.inr rfl)⟩
      show blk s.b iy = blk (upds s.b ux) iy
      refine (upds_out _ _ _ fun p hp he => ?_).symm
      have : (ux.map (·.1)).contains iy = false := hcl
      simp only [List.contains_eq_mem, decide_eq_false_iff_not, List.mem_map, not_exists, not_and] at this
      exact this p hp he
    · cases hcl
    · have hd : ∀ p ∈ ux, ∀ q ∈ uy, p.1 ≠ q.1 := by
        intro p hp q hq he
        have hcl : ((ux.map (·.1)).any fun i => (uy.map (·.1)).contains i) = false := hcl
        have h2 := List.any_eq_false.1 hcl p.1 (List.mem_map.2 ⟨p, hp, rfl⟩)
        exact h2 (by rw [List.contains_eq_mem]; exact decide_eq_true (List.mem_map.2 ⟨q, hq, he.symm⟩))
      refine ⟨hY s ay1 fun i hi => ?_, hX _ ax1 fun i hi => ?_, ?_⟩
      · obtain ⟨q, hq, rfl⟩ := List.mem_map.1 hi
        show free s.b q.1 = free (upds s.b ux) q.1
        exact (free_upds fun p hp => hd p hp q hq).symm
      · obtain ⟨p, hp, rfl⟩ := List.mem_map.1 hi
        show free (upds s.b uy) p.1 = free s.b p.1
        exact free_upds fun q hq => fun e => hd p hp q hq e.symm
      · unfold St.did
        simp only [hset]
        rw [upds_comm ux uy s.b hd]
theorem swap_step {call : CallF E} {f : FuncId} {all : List Oper} {s : St E} {x y : Oper} {clx cly : Cl} {ax ay : AV E} {ux uy : Upd E} (hap : apart all x y = true) (hcl : clash clx cly = false)
    (hx : act1 tt gl H call f all s x = some (clx, ax, ux)) (hy : act1 tt gl H call f all (s.did x.dst ax ux) y = some (cly, ay, uy)) :
    ∃ ux' uy', act1 tt gl H call f all s y = some (cly, ay, uy') ∧ act1 tt gl H call f all (s.did y.dst ay uy') x = some (clx, ax, ux') ∧ (s.did x.dst ax ux).did y.dst ay uy = (s.did y.dst ay uy').did x.dst ax ux' := by
  obtain ⟨p1, p2, p3⟩ := apart_spec hap
  have ay1 : AgreeG gl all (s.did x.dst ax ux) s y := (did_agree (gl := gl) (a := ax) (u := ux) (s := s) p1).symm
  have ax1 : ∀ u, AgreeG gl all s (s.did y.dst ay u) x := fun u => did_agree (gl := gl) (a := ay) (u := u) (s := s) p2
  have hX := act1_cl hx
  have hY := act1_cl hy
  have hset : setD (setD s.t x.dst ax) y.dst ay = setD (setD s.t y.dst ay) x.dst ax := by
    cases hdx : x.dst with
    | none => rfl
    | some dx =>
      cases hdy : y.dst with
      | none => rfl
      | some dy =>
        have : dx ≠ dy := fun e => p3 dx hdx (by rw [hdy, e])
        exact List.set_comm _ _ this
  have both : ∀ u1 u2 u3 u4 : Upd E, upds (upds s.b u1) u2 = upds (upds s.b u3) u4 → (s.did x.dst ax u1).did y.dst ay u2 = (s.did y.dst ay u3).did x.dst ax u4 := by
    intro u1 u2 u3 u4 h
    unfold St.did
    simp only [hset, h]
  have out1 : ∀ (i j : Nat) (B : Blk E), i ≠ j → blk (upds s.b [(i, B)]) j = blk s.b j := fun i j B h => upds_out _ _ _ fun p hp he => by
    rw [List.mem_singleton.1 hp] at he
    exact h he
  by_cases hkx : ∃ i k, clx = .k i k
  · rcases hX with ⟨rfl, _⟩ | ⟨_, rfl, _⟩ | ⟨rfl, _⟩ | ⟨rfl, _⟩ | ⟨i, a, v, z, es, rfl, rfl, rfl, hb, hany, hX⟩
    · obtain ⟨_, _, e⟩ := hkx; cases e
    · obtain ⟨_, _, e⟩ := hkx; cases e
    · obtain ⟨_, _, e⟩ := hkx; cases e
    · obtain ⟨_, _, e⟩ := hkx; cases e
    have hil : i < s.b.length := blk_lt (by rw [hb]; simp)
    rcases hY with ⟨rfl, rfl, hY⟩ | ⟨iy, rfl, rfl, hY⟩ | ⟨rfl, hY⟩ | ⟨rfl, hY⟩ | ⟨j, c, v2, z2, es2, rfl, rfl, rfl, hb2, hany2, hY⟩
    · exact ⟨_, [], hY s ay1, hX _ (ax1 []) es hb hany, both _ _ _ _ rfl⟩
    · have hne : i ≠ iy := by
        have : (i == iy) = false := hcl
        exact beq_eq_false_iff_ne.1 this
      exact ⟨_, [], hY s ay1 (out1 i iy _ hne).symm, hX _ (ax1 []) es hb hany, both _ _ _ _ rfl⟩
    · cases hcl
    · cases hcl
    · by_cases hij : i = j
      · subst hij
        have hac : a ≠ c := by
          intro e
          subst e
          have : (i == i && a == a) = false := hcl
          simp at this
        have hbb : blk (upds s.b [(i, .mp .str v (insS (V := E.D v) a z es))]) i = .mp .str v (insS (V := E.D v) a z es) := blk_set_self hil _
        have hb2 : blk (upds s.b [(i, .mp .str v (insS (V := E.D v) a z es))]) i = .mp .str v2 es2 := hb2
        rw [hbb] at hb2
        injection hb2 with _ e1 e2
        subst e1
        have e2 := eq_of_heq e2
        subst e2
        have hany2 : (List.any (insS (V := E.D v) a z es) fun p => p.1 == c) = false := hany2
        have hany2 := Bool.or_eq_false_iff.1 ((any_ins (V := E.D v) a z c es).symm.trans hany2)
        have h3 : (List.any (insS (V := E.D v) c z2 es) fun p => p.1 == a) = false := (any_ins (V := E.D v) c z2 a es).trans (Bool.or_eq_false_iff.2 ⟨beq_eq_false_iff_ne.2 fun e => hac e.symm, hany⟩)
        refine ⟨_, _, hY s ay1 es hb hany2.2, hX _ (ax1 _) (insS (V := E.D v) c z2 es) (blk_set_self hil _) h3, both _ _ _ _ ?_⟩
        show (s.b.set i _).set i _ = (s.b.set i _).set i _
        rw [List.set_set, List.set_set]
        exact congrArg (fun l => s.b.set i (.mp .str v l)) (ins_comm (V := E.D v) hac z z2 es).symm
      · have hb3 : blk s.b j = .mp .str v2 es2 := (out1 i j _ hij).symm.trans hb2
        refine ⟨_, _, hY s ay1 es2 hb3 hany2, hX _ (ax1 _) es ((out1 j i _ fun e => hij e.symm).trans hb) hany, both _ _ _ _ (upds_comm _ _ _ fun p hp q hq => ?_)⟩
        rw [List.mem_singleton.1 hp, List.mem_singleton.1 hq]
        exact hij
  · by_cases hky : ∃ i k, cly = .k i k
    · rcases hY with ⟨rfl, _⟩ | ⟨_, rfl, _⟩ | ⟨rfl, _⟩ | ⟨rfl, _⟩ | ⟨j, c, v2, z2, es2, rfl, rfl, rfl, hb2, hany2, hY⟩
      · obtain ⟨_, _, e⟩ := hky; cases e
      · obtain ⟨_, _, e⟩ := hky; cases e
      · obtain ⟨_, _, e⟩ := hky; cases e
      · obtain ⟨_, _, e⟩ := hky; cases e
      rcases hX with ⟨rfl, rfl, hX⟩ | ⟨ix, rfl, rfl, hX⟩ | ⟨rfl, hX⟩ | ⟨rfl, hX⟩ | ⟨i, a, _, _, _, e, _⟩
      · exact ⟨[], _, hY s ay1 es2 hb2 hany2, hX _ (ax1 _), both _ _ _ _ rfl⟩
      · have hne : j ≠ ix := by
          have : (j == ix) = false := hcl
          exact beq_eq_false_iff_ne.1 this
        exact ⟨[], _, hY s ay1 es2 hb2 hany2, hX _ (ax1 _) (out1 j ix _ hne), both _ _ _ _ rfl⟩
      · cases hcl
      · cases hcl
      · exact absurd ⟨i, a, e⟩ hkx
    · exact ⟨ux, uy, swap_step0 (fun i k e => hkx ⟨i, k, e⟩) (fun i k e => hky ⟨i, k, e⟩) hap hcl hx hy⟩
end Go.Proofs.YtoegcppcmgbkmaaGreatDoor.Fv

/-! A drawn region's operations in whatever order. -/
namespace Go.Proofs.YtoegcppcmgbkmaaGreatDoor.Fv
variable [Quiet]
variable {E : Env} {P : Program} {tt : Nat → Option TE} {gl : Nat → AV E} {H : Hints} {M M' : Mem} {μ μ' : Mu} {b b' : List (Blk E)} {w w' : World}

/-- Operations by their numbers, each of its class. -/
inductive RunC (tt : Nat → Option TE) (gl : Nat → AV E) (H : Hints) (call : CallF E) (f : FuncId) (all : List Oper) (cls : Nat → Cl) : List Nat → St E → St E → Prop
  | nil (s : St E) : RunC tt gl H call f all cls [] s s
  | cons {i : Nat} {r : List Nat} {s s' : St E} {o : Oper} {a : AV E} {u : Upd E} (ho : all[i]? = some o) (h : act1 tt gl H call f all s o = some (cls i, a, u)) (t : RunC tt gl H call f all cls r (s.did o.dst a u) s') : RunC tt gl H call f all cls (i :: r) s s'

/-- May two of them change places? -/
def Comm (all : List Oper) (cls : Nat → Cl) (i j : Nat) : Prop := ∀ x y, all[i]? = some x → all[j]? = some y → apart all x y = true ∧ clash (cls i) (cls j) = false

theorem RunC.swap {call : CallF E} {f : FuncId} {all : List Oper} {cls : Nat → Cl} {i j : Nat} {r : List Nat} {s s' : St E} (h : RunC tt gl H call f all cls (i :: j :: r) s s') (hc : Comm all cls i j) : RunC tt gl H call f all cls (j :: i :: r) s s' := by
  cases h with
  | cons ho h t => cases t with
    | cons ho' h' t' =>
      obtain ⟨h1, h2⟩ := hc _ _ ho ho'
      obtain ⟨_, _, k1, k2, k3⟩ := swap_step h1 h2 h h'
      refine .cons ho' k1 (.cons ho k2 ?_)
      rw [← k3]
      exact t'
theorem RunC.bubble {call : CallF E} {f : FuncId} {all : List Oper} {cls : Nat → Cl} {j : Nat} {post : List Nat} {s' : St E} : ∀ (pre : List Nat) (s : St E), (∀ i ∈ pre, Comm all cls i j) → RunC tt gl H call f all cls (pre ++ j :: post) s s' → RunC tt gl H call f all cls (j :: (pre ++ post)) s s'
  | [], s, _, h => h
  | i :: pre, s, hc, h => by
    cases h with
    | cons ho h t =>
      have := RunC.bubble pre _ (fun k hk => hc k (List.mem_cons_of_mem _ hk)) t
      exact RunC.swap (.cons ho h this) (hc i (by simp))

/-- Known to come before. -/
inductive Reach (all : List Oper) : Nat → Nat → Prop
  | edge {j : Nat} {o : Oper} {e : Edge} (ho : all[j]? = some o) (he : e ∈ o.after) (hb : Region.binds .any e = true) : Reach all j e.on
  | step {j i : Nat} {o : Oper} {e : Edge} (ho : all[j]? = some o) (he : e ∈ o.after) (hb : Region.binds .any e = true) (h : Reach all e.on i) : Reach all j i

theorem fold_bit (acc : List Nat) (i : Nat) : ∀ (l : List Edge) (m : Nat), (l.foldl (fun m e => bif Region.binds .any e then m ||| 2 ^ e.on ||| acc.getD e.on 0 else m) m).testBit i = true →
    m.testBit i = true ∨ ∃ e ∈ l, Region.binds .any e = true ∧ (e.on = i ∨ (acc.getD e.on 0).testBit i = true)
  | [], m, h => .inl h
  | e :: l, m, h => by
    simp only [List.foldl_cons] at h
    rcases fold_bit acc i l _ h with h1 | ⟨e', he, h2⟩
    · cases hb : Region.binds .any e with
      | false => rw [hb] at h1; exact .inl h1
      | true =>
        rw [hb] at h1
        simp only [cond_true, Nat.testBit_or, Bool.or_eq_true] at h1
        rcases h1 with (h1 | h1) | h1
        · exact .inl h1
        · rw [Nat.testBit_two_pow] at h1
          exact .inr ⟨e, by simp, hb, .inl (by simpa using h1)⟩
        · exact .inr ⟨e, by simp, hb, .inr h1⟩
    · exact .inr ⟨e', List.mem_cons_of_mem _ he, h2⟩

theorem masks_sound (all : List Oper) : ∀ (r pre : List Oper) (acc : List Nat), all = pre ++ r → acc.length = pre.length → (∀ j i, (acc.getD j 0).testBit i = true → Reach all j i) →
    ∀ j i, ((masks r acc).getD j 0).testBit i = true → Reach all j i
  | [], pre, acc, _, _, h => h
  | o :: r, pre, acc, ha, hl, h => by
    refine masks_sound all r (pre ++ [o]) _ (by simp [ha]) (by simp [hl]) ?_
    intro j i hj
    rw [List.getD_eq_getElem?_getD] at hj
    rcases Nat.lt_or_ge j acc.length with hlt | hge
    · rw [List.getElem?_append_left hlt, ← List.getD_eq_getElem?_getD] at hj
      exact h j i hj
    · rw [List.getElem?_append_right hge] at hj
      by_cases h0 : j - acc.length = 0
      · rw [h0] at hj
        simp only [List.getElem?_cons_zero, Option.getD_some] at hj
        have hjo : all[j]? = some o := by
          rw [ha, List.getElem?_append_right (by omega), show j - pre.length = 0 by omega]
          rfl
        rcases fold_bit acc i _ _ hj with h1 | ⟨e, he, hb, h2⟩
        · simp at h1
        · have he' : e ∈ o.after := Array.mem_toList_iff.1 he
          rcases h2 with rfl | h2
          · exact .edge hjo he' hb
          · exact .step hjo he' hb (h _ _ h2)
      · obtain ⟨n, hn⟩ := Nat.exists_eq_succ_of_ne_zero h0
        rw [hn] at hj
        simp at hj

/-- Listed ones have listed ones ahead. -/
def Down (all : List Oper) (listed : Nat → Bool) : Prop := ∀ j, listed j = true → ∀ o, all[j]? = some o → ∀ e ∈ o.after, Region.binds .any e = true → listed e.on = true
theorem Reach.listed {all : List Oper} {listed : Nat → Bool} (hd : Down all listed) {j i : Nat} (h : Reach all j i) : (∀ o, all[j]? = some o → ∀ e ∈ o.after, Region.binds .any e = true → listed e.on = true) → listed i = true := by
  induction h with
  | edge ho he hb => exact fun hj => hj _ ho _ he hb
  | step ho he hb _ ih => exact fun hj => ih (hd _ (hj _ ho _ he hb))
end Go.Proofs.YtoegcppcmgbkmaaGreatDoor.Fv

/-! Drawn regions, the whole. -/
namespace Go.Proofs.YtoegcppcmgbkmaaGreatDoor.Fv
variable [Quiet]
variable {E : Env} {P : Program} {tt : Nat → Option TE} {gl : Nat → AV E} {H : Hints} {M M' : Mem} {μ μ' : Mu} {b b' : List (Blk E)} {w w' : World}

theorem freeRow_spec (all : List Oper) (m : Nat) (y : Oper × Cl) : ∀ (l : List (Oper × Cl)) (i : Nat), freeGo.freeRow all m y l i = true → ∀ k x, l[k]? = some x → m.testBit (i + k) = true ∨ (clash x.2 y.2 = false ∧ apart all x.1 y.1 = true)
  | [], i, h, k, x, hk => by simp at hk
  | z :: l, i, h, k, x, hk => by
    simp only [freeGo.freeRow, Bool.and_eq_true, Bool.or_eq_true, Bool.not_eq_true'] at h
    match k, hk with
    | 0, hk =>
      simp only [List.getElem?_cons_zero, Option.some.injEq] at hk
      subst hk
      exact h.1
    | k + 1, hk =>
      have := freeRow_spec all m y l (i + 1) h.2 k x (by simpa using hk)
      rw [show i + 1 + k = i + (k + 1) by omega] at this
      exact this
theorem freeGo_spec (all : List Oper) (ms : List Nat) : ∀ (r acc : List (Oper × Cl)) (j : Nat), j = acc.length → freeGo all ms acc r j = true → ∀ k y, r[k]? = some y →
    (∀ e ∈ y.1.after, Region.binds .any e = true → e.on < j + k) ∧ ∀ i x, i < j + k → (acc.reverse ++ r)[i]? = some x → (ms.getD (j + k) 0).testBit i = true ∨ (clash x.2 y.2 = false ∧ apart all x.1 y.1 = true)
  | [], acc, j, hj, h, k, y, hk => by simp at hk
  | z :: r, acc, j, hj, h, k, y, hk => by
    simp only [freeGo, Bool.and_eq_true] at h
    obtain ⟨⟨h1, h2⟩, h3⟩ := h
    match k, hk with
    | 0, hk =>
      simp only [List.getElem?_cons_zero, Option.some.injEq] at hk
      subst hk
      refine ⟨fun e he hb => ?_, fun i x hi hx => ?_⟩
      · simp only [List.all_eq_true, Bool.or_eq_true, Bool.not_eq_true', decide_eq_true_eq] at h1
        rcases h1 e (Array.mem_toList_iff.2 he) with h4 | h4
        · rw [hb] at h4; cases h4
        · exact h4
      · rw [List.getElem?_append_left (by simp; omega)] at hx
        have := freeRow_spec all _ z acc.reverse 0 h2 i x hx
        rwa [Nat.zero_add] at this
    | k + 1, hk =>
      have := freeGo_spec all ms r (z :: acc) (j + 1) (by simp [hj]) h3 k y (by simpa using hk)
      rw [show j + 1 + k = j + (k + 1) by omega] at this
      refine ⟨this.1, fun i x hi hx => this.2 i x hi (by simpa using hx)⟩

theorem opsK_run {call : CallF E} {f : FuncId} {all : List Oper} {α : Type} {k : List Cl → St E → Option α} {res : α} : ∀ (r pre : List Oper) (acc : List Cl) (s : St E), all = pre ++ r → acc.length = pre.length → opsK tt gl H call f all r acc s k = some res →
    ∃ (cl : List Cl) (s' : St E), cl.length = r.length ∧ k (acc.reverse ++ cl) s' = some res ∧ RunC tt gl H call f all (fun i => (acc.reverse ++ cl).getD i .p) (List.range' pre.length r.length) s s'
  | [], pre, acc, s, ha, hl, h => ⟨[], s, rfl, by rw [List.append_nil]; exact h, .nil s⟩
  | o :: r, pre, acc, s, ha, hl, h => by
    rw [opsK_cons] at h
    obtain ⟨⟨c, a, u⟩, h1, h2⟩ := Option.bind_eq_some_iff.1 h
    obtain ⟨cl, s', k1, k2, k3⟩ := opsK_run r (pre ++ [o]) (c :: acc) (s.did o.dst a u) (by simp [ha]) (by simp [hl]) h2
    have e1 : (c :: acc).reverse ++ cl = acc.reverse ++ (c :: cl) := by simp
    rw [e1] at k2 k3
    refine ⟨c :: cl, s', by simp [k1], k2, ?_⟩
    rw [List.length_cons, List.range'_succ]
    refine .cons (o := o) (a := a) (u := u) (by rw [ha, List.getElem?_append_right (Nat.le_refl _)]; simp) ?_ (by simpa using k3)
    have e2 : (acc.reverse ++ (c :: cl)).getD pre.length .p = c := by
      rw [List.getD_eq_getElem?_getD, List.getElem?_append_right (by simp [hl])]
      simp [hl]
    rw [e2]
    exact h1

/-- The ones that are left. -/
def rem (n : Nat) (listed : Array Bool) : List Nat := (List.range n).filter fun i => !listed.getD i true
theorem rem_split {n i : Nat} {listed : Array Bool} (hi : i < n) (hs : listed.size = n) (hl : listed.getD i true = false) : ∃ pre post, rem n listed = pre ++ i :: post ∧ rem n (listed.setIfInBounds i true) = pre ++ post ∧ ∀ j ∈ pre, j < i ∧ listed.getD j true = false := by
  have e : List.range n = List.range i ++ i :: (List.range (n - i - 1)).map (fun x => i + 1 + x) := by
    have h1 : n = i + (1 + (n - i - 1)) := by omega
    conv => lhs; rw [h1]
    rw [List.range_add, Nat.add_comm 1, List.range_succ_eq_map]
    simp [List.map_map, Function.comp_def, Nat.add_assoc, Nat.add_comm]
    intros
    omega
  have hother : ∀ j, j ≠ i → (listed.setIfInBounds i true).getD j true = listed.getD j true := fun j hj => getD_set_ne true (Ne.symm hj)
  have hself : (listed.setIfInBounds i true).getD i true = true := by simp [hs, hi]
  refine ⟨(List.range i).filter (fun j => !listed.getD j true), ((List.range (n - i - 1)).map (fun x => i + 1 + x)).filter (fun j => !listed.getD j true), ?_, ?_, ?_⟩
  · unfold rem
    rw [e, List.filter_append, List.filter_cons_of_pos (by simp [hl])]
  · unfold rem
    rw [e, List.filter_append, List.filter_cons_of_neg (by simp [hself])]
    congr 1
    · refine List.filter_congr fun j hj => ?_
      rw [hother j (by have := List.mem_range.1 hj; omega)]
    · refine List.filter_congr fun j hj => ?_
      obtain ⟨x, _, rfl⟩ := List.mem_map.1 hj
      rw [hother _ (by omega)]
  · intro j hj
    have := List.mem_filter.1 hj
    exact ⟨List.mem_range.1 this.1, by simpa using this.2⟩
end Go.Proofs.YtoegcppcmgbkmaaGreatDoor.Fv

/-! Drawn regions: the theorem. -/
namespace Go.Proofs.YtoegcppcmgbkmaaGreatDoor.Fv
variable [Quiet]
variable {E : Env} {P : Program} {tt : Nat → Option TE} {gl : Nat → AV E} {H : Hints} {M M' : Mem} {μ μ' : Mu} {b b' : List (Blk E)} {w w' : World}

theorem getD_iff {listed : Array Bool} {i : Nat} (h : i < listed.size) : listed.getD i true = listed.getD i false := by
  simp [Array.getD, h]
theorem any_loop (hE : EnvOK E) (hz : ∀ (M : Mem) n, RC M (.nm n) (E.dfl n) (E.zc n)) (hT : TOK P E tt) {call : CallF E} (hC : CallOK P gl call) {S : Since E} (hL : S.L ≤ S.b.length) (hgl : GlOK S.M gl) {f : FuncId} {all : List Oper} {cls : Nat → Cl} {s' : St E} {Q : Exit → Act → World → Prop}
    (hfin : ∀ act w, Inv gl S s' act w → Q .normal act w) (hback : ∀ j o, all[j]? = some o → ∀ e ∈ o.after, Region.binds .any e = true → e.on < j)
    (hcomm : ∀ i j, i < j → j < all.length → ¬ Reach all j i → Comm all cls i j) :
    ∀ (fuel : Nat) (listed : Array Bool) (s : St E) (act : Act) (w : World), listed.size = all.length → Down all (fun i => listed.getD i false) → (rem all.length listed).length ≤ fuel → RunC tt gl H call f all cls (rem all.length listed) s s' → Inv gl S s act w →
      wpAny P .any all.toArray Q fuel listed act w := by
  have hready : ∀ (listed : Array Bool), listed.size = all.length → Region.ready .any all.toArray listed = [] → rem all.length listed = [] := by
    intro listed hs hr
    have key : ∀ i, i < all.length → listed.getD i true = true := by
      intro i
      induction i using Nat.strongRecOn with
      | _ i ih =>
        intro hi
        cases hl : listed.getD i true with
        | true => rfl
        | false =>
          exfalso
          have : i ∈ Region.ready .any all.toArray listed := by
            rw [mem_ready]
            refine ⟨hl, all[i], by simp [hi], fun e he hb => ?_⟩
            have h1 := hback i all[i] (by simp [hi]) e he hb
            rw [← getD_iff (by omega)]
            exact ih e.on h1 (by omega)
          rw [hr] at this
          simp at this
    unfold rem
    rw [List.filter_eq_nil_iff]
    intro i hi
    simp only [key i (List.mem_range.1 hi), Bool.not_true, Bool.false_eq_true, not_false_iff]
  intro fuel
  induction fuel with
  | zero =>
    intro listed s act w hs hd hlen hrun hI
    have h0 : rem all.length listed = [] := List.length_eq_zero_iff.1 (by omega)
    rw [h0] at hrun
    cases hrun
    refine ⟨?_, hfin _ _ hI⟩
    cases hr : Region.ready .any all.toArray listed with
    | nil => rfl
    | cons i l =>
      exfalso
      have hi : i ∈ Region.ready .any all.toArray listed := by rw [hr]; simp
      obtain ⟨h1, o, h2, _⟩ := mem_ready.1 hi
      have hin : i < all.length := by
        have := (Array.getElem?_eq_some_iff.1 h2).1
        simpa using this
      have : i ∈ rem all.length listed := List.mem_filter.2 ⟨List.mem_range.2 hin, by simp only [h1, Bool.not_false]⟩
      rw [h0] at this
      simp at this
  | succ fuel ih =>
    intro listed s act w hs hd hlen hrun hI
    refine ⟨fun hr => ?_, fun i hi => ?_⟩
    · rw [hready listed hs hr] at hrun
      cases hrun
      exact hfin _ _ hI
    · obtain ⟨h1, o, h2, h3⟩ := mem_ready.1 hi
      have hin : i < all.length := by
        have := (Array.getElem?_eq_some_iff.1 h2).1
        simpa using this
      have h2' : all[i]? = some o := by simpa using h2
      obtain ⟨pre, post, e1, e2, e3⟩ := rem_split hin hs h1
      rw [e1] at hrun
      have hrun' := RunC.bubble pre s (fun j hj => by
        obtain ⟨k1, k2⟩ := e3 j hj
        refine hcomm j i k1 hin fun hre => ?_
        have := hre.listed (listed := fun i => listed.getD i false) hd (fun o' ho' e he hb => by
          rw [h2'] at ho'
          cases ho'
          exact h3 e he hb)
        rw [getD_iff (by omega)] at k2
        rw [k2] at this
        cases this) hrun
      cases hrun' with
      | cons ho h t =>
        rename_i o' a u
        refine wpOp_of hE hz hT hC hL hgl hI h (by simpa using ho) fun act' w' hI' => ?_
        refine ih (listed.setIfInBounds i true) _ act' w' (by simp [hs]) ?_ ?_ (by rw [e2]; exact t) hI'
        · intro j hj o1 ho1 e he hb
          by_cases hji : j = i
          · subst hji
            rw [h2'] at ho1
            cases ho1
            exact getD_set_true (h3 e he hb)
          · have hj : (listed.setIfInBounds i true).getD j false = true := hj
            rw [getD_set_ne false (Ne.symm hji)] at hj
            exact getD_set_true (hd j hj o1 ho1 e he hb)
        · rw [e2]
          rw [e1] at hlen
          simp only [List.length_append, List.length_cons] at hlen ⊢
          omega

theorem any_ok (hE : EnvOK E) (hz : ∀ (M : Mem) n, RC M (.nm n) (E.dfl n) (E.zc n)) (hT : TOK P E tt) {call : CallF E} (hC : CallOK P gl call) (f : FuncId) (S : Since E) (hL : S.L ≤ S.b.length) (hgl : GlOK S.M gl) : AnyOK P tt gl H call S f := by
  intro ops s act w α k res Q h hI hQ
  obtain ⟨cl, s', k1, k2, k3⟩ := opsK_run (all := ops.toList) ops.toList [] [] s rfl rfl h
  simp only [List.reverse_nil, List.nil_append, List.length_nil] at k2 k3
  obtain ⟨hf, hk⟩ := bif_some k2
  unfold freeOrder at hf
  have hspec := freeGo_spec ops.toList (masks ops.toList []) (ops.toList.zip cl) [] 0 rfl hf
  have hms := masks_sound ops.toList ops.toList [] [] rfl rfl (fun j i h => by simp at h)
  have hzip : ∀ i o, ops.toList[i]? = some o → (ops.toList.zip cl)[i]? = some (o, cl.getD i .p) := by
    intro i o ho
    have hi := (List.getElem?_eq_some_iff.1 ho).1
    rw [List.getElem?_zip_eq_some]
    refine ⟨ho, ?_⟩
    rw [List.getD_of_lt _ _ _ (by omega)]
    simp
  have := any_loop (Q := Q) (H := H) (f := f) hE hz hT hC hL hgl (s' := s') (cls := fun i => cl.getD i .p) (fun act w hI => hQ s' act w hk hI)
    (fun j o ho e he hb => by
      have := (hspec j _ (hzip j o ho)).1 e he hb
      simpa using this)
    (fun i j hij hj hn x y hx hy => by
      have := (hspec j _ (hzip j y hy)).2 i _ (by omega) (by simpa using hzip i x hx)
      rw [Nat.zero_add] at this
      rcases this with h1 | h1
      · exact absurd (hms j i h1) hn
      · exact ⟨h1.2, h1.1⟩)
    ops.size (Array.replicate ops.size false) s act w (by simp) (fun j hj => by simp [Array.getD] at hj) ?_ ?_ hI
  · simpa using this
  · unfold rem
    exact Nat.le_trans (List.length_filter_le _ _) (by simp)
  · have e : rem ops.toList.length (Array.replicate ops.size false) = List.range' 0 ops.toList.length := by
      unfold rem
      rw [← List.range_eq_range', List.filter_eq_self]
      intro i hi
      have := List.mem_range.1 hi
      simp at this
      simp [this]
    rw [e]
    exact k3

theorem calls_ok (hE : EnvOK E) (hz : ∀ (M : Mem) n, RC M (.nm n) (E.dfl n) (E.zc n)) (hT : TOK P E tt) (hmix : P.follows .mixedOrders = true) {fs : FuncId → Option Func} (hfs : FsOK P fs) (n : Nat) : CallOK P gl (run tt gl H fs n) :=
  run_sound hE hz hT hmix hfs (fun call hC f S hL hgl => any_ok hE hz hT hC f S hL hgl) n
end Go.Proofs.YtoegcppcmgbkmaaGreatDoor.Fv

/-! The data that a call is handed, read as typed values. -/
namespace Go.Proofs.YtoegcppcmgbkmaaGreatDoor.Fv
variable [Quiet]
variable {E : Env} {P : Program} {tt : Nat → Option TE}

/-- In range, and of a size that memory has room for. -/
def Good0 (E : Env) (rec : (n : Nat) → E.R n → Prop) : (t : Ty) → E.D t → Prop
  | .int k, n => (Lit.int k n).wf = true
  | .str, s => List.length (α := UInt8) s ≤ reachBytes
  | .one a, v => Good0 E rec a v
  | .pair a b, v => Good0 E rec a v.1 ∧ Good0 E rec b v.2
  | .sl e, xs => List.length (α := E.D e) xs ≤ reachBytes ∧ ∀ x, List.Mem (α := E.D e) x xs → Good0 E rec e x
  | .arr n e, xs => List.length (α := E.D e) xs = n ∧ ∀ x, List.Mem (α := E.D e) x xs → Good0 E rec e x
  | .nm n, v => rec n v
  | .bool, _ => True
  | .mp _ _, _ => True
  | .any, _ => True
def GoodN (E : Env) : Nat → (n : Nat) → E.R n → Prop
  | 0, _, _ => True
  | g + 1, n, v => Good0 E (GoodN E g) (E.body n) (E.un n v)
def Good (E : Env) (g : Nat) (t : Ty) (v : E.D t) : Prop := Good0 E (GoodN E g) t v

/-- How many values and letters. -/
def Bulk0 (E : Env) (rec : (n : Nat) → E.R n → Nat) : (t : Ty) → E.D t → Nat
  | .int _, _ => 1
  | .bool, _ => 1
  | .any, _ => 0
  | .str, s => List.length (α := UInt8) s + 1
  | .one a, v => Bulk0 E rec a v
  | .pair a b, v => Bulk0 E rec a v.1 + Bulk0 E rec b v.2
  | .sl e, xs => (List.map (α := E.D e) (Bulk0 E rec e) xs).sum + 1
  | .arr _ e, xs => (List.map (α := E.D e) (Bulk0 E rec e) xs).sum
  | .nm n, v => rec n v
  | .mp _ _, _ => 0
def BulkN (E : Env) : Nat → (n : Nat) → E.R n → Nat
  | 0, _, _ => 0
  | g + 1, n, v => Bulk0 E (BulkN E g) (E.body n) (E.un n v)
def Bulk (E : Env) (g : Nat) (t : Ty) (v : E.D t) : Nat := Bulk0 E (BulkN E g) t v
/-- A measure of handed data that counts each value and letter. -/
structure IsBulk {H : Type} (f : DataW H → Nat) (fa : List (DataW H) → Nat) : Prop where
  str : ∀ b, f (.lit (.string b)) = b.length + 1
  lit : ∀ l, 1 ≤ f (.lit l)
  nil : 1 ≤ f .nil
  sl : ∀ e s, f (.slice e s) = fa e + fa s + 1
  agg : ∀ p, f (.agg p) = fa p + 1
  ni : fa [] = 0
  co : ∀ d r, fa (d :: r) = f d + fa r
theorem IsBulk.all {H : Type} {f : DataW H → Nat} {fa : List (DataW H) → Nat} (h : IsBulk f fa) : ∀ l, fa l = (l.map f).sum
  | [] => h.ni
  | d :: r => by rw [h.co, h.all r]; simp
def sumN (B : Nat → Nat) : Nat → Nat
  | 0 => 0
  | n + 1 => B 0 + sumN (fun i => B (i + 1)) n
theorem sumN_list (l : List Nat) : sumN (fun i => l.getD i 0) l.length = l.sum := by
  induction l with
  | nil => rfl
  | cons a l ih => simp only [List.length_cons, sumN, List.sum_cons]; rw [← ih]; rfl
theorem sum_le {l r : List Nat} : ∀ (hl : l.length = r.length), (∀ i (h : i < l.length), l[i] ≤ r[i]'(by omega)) → l.sum ≤ r.sum := by
  induction l generalizing r with
  | nil => intro _ _; exact Nat.zero_le _
  | cons a l ih =>
    intro hl h
    cases r with
    | nil => simp at hl
    | cons b r =>
      simp only [List.sum_cons]
      have h1 := h 0 (by simp)
      have h2 := ih (r := r) (by simpa using hl) fun i hi => h (i + 1) (Nat.succ_lt_succ hi)
      simp only [List.getElem_cons_zero] at h1
      omega

def wfTail : Ty → Bool
  | .one _ => true
  | .pair _ b => wfTail b
  | _ => false
def rdOK (P : Program) (E : Env) (x : TE) : Bool := match x.d with
  | .int _ | .bool | .str | .arr _ _ => true
  | .slice el => decide (1 ≤ P.bytesOf el)
  | .struct _ => wfTail (bodyOf E x.ty) && (bodyOf E x.ty).full
  | _ => false
def RdOK (P : Program) (E : Env) (tt : Nat → Option TE) : Prop := ∀ t x, tt t = some x → x.ty.full = true → rdOK P E x = true

theorem mapM_some {α β : Type} {f : α → Option β} : ∀ {l : List α} {r : List β}, l.mapM f = some r → r.length = l.length ∧ ∀ i (h : i < l.length), ∃ h' : i < r.length, f l[i] = some r[i]
  | [], r, h => by
    simp at h
    subst h
    exact ⟨rfl, fun i h => by simp at h⟩
  | a :: l, r, h => by
    rw [List.mapM_cons] at h
    cases h1 : f a with
    | none => simp [h1] at h
    | some b =>
      cases h2 : l.mapM f with
      | none => simp [h1, h2] at h
      | some r' =>
        simp [h1, h2] at h
        subst h
        obtain ⟨i1, i2⟩ := mapM_some h2
        refine ⟨by simp [i1], fun i hi => ?_⟩
        cases i with
        | zero => exact ⟨by simp, by simpa using h1⟩
        | succ i =>
          obtain ⟨h', e⟩ := i2 i (by simpa using hi)
          exact ⟨by simpa using h', by simpa using e⟩

theorem cellsOf_eq {t : Nat} {x : TE} (hx : tt t = some x) (hT : TOK P E tt) : P.cellsOf t = size E x.ty := by
  obtain ⟨i, hi, hs⟩ := (hT t x hx).size
  simp [Program.cellsOf, hi, hs]

theorem cells_spec {W : World} {base : Nat} {a : Addr} {n : Nat} {cs : List Value} (h : W.cells? base a n = some cs) : cs.length = n ∧ (0 < n → a.spot = none) ∧ ∀ j (h : j < cs.length), W.cell? ⟨a.block, a.off + j, none⟩ = some cs[j] := by
  unfold World.cells? at h
  split at h
  · obtain ⟨h1, h2⟩ := mapM_some h
    simp only [List.length_range] at h1 h2
    have h3 : 0 < n → a.spot = none := by
      intro h0
      obtain ⟨_, e⟩ := h2 0 h0
      simp only [List.getElem_range, Addr.add, if_true, World.cell?] at e
      split at e
      · cases hs : a.spot with
        | none => rfl
        | some s => simp [hs] at e
      · cases e
    refine ⟨h1, h3, fun j hj => ?_⟩
    obtain ⟨_, e⟩ := h2 j (by omega)
    simp only [List.getElem_range] at e
    rw [← e]
    congr 1
    have := h3 (by omega)
    unfold Addr.add
    cases a
    simp only at this
    subst this
    by_cases hj0 : j = 0 <;> simp [hj0]
  · cases h

theorem fldTyS_full : ∀ (T : Ty) (i : Nat), T.full = true → i < arity T → (fldTyS T i).full = true
  | .one a, 0, h, _ => h
  | .one a, i + 1, h, hi => by simp [arity] at hi
  | .pair a b, 0, h, _ => by simp [Ty.full] at h; exact h.1
  | .pair a b, i + 1, h, hi => by simp [Ty.full] at h; exact fldTyS_full b i h.2 (by simpa [arity] using hi)
  | .int _, _, _, hi => by simp [arity] at hi
  | .bool, _, _, hi => by simp [arity] at hi
  | .str, _, _, hi => by simp [arity] at hi
  | .sl _, _, _, hi => by simp [arity] at hi
  | .arr _ _, _, _, hi => by simp [arity] at hi
  | .nm _, _, _, hi => by simp [arity] at hi
  | .mp _ _, _, _, hi => by simp [arity] at hi
  | .any, _, _, hi => by simp [arity] at hi

theorem rd_flds (M : Mem) (Q : Prop) : ∀ (T : Ty) (cs : List Value) (B : Nat → Nat), cs.length = size E T → wfTail T = true →
    (∀ i, i < arity T → ∃ v : E.D (fldTyS T i), RC M _ v ((cs.drop (fldOffS E T i)).take (size E (fldTyS T i))) ∧ (Q → ∀ g, Good E g _ v) ∧ ∀ g, Bulk E g _ v ≤ B i) →
    ∃ v : E.D T, RC M T v cs ∧ (Q → ∀ g, Good E g T v) ∧ ∀ g, Bulk E g T v ≤ sumN B (arity T)
  | .one a, cs, B, hl, _, h => by
    obtain ⟨(v : E.D a), h1, h2, h3⟩ := h 0 (by simp [arity])
    simp only [fldTyS, fldOffS, List.drop_zero] at h1 h2 h3
    rw [List.take_of_length_le (by simp [size] at hl; omega)] at h1
    exact ⟨v, RC.one (a := a) h1, h2, fun g => Nat.le_trans (h3 g) (Nat.le_add_right _ _)⟩
  | .pair a b, cs, B, hl, hw, h => by
    obtain ⟨(v : E.D a), h1, h2, h2b⟩ := h 0 (by simp [arity])
    simp only [fldTyS, fldOffS, List.drop_zero] at h1 h2 h2b
    obtain ⟨y, h3, h4, h5⟩ := rd_flds M Q b (cs.drop (size E a)) (fun i => B (i + 1)) (by simp [size] at hl; simp; omega) hw (fun i hi => by
      obtain ⟨(z : E.D (fldTyS b i)), k1, k2, k3⟩ := h (i + 1) (by simpa [arity] using hi)
      simp only [fldTyS, fldOffS] at k1 k2 k3
      rw [List.drop_drop]
      exact ⟨z, k1, k2, k3⟩)
    refine ⟨(v, y), ?_, fun q g => ⟨h2 q g, h4 q g⟩, fun g => ?_⟩
    · have := RC.pair h1 h3
      rwa [List.take_append_drop] at this
    · have e : sumN B (arity (.pair a b)) = B 0 + sumN (fun i => B (i + 1)) (arity b) := by rw [show arity (.pair a b) = arity b + 1 by simp [arity]]; rfl
      rw [e]
      have h6 := h2b g
      have h7 := h5 g
      show Bulk E g a v + Bulk E g b y ≤ _
      omega
  | .int _, _, _, _, hw, _ => by simp [wfTail] at hw
  | .bool, _, _, _, hw, _ => by simp [wfTail] at hw
  | .str, _, _, _, hw, _ => by simp [wfTail] at hw
  | .sl _, _, _, _, hw, _ => by simp [wfTail] at hw
  | .arr _ _, _, _, _, hw, _ => by simp [wfTail] at hw
  | .nm _, _, _, _, hw, _ => by simp [wfTail] at hw
  | .mp _ _, _, _, _, hw, _ => by simp [wfTail] at hw
  | .any, _, _, _, hw, _ => by simp [wfTail] at hw

theorem fldsOK_spec : ∀ {fs : List (Nat × Nat)} {T : Ty} {k : Nat}, fldsOK E tt T fs k = true → ∀ i (h : i < fs.length), fldTy T (k + i) = tyOf tt fs[i].1 ∧ fldOff E T (k + i) = fs[i].2 ∧ (tt fs[i].1).isSome = true
  | [], _, _, _, i, h => by simp at h
  | f :: fs, T, k, hf, i, h => by
    simp only [fldsOK, Bool.and_eq_true, decide_eq_true_eq] at hf
    cases i with
    | zero => exact ⟨hf.1.1.1.1, hf.1.1.1.2, hf.1.2⟩
    | succ i =>
      have := fldsOK_spec hf.2 i (by simpa using h)
      rw [show k + 1 + i = k + (i + 1) by omega] at this
      simpa using this

theorem wfTail_fld {T : Ty} (h : wfTail T = true) (i : Nat) : fldTy T i = fldTyS T i ∧ fldOff E T i = fldOffS E T i := by
  cases T <;> first | exact ⟨rfl, rfl⟩ | simp [wfTail] at h

section
variable {H : Type} {enc : TypeId × Value → H}

theorem weightsAll_mem {e : Nat} : ∀ {ds : List (DataW H)}, (DataW.weightsAll P e ds).all (· ≤ reachBytes) = true → ∀ d ∈ ds, (d.weights P e).all (· ≤ reachBytes) = true
  | [], _, d, hd => by simp at hd
  | a :: l, h, d, hd => by
    simp only [DataW.weightsAll, List.all_append, Bool.and_eq_true] at h
    rcases List.mem_cons.1 hd with rfl | hd
    · exact h.1
    · exact weightsAll_mem h.2 d hd
theorem weightsEach_get : ∀ {ts : List Nat} {ds : List (DataW H)}, (DataW.weightsEach P ts ds).all (· ≤ reachBytes) = true → ∀ i (h1 : i < ts.length) (h2 : i < ds.length), (ds[i].weights P ts[i]).all (· ≤ reachBytes) = true
  | [], _, _, _, h1, _ => by simp at h1
  | _ :: _, [], _, _, _, h2 => by simp at h2
  | t :: ts, d :: ds, h, i, h1, h2 => by
    simp only [DataW.weightsEach, List.all_append, Bool.and_eq_true] at h
    cases i with
    | zero => exact h.1
    | succ i => exact weightsEach_get h.2 i (by simpa using h1) (by simpa using h2)

theorem chunks {cs : List Value} {n k : Nat} (hl : cs.length = n * k) : ((List.range n).map fun i => (cs.drop (i * k)).take k).flatten = cs := by
  induction n generalizing cs with
  | zero => simp at hl; simp [hl]
  | succ n ih =>
    rw [List.range_succ_eq_map]
    simp only [List.map_cons, List.map_map, List.flatten_cons, Nat.zero_mul, List.drop_zero]
    have := ih (cs := cs.drop k) (by simp [hl, Nat.succ_mul])
    have e : ((fun i => (cs.drop (i * k)).take k) ∘ Nat.succ) = fun i => ((cs.drop k).drop (i * k)).take k := by
      funext i
      simp only [Function.comp, List.drop_drop, Nat.succ_mul]
      rw [Nat.add_comm]
    rw [e, this, List.take_append_drop]

theorem listOf {α : Type} {p : Nat → α → Prop} : ∀ {n : Nat}, (∀ i, i < n → ∃ z, p i z) → ∃ zs : List α, zs.length = n ∧ ∀ i (hi : i < zs.length), p i zs[i]
  | 0, _ => ⟨[], rfl, fun i hi => by simp at hi⟩
  | n + 1, h => by
    obtain ⟨zs, k1, k2⟩ := listOf (p := p) (n := n) fun i hi => h i (by omega)
    obtain ⟨z, hz⟩ := h n (by omega)
    refine ⟨zs ++ [z], by simp [k1], fun i hi => ?_⟩
    by_cases hin : i < zs.length
    · rw [List.getElem_append_left hin]
      exact k2 i hin
    · have : i = zs.length := by simp at hi; omega
      subst this
      rw [List.getElem_append_right (Nat.le_refl _)]
      simp only [Nat.sub_self, List.getElem_cons_zero, k1]
      exact hz

theorem trod_rc {f : DataW H → Nat} {fa : List (DataW H) → Nat} (hB : IsBulk f fa) (hE : EnvOK E) (hT : TOK P E tt) (hR : RdOK P E tt) (W : World) (base : Nat) (spare : Nat → Bool) (held : Bool) : ∀ (fuel t : Nat) (x : TE) (cs : List Value) (d : DataW H) (ps : List MemPlace),
    tt t = some x → x.ty.full = true → DataW.trod enc P W base spare held fuel t cs = some (d, ps) →
    ∃ v : E.D x.ty, RC (memOf W) x.ty v cs ∧ ((d.weights P t).all (· ≤ reachBytes) = true → ∀ g, Good E g x.ty v) ∧ ∀ g, Bulk E g x.ty v ≤ f d
  | 0, _, _, _, _, _, _, _, h => by cases h
  | fuel + 1, t, x, cs, d, ps, hx, hf, h => by
    obtain ⟨u, hu, ha, hd⟩ := (hT t x hx).und
    have hr := hR t x hx hf
    have hsz := cellsOf_eq hx hT
    obtain ⟨ty, xd⟩ := x
    unfold DataW.trod at h
    simp only at hd ha hf hr hsz
    cases xd with
    | int k =>
      obtain ⟨rfl, rfl⟩ := hd
      simp only [hu] at h
      split at h <;> try (cases h; done)
      all_goals simp_all only [Option.some.injEq, TypeDesc.int.injEq, reduceCtorEq]
      rename_i k' n hk
      split at h
      · rename_i hc
        obtain ⟨hk', hw⟩ := hc
        rw [hk', hk]
        exact ⟨n, .int _ n, fun _ g => hw, fun g => by injection h with h; injection h with h; rw [← h]; exact hB.lit _⟩
      · cases h
    | bool =>
      obtain ⟨rfl, rfl⟩ := hd
      simp only [hu] at h
      split at h <;> try (cases h; done)
      all_goals simp_all only [Option.some.injEq, reduceCtorEq]
      exact ⟨_, .bool _, fun _ g => trivial, fun g => by injection h with h; rw [← h]; exact hB.lit _⟩
    | str =>
      obtain ⟨rfl, rfl⟩ := hd
      simp only [hu] at h
      split at h <;> try (cases h; done)
      all_goals simp_all only [Option.some.injEq, reduceCtorEq]
      split at h
      · simp only [Option.some.injEq, Prod.mk.injEq] at h
        obtain ⟨rfl, rfl⟩ := h
        refine ⟨_, .str _, fun hw g => ?_, fun g => Nat.le_of_eq (hB.str _).symm⟩
        simp [DataW.weights] at hw
        simpa [Good, Good0] using hw
      · cases h
    | slice el =>
      obtain ⟨rfl, hd⟩ := hd
      rcases hd with rfl | ⟨rfl, hfe, hse, _, hp, _⟩
      · simp [Ty.full] at hf
      obtain ⟨y, hy⟩ := Option.isSome_iff_exists.1 hse
      rw [tyOf_some hy] at hfe hp ⊢
      have hcy := cellsOf_eq hy hT
      simp only [hu] at h
      split at h <;> try (cases h; done)
      all_goals simp_all only [Option.some.injEq, TypeDesc.slice.injEq, reduceCtorEq]
      · exact ⟨([] : List _), .sl [] none 0 (fun _ => []) (Nat.le_refl _) (fun i hi => by simp at hi) (fun i hi => by simp at hi) (fun _ => rfl), fun _ g => ⟨Nat.zero_le _, fun z hz => nomatch hz⟩, fun g => by injection h with h; rw [← h]; exact hB.nil⟩
      · rename_i e a len cap hb1 hb2 hee
        subst hee
        split at h
        · rename_i hc
          cases h1 : (List.range len).mapM fun i => (W.cells? base (a.add (i * size E y.ty)) (size E y.ty)).bind (DataW.trod enc P W base spare held fuel el) with
          | none => simp [h1] at h
          | some xs =>
            simp only [h1, Option.bind_some, Option.map_eq_some_iff, Prod.mk.injEq] at h
            obtain ⟨rest, hrest, hd1, hd2⟩ := h
            obtain ⟨m1, m2⟩ := mapM_some h1
            simp only [List.length_range, List.getElem_range] at m1 m2
            let Bq : Nat → Nat := fun i => (xs.map fun x => f x.1).getD i 0
            have m3 : ∀ i : Nat, i < len → ∃ (cz : List Value) (z : E.D y.ty), W.cells? base (a.add (i * size E y.ty)) (size E y.ty) = some cz ∧ RC (memOf W) y.ty z cz ∧ (((d.weights P t).all (· ≤ reachBytes) = true) → ∀ g, Good E g y.ty z) ∧ ∀ g, Bulk E g y.ty z ≤ Bq i := by
              intro i hi
              obtain ⟨hi', e⟩ := m2 i hi
              cases hc : W.cells? base (a.add (i * size E y.ty)) (size E y.ty) with
              | none => simp [hc] at e
              | some cz =>
                rw [hc, Option.bind_some] at e
                obtain ⟨z, r1, r2, r3⟩ := trod_rc hB hE hT hR W base spare held fuel el y cz _ _ hy hfe e
                refine ⟨cz, z, rfl, r1, fun hw => r2 ?_, fun g => Nat.le_trans (r3 g) (by simp [Bq, hi'])⟩
                rw [← hd1] at hw
                simp only [DataW.weights, hu, List.all_cons, List.all_append, Bool.and_eq_true] at hw
                exact weightsAll_mem hw.2.1 _ (List.mem_map.2 ⟨xs[i], List.getElem_mem _, rfl⟩)
            let css : Nat → List Value := fun i => (W.cells? base (a.add (i * size E y.ty)) (size E y.ty)).getD []
            have m4 : ∀ i : Nat, i < len → ∃ z : E.D y.ty, W.cells? base (a.add (i * size E y.ty)) (size E y.ty) = some (css i) ∧ RC (memOf W) y.ty z (css i) ∧ (((d.weights P t).all (· ≤ reachBytes) = true) → ∀ g, Good E g y.ty z) ∧ ∀ g, Bulk E g y.ty z ≤ Bq i := by
              intro i hi
              obtain ⟨cz, z, c1, c2, c3⟩ := m3 i hi
              have : css i = cz := by simp [css, c1]
              rw [this]
              exact ⟨z, c1, c2, c3⟩
            obtain ⟨zs, hzl, hzs⟩ : ∃ zs : List (E.D y.ty), zs.length = len ∧ ∀ i (hi : i < zs.length), RC (memOf W) y.ty zs[i] (css i) ∧ (((d.weights P t).all (· ≤ reachBytes) = true) → ∀ g, Good E g y.ty zs[i]) ∧ ∀ g, Bulk E g y.ty zs[i] ≤ Bq i :=
              listOf (p := fun i z => RC (memOf W) y.ty z (css i) ∧ (((d.weights P t).all (· ≤ reachBytes) = true) → ∀ g, Good E g y.ty z) ∧ ∀ g, Bulk E g y.ty z ≤ Bq i) fun i hi => let ⟨z, _, z2⟩ := m4 i hi; ⟨z, z2⟩
            have hspot : 0 < len → a.spot = none := by
              intro h0
              obtain ⟨z, c1, _⟩ := m4 0 h0
              have := (cells_spec c1).2.1 hp
              simpa [Addr.add] using this
            refine ⟨zs, ?_, fun hw g => ⟨?_, fun z hz => ?_⟩, fun g => ?_⟩
            · have := RC.sl (M := memOf W) zs (some a) cap css (by omega) (fun i hi => (hzs i hi).1) (fun i hi => ⟨a, rfl, hspot (by omega), by
                obtain ⟨z, c1, c2, _⟩ := m4 i (by omega)
                have h5 := (cells_spec c1).2.2
                have h6 := hspot (by omega)
                have e1 : (a.add (i * size E y.ty)).block = a.block := by unfold Addr.add; split <;> rfl
                have e2 : (a.add (i * size E y.ty)).off = a.off + i * size E y.ty := by unfold Addr.add; split <;> simp_all
                rw [e1, e2] at h5
                exact .of (fun j hj => memOf_cell (h5 j hj) (c2.noT _ (List.getElem_mem _))) c2.noT⟩) (fun h => nomatch h)
              rwa [hzl] at this
            · show zs.length ≤ _
              rw [← hd1] at hw
              simp only [DataW.weights, hu, List.all_cons, List.all_append, Bool.and_eq_true, decide_eq_true_eq, List.length_map] at hw
              simp [rdOK] at hr
              have : xs.length ≤ (xs.length + rest.length) * P.bytesOf el := Nat.le_trans (Nat.le_add_right _ _) (Nat.le_mul_of_pos_right _ hr)
              omega
            · obtain ⟨i, hi, rfl⟩ := List.getElem_of_mem (show z ∈ zs from hz)
              exact (hzs i hi).2.1 hw g
            · rw [← hd1, hB.sl, hB.all]
              have : (List.map (Bulk E g y.ty) zs).sum ≤ (List.map f (xs.map (·.1))).sum := sum_le (by simp [hzl, m1]) fun i hi => by
                have h8 := (hzs i (by simpa using hi)).2.2 g
                have h9 : i < xs.length := by simp at hi; omega
                simpa [Bq, h9] using h8
              show (List.map (Bulk E g y.ty) zs).sum + 1 ≤ _
              omega
        · cases h
    | struct fs =>
      obtain ⟨⟨fields, rfl, hfs⟩, har, hfo⟩ := hd
      simp only [hu] at h
      split at h <;> try (cases h; done)
      all_goals simp_all only [Option.some.injEq, TypeDesc.struct.injEq, reduceCtorEq]
      rename_i hlen
      rw [Option.map_eq_some_iff] at h
      obtain ⟨xs, hxs, he⟩ := h
      simp only [Prod.mk.injEq] at he
      obtain ⟨hd1, hd2⟩ := he
      obtain ⟨m1, m2⟩ := mapM_some hxs
      have hfl : fs.length = fields.toList.length := by rw [← hfs, List.length_map]
      have hwt : wfTail (bodyOf E ty) = true ∧ (bodyOf E ty).full = true := by simpa [rdOK] using hr
      have hsb : size E (bodyOf E ty) = size E ty := by
        cases ty <;> first | rfl | exact (hE.sz _).symm
      have key := rd_flds (E := E) (memOf W) ((d.weights P t).all (· ≤ reachBytes) = true) (bodyOf E ty) cs (fun i => (xs.map fun x => f x.1).getD i 0) (by omega) hwt.1 (by
        intro i hi
        have hi2 : i < fs.length := by omega
        have hi3 : i < fields.toList.length := by omega
        obtain ⟨f1, f2, f3⟩ := fldsOK_spec hfo i hi2
        rw [Nat.zero_add, (wfTail_fld (E := E) hwt.1 i).1] at f1
        rw [Nat.zero_add, (wfTail_fld (E := E) hwt.1 i).2] at f2
        obtain ⟨y, hy⟩ := Option.isSome_iff_exists.1 f3
        have hg : fs[i] = (fields.toList[i].type, fields.toList[i].offset) := by
          have : fs[i]? = (fields.toList.map (fun f => (f.type, f.offset)))[i]? := by rw [hfs]
          rw [List.getElem?_eq_getElem hi2, List.getElem?_map, List.getElem?_eq_getElem hi3] at this
          simpa using this
        obtain ⟨hi', e⟩ := m2 i hi3
        rw [hg] at f1 f2 hy
        simp only at f1 f2 hy
        rw [tyOf_some hy] at f1
        have hfy : y.ty.full = true := by
          rw [← f1]
          exact fldTyS_full _ i hwt.2 hi
        rw [cellsOf_eq hy hT, ← f2] at e
        obtain ⟨z, r1, r2, r3⟩ := trod_rc hB hE hT hR W base spare held fuel _ y _ _ _ hy hfy e
        rw [f1]
        refine ⟨z, r1, fun hw => r2 ?_, fun g => Nat.le_trans (r3 g) (by simp [hi'])⟩
        rw [← hd1] at hw
        simp only [DataW.weights, hu] at hw
        have := weightsEach_get hw i (by simpa using hi3) (by simpa using hi')
        simpa using this)
      have hsum : sumN (fun i => (xs.map fun x => f x.1).getD i 0) (arity (bodyOf E ty)) ≤ f d := by
        rw [← hd1, hB.agg, hB.all, show arity (bodyOf E ty) = (xs.map fun x => f x.1).length by simp; omega, sumN_list]
        simp [Function.comp_def]
      cases ty with
      | nm n =>
        have key' : ∃ v : E.D (E.body n), RC (memOf W) (E.body n) v cs ∧ (((d.weights P t).all (· ≤ reachBytes) = true) → ∀ g, Good E g (E.body n) v) ∧ ∀ g, Bulk E g (E.body n) v ≤ _ := key
        obtain ⟨v, k1, k2, k3⟩ := key'
        refine ⟨E.ro n v, .nm (by rw [hE.un_ro]; exact k1), fun hw g => ?_, fun g => ?_⟩
        · cases g with
          | zero => trivial
          | succ g =>
            show Good0 E (GoodN E g) (E.body n) (E.un n (E.ro n v))
            rw [hE.un_ro]
            exact k2 hw g
        · cases g with
          | zero => exact Nat.zero_le _
          | succ g =>
            show Bulk0 E (BulkN E g) (E.body n) (E.un n (E.ro n v)) ≤ _
            rw [hE.un_ro]
            exact Nat.le_trans (k3 g) hsum
      | _ => obtain ⟨v, k1, k2, k3⟩ := key; exact ⟨v, k1, k2, fun g => Nat.le_trans (k3 g) hsum⟩
    | arr n el =>
      obtain ⟨rfl, rfl, hse⟩ := hd
      obtain ⟨y, hy⟩ := Option.isSome_iff_exists.1 hse
      have hfe : y.ty.full = true := by rw [tyOf_some hy] at hf; simpa [Ty.full] using hf
      rw [tyOf_some hy] at hsz ⊢
      have hcy := cellsOf_eq hy hT
      simp only [hu] at h
      split at h <;> try (cases h; done)
      all_goals simp_all only [Option.some.injEq, TypeDesc.array.injEq, reduceCtorEq]
      rename_i hlen
      rw [Option.map_eq_some_iff] at h
      obtain ⟨xs, hxs, he⟩ := h
      simp only [Prod.mk.injEq] at he
      obtain ⟨hd1, hd2⟩ := he
      obtain ⟨m1, m2⟩ := mapM_some hxs
      simp only [List.length_range, List.getElem_range] at m1 m2
      have m4 : ∀ i : Nat, i < n → ∃ z : E.D y.ty, RC (memOf W) y.ty z ((cs.drop (i * size E y.ty)).take (size E y.ty)) ∧ (((d.weights P t).all (· ≤ reachBytes) = true) → ∀ g, Good E g y.ty z) ∧ ∀ g, Bulk E g y.ty z ≤ (xs.map fun x => f x.1).getD i 0 := by
        intro i hi
        obtain ⟨hi', e⟩ := m2 i hi
        obtain ⟨z, r1, r2, r3⟩ := trod_rc hB hE hT hR W base spare held fuel el y _ _ _ hy hfe e
        refine ⟨z, r1, fun hw => r2 ?_, fun g => Nat.le_trans (r3 g) (by simp [hi'])⟩
        rw [← hd1] at hw
        simp only [DataW.weights, hu] at hw
        exact weightsAll_mem hw _ (List.mem_map.2 ⟨xs[i], List.getElem_mem _, rfl⟩)
      obtain ⟨zs, hzl, hzs⟩ : ∃ zs : List (E.D y.ty), zs.length = n ∧ ∀ i (hi : i < zs.length), RC (memOf W) y.ty zs[i] ((cs.drop (i * size E y.ty)).take (size E y.ty)) ∧ (((d.weights P t).all (· ≤ reachBytes) = true) → ∀ g, Good E g y.ty zs[i]) ∧ ∀ g, Bulk E g y.ty zs[i] ≤ (xs.map fun x => f x.1).getD i 0 :=
        listOf m4
      refine ⟨zs, ?_, fun hw g => ⟨hzl, fun z hz => ?_⟩, fun g => ?_⟩
      · have := RC.arr (M := memOf W) (e := y.ty) n zs ((List.range n).map fun i => (cs.drop (i * size E y.ty)).take (size E y.ty)) hzl (by simp) (fun i hi => by
          have : i < n := by omega
          have h5 := (hzs i hi).1
          simp only [List.getD_eq_getElem?_getD, List.getElem?_map, List.getElem?_range this, Option.map_some, Option.getD_some]
          exact h5)
        rwa [chunks (by simpa [size] using hlen)] at this
      · obtain ⟨i, hi, rfl⟩ := List.getElem_of_mem (show z ∈ zs from hz)
        exact (hzs i hi).2.1 hw g
      · rw [← hd1, hB.agg, hB.all]
        have : (List.map (Bulk E g y.ty) zs).sum ≤ (List.map f (xs.map (·.1))).sum := sum_le (by simp [hzl, m1]) fun i hi => by
          have h8 := (hzs i (by simpa using hi)).2.2 g
          have h9 : i < xs.length := by simp at hi; omega
          simpa [h9] using h8
        show (List.map (Bulk E g y.ty) zs).sum ≤ _
        omega
    | _ => simp [rdOK] at hr
end
end Go.Proofs.YtoegcppcmgbkmaaGreatDoor.Fv

/-! From what the evaluator answers to what a law's call does. -/
namespace Go.Proofs.YtoegcppcmgbkmaaGreatDoor.Fv
variable [Quiet]
open Go.WideShapes Go.RowKit
variable {E : Env} {P : Program} {tt : Nat → Option TE} {gl : Nat → AV E} {H : Hints}

/-- Whatever a law may be handed at parameters of these types. -/
inductive Ins (E : Env) (tt : Nat → Option TE) : List Nat → List (AV E) → Prop
  | nil : Ins E tt [] []
  | cons {t : Nat} {ts : List Nat} {as : List (AV E)} (x : TE) (hx : tt t = some x) (v : E.D x.ty) (hg : ∀ g, Good E g x.ty v) (r : Ins E tt ts as) : Ins E tt (t :: ts) (.t x.ty v :: as)

theorem cases1 {t : Nat} {x : TE} (hT : TFact P E tt t x) (hr : rdOK P E x = true) {W : World} {base : Nat} {v : Value} (hv : Value.okWide P W .any base t v) : v = mkV x.ty.agg v.cells.toList := by
  obtain ⟨u, hu, ha, hd⟩ := hT.und
  obtain ⟨ty, xd⟩ := x
  cases xd with
  | int k => obtain ⟨rfl, rfl⟩ := hd; obtain ⟨n, rfl⟩ := okWide_int hu hv; rfl
  | bool => obtain ⟨rfl, rfl⟩ := hd; obtain ⟨n, rfl⟩ := okWide_bool hu hv; rfl
  | str => obtain ⟨rfl, rfl⟩ := hd; obtain ⟨n, rfl⟩ := okWide_string hu hv; rfl
  | slice el =>
    obtain ⟨rfl, hd⟩ := hd
    obtain ⟨a, l, c, rfl⟩ := okWide_slice hu hv
    simp only at ha
    rw [← ha]
    rfl
  | struct fs =>
    obtain ⟨⟨fields, rfl, _⟩, _⟩ := hd
    obtain ⟨cs, rfl, _⟩ := okWide_struct hu hv
    simp only at ha
    rw [← ha]
    simp [mkV, aggD, Value.cells]
  | arr n el =>
    obtain ⟨rfl, rfl, _⟩ := hd
    unfold Value.okWide at hv
    rw [hu] at hv
    obtain ⟨cs, rfl, _⟩ := hv
    simp [mkV, Ty.agg, Value.cells]
  | _ => simp [rdOK] at hr

section
variable {Hh : Type} {enc : TypeId × Value → Hh}

def bulkA (E : Env) (g : Nat) : AV E → Nat
  | .t ty v => Bulk E g ty v
  | _ => 0
mutual
/-- A measure that counts something, for a law that asks for no bound. -/
def cnt : DataW Hh → Nat
  | .lit (.string b) => b.length + 1
  | .lit _ => 1
  | .nil => 1
  | .ptr _ => 1
  | .slice e s => cntAll e + cntAll s + 1
  | .agg p => cntAll p + 1
  | .iface _ _ => 1
  | .map _ => 1
  | .held _ => 1
def cntAll : List (DataW Hh) → Nat
  | [] => 0
  | d :: r => cnt d + cntAll r
end
theorem cnt_bulk : IsBulk (cnt : DataW Hh → Nat) cntAll where
  str b := by simp [cnt]
  lit l := by cases l <;> simp [cnt]
  nil := by simp [cnt]
  sl e s := by simp [cnt]
  agg p := by simp [cnt]
  ni := by simp [cntAll]
  co d r := by simp [cntAll]
/-- The arguments, read. -/
theorem args_read {bf : DataW Hh → Nat} {ba : List (DataW Hh) → Nat} (hB : IsBulk bf ba) (hE : EnvOK E) (hT : TOK P E tt) (hR : RdOK P E tt) (μ : Mu) (W : World) (base : Nat) : ∀ {ts : List Nat} {args : List Value} {ds : List (DataW Hh)} {ps : List MemPlace},
    DataW.TrodAll enc P W 0 (fun _ => true) true ts args ds ps → (DataW.weightsEach P ts ds).all (· ≤ reachBytes) = true →
    (∀ (j : Nat) t v, ts[j]? = some t → args[j]? = some v → Value.okWide P W .any base t v) →
    (∀ t ∈ ts, ∃ x, tt t = some x ∧ x.ty.full = true) → ∃ as, Ins E tt ts as ∧ RSL (memOf W) μ as args ∧ as.length = ts.length ∧ ∀ g, (as.map (bulkA E g)).sum ≤ ba ds
  | [], [], [], _, _, _, _, _ => ⟨[], .nil, .nil, rfl, fun _ => Nat.zero_le _⟩
  | t :: ts, v :: vs, d :: ds, _, h, hz, hv, ht => by
    obtain ⟨p, q, ⟨fuel, h1⟩, h2, _⟩ := h
    obtain ⟨x, hx, hf⟩ := ht t (by simp)
    simp only [DataW.weightsEach, List.all_append, Bool.and_eq_true] at hz
    obtain ⟨y, r1, r2, r4⟩ := trod_rc hB hE hT hR W 0 (fun _ => true) true fuel t x _ d p hx hf h1
    obtain ⟨as, i1, i2, i3, i4⟩ := args_read hB hE hT hR μ W base h2 hz.2 (fun j t' v' a b => hv (j + 1) t' v' (by simpa using a) (by simpa using b)) (fun t' h' => ht t' (by simp [h']))
    refine ⟨.t x.ty y :: as, .cons x hx y (r2 hz.1) i1, .cons ?_ i2, by simp [i3], fun g => by rw [hB.co, List.map_cons, List.sum_cons]; exact Nat.add_le_add (r4 g) (i4 g)⟩
    have := cases1 (hT t x hx) (hR t x hx hf) (hv 0 t v rfl rfl)
    rw [this]
    exact RS.v (a := .t x.ty y) (RV.t r1)
  | [], [], _ :: _, _, h, _, _, _ => h.elim
  | [], _ :: _, _, _, h, _, _, _ => by cases h
  | _ :: _, [], _, _, h, _, _, _ => by cases h
  | _ :: _, _ :: _, [], _, h, _, _, _ => by cases h

theorem ins_closed {ts : List Nat} {as : List (AV E)} (h : Ins E tt ts as) (b : List (Blk E)) : ∀ a ∈ as, OKA b a := by
  induction h with
  | nil => intro a ha; simp at ha
  | cons x hx v hg r ih =>
    intro a ha
    rcases List.mem_cons.1 ha with rfl | ha
    · exact .plain trivial (fun _ h => nomatch h) (fun _ h => nomatch h) (fun _ _ h => nomatch h)
    · exact ih a ha

theorem blk_repl (n i : Nat) : blk (List.replicate n (.none : Blk E)) i = .none := by
  simp only [blk, List.getD_eq_getElem?_getD, List.getElem?_replicate]
  split <;> rfl

/-- A LAW'S CALL: the evaluator says true at whatever it may be handed; so the call returns true and leaves all memory as it was. -/
theorem law_calls (hE : EnvOK E) (hz : ∀ (M : Mem) n, RC M (.nm n) (E.dfl n) (E.zc n)) (hT : TOK P E tt) (hR : RdOK P E tt) (hmix : P.follows .mixedOrders = true) {fs : FuncId → Option Func} (hfs : FsOK P fs)
    {f : FuncId} {ts : List Nat} {W : World} {base : Nat} {args : Array Value} {ds : List (DataW Hh)} {ps : List MemPlace} (hgl : GlOK (memOf W) gl)
    (hA : DataW.TrodAll enc P W 0 (fun _ => true) true ts args.toList ds ps) (hw : (DataW.weightsEach P ts ds).all (· ≤ reachBytes) = true)
    (hval : ∀ (j : Nat) t v, ts[j]? = some t → args[j]? = some v → Value.okWide P W .any base t v)
    (hts : ∀ t ∈ ts, ∃ x, tt t = some x ∧ x.ty.full = true)
    (pure : ∀ as, Ins E tt ts as → ∃ n outs, run tt gl H fs n f as (List.replicate ts.length .none) = some (.t .bool true, outs)) :
    Calls P f args W fun e w' => e = .returned (.bool true) ∧ Below W.heap.size W w' := by
  let μ : Mu := fun _ => ⟨0, fun _ => (none, 0)⟩
  obtain ⟨as, i1, i2, i3, _⟩ := args_read cnt_bulk hE hT hR μ W base hA hw (fun j t v a b => hval j t v a (by simpa using b)) hts
  obtain ⟨n, outs, hr⟩ := pure as i1
  have hwr : WR (memOf W) μ (List.replicate ts.length (.none : Blk E)) W :=
    ⟨memOf_holds W, fun i => by rw [blk_repl]; trivial, fun i j g h => by rw [blk_repl] at h; simp [Exc] at h, fun i ly a h => by rw [blk_repl] at h; cases h⟩
  refine ((calls_ok hE hz hT hmix hfs n f as _ _ _ hr).2 (memOf W) μ W args hgl hwr i2 (ins_closed i1 _)).mono ?_
  rintro e w' ⟨v, M', μ', rfl, tr, hret⟩
  constructor
  · obtain ⟨g, h1, _⟩ := hret
    obtain ⟨h1, _⟩ := h1
    congr 1
    generalize ha : (AV.t .bool true : AV E) = a at h1
    cases h1 with
    | undef => cases ha
    | c => cases ha
    | tup => cases ha
    | v h2 =>
      subst ha
      generalize ha : (AV.t .bool true : AV E) = a at h2
      cases h2 <;> try (cases ha; done)
      rename_i h3
      cases ha
      cases h3
      rfl
  · exact ⟨tr.os, tr.tape.eq, tr.output, tr.size, fun k hk => tr.frame k hk fun i => by rw [blk_repl]; simp [Exc]⟩

/-- The arguments read as they did. -/
theorem args_back {enc : TypeId × Value → Hh} (hl : laidOutB P = true) {W W' : World} (hb : Below W.heap.size W W') : ∀ {ts : List Nat} {args : List Value} {ds : List (DataW Hh)} {ps : List MemPlace},
    (ts.all fun t => P.readableRec t && decide (t < P.types.size)) = true →
    DataW.TrodAll enc P W 0 (fun _ => true) true ts args ds ps → DataW.TrodAll enc P W' 0 (fun b => decide (b < W.heap.size)) true ts args ds ps
  | [], [], [], _, _, h => h
  | t :: ts, v :: vs, d :: ds, _, hr, h => by
    obtain ⟨p, q, h1, h2, h3⟩ := h
    simp only [List.all_cons, Bool.and_eq_true, decide_eq_true_eq] at hr
    have lt : ∀ x ∈ p, x.block < W.heap.size := by obtain ⟨m, hm⟩ := h1; exact DataW.trod_lt m _ _ _ hm
    exact ⟨p, q, RowKit.Below.trod hl hr.1.1 hr.1.2 h1 hb lt, args_back hl hb hr.2 h2, h3⟩
  | [], [], _ :: _, _, _, h => h.elim
  | [], _ :: _, _, _, _, h => by cases h
  | _ :: _, [], _, _, _, h => by cases h
  | _ :: _, _ :: _, [], _, _, h => by cases h
end
end Go.Proofs.YtoegcppcmgbkmaaGreatDoor.Fv
