/- An evaluator of the model's code, part 6: A function that guards a call by recover: the pieces. No condition. -/
import Derived.Test.YtbmpjppfdeohnaaDoorFvE
import Derived.Recover
import Derived.Tactics
set_option linter.unusedVariables false
set_option linter.unusedSectionVars false
set_option linter.unusedSimpArgs false
/-! A function that guards a call by recover: the pieces. -/
namespace Go.Proofs.YtbmpjppfdeohnaaDoor.Fv
variable [Quiet]
variable {E : Env} {P : Program} {tt : Nat → Option TE} {gl : Nat → AV E} {H : Hints}

/-- The three pieces of a body. -/
def r0Of (f : Func) : Code := match f.body with
  | some (.seq a _) => a
  | _ => .skip
def r1Of (f : Func) : Code := match f.body with
  | some (.seq _ (.seq b _)) => b
  | _ => .skip
def restOf (f : Func) : Code := match f.body with
  | some (.seq _ (.seq _ c)) => c
  | _ => .skip
def seqA : Code → Code
  | .seq a _ => a
  | c => c
def seqB : Code → Code
  | .seq _ b => b
  | c => c
/-- The state as an answer. -/
def stK : Ex → St E → Out E
  | .normal, s => some (.tup s.t, s.b)
  | _, _ => none
theorem stK_eq {e : Ex} {s : St E} {l : List (AV E)} {b : List (Blk E)} (h : stK e s = some (.tup l, b)) : e = .normal ∧ s = ⟨l, b⟩ := by
  cases e with
  | normal =>
    injection h with h
    injection h with h1 h2
    injection h1 with h1
    cases s
    cases h1
    cases h2
    exact ⟨rfl, rfl⟩
  | _ => cases h
/-- What lies in the two results' places. -/
def finG (p q : Nat) (V : Ty) : Ex → St E → Option (E.D V × Bool)
  | .exit _, _ => none
  | _, s => match s.t.getD p .undef, s.t.getD q .undef with
    | .ptr p' lp [], .ptr q' lq [] => bif Nat.beq p' p && Nat.beq q' q && decide (lp = V) && decide (lq = .bool) then (castV V V (blk s.b p)).bind fun v => (castV .bool .bool (blk s.b q)).bind fun b => (noneB (blk s.b 0)).bind fun _ => (noneB (blk s.b 1)).map fun _ => (v, b) else none
    | _, _ => none
def finGk (p q : Nat) (V : Ty) (e : Ex) (s : St E) : Out E := (finG p q V e s).map fun r => (.tup [.t V r.1, .t .bool r.2], [.none, .none])
theorem finG_eq {p q : Nat} {V : Ty} {e : Ex} {s : St E} {r : E.D V × Bool} (h : finG p q V e s = some r) :
    (∀ id, e ≠ .exit id) ∧ s.t.getD p .undef = .ptr p V [] ∧ s.t.getD q .undef = .ptr q .bool [] ∧ blk s.b p = .var V (.t V r.1) ∧ blk s.b q = .var .bool (.t .bool r.2) ∧ blk s.b 0 = .none ∧ blk s.b 1 = .none := by
  have go : (match s.t.getD p .undef, s.t.getD q .undef with
    | .ptr p' lp [], .ptr q' lq [] => bif Nat.beq p' p && Nat.beq q' q && decide (lp = V) && decide (lq = .bool) then (castV V V (blk s.b p)).bind fun v => (castV .bool .bool (blk s.b q)).bind fun b => (noneB (blk s.b 0)).bind fun _ => (noneB (blk s.b 1)).map fun _ => ((v, b) : E.D V × Bool) else none
    | _, _ => none) = some r → s.t.getD p .undef = .ptr p V [] ∧ s.t.getD q .undef = .ptr q .bool [] ∧ blk s.b p = .var V (.t V r.1) ∧ blk s.b q = .var .bool (.t .bool r.2) ∧ blk s.b 0 = .none ∧ blk s.b 1 = .none := by
    intro h
    split at h
    · rename_i p' lp q' lq h1 h2
      obtain ⟨hc, h9⟩ := bif_some h
      clear h
      simp only [Bool.and_eq_true] at hc
      obtain ⟨⟨⟨k1, k2⟩, k3⟩, k4⟩ := hc
      have k1 := Nat.eq_of_beq_eq_true k1
      have k2 := Nat.eq_of_beq_eq_true k2
      have k3 := of_decide_eq_true k3
      have k4 := of_decide_eq_true k4
      subst k1 k2 k3 k4
      obtain ⟨v, h3, h4⟩ := Option.bind_eq_some_iff.1 h9
      obtain ⟨b, h5, h6⟩ := Option.bind_eq_some_iff.1 h4
      obtain ⟨_, h7, h8⟩ := Option.bind_eq_some_iff.1 h6
      obtain ⟨_, h10, h11⟩ := Option.map_eq_some_iff.1 h8
      subst h11
      exact ⟨h1, h2, castV_sp h3, castV_sp h5, noneB_sp h7, noneB_sp h10⟩
    · cases h
  cases e with
  | exit id => cases h
  | normal => exact ⟨fun _ h => (by cases h), go h⟩
  | ret => exact ⟨fun _ h => (by cases h), go h⟩
/-- The state in which the results' places have been made. -/
def stG (nt p q : Nat) (V : Ty) (cl : FuncId) (cs : List (Cap E)) (s : List UInt8) : St E :=
  ⟨mkT nt 0 [(0, .func cl cs), (1, .t .str s), (p, .ptr p V []), (q, .ptr q .bool [])], mkB (4 * nt) 0 [(p, .var V (.t V (dfl E V))), (q, .var .bool (.t .bool false))]⟩
/-- What comes behind the deferring, when nothing panics. -/
def FG (tt : Nat → Option TE) (gl : Nat → AV E) (H : Hints) (call : Call2 E) (fuel : Nat) (g : FuncId) (rest : Code) (nt p q : Nat) (V : Ty) (cl : FuncId) (l : List Ty) (x : capD E l) (s : List UInt8) : Option (E.D V × Bool) :=
  exec2 tt gl H 2 call fuel g rest 0 (finG p q V) (stG nt p q V cl (encCap l x) s)
def moreG (g cl : FuncId) (l : List Ty) (V : Ty) (pan : capD E l → List UInt8 → Bool) (F : capD E l → List UInt8 → Option (E.D V × Bool)) (prev : Call2 E) : Call2 E := fun f as ins =>
  bif Nat.beq f g then match decs 0 [.fn cl l, .t .str] as ins with
    | some x => some ⟨E.D V × Bool, bif pan x.1 x.2.1 then some (dfl E V, false) else F x.1 x.2.1, fun r => (.tup [.t V r.1, .t .bool r.2], [.none, .none])⟩
    | none => none
  else prev f as ins
/-- What is to be known of the guarding function. -/
def GuardC (P : Program) (gl : Nat → AV E) (g cl : FuncId) (l : List Ty) (V : Ty) (pan : capD E l → List UInt8 → Bool) (F : capD E l → List UInt8 → Option (E.D V × Bool)) : Prop :=
  ∀ (M : Mem) (μ : Mu) (w : World) (args : Array Value) (x : capD E l) (s : List UInt8) (r : E.D V × Bool), GlOK M gl → WR M μ ([.none, .none] : List (Blk E)) w → RSL M μ [.func cl (encCap l x), .t .str s] args.toList →
    (bif pan x s then some (dfl E V, false) else F x s) = some r → Calls P g args w fun e w' => ∃ v M' μ', e = .returned v ∧ Tr 2 M μ ([.none, .none] : List (Blk E)) w M' μ' [.none, .none] w' ∧ RetA (Taken μ ([.none, .none] : List (Blk E)) [.none, .none]) M' μ' [.none, .none] w w' (.tup [.t V r.1, .t .bool r.2]) v
theorem moreG_ok {prev : Call2 E} (ok : CallOK P gl (callR prev)) {g cl : FuncId} {l : List Ty} {V : Ty} {pan : capD E l → List UInt8 → Bool} {F : capD E l → List UInt8 → Option (E.D V × Bool)} (hfn : FnOK P g) (hg : GuardC P gl g cl l V pan F) :
    CallOK P gl (callR (moreG g cl l V pan F prev)) := by
  intro f as ins r outs h
  by_cases hf : f = g
  · subst hf
    cases hd : decs 0 [.fn cl l, .t .str] as ins with
    | none =>
      have : callR (moreG f cl l V pan F prev) f as ins = none := by simp [callR, moreG, hd]
      rw [this] at h
      cases h
    | some x =>
      have h1 : ((bif pan x.1 x.2.1 then some (dfl E V, false) else F x.1 x.2.1).map fun r => ((.tup [.t V r.1, .t .bool r.2], [.none, .none]) : AV E × List (Blk E))) = some (r, outs) := by
        rw [← h]
        simp [callR, moreG, hd]
      obtain ⟨q, h2, h3⟩ := Option.map_eq_some_iff.1 h1
      obtain ⟨e1, e2⟩ := decs_spec hd
      obtain ⟨x, s, u⟩ := x
      cases u
      have e1 : as = [.func cl (encCap l x), .t .str s] := e1
      have e2 : ins = [.none, .none] := e2
      subst e1 e2
      injection h3 with h4 h5
      subst h4 h5
      exact ⟨⟨hfn, by simp⟩, fun M μ w args hgl hw hl _ => hg M μ w args x s q hgl hw hl h2⟩
  · refine ok f as ins r outs ?_
    rw [← h]
    have : Nat.beq f g = false := by
      cases hb : Nat.beq f g with
      | false => rfl
      | true => exact absurd (Nat.eq_of_beq_eq_true hb) hf
    simp [callR, moreG, this]
theorem SR.undefer {D : Dfr} {M : Mem} {μ : Mu} {s : St E} {a : Act} {w : World} (h : @SR E D M μ s a w) : @SR E dfr0 M μ s { tmps := a.tmps, defers := [] } w := @SR.mk E dfr0 M μ s { tmps := a.tmps, defers := [] } w rfl h.size h.tmps h.ok h.wr
/-- What a guarded function hands back, at its end. -/
theorem guard_done (hE : EnvOK E) (hT : TOK P E tt) {g : FuncId} {fn : Func} {aa : List (AV E)} {p q tv tb : Nat} {V : Ty} (hres : fn.results = #[.cell p tv, .cell q tb]) (hv : tyOf tt tv = V) (hb : tyOf tt tb = .bool) (hsv : (tt tv).isSome = true) (hsb : (tt tb).isSome = true) {M : Mem} {μ : Mu} {w : World}
    {s : St E} {tmps : Array Value} {w' : World} {v : E.D V} {c : Bool} (hI : Inv gl ⟨2, M, μ, (Fv.start fn aa [.none, .none]).b, w⟩ s { tmps := tmps, defers := [] } w')
    (h1 : s.t.getD p .undef = .ptr p V []) (h2 : s.t.getD q .undef = .ptr q .bool []) (h3 : blk s.b p = .var V (.t V v)) (h4 : blk s.b q = .var .bool (.t .bool c)) (h5 : blk s.b 0 = .none) (h6 : blk s.b 1 = .none) :
    ∃ v0, (results fn tmps).run P w' = .ok v0 w' ∧ ∃ M' μ', Tr 2 M μ ([.none, .none] : List (Blk E)) w M' μ' [.none, .none] w' ∧ RetA (Taken μ ([.none, .none] : List (Blk E)) [.none, .none]) M' μ' [.none, .none] w w' (.tup [.t V v, .t .bool c]) v0 := by
  have hlen : s.b.length = (Fv.start fn aa [.none, .none]).b.length := by obtain ⟨_, _, tr, _⟩ := hI; exact tr.len
  have hl2 : 2 ≤ s.b.length := by rw [hlen]; simp [Fv.start]
  have htake : s.b.take 2 = [.none, .none] := by
    match hs : s.b, hl2 with
    | x :: y :: l, _ =>
      rw [hs] at h5 h6
      have e1 : x = .none := h5
      have e2 : y = .none := h6
      rw [e1, e2]
      rfl
  have hz : ∀ ty, inR E ty [] = true := fun ty => by cases ty <;> rfl
  have r1 : resA tt s.b s.t (.cell p tv) = some (.t V v) := by
    have e : subTy E V [] = V := by cases V <;> rfl
    unfold resA
    simp only [h1, ptrId, h3, look, hsv, hv, e, decide_true, Bool.and_self, cond_true, getP, rcd, rc, hz]
  have r2 : resA tt s.b s.t (.cell q tb) = some (.t .bool c) := by
    have e : subTy E .bool [] = .bool := rfl
    unfold resA
    simp only [h2, ptrId, h4, look, hsb, hb, e, decide_true, Bool.and_self, cond_true, getP, rcd, rc, hz]
  have hf : fin tt ([.none, .none] : List (Blk E)).length fn.results.toList (.tup [.t V, .t .bool]) .ret s = some (.tup [.t V v, .t .bool c], [.none, .none]) := by
    rw [hres]
    simp only [fin, retsA, rets, r1, r2, Option.bind_some, ret1, toT, cst, gone, goneOf, List.length_cons, List.length_nil]
    simp [nodup, htake, back1]
    rfl
  obtain ⟨_, v0, k1, v1, M', μ', k2, k3, k4⟩ := inv_done (f := g) hE hT (by simp) hf hI
  cases k2
  exact ⟨v0, k1, M', μ', k3, k4⟩
end Go.Proofs.YtbmpjppfdeohnaaDoor.Fv
