/- An evaluator of the model's code, part 4: The evaluator once more, in the form that is reckoned with: answers of any type, calls by their own functions, loops that are let go at their back edge; and it answers as the first one does. No condition. -/
import Derived.Test.YtmkocofcohmnpaaFvC
set_option linter.unusedVariables false
set_option linter.unusedSectionVars false
set_option linter.unusedSimpArgs false
/-! The evaluator once more, in the form that is reckoned with: answers of any type, calls by their own functions, loops that are let go at their back edge; and it answers as the first one does. -/
namespace Go.Proofs.Ytmkocofcohmnpaa.Fv
open Go.RowKit
variable {E : Env}

/-- What a call comes to: a reckoning of its own, and how its answer is read. -/
structure Ans (E : Env) where
  ty : Type
  val : Option ty
  wr : ty → AV E × List (Blk E)
abbrev Call2 (E : Env) := FuncId → List (AV E) → List (Blk E) → Option (Ans E)
def callR (call : Call2 E) : CallF E := fun f as ins => match call f as ins with
  | some x => x.val.map x.wr
  | none => none

section
variable (tt : Nat → Option TE) (gl : Nat → AV E) (H : Hints) {α : Type}

/-- What is handed over, and on which condition. -/
def pass2 (b : List (Blk E)) (consumes : Bool) (pi : Nat) (ty : Ty) (a : AV E) : Option (Bool × AV E × Blk E × Option Nat) :=
  match consumes, a with
  | true, .sl id e xs => match blk b id with
    | .grow e' n => bif decide (e' = e) then some (decide (n = xs.length), .sl pi e xs, .grow e n, some id) else none
    | _ => none
  | c, a => match pass1 b c pi ty a with
    | some (x, y, o) => some (true, x, y, o)
    | none => none
def passL2 (b : List (Blk E)) (cons : List Nat) : Nat → List (Nat × AV E) → Option (Bool × List (AV E) × List (Blk E) × List (Nat × Nat))
  | _, [] => some (true, [], [], [])
  | pi, (t, x) :: l => match pass2 b (cons.contains pi) pi (tyOf tt t) (caN tt t x), passL2 b cons (pi + 1) l with
    | some (c, a, bb, o), some (c', as, bs, os) => some (c && c', a :: as, bb :: bs, (match o with
      | some id => (pi, id) :: os
      | none => os))
    | _, _ => none
def castS2 (p : Nat) (e : Ty) : AV E → Blk E → Option (Bool × List (E.D e))
  | .sl p' a v, .grow a' n => bif decide (p' = p) && decide (a' = a) then match cst (.sl a) (.sl e) v with
      | some (v' : List (E.D e)) => some (decide (n = v.length), v')
      | none => none
    else none
  | _, _ => none
def recvK2 (outs : List (Blk E)) (b : List (Blk E)) (back : List (Nat × Nat)) (id : Nat) (sh : RSh) (a : AV E) (k : AV E → Upd E → Option α) : Option α :=
  match sh with
  | .inp p e => match castS2 p e a (blk outs p) with
    | some (c, xs) => bif c then match back.lookup p with
      | some id => k (.sl id e xs) []
      | none => none
      else none
    | none => none
  | sh => recvK outs b back id sh a k
def recvsK2 (outs : List (Blk E)) (b : List (Blk E)) (back : List (Nat × Nat)) (step : Nat) : Nat → List RSh → List (AV E) → (List (AV E) → Upd E → Option α) → Option α
  | _, [], _, k => k [] []
  | id, sh :: shs, as, k => recvK2 outs b back id sh (as.headD .undef) fun a u => recvsK2 outs b back step (id + step) shs as.tail fun l v => k (a :: l) (u ++ v)
def recvAll2 (outs : List (Blk E)) (b : List (Blk E)) (back : List (Nat × Nat)) (step d : Nat) (sh : RSh) (a : AV E) (k : AV E → Upd E → Option α) : Option α :=
  match sh with
  | .tup shs => bif decide (0 < shs.length) && decide (shs.length = (asTup a).length) then recvsK2 outs b back step (d + step) shs (asTup a) fun l u => k (.tup l) u else none
  | sh => recvK2 outs b back d sh a k

def callK2 (call : Call2 E) (b : List (Blk E)) (step : Nat) (f : FuncId) (cs : List (Cap E)) (sh : RSh) (args : List (Nat × AV E)) (d : Nat) (k : Cl → AV E → Upd E → Option α) : Option α :=
  match passL2 tt b (H.cons f) 0 args with
  | some (c, as, ins, back) => bif c then (bif nodup (back.map (·.2)) then match call f (as ++ cs.map fun c => .imm c.ty c.v) (ins ++ cs.map fun _ => .none) with
      | some x => x.val.bind fun r => recvAll2 (x.wr r).2 b back step d sh (x.wr r).1 fun a u => backK (x.wr r).2 b back fun v => bif nodup ((u ++ v).map (·.1)) then k (callCl (plainAs (H.cons f) 0 args && simpleSh sh) (u ++ v)) a (u ++ v) else none
      | none => none
    else none) else none
  | none => none

def stepK2 (call : Call2 E) (f : FuncId) (s : St E) (o : Oper) (k : Cl → AV E → Upd E → Option α) : Option α :=
  let d := o.dst.getD 100000
  let l := o.op.operands.toList.map (evo gl s.t)
  match o.op, l with
  | .call c, l => match c.callee, l with
    | .builtin bi, l => match pureA tt o.op o.type l with
      | some (c, a) => bif c then k .p a [] else none
      | none => match wA tt H f s.b o.op o.type d l with
        | some (c, a, u) => bif c then k (.w (u.map (·.1))) a u else none
        | none => none
    | .value (.func g), _ :: l => bif decide (c.argTypes.size = l.length) then callK2 tt H call s.b s.t.length g [] (H.rsh g) (c.argTypes.toList.zip l) d k else none
    | .value _, .func g cs :: l => bif decide (c.argTypes.size = l.length) then callK2 tt { H with cons := fun _ => [] } call s.b s.t.length g cs (.t (tyOf tt o.type)) (c.argTypes.toList.zip l) d k else none
    | _, _ => none
  | op, l => match (match H.asagg f d with | [] => pureA tt op o.type l | _ => none) with
    | some (c, a) => bif c then k .p a [] else none
    | none => match op, l with
      | .load t _, [a] => match ptrId a with
        | some id => match look tt (blk s.b id) a t with
          | some (c, x) => bif c then k (.l id) x [] else none
          | none => none
        | none => none
      | op, l => match wA tt H f s.b op o.type d l with
        | some (c, a, u) => bif c then k (.w (u.map (·.1))) a u else none
        | none => none

def opsK2 (call : Call2 E) (f : FuncId) (all : List Oper) : List Oper → List Cl → St E → (List Cl → St E → Option α) → Option α
  | [], acc, s, k => k acc.reverse s
  | o :: r, acc, s, k =>
    let go := fun (s : St E) => stepK2 tt gl H call f s o fun c a u => opsK2 call f all r (c :: acc) (s.did o.dst a u) k
    let skip := fun (s : St E) => opsK2 call f all r (.p :: acc) (s.did o.dst (.c (.tuple #[])) []) k
    match o.guard with
    | none => go s
    | some (j, want) => match dstOf all j with
      | none => none
      | some d => match s.t.getD d .undef with
        | .t .bool b => bif b then (let s' := { s with t := s.t.set d (bl true) }; bif want then go s' else skip s')
                        else (let s' := { s with t := s.t.set d (bl false) }; bif want then skip s' else go s')
        | .c v => bif noB v then skip s else none
        | _ => none

/-- A loop from its head on: what isn't kept is let go behind each round. -/
def loop2 (np : Nat) (body : (Ex → St E → Option α) → St E → Option α) (k : List (Nat × Nat)) (kb : List Nat) (K : Ex → St E → Option α) : Nat → St E → Option α
  | 0, _ => none
  | n + 1, s => body (fun e s => match e with
      | .normal => match prune np k kb s with
        | some s => loop2 np body k kb K n s
        | none => none
      | e => K e s) s

def kSeq2 (g : (Ex → St E → Option α) → St E → Option α) (K : Ex → St E → Option α) : Ex → St E → Option α
  | .normal, s => g K s
  | e, s => K e s
def kBlock2 (id : Nat) (K : Ex → St E → Option α) : Ex → St E → Option α
  | .exit id', s => bif id' == id then K .normal s else K (.exit id') s
  | e, s => K e s

section
variable (np : Nat) (call : Call2 E) (fuel : Nat) (f : FuncId)
def exec2 : Code → Nat → (Ex → St E → Option α) → St E → Option α
  | .skip, _, k, s => k .normal s
  | .ret, _, k, s => k .ret s
  | .exit id, _, k, s => k (.exit id) s
  | .seq a b, bid, k, s => exec2 a bid (kSeq2 (exec2 b bid) k) s
  | .cond c a b, bid, k, s => match evo gl s.t c with
    | .t .bool v => bif v then exec2 a bid k s else exec2 b bid k s
    | _ => none
  | .block id c, _, k, s => exec2 c id (kBlock2 id k) s
  | .loop c, bid, k, s => match prune np (H.keep f bid) (H.keepB f bid) s with
    | some s => loop2 np (exec2 c bid) (H.keep f bid) (H.keepB f bid) k fuel s
    | none => none
  | .region _ o false, _, k, s => opsK2 tt gl H call f o.toList o.toList [] s fun _ s => k .normal s
  | .region _ o true, _, k, s => opsK2 tt gl H call f o.toList o.toList [] s fun cls s => bif freeOrder o.toList cls then k .normal s else none
  | _, _, _, _ => none
end
end

section
variable {tt : Nat → Option TE} {gl : Nat → AV E} {H : Hints} {α : Type} {call : Call2 E}

theorem pass2_eq (b : List (Blk E)) (c : Bool) (pi : Nat) (ty : Ty) (a : AV E) : pass1 b c pi ty a = (pass2 b c pi ty a).bind fun x => bif x.1 then some x.2 else none := by
  have gen : ∀ o : Option (AV E × Blk E × Option Nat), o = (match o with | some (x, y, o) => some (true, x, y, o) | none => none).bind fun x => bif x.1 then some x.2 else none := by
    intro o
    cases o <;> rfl
  cases c with
  | false => exact gen _
  | true =>
    cases a with
    | sl id e xs =>
      simp only [pass1, pass2, cond_true]
      cases blk b id with
      | grow e' n =>
        simp only []
        cases decide (e' = e) <;> cases decide (n = xs.length) <;> rfl
      | _ => rfl
    | _ => exact gen _
theorem passL2_eq (b : List (Blk E)) (cons : List Nat) : ∀ (l : List (Nat × AV E)) (pi : Nat), passL tt b cons pi l = (passL2 tt b cons pi l).bind fun x => bif x.1 then some x.2 else none
  | [], pi => rfl
  | (t, x) :: l, pi => by
    simp only [passL, passL2, pass2_eq, passL2_eq b cons l (pi + 1)]
    cases pass2 b (cons.contains pi) pi (tyOf tt t) (caN tt t x) with
    | none => rfl
    | some y =>
      obtain ⟨c, a, bb, o⟩ := y
      cases passL2 tt b cons (pi + 1) l with
      | none => cases c <;> rfl
      | some z =>
        obtain ⟨c', as, bs, os⟩ := z
        cases c <;> cases c' <;> rfl
theorem castS2_eq (p : Nat) (e : Ty) (a : AV E) (bb : Blk E) : castS p e a bb = (castS2 p e a bb).bind fun x => bif x.1 then some x.2 else none := by
  cases a with
  | sl p' a v =>
    cases bb with
    | grow a' n =>
      simp only [castS, castS2]
      cases decide (p' = p) <;> cases decide (a' = a) <;> cases hd : decide (n = v.length) <;> cases cst (.sl a) (.sl e) v <;> rfl
    | _ => rfl
  | _ => cases bb <;> rfl
theorem recvK2_eq (outs b : List (Blk E)) (back : List (Nat × Nat)) (id : Nat) (sh : RSh) (a : AV E) (k : AV E → Upd E → Option α) : recvK2 outs b back id sh a k = recvK outs b back id sh a k := by
  cases sh with
  | inp p e =>
    simp only [recvK2, recvK, castS2_eq]
    cases castS2 p e a (blk outs p) with
    | none => rfl
    | some x =>
      obtain ⟨c, xs⟩ := x
      cases c <;> rfl
  | _ => rfl
theorem recvsK2_eq (outs b : List (Blk E)) (back : List (Nat × Nat)) (step : Nat) : ∀ (shs : List RSh) (id : Nat) (as : List (AV E)) (k : List (AV E) → Upd E → Option α), recvsK2 outs b back step id shs as k = recvsK outs b back step id shs as k
  | [], _, _, _ => rfl
  | sh :: shs, id, as, k => by
    simp only [recvsK2, recvsK, recvK2_eq, recvsK2_eq outs b back step shs]
theorem recvAll2_eq (outs b : List (Blk E)) (back : List (Nat × Nat)) (step d : Nat) (sh : RSh) (a : AV E) (k : AV E → Upd E → Option α) : recvAll2 outs b back step d sh a k = recvAll outs b back step d sh a k := by
  cases sh with
  | tup l => simp only [recvAll2, recvAll, recvsK2_eq]
  | _ => simp only [recvAll2, recvAll, recvK2_eq]

theorem callK2_eq (b : List (Blk E)) (step : Nat) (f : FuncId) (cs : List (Cap E)) (sh : RSh) (args : List (Nat × AV E)) (d : Nat) (k : Cl → AV E → Upd E → Option α) :
    callK2 tt H call b step f cs sh args d k = callK tt H (callR call) b step f cs sh args d k := by
  unfold callK2 callK
  rw [passL2_eq]
  cases h : passL2 tt b (H.cons f) 0 args with
  | none => rfl
  | some x =>
    obtain ⟨c, as, ins, back⟩ := x
    cases c with
    | false => rfl
    | true =>
      simp only [callR, Option.bind_some, cond_true, recvAll2_eq]
      congr 1
      cases call f (as ++ cs.map fun c => .imm c.ty c.v) (ins ++ cs.map fun _ => .none) with
      | none => rfl
      | some x => cases hx : x.val <;> simp [hx]

theorem stepK2_eq (f : FuncId) (s : St E) (o : Oper) (k : Cl → AV E → Upd E → Option α) : stepK2 tt gl H call f s o k = stepK tt gl H (callR call) f s o k := by
  unfold stepK2 stepK
  simp only [callK2_eq]
  rfl

theorem opsK2_eq (f : FuncId) (all : List Oper) : ∀ (l : List Oper) (acc : List Cl) (s : St E) (k : List Cl → St E → Option α), opsK2 tt gl H call f all l acc s k = opsK tt gl H (callR call) f all l acc s k
  | [], acc, s, k => rfl
  | o :: r, acc, s, k => by
    have h1 : ∀ s : St E, (stepK2 tt gl H call f s o fun c a u => opsK2 tt gl H call f all r (c :: acc) (s.did o.dst a u) k) = stepK tt gl H (callR call) f s o fun c a u => opsK tt gl H (callR call) f all r (c :: acc) (s.did o.dst a u) k := by
      intro s
      rw [stepK2_eq]
      congr 1
      funext c a u
      exact opsK2_eq f all r _ _ _
    have h2 : ∀ s : St E, opsK2 tt gl H call f all r (.p :: acc) (s.did o.dst (.c (.tuple #[])) []) k = opsK tt gl H (callR call) f all r (.p :: acc) (s.did o.dst (.c (.tuple #[])) []) k := fun s => opsK2_eq f all r _ _ _
    unfold opsK2 opsK
    simp only [h1, h2]
    cases o.guard with
    | none => rfl
    | some g =>
      obtain ⟨j, want⟩ := g
      simp only
      cases dstOf all j with
      | none => rfl
      | some d =>
        simp only
        cases s.t.getD d .undef with
        | t ty v => cases ty <;> rfl
        | _ => rfl

theorem opsK2_nat {β : Type} (g : α → Option β) (f : FuncId) (all : List Oper) : ∀ (l : List Oper) (acc : List Cl) (s : St E) (k : List Cl → St E → Option α), (opsK2 tt gl H call f all l acc s k).bind g = opsK2 tt gl H call f all l acc s fun c s => (k c s).bind g
  | [], acc, s, k => rfl
  | o :: r, acc, s, k => by
    have h1 : ∀ s : St E, (stepK2 tt gl H call f s o fun c a u => opsK2 tt gl H call f all r (c :: acc) (s.did o.dst a u) k).bind g = stepK2 tt gl H call f s o fun c a u => opsK2 tt gl H call f all r (c :: acc) (s.did o.dst a u) fun c s => (k c s).bind g := by
      intro s
      rw [stepK2_eq, stepK2_eq, stepK_nat, stepK_nat, Option.bind_assoc]
      congr 1
      funext x
      exact opsK2_nat g f all r _ _ _
    have h2 : ∀ s : St E, (opsK2 tt gl H call f all r (.p :: acc) (s.did o.dst (.c (.tuple #[])) []) k).bind g = opsK2 tt gl H call f all r (.p :: acc) (s.did o.dst (.c (.tuple #[])) []) fun c s => (k c s).bind g := fun s => opsK2_nat g f all r _ _ _
    unfold opsK2
    simp only []
    split
    · exact h1 s
    · rename_i j want _
      split
      · rfl
      · split
        · rename_i b _
          cases b <;> cases want <;> first | exact h1 _ | exact h2 _
        · rename_i v _
          cases noB v
          · rfl
          · exact h2 _
        · rfl

section
variable {np : Nat} {fuel : Nat} {f : FuncId}

theorem loop2_eq {B : (Ex → St E → Out E) → St E → Out E} {k : List (Nat × Nat)} {kb : List Nat} {K : Ex → St E → Out E} : ∀ (n : Nat) (s : St E),
    (match prune np k kb s with | some s => loop2 np B k kb K n s | none => none) = loopN np B k kb K n s
  | 0, s => by
    simp only [loopN, loop2]
    split <;> rfl
  | n + 1, s => by
    simp only [loopN]
    cases hs : prune np k kb s with
    | none => rfl
    | some s' =>
      simp only [loop2]
      congr 1
      funext e t
      cases e with
      | normal => exact loop2_eq n t
      | _ => rfl

theorem kSeq2_eq : (kSeq2 (E := E) (α := AV E × List (Blk E))) = kSeq := by
  funext g K e s
  cases e <;> rfl
theorem kBlock2_eq : (kBlock2 (E := E) (α := AV E × List (Blk E))) = kBlock := by
  funext g K e s
  cases e <;> rfl

theorem exec2_eq : ∀ (c : Code) (bid : Nat) (k : Ex → St E → Out E) (s : St E), exec2 tt gl H np call fuel f c bid k s = exec tt gl H np (callR call) fuel f c bid k s
  | .skip, _, _, _ => rfl
  | .ret, _, _, _ => rfl
  | .exit _, _, _, _ => rfl
  | .seq a b, bid, k, s => by
    simp only [exec2, exec]
    rw [exec2_eq a, kSeq2_eq]
    congr 2
    funext k s
    exact exec2_eq b bid k s
  | .cond c a b, bid, k, s => by
    simp only [exec2, exec, exec2_eq a, exec2_eq b]
    rfl
  | .block id c, _, k, s => by
    simp only [exec2, exec]
    rw [exec2_eq c, kBlock2_eq]
  | .loop c, bid, k, s => by
    simp only [exec2, exec]
    rw [← loop2_eq]
    have : (exec2 tt gl H np call fuel f c bid : (Ex → St E → Out E) → St E → Out E) = exec tt gl H np (callR call) fuel f c bid := by
      funext k s
      exact exec2_eq c bid k s
    rw [this]
  | .region _ o false, _, k, s => by simp only [exec2, exec, opsK2_eq]
  | .region _ o true, _, k, s => by simp only [exec2, exec, opsK2_eq]
  | .rangeFunc .., _, _, _ => rfl
  | .scope _, _, _, _ => rfl
  | .label _, _, _, _ => rfl
  | .goto _, _, _, _ => rfl
  | .refuse _, _, _, _ => rfl

theorem loop2_nat {β : Type} (g : α → Option β) {B : (Ex → St E → Option α) → St E → Option α} {B' : (Ex → St E → Option β) → St E → Option β} {k : List (Nat × Nat)} {kb : List Nat}
    (hB : ∀ K s, (B K s).bind g = B' (fun e s => (K e s).bind g) s) {K : Ex → St E → Option α} : ∀ (n : Nat) (s : St E), (loop2 np B k kb K n s).bind g = loop2 np B' k kb (fun e s => (K e s).bind g) n s
  | 0, s => rfl
  | n + 1, s => by
    simp only [loop2]
    rw [hB]
    congr 1
    funext e t
    cases e with
    | normal =>
      simp only []
      split
      · exact loop2_nat g hB n _
      · rfl
    | _ => rfl
theorem exec2_nat : ∀ {α β : Type} (g : α → Option β) (c : Code) (bid : Nat) (k : Ex → St E → Option α) (s : St E), (exec2 tt gl H np call fuel f c bid k s).bind g = exec2 tt gl H np call fuel f c bid (fun e s => (k e s).bind g) s
  | _, _, g, .skip, _, _, _ => rfl
  | _, _, g, .ret, _, _, _ => rfl
  | _, _, g, .exit _, _, _, _ => rfl
  | _, _, g, .seq a b, bid, k, s => by
    simp only [exec2]
    rw [exec2_nat g a]
    congr 1
    funext e t
    cases e with
    | normal => exact exec2_nat g b bid k t
    | _ => rfl
  | _, _, g, .cond c a b, bid, k, s => by
    simp only [exec2]
    split
    · rename_i v _
      cases v
      · exact exec2_nat g b bid k s
      · exact exec2_nat g a bid k s
    · rfl
  | _, _, g, .block id c, _, k, s => by
    simp only [exec2]
    rw [exec2_nat g c]
    congr 1
    funext e t
    cases e with
    | exit i => simp only [kBlock2]; cases (i == id) <;> rfl
    | _ => rfl
  | _, _, g, .loop c, bid, k, s => by
    simp only [exec2]
    cases prune np (H.keep f bid) (H.keepB f bid) s with
    | none => rfl
    | some t => exact loop2_nat g (fun K s => exec2_nat g c bid K s) fuel t
  | _, _, g, .region _ o false, _, k, s => by
    simp only [exec2]
    rw [opsK2_nat]
  | _, _, g, .region _ o true, _, k, s => by
    simp only [exec2]
    rw [opsK2_nat]
    congr 1
    funext c t
    cases freeOrder o.toList c <;> rfl
  | _, _, _, .rangeFunc .., _, _, _ => rfl
  | _, _, _, .scope _, _, _, _ => rfl
  | _, _, _, .label _, _, _, _ => rfl
  | _, _, _, .goto _, _, _, _ => rfl
  | _, _, _, .refuse _, _, _, _ => rfl
end

theorem exec2_mono {α β : Type} {c : Code} {bid : Nat} {k : Ex → St E → Option α} {k' : Ex → St E → Option β} {w : α → β} {s : St E} {r : α} {np fuel : Nat} {f : FuncId}
    (hk : ∀ e s r, k e s = some r → k' e s = some (w r)) (h : exec2 tt gl H np call fuel f c bid k s = some r) : exec2 tt gl H np call fuel f c bid k' s = some (w r) := by
  have e1 := exec2_nat (tt := tt) (gl := gl) (H := H) (call := call) (np := np) (fuel := fuel) (f := f) (fun p : Ex × St E => k p.1 p.2) c bid (fun e s => some (e, s)) s
  have e2 := exec2_nat (tt := tt) (gl := gl) (H := H) (call := call) (np := np) (fuel := fuel) (f := f) (fun p : Ex × St E => k' p.1 p.2) c bid (fun e s => some (e, s)) s
  simp only [Option.bind_some] at e1 e2
  rw [← e1, Option.bind_eq_some_iff] at h
  obtain ⟨p, h1, h2⟩ := h
  rw [← e2, h1]
  exact hk _ _ _ h2

/-! ### Functions -/
/-- A parameter: data; a place that stays; a function; a slice that is appended to; a row that is written; a variable. -/
inductive PK where
  | t (ty : Ty) | imm (ty : Ty) | fn (g : FuncId) (ty : List Ty) | gr (e : Ty) | row (e : Ty) | var (ty : Ty) | snil (e : Ty) | snn (e : Ty)
def capD (E : Env) : List Ty → Type
  | [] => Unit
  | t :: l => E.D t × capD E l
def PD (E : Env) : PK → Type
  | .t ty => E.D ty
  | .imm ty => E.D ty
  | .fn _ l => capD E l
  | .gr e => List (E.D e) × Nat
  | .row e => List (E.D e) × Nat × Nat
  | .var ty => E.D ty
  | .snil _ => Unit
  | .snn e => List (E.D e)
def PDs (E : Env) : List PK → Type
  | [] => Unit
  | p :: l => PD E p × PDs E l
def decCap : (l : List Ty) → List (Cap E) → Option (capD E l)
  | [], [] => some ()
  | t :: l, c :: cs => (cst c.ty t c.v).bind fun x => (decCap l cs).map fun y => (x, y)
  | _, _ => none
def encCap : (l : List Ty) → capD E l → List (Cap E)
  | [], _ => []
  | t :: l, x => ⟨t, x.1⟩ :: encCap l x.2
def castI (ty : Ty) : AV E → Option (E.D ty)
  | .imm a v => cst a ty v
  | _ => none
def castF (g : FuncId) (l : List Ty) : AV E → Option (capD E l)
  | .func g' cs => bif Nat.beq g' g then decCap l cs else none
  | _ => none
def noneB : Blk E → Option Unit
  | .none => some ()
  | _ => none
def castGr (i : Nat) (e : Ty) (a : AV E) (b : Blk E) : Option (List (E.D e) × Nat) := match a, b with
  | .sl i' a v, .grow a' n => bif Nat.beq i' i && decide (a' = a) then (cst (.sl a) (.sl e) v).map fun v => (v, n) else none
  | _, _ => none
def castRw (i : Nat) (e : Ty) (a : AV E) (b : Blk E) : Option (List (E.D e) × Nat × Nat) := match a, b with
  | .fs i' a off len, .row a' v => bif Nat.beq i' i && decide (a = e) then (cst (.sl a') (.sl e) v).map fun v => (v, off, len) else none
  | _, _ => none
def castVr (i : Nat) (ty : Ty) (a : AV E) (b : Blk E) : Option (E.D ty) := match a, b with
  | .ptr i' ly [], .var ly' (.t a v) => bif Nat.beq i' i && decide (ly = ty) && decide (ly' = ty) then cst a ty v else none
  | _, _ => none
def castNil (e : Ty) : AV E → Option Unit
  | .snil a => bif decide (a = e) then some () else none
  | _ => none
def castNn (e : Ty) : AV E → Option (List (E.D e))
  | .snn a v => cst (.sl a) (.sl e) v
  | _ => none
def dec1 (i : Nat) (p : PK) (a : AV E) (b : Blk E) : Option (PD E p) := match p with
  | .t ty => (noneB b).bind fun _ => castT ty a
  | .imm ty => (noneB b).bind fun _ => castI ty a
  | .fn g l => (noneB b).bind fun _ => castF g l a
  | .gr e => castGr i e a b
  | .row e => castRw i e a b
  | .var ty => castVr i ty a b
  | .snil e => (noneB b).bind fun _ => castNil e a
  | .snn e => (noneB b).bind fun _ => castNn e a
def enc1 (i : Nat) : (p : PK) → PD E p → AV E
  | .t ty, x => .t ty x
  | .imm ty, x => .imm ty x
  | .fn g l, x => .func g (encCap l x)
  | .gr e, x => .sl i e x.1
  | .row e, x => .fs i e x.2.1 x.2.2
  | .var ty, x => .ptr i ty []
  | .snil e, _ => .snil e
  | .snn e, x => .snn e x
def encb : (p : PK) → PD E p → Blk E
  | .gr e, x => .grow e x.2
  | .row e, x => .row e x.1
  | .var ty, x => .var ty (.t ty x)
  | _, _ => .none
def decs : (i : Nat) → (ps : List PK) → List (AV E) → List (Blk E) → Option (PDs E ps)
  | _, [], [], [] => some ()
  | i, p :: ps, a :: as, b :: bs => (dec1 i p a b).bind fun x => (decs (i + 1) ps as bs).map fun y => (x, y)
  | _, _, _, _ => none
def encs : (i : Nat) → (ps : List PK) → PDs E ps → List (AV E)
  | _, [], _ => []
  | i, p :: ps, x => enc1 i p x.1 :: encs (i + 1) ps x.2
def encBs : (ps : List PK) → PDs E ps → List (Blk E)
  | [], _ => []
  | p :: ps, x => encb p x.1 :: encBs ps x.2

theorem cst_spec {a b : Ty} {v : E.D a} {x : E.D b} (h : cst a b v = some x) : ∃ e : a = b, HEq v x := by
  unfold cst at h
  split at h
  · rename_i e
    subst e
    injection h with h
    exact ⟨rfl, heq_of_eq h⟩
  · cases h
theorem decCap_spec : ∀ (l : List Ty) (cs : List (Cap E)) (x : capD E l), decCap l cs = some x → cs = encCap l x := by
  intro l
  induction l with
  | nil =>
    intro cs x h
    cases cs with
    | nil => rfl
    | cons _ _ => cases h
  | cons t l ih =>
    intro cs x h
    cases cs with
    | nil => cases h
    | cons c cs =>
      simp only [decCap] at h
      obtain ⟨y, h1, h2⟩ := Option.bind_eq_some_iff.1 h
      obtain ⟨z, h2', h3⟩ := Option.map_eq_some_iff.1 h2
      subst h3
      obtain ⟨ty, v⟩ := c
      obtain ⟨e, h3⟩ := cst_spec h1
      simp only at e h3
      subst e
      cases h3
      rw [ih cs z h2']
      rfl
theorem castT_sp {ty : Ty} {a : AV E} {x : E.D ty} (h : castT ty a = some x) : a = .t ty x := by
  cases a with
  | t a v =>
    obtain ⟨e, h3⟩ := cst_spec (show cst a ty v = some x from h)
    subst e
    cases h3
    rfl
  | _ => cases h
theorem castI_sp {ty : Ty} {a : AV E} {x : E.D ty} (h : castI ty a = some x) : a = .imm ty x := by
  cases a with
  | imm a v =>
    obtain ⟨e, h3⟩ := cst_spec (show cst a ty v = some x from h)
    subst e
    cases h3
    rfl
  | _ => cases h
theorem castF_sp {g : FuncId} {l : List Ty} {a : AV E} {x : capD E l} (h : castF g l a = some x) : a = .func g (encCap l x) := by
  cases a with
  | func g' cs =>
    have h : (bif Nat.beq g' g then decCap l cs else none) = some x := h
    cases e : Nat.beq g' g with
    | true =>
      have e := Nat.eq_of_beq_eq_true e
      subst e
      simp only [Nat.beq_refl, cond_true] at h
      rw [decCap_spec _ _ _ h]
    | false => simp [e] at h
  | _ => cases h
theorem castNil_sp {e : Ty} {a : AV E} {x : Unit} (h : castNil e a = some x) : a = .snil e := by
  cases a with
  | snil a =>
    have h : (bif decide (a = e) then some () else none) = some x := h
    cases hd : decide (a = e) with
    | false => simp [hd] at h
    | true => rw [of_decide_eq_true hd]
  | _ => cases h
theorem castNn_sp {e : Ty} {a : AV E} {x : List (E.D e)} (h : castNn e a = some x) : a = .snn e x := by
  cases a with
  | snn a v =>
    obtain ⟨e', h3⟩ := cst_spec (show cst (E := E) (.sl a) (.sl e) v = some x from h)
    injection e' with e'
    subst e'
    cases h3
    rfl
  | _ => cases h
theorem noneB_sp {b : Blk E} {u : Unit} (h : noneB b = some u) : b = .none := by
  cases b with
  | none => rfl
  | _ => cases h
theorem castGr_sp {i : Nat} {e : Ty} {a : AV E} {b : Blk E} {x : List (E.D e) × Nat} (h : castGr i e a b = some x) : a = .sl i e x.1 ∧ b = .grow e x.2 := by
  unfold castGr at h
  split at h
  · rename_i i' a' v a'' n
    cases h1 : Nat.beq i' i <;> cases h2 : decide (a'' = a') <;> simp [h1, h2] at h
    have h1 := Nat.eq_of_beq_eq_true h1
    have h2 := of_decide_eq_true h2
    subst h1 h2
    obtain ⟨v', h3, h4⟩ := Option.map_eq_some_iff.1 h
    obtain ⟨e', h3⟩ := cst_spec h3
    injection e' with e'
    subst e' h4
    cases h3
    exact ⟨rfl, rfl⟩
  · cases h
theorem castRw_sp {i : Nat} {e : Ty} {a : AV E} {b : Blk E} {x : List (E.D e) × Nat × Nat} (h : castRw i e a b = some x) : a = .fs i e x.2.1 x.2.2 ∧ b = .row e x.1 := by
  unfold castRw at h
  split at h
  · rename_i i' a' off len a'' v
    cases h1 : Nat.beq i' i <;> cases h2 : decide (a' = e) <;> simp [h1, h2] at h
    have h1 := Nat.eq_of_beq_eq_true h1
    have h2 := of_decide_eq_true h2
    subst h1 h2
    obtain ⟨v', h3, h4⟩ := Option.map_eq_some_iff.1 h
    obtain ⟨e', h3⟩ := cst_spec h3
    injection e' with e'
    subst e' h4
    cases h3
    exact ⟨rfl, rfl⟩
  · cases h
theorem castVr_sp {i : Nat} {ty : Ty} {a : AV E} {b : Blk E} {x : E.D ty} (h : castVr i ty a b = some x) : a = .ptr i ty [] ∧ b = .var ty (.t ty x) := by
  unfold castVr at h
  split at h
  · rename_i i' ly ly' a' v
    cases h1 : Nat.beq i' i <;> cases h2 : decide (ly = ty) <;> cases h3 : decide (ly' = ty) <;> simp [h1, h2, h3] at h
    have h1 := Nat.eq_of_beq_eq_true h1
    have h2 := of_decide_eq_true h2
    have h3 := of_decide_eq_true h3
    subst h1 h2 h3
    obtain ⟨e', h3⟩ := cst_spec h
    subst e'
    cases h3
    exact ⟨rfl, rfl⟩
  · cases h
theorem dec1_spec {i : Nat} {p : PK} {a : AV E} {b : Blk E} {x : PD E p} (h : dec1 i p a b = some x) : a = enc1 i p x ∧ b = encb p x := by
  cases p with
  | t ty =>
    obtain ⟨u, h1, h2⟩ := Option.bind_eq_some_iff.1 (show ((noneB b).bind fun _ => castT ty a) = some x from h)
    exact ⟨castT_sp h2, noneB_sp h1⟩
  | imm ty =>
    obtain ⟨u, h1, h2⟩ := Option.bind_eq_some_iff.1 (show ((noneB b).bind fun _ => castI ty a) = some x from h)
    exact ⟨castI_sp h2, noneB_sp h1⟩
  | fn g l =>
    obtain ⟨u, h1, h2⟩ := Option.bind_eq_some_iff.1 (show ((noneB b).bind fun _ => castF g l a) = some x from h)
    exact ⟨castF_sp h2, noneB_sp h1⟩
  | gr e => exact castGr_sp h
  | row e => exact castRw_sp h
  | var ty => exact castVr_sp h
  | snil e =>
    obtain ⟨u, h1, h2⟩ := Option.bind_eq_some_iff.1 (show ((noneB b).bind fun _ => castNil e a) = some x from h)
    exact ⟨castNil_sp h2, noneB_sp h1⟩
  | snn e =>
    obtain ⟨u, h1, h2⟩ := Option.bind_eq_some_iff.1 (show ((noneB b).bind fun _ => castNn e a) = some x from h)
    exact ⟨castNn_sp h2, noneB_sp h1⟩
theorem decs_spec : ∀ {ps : List PK} {i : Nat} {as : List (AV E)} {bs : List (Blk E)} {x : PDs E ps}, decs i ps as bs = some x → as = encs i ps x ∧ bs = encBs ps x := by
  intro l
  induction l with
  | nil =>
    intro i cs bs x h
    cases cs with
    | nil => cases bs with
      | nil => exact ⟨rfl, rfl⟩
      | cons _ _ => cases h
    | cons _ _ => cases h
  | cons t l ih =>
    intro i cs bs x h
    cases cs with
    | nil => cases h
    | cons c cs =>
      cases bs with
      | nil => cases h
      | cons bb bs =>
        simp only [decs] at h
        obtain ⟨y, h1, h2⟩ := Option.bind_eq_some_iff.1 h
        obtain ⟨z, h2', h3⟩ := Option.map_eq_some_iff.1 h2
        subst h3
        obtain ⟨e1, e2⟩ := dec1_spec h1
        obtain ⟨e3, e4⟩ := ih h2'
        rw [e1, e2, e3, e4]
        exact ⟨rfl, rfl⟩

/-! Results -/
def RD (E : Env) : RSh → Type
  | .t ty => E.D ty
  | .own e => List (E.D e)
  | .ownrow e => List (E.D e)
  | .inp _ e => List (E.D e)
  | _ => Unit
def RDs (E : Env) : List RSh → Type
  | [] => Unit
  | [a] => RD E a
  | a :: b :: l => RD E a × RDs E (b :: l)
def wr1 : (sh : RSh) → RD E sh → AV E
  | .t ty, r => .t ty r
  | .own e, r => .own e r
  | .ownrow e, r => .ownrow e r
  | .inp p e, r => .sl p e r
  | _, _ => .undef
def wrs : (l : List RSh) → RDs E l → List (AV E)
  | [], _ => []
  | [a], r => [wr1 a r]
  | a :: b :: l, r => wr1 a r.1 :: wrs (b :: l) r.2
def RDx (E : Env) : RSh → Type
  | .tup l => RDs E l
  | .unit => Unit
  | .t ty => RD E (.t ty)
  | .own e => RD E (.own e)
  | .ownrow e => RD E (.ownrow e)
  | .inp p e => RD E (.inp p e)
  | _ => Unit
def wrx : (sh : RSh) → RDx E sh → AV E
  | .tup l, r => .tup (wrs l r)
  | .unit, _ => .tup []
  | .t ty, r => wr1 (.t ty) r
  | .own e, r => wr1 (.own e) r
  | .ownrow e, r => wr1 (.ownrow e) r
  | .inp p e, r => wr1 (.inp p e) r
  | _, _ => .undef

section
variable (np : Nat) (b : List (Blk E))
/-- A result, on its condition. -/
def retO (e : Ty) : AV E → Option (Bool × List (E.D e))
  | .sl id e' xs => bif decide (np ≤ id) then match blk b id with
      | .grow e'' n => bif decide (e'' = e') then match cst (.sl e') (.sl e) xs with
          | some (ys : List (E.D e)) => some (decide (n = xs.length), ys)
          | none => none
        else none
      | _ => none
    else none
  | .exact e' xs => match cst (.sl e') (.sl e) xs with
    | some (ys : List (E.D e)) => some (true, ys)
    | none => none
  | .snil e' => bif decide (e' = e) then some (true, []) else none
  | _ => none
def retR (e : Ty) : AV E → Option (Bool × List (E.D e))
  | .fs id e' 0 n => bif decide (np ≤ id) then match blk b id with
      | .row e'' xs => bif decide (e'' = e') then match cst (.sl e'') (.sl e) xs with
          | some (ys : List (E.D e)) => some (decide (n = xs.length), ys)
          | none => none
        else none
      | _ => none
    else none
  | _ => none
def retI (p : Nat) (e : Ty) : AV E → Option (Bool × List (E.D e))
  | .sl id e' xs => bif decide (id = p) && decide (p < np) then match blk b id with
      | .grow e'' n => bif decide (e'' = e') then match cst (.sl e') (.sl e) xs with
          | some (ys : List (E.D e)) => some (decide (n = xs.length), ys)
          | none => none
        else none
      | _ => none
    else none
  | _ => none
def retT (ty : Ty) (a : AV E) : Option (Bool × E.D ty) := match toT a ty with
  | some x => some (true, x)
  | none => none
def ret2 (sh : RSh) (a : AV E) : Option (Bool × RD E sh) := match sh with
  | .t ty => retT ty a
  | .own e => retO np b e a
  | .ownrow e => retR np b e a
  | .inp p e => retI np b p e a
  | _ => none

theorem cstL {a e : Ty} {xs : List (E.D a)} {ys : List (E.D e)} (h : cst (E := E) (.sl a) (.sl e) xs = some ys) : a = e ∧ HEq xs ys := by
  obtain ⟨e', h3⟩ := cst_spec (E := E) (a := .sl a) (b := .sl e) h
  injection e' with e'
  exact ⟨e', h3⟩
theorem ret2_spec {sh : RSh} {a : AV E} {r : RD E sh} (h : ret2 np b sh a = some (true, r)) : ret1 np b sh a = some (wr1 sh r) := by
  cases sh with
  | t ty =>
    have h : retT ty a = some (true, r) := h
    unfold retT at h
    cases ht : toT a ty with
    | none => simp [ht] at h
    | some x =>
      rw [ht] at h
      have h := (Prod.mk.inj (Option.some.inj h)).2
      subst h
      simp [ret1, ht, wr1]
  | own e =>
    have h : retO np b e a = some (true, r) := h
    unfold retO at h
    cases a with
    | sl id e' xs =>
      simp only [ret1]
      simp only at h
      cases h1 : decide (np ≤ id) with
      | false => simp [h1] at h
      | true =>
        simp only [h1, cond_true] at h ⊢
        cases hb : blk b id with
        | grow e'' n =>
          simp only [hb] at h ⊢
          cases h2 : decide (e'' = e') with
          | false => simp [h2] at h
          | true =>
            simp only [h2, cond_true] at h
            have h2 := of_decide_eq_true h2
            cases hc : cst (E := E) (.sl e') (.sl e) xs with
            | none => simp [hc] at h
            | some ys =>
              rw [hc] at h
              obtain ⟨h3, h4⟩ := Prod.mk.inj (Option.some.inj h)
              have h3 := of_decide_eq_true h3
              obtain ⟨h5, h6⟩ := cstL hc
              subst h2 h5 h4
              cases h6
              simp [h3, wr1]
        | _ => simp [hb] at h
    | snil e' =>
      simp only [ret1]
      simp only at h
      cases h1 : decide (e' = e) with
      | false => simp [h1] at h
      | true =>
        rw [h1, cond_true] at h
        have h2 := (Prod.mk.inj (Option.some.inj h)).2
        have h3 := of_decide_eq_true h1
        subst h3 h2
        simp [wr1]
    | exact e' xs =>
      simp only [ret1]
      simp only at h
      cases hc : cst (E := E) (.sl e') (.sl e) xs with
      | none => simp [hc] at h
      | some ys =>
        rw [hc] at h
        have h := (Prod.mk.inj (Option.some.inj h)).2
        obtain ⟨h5, h6⟩ := cstL hc
        subst h5 h
        cases h6
        simp [wr1]
    | _ => cases h
  | ownrow e =>
    have h : retR np b e a = some (true, r) := h
    unfold retR at h
    split at h
    · rename_i id e' n _
      simp only [ret1]
      cases h1 : decide (np ≤ id) with
      | false => simp [h1] at h
      | true =>
        simp only [h1, cond_true] at h ⊢
        cases hb : blk b id with
        | row e'' xs =>
          simp only [hb] at h ⊢
          cases h2 : decide (e'' = e') with
          | false => simp [h2] at h
          | true =>
            simp only [h2, cond_true] at h
            have h2 := of_decide_eq_true h2
            cases hc : cst (E := E) (.sl e'') (.sl e) xs with
            | none => simp [hc] at h
            | some ys =>
              rw [hc] at h
              obtain ⟨h3, h4⟩ := Prod.mk.inj (Option.some.inj h)
              have h3 := of_decide_eq_true h3
              obtain ⟨h5, h6⟩ := cstL hc
              subst h2 h5 h4
              cases h6
              simp [h3, wr1]
        | _ => simp [hb] at h
    · cases h
  | inp p e =>
    have h : retI np b p e a = some (true, r) := h
    unfold retI at h
    cases a with
    | sl id e' xs =>
      simp only [ret1]
      simp only at h
      cases h1 : decide (id = p) && decide (p < np) with
      | false => simp [h1] at h
      | true =>
        simp only [h1, cond_true] at h
        simp only [Bool.and_eq_true, decide_eq_true_eq] at h1
        cases hb : blk b id with
        | grow e'' n =>
          simp only [hb] at h ⊢
          cases h2 : decide (e'' = e') with
          | false => simp [h2] at h
          | true =>
            simp only [h2, cond_true] at h
            have h2 := of_decide_eq_true h2
            cases hc : cst (E := E) (.sl e') (.sl e) xs with
            | none => simp [hc] at h
            | some ys =>
              rw [hc] at h
              obtain ⟨h3, h4⟩ := Prod.mk.inj (Option.some.inj h)
              have h3 := of_decide_eq_true h3
              obtain ⟨h5, h6⟩ := cstL hc
              subst h2 h5 h4
              cases h6
              obtain ⟨h7, h8⟩ := h1
              subst h7
              simp [h3, h8, wr1]
        | _ => simp [hb] at h
    | _ => cases h
  | _ => cases h
end

section
variable (tt : Nat → Option TE)
def rets2 (np : Nat) (s : St E) : (l : List RSh) → List ResultVar → Option (Bool × RDs E l)
  | [], [] => some (true, ())
  | [a], [r] => (resA tt s.b s.t r).bind (ret2 np s.b a)
  | a :: b :: l, r :: rs => match (resA tt s.b s.t r).bind (ret2 np s.b a), rets2 np s (b :: l) rs with
    | some (c, x), some (c', y) => some (c && c', (x, y))
    | _, _ => none
  | _, _ => none
def retsA2 (np : Nat) (s : St E) (rs : List ResultVar) (sh : RSh) : Option (Bool × RDx E sh) :=
  match sh with
  | .unit => match rs with
    | [] => some (true, ())
    | _ => none
  | .tup l => bif nodup (gone tt s rs l) && decide (2 ≤ rs.length) then rets2 tt np s l rs else none
  | .t ty => match rs with
    | [r] => (resA tt s.b s.t r).bind (ret2 np s.b (.t ty))
    | _ => none
  | .own e => match rs with
    | [r] => (resA tt s.b s.t r).bind (ret2 np s.b (.own e))
    | _ => none
  | .ownrow e => match rs with
    | [r] => (resA tt s.b s.t r).bind (ret2 np s.b (.ownrow e))
    | _ => none
  | .inp p e => match rs with
    | [r] => (resA tt s.b s.t r).bind (ret2 np s.b (.inp p e))
    | _ => none
  | .asis => none

theorem nodup_ok : True := trivial
theorem rets2_spec {np : Nat} {s : St E} : ∀ {l : List RSh} {rs : List ResultVar} {r : RDs E l}, rets2 tt np s l rs = some (true, r) → rets tt np s rs l = some (wrs l r) := by
  intro l
  induction l with
  | nil =>
    intro rs r h
    cases rs with
    | nil => rfl
    | cons _ _ => cases h
  | cons a l ih =>
    intro rs r h
    cases rs with
    | nil => cases l <;> cases h
    | cons x rs =>
      cases l with
      | nil =>
        cases rs with
        | cons _ _ => cases h
        | nil =>
          have h : ((resA tt s.b s.t x).bind (ret2 np s.b a)) = some (true, r) := h
          obtain ⟨y, h1, h2⟩ := Option.bind_eq_some_iff.1 h
          have := ret2_spec np s.b h2
          simp only [rets, h1, Option.bind_some, this]
          rfl
      | cons b l =>
        have h : (match (resA tt s.b s.t x).bind (ret2 np s.b a), rets2 tt np s (b :: l) rs with
          | some (c, x), some (c', y) => some (c && c', (x, y))
          | _, _ => none) = some (true, r) := h
        split at h
        · rename_i c y c' z h1 h2
          obtain ⟨y', h3, h4⟩ := Option.bind_eq_some_iff.1 h1
          have h5 := Prod.mk.inj (Option.some.inj h)
          obtain ⟨h5, h6⟩ := h5
          simp only [Bool.and_eq_true] at h5
          obtain ⟨rfl, rfl⟩ := h5
          have k1 := ret2_spec np s.b h4
          have k2 := ih h2
          rw [rets, h3, Option.bind_some, k1, k2, ← h6]
          rfl
        · cases h
theorem retsA2_spec {np : Nat} {s : St E} {rs : List ResultVar} {sh : RSh} {r : RDx E sh} (h : retsA2 tt np s rs sh = some (true, r)) : retsA tt np s rs sh = some (wrx sh r) := by
  have one : ∀ (sh : RSh) (rs : List ResultVar) (r : RD E sh), (match rs with | [x] => (resA tt s.b s.t x).bind (ret2 np s.b sh) | _ => none) = some (true, r) → ∃ x, rs = [x] ∧ (resA tt s.b s.t x).bind (ret1 np s.b sh) = some (wr1 sh r) := by
    intro sh rs r h
    split at h
    · rename_i x
      obtain ⟨y, h1, h2⟩ := Option.bind_eq_some_iff.1 h
      exact ⟨x, rfl, by rw [h1, Option.bind_some, ret2_spec np s.b h2]⟩
    · cases h
  cases sh with
  | unit =>
    cases rs with
    | nil => rfl
    | cons _ _ => cases h
  | tup l =>
    have h : (bif nodup (gone tt s rs l) && decide (2 ≤ rs.length) then rets2 tt np s l rs else none) = some (true, r) := h
    cases hc : nodup (gone tt s rs l) && decide (2 ≤ rs.length) with
    | false => simp [hc] at h
    | true =>
      rw [hc, cond_true] at h
      have := rets2_spec tt h
      simp only [retsA, hc, cond_true, this]
      rfl
  | t ty => obtain ⟨x, rfl, h2⟩ := one (.t ty) rs r h; exact h2
  | own e => obtain ⟨x, rfl, h2⟩ := one (.own e) rs r h; exact h2
  | ownrow e => obtain ⟨x, rfl, h2⟩ := one (.ownrow e) rs r h; exact h2
  | inp p e => obtain ⟨x, rfl, h2⟩ := one (.inp p e) rs r h; exact h2
  | asis => cases h
end

def isB : PK → Bool
  | .gr _ | .row _ | .var _ => true
  | _ => false
def ODs (E : Env) : List PK → Type
  | [] => Unit
  | p :: l => match p with
    | .gr _ => Nat × ODs E l
    | .row e => List (E.D e) × ODs E l
    | .var ty => E.D ty × ODs E l
    | _ => ODs E l
def outD : (ps : List PK) → List (Blk E) → Option (ODs E ps)
  | [], [] => some ()
  | .t _ :: ps, b :: bs => (noneB b).bind fun _ => outD ps bs
  | .imm _ :: ps, b :: bs => (noneB b).bind fun _ => outD ps bs
  | .fn _ _ :: ps, b :: bs => (noneB b).bind fun _ => outD ps bs
  | .snil _ :: ps, b :: bs => (noneB b).bind fun _ => outD ps bs
  | .snn _ :: ps, b :: bs => (noneB b).bind fun _ => outD ps bs
  | .gr e :: ps, b :: bs => (castG e b).bind fun n => (outD ps bs).bind fun l => some (n, l)
  | .row e :: ps, b :: bs => (castRow e b).bind fun n => (outD ps bs).bind fun l => some (n, l)
  | .var ty :: ps, b :: bs => (castV ty ty b).bind fun n => (outD ps bs).bind fun l => some (n, l)
  | _, _ => none
def wrO : (ps : List PK) → ODs E ps → List (Blk E)
  | [], _ => []
  | .t _ :: ps, o => .none :: wrO ps o
  | .imm _ :: ps, o => .none :: wrO ps o
  | .fn _ _ :: ps, o => .none :: wrO ps o
  | .snil _ :: ps, o => .none :: wrO ps o
  | .snn _ :: ps, o => .none :: wrO ps o
  | .gr e :: ps, o => .grow e o.1 :: wrO ps o.2
  | .row e :: ps, o => .row e o.1 :: wrO ps o.2
  | .var ty :: ps, o => .var ty (.t ty o.1) :: wrO ps o.2
def AT (E : Env) (b : Bool) (sh : RSh) (ps : List PK) : Type := match b with
  | true => RDx E sh × ODs E ps
  | false => RDx E sh
def mkA (sh : RSh) (ps : List PK) (r : RDx E sh) (o : ODs E ps) : (b : Bool) → AT E b sh ps
  | true => (r, o)
  | false => r
def wrA (sh : RSh) (ps : List PK) : (b : Bool) → AT E b sh ps → AV E × List (Blk E)
  | true, x => (wrx sh x.1, wrO ps x.2)
  | false, x => (wrx sh x, ps.map fun _ => .none)

theorem castG_sp {e : Ty} {b : Blk E} {n : Nat} (h : castG e b = some n) : b = .grow e n := by
  cases b with
  | grow a m =>
    have h : (bif decide (a = e) then some m else none) = some n := h
    cases hd : decide (a = e) with
    | false => simp [hd] at h
    | true =>
      have := of_decide_eq_true hd
      subst this
      simp at h
      rw [h]
  | _ => cases h
theorem castRow_sp {e : Ty} {b : Blk E} {n : List (E.D e)} (h : castRow e b = some n) : b = .row e n := by
  cases b with
  | row a m =>
    obtain ⟨h1, h2⟩ := cstL (show cst (E := E) (.sl a) (.sl e) m = some n from h)
    subst h1
    cases h2
    rfl
  | _ => cases h
theorem castV_sp {ty : Ty} {b : Blk E} {n : E.D ty} (h : castV ty ty b = some n) : b = .var ty (.t ty n) := by
  unfold castV at h
  split at h
  · rename_i ly a v
    cases hd : decide (ly = ty) with
    | false => simp [hd] at h
    | true =>
      have := of_decide_eq_true hd
      subst this
      simp only [hd, cond_true] at h
      obtain ⟨e, h2⟩ := cst_spec h
      subst e
      cases h2
      rfl
  · cases h
theorem outD_spec : ∀ {ps : List PK} {bs : List (Blk E)} {o : ODs E ps}, outD ps bs = some o → bs = wrO ps o ∧ bs.all back1 = true := by
  intro l
  induction l with
  | nil =>
    intro bs o h
    cases bs with
    | nil => exact ⟨rfl, rfl⟩
    | cons _ _ => cases h
  | cons p l ih =>
    intro bs o h
    cases bs with
    | nil => cases p <;> cases h
    | cons b bs =>
      cases p with
      | t ty =>
        obtain ⟨u, h1, h2⟩ := Option.bind_eq_some_iff.1 (show ((noneB b).bind fun _ => outD l bs) = some o from h)
        obtain ⟨k1, k2⟩ := ih h2
        rw [noneB_sp h1, k1]
        exact ⟨rfl, by rw [← k1]; simp [back1, k2]⟩
      | imm ty =>
        obtain ⟨u, h1, h2⟩ := Option.bind_eq_some_iff.1 (show ((noneB b).bind fun _ => outD l bs) = some o from h)
        obtain ⟨k1, k2⟩ := ih h2
        rw [noneB_sp h1, k1]
        exact ⟨rfl, by rw [← k1]; simp [back1, k2]⟩
      | fn g ty =>
        obtain ⟨u, h1, h2⟩ := Option.bind_eq_some_iff.1 (show ((noneB b).bind fun _ => outD l bs) = some o from h)
        obtain ⟨k1, k2⟩ := ih h2
        rw [noneB_sp h1, k1]
        exact ⟨rfl, by rw [← k1]; simp [back1, k2]⟩
      | snil ty =>
        obtain ⟨u, h1, h2⟩ := Option.bind_eq_some_iff.1 (show ((noneB b).bind fun _ => outD l bs) = some o from h)
        obtain ⟨k1, k2⟩ := ih h2
        rw [noneB_sp h1, k1]
        exact ⟨rfl, by rw [← k1]; simp [back1, k2]⟩
      | snn ty =>
        obtain ⟨u, h1, h2⟩ := Option.bind_eq_some_iff.1 (show ((noneB b).bind fun _ => outD l bs) = some o from h)
        obtain ⟨k1, k2⟩ := ih h2
        rw [noneB_sp h1, k1]
        exact ⟨rfl, by rw [← k1]; simp [back1, k2]⟩
      | gr e =>
        obtain ⟨u, h1, h2⟩ := Option.bind_eq_some_iff.1 (show ((castG e b).bind fun n => (outD l bs).bind fun l => some (n, l)) = some o from h)
        obtain ⟨z, h2, h3⟩ := Option.bind_eq_some_iff.1 h2
        obtain ⟨k1, k2⟩ := ih h2
        rw [castG_sp h1, k1, ← Option.some.inj h3]
        exact ⟨rfl, by rw [← k1]; simp [back1, k2]⟩
      | row e =>
        obtain ⟨u, h1, h2⟩ := Option.bind_eq_some_iff.1 (show ((castRow e b).bind fun n => (outD l bs).bind fun l => some (n, l)) = some o from h)
        obtain ⟨z, h2, h3⟩ := Option.bind_eq_some_iff.1 h2
        obtain ⟨k1, k2⟩ := ih h2
        rw [castRow_sp h1, k1, ← Option.some.inj h3]
        exact ⟨rfl, by rw [← k1]; simp [back1, k2]⟩
      | var e =>
        obtain ⟨u, h1, h2⟩ := Option.bind_eq_some_iff.1 (show ((castV e e b).bind fun n => (outD l bs).bind fun l => some (n, l)) = some o from h)
        obtain ⟨z, h2, h3⟩ := Option.bind_eq_some_iff.1 h2
        obtain ⟨k1, k2⟩ := ih h2
        rw [castV_sp h1, k1, ← Option.some.inj h3]
        exact ⟨rfl, by rw [← k1]; simp [back1, k2]⟩
theorem wrO_none : ∀ {ps : List PK}, ps.any isB = false → ∀ o : ODs E ps, wrO ps o = ps.map fun _ => .none := by
  intro l
  induction l with
  | nil => intro _ _; rfl
  | cons p l ih =>
    intro h o
    simp only [List.any_cons, Bool.or_eq_false_iff] at h
    cases p with
    | t ty => exact congrArg (Blk.none :: ·) (ih h.2 o)
    | imm ty => exact congrArg (Blk.none :: ·) (ih h.2 o)
    | fn g ty => exact congrArg (Blk.none :: ·) (ih h.2 o)
    | snil ty => exact congrArg (Blk.none :: ·) (ih h.2 o)
    | snn ty => exact congrArg (Blk.none :: ·) (ih h.2 o)
    | _ => simp [isB] at h

section
variable (tt : Nat → Option TE) (gl : Nat → AV E) (H : Hints)
def fin2 (ps : List PK) (np : Nat) (rs : List ResultVar) (sh : RSh) (b : Bool) : Ex → St E → Option (AT E b sh ps)
  | .exit _, _ => none
  | _, s => match retsA2 tt np s rs sh with
    | some (c, r) => match outD ps (s.b.take np) with
      | some o => bif c then some (mkA sh ps r o b) else none
      | none => none
    | none => none
theorem fin2_spec {ps : List PK} {np : Nat} {rs : List ResultVar} {sh : RSh} {e : Ex} {s : St E} {x : AT E (ps.any isB) sh ps} (h : fin2 tt ps np rs sh (ps.any isB) e s = some x) : fin tt np rs sh e s = some (wrA sh ps _ x) := by
  have gen : ∀ o : Option (Bool × RDx E sh), retsA2 tt np s rs sh = o → (match o with
    | some (c, r) => match outD ps (s.b.take np) with
      | some o => bif c then some (mkA sh ps r o (ps.any isB)) else none
      | none => none
    | none => none) = some x → (match retsA tt np s rs sh with
      | some a => bif (s.b.take np).all back1 then some (a, s.b.take np) else none
      | none => none) = some (wrA sh ps _ x) := by
    intro o ho hx
    cases o with
    | none => cases hx
    | some q =>
      obtain ⟨c, r⟩ := q
      simp only at hx
      cases hd : outD ps (s.b.take np) with
      | none => rw [hd] at hx; cases hx
      | some o =>
        rw [hd] at hx
        cases c with
        | false => cases hx
        | true =>
          have hx : mkA sh ps r o (ps.any isB) = x := Option.some.inj hx
          obtain ⟨k1, k2⟩ := outD_spec hd
          rw [retsA2_spec tt ho]
          simp only [k2, cond_true]
          rw [← hx, k1]
          congr 1
          cases hb : ps.any isB with
          | true => rfl
          | false => rw [wrO_none hb]; rfl
  cases e with
  | exit _ => cases h
  | normal => exact gen _ rfl h
  | ret => exact gen _ rfl h

def cOf (fn : Func) : Code := match fn.body with
  | some c => c
  | none => .skip
/-- A function: f at these parameters, when calls are answered by 'call'. -/
def F2 (call : Call2 E) (fuel : Nat) (f : FuncId) (fn : Func) (ps : List PK) (x : PDs E ps) : Option (AT E (ps.any isB) (H.rsh f) ps) :=
  match fn.body with
  | none => none
  | some c => bif Nat.ble ps.length 16 then exec2 tt gl H ps.length call fuel f c 0 (fin2 tt ps ps.length fn.results.toList (H.rsh f) (ps.any isB)) (start fn (encs 0 ps x) (encBs ps x)) else none
/-- The same as an answer to a call. -/
def ans2 (call : Call2 E) (fuel : Nat) (f : FuncId) (fn : Func) (ps : List PK) (as : List (AV E)) (ins : List (Blk E)) : Option (Ans E) :=
  match decs 0 ps as ins with
  | some x => some ⟨AT E (ps.any isB) (H.rsh f) ps, F2 tt gl H call fuel f fn ps x, wrA (H.rsh f) ps (ps.any isB)⟩
  | none => none
/-- One more function. -/
def more (call : Call2 E) (fuel : Nat) (f : FuncId) (fn : Func) (ps : List PK) (rest : Call2 E) : Call2 E := fun g as ins =>
  bif Nat.beq g f then match ans2 tt gl H call fuel f fn ps as ins with
    | some x => some x
    | none => rest g as ins
  else rest g as ins
/-- A function whose only parameter is a slice, at data: it comes to the same for nil as for an empty slice that isn't nil. -/
def moreN (call : Call2 E) (fuel : Nat) (f : FuncId) (fn : Func) (e : Ty) (rest : Call2 E) : Call2 E := fun g as ins =>
  bif Nat.beq g f then match decs 0 [.t (.sl e)] as ins with
    | some x => some ⟨AT E false (H.rsh f) [.snn e], F2 tt gl H call fuel f fn [.snn e] x, wrA (H.rsh f) [.snn e] false⟩
    | none => rest g as ins
  else rest g as ins
/-- A loop within a function. -/
def kLoop (np : Nat) {α : Type} (body : (Ex → St E → Option α) → St E → Option α) (k : List (Nat × Nat)) (kb : List Nat) (K : Ex → St E → Option α) (n : Nat) : Ex → St E → Option α := fun e s => match e with
  | .normal => match prune np k kb s with
    | some s => loop2 np body k kb K n s
    | none => none
  | e => K e s
def lpAt {α : Type} (np : Nat) (call : Call2 E) (fuel : Nat) (f : FuncId) : Code → List Nat → Nat → (Ex → St E → Option α) → List Nat → Nat → St E → Option α
  | .loop c, [], bid, K, _, m, s => loop2 np (exec2 tt gl H np call fuel f c bid) (H.keep f bid) (H.keepB f bid) K m s
  | .loop c, _ :: p, bid, K, m' :: ms, m, s => lpAt np call fuel f c p bid (kLoop np (exec2 tt gl H np call fuel f c bid) (H.keep f bid) (H.keepB f bid) K m') ms m s
  | .seq a b, 0 :: p, bid, K, ms, m, s => lpAt np call fuel f a p bid (kSeq2 (exec2 tt gl H np call fuel f b bid) K) ms m s
  | .seq a b, _ :: p, bid, K, ms, m, s => lpAt np call fuel f b p bid K ms m s
  | .cond _ a b, 0 :: p, bid, K, ms, m, s => lpAt np call fuel f a p bid K ms m s
  | .cond _ a b, _ :: p, bid, K, ms, m, s => lpAt np call fuel f b p bid K ms m s
  | .block id c, _ :: p, bid, K, ms, m, s => lpAt np call fuel f c p id (kBlock2 id K) ms m s
  | _, _, _, _, _, _, _ => none
def lp {ps : List PK} (call : Call2 E) (fuel : Nat) (f : FuncId) (fn : Func) (path : List Nat) (ms : List Nat) (m : Nat) (s : St E) : Option (AT E (ps.any isB) (H.rsh f) ps) :=
  lpAt tt gl H ps.length call fuel f (cOf fn) path 0 (fin2 tt ps ps.length fn.results.toList (H.rsh f) (ps.any isB)) ms m s
/-- Slots and blocks by their numbers. -/
def mkT : Nat → Nat → List (Nat × AV E) → List (AV E)
  | 0, _, _ => []
  | n + 1, i, l => (match l.lookup i with
    | some a => a
    | none => .undef) :: mkT n (i + 1) l
def mkB : Nat → Nat → List (Nat × Blk E) → List (Blk E)
  | 0, _, _ => []
  | n + 1, i, l => (match l.lookup i with
    | some a => a
    | none => .none) :: mkB n (i + 1) l
end

section
variable {tt : Nat → Option TE} {gl : Nat → AV E} {H : Hints}
theorem none_ok {P : Program} : CallOK P gl (callR (fun _ _ _ => none : Call2 E)) := fun f as ins r outs h => by cases h

theorem encs_len : ∀ (ps : List PK) (i : Nat) (x : PDs E ps), (encs i ps x).length = ps.length
  | [], _, _ => rfl
  | p :: ps, i, x => congrArg (· + 1) (encs_len ps (i + 1) x.2)
theorem encBs_len : ∀ (ps : List PK) (x : PDs E ps), (encBs ps x).length = ps.length
  | [], _ => rfl
  | p :: ps, x => congrArg (· + 1) (encBs_len ps x.2)

theorem more_ok {P : Program} (hE : EnvOK E) (hz : ∀ (M : Mem) n, RC M (.nm n) (E.dfl n) (E.zc n)) (hT : TOK P E tt) (hmix : P.follows .mixedOrders = true) {call rest : Call2 E} (hC : CallOK P gl (callR call)) (hr : CallOK P gl (callR rest))
    {fuel : Nat} {f : FuncId} {fn : Func} {ps : List PK} (hfn : P.funcs[f]? = some fn) (hnm : fn.name ≠ "runtime.NumGoroutine") : CallOK P gl (callR (more tt gl H call fuel f fn ps rest)) := by
  intro g as ins r outs h
  by_cases hg : g = f
  · subst hg
    cases ha : ans2 tt gl H call fuel g fn ps as ins with
    | none =>
      refine hr g as ins r outs ?_
      rw [← h]
      simp [callR, more, ha]
    | some x =>
      have h1 : x.val.map x.wr = some (r, outs) := by
        rw [← h]
        simp [callR, more, ha]
      unfold ans2 at ha
      cases hd : decs 0 ps as ins with
      | none => rw [hd] at ha; cases ha
      | some y =>
        rw [hd] at ha
        have ha := Option.some.inj ha
        subst ha
        obtain ⟨q, h2, h3⟩ := Option.map_eq_some_iff.1 h1
        obtain ⟨e1, e2⟩ := decs_spec hd
        have h4 : body tt gl H (callR call) fuel g fn as ins = some (r, outs) := by
          rw [← h3, e1, e2]
          have h2 : F2 tt gl H call fuel g fn ps y = some q := h2
          unfold F2 at h2
          unfold body
          cases hb : fn.body with
          | none => rw [hb] at h2; cases h2
          | some c =>
            rw [hb] at h2
            obtain ⟨h16, h2⟩ := bif_some h2
            simp only
            rw [encBs_len, show decide (ps.length ≤ 16) = true from decide_eq_true (Nat.le_of_ble_eq_true h16), cond_true, ← exec2_eq]
            exact exec2_mono (fun e s r h => fin2_spec tt h) h2
        obtain ⟨⟨⟨c, hc⟩, h16⟩, h7⟩ := body_sound hE hz hT hmix hC hfn (fun S hL hgl => any_ok hE hz hT hC g S hL hgl) h4
        exact ⟨⟨⟨fn, c, hfn, hnm, hc⟩, h16⟩, h7⟩
  · refine hr g as ins r outs ?_
    rw [← h]
    have : Nat.beq g f = false := by
      cases hb : Nat.beq g f with
      | false => rfl
      | true => exact absurd (Nat.eq_of_beq_eq_true hb) hg
    simp [callR, more, this]

theorem F2_body {call : Call2 E} {fuel : Nat} {g : FuncId} {fn : Func} {ps : List PK} {y : PDs E ps} {q} (h2 : F2 tt gl H call fuel g fn ps y = some q) :
    body tt gl H (callR call) fuel g fn (encs 0 ps y) (encBs ps y) = some (wrA (H.rsh g) ps _ q) := by
  unfold F2 at h2
  unfold body
  cases hb : fn.body with
  | none => rw [hb] at h2; cases h2
  | some c =>
    rw [hb] at h2
    obtain ⟨h16, h2⟩ := bif_some h2
    simp only
    rw [encBs_len, show decide (ps.length ≤ 16) = true from decide_eq_true (Nat.le_of_ble_eq_true h16), cond_true, ← exec2_eq]
    exact exec2_mono (fun e s r h => fin2_spec tt h) h2
theorem moreN_ok {P : Program} (hE : EnvOK E) (hz : ∀ (M : Mem) n, RC M (.nm n) (E.dfl n) (E.zc n)) (hT : TOK P E tt) (hmix : P.follows .mixedOrders = true) {call rest : Call2 E} (hC : CallOK P gl (callR call)) (hr : CallOK P gl (callR rest))
    {fuel : Nat} {f : FuncId} {fn : Func} {e : Ty} (hfn : P.funcs[f]? = some fn) (hnm : fn.name ≠ "runtime.NumGoroutine")
    (hq : (F2 tt gl H call fuel f fn [.snil e] ((), ()) : Option (AT E false (H.rsh f) [.snil e])) = F2 tt gl H call fuel f fn [.snn e] ([], ())) : CallOK P gl (callR (moreN tt gl H call fuel f fn e rest)) := by
  intro g as ins r outs h
  by_cases hg : g = f
  · subst hg
    cases hd : decs 0 [.t (.sl e)] as ins with
    | none =>
      refine hr g as ins r outs ?_
      rw [← h]
      simp [callR, moreN, hd]
    | some x =>
      have h1 : ((F2 tt gl H call fuel g fn [.snn e] x).map (wrA (H.rsh g) [.snn e] false)) = some (r, outs) := by
        rw [← h]
        simp [callR, moreN, hd]
      obtain ⟨xs, u⟩ := x
      cases u
      obtain ⟨q, h2, h3⟩ := Option.map_eq_some_iff.1 h1
      obtain ⟨e1, e2⟩ := decs_spec hd
      have h4 : body tt gl H (callR call) fuel g fn [.snn e xs] [.none] = some (r, outs) := by
        rw [← h3]; exact F2_body h2
      obtain ⟨⟨⟨c, hc⟩, h16⟩, h7⟩ := body_sound hE hz hT hmix hC hfn (fun S hL hgl => any_ok hE hz hT hC g S hL hgl) h4
      have e1 : as = [.t (.sl e) xs] := e1
      have e2 : ins = [.none] := e2
      subst e1 e2
      refine ⟨⟨⟨fn, c, hfn, hnm, hc⟩, h16⟩, fun M μ w args hgl hw hl hok => ?_⟩
      obtain ⟨v, hv, ha⟩ : ∃ v, RS (E := E) M μ (.t (.sl e) xs) v ∧ args.toList = [v] := by
        generalize args.toList = l at hl
        cases hl with
        | cons h t => cases t; exact ⟨_, h, rfl⟩
      obtain ⟨base, cap, rfl, hrc⟩ := hv.lst_inv (e := e) (xs := xs) rfl
      cases base with
      | some a =>
        refine h7 M μ w args hgl hw ?_ (fun a h => ?_)
        · rw [ha]
          exact .cons (RS.v (RV.snn e xs a cap hrc)) .nil
        · have h := List.mem_singleton.1 h
          subst h
          exact .plain trivial (by simp) (by simp) (by simp)
      | none =>
        have : xs = [] ∧ cap = 0 := by
          generalize hzz : (none : Option Addr) = bb at hrc
          cases hrc with
          | sl _ _ _ css hcap h hat hnil =>
            subst hzz
            have h0 := hnil rfl
            exact ⟨List.length_eq_zero_iff.1 (by omega), h0⟩
        obtain ⟨rfl, rfl⟩ := this
        have h5 : body tt gl H (callR call) fuel g fn [.snil e] [.none] = some (r, outs) := by
          rw [← h3]; exact F2_body (ps := [.snil e]) (y := ((), ())) (hq.trans h2)
        obtain ⟨_, h8⟩ := body_sound hE hz hT hmix hC hfn (fun S hL hgl => any_ok hE hz hT hC g S hL hgl) h5
        refine h8 M μ w args hgl hw ?_ (fun a h => ?_)
        · rw [ha]
          exact .cons (RS.v (RV.snil e)) .nil
        · have h := List.mem_singleton.1 h
          subst h
          exact .plain trivial (by simp) (by simp) (by simp)
  · refine hr g as ins r outs ?_
    rw [← h]
    have : Nat.beq g f = false := by
      cases hb : Nat.beq g f with
      | false => rfl
      | true => exact absurd (Nat.eq_of_beq_eq_true hb) hg
    simp [callR, moreN, this]

/-- A LAW'S CALL: the evaluator says true at whatever it may be handed, of this bulk at most; so the call returns true and leaves all memory as it was. -/
theorem law_calls3 {P : Program} {Hh : Type} {enc : TypeId × Value → Hh} {bf : DataW Hh → Nat} {ba : List (DataW Hh) → Nat} (hB : IsBulk bf ba) {N : Nat} (hE : EnvOK E) (hT : TOK P E tt) (hR : RdOK P E tt)  {C : Nat → Call2 E} (hC : ∀ n, CallOK P gl (callR (C n)))
    {f : FuncId} {ts : List Nat} {W : World} {base : Nat} {args : Array Value} {ds : List (DataW Hh)} {ps : List MemPlace} (hgl : GlOK (memOf W) gl)
    (hA : DataW.TrodAll enc P W 0 (fun _ => true) true ts args.toList ds ps) (hw : (DataW.weightsEach P ts ds).all (· ≤ reachBytes) = true)
    (hval : ∀ (j : Nat) t v, ts[j]? = some t → args[j]? = some v → Value.okWide P W .any base t v)
    (hts : ∀ t ∈ ts, ∃ x, tt t = some x ∧ x.ty.full = true)
    (hN : ba ds ≤ N) (pure : ∀ as, Ins E tt ts as → (∀ g, (as.map (bulkA E g)).sum ≤ N) → ∃ n outs, callR (C n) f as (List.replicate ts.length .none) = some (.t .bool true, outs)) :
    Calls P f args W fun e w' => e = .returned (.bool true) ∧ Below W.heap.size W w' := by
  let μ : Mu := fun _ => ⟨0, fun _ => (none, 0)⟩
  obtain ⟨as, i1, i2, i3, i4⟩ := args_read hB hE hT hR μ W base hA hw (fun j t v a b => hval j t v a (by simpa using b)) hts
  obtain ⟨n, outs, hr⟩ := pure as i1 fun g => Nat.le_trans (i4 g) hN
  have hwr : WR (memOf W) μ (List.replicate ts.length (.none : Blk E)) W :=
    ⟨fun b o v h => h, fun i => by rw [blk_repl]; trivial, fun i j g h => by rw [blk_repl] at h; simp [Exc] at h, fun i ly a h => by rw [blk_repl] at h; cases h⟩
  refine ((hC n f as _ _ _ hr).2 (memOf W) μ W args hgl hwr i2 (ins_closed i1 _)).mono ?_
  rintro e w' ⟨v, M', μ', rfl, tr, hret⟩
  constructor
  · obtain ⟨g, h1, _⟩ := hret
    obtain ⟨h1, _⟩ := h1
    congr 1
    generalize ha : (AV.t .bool true : AV E) = a at h1
    cases h1 with
    | undef => cases ha
    | c => cases ha
    | tup => cases ha
    | v h2 =>
      subst ha
      generalize ha : (AV.t .bool true : AV E) = a at h2
      cases h2 <;> try (cases ha; done)
      rename_i h3
      cases ha
      cases h3
      rfl
  · exact ⟨tr.os, tr.tape, tr.output, tr.size, fun k hk => tr.frame k hk fun i => by rw [blk_repl]; simp [Exc]⟩

/-- A LAW'S CALL: the evaluator says true at whatever it may be handed; so the call returns true and leaves all memory as it was. -/
theorem law_calls2 {P : Program} {Hh : Type} {enc : TypeId × Value → Hh} (hE : EnvOK E) (hT : TOK P E tt) (hR : RdOK P E tt)  {C : Nat → Call2 E} (hC : ∀ n, CallOK P gl (callR (C n)))
    {f : FuncId} {ts : List Nat} {W : World} {base : Nat} {args : Array Value} {ds : List (DataW Hh)} {ps : List MemPlace} (hgl : GlOK (memOf W) gl)
    (hA : DataW.TrodAll enc P W 0 (fun _ => true) true ts args.toList ds ps) (hw : (DataW.weightsEach P ts ds).all (· ≤ reachBytes) = true)
    (hval : ∀ (j : Nat) t v, ts[j]? = some t → args[j]? = some v → Value.okWide P W .any base t v)
    (hts : ∀ t ∈ ts, ∃ x, tt t = some x ∧ x.ty.full = true)
    (pure : ∀ as, Ins E tt ts as → ∃ n outs, callR (C n) f as (List.replicate ts.length .none) = some (.t .bool true, outs)) :
    Calls P f args W fun e w' => e = .returned (.bool true) ∧ Below W.heap.size W w' :=
  law_calls3 cnt_bulk hE hT hR hC hgl hA hw hval hts (Nat.le_refl _) fun as h _ => pure as h

end
end
end Go.Proofs.Ytmkocofcohmnpaa.Fv

/-! The table of types, out of closed facts. -/
namespace Go.Proofs.Ytmkocofcohmnpaa.Fv
variable {E : Env} {P : Program}

def look2 : List (Nat × TE) → Nat → Option TE
  | [], _ => none
  | p :: l, t => bif Nat.beq t p.1 then some p.2 else look2 l t
theorem look2_mem : ∀ {l : List (Nat × TE)} {t : Nat} {x : TE}, look2 l t = some x → (t, x) ∈ l
  | [], _, _, h => by cases h
  | p :: l, t, x, h => by
    unfold look2 at h
    cases hb : Nat.beq t p.1 with
    | true =>
      rw [hb] at h
      have := Nat.eq_of_beq_eq_true hb
      subst this
      cases h
      exact List.mem_cons_self ..
    | false =>
      rw [hb] at h
      exact List.mem_cons_of_mem _ (look2_mem h)
theorem mem_nil2 {Q : Nat × TE → Prop} : ∀ p ∈ ([] : List (Nat × TE)), Q p := fun p h => nomatch h
theorem mem_cons2 {Q : Nat × TE → Prop} {q : Nat × TE} {l : List (Nat × TE)} (h : Q q) (r : ∀ p ∈ l, Q p) : ∀ p ∈ q :: l, Q p := fun p hp => by
  rcases List.mem_cons.1 hp with rfl | hp
  · exact h
  · exact r p hp
theorem TOK.of {l : List (Nat × TE)} (h : ∀ p ∈ l, TFact P E (look2 l) p.1 p.2) : TOK P E (look2 l) := fun t x hx => h (t, x) (look2_mem hx)
theorem RdOK.of {l : List (Nat × TE)} (h : (l.all fun p => !p.2.ty.full || rdOK P E p.2) = true) : RdOK P E (look2 l) := fun t x hx hf => by
  have := List.all_eq_true.1 h (t, x) (look2_mem hx)
  simpa [hf] using this

def undD (tt : Nat → Option TE) (P : Program) (E : Env) (x : TE) (u : TypeDesc) : Prop := aggD u = x.ty.agg ∧
    match x.d with
    | .int k => u = .int k ∧ x.ty = .int k
    | .bool => u = .bool ∧ x.ty = .bool
    | .str => u = .string ∧ x.ty = .str
    | .slice el => u = .slice el ∧ (x.ty = .any ∨ (x.ty = .sl (tyOf tt el) ∧ (tyOf tt el).full = true ∧ (tt el).isSome = true ∧ P.bytesOf el ≤ 32768 ∧ 0 < size E (tyOf tt el) ∧ size E (tyOf tt el) ≤ 16384))
    | .struct fs => (∃ fields, u = .struct fields ∧ fields.toList.map (fun f => (f.type, f.offset)) = fs) ∧ arity (bodyOf E x.ty) = fs.length ∧ fldsOK E tt (bodyOf E x.ty) fs 0 = true
    | .arr n el => u = .array n el ∧ x.ty = .arr n (tyOf tt el) ∧ (tt el).isSome = true
    | .map k v => u = .map k v ∧ (tt k).isSome = true ∧ (tt v).isSome = true
    | .ptr el => u = .pointer el
    | .func => ∃ a b c, u = .func a b c
    | .iface => ∃ ms, u = .interface ms
    | _ => True
theorem TFact.of {tt : Nat → Option TE} {t : Nat} {x : TE} {u : TypeDesc} {z : Value} {bs : Nat} (hu : P.underlying t = some u) (hd : undD tt P E x u)
    (hi : (P.info? t).map (fun i => (i.zero, i.size, i.bytes)) = some (some z, Fv.size E x.ty, bs)) (hz : z.cells.toList = zA (E := E) (zeroA tt 20 t)) (ha : x.ty.agg = true → z = .agg z.cells)
    (hl : (zA (E := E) (zeroA tt 20 t)).length = Fv.size E x.ty)
    (hs : match x.d with
      | .struct fs => z.cells.toList = (fs.map fun f => zA (E := E) (zeroA tt 20 f.1)).flatten
      | _ => True) : TFact P E tt t x where
  und := ⟨u, hu, hd⟩
  info := ⟨z, bs, hi, hz, ha⟩
  zlen := hl
  zst := fun i z' h1 h2 => by
    rw [h1] at hi
    simp only [Option.map_some, Option.some.injEq, Prod.mk.injEq] at hi
    obtain ⟨h3, _⟩ := hi
    rw [h2] at h3
    have h3 := Option.some.inj h3
    subst h3
    exact hs
end Go.Proofs.Ytmkocofcohmnpaa.Fv

/-! Words for loops over lists. -/
namespace Go.Proofs.Ytmkocofcohmnpaa.Fv

theorem w64 {x : Int} (h1 : -9223372036854775808 ≤ x) (h2 : x < 9223372036854775808) : IntKind.wrap .i64 x = x := by
  unfold IntKind.wrap
  simp only [IntKind.signed, IntKind.bits]
  simp
  omega
theorem i64_succ {k : Nat} (h : k < 9223372036854775807) : IntKind.wrap .i64 ((k : Int) + 1) = ((k + 1 : Nat) : Int) := by
  rw [w64 (by omega) (by omega)]
  simp
theorem i64_pred {k : Nat} (h : k < 9223372036854775807) : IntKind.wrap .i64 (((k + 1 : Nat) : Int) - 1) = (k : Int) := by
  rw [w64 (by omega) (by omega)]
  omega
theorem dlt (a b : Nat) : decide ((a : Int) < (b : Int)) = decide (a < b) := by simp [Int.ofNat_lt]
theorem dle (a b : Nat) : decide ((a : Int) ≤ (b : Int)) = decide (a ≤ b) := by simp [Int.ofNat_le]
theorem d0 (a : Nat) : decide (0 ≤ (a : Int)) = true := by simp
theorem d00 : decide ((0 : Int) ≤ 0) = true := rfl
theorem dT {p : Prop} [Decidable p] (h : p) : decide p = true := decide_eq_true h
theorem dF {p : Prop} [Decidable p] (h : ¬ p) : decide p = false := decide_eq_false h
theorem getD_lt {α : Type} {l : List α} {k : Nat} (d : α) (h : k < l.length) : l.getD k d = l[k] := List.getD_of_lt _ _ _ h
theorem reach_lt : reachBytes < 140737488355328 := by decide
theorem cond_ite {α : Type} (b : Bool) (x y : α) : (bif b then x else y) = if b = true then x else y := by cases b <;> rfl
theorem bind_some2 {α β : Type} (x : α) (f : α → Option β) : Option.bind (some x) f = f x := rfl
theorem ex_cond {α : Type} {c : Bool} {a b : Option α} (ha : ∃ x, a = some x) (hb : ∃ x, b = some x) : ∃ x, (bif c then a else b) = some x := by cases c <;> assumption
theorem ex_bind {α β : Type} {a : Option α} {f : α → Option β} (ha : ∃ x, a = some x) (hf : ∀ x, ∃ y, f x = some y) : ∃ y, Option.bind a f = some y := by
  obtain ⟨x, rfl⟩ := ha
  exact hf x
theorem any_drop {α : Type} {l : List α} {k : Nat} (h : k < l.length) (p : α → Bool) : (l.drop k).any p = (p l[k] || (l.drop (k + 1)).any p) := by
  rw [List.drop_eq_getElem_cons h, List.any_cons]
theorem drop_len {α : Type} {l : List α} {k : Nat} (h : ¬ k < l.length) : l.drop k = [] := List.drop_eq_nil_of_le (by omega)
theorem mem_sum {l : List Nat} {a : Nat} (h : a ∈ l) : a ≤ l.sum := by
  induction l with
  | nil => cases h
  | cons b l ih =>
    rw [List.sum_cons]
    rcases List.mem_cons.1 h with rfl | h
    · omega
    · have := ih h
      omega
theorem sum_ge {l : List Nat} (h : ∀ x ∈ l, 1 ≤ x) : l.length ≤ l.sum := by
  induction l with
  | nil => simp
  | cons b l ih =>
    have h1 := h b (by simp)
    have h2 := ih fun x hx => h x (by simp [hx])
    simp only [List.length_cons, List.sum_cons]
    omega
theorem sum_gm {α : Type} (f : α → Nat) (l : List α) (h : ∀ x ∈ l, 1 ≤ f x) : l.length ≤ (l.map f).sum := by
  have := sum_ge (l := l.map f) fun x hx => by
    obtain ⟨y, hy, rfl⟩ := List.mem_map.1 hx
    exact h y hy
  simpa using this
theorem sum_ones {α : Type} (l : List α) : (l.map fun _ => 1).sum = l.length := by
  induction l with
  | nil => rfl
  | cons a l ih => simp only [List.map_cons, List.sum_cons, List.length_cons, ih]; omega
end Go.Proofs.Ytmkocofcohmnpaa.Fv
