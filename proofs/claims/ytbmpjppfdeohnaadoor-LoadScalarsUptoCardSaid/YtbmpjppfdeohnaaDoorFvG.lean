/- An evaluator of the model's code, part 7: Functions of two texts that are taken by a contract. Under that contract. No condition. -/
import Derived.Test.YtbmpjppfdeohnaaDoorFvF
import Derived.Shelf.Lay
import Derived.Shelf.Small.Strs
import Derived.Ground.NamesProg
set_option linter.unusedVariables false
set_option linter.unusedSectionVars false
set_option linter.unusedSimpArgs false
/-! Functions of two texts that are taken by a contract. Under that contract. -/
namespace Go.Proofs.YtbmpjppfdeohnaaDoor.Fv
variable [Quiet]
variable {E : Env} {P : Program} {gl : Nat → AV E}

def SSI (P : Program) (f : FuncId) (F : List UInt8 → List UInt8 → Int) : Prop := ∀ (a b : ByteArray) (w : World), Calls P f #[.string a, .string b] w fun e w' => e = .returned (.int .i64 (F a.data.toList b.data.toList)) ∧ w' = w
def moreF (g : FuncId) (F : List UInt8 → List UInt8 → Int) (prev : Call2 E) : Call2 E := fun f ags ins => bif Nat.beq f g then (match ags, ins with
  | [.t .str a, .t .str b], [.none, .none] => some ⟨Int, some (F a b), fun r => (.t (.int .i64) r, [.none, .none])⟩
  | _, _ => none) else prev f ags ins
theorem moreF_ok {prev : Call2 E} (ok : CallOK P gl (callR prev)) {g : FuncId} {F : List UInt8 → List UInt8 → Int} (hfn : FnOK P g) (sc : SSI P g F) : CallOK P gl (callR (moreF g F prev)) := by
  intro f ags ins r outs h
  by_cases hf : f = g
  · subst hf
    unfold callR moreF at h
    rw [show Nat.beq f f = true from Nat.beq_refl f] at h
    simp only [cond_true] at h
    split at h
    · rename_i x hx
      split at hx
      · rename_i a b
        simp only [Option.some.injEq] at hx
        subst hx
        cases h
        refine ⟨⟨hfn, by simp⟩, fun M μ w args hgl hw hl hok => ?_⟩
        obtain ⟨args⟩ := args
        simp only at hl
        cases hl with
        | cons h0 hl =>
          cases hl with
          | cons h1 hl =>
            cases hl
            cases h0 with
            | v h0 => cases h0 with
              | t h0 => cases h0 with
                | str s0 => cases h1 with
                  | v h1 => cases h1 with
                    | t h1 => cases h1 with
                      | str s1 =>
                        refine Calls.mono (sc s0 s1 w) ?_
                        rintro e w' ⟨rfl, rfl⟩
                        exact ⟨_, M, μ, rfl, Tr.refl hw _, none, ⟨.v (.t (.int _ _)), rfl⟩, fun n h => by cases h⟩
      · cases hx
    · cases h
  · refine ok f ags ins r outs ?_
    rw [← h]
    unfold callR moreF
    have : Nat.beq f g = false := by
      cases hb : Nat.beq f g with
      | false => rfl
      | true => exact absurd (Nat.eq_of_beq_eq_true hb) hf
    rw [this]
    rfl
end Go.Proofs.YtbmpjppfdeohnaaDoor.Fv
