/- The program's functions, all together; from what the evaluator says of a law to its walk. -/
import Derived.Test.YtocmjgfbcpgaoaaDp19
import Derived.Below
set_option linter.unusedVariables false
set_option linter.unusedSimpArgs false
namespace Go.Dp
section
variable {P : Program} {E : Env} {w w' : World} {Im Im' : Nat → Prop} {ρ ρ' : Nat → Option Value} {o o' : List AObj} {r : List SV × List (List CV)}
/-- The program, as the evaluator looks it up. -/
def PfOK (P : Program) (Pf : FuncId → Option Func) : Prop := ∀ f fn, Pf f = some fn → P.funcs[f]? = some fn ∧ fn.name ≠ "runtime.NumGoroutine"
theorem evF_sound (hE : EnvOK P E) {Pf : FuncId → Option Func} (hP : PfOK P Pf) {T : FuncId → List AV → List (List CV) → R} (hT : ∀ f args bs r, T f args bs = some r → Contract P f args bs r) :
    ∀ (k : Nat) {f : FuncId} {args : List AV} {bs : List (List CV)} {r : List SV × List (List CV)}, evF Pf E T k f args bs = some r → Contract P f args bs r
  | 0, f, args, bs, r, h => by simp [evF] at h
  | k + 1, f, args, bs, r, h => by
    simp only [evF] at h
    split at h
    · rename_i r' hr
      injection h with h
      subst h
      exact hT _ _ _ _ hr
    · exact evBody_sound hE hP (fun g args bs r hg => evF_sound hE hP hT k hg) h
/-- A function that takes plain values and rows and yields one plain value. -/
theorem Contract.calls {f : FuncId} {args : List PV} {v : PV} (h : Contract P f (args.map .p) [] ([.c (.p v)], [])) (w : World) (Im : Nat → Prop) (him : ∀ b, Im b → b < w.heap.size) (ys : List Value) (hl : ys.length = args.length)
    (hr : ∀ (i : Nat) (a : PV) (y : Value), args[i]? = some a → ys[i]? = some y → RP w Im a y) : Calls P f ys.toArray w fun e w' => ∃ y Im', e = .returned y ∧ RP w' Im' v y ∧ Wd w w' ∧ ∀ b, b < w.heap.size → w'.heap[b]? = w.heap[b]? := by
  refine Calls.mono (h.2 w Im [] [] ys ⟨him, by simp, rfl, rfl, by simp, Toks.nil, by simpa using hl, ?_⟩) ?_
  · intro i a y ha hy
    simp only [List.getElem?_map, Option.map_eq_some_iff] at ha
    obtain ⟨a', ha', rfl⟩ := ha
    exact hr i a' y ha' hy
  · rintro e w' ⟨y, Im', vss', zs, rfl, post⟩
    obtain ⟨y0, hret, rfl⟩ := post.ret
    cases hret with
    | @cons _ y1 _ _ _ _ h0 hrest =>
      cases hrest
      simp only [RetS] at h0
      obtain ⟨g, rfl, hg⟩ := h0
      have hgr : RP w' Im' v g := by
        have := post.tok.tok vss'.flatten.length (.p v) g
        have hv0 : vss' = [] := by simpa using post.l2
        subst hv0
        exact post.tok.tok 0 _ g rfl rfl
      rw [hgr.mainV] at hg
      have hg := hg.symm
      subst hg
      have hv : vss' = [] := by simpa using post.l2
      subst hv
      refine ⟨y1, Im', rfl, post.tok.tok 0 _ y1 rfl rfl, post.wd, fun b hb => post.fr b hb ?_⟩
      rintro (hd | ⟨i, _, _, _, _, hd, _⟩) <;> simp at hd
end
end Go.Dp
