/- Contracts proved beside the evaluator: a slice's copy, nil or not. -/
import Derived.Test.YtocmjgfbcpgaoaaDp21
set_option linter.unusedVariables false
namespace Go.Dp
theorem RP.noNil {w : World} {Im : Nat → Prop} {sh : Nat} {xs : List PV} {y : Value} (h : RP w Im (.row sh 0 xs) y) : (xs = [] ∧ RP w Im (.row sh 2 []) y) ∨ RP w Im (.row sh 3 xs) y := by
  cases h with
  | nil => exact .inl ⟨rfl, .nil _ _ (by decide)⟩
  | row _ _ _ a cap g hf hs hc hm h1 him hsh hcell hrec => exact .inr (.row _ _ _ a cap g (by decide) hs hc hm (by simp) him hsh hcell hrec)
theorem clone_contract {P : Program} {f : FuncId} {e sh : Nat} {xs : List PV} (h2 : Contract P f [.s (.c (.p (.row sh 2 [])))] [] ([.c (.own e sh [])], []))
    (h3 : Contract P f [.s (.c (.p (.row sh 3 xs)))] [] ([.c (.own e sh xs)], [])) : Contract P f [.s (.c (.p (.row sh 0 xs)))] [] ([.c (.own e sh xs)], []) := by
  refine ⟨h2.1, fun w Im bl vss ys pre => ?_⟩
  have hl := pre.l3
  simp only [List.length_cons, List.length_nil] at hl
  obtain ⟨y, rfl⟩ : ∃ y, ys = [y] := by
    match ys, hl with
    | [y], _ => exact ⟨y, rfl⟩
  have hy : RP w Im (.row sh 0 xs) y := pre.arg 0 _ y rfl rfl
  have mk : ∀ a : AV, RA w Im (Ptrs bl) (blanks bl.length) a y → Pre w Im bl [] vss [a] [y] := by
    intro a ha
    refine ⟨pre.im, pre.nd, pre.l1, pre.l2, pre.box, pre.tok, rfl, fun i b z hb hz => ?_⟩
    cases i with
    | zero => simp at hb hz; subst hb; subst hz; exact ha
    | succ i => simp at hb
  rcases hy.noNil with ⟨rfl, h⟩ | h
  · exact h2.2 w Im bl vss [y] (mk _ h)
  · exact h3.2 w Im bl vss [y] (mk _ h)
theorem evF_T {Pf : FuncId → Option Func} {E : Env} {T : FuncId → List AV → List (List CV) → R} {k : Nat} {f : FuncId} {args : List AV} {bs : List (List CV)} {r : List SV × List (List CV)} (h : T f args bs = some r) : evF Pf E T (k + 1) f args bs = some r := by
  simp only [evF, h]
/-- The copies: function, element type, shape, bytes. -/
def cloneT (tab : List (Nat × (Nat × Nat × Nat))) : FuncId → List AV → List (List CV) → R := fun f args bs =>
  match lk tab f with
  | some q => match args, bs with
    | [.s (.c (.p (.row s g xs)))], [] => bif s == q.2.1 && g == 0 && decide (xs.length * q.2.2 ≤ LIM) && decide (xs.length ≤ LIM) then some ([.c (.own q.1 q.2.1 xs)], []) else none
    | _, _ => none
  | none => none
theorem cloneT_ok {P : Program} {tab : List (Nat × (Nat × Nat × Nat))} (h : ∀ f e sh by_, (f, (e, sh, by_)) ∈ tab → ∀ xs : List PV, xs.length * by_ ≤ LIM → xs.length ≤ LIM → Contract P f [.s (.c (.p (.row sh 0 xs)))] [] ([.c (.own e sh xs)], [])) :
    ∀ f args bs r, cloneT tab f args bs = some r → Contract P f args bs r := by
  intro f args bs r hr
  unfold cloneT at hr
  split at hr
  · rename_i q hq
    obtain ⟨e, sh, by_⟩ := q
    split at hr
    · rename_i s g xs
      obtain ⟨hc, hr'⟩ := bif_some hr
      simp only [Bool.and_eq_true, beq_iff_eq, decide_eq_true_eq] at hc
      obtain ⟨⟨⟨rfl, rfl⟩, h1⟩, h2⟩ := hc
      injection hr' with hr'
      subst hr'
      exact h f e s by_ (lk_mem hq) xs h1 h2
    · cases hr
  · cases hr
end Go.Dp
