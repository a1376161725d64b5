/- Good programs. -/
import Derived.Test.YtocmjgfbcpgaoaaPa
import Derived.Test.YtocmjgfbcpgaoaaKi
set_option linter.unusedVariables false
set_option linter.unusedSimpArgs false
set_option maxRecDepth 4000
namespace Go.Proofs.Ytocmjgfbcpgaoaa
open Go.Dp

theorem kindT_size {wide vars : Int} {t : List Nd} (h : kindT wide vars t ≠ 0) : isW wide = true ∧ isV vars = true := by
  unfold kindT at h
  split at h
  · rename_i hs
    simp only [sizeT, Bool.and_eq_true] at hs
    exact hs.1.1
  · exact absurd rfl h
def goodChs (wide vars : Int) : Int → List Chg → Bool
  | _, [] => true
  | pv, x :: l => decide (0 ≤ x.v) && decide (x.v < vars) && decide (pv < x.v) && (kindT wide vars x.by1 == 1) && goodChs wide vars x.v l
def goodCmd (wide vars : Int) (c : Cmd) : Bool := (kindT wide vars c.wh == 2) && goodChs wide vars (-1) c.ch
def goodP (p : Prg) : Bool := (kindT p.wide p.vars p.start == 2) && decide (1 ≤ p.cmds.length) && decide (p.cmds.length ≤ 6) && p.cmds.all (goodCmd p.wide p.vars)
theorem goodChs_len {wide vars : Int} : ∀ {l : List Chg} {pv : Int}, -1 ≤ pv → goodChs wide vars pv l = true → l = [] ∨ (l.length : Int) ≤ vars - 1 - pv
  | [], pv, hp, h => .inl rfl
  | x :: l, pv, hp, h => by
    simp only [goodChs, Bool.and_eq_true, decide_eq_true_eq] at h
    obtain ⟨⟨⟨⟨h1, h2⟩, h3⟩, _⟩, h5⟩ := h
    right
    rcases goodChs_len (by omega) h5 with rfl | h6
    · simp; omega
    · simp; omega
def prevV (l : List Chg) (i : Nat) : Int := if i = 0 then -1 else match l[i - 1]? with | some x => x.v | none => -1
theorem goodChs_at {wide vars : Int} {l : List Chg} {i : Nat} (h : i < l.length) : goodChs wide vars (prevV l i) (l.drop i) = (decide (0 ≤ l[i].v) && decide (l[i].v < vars) && decide (prevV l i < l[i].v) && (kindT wide vars l[i].by1 == 1) && goodChs wide vars (prevV l (i + 1)) (l.drop (i + 1))) := by
  rw [drop_cons h]
  have e : prevV l (i + 1) = l[i].v := by simp [prevV, h]
  rw [e]
  rfl
theorem goodP_size {p : Prg} (h : goodP p = true) : isW p.wide = true ∧ isV p.vars = true := by
  simp only [goodP, Bool.and_eq_true, beq_iff_eq] at h
  exact kindT_size (t := p.start) (by omega)
end Go.Proofs.Ytocmjgfbcpgaoaa
