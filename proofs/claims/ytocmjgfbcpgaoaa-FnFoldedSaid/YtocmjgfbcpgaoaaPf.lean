/- FnBefore: what must hold ahead of a command does; the law. -/
import Derived.Test.YtocmjgfbcpgaoaaPe
set_option linter.unusedVariables false
set_option linter.unusedSimpArgs false
set_option maxRecDepth 4000
namespace Go.Proofs.Ytocmjgfbcpgaoaa
open Go.Dp

def valD (wide : Int) (s : List W) (t : List Nd) : W := match vrun wide s t [] with | some [v] => v | _ => 0#64
theorem valD_of {wide : Int} {s : List W} {t : List Nd} {v : W} (h : vrun wide s t [] = some [v]) : valD wide s t = v := by unfold valD; rw [h]
def afterS (wide : Int) (s : List W) (ch : List Chg) (o : List W) : List W := ch.foldl (fun o x => o.set x.v.toNat (valD wide s x.by1)) o
theorem kind_val {wide vars c : Int} {t : List Nd} (h : kindT wide vars t = c) (hc : c > 0) {s : List W} (hs : (s.length : Int) = vars) (hg : ∀ a ∈ s, a ≤ mk wide) : vrun wide s t [] = some [valD wide s t] ∧ okV wide c (valD wide s t) := by
  obtain ⟨v, h1, h2⟩ := good_value (kind_good (by omega : kindT wide vars t > 0)) hs hg
  rw [valD_of h1, ← h]
  exact ⟨h1, h2⟩
def holdC (p : Prg) (c : Cmd) (s : List W) : Bool := valD p.wide s c.wh == 1#64
/-! ### The plain law -/
structure InvV (wide : Int) (s : List W) (b : List (List Nd)) (v : List W) : Prop where
  l : v.length = b.length
  q : ∀ (i : Nat) (t : List Nd) (w : W), b[i]? = some t → v[i]? = some w → vrun wide s t [] = some [w]
  m : ∀ a ∈ v, a ≤ mk wide
theorem inv_set {wide vars : Int} {s : List W} (hs : (s.length : Int) = vars) (hg : ∀ a ∈ s, a ≤ mk wide) : ∀ (ch : List Chg) (b : List (List Nd)) (v : List W), (∀ x ∈ ch, kindT wide vars x.by1 = 1) → InvV wide s b v → InvV wide s (setCh b ch) (afterS wide s ch v)
  | [], b, v, hx, h => h
  | x :: l, b, v, hx, h => by
    obtain ⟨h1, h2⟩ := kind_val (hx x (by simp)) (by omega) hs hg
    have h3 : valD wide s x.by1 ≤ mk wide := by rcases h2 with h | h; exact h.2; exact absurd h.1 (by omega)
    refine inv_set hs hg l (b.set x.v.toNat x.by1) (v.set x.v.toNat (valD wide s x.by1)) (fun y hy => hx y (by simp [hy])) ⟨by simp [h.l], ?_, ?_⟩
    · intro i t w ht hw
      rw [List.getElem?_set] at ht hw
      by_cases he : x.v.toNat = i
      · rw [if_pos he] at ht hw
        split at ht
        · split at hw
          · injection ht with ht
            injection hw with hw
            rw [← ht, ← hw]
            exact h1
          · cases hw
        · cases ht
      · rw [if_neg he] at ht hw
        exact h.q i t w ht hw
    · intro a ha
      rcases List.mem_or_eq_of_mem_set ha with h4 | h4
      · exact h.m a h4
      · rw [h4]; exact h3
theorem inv_vars {wide : Int} {s : List W} (hl : s.length ≤ 100) (hg : ∀ a ∈ s, a ≤ mk wide) : InvV wide s (varsT s.length) s := by
  refine ⟨by simp, ?_, hg⟩
  intro i t w ht hw
  have hi := (List.getElem?_eq_some_iff.1 hw).1
  have e1 : (varsT s.length)[i]? = some [((2 : Int), BitVec.ofNat 64 i)] := by simp [varsT, hi]
  rw [e1] at ht
  injection ht with ht
  subst ht
  have e2 : (BitVec.ofNat 64 i).toNat = i := by rw [BitVec.toNat_ofNat, Nat.mod_eq_of_lt (by omega)]
  simp only [vrun]
  rw [if_neg (by omega), if_pos trivial, e2, hw]
  rfl
theorem one_mk {wide : Int} (hw : isW wide = true) : 1#64 &&& mk wide = 1#64 := by
  have h := isW_iff.1 hw
  unfold mk
  rw [cut_eq_iff (by omega), BitVec.le_def, maskB_toNat (by omega)]
  have : 2 ^ 1 ≤ 2 ^ wide.toNat := Nat.pow_le_pow_right (by omega) (by omega)
  have h1 : (1#64).toNat = 1 := rfl
  omega
theorem or_if {wide : Int} (hw : isW wide = true) {w v : W} (h1 : w ≤ 1#64) (h2 : v ≤ 1#64) : apW wide 18 (1#64 - w) v = bif w == 1#64 then v else 1#64 := by
  have e : apW wide 18 (1#64 - w) v = ((1#64 - w) ||| v) &&& mk wide := rfl
  have hm := one_mk hw
  have h0 : 0#64 &&& mk wide = 0#64 := by simp
  rw [e]
  rcases le_one_cases h1 with rfl | rfl <;> rcases le_one_cases h2 with rfl | rfl
  · exact hm
  · exact hm
  · exact h0
  · exact hm
theorem okV_two {wide : Int} {v : W} (h : okV wide 2 v) : v ≤ 1#64 := by rcases h with h | h; exact absurd h.1 (by omega); exact h.2
/-- What the one holds of: the state after. -/
theorem one_law {p : Prg} (hp : FitP p) {k1 : Int} {t : List Nd} (ha : askOK p k1 t = true) (ho : oneOK p (cmdAt p k1) t = true) {s : List W} (hs : (s.length : Int) = p.vars) (hg : ∀ a ∈ s, a ≤ mk p.wide) :
    ∃ v, vrun p.wide s (putT (byOf p (cmdAt p k1)) t) [] = some [v] ∧ vrun p.wide (afterS p.wide s (cmdAt p k1).ch s) t [] = some [v] ∧ v ≤ 1#64 ∧ ((afterS p.wide s (cmdAt p k1).ch s).length : Int) = p.vars ∧ ∀ a ∈ afterS p.wide s (cmdAt p k1).ch s, a ≤ mk p.wide := by
  obtain ⟨hw, hv, hn, hkt, hf, hkw, hx⟩ := ask_cmd hp ha
  have hv' := isV_iff.1 hv
  have hn2 : s.length = p.vars.toNat := by omega
  have hi := inv_vars (wide := p.wide) (s := s) (by omega) hg
  rw [hn2] at hi
  have hi2 := inv_set hs hg (cmdAt p k1).ch _ _ (fun x h => (hx x h).2.2) hi
  simp only [oneOK, putOK, Bool.and_eq_true, decide_eq_true_eq] at ho
  obtain ⟨⟨⟨hgt, hbl⟩, _⟩, hgp⟩ := ho
  have hl2 : ((afterS p.wide s (cmdAt p k1).ch s).length : Int) = p.vars := by rw [hi2.l]; exact hbl
  obtain ⟨x, h1, _⟩ := good_value hgp hs hg
  obtain ⟨y, h2, h3⟩ := good_value hgt hl2 hi2.m
  have hxy := vrun_put (wide := p.wide) (state := s) (by1 := byOf p (cmdAt p k1)) hi2.l hi2.q t [] (fun z hz h => by have := goodT_vars hgt z hz h; omega)
  rw [h1, h2] at hxy
  injection hxy with hxy
  injection hxy with hxy
  rw [hkt] at h3
  refine ⟨x, h1, by rw [hxy]; exact h2, by rw [hxy]; exact okV_two h3, hl2, hi2.m⟩
theorem if_law {p : Prg} (hp : FitP p) {k1 : Int} {t : List Nd} (ha : askOK p k1 t = true) (ho : oneOK p (cmdAt p k1) t = true) {s : List W} (hs : (s.length : Int) = p.vars) (hg : ∀ a ∈ s, a ≤ mk p.wide) {v : W} (h1 : vrun p.wide s (putT (byOf p (cmdAt p k1)) t) [] = some [v]) (h2 : v ≤ 1#64) :
    vrun p.wide s (ifT p (cmdAt p k1) t) [] = some [bif holdC p (cmdAt p k1) s then v else 1#64] := by
  obtain ⟨hw, hv, hn, hkt, hf, hkw, hx⟩ := ask_cmd hp ha
  obtain ⟨h3, h4⟩ := kind_val hkw (by omega) hs hg
  have e : oneT p (cmdAt p k1) t = putT (byOf p (cmdAt p k1)) t := by unfold oneT; rw [ho]; rfl
  have h5 := vrun_frame [1#64 - valD p.wide s (cmdAt p k1).wh] h1
  rw [List.nil_append] at h5
  have e19 : ∀ a : W, vrun p.wide s [(19, 0#64)] [a] = some [1#64 - a] := fun a => rfl
  have e18 : ∀ a b : W, vrun p.wide s [(18, 0#64)] [b, a] = some [apW p.wide 18 a b] := fun a b => rfl
  unfold ifT
  rw [e, vrun_app, vrun_app, vrun_app, h3]
  simp only [Option.bind_some, e19, h5, List.cons_append, List.nil_append, e18]
  rw [or_if hw (okV_two h4) h2]
  rfl

/-! ### The law -/
end Go.Proofs.Ytocmjgfbcpgaoaa
