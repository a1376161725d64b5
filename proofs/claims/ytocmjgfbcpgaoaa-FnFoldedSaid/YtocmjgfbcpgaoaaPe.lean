/- FnBefore: what is drawn; what must hold ahead of a command. -/
import Derived.Test.YtocmjgfbcpgaoaaPc
import Derived.Test.YtocmjgfbcpgaoaaKk
set_option linter.unusedVariables false
set_option linter.unusedSimpArgs false
set_option maxRecDepth 4000
namespace Go.Proofs.Ytocmjgfbcpgaoaa
open Go.Dp

def one1 (n : Int) : Int := if n < 1 then 1 else n
/-! ### What is asked -/
def cnoOK (p : Prg) (k1 : Int) : Bool := decide (0 ≤ k1) && decide (k1 < (p.cmds.length : Int))
def cmdAt (p : Prg) (k1 : Int) : Cmd := (p.cmds[k1.toNat]?).getD ⟨[], []⟩
def askOK (p : Prg) (k1 : Int) (t : List Nd) : Bool := goodP p && (cnoOK p k1 && (kindT p.wide p.vars t == 2))
theorem cmdAt_get {p : Prg} {k1 : Int} (h : cnoOK p k1 = true) : lookP (encCms p.cmds) k1 = some (encCm (cmdAt p k1)) ∧ cmdAt p k1 ∈ p.cmds := by
  simp only [cnoOK, Bool.and_eq_true, decide_eq_true_eq] at h
  have hlt : k1.toNat < p.cmds.length := by omega
  rw [lookP_int h.1, encCms_get]
  unfold cmdAt
  rw [List.getElem?_eq_getElem hlt]
  exact ⟨rfl, List.getElem_mem hlt⟩
/-! ### What is put for the variables -/
def varsT (n : Nat) : List (List Nd) := (List.range n).map fun v => [((2 : Int), BitVec.ofNat 64 v)]
@[simp] theorem varsT_length (n : Nat) : (varsT n).length = n := by simp [varsT]
theorem varsT_snoc (n : Nat) : varsT n ++ [[(2, BitVec.ofNat 64 n)]] = varsT (n + 1) := by simp [varsT, List.range_succ]
def setCh (by1 : List (List Nd)) (ch : List Chg) : List (List Nd) := ch.foldl (fun b x => b.set x.v.toNat x.by1) by1
theorem setCh_length : ∀ (ch : List Chg) (by1 : List (List Nd)), (setCh by1 ch).length = by1.length
  | [], by1 => rfl
  | x :: l, by1 => by
    have := setCh_length l (by1.set x.v.toNat x.by1)
    simpa [setCh] using this
theorem setCh_len : ∀ (ch : List Chg) (by1 : List (List Nd)), (∀ b ∈ by1, b.length ≤ 100) → (∀ x ∈ ch, x.by1.length ≤ 100) → ∀ b ∈ setCh by1 ch, b.length ≤ 100
  | [], by1, h1, h2 => h1
  | x :: l, by1, h1, h2 => by
    refine setCh_len l (by1.set x.v.toNat x.by1) (fun b hb => ?_) fun y hy => h2 y (by simp [hy])
    rcases List.mem_or_eq_of_mem_set hb with h | h
    · exact h1 b h
    · subst h; exact h2 x (by simp)
def byOf (p : Prg) (c : Cmd) : List (List Nd) := setCh (varsT p.vars.toNat) c.ch
theorem varsT_len (n : Nat) : ∀ b ∈ varsT n, b.length ≤ 100 := by
  intro b hb
  simp only [varsT, List.mem_map] at hb
  obtain ⟨v, _, rfl⟩ := hb
  simp
def oneOK (p : Prg) (c : Cmd) (t : List Nd) : Bool := putOK p.wide p.vars t (byOf p c) && goodT p.wide p.vars (putT (byOf p c) t)
def oneT (p : Prg) (c : Cmd) (t : List Nd) : List Nd := bif oneOK p c t then putT (byOf p c) t else []
theorem oneT_enc (p : Prg) (c : Cmd) (t : List Nd) : (bif oneOK p c t then encT (putT (byOf p c) t) else []) = encT (oneT p c t) := by
  unfold oneT
  cases oneOK p c t <;> rfl
theorem oneT_len (p : Prg) (c : Cmd) (t : List Nd) : (oneT p c t).length ≤ 48 := by
  unfold oneT
  cases h : oneOK p c t
  · simp
  · simp only [oneOK, Bool.and_eq_true] at h
    have := (goodT_iff.1 h.2).1
    simp only [sizeT, Bool.and_eq_true, decide_eq_true_eq] at this
    exact this.2
theorem goodChs_mem {wide vars : Int} : ∀ {l : List Chg} {pv : Int}, goodChs wide vars pv l = true → ∀ x ∈ l, 0 ≤ x.v ∧ x.v < vars ∧ kindT wide vars x.by1 = 1
  | [], pv, h => by simp
  | x :: l, pv, h => by
    simp only [goodChs, Bool.and_eq_true, decide_eq_true_eq, beq_iff_eq] at h
    intro y hy
    rcases List.mem_cons.1 hy with rfl | hy
    · exact ⟨h.1.1.1.1, h.1.1.1.2, h.1.2⟩
    · exact goodChs_mem h.2 y hy
theorem ask_cmd {p : Prg} (hp : FitP p) {k1 : Int} {t : List Nd} (h : askOK p k1 t = true) : isW p.wide = true ∧ isV p.vars = true ∧ cnoOK p k1 = true ∧ kindT p.wide p.vars t = 2 ∧ FitC 6 (cmdAt p k1) ∧ kindT p.wide p.vars (cmdAt p k1).wh = 2 ∧ ∀ x ∈ (cmdAt p k1).ch, 0 ≤ x.v ∧ x.v < p.vars ∧ kindT p.wide p.vars x.by1 = 1 := by
  simp only [askOK, Bool.and_eq_true, beq_iff_eq] at h
  obtain ⟨hg, hn, hk⟩ := h
  obtain ⟨h1, h2⟩ := goodP_size hg
  have hm := (cmdAt_get hn).2
  simp only [goodP, Bool.and_eq_true, List.all_eq_true] at hg
  have hc := hg.2 _ hm
  simp only [goodCmd, Bool.and_eq_true, beq_iff_eq] at hc
  exact ⟨h1, h2, hn, hk, hp.c _ hm, hc.1, goodChs_mem hc.2⟩
theorem vars_node (v : Nat) (hv : v ≤ 100) : PV.agg [.int .i64 2, .int .u64 (IntKind.u64.wrap (v : Int))] = encN (2, BitVec.ofNat 64 v) := by
  rw [wrapU]
  have : BitVec.ofInt 64 (v : Int) = BitVec.ofNat 64 v := by simp
  rw [this]
  rfl
/-! ### The condition that a command establishes another one -/
def ifT (p : Prg) (c : Cmd) (t : List Nd) : List Nd := c.wh ++ [(19, 0#64)] ++ oneT p c t ++ [(18, 0#64)]
def ifOK (p : Prg) (c : Cmd) (t : List Nd) : Bool := oneOK p c t && goodT p.wide p.vars (ifT p c t)
def ifR (p : Prg) (c : Cmd) (t : List Nd) : List Nd := bif ifOK p c t then ifT p c t else []
theorem ifR_len {p : Prg} {c : Cmd} {t : List Nd} (hc : FitC 6 c) : (ifR p c t).length ≤ 200 := by
  unfold ifR
  have h1 := hc.wh
  have h2 := oneT_len p c t
  cases ifOK p c t
  · simp
  · simp [ifT]; omega
/-! ### The four functions -/
def b1OK (p : Prg) (k1 : Int) (t : List Nd) : Bool := askOK p k1 t && oneOK p (cmdAt p k1) t
def b1T (p : Prg) (k1 : Int) (t : List Nd) : List Nd := bif askOK p k1 t then oneT p (cmdAt p k1) t else []
def b2OK (p : Prg) (k1 : Int) (t : List Nd) : Bool := askOK p k1 t && ifOK p (cmdAt p k1) t
def b2T (p : Prg) (k1 : Int) (t : List Nd) : List Nd := bif askOK p k1 t then ifR p (cmdAt p k1) t else []
end Go.Proofs.Ytocmjgfbcpgaoaa
