/- FnNumbered: states of drawn small programs and their numbers correspond. -/
import Derived.Test.YtnliglgellapdaaPc
set_option linter.unusedVariables false
set_option linter.unusedSimpArgs false
set_option maxRecDepth 4000
namespace Go.Proofs.Ytnliglgellapdaa
open Go.Dp

theorem drawStateNo_ok {bs : List Nat} (hc : CodeOK bs) {k : Nat} (hk : 300 ≤ k) : ∃ p st, c12 k (encB bs) = r12 p.wide p.vars (encT p.start) (encCms p.cmds) (encW st) ∧ FitP p ∧ st.length ≤ 101 := by
  obtain ⟨k, rfl⟩ : ∃ j, k = j + 1 := ⟨k - 1, by omega⟩
  rw [n12]
  obtain ⟨a2, s2, p, h, h2, h3, h4⟩ := small_ok hc (k := k) (by omega) (at' := 0) (by omega) (by omega) 0#64
  have h' : c57 k (encB bs) 0 0 = _ := h
  rw [h']
  simp only [R57_r]
  have hw := h4.w
  have hv := h4.v
  obtain ⟨a3, s3, st, h, h5, h6, h7⟩ := stateFor_ok hc (k := k) (by omega) (wide := p.wide) (vars := p.vars) (by omega) (by omega) (by omega) (encT p.start) (encCms p.cmds) (at' := a2) (by omega) (by omega) s2
  rw [h]
  simp only [R58_r]
  exact ⟨p, st, rfl, h4, h7⟩
theorem drawStateOf_ok {bs : List Nat} (hc : CodeOK bs) {k : Nat} (hk : 300 ≤ k) : ∃ p no, c19 k (encB bs) = r19 p.wide p.vars (encT p.start) (encCms p.cmds) no ∧ FitP p ∧ -1 ≤ no ∧ no ≤ 40 := by
  obtain ⟨k, rfl⟩ : ∃ j, k = j + 1 := ⟨k - 1, by omega⟩
  rw [n19]
  obtain ⟨a2, s2, p, h, h2, h3, h4⟩ := small_ok hc (k := k) (by omega) (at' := 0) (by omega) (by omega) 0#64
  have h' : c57 k (encB bs) 0 0 = _ := h
  rw [h']
  simp only [R57_r]
  obtain ⟨a3, s3, v, h, h5, h6, h7, h8, _⟩ := pick_ok hc (k := k) (by omega) (at' := a2) (by omega) (by omega) s2 35
  have h8 := h8 (by omega)
  rw [h]
  simp only [R69_r]
  exact ⟨p, IntKind.i64.wrap (v - 1), rfl, h4, by rw [i64_id (by omega) (by omega)]; omega, by rw [i64_id (by omega) (by omega)]; omega⟩
def pw (p : Prg) : Nat := p.wide.toNat
def pv (p : Prg) : Nat := p.vars.toNat
theorem small_nat2 {p : Prg} (h : smallP p = true) : p.wide = (pw p : Int) ∧ p.vars = (pv p : Int) ∧ 1 ≤ pw p ∧ 1 ≤ pv p ∧ pv p ≤ 4 ∧ pw p * pv p ≤ 5 ∧ pw p ≤ 5 := by
  obtain ⟨w, v, h1, h2, h3, h4, h5, h6, h7⟩ := small_nat h
  have e1 : pw p = w := by unfold pw; omega
  have e2 : pv p = v := by unfold pv; omega
  rw [e1, e2]
  refine ⟨h1, h2, h3, h4, h5, h6, ?_⟩
  have : w * 1 ≤ w * v := Nat.mul_le_mul_left _ h4
  omega
theorem stOK_nat {p : Prg} (h : smallP p = true) {s : List W} (hs : stOK p s = true) : s.length = pv p ∧ ∀ a ∈ s, a.toNat < 2 ^ pw p := by
  obtain ⟨h1, h2, h3, h4, h5, h6, h7⟩ := small_nat2 h
  simp only [stOK, Bool.and_eq_true, decide_eq_true_eq, List.all_eq_true] at hs
  refine ⟨by omega, fun a ha => ?_⟩
  have := hs.2 a ha
  rw [h1] at this
  exact goodW_lt (by omega) this
def noOK (p : Prg) (no : Int) : Bool := smallP p && decide (0 ≤ no) && decide (no < ((2 ^ (pw p * pv p) : Nat) : Int))
theorem stateNoI_ok {k : Nat} (hk : 1000300 ≤ k) (p : Prg) (hp : FitP p) (s : List W) (hs : s.length ≤ 1000000) : c13 k p.wide p.vars (encT p.start) (encCms p.cmds) (encW s) = r13 (bif smallP p && stOK p s then (noOf (pw p) s : Int) else 0) (smallP p && stOK p s) := by
  obtain ⟨k, rfl⟩ : ∃ j, k = j + 1 := ⟨k - 1, by omega⟩
  rw [n13, isSmall_ok (by omega) p hp, isStateOf_ok (by omega) p hp s hs]
  simp only [R59_r, R60_r]
  cases h1 : smallP p
  · rfl
  · have hg : goodP p = true := by simp only [smallP, Bool.and_eq_true] at h1; exact h1.1
    rw [hg]
    simp only [Bool.not_true, cond_false, Bool.true_and]
    cases h2 : stOK p s
    · rfl
    · obtain ⟨h3, h4, h5, h6, h7, h8, h9⟩ := small_nat2 h1
      obtain ⟨h10, h11⟩ := stOK_nat h1 h2
      have := stateNo_ok (k := k) (by omega) (pw p) (pv p) h8 (encT p.start) (encCms p.cmds) s h10 h7 h11
      rw [← h3, ← h4] at this
      rw [this]
      simp only [R61_r, Bool.not_true, cond_false, cond_true]
theorem stateNoS_ok {k : Nat} (hk : 1000300 ≤ k) (p : Prg) (hp : FitP p) (s : List W) (hs : s.length ≤ 1000000) : c14 k p.wide p.vars (encT p.start) (encCms p.cmds) (encW s) = r14 (bif smallP p && stOK p s then (noOf (pw p) s : Int) else 0) (smallP p && stOK p s) := by
  obtain ⟨k, rfl⟩ : ∃ j, k = j + 1 := ⟨k - 1, by omega⟩
  rw [n14, l7Small_ok (by omega) p hp, l7State_ok (by omega) p _ _ s hs]
  simp only [R62_r, R63_r]
  cases h1 : smallP p
  · rfl
  · simp only [Bool.not_true, cond_false, Bool.true_and]
    cases h2 : stOK p s
    · rfl
    · obtain ⟨h3, h4, h5, h6, h7, h8, h9⟩ := small_nat2 h1
      obtain ⟨h10, h11⟩ := stOK_nat h1 h2
      have := l7No_ok (k := k) (by omega) (pw p) (pv p) h5 h8 (encT p.start) (encCms p.cmds) s h10 h7 h11
      rw [← h3, ← h4] at this
      rw [this]
      simp only [R64_r, Bool.not_true, cond_false, cond_true]
theorem isNo_ok {k : Nat} (hk : 1000300 ≤ k) (p : Prg) (hp : FitP p) (no : Int) : c67 k p.wide p.vars (encT p.start) (encCms p.cmds) no = r67 (noOK p no) := by
  obtain ⟨k, rfl⟩ : ∃ j, k = j + 1 := ⟨k - 1, by omega⟩
  rw [n67, isSmall_ok (by omega) p hp]
  simp only [R59_r]
  unfold noOK
  cases h1 : smallP p
  · rfl
  · simp only [cond_true, Bool.true_and, ge_iff_le]
    cases h2 : decide (0 ≤ no)
    · rfl
    · obtain ⟨h3, h4, h5, h6, h7, h8, h9⟩ := small_nat2 h1
      have := states_ok (k := k) (by omega) (pw p) (pv p) h8 (encT p.start) (encCms p.cmds)
      rw [← h3, ← h4] at this
      rw [this]
      simp only [R138_r, cond_true, Bool.true_and]
theorem stateOfI_ok {k : Nat} (hk : 1000310 ≤ k) (p : Prg) (hp : FitP p) (no : Int) : c17 k p.wide p.vars (encT p.start) (encCms p.cmds) no = r17 (encW (bif noOK p no then digs (pw p) (pv p) no.toNat else [])) (noOK p no) := by
  obtain ⟨k, rfl⟩ : ∃ j, k = j + 1 := ⟨k - 1, by omega⟩
  rw [n17, isNo_ok (by omega) p hp]
  simp only [R67_r]
  cases h1 : noOK p no
  · rfl
  · simp only [noOK, Bool.and_eq_true, decide_eq_true_eq] at h1
    obtain ⟨⟨h1, h2⟩, h2'⟩ := h1
    obtain ⟨h3, h4, h5, h6, h7, h8, h9⟩ := small_nat2 h1
    have := stateOf_ok (k := k) (by omega) (pw p) (pv p) h5 h8 h7 (encT p.start) (encCms p.cmds) no.toNat (by omega)
    rw [← h3, ← h4, Int.toNat_of_nonneg h2] at this
    rw [this]
    simp only [R68_r, Bool.not_true, cond_false, cond_true]
theorem stateOfS_ok {k : Nat} (hk : 1000310 ≤ k) (p : Prg) (hp : FitP p) (no : Int) : c20 k p.wide p.vars (encT p.start) (encCms p.cmds) no = r20 (encW (bif noOK p no then digs (pw p) (pv p) no.toNat else [])) (noOK p no) := by
  obtain ⟨k, rfl⟩ : ∃ j, k = j + 1 := ⟨k - 1, by omega⟩
  rw [n20, l7Small_ok (by omega) p hp]
  simp only [R62_r]
  cases h0 : smallP p
  · simp [noOK, h0, encW]
  · obtain ⟨h3, h4, h5, h6, h7, h8, h9⟩ := small_nat2 h0
    have hm := l7Many_ok (k := k) (by omega) (pw p) (pv p) h8 (encT p.start) (encCms p.cmds)
    rw [← h3, ← h4] at hm
    have h32 := pow5 h8
    have h1p := Nat.two_pow_pos (pw p * pv p)
    rw [hm]
    simp only [R70_r, Bool.not_true, cond_false]
    rw [in_ok (by omega), i64_id (by omega) (by omega)]
    simp only [R54_r]
    have e1 : (decide (0 ≤ no) && decide (no ≤ ((2 ^ (pw p * pv p) : Nat) : Int) - 1)) = noOK p no := by
      simp only [noOK, h0, Bool.true_and]
      congr 1
      rw [decide_eq_decide]
      omega
    rw [e1]
    cases h1 : noOK p no
    · rfl
    · simp only [noOK, Bool.and_eq_true, decide_eq_true_eq] at h1
      obtain ⟨⟨h1, h2⟩, h2'⟩ := h1
      have := l7Of_ok (k := k) (by omega) (pw p) (pv p) h5 h8 h7 (encT p.start) (encCms p.cmds) no.toNat (by omega)
      rw [← h3, ← h4, Int.toNat_of_nonneg h2] at this
      rw [this]
      simp only [R71_r, Bool.not_true, cond_false, cond_true]
theorem isSmallI_ok {k : Nat} (hk : 1000300 ≤ k) (p : Prg) (hp : FitP p) : c15 k p.wide p.vars (encT p.start) (encCms p.cmds) = r15 (smallP p) (goodP p) := by
  obtain ⟨k, rfl⟩ : ∃ j, k = j + 1 := ⟨k - 1, by omega⟩
  rw [n15, goodProgram_ok (by omega) p hp, isSmall_ok (by omega) p hp]
  simp only [R65_r, R59_r]
  cases h : goodP p
  · simp [smallP, h]
  · rfl
theorem isSmallS_ok {k : Nat} (hk : 1000300 ≤ k) (p : Prg) (hp : FitP p) : c16 k p.wide p.vars (encT p.start) (encCms p.cmds) = r16 (smallP p) (goodP p) := by
  obtain ⟨k, rfl⟩ : ∃ j, k = j + 1 := ⟨k - 1, by omega⟩
  rw [n16, goodProgramS_ok (by omega) p hp, l7Small_ok (by omega) p hp]
  simp only [R66_r, R62_r]
  cases h : goodP p
  · simp [smallP, h]
  · rfl
theorem stOK_digs {p : Prg} {no : Int} (h : noOK p no = true) : smallP p = true ∧ stOK p (digs (pw p) (pv p) no.toNat) = true ∧ (noOf (pw p) (digs (pw p) (pv p) no.toNat) : Int) = no := by
  simp only [noOK, Bool.and_eq_true, decide_eq_true_eq] at h
  obtain ⟨⟨h1, h2⟩, h3⟩ := h
  obtain ⟨h4, h5, h6, h7, h8, h9, h10⟩ := small_nat2 h1
  refine ⟨h1, ?_, ?_⟩
  · simp only [stOK, Bool.and_eq_true, decide_eq_true_eq, List.all_eq_true]
    refine ⟨by rw [digs_length, h5], fun a ha => ?_⟩
    have := digs_lt (w := pw p) (by omega) a ha
    rw [h4]
    exact goodW_of h6 (by omega) this
  · rw [noOf_digs (by omega) (by omega)]
    omega
theorem noOK_noOf {p : Prg} {s : List W} (h1 : smallP p = true) (h2 : stOK p s = true) : noOK p (noOf (pw p) s : Int) = true ∧ digs (pw p) (pv p) (noOf (pw p) s : Int).toNat = s := by
  obtain ⟨h3, h4⟩ := stOK_nat h1 h2
  refine ⟨?_, ?_⟩
  · simp only [noOK, h1, Bool.true_and, Bool.and_eq_true, decide_eq_true_eq]
    have := noOf_lt h4
    rw [h3] at this
    exact ⟨Int.natCast_nonneg _, by omega⟩
  · rw [Int.toNat_natCast, ← h3]
    exact digs_noOf h4
theorem numbered_end {k : Nat} (hk : 1000400 ≤ k) {more : List Nat} (hm : CodeOK more) : (R19 (c19 k (encB more)) fun v5 v6 l5 l6 v7 =>
          R17 (c17 k v5 v6 l5 l6 v7) fun l7 b10 =>
          R20 (c20 k v5 v6 l5 l6 v7) fun l8 b11 =>
          bif (!(b10 == b11)) then
           r4 false
          else
           R18 (c18 k l7 l8) fun b12 =>
           bif !b12 then
            r4 false
           else
            bif b10 then
            R13 (c13 k v5 v6 l5 l6 l7) fun v8 b13 =>
            bif b13 then
            r4 (v8 == v7)
            else r4 false
            else r4 true) = r4 true := by
  obtain ⟨p, no, h, hp, h1, h2⟩ := drawStateOf_ok hm (k := k) (by omega)
  rw [h]
  simp only [R19_r]
  rw [stateOfI_ok (by omega) p hp, stateOfS_ok (by omega) p hp]
  simp only [R17_r, R20_r, beq_self_eq_true, Bool.not_true, cond_false]
  have hv := hp.v
  have hln : (bif noOK p no then digs (pw p) (pv p) no.toNat else []).length ≤ 100 := by
    cases noOK p no
    · simp
    · simp only [cond_true, digs_length]; unfold pv; omega
  rw [sameWords_ok (by omega) _ _ (by omega)]
  simp only [R18_r, decide_true, Bool.not_true, cond_false]
  cases hno : noOK p no
  · rfl
  · obtain ⟨h3, h4, h5⟩ := stOK_digs hno
    rw [hno] at hln
    simp only [cond_true] at hln ⊢
    rw [stateNoI_ok (by omega) p hp _ (by omega), h3, h4]
    simp only [R13_r, Bool.and_self, cond_true, h5, beq_self_eq_true]
theorem numbered_true {k : Nat} (hk : 1048700 ≤ k) (code more : List Nat) (hc : ∀ b ∈ code, b < 256) (hm : ∀ b ∈ more, b < 256) : c4 k (encB code) (encB more) = r4 true := by
  obtain ⟨k, rfl⟩ : ∃ j, k = j + 1 := ⟨k - 1, by omega⟩
  rw [n4, big_ok (by omega)]
  simp only [R11_r]
  cases hbig : (decide (code.length > 1048576) || decide (more.length + code.length > 1048576))
  · simp only [cond_false]
    rw [Bool.or_eq_false_iff] at hbig
    have hl : code.length ≤ 1048576 ∧ more.length ≤ 1048576 := by
      have h1 := hbig.1
      have h2 := hbig.2
      simp at h1 h2
      omega
    have hcc : CodeOK code := ⟨hl.1, hc⟩
    have hmm : CodeOK more := ⟨hl.2, hm⟩
    obtain ⟨p, s, h, hp, hs⟩ := drawStateNo_ok hcc (k := k) (by omega)
    rw [h]
    simp only [R12_r]
    rw [stateNoI_ok (by omega) p hp s (by omega), stateNoS_ok (by omega) p hp s (by omega), isSmallI_ok (by omega) p hp, isSmallS_ok (by omega) p hp]
    simp only [R13_r, R14_r, R15_r, R16_r, beq_self_eq_true, Bool.not_true, cond_false, bne_self_eq_false]
    cases hok : (smallP p && stOK p s)
    · exact numbered_end (by omega) hmm
    · simp only [Bool.and_eq_true] at hok
      obtain ⟨h1, h2⟩ := noOK_noOf hok.1 hok.2
      simp only [cond_true]
      rw [stateOfI_ok (by omega) p hp, h1, hok.1]
      simp only [R17_r, cond_true, h2, Bool.not_true, cond_false]
      rw [sameWords_ok (by omega) _ _ (by omega)]
      simp only [R18_r, decide_true, Bool.not_true, cond_false]
      exact numbered_end (by omega) hmm
  · rfl
theorem lawFnNumbered (code more : List Int) (hc : ∀ n ∈ code, (Lit.int .u8 n).wf = true) (hm : ∀ n ∈ more, (Lit.int .u8 n).wf = true) : Contract Try.prog 4 (([.row 0 0 (ints .u8 code), .row 0 0 (ints .u8 more)] : List PV).map .p) [] ([.c (.p (.bool true))], []) := by
  obtain ⟨e1, h1⟩ := ints_encB code hc
  obtain ⟨e2, h2⟩ := ints_encB more hm
  rw [e1, e2]
  exact evF_sound envOK pOK (T := T) hT 1048700 (numbered_true (k := 1048700) (Nat.le_refl _) _ _ h1 h2)
end Go.Proofs.Ytnliglgellapdaa
