/- Programs: how they lie in rows, and how they are drawn. -/
import Derived.Test.YtocmjgfbcpgaoaaKd
set_option linter.unusedVariables false
set_option linter.unusedSimpArgs false
set_option maxRecDepth 4000
namespace Go.Proofs.Ytocmjgfbcpgaoaa
open Go.Dp

structure Chg where
  v : Int
  by1 : List Nd
  deriving DecidableEq
structure Cmd where
  wh : List Nd
  ch : List Chg
  deriving DecidableEq
structure Prg where
  wide : Int
  vars : Int
  start : List Nd
  cmds : List Cmd
  deriving DecidableEq
def encCh (x : Chg) : PV := .agg [.int .i64 x.v, .row 2 0 (encT x.by1)]
def encChs (l : List Chg) : List PV := l.map encCh
def encCm (x : Cmd) : PV := .agg [.row 2 0 (encT x.wh), .row 2 0 (encChs x.ch)]
def encCms (l : List Cmd) : List PV := l.map encCm
@[simp] theorem encChs_length (l : List Chg) : (encChs l).length = l.length := by simp [encChs]
@[simp] theorem encCms_length (l : List Cmd) : (encCms l).length = l.length := by simp [encCms]
theorem encChs_get (l : List Chg) (i : Nat) : (encChs l)[i]? = (l[i]?).map encCh := by simp [encChs]
theorem encCms_get (l : List Cmd) (i : Nat) : (encCms l)[i]? = (l[i]?).map encCm := by simp [encCms]
theorem encChs_snoc (l : List Chg) (x : Chg) : encChs l ++ [encCh x] = encChs (l ++ [x]) := by simp [encChs]
theorem encCms_snoc (l : List Cmd) (x : Cmd) : encCms l ++ [encCm x] = encCms (l ++ [x]) := by simp [encCms]
theorem encChs_take (l : List Chg) (i : Nat) : (encChs l).take i = encChs (l.take i) := by simp [encChs, List.map_take]
theorem encCms_take (l : List Cmd) (i : Nat) : (encCms l).take i = encCms (l.take i) := by simp [encCms, List.map_take]
theorem encCms_set (l : List Cmd) (i : Nat) (x : Cmd) : (encCms l).set i (encCm x) = encCms (l.set i x) := by simp [encCms, List.map_set]
@[simp] theorem encCh_shp (x : Chg) : (encCh x).shp 2 = true := rfl
@[simp] theorem encCh_v (x : Chg) : (encCh x).atInt .i64 0 = some x.v := rfl
@[simp] theorem encCh_by (x : Chg) : (encCh x).atRow 2 1 = some (encT x.by1) := rfl
@[simp] theorem encCm_shp (x : Cmd) : (encCm x).shp 2 = true := rfl
@[simp] theorem encCm_wh (x : Cmd) : (encCm x).atRow 2 0 = some (encT x.wh) := rfl
@[simp] theorem encCm_ch (x : Cmd) : (encCm x).atRow 2 1 = some (encChs x.ch) := rfl
theorem put_wh (x : Cmd) (t : List Nd) : putPart (encCm x) 2 0 (PV.row 2 0 (encT t)) 0 = some (encCm { x with wh := t }) := rfl
theorem put_ch (x : Cmd) (l : List Chg) : putPart (encCm x) 2 1 (PV.row 2 0 (encChs l)) 0 = some (encCm { x with ch := l }) := rfl

/-- Not too large: what a drawn program is. -/
structure FitC (m : Nat) (c : Cmd) : Prop where
  wh : c.wh.length ≤ 100
  ch : c.ch.length ≤ m
  by1 : ∀ x ∈ c.ch, x.by1.length ≤ 100
theorem FitC.mono {m m' : Nat} {c : Cmd} (h : FitC m c) (hm : m ≤ m') : FitC m' c := ⟨h.wh, Nat.le_trans h.ch hm, h.by1⟩
structure FitP (p : Prg) : Prop where
  w : 1 ≤ p.wide ∧ p.wide ≤ 64
  v : 0 ≤ p.vars ∧ p.vars ≤ 5
  st : p.start.length ≤ 100
  cm : p.cmds.length ≤ 6
  c : ∀ c ∈ p.cmds, FitC 6 c

theorem asked_int {bs : List Nat} (hc : CodeOK bs) {wide vars : Int} (hw0 : 0 ≤ wide) (hw : wide ≤ 64) (hv : 1 ≤ vars) (hv2 : vars ≤ 100) {d : Int} (hd0 : 0 ≤ d) (hd : d ≤ 2) {k : Nat} (hk : 130 ≤ k) {at' : Int} (h0 : 0 ≤ at') (h1 : at' ≤ 600000000) (s : W) :
    ∃ a2 s2 t, c32 k wide vars d (encB bs) at' (wi s) = r32 (encB bs) a2 (wi s2) (encT t) ∧ at' ≤ a2 ∧ a2 ≤ at' + 500 ∧ 1 ≤ t.length ∧ t.length ≤ 31 := by
  have hd2 : d.toNat ≤ 2 := by omega
  have e2 : (2 : Nat) ^ d.toNat ≤ 2 ^ 2 := Nat.pow_le_pow_right (by omega) hd2
  obtain ⟨a2, s2, t, h, h2, h3, h4, h5⟩ := asked_ok hc hw0 hw hv hv2 d.toNat (k := k) (by omega) (by omega) (at' := at') h0 (by omega) s
  rw [Int.toNat_of_nonneg hd0] at h
  exact ⟨a2, s2, t, h, h2, by omega, h4, by omega⟩
/-! ### Small programs, states -/
theorem long_loop {bs : List Nat} (hc : CodeOK bs) {k : Nat} (hk : 10 ≤ k) : ∀ (m n : Nat) (i : Int) (a : W) {at' : Int} (s : W), (8 - i).toNat ≤ m → m < n → 0 ≤ i → i ≤ 8 → 0 ≤ at' → at' + m ≤ 990000000 →
    ∃ a2 s2 b, L58_1 k n (wi a) i (encB bs) at' (wi s) = r58 (encB bs) a2 (wi s2) (wi b) ∧ at' ≤ a2 ∧ a2 ≤ at' + m
  | m, 0, i, a, at', s, hm, hn, hi0, hi, h0, h1 => by omega
  | m, n + 1, i, a, at', s, hm, hn, hi0, hi, h0, h1 => by
    rw [sL58_1]
    by_cases hd : i < 8
    · have hd' : decide (i < 8) = true := by simpa using hd
      rw [hd']
      simp only [cond_true]
      obtain ⟨s2, v, h, h2, h3⟩ := next_ok hc (k := k) (by omega) h0 (by omega) s
      rw [h]
      simp only [R57_r]
      rw [shl_wi _ (by omega), wrapU, or_wi, i64_id (by omega) (by omega)]
      cases m with
      | zero => omega
      | succ m =>
        obtain ⟨a3, s3, b, h, h4, h5⟩ := long_loop hc hk m n (i + 1) (a <<< (8 : Int).toNat ||| BitVec.ofInt 64 v) (at' := at' + 1) s2 (by omega) (by omega) (by omega) (by omega) (by omega) (by omega)
        exact ⟨a3, s3, b, h, by omega, by omega⟩
    · have hd' : decide (i < 8) = false := by simpa using hd
      rw [hd']
      exact ⟨at', s, a, rfl, by omega, by omega⟩
theorem long_ok {bs : List Nat} (hc : CodeOK bs) {k : Nat} (hk : 20 ≤ k) {at' : Int} (h0 : 0 ≤ at') (h1 : at' ≤ 900000000) (s : W) :
    ∃ a2 s2 b, c58 k (encB bs) at' (wi s) = r58 (encB bs) a2 (wi s2) (wi b) ∧ at' ≤ a2 ∧ a2 ≤ at' + 8 := by
  obtain ⟨k, rfl⟩ : ∃ j, k = j + 1 := ⟨k - 1, by omega⟩
  rw [n58]
  exact long_loop hc (k := k) (by omega) 8 k 0 0#64 s (by omega) (by omega) (by omega) (by omega) h0 (by omega)
theorem word_ok {bs : List Nat} (hc : CodeOK bs) {k : Nat} (hk : 80 ≤ k) {wide : Int} (hw0 : 0 ≤ wide) (hw : wide ≤ 64) {at' : Int} (h0 : 0 ≤ at') (h1 : at' ≤ 800000000) (s : W) :
    ∃ a2 s2 b, c35 k wide (encB bs) at' (wi s) = r35 (encB bs) a2 (wi s2) (wi b) ∧ at' ≤ a2 ∧ a2 ≤ at' + 20 := by
  obtain ⟨k, rfl⟩ : ∃ j, k = j + 1 := ⟨k - 1, by omega⟩
  rw [n35]
  obtain ⟨a2, s2, v, h, h2, h3, h4, h5, _⟩ := pick_ok hc (k := k) (by omega) h0 (by omega) s 5
  rw [h]
  simp only [R31_r]
  obtain ⟨a3, s3, u, h, h6, h7, h8, h9, _⟩ := pick_ok hc (k := k) (by omega) (at' := a2) (by omega) (by omega) s2 5
  rw [h]
  simp only [R31_r]
  have fin : ∀ (a4 : Int) (s4 : W) (b : W), at' ≤ a4 → a4 ≤ at' + 15 → ∃ a5 s5 d, (R33 (c33 k 30 (encB bs) a4 (wi s4)) fun l4 v10 v11 b1 => bif b1 then r35 l4 v10 v11 (wi b) else R50 (c50 k wide (wi b)) fun v12 => r35 l4 v10 v11 v12) = r35 (encB bs) a5 (wi s5) (wi d) ∧ at' ≤ a5 ∧ a5 ≤ at' + 20 := by
    intro a4 s4 b h10 h11
    obtain ⟨a5, s5, e, h, h12, h13⟩ := one_ok hc (k := k) (by omega) (at' := a4) (by omega) (by omega) s4 30
    rw [h]
    simp only [R33_r]
    cases e
    · simp only [cond_false]
      rw [cut_ok (by omega) hw0 hw]
      simp only [R50_r]
      exact ⟨_, _, _, rfl, by omega, by omega⟩
    · exact ⟨_, _, _, rfl, by omega, by omega⟩
  cases e0 : (u == 0)
  · simp only [cond_false]
    cases e1 : (u == 1)
    · simp only [cond_false]
      cases e2 : (u == 2)
      · simp only [cond_false]
        rw [wrapU]
        exact fin a3 s3 _ (by omega) (by omega)
      · simp only [cond_true]
        obtain ⟨a4, s4, x, h, h10, h11, h12, h13, _⟩ := pick_ok hc (k := k) (by omega) (at' := a3) (by omega) (by omega) s3 64
        rw [h]
        simp only [R31_r]
        rw [u64_id h12 (by omega)]
        have hx : decide (x < 0) = false := by simpa using h12
        rw [hx]
        simp only [Bool.not_false, cond_true]
        rw [show (1 : Int) = wi 1#64 from rfl, shl_wi _ h12]
        exact fin a4 s4 _ (by omega) (by omega)
    · simp only [cond_true]
      obtain ⟨a4, s4, x, h, h10, h11, h12, h13, _⟩ := pick_ok hc (k := k) (by omega) (at' := a3) (by omega) (by omega) s3 3
      rw [h]
      simp only [R31_r]
      rw [wrapU]
      exact fin a4 s4 _ (by omega) (by omega)
  · simp only [cond_true]
    obtain ⟨a4, s4, b, h, h10, h11⟩ := long_ok hc (k := k) (by omega) (at' := a3) (by omega) (by omega) s3
    rw [h]
    simp only [R58_r]
    exact fin a4 s4 b (by omega) (by omega)
theorem state_loop {bs : List Nat} (hc : CodeOK bs) {k : Nat} (hk : 90 ≤ k) {wide vars : Int} (hw0 : 0 ≤ wide) (hw : wide ≤ 64) (hv : vars ≤ 100) : ∀ (m n : Nat) (st : List W) {at' : Int} (s : W), (vars - st.length).toNat ≤ m → m < n → st.length ≤ 100 → 0 ≤ at' → at' + 20 * m ≤ 700000000 →
    ∃ a2 s2 st2, L17_1 k n wide vars st.length (st.length : Int) (encB bs) at' (wi s) (encW st) = r17 (encB bs) a2 (wi s2) (encW st2) ∧ at' ≤ a2 ∧ a2 ≤ at' + 20 * m ∧ st2.length ≤ 100
  | m, 0, st, at', s, hm, hn, hl, h0, h1 => by omega
  | m, n + 1, st, at', s, hm, hn, hl, h0, h1 => by
    rw [sL17_1]
    by_cases hd : (st.length : Int) < vars
    · have hd' : decide ((st.length : Int) < vars) = true := by simpa using hd
      rw [hd']
      simp only [cond_true]
      obtain ⟨a2, s2, b, h, h2, h3⟩ := word_ok hc (k := k) (by omega) hw0 hw h0 (by omega) s
      rw [h]
      simp only [R35_r]
      rw [lim_ok (by omega) (by omega), i64_id (by omega) (by omega)]
      simp only [cond_true]
      have e1 : (encW st).take st.length = encW st := by rw [List.take_of_length_le (by simp)]
      rw [e1, encW_snoc]
      have e2 : st.length + 1 = (st ++ [b]).length := by simp
      have e3 : (st.length : Int) + 1 = ((st ++ [b]).length : Int) := by simp
      rw [e2, e3]
      cases m with
      | zero => omega
      | succ m =>
        obtain ⟨a3, s3, st2, h, h4, h5, h6⟩ := state_loop hc hk hw0 hw hv m n (st ++ [b]) (at' := a2) s2 (by simp; omega) (by omega) (by simp; omega) (by omega) (by omega)
        exact ⟨a3, s3, st2, h, by omega, by omega, h6⟩
    · have hd' : decide ((st.length : Int) < vars) = false := by simpa using hd
      rw [hd']
      simp only [cond_false]
      have e1 : (encW st).take st.length = encW st := by rw [List.take_of_length_le (by simp)]
      rw [e1]
      exact ⟨at', s, st, rfl, by omega, by omega, hl⟩
end Go.Proofs.Ytocmjgfbcpgaoaa
