/- Programs: how they lie in rows, and how they are drawn. -/
import Derived.Test.YtnflnpjojbkgjaaGreatKd
set_option linter.unusedVariables false
set_option linter.unusedSimpArgs false
set_option maxRecDepth 4000
namespace Go.Proofs.YtnflnpjojbkgjaaGreat
open Go.Dp

structure Chg where
  v : Int
  by1 : List Nd
  deriving DecidableEq
structure Cmd where
  wh : List Nd
  ch : List Chg
  deriving DecidableEq
structure Prg where
  wide : Int
  vars : Int
  start : List Nd
  cmds : List Cmd
  deriving DecidableEq
def encCh (x : Chg) : PV := .agg [.int .i64 x.v, .row 2 0 (encT x.by1)]
def encChs (l : List Chg) : List PV := l.map encCh
def encCm (x : Cmd) : PV := .agg [.row 2 0 (encT x.wh), .row 2 0 (encChs x.ch)]
def encCms (l : List Cmd) : List PV := l.map encCm
@[simp] theorem encChs_length (l : List Chg) : (encChs l).length = l.length := by simp [encChs]
@[simp] theorem encCms_length (l : List Cmd) : (encCms l).length = l.length := by simp [encCms]
theorem encChs_get (l : List Chg) (i : Nat) : (encChs l)[i]? = (l[i]?).map encCh := by simp [encChs]
theorem encCms_get (l : List Cmd) (i : Nat) : (encCms l)[i]? = (l[i]?).map encCm := by simp [encCms]
theorem encChs_snoc (l : List Chg) (x : Chg) : encChs l ++ [encCh x] = encChs (l ++ [x]) := by simp [encChs]
theorem encCms_snoc (l : List Cmd) (x : Cmd) : encCms l ++ [encCm x] = encCms (l ++ [x]) := by simp [encCms]
theorem encChs_take (l : List Chg) (i : Nat) : (encChs l).take i = encChs (l.take i) := by simp [encChs, List.map_take]
theorem encCms_take (l : List Cmd) (i : Nat) : (encCms l).take i = encCms (l.take i) := by simp [encCms, List.map_take]
theorem encCms_set (l : List Cmd) (i : Nat) (x : Cmd) : (encCms l).set i (encCm x) = encCms (l.set i x) := by simp [encCms, List.map_set]
@[simp] theorem encCh_shp (x : Chg) : (encCh x).shp 2 = true := rfl
@[simp] theorem encCh_v (x : Chg) : (encCh x).atInt .i64 0 = some x.v := rfl
@[simp] theorem encCh_by (x : Chg) : (encCh x).atRow 2 1 = some (encT x.by1) := rfl
@[simp] theorem encCm_shp (x : Cmd) : (encCm x).shp 2 = true := rfl
@[simp] theorem encCm_wh (x : Cmd) : (encCm x).atRow 2 0 = some (encT x.wh) := rfl
@[simp] theorem encCm_ch (x : Cmd) : (encCm x).atRow 2 1 = some (encChs x.ch) := rfl
theorem put_wh (x : Cmd) (t : List Nd) : putPart (encCm x) 2 0 (PV.row 2 0 (encT t)) 0 = some (encCm { x with wh := t }) := rfl
theorem put_ch (x : Cmd) (l : List Chg) : putPart (encCm x) 2 1 (PV.row 2 0 (encChs l)) 0 = some (encCm { x with ch := l }) := rfl

/-- Not too large: what a drawn program is. -/
structure FitC (m : Nat) (c : Cmd) : Prop where
  wh : c.wh.length ≤ 100
  ch : c.ch.length ≤ m
  by1 : ∀ x ∈ c.ch, x.by1.length ≤ 100
theorem FitC.mono {m m' : Nat} {c : Cmd} (h : FitC m c) (hm : m ≤ m') : FitC m' c := ⟨h.wh, Nat.le_trans h.ch hm, h.by1⟩
structure FitP (p : Prg) : Prop where
  w : 1 ≤ p.wide ∧ p.wide ≤ 64
  v : 0 ≤ p.vars ∧ p.vars ≤ 5
  st : p.start.length ≤ 100
  cm : p.cmds.length ≤ 6
  c : ∀ c ∈ p.cmds, FitC 6 c

theorem asked_int {bs : List Nat} (hc : CodeOK bs) {wide vars : Int} (hw0 : 0 ≤ wide) (hw : wide ≤ 64) (hv : 1 ≤ vars) (hv2 : vars ≤ 100) {d : Int} (hd0 : 0 ≤ d) (hd : d ≤ 2) {k : Nat} (hk : 130 ≤ k) {at' : Int} (h0 : 0 ≤ at') (h1 : at' ≤ 600000000) (s : W) :
    ∃ a2 s2 t, c151 k wide vars d (encB bs) at' (wi s) = r151 (encB bs) a2 (wi s2) (encT t) ∧ at' ≤ a2 ∧ a2 ≤ at' + 500 ∧ 1 ≤ t.length ∧ t.length ≤ 31 := by
  have hd2 : d.toNat ≤ 2 := by omega
  have e2 : (2 : Nat) ^ d.toNat ≤ 2 ^ 2 := Nat.pow_le_pow_right (by omega) hd2
  obtain ⟨a2, s2, t, h, h2, h3, h4, h5⟩ := asked_ok hc hw0 hw hv hv2 d.toNat (k := k) (by omega) (by omega) (at' := at') h0 (by omega) s
  rw [Int.toNat_of_nonneg hd0] at h
  exact ⟨a2, s2, t, h, h2, by omega, h4, by omega⟩
theorem command_loop {bs : List Nat} (hc : CodeOK bs) {k : Nat} (hk : 120 ≤ k) {wide vars : Int} (hw : 1 ≤ wide ∧ wide ≤ 64) (hv : 1 ≤ vars ∧ vars ≤ 5) (l1 l2 : List PV) (t : List Nd) (ht : t.length ≤ 31) : ∀ (m n : Nat) (v : Int) (cs : List Chg) {at' : Int} (s : W), (vars - v).toNat ≤ m → m < n → 0 ≤ v → (cs.length : Int) ≤ v → v ≤ vars → (∀ x ∈ cs, x.by1.length ≤ 100) → 0 ≤ at' → at' + 40 * m ≤ 590000000 →
    ∃ a2 s2 cs2, L187_1 k n wide vars v (encB bs) at' (wi s) l1 l2 t.length cs.length (encT t) (encChs cs) = r187 (encB bs) a2 (wi s2) (encT t) (encChs cs2) ∧ at' ≤ a2 ∧ a2 ≤ at' + 40 * m ∧ cs2.length ≤ 5 ∧ ∀ x ∈ cs2, x.by1.length ≤ 100
  | m, 0, v, cs, at', s, hm, hn, hv0, hj, hvv, hb, h0, h1 => by omega
  | m, n + 1, v, cs, at', s, hm, hn, hv0, hj, hvv, hb, h0, h1 => by
    rw [sL187_1]
    by_cases hd : v < vars
    · have hd' : decide (v < vars) = true := by simpa using hd
      rw [hd']
      simp only [cond_true]
      obtain ⟨a2, s2, b, h, h2, h3⟩ := one_ok hc (k := k) (by omega) h0 (by omega) s 2
      rw [h]
      simp only [R85_r]
      cases m with
      | zero => omega
      | succ m =>
        cases b
        · simp only [cond_false]
          rw [i64_id (by omega) (by omega)]
          obtain ⟨a3, s3, cs2, h, h4, h5, h6⟩ := command_loop hc hk hw hv l1 l2 t ht m n (v + 1) cs (at' := a2) s2 (by omega) (by omega) (by omega) (by omega) (by omega) hb (by omega) (by omega)
          exact ⟨a3, s3, cs2, h, by omega, by omega, h6⟩
        · simp only [cond_true]
          obtain ⟨a4, s4, u, h, h7, h8, h9, h10, h11⟩ := number_int hc (wide := wide) (vars := vars) (by omega) (by omega) (by omega) (by omega) (d := 1) (by omega) (by omega) (k := k) (by omega) (at' := a2) (by omega) (by omega) s2
          have h11 := h11 (by omega)
          rw [h]
          simp only [R188_r]
          rw [lim_ok (by omega) (by omega), i64_id (by omega) (by omega)]
          simp only [cond_true, List.take_length]
          have e1 : (encChs cs).take cs.length = encChs cs := by rw [List.take_of_length_le (by simp)]
          have e3 : PV.agg [.int .i64 v, .row 2 0 (encT u)] = encCh ⟨v, u⟩ := rfl
          rw [e1, e3, encChs_snoc]
          have e2 : cs.length + 1 = (cs ++ [Chg.mk v u]).length := by simp
          rw [e2]
          obtain ⟨a3, s3, cs2, h, h4, h5, h6⟩ := command_loop hc hk hw hv l1 l2 t ht m n (v + 1) (cs ++ [Chg.mk v u]) (at' := a4) s4 (by omega) (by omega) (by omega) (by simp; omega) (by omega) (by
            intro x hx
            rcases List.mem_append.1 hx with hx | hx
            · exact hb x hx
            · simp at hx; subst hx; simp only; omega) (by omega) (by omega)
          exact ⟨a3, s3, cs2, h, by omega, by omega, h6⟩
    · have hd' : decide (v < vars) = false := by simpa using hd
      rw [hd']
      simp only [cond_false]
      have e1 : (encChs cs).take cs.length = encChs cs := by rw [List.take_of_length_le (by simp)]
      have e2 : (encT t).take t.length = encT t := by rw [List.take_of_length_le (by simp)]
      rw [e1, e2]
      exact ⟨at', s, cs, rfl, by omega, by omega, by omega, hb⟩
theorem command_ok {bs : List Nat} (hc : CodeOK bs) {k : Nat} (hk : 140 ≤ k) {wide vars : Int} (hw : 1 ≤ wide ∧ wide ≤ 64) (hv : 1 ≤ vars ∧ vars ≤ 5) {at' : Int} (h0 : 0 ≤ at') (h1 : at' ≤ 580000000) (s : W) :
    ∃ a2 s2 c, c187 k wide vars (encB bs) at' (wi s) = r187 (encB bs) a2 (wi s2) (encT c.wh) (encChs c.ch) ∧ at' ≤ a2 ∧ a2 ≤ at' + 1000 ∧ FitC 5 c := by
  obtain ⟨k, rfl⟩ : ∃ j, k = j + 1 := ⟨k - 1, by omega⟩
  rw [n187]
  obtain ⟨a2, s2, v, h, h2, h3, h4, h5, _⟩ := pick_ok hc (k := k) (by omega) h0 (by omega) s 2
  rw [h]
  simp only [R91_r]
  obtain ⟨a3, s3, t, h, h6, h7, h8, h9⟩ := asked_int hc (wide := wide) (vars := vars) (by omega) (by omega) (by omega) (by omega) (d := v) (by omega) (by omega) (k := k) (by omega) (at' := a2) (by omega) (by omega) s2
  rw [h]
  simp only [R151_r, encT_length]
  obtain ⟨a4, s4, cs, h, h10, h11, h12, h13⟩ := command_loop hc (k := k) (by omega) hw hv [] [] t h9 5 k 0 [] (at' := a3) s3 (by omega) (by omega) (by omega) (by simp) (by omega) (by simp) (by omega) (by omega)
  exact ⟨a4, s4, ⟨t, cs⟩, h, by omega, by omega, ⟨by simp only; omega, by simp only; omega, h13⟩⟩
theorem progOf_loop {bs : List Nat} (hc : CodeOK bs) {k : Nat} (hk : 150 ≤ k) {wide vars : Int} (hw : 1 ≤ wide ∧ wide ≤ 64) (hv : 1 ≤ vars ∧ vars ≤ 5) (n13 n14 : Int) (l1 l2 : List PV) (t : List Nd) (ht : t.length ≤ 31) : ∀ (m n : Nat) (n1 : Int) (cs : List Cmd) {at' : Int} (s : W), n1.toNat ≤ m → m < n → cs.length + m ≤ 6 → n1 ≤ 6 → (∀ x ∈ cs, FitC 5 x) → 0 ≤ at' → at' + 1000 * m ≤ 570000000 →
    ∃ a2 s2 cs2, L150_1 k n wide vars n1 (encB bs) at' (wi s) n13 n14 l1 l2 wide vars t.length cs.length (encT t) (encCms cs) = r150 (encB bs) a2 (wi s2) wide vars (encT t) (encCms cs2) ∧ at' ≤ a2 ∧ a2 ≤ at' + 1000 * m ∧ cs2.length ≤ 6 ∧ (∀ x ∈ cs2, FitC 5 x) ∧ (n1 ≥ 1 ∨ 1 ≤ cs.length → 1 ≤ cs2.length)
  | m, 0, n1, cs, at', s, hm, hn, hl, hn1, hb, h0, h1 => by omega
  | m, n + 1, n1, cs, at', s, hm, hn, hl, hn1, hb, h0, h1 => by
    rw [sL150_1]
    by_cases hd : n1 > 0
    · have hd' : decide (n1 > 0) = true := by simpa using hd
      rw [hd']
      simp only [cond_true]
      obtain ⟨a2, s2, c, h, h2, h3, h4⟩ := command_ok hc (k := k) (by omega) hw hv h0 (by omega) s
      rw [h]
      simp only [R187_r, encChs_length]
      have e0 : decide (c.ch.length ≤ c.ch.length) = true := by simp
      rw [e0]
      simp only [cond_true, encCms_length, beq_self_eq_true, Bool.true_and]
      rw [lim_ok (by omega) (by omega)]
      simp only [cond_true]
      have e1 : (encChs c.ch).take c.ch.length = encChs c.ch := by rw [List.take_of_length_le (by simp)]
      have e3 : PV.agg [.row 2 0 (encT c.wh), .row 2 0 (encChs c.ch)] = encCm c := rfl
      rw [e1, e3, encCms_snoc, i64_id (by omega) (by omega)]
      have e2 : cs.length + 1 = (cs ++ [c]).length := by simp
      rw [e2]
      cases m with
      | zero => omega
      | succ m =>
        obtain ⟨a3, s3, cs2, h, h5, h6, h7, h8, h9⟩ := progOf_loop hc hk hw hv n13 n14 l1 l2 t ht m n (n1 - 1) (cs ++ [c]) (at' := a2) s2 (by omega) (by omega) (by simp; omega) (by omega) (by
          intro x hx
          rcases List.mem_append.1 hx with hx | hx
          · exact hb x hx
          · simp at hx; subst hx; exact h4) (by omega) (by omega)
        exact ⟨a3, s3, cs2, h, by omega, by omega, h7, h8, fun _ => h9 (by simp)⟩
    · have hd' : decide (n1 > 0) = false := by simpa using hd
      rw [hd']
      simp only [cond_false, encCms_length, beq_self_eq_true, cond_true]
      have e1 : (encCms cs).take cs.length = encCms cs := by rw [List.take_of_length_le (by simp)]
      have e2 : (encT t).take t.length = encT t := by rw [List.take_of_length_le (by simp)]
      rw [e1, e2]
      exact ⟨at', s, cs, rfl, by omega, by omega, by omega, hb, fun h => by omega⟩
theorem progOf_ok {bs : List Nat} (hc : CodeOK bs) {k : Nat} (hk : 160 ≤ k) {wide vars : Int} (hw : 1 ≤ wide ∧ wide ≤ 64) (hv : 1 ≤ vars ∧ vars ≤ 5) {at' : Int} (h0 : 0 ≤ at') (h1 : at' ≤ 560000000) (s : W) :
    ∃ a2 s2 p, c150 k wide vars (encB bs) at' (wi s) = r150 (encB bs) a2 (wi s2) p.wide p.vars (encT p.start) (encCms p.cmds) ∧ at' ≤ a2 ∧ a2 ≤ at' + 8000 ∧ FitP p ∧ 1 ≤ p.cmds.length ∧ p.wide = wide ∧ p.vars = vars ∧ ∀ c ∈ p.cmds, FitC 5 c := by
  obtain ⟨k, rfl⟩ : ∃ j, k = j + 1 := ⟨k - 1, by omega⟩
  rw [n150]
  obtain ⟨a2, s2, v, h, h2, h3, h4, h5, _⟩ := pick_ok hc (k := k) (by omega) h0 (by omega) s 2
  rw [h]
  simp only [R91_r]
  obtain ⟨a3, s3, b, h, h6, h7⟩ := one_ok hc (k := k) (by omega) (at' := a2) (by omega) (by omega) s2 3
  rw [h]
  simp only [R85_r]
  cases b
  · simp only [cond_false]
    obtain ⟨a4, s4, u, h, h8, h9, h10, h11, _⟩ := pick_ok hc (k := k) (by omega) (at' := a3) (by omega) (by omega) s3 3
    rw [h]
    simp only [R91_r]
    have h5 := h5 (by omega)
    have h11 := h11 (by omega)
    rw [i64_id (n := 1 + u) (by omega) (by omega)]
    have e0 : IntKind.u64.wrap v = wi (BitVec.ofInt 64 v) := wrapU v
    have e1 : ([PV.agg [.int .i64 2, .int .u64 0], PV.agg [.int .i64 1, .int .u64 (IntKind.u64.wrap v)], PV.agg [.int .i64 14, .int .u64 0]] : List PV) = encT [(2, 0#64), (1, BitVec.ofInt 64 v), (14, 0#64)] := by rw [e0]; rfl
    rw [e1]
    obtain ⟨a5, s5, cs, h, h12, h13, h14, h15, h16⟩ := progOf_loop hc (k := k) (by omega) hw hv 0 0 [] [] [(2, 0#64), (1, BitVec.ofInt 64 v), (14, 0#64)] (by simp) 3 k (1 + u) [] (at' := a4) s4 (by omega) (by omega) (by simp) (by omega) (by simp) (by omega) (by omega)
    exact ⟨a5, s5, ⟨wide, vars, _, cs⟩, h, by omega, by omega, ⟨hw, ⟨by simp only; omega, by simp only; omega⟩, by simp, h14, fun c hc => (h15 c hc).mono (by omega)⟩, h16 (by omega), rfl, rfl, h15⟩
  · simp only [cond_true]
    obtain ⟨a4, s4, t, h, h8, h9, h10, h11⟩ := asked_int hc (wide := wide) (vars := vars) (by omega) (by omega) (by omega) (by omega) (d := 1) (by omega) (by omega) (k := k) (by omega) (at' := a3) (by omega) (by omega) s3
    rw [h]
    simp only [R151_r, encT_length]
    obtain ⟨a5, s5, u, h, h12, h13, h14, h15, _⟩ := pick_ok hc (k := k) (by omega) (at' := a4) (by omega) (by omega) s4 3
    rw [h]
    simp only [R91_r]
    have h15 := h15 (by omega)
    rw [i64_id (n := 1 + u) (by omega) (by omega)]
    obtain ⟨a6, s6, cs, h, h16, h17, h18, h19, h20⟩ := progOf_loop hc (k := k) (by omega) hw hv 0 0 [] [] t h11 3 k (1 + u) [] (at' := a5) s5 (by omega) (by omega) (by simp) (by omega) (by simp) (by omega) (by omega)
    exact ⟨a6, s6, ⟨wide, vars, t, cs⟩, h, by omega, by omega, ⟨hw, ⟨by simp only; omega, by simp only; omega⟩, by simp only; omega, h18, fun c hc => (h19 c hc).mono (by omega)⟩, h20 (by omega), rfl, rfl, h19⟩

/-! ### Small programs, states -/
theorem long_loop {bs : List Nat} (hc : CodeOK bs) {k : Nat} (hk : 10 ≤ k) : ∀ (m n : Nat) (i : Int) (a : W) {at' : Int} (s : W), (8 - i).toNat ≤ m → m < n → 0 ≤ i → i ≤ 8 → 0 ≤ at' → at' + m ≤ 990000000 →
    ∃ a2 s2 b, L226_1 k n (wi a) i (encB bs) at' (wi s) = r226 (encB bs) a2 (wi s2) (wi b) ∧ at' ≤ a2 ∧ a2 ≤ at' + m
  | m, 0, i, a, at', s, hm, hn, hi0, hi, h0, h1 => by omega
  | m, n + 1, i, a, at', s, hm, hn, hi0, hi, h0, h1 => by
    rw [sL226_1]
    by_cases hd : i < 8
    · have hd' : decide (i < 8) = true := by simpa using hd
      rw [hd']
      simp only [cond_true]
      obtain ⟨s2, v, h, h2, h3⟩ := next_ok hc (k := k) (by omega) h0 (by omega) s
      rw [h]
      simp only [R167_r]
      rw [shl_wi _ (by omega), wrapU, or_wi, i64_id (by omega) (by omega)]
      cases m with
      | zero => omega
      | succ m =>
        obtain ⟨a3, s3, b, h, h4, h5⟩ := long_loop hc hk m n (i + 1) (a <<< (8 : Int).toNat ||| BitVec.ofInt 64 v) (at' := at' + 1) s2 (by omega) (by omega) (by omega) (by omega) (by omega) (by omega)
        exact ⟨a3, s3, b, h, by omega, by omega⟩
    · have hd' : decide (i < 8) = false := by simpa using hd
      rw [hd']
      exact ⟨at', s, a, rfl, by omega, by omega⟩
theorem long_ok {bs : List Nat} (hc : CodeOK bs) {k : Nat} (hk : 20 ≤ k) {at' : Int} (h0 : 0 ≤ at') (h1 : at' ≤ 900000000) (s : W) :
    ∃ a2 s2 b, c226 k (encB bs) at' (wi s) = r226 (encB bs) a2 (wi s2) (wi b) ∧ at' ≤ a2 ∧ a2 ≤ at' + 8 := by
  obtain ⟨k, rfl⟩ : ∃ j, k = j + 1 := ⟨k - 1, by omega⟩
  rw [n226]
  exact long_loop hc (k := k) (by omega) 8 k 0 0#64 s (by omega) (by omega) (by omega) (by omega) h0 (by omega)
theorem word_ok {bs : List Nat} (hc : CodeOK bs) {k : Nat} (hk : 80 ≤ k) {wide : Int} (hw0 : 0 ≤ wide) (hw : wide ≤ 64) {at' : Int} (h0 : 0 ≤ at') (h1 : at' ≤ 800000000) (s : W) :
    ∃ a2 s2 b, c209 k wide (encB bs) at' (wi s) = r209 (encB bs) a2 (wi s2) (wi b) ∧ at' ≤ a2 ∧ a2 ≤ at' + 20 := by
  obtain ⟨k, rfl⟩ : ∃ j, k = j + 1 := ⟨k - 1, by omega⟩
  rw [n209]
  obtain ⟨a2, s2, v, h, h2, h3, h4, h5, _⟩ := pick_ok hc (k := k) (by omega) h0 (by omega) s 5
  rw [h]
  simp only [R91_r]
  obtain ⟨a3, s3, u, h, h6, h7, h8, h9, _⟩ := pick_ok hc (k := k) (by omega) (at' := a2) (by omega) (by omega) s2 5
  rw [h]
  simp only [R91_r]
  have fin : ∀ (a4 : Int) (s4 : W) (b : W), at' ≤ a4 → a4 ≤ at' + 15 → ∃ a5 s5 d, (R85 (c85 k 30 (encB bs) a4 (wi s4)) fun l4 v10 v11 b1 => bif b1 then r209 l4 v10 v11 (wi b) else R211 (c211 k wide (wi b)) fun v12 => r209 l4 v10 v11 v12) = r209 (encB bs) a5 (wi s5) (wi d) ∧ at' ≤ a5 ∧ a5 ≤ at' + 20 := by
    intro a4 s4 b h10 h11
    obtain ⟨a5, s5, e, h, h12, h13⟩ := one_ok hc (k := k) (by omega) (at' := a4) (by omega) (by omega) s4 30
    rw [h]
    simp only [R85_r]
    cases e
    · simp only [cond_false]
      rw [cut_ok (by omega) hw0 hw]
      simp only [R211_r]
      exact ⟨_, _, _, rfl, by omega, by omega⟩
    · exact ⟨_, _, _, rfl, by omega, by omega⟩
  cases e0 : (u == 0)
  · simp only [cond_false]
    cases e1 : (u == 1)
    · simp only [cond_false]
      cases e2 : (u == 2)
      · simp only [cond_false]
        rw [wrapU]
        exact fin a3 s3 _ (by omega) (by omega)
      · simp only [cond_true]
        obtain ⟨a4, s4, x, h, h10, h11, h12, h13, _⟩ := pick_ok hc (k := k) (by omega) (at' := a3) (by omega) (by omega) s3 64
        rw [h]
        simp only [R91_r]
        rw [u64_id h12 (by omega)]
        have hx : decide (x < 0) = false := by simpa using h12
        rw [hx]
        simp only [Bool.not_false, cond_true]
        rw [show (1 : Int) = wi 1#64 from rfl, shl_wi _ h12]
        exact fin a4 s4 _ (by omega) (by omega)
    · simp only [cond_true]
      obtain ⟨a4, s4, x, h, h10, h11, h12, h13, _⟩ := pick_ok hc (k := k) (by omega) (at' := a3) (by omega) (by omega) s3 3
      rw [h]
      simp only [R91_r]
      rw [wrapU]
      exact fin a4 s4 _ (by omega) (by omega)
  · simp only [cond_true]
    obtain ⟨a4, s4, b, h, h10, h11⟩ := long_ok hc (k := k) (by omega) (at' := a3) (by omega) (by omega) s3
    rw [h]
    simp only [R226_r]
    exact fin a4 s4 b (by omega) (by omega)
theorem state_loop {bs : List Nat} (hc : CodeOK bs) {k : Nat} (hk : 90 ≤ k) {wide vars : Int} (hw0 : 0 ≤ wide) (hw : wide ≤ 64) (hv : vars ≤ 100) : ∀ (m n : Nat) (st : List W) {at' : Int} (s : W), (vars - st.length).toNat ≤ m → m < n → st.length ≤ 100 → 0 ≤ at' → at' + 20 * m ≤ 700000000 →
    ∃ a2 s2 st2, L178_1 k n wide vars st.length (st.length : Int) (encB bs) at' (wi s) (encW st) = r178 (encB bs) a2 (wi s2) (encW st2) ∧ at' ≤ a2 ∧ a2 ≤ at' + 20 * m ∧ st2.length ≤ 100
  | m, 0, st, at', s, hm, hn, hl, h0, h1 => by omega
  | m, n + 1, st, at', s, hm, hn, hl, h0, h1 => by
    rw [sL178_1]
    by_cases hd : (st.length : Int) < vars
    · have hd' : decide ((st.length : Int) < vars) = true := by simpa using hd
      rw [hd']
      simp only [cond_true]
      obtain ⟨a2, s2, b, h, h2, h3⟩ := word_ok hc (k := k) (by omega) hw0 hw h0 (by omega) s
      rw [h]
      simp only [R209_r]
      rw [lim_ok (by omega) (by omega), i64_id (by omega) (by omega)]
      simp only [cond_true]
      have e1 : (encW st).take st.length = encW st := by rw [List.take_of_length_le (by simp)]
      rw [e1, encW_snoc]
      have e2 : st.length + 1 = (st ++ [b]).length := by simp
      have e3 : (st.length : Int) + 1 = ((st ++ [b]).length : Int) := by simp
      rw [e2, e3]
      cases m with
      | zero => omega
      | succ m =>
        obtain ⟨a3, s3, st2, h, h4, h5, h6⟩ := state_loop hc hk hw0 hw hv m n (st ++ [b]) (at' := a2) s2 (by simp; omega) (by omega) (by simp; omega) (by omega) (by omega)
        exact ⟨a3, s3, st2, h, by omega, by omega, h6⟩
    · have hd' : decide ((st.length : Int) < vars) = false := by simpa using hd
      rw [hd']
      simp only [cond_false]
      have e1 : (encW st).take st.length = encW st := by rw [List.take_of_length_le (by simp)]
      rw [e1]
      exact ⟨at', s, st, rfl, by omega, by omega, hl⟩
theorem stateFor_ok {bs : List Nat} (hc : CodeOK bs) {k : Nat} (hk : 200 ≤ k) {wide vars : Int} (hw0 : 0 ≤ wide) (hw : wide ≤ 64) (hv : vars ≤ 100) (l1 l2 : List PV) {at' : Int} (h0 : 0 ≤ at') (h1 : at' ≤ 600000000) (s : W) :
    ∃ a2 s2 st, c124 k wide vars l1 l2 (encB bs) at' (wi s) = r124 (encB bs) a2 (wi s2) (encW st) ∧ at' ≤ a2 ∧ a2 ≤ at' + 3000 ∧ st.length ≤ 101 := by
  obtain ⟨k, rfl⟩ : ∃ j, k = j + 2 := ⟨k - 2, by omega⟩
  rw [n124, n178]
  obtain ⟨a2, s2, st, h, h2, h3, h4⟩ := state_loop hc (k := k) (by omega) hw0 hw hv 100 k [] (at' := at') s (by simp; omega) (by omega) (by simp) h0 (by omega)
  have h' : L178_1 k k wide vars 0 0 (encB bs) at' (wi s) [] = _ := h
  rw [h']
  simp only [R178_r]
  obtain ⟨a3, s3, b, h, h5, h6⟩ := one_ok hc (k := k + 1) (by omega) (at' := a2) (by omega) (by omega) s2 30
  rw [h]
  simp only [R85_r, encW_length]
  have e1 : (encW st).take st.length = encW st := by rw [List.take_of_length_le (by simp)]
  cases b
  · simp only [cond_false, e1]
    exact ⟨_, _, _, rfl, by omega, by omega, by omega⟩
  · simp only [cond_true]
    rw [lim_ok (by omega) (by omega)]
    simp only [cond_true, e1]
    have e2 : encW st ++ [PV.int .u64 0] = encW (st ++ [0#64]) := encW_snoc st 0#64
    rw [e2, encW_take, List.take_of_length_le (by simp)]
    exact ⟨_, _, _, rfl, by omega, by omega, by simp; omega⟩
theorem small_tail {bs : List Nat} (hc : CodeOK bs) {k : Nat} (hk : 170 ≤ k) : ∀ (m n : Nat) {wide vars : Int} {at' : Int} (s : W), 1 ≤ wide → wide ≤ 4 → 1 ≤ vars → vars ≤ 10 → (vars - 1).toNat ≤ m → m < n → 0 ≤ at' → at' ≤ 550000000 →
    ∃ a2 s2 p, L64_1 k n wide vars (encB bs) at' (wi s) 0 0 [] [] = r64 (encB bs) a2 (wi s2) p.wide p.vars (encT p.start) (encCms p.cmds) ∧ at' ≤ a2 ∧ a2 ≤ at' + 9000 ∧ FitP p
  | m, 0, wide, vars, at', s, hw0, hw, hv0, hv, hm, hn, h0, h1 => by omega
  | m, n + 1, wide, vars, at', s, hw0, hw, hv0, hv, hm, hn, h0, h1 => by
    rw [sL64_1]
    have hb : 0 ≤ wide * vars ∧ wide * vars ≤ 40 := by
      have h2 : wide * vars ≤ 4 * vars := Int.mul_le_mul_of_nonneg_right hw (by omega)
      have h3 : 0 ≤ wide * vars := Int.mul_nonneg (by omega) (by omega)
      omega
    rw [i64_id (n := wide * vars) (by omega) (by omega), i64_id (n := vars - 1) (by omega) (by omega)]
    have one : vars = 1 → wide * vars ≤ 5 := by intro h; subst h; omega
    have rc : (1 < vars) → ∃ a2 s2 p, L64_1 k n wide (vars - 1) (encB bs) at' (wi s) 0 0 [] [] = r64 (encB bs) a2 (wi s2) p.wide p.vars (encT p.start) (encCms p.cmds) ∧ at' ≤ a2 ∧ a2 ≤ at' + 9000 ∧ FitP p := by
      intro h
      cases m with
      | zero => omega
      | succ m => exact small_tail hc hk m n s hw0 hw (by omega) (by omega) (by omega) (by omega) h0 h1
    by_cases hd : wide * vars > 5
    · have hd' : decide (wide * vars > 5) = true := by simpa using hd
      rw [hd']
      exact rc (by omega)
    · have hd' : decide (wide * vars > 5) = false := by simpa using hd
      rw [hd']
      simp only [cond_false]
      by_cases hd2 : vars > 4
      · have hd2' : decide (vars > 4) = true := by simpa using hd2
        rw [hd2']
        exact rc (by omega)
      · have hd2' : decide (vars > 4) = false := by simpa using hd2
        rw [hd2']
        simp only [cond_false]
        obtain ⟨a2, s2, p, h, h2, h3, h4, h5, h6, h7, h7b⟩ := progOf_ok hc (k := k) (by omega) (wide := wide) (vars := vars) ⟨hw0, by omega⟩ ⟨hv0, by omega⟩ h0 (by omega) s
        rw [h]
        simp only [R150_r]
        obtain ⟨a3, s3, v, h, h8, h9, h10, h11, _⟩ := pick_ok hc (k := k) (by omega) (at' := a2) (by omega) (by omega) s2 40
        rw [h]
        simp only [R91_r, encCms_length]
        have e1 : (encCms p.cmds).take p.cmds.length = encCms p.cmds := by rw [List.take_of_length_le (by simp)]
        have hpos : decide ((0 : Int) < (p.cmds.length : Int)) = true := by simp; omega
        have hget : (encCms p.cmds)[0]? = some (encCm p.cmds[0]) := by rw [encCms_get, List.getElem?_eq_getElem (by omega)]; rfl
        have hf0 := h7b p.cmds[0] (List.getElem_mem _)
        cases e0 : (v == 0)
        · simp only [cond_false]
          cases e1' : (v == 1)
          · simp only [cond_false]
            cases e2 : (v == 2)
            · simp only [cond_false]
              cases e3 : (v == 3)
              · simp only [cond_false, e1]
                exact ⟨_, _, p, rfl, by omega, by omega, h4⟩
              · simp only [cond_true, hpos, hget, Option.bind_some, encCm_ch, encChs_length]
                have hl := hf0.ch
                rw [lim_ok (by omega) (by omega)]
                have e5 : PV.agg [.int .i64 0, .row 2 0 [PV.agg [.int .i64 1, .int .u64 0]]] = encCh ⟨0, [(1, 0#64)]⟩ := rfl
                rw [e5, encChs_snoc]
                have e6 : decide (p.cmds[0].ch.length + 1 ≤ (encChs (p.cmds[0].ch ++ [⟨0, [(1, 0#64)]⟩])).length) = true := by simp
                rw [e6]
                simp only [cond_true]
                have e7 : (encChs (p.cmds[0].ch ++ [⟨0, [(1, 0#64)]⟩])).take (p.cmds[0].ch.length + 1) = encChs (p.cmds[0].ch ++ [⟨0, [(1, 0#64)]⟩]) := by rw [List.take_of_length_le (by simp)]
                rw [e7, put_ch]
                simp only [Option.bind_some]
                rw [encCms_set, encCms_take, List.take_of_length_le (by simp)]
                refine ⟨a3, s3, { p with cmds := p.cmds.set 0 { p.cmds[0] with ch := p.cmds[0].ch ++ [⟨0, [(1, 0#64)]⟩] } }, rfl, by omega, by omega, ⟨h4.w, h4.v, h4.st, by simpa using h4.cm, fun c hc' => ?_⟩⟩
                rcases List.mem_or_eq_of_mem_set hc' with h12 | h12
                · exact h4.c c h12
                · subst h12
                  refine ⟨hf0.wh, by simp; omega, fun x hx => ?_⟩
                  rcases List.mem_append.1 hx with hx | hx
                  · exact hf0.by1 x hx
                  · simp at hx; subst hx; simp
            · simp only [cond_true, hpos, hget, Option.bind_some]
              have e5 : ([PV.agg [.int .i64 1, .int .u64 0]] : List PV) = encT [(1, 0#64)] := rfl
              rw [e5, put_wh]
              simp only [Option.bind_some]
              rw [encCms_set, encCms_take, List.take_of_length_le (by simp)]
              refine ⟨a3, s3, { p with cmds := p.cmds.set 0 { p.cmds[0] with wh := [(1, 0#64)] } }, rfl, by omega, by omega, ⟨h4.w, h4.v, h4.st, by simpa using h4.cm, fun c hc' => ?_⟩⟩
              have hl := hf0.ch
              rcases List.mem_or_eq_of_mem_set hc' with h12 | h12
              · exact h4.c c h12
              · subst h12
                exact ⟨by simp, by simp only; omega, hf0.by1⟩
          · simp only [cond_true]
            exact ⟨a3, s3, { p with cmds := [] }, rfl, by omega, by omega, ⟨h4.w, h4.v, h4.st, by simp, by simp⟩⟩
        · simp only [cond_true]
          obtain ⟨a4, s4, x, h, h12, h13, h14⟩ := among_ok hc (k := k) (by omega) (at' := a3) (by omega) (by omega) s3 [0, 4, 5] (by simp)
          rw [show ([PV.int .i64 0, PV.int .i64 4, PV.int .i64 5] : List PV) = encZ [0, 4, 5] from rfl, h]
          simp only [R149_r, e1]
          refine ⟨a4, s4, { p with vars := x }, rfl, by omega, by omega, ⟨h4.w, ?_, h4.st, h4.cm, h4.c⟩⟩
          simp at h14
          simp only
          omega
theorem small_ok {bs : List Nat} (hc : CodeOK bs) {k : Nat} (hk : 200 ≤ k) {at' : Int} (h0 : 0 ≤ at') (h1 : at' ≤ 500000000) (s : W) :
    ∃ a2 s2 p, c64 k (encB bs) at' (wi s) = r64 (encB bs) a2 (wi s2) p.wide p.vars (encT p.start) (encCms p.cmds) ∧ at' ≤ a2 ∧ a2 ≤ at' + 10000 ∧ FitP p := by
  obtain ⟨k, rfl⟩ : ∃ j, k = j + 1 := ⟨k - 1, by omega⟩
  rw [n64]
  obtain ⟨a2, s2, v, h, h2, h3, h4⟩ := among_ok hc (k := k) (by omega) h0 (by omega) s [1, 2, 2, 2, 3, 4] (by simp)
  rw [show ([PV.int .i64 1, PV.int .i64 2, PV.int .i64 2, PV.int .i64 2, PV.int .i64 3, PV.int .i64 4] : List PV) = encZ [1, 2, 2, 2, 3, 4] from rfl, h]
  simp only [R149_r]
  have hv : 1 ≤ v ∧ v ≤ 4 := by simp at h4; omega
  cases e0 : decide (v < 3)
  · simp only [cond_false]
    obtain ⟨a3, s3, p, h, h5, h6, h7⟩ := small_tail hc (k := k) (by omega) 9 k (wide := v) (vars := 1) (at' := a2) s2 hv.1 hv.2 (by omega) (by omega) (by omega) (by omega) (by omega) (by omega)
    exact ⟨a3, s3, p, h, by omega, by omega, h7⟩
  · simp only [cond_true]
    have hz : (v == 0) = false := by simp; omega
    rw [hz]
    simp only [Bool.not_false, cond_true]
    have hq : IntKind.i64.wrap ((6 : Int).tdiv v) = 6 / v ∧ 1 ≤ 6 / v ∧ 6 / v ≤ 6 := by
      have : v = 1 ∨ v = 2 := by simp at e0; omega
      rcases this with rfl | rfl <;> decide
    rw [hq.1]
    obtain ⟨a3, s3, u, h, h5, h6, h7, h8, h9, _⟩ := pick_ok hc (k := k) (by omega) (at' := a2) (by omega) (by omega) s2 (6 / v)
    rw [h]
    simp only [R91_r]
    have h8 := h8 hq.2.1
    rw [i64_id (n := 1 + u) (by omega) (by omega)]
    obtain ⟨a4, s4, p, h, h10, h11, h12⟩ := small_tail hc (k := k) (by omega) 9 k (wide := v) (vars := 1 + u) (at' := a3) s3 hv.1 hv.2 (by omega) (by omega) (by omega) (by omega) (by omega) (by omega)
    exact ⟨a4, s4, p, h, by omega, by omega, h12⟩
end Go.Proofs.YtnflnpjojbkgjaaGreat
