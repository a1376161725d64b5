/- The law FnSettled of the program: for all arguments it returns true, and its arguments read as they did. -/
import Derived.Test.YtclkgblckicabaaGreatM4
import Derived.Test.YtclkgblckicabaaGreatM2
import Derived.Test.YtclkgblckicabaaGreatRows
import Derived.WalkKit
import Derived.ProofKit
import Derived.OpenShut
import Derived.ShutString
import Derived.ChangeOld
import Derived.Below
import Derived.SizedLaws
/- Spans: what is good, what is drawn, what lies within. -/
set_option linter.unusedVariables false
set_option linter.unusedSimpArgs false
set_option linter.unusedSectionVars false
set_option maxRecDepth 4000
namespace Go.Proofs.YtclkgblckicabaaGreat
open Go.Dp

/-! ### What is drawn -/
theorem cutA_loop {wide : Int} (h2 : wide ≤ 65) (a : W) (k : Nat) : ∀ (m n : Nat) (j : Nat) (o : W), (wide - j).toNat ≤ m → m < n → j ≤ 65 → ∃ d, L297_1 k n wide (wi a) (wi o) (j : Int) = r297 (wi d)
  | m, 0, j, o, hm, hn, hj => by omega
  | m, n + 1, j, o, hm, hn, hj => by
    rw [sL297_1]
    by_cases h : (j : Int) < wide
    · have hd : decide ((j : Int) < wide) = true := by simpa using h
      rw [u64_id (n := (j : Int)) (by omega) (by omega)]
      have hd2 : decide ((j : Int) < 0) = false := by simp
      have e1 : (1 : Int) = wi (1#64) := rfl
      simp only [hd, hd2, cond_true, Bool.not_false]
      rw [e1, shl_wi _ (by omega), and_wi, or_wi, ← e1, i64_id (by omega) (by omega)]
      have e2 : (j : Int) + 1 = ((j + 1 : Nat) : Int) := by omega
      rw [e2]
      cases m with
      | zero => omega
      | succ m => exact cutA_loop h2 a k m n (j + 1) _ (by omega) (by omega) (by omega)
    · have hd : decide ((j : Int) < wide) = false := by simpa using h
      simp only [hd, cond_false]
      exact ⟨o, rfl⟩
theorem cutA_ok {k : Nat} (hk : 80 ≤ k) {wide : Int} (h2 : wide ≤ 65) (a : W) : ∃ d, c297 k wide (wi a) = r297 (wi d) := by
  obtain ⟨k, rfl⟩ : ∃ j, k = j + 1 := ⟨k - 1, by omega⟩
  rw [n297]
  exact cutA_loop h2 a k wide.toNat k 0 0#64 (by omega) (by omega) (by omega)
theorem wordA_ok {bs : List Nat} (hc : CodeOK bs) {k : Nat} (hk : 90 ≤ k) {wide : Int} (hw0 : 0 ≤ wide) (hw : wide ≤ 65) {at' : Int} (h0 : 0 ≤ at') (h1 : at' ≤ 800000000) (s : W) :
    ∃ a2 s2 b, c251 k wide (encB bs) at' (wi s) = r251 (encB bs) a2 (wi s2) (wi b) ∧ at' ≤ a2 ∧ a2 ≤ at' + 20 := by
  obtain ⟨k, rfl⟩ : ∃ j, k = j + 1 := ⟨k - 1, by omega⟩
  rw [n251]
  obtain ⟨a2, s2, v, h, h2, h3, h4, h5, _⟩ := pick_ok hc (k := k) (by omega) h0 (by omega) s 5
  rw [h]
  simp only [R143_r]
  obtain ⟨a3, s3, u, h, h6, h7, h8, h9, _⟩ := pick_ok hc (k := k) (by omega) (at' := a2) (by omega) (by omega) s2 5
  rw [h]
  simp only [R143_r]
  have fin : ∀ (a4 : Int) (s4 : W) (b : W), at' ≤ a4 → a4 ≤ at' + 15 → ∃ a5 s5 d, (R145 (c145 k 30 (encB bs) a4 (wi s4)) fun l4 v10 v11 b1 => bif b1 then r251 l4 v10 v11 (wi b) else R297 (c297 k wide (wi b)) fun v12 => r251 l4 v10 v11 v12) = r251 (encB bs) a5 (wi s5) (wi d) ∧ at' ≤ a5 ∧ a5 ≤ at' + 20 := by
    intro a4 s4 b h10 h11
    obtain ⟨a5, s5, e, h, h12, h13⟩ := one_ok hc (k := k) (by omega) (at' := a4) (by omega) (by omega) s4 30
    rw [h]
    simp only [R145_r]
    cases e
    · simp only [cond_false]
      obtain ⟨d, hd⟩ := cutA_ok (k := k) (by omega) hw b
      rw [hd]
      simp only [R297_r]
      exact ⟨_, _, _, rfl, by omega, by omega⟩
    · exact ⟨_, _, _, rfl, by omega, by omega⟩
  cases e0 : (u == 0)
  · simp only [cond_false]
    cases e1 : (u == 1)
    · simp only [cond_false]
      cases e2 : (u == 2)
      · simp only [cond_false]
        rw [wrapU]
        exact fin a3 s3 _ (by omega) (by omega)
      · simp only [cond_true]
        obtain ⟨a4, s4, x, h, h10, h11, h12, h13, _⟩ := pick_ok hc (k := k) (by omega) (at' := a3) (by omega) (by omega) s3 64
        rw [h]
        simp only [R143_r]
        rw [u64_id h12 (by omega)]
        have hx : decide (x < 0) = false := by simpa using h12
        rw [hx]
        simp only [Bool.not_false, cond_true]
        rw [show (1 : Int) = wi 1#64 from rfl, shl_wi _ h12]
        exact fin a4 s4 _ (by omega) (by omega)
    · simp only [cond_true]
      obtain ⟨a4, s4, x, h, h10, h11, h12, h13, _⟩ := pick_ok hc (k := k) (by omega) (at' := a3) (by omega) (by omega) s3 3
      rw [h]
      simp only [R143_r]
      rw [wrapU]
      exact fin a4 s4 _ (by omega) (by omega)
  · simp only [cond_true]
    obtain ⟨a4, s4, b, h, h10, h11⟩ := long_ok hc (k := k) (by omega) (at' := a3) (by omega) (by omega) s3
    rw [h]
    simp only [R315_r]
    exact fin a4 s4 b (by omega) (by omega)
theorem stateA_loop {bs : List Nat} (hc : CodeOK bs) {k : Nat} (hk : 100 ≤ k) {wide vars : Int} (hw0 : 0 ≤ wide) (hw : wide ≤ 65) (hv : vars ≤ 100) : ∀ (m n : Nat) (st : List W) {at' : Int} (s : W), (vars - st.length).toNat ≤ m → m < n → st.length ≤ 100 → 0 ≤ at' → at' + 20 * m ≤ 700000000 →
    ∃ a2 s2 st2, L144_1 k n wide vars st.length (st.length : Int) (encB bs) at' (wi s) (encW st) = r144 (encB bs) a2 (wi s2) (encW st2) ∧ at' ≤ a2 ∧ a2 ≤ at' + 20 * m ∧ st2.length ≤ 100 ∧ ((st.length : Int) ≤ vars → (st2.length : Int) = vars)
  | m, 0, st, at', s, hm, hn, hl, h0, h1 => by omega
  | m, n + 1, st, at', s, hm, hn, hl, h0, h1 => by
    rw [sL144_1]
    by_cases hd : (st.length : Int) < vars
    · have hd' : decide ((st.length : Int) < vars) = true := by simpa using hd
      rw [hd']
      simp only [cond_true]
      obtain ⟨a2, s2, b, h, h2, h3⟩ := wordA_ok hc (k := k) (by omega) hw0 hw h0 (by omega) s
      rw [h]
      simp only [R251_r]
      rw [lim_ok (by omega) (by omega), i64_id (by omega) (by omega)]
      simp only [cond_true]
      have e1 : (encW st).take st.length = encW st := by rw [List.take_of_length_le (by simp)]
      rw [e1, encW_snoc]
      have e2 : st.length + 1 = (st ++ [b]).length := by simp
      have e3 : (st.length : Int) + 1 = ((st ++ [b]).length : Int) := by simp
      rw [e2, e3]
      cases m with
      | zero => omega
      | succ m =>
        obtain ⟨a3, s3, st2, h, h4, h5, h6, h7⟩ := stateA_loop hc hk hw0 hw hv m n (st ++ [b]) (at' := a2) s2 (by simp; omega) (by omega) (by simp; omega) (by omega) (by omega)
        exact ⟨a3, s3, st2, h, by omega, by omega, h6, fun _ => h7 (by simp; omega)⟩
    · have hd' : decide ((st.length : Int) < vars) = false := by simpa using hd
      rw [hd']
      simp only [cond_false]
      have e1 : (encW st).take st.length = encW st := by rw [List.take_of_length_le (by simp)]
      rw [e1]
      exact ⟨at', s, st, rfl, by omega, by omega, hl, fun _ => by omega⟩
theorem stateA_ok {bs : List Nat} (hc : CodeOK bs) {k : Nat} (hk : 210 ≤ k) {wide vars : Int} (hw0 : 0 ≤ wide) (hw : wide ≤ 65) (hv : vars ≤ 100) {at' : Int} (h0 : 0 ≤ at') (h1 : at' ≤ 600000000) (s : W) :
    ∃ a2 s2 st, c144 k wide vars (encB bs) at' (wi s) = r144 (encB bs) a2 (wi s2) (encW st) ∧ at' ≤ a2 ∧ a2 ≤ at' + 2000 ∧ st.length ≤ 100 ∧ (0 ≤ vars → (st.length : Int) = vars) := by
  obtain ⟨k, rfl⟩ : ∃ j, k = j + 1 := ⟨k - 1, by omega⟩
  rw [n144]
  obtain ⟨a2, s2, st, h, h2, h3, h4, h5⟩ := stateA_loop hc (k := k) (by omega) hw0 hw hv vars.toNat k [] (at' := at') s (by simp) (by omega) (by simp) h0 (by omega)
  exact ⟨a2, s2, st, h, h2, by omega, h4, fun h0 => h5 (by simpa using h0)⟩
theorem span1_ok {bs : List Nat} (hc : CodeOK bs) {k : Nat} (hk : 100 ≤ k) {wide : Int} (hw0 : 0 ≤ wide) (hw : wide ≤ 65) {at' : Int} (h0 : 0 ≤ at') (h1 : at' ≤ 700000000) (s : W) :
    ∃ a2 s2 x, c236 k wide (encB bs) at' (wi s) = r236 (encB bs) a2 (wi s2) (wi (x : Spn).1) (wi x.2) ∧ at' ≤ a2 ∧ a2 ≤ at' + 50 := by
  obtain ⟨k, rfl⟩ : ∃ j, k = j + 1 := ⟨k - 1, by omega⟩
  rw [n236]
  obtain ⟨a2, s2, u, h, h2, h3⟩ := wordA_ok hc (k := k) (by omega) hw0 hw h0 (by omega) s
  rw [h]
  simp only [R251_r]
  obtain ⟨a3, s3, v, h, h4, h5⟩ := wordA_ok hc (k := k) (by omega) hw0 hw (at' := a2) (by omega) (by omega) s2
  rw [h]
  simp only [R251_r]
  obtain ⟨a4, s4, b, h, h6, h7⟩ := one_ok hc (k := k) (by omega) (at' := a3) (by omega) (by omega) s3 3
  rw [h]
  simp only [R145_r]
  have e : decide (wi u > wi u) = false := by simp
  obtain ⟨a5, s5, q, hq, h8, h9⟩ := one_ok hc (k := k) (by omega) (at' := a4) (by omega) (by omega) s4 30
  cases b
  · simp only [cond_false]
    cases decide (wi u > wi v)
    · exact ⟨_, _, (u, v), rfl, by omega, by omega⟩
    · simp only [cond_true]
      rw [hq]
      simp only [R145_r]
      cases q
      · exact ⟨_, _, (v, u), rfl, by omega, by omega⟩
      · exact ⟨_, _, (u, v), rfl, by omega, by omega⟩
  · rw [e]
    exact ⟨_, _, (u, u), rfl, by omega, by omega⟩
theorem spans_loop {bs : List Nat} (hc : CodeOK bs) {k : Nat} (hk : 110 ≤ k) {wide vars : Int} (hw0 : 0 ≤ wide) (hw : wide ≤ 65) (hv : vars ≤ 100) : ∀ (m n : Nat) (st : List Spn) {at' : Int} (s : W), (vars - st.length).toNat ≤ m → m < n → st.length ≤ 100 → 0 ≤ at' → at' + 50 * m ≤ 650000000 →
    ∃ a2 s2 st2, L127_1 k n wide vars st.length (st.length : Int) (encB bs) at' (wi s) (encSp st) = r127 (encB bs) a2 (wi s2) (encSp st2) ∧ at' ≤ a2 ∧ a2 ≤ at' + 50 * m ∧ st2.length ≤ 100 ∧ ((st.length : Int) ≤ vars → (st2.length : Int) = vars)
  | m, 0, st, at', s, hm, hn, hl, h0, h1 => by omega
  | m, n + 1, st, at', s, hm, hn, hl, h0, h1 => by
    rw [sL127_1]
    have e1 : (encSp st).take st.length = encSp st := by rw [List.take_of_length_le (by simp)]
    by_cases hd : (st.length : Int) < vars
    · have hd' : decide ((st.length : Int) < vars) = true := by simpa using hd
      rw [hd']
      simp only [cond_true]
      obtain ⟨a2, s2, b, h, h2, h3⟩ := span1_ok hc (k := k) (by omega) hw0 hw h0 (by omega) s
      rw [h]
      simp only [R236_r]
      rw [lim_ok (by omega) (by omega), i64_id (by omega) (by omega), e1, encS_mk, encSp_snoc]
      simp only [cond_true]
      have e2 : st.length + 1 = (st ++ [b]).length := by simp
      have e3 : (st.length : Int) + 1 = ((st ++ [b]).length : Int) := by simp
      rw [e2, e3]
      cases m with
      | zero => omega
      | succ m =>
        obtain ⟨a3, s3, st2, h, h4, h5, h6, h7⟩ := spans_loop hc hk hw0 hw hv m n (st ++ [b]) (at' := a2) s2 (by simp; omega) (by omega) (by simp; omega) (by omega) (by omega)
        exact ⟨a3, s3, st2, h, by omega, by omega, h6, fun _ => h7 (by simp; omega)⟩
    · have hd' : decide ((st.length : Int) < vars) = false := by simpa using hd
      rw [hd', e1]
      exact ⟨at', s, st, rfl, by omega, by omega, hl, fun _ => by omega⟩
theorem spans_ok {bs : List Nat} (hc : CodeOK bs) {k : Nat} (hk : 220 ≤ k) {wide vars : Int} (hw0 : 0 ≤ wide) (hw : wide ≤ 65) (hv : vars ≤ 100) {at' : Int} (h0 : 0 ≤ at') (h1 : at' ≤ 600000000) (s : W) :
    ∃ a2 s2 st, c127 k wide vars (encB bs) at' (wi s) = r127 (encB bs) a2 (wi s2) (encSp st) ∧ at' ≤ a2 ∧ a2 ≤ at' + 5000 ∧ st.length ≤ 100 ∧ (0 ≤ vars → (st.length : Int) = vars) := by
  obtain ⟨k, rfl⟩ : ∃ j, k = j + 1 := ⟨k - 1, by omega⟩
  rw [n127]
  obtain ⟨a2, s2, st, h, h2, h3, h4, h5⟩ := spans_loop hc (k := k) (by omega) hw0 hw hv vars.toNat k [] (at' := at') s (by simp) (by omega) (by simp) h0 (by omega)
  exact ⟨a2, s2, st, h, h2, by omega, h4, fun h0 => h5 (by simpa using h0)⟩
theorem width_ok {bs : List Nat} (hc : CodeOK bs) {k : Nat} (hk : 10 ≤ k) {at' : Int} (h0 : 0 ≤ at') (h1 : at' ≤ 900000000) (s : W) :
    ∃ a2 s2 w, c142 k (encB bs) at' (wi s) = r142 (encB bs) a2 (wi s2) w ∧ at' ≤ a2 ∧ a2 ≤ at' + 2 ∧ 0 ≤ w ∧ w ≤ 65 := by
  obtain ⟨k, rfl⟩ : ∃ j, k = j + 1 := ⟨k - 1, by omega⟩
  rw [n142]
  obtain ⟨a2, s2, w, h, h2, h3, h4⟩ := among_ok hc (k := k) (by omega) h0 (by omega) s [1, 2, 3, 4, 8, 16, 32, 63, 64, 0, 65] (by simp)
  have h' : c128 k [PV.int .i64 1, PV.int .i64 2, PV.int .i64 3, PV.int .i64 4, PV.int .i64 8, PV.int .i64 16, PV.int .i64 32, PV.int .i64 63, PV.int .i64 64, PV.int .i64 0, PV.int .i64 65] (encB bs) at' (wi s) = _ := h
  rw [h']
  simp only [R128_r]
  refine ⟨a2, s2, w, rfl, h2, by omega, ?_⟩
  simp at h4
  omega
/-! ### What is good -/
def gdB (wide : Int) (x : Spn) : Bool := goodW wide x.2 && decide (x.1 ≤ x.2)
theorem gdB_iff {wide : Int} (hw : isW wide = true) {x : Spn} : gdB wide x = true ↔ GdS wide x := by
  unfold gdB goodW
  simp only [hw, Bool.true_and, Bool.and_eq_true, decide_eq_true_eq, BitVec.le_def]
  exact ⟨fun h => ⟨h.2, h.1⟩, fun h => ⟨h.top, h.le⟩⟩
theorem goodSpan_ok {k : Nat} (hk : 5 ≤ k) (wide : Int) (x : Spn) : c245 k wide (wi x.1) (wi x.2) = r245 (gdB wide x) := by
  obtain ⟨k, rfl⟩ : ∃ j, k = j + 1 := ⟨k - 1, by omega⟩
  rw [n245, goodWord_ok (by omega)]
  simp only [R249_r, gdB, wi_le_iff]
  cases goodW wide x.2 <;> rfl
theorem goodSpanS_ok {k : Nat} (hk : 100 ≤ k) (wide : Int) (x : Spn) : c252 k wide (wi x.1) (wi x.2) = r252 (gdB wide x) := by
  obtain ⟨k, rfl⟩ : ∃ j, k = j + 1 := ⟨k - 1, by omega⟩
  rw [n252, both_ok (by omega)]
  simp only [R316_r, gdB, wi_le_iff]
  cases h2 : goodW wide x.2
  · simp
  · by_cases h : x.1 ≤ x.2
    · have h1 : goodW wide x.1 = true := by
        simp only [goodW, Bool.and_eq_true, decide_eq_true_eq] at h2 ⊢
        exact ⟨h2.1, BitVec.le_trans h h2.2⟩
      simp [h1, h]
    · cases goodW wide x.1 <;> simp [h]
theorem nspan_loop {k : Nat} (w1 : Int) (f : Spn → Bool) (l : List (Spn)) (hl : l.length ≤ 100000) (hc : ∀ x ∈ l, c244 k (wi x.1) (wi x.2) w1 = r244 (f x)) : ∀ (n i : Nat), l.length - i < n → i ≤ l.length → L313f244_1 k n (encSp l) w1 (l.length : Int) (i : Int) = r313f244 (fixI f i (l.drop i))
  | 0, i, h, hi => by omega
  | n + 1, i, h, hi => by
    rw [sL313f244_1]
    by_cases hlt : i < l.length
    · have hd : decide ((i : Int) < (l.length : Int)) = true := by simpa using hlt
      have hnext : IntKind.i64.wrap ((i : Int) + 1) = ((i + 1 : Nat) : Int) := by rw [i64_id (by omega) (by omega)]; omega
      rw [hd, lookP_nat, encSp_get, List.getElem?_eq_getElem hlt, drop_cons hlt, hnext]
      simp only [cond_true, Option.map_some, Option.bind_some, encS_shp, encS_lo, encS_hi]
      rw [hc _ (List.getElem_mem hlt)]
      simp only [R244_r, fixI]
      cases f l[i]
      · exact nspan_loop w1 f l hl hc n (i + 1) (by omega) (by omega)
      · rfl
    · have hd : decide ((i : Int) < (l.length : Int)) = false := by simpa using hlt
      rw [hd, List.drop_eq_nil_of_le (by omega)]
      rfl
theorem nspan_idx {k : Nat} (hk : 100010 ≤ k) (w1 : Int) (f : Spn → Bool) (l : List (Spn)) (hl : l.length ≤ 100000) (hc : ∀ x ∈ l, c244 k (wi x.1) (wi x.2) w1 = r244 (f x)) : c313f244 (k + 1) (encSp l) w1 = r313f244 (fixI f 0 l) := by
  rw [n313f244, encSp_length]
  exact nspan_loop (k := k) w1 f l hl hc k 0 (by omega) (by omega)
theorem nspan_ok {k : Nat} (hk : 100010 ≤ k) (w1 : Int) (f : Spn → Bool) (l : List (Spn)) (hl : l.length ≤ 100000) (hc : ∀ x ∈ l, c244 k (wi x.1) (wi x.2) w1 = r244 (f x)) : c243f244 (k + 2) (encSp l) w1 = r243f244 (l.any f) := by
  rw [n243f244, nspan_idx (by omega) w1 f l hl hc]
  simp only [R313f244p_r, fixI_ge]
def spansB (wide : Int) (l : List Spn) : Bool := isV (l.length : Int) && l.all (gdB wide)
theorem spansB_iff {wide : Int} (hw : isW wide = true) {l : List Spn} : spansB wide l = true ↔ isV (l.length : Int) = true ∧ ∀ x ∈ l, GdS wide x := by
  simp only [spansB, Bool.and_eq_true, List.all_eq_true, gdB_iff hw]
theorem any_notB {α : Type} (f : α → Bool) : ∀ l : List α, (l.any fun x => !f x) = !l.all f
  | [] => rfl
  | x :: l => by simp [any_notB f l]
theorem areSpans_ok {k : Nat} (hk : 100100 ≤ k) (wide : Int) (l : List Spn) (hl : l.length ≤ 1000) : c139 k wide (encSp l) = r139 (spansB wide l) := by
  obtain ⟨k, rfl⟩ : ∃ j, k = j + 4 := ⟨k - 4, by omega⟩
  rw [n139, isVars_ok (by omega), encSp_length]
  simp only [R242_r, spansB]
  cases isV (l.length : Int)
  · rfl
  · simp only [cond_true, Bool.true_and]
    rw [nspan_ok (k := k + 1) (by omega) wide (fun x => !gdB wide x) l (by omega) (fun x hx => by
      rw [n244, goodSpan_ok (by omega)]
      simp only [R245_r])]
    simp only [R243f244p_r, any_notB, Bool.not_not]
theorem l18Spans_loop {k : Nat} (hk : 200 ≤ k) (wide : Int) (l : List Spn) (hl : l.length ≤ 1000) : ∀ (n i : Nat), l.length - i < n → i ≤ l.length → L146_1 k n wide (encSp l) (l.length : Int) (i : Int) = r146 ((l.drop i).all (gdB wide))
  | 0, i, h, hi => by omega
  | n + 1, i, h, hi => by
    rw [sL146_1]
    by_cases hlt : i < l.length
    · have hd : decide ((i : Int) < (l.length : Int)) = true := by simpa using hlt
      have hnext : IntKind.i64.wrap ((i : Int) + 1) = ((i + 1 : Nat) : Int) := by rw [i64_id (by omega) (by omega)]; omega
      rw [hd, lookSp hlt, drop_cons hlt, hnext]
      simp only [cond_true, Option.bind_some, encS_shp, encS_lo, encS_hi]
      rw [goodSpanS_ok (by omega)]
      simp only [R252_r, List.all_cons]
      cases gdB wide l[i]
      · rfl
      · exact l18Spans_loop hk wide l hl n (i + 1) (by omega) (by omega)
    · have hd : decide ((i : Int) < (l.length : Int)) = false := by simpa using hlt
      rw [hd, List.drop_eq_nil_of_le (by omega)]
      rfl
theorem l18Spans_ok {k : Nat} (hk : 100100 ≤ k) (wide : Int) (l : List Spn) (hl : l.length ≤ 1000) : c146 k wide (encSp l) = r146 (spansB wide l) := by
  obtain ⟨k, rfl⟩ : ∃ j, k = j + 1 := ⟨k - 1, by omega⟩
  rw [n146, in_ok (by omega), encSp_length]
  simp only [R117_r, spansB]
  have e : isV (l.length : Int) = (decide (1 ≤ (l.length : Int)) && decide ((l.length : Int) ≤ 4)) := rfl
  rw [e]
  cases (decide (1 ≤ (l.length : Int)) && decide ((l.length : Int) ≤ 4))
  · rfl
  · exact l18Spans_loop (k := k) (by omega) wide l hl k 0 (by omega) (by omega)
/-! ### What lies within -/
def inB : List Spn → List W → Bool
  | x :: l, v :: s => (decide (x.1 ≤ v) && decide (v ≤ x.2)) && inB l s
  | _, _ => true
structure AllIn (sp : List Spn) (s : List W) : Prop where
  len : s.length = sp.length
  at' : ∀ (i : Nat) (h : i < sp.length), InS sp[i] (s[i]'(by omega))
theorem inB_all : ∀ {sp : List Spn} {s : List W}, AllIn sp s → inB sp s = true
  | [], s, h => by cases s <;> rfl
  | x :: l, [], h => rfl
  | x :: l, v :: s, h => by
    have h0 := h.at' 0 (by simp)
    simp only [List.getElem_cons_zero] at h0
    have := inB_all (sp := l) (s := s) ⟨by have := h.len; simpa using this, fun i hi => by
      have := h.at' (i + 1) (by simp; omega)
      simpa using this⟩
    simp only [inB, this, Bool.and_true, Bool.and_eq_true, decide_eq_true_eq, BitVec.le_def]
    exact h0
def inOK (wide : Int) (sp : List Spn) (s : List W) : Bool := spansB wide sp && (decide (s.length = sp.length) && s.all (goodW wide))
theorem inI_loop {k : Nat} (hk : 10 ≤ k) (sp : List Spn) (s : List W) (hl : sp.length ≤ 1000) (hs : s.length = sp.length) : ∀ (n i : Nat), sp.length - i < n → i ≤ sp.length → L33_1 k n (encW s) (encSp sp) (sp.length : Int) (i : Int) = r33 (inB (sp.drop i) (s.drop i)) true
  | 0, i, h, hi => by omega
  | n + 1, i, h, hi => by
    rw [sL33_1]
    by_cases hlt : i < sp.length
    · have hd : decide ((i : Int) < (sp.length : Int)) = true := by simpa using hlt
      have hnext : IntKind.i64.wrap ((i : Int) + 1) = ((i + 1 : Nat) : Int) := by rw [i64_id (by omega) (by omega)]; omega
      have hl2 : i < s.length := by omega
      obtain ⟨k, rfl⟩ : ∃ j, k = j + 1 := ⟨k - 1, by omega⟩
      rw [hd, lookSp hlt, lookW hl2, drop_cons hlt, drop_cons hl2, hnext]
      simp only [cond_true, Option.bind_some, encS_shp, encS_lo, encS_hi, int_atInt, n141, wi_le_iff, inB]
      by_cases h1 : sp[i].1 ≤ s[i]
      · by_cases h2 : s[i] ≤ sp[i].2
        · simp only [h1, h2, decide_true, cond_true, R141_r, Bool.not_true, cond_false, Bool.and_self, Bool.true_and]
          exact inI_loop hk sp s hl hs n (i + 1) (by omega) (by omega)
        · simp only [h1, h2, decide_true, decide_false, cond_true, R141_r, Bool.not_false, Bool.and_false, Bool.false_and]
      · simp only [h1, decide_false, cond_false, R141_r, Bool.not_false, cond_true, Bool.false_and]
    · have hd : decide ((i : Int) < (sp.length : Int)) = false := by simpa using hlt
      rw [hd, List.drop_eq_nil_of_le (by omega)]
      rfl
theorem inS_loop {k : Nat} (sp : List Spn) (s : List W) (hl : sp.length ≤ 1000) (hs : s.length = sp.length) : ∀ (n i : Nat), sp.length - i < n → i ≤ sp.length → L37_1 k n (encW s) (encSp sp) (sp.length : Int) (i : Int) = r37 (inB (sp.drop i) (s.drop i)) true
  | 0, i, h, hi => by omega
  | n + 1, i, h, hi => by
    rw [sL37_1]
    by_cases hlt : i < sp.length
    · have hd : decide ((i : Int) < (sp.length : Int)) = true := by simpa using hlt
      have hnext : IntKind.i64.wrap ((i : Int) + 1) = ((i + 1 : Nat) : Int) := by rw [i64_id (by omega) (by omega)]; omega
      have hl2 : i < s.length := by omega
      rw [hd, lookSp hlt, lookW hl2, drop_cons hlt, drop_cons hl2, hnext]
      simp only [cond_true, Option.bind_some, encS_shp, encS_lo, encS_hi, int_atInt, gt_iff_lt, wi_lt_iff, inB]
      have q1 : decide (s[i] < sp[i].1) = !decide (sp[i].1 ≤ s[i]) := by
        rw [Bool.eq_iff_iff]; simp only [decide_eq_true_eq, Bool.not_eq_true', decide_eq_false_iff_not, BitVec.lt_def, BitVec.le_def]; omega
      have q2 : decide (sp[i].2 < s[i]) = !decide (s[i] ≤ sp[i].2) := by
        rw [Bool.eq_iff_iff]; simp only [decide_eq_true_eq, Bool.not_eq_true', decide_eq_false_iff_not, BitVec.lt_def, BitVec.le_def]; omega
      rw [q1, q2]
      cases decide (sp[i].1 ≤ s[i])
      · rfl
      · cases decide (s[i] ≤ sp[i].2)
        · rfl
        · exact inS_loop sp s hl hs n (i + 1) (by omega) (by omega)
    · have hd : decide ((i : Int) < (sp.length : Int)) = false := by simpa using hlt
      rw [hd, List.drop_eq_nil_of_le (by omega)]
      rfl
theorem InSpI_ok {k : Nat} (hk : 1000100 ≤ k) (wide : Int) (sp : List Spn) (s : List W) (hl : sp.length ≤ 1000) (hs : s.length ≤ 1000) : c33 k wide (encSp sp) (encW s) = r33 (inOK wide sp s && inB sp s) (inOK wide sp s) := by
  obtain ⟨k, rfl⟩ : ∃ j, k = j + 1 := ⟨k - 1, by omega⟩
  rw [n33, areSpans_ok (by omega) wide sp hl, encSp_length]
  simp only [R139_r, inOK]
  cases h : spansB wide sp
  · rfl
  simp only [Bool.not_true, cond_false, Bool.true_and]
  rw [isState_ok (by omega) _ _ s (by omega)]
  simp only [R140_r]
  have hv : isV (sp.length : Int) = true := by simp only [spansB, Bool.and_eq_true] at h; exact h.1
  have hne : ∃ x l, sp = x :: l := by
    cases sp with
    | nil => simp [isV] at hv
    | cons x l => exact ⟨x, l, rfl⟩
  have hw : isW wide = true := by
    obtain ⟨x, l, rfl⟩ := hne
    simp only [spansB, List.all_cons, gdB, goodW, Bool.and_eq_true] at h
    exact h.2.1.1.1
  have e : stateOK wide (sp.length : Int) s = (decide (s.length = sp.length) && s.all (goodW wide)) := by
    unfold stateOK
    rw [hw, hv]
    have : decide ((s.length : Int) = (sp.length : Int)) = decide (s.length = sp.length) := by rw [Bool.eq_iff_iff]; simp only [decide_eq_true_eq]; omega
    rw [this]
    rfl
  rw [e]
  by_cases h1 : s.length = sp.length
  · have e1 : decide (s.length = sp.length) = true := by simpa using h1
    rw [e1]
    cases s.all (goodW wide)
    · rfl
    · simp only [Bool.not_true, cond_false, Bool.and_self, Bool.true_and]
      exact inI_loop (k := k) (by omega) sp s hl h1 k 0 (by omega) (by omega)
  · have e1 : decide (s.length = sp.length) = false := by simpa using h1
    rw [e1]
    rfl
theorem InSpS_ok {k : Nat} (hk : 1000200 ≤ k) (wide : Int) (sp : List Spn) (s : List W) (hl : sp.length ≤ 1000) (hs : s.length ≤ 1000) : c37 k wide (encSp sp) (encW s) = r37 (inOK wide sp s && inB sp s) (inOK wide sp s) := by
  obtain ⟨k, rfl⟩ : ∃ j, k = j + 1 := ⟨k - 1, by omega⟩
  rw [n37, l18Spans_ok (by omega) wide sp hl, encSp_length, encW_length]
  simp only [R146_r, inOK]
  cases h : spansB wide sp
  · rfl
  simp only [Bool.not_true, cond_false, Bool.true_and]
  by_cases h1 : s.length = sp.length
  · have e1 : decide (s.length = sp.length) = true := by simpa using h1
    have e2 : ((s.length : Int) != (sp.length : Int)) = false := by simp [h1]
    rw [e1, e2, words_ok (by omega) wide s (by omega)]
    simp only [cond_false, R147_r, Bool.true_and]
    cases s.all (goodW wide)
    · rfl
    · simp only [Bool.not_true, cond_false, Bool.true_and]
      exact inS_loop (k := k) sp s hl h1 k 0 (by omega) (by omega)
  · have e1 : decide (s.length = sp.length) = false := by simpa using h1
    have e2 : ((s.length : Int) != (sp.length : Int)) = true := by simp; omega
    rw [e1, e2]
    rfl
/-! ### The span of a term -/
open Classical in
noncomputable def spanT (wide vars : Int) (sp : List Spn) (t : List Nd) : Spn := if h : goodT wide vars t = true then (Classical.choose (good_tree h)).span wide sp else (0#64, 0#64)
theorem spanT_tree {wide vars : Int} {t : List Nd} (h : goodT wide vars t = true) (sp : List Spn) : ∃ T : Tr, T.flat = t ∧ T.ok wide vars ∧ T.kind = kindT wide vars t ∧ spanT wide vars sp t = T.span wide sp := by
  obtain ⟨h1, h2, h3⟩ := Classical.choose_spec (good_tree h)
  exact ⟨_, h1, h2, h3, by unfold spanT; rw [dif_pos h]⟩
theorem spanT_gd {wide vars : Int} (hw : isW wide = true) (hv : isV vars = true) {sp : List Spn} (hs : (sp.length : Int) = vars) (hg : ∀ x ∈ sp, GdS wide x) {t : List Nd} (h : goodT wide vars t = true) : GdS wide (spanT wide vars sp t) := by
  obtain ⟨T, h1, h2, h3, h4⟩ := spanT_tree h sp
  rw [h4]
  exact (span_gd hw hv sp hs hg T h2).1
theorem spanT_in {wide vars : Int} (hw : isW wide = true) (hv : isV vars = true) {sp : List Spn} (hs : (sp.length : Int) = vars) (hg : ∀ x ∈ sp, GdS wide x) {t : List Nd} (h : goodT wide vars t = true) {s : List W} (hin : AllIn sp s) : vrun wide s t [] = some [valD wide s t] ∧ InS (spanT wide vars sp t) (valD wide s t) := by
  obtain ⟨T, h1, h2, h3, h4⟩ := spanT_tree h sp
  have hsl := hin.len
  have hin' : ∀ (S : Tr), S.ok wide vars → S.inS s := by
    intro S
    induction S with
    | leaf x =>
      intro ho h2
      have := (leaf_run hv ho.2.2).2.2 h2
      omega
    | un x a ih => intro ho; exact ih ho.2.2.2.2
    | bin x a b iha ihb => intro ho; exact ⟨iha ho.2.2.2.2.2.1, ihb ho.2.2.2.2.2.2⟩
  have hr := T.run_val s h2 (hin' T h2) []
  rw [h1] at hr
  have hv' := valD_of hr
  rw [hv', h4]
  exact ⟨hr, span_in hw hv sp hs hg hsl hin.at' T h2⟩
theorem spanI_ok {k : Nat} (hk : 2000 ≤ k) {wide vars : Int} (hw : isW wide = true) (hv : isV vars = true) {sp : List Spn} (hs : (sp.length : Int) = vars) (hg : ∀ x ∈ sp, GdS wide x) {t : List Nd} (h : goodT wide vars t = true) : c237 k wide (encT t) (encSp sp) = r237 (wi (spanT wide vars sp t).1) (wi (spanT wide vars sp t).2) := by
  obtain ⟨k, rfl⟩ : ∃ j, k = j + 1 := ⟨k - 1, by omega⟩
  obtain ⟨T, h1, h2, h3, h4⟩ := spanT_tree h sp
  have hlen := (good_len h).2.2
  have hTl : T.flat.length = t.length := by rw [h1]
  rw [n237, mk_ok (by omega) hw, h4]
  simp only [R234_r, encT_length]
  have := spanI_run hw hv sp hs hg (k := k) (by omega) T t [] [] (k - 1 - T.flat.length + 1) [] h2 (by simp [h1]) (by omega) (by simp; omega)
  have e : k - 1 - T.flat.length + 1 + T.flat.length = k := by omega
  rw [e] at this
  have h' : L237_1 k k (encSp sp) 0 (encT t) (t.length : Int) 0 0 0 0 (wi (mk wide)) [] = _ := this
  rw [h', sL237_1]
  have e2 : decide (((([] : List Nd).length + T.flat.length : Nat) : Int) < (t.length : Int)) = false := by simp; omega
  rw [e2]
  rfl
theorem spanS_ok {k : Nat} (hk : 2000 ≤ k) {wide vars : Int} (hw : isW wide = true) (hv : isV vars = true) {sp : List Spn} (hs : (sp.length : Int) = vars) (hg : ∀ x ∈ sp, GdS wide x) {t : List Nd} (h : goodT wide vars t = true) : c239 k wide (encT t) (IntKind.i64.wrap ((t.length : Int) - 1)) (encSp sp) = r239 (wi (spanT wide vars sp t).1) (wi (spanT wide vars sp t).2) := by
  obtain ⟨T, h1, h2, h3, h4⟩ := spanT_tree h sp
  have hlen := (good_len h).2.2
  have hTl : T.flat.length = t.length := by rw [h1]
  have hp := T.flat_pos
  rw [h4]
  have := l18_tree hw hv sp hs hg T t [] [] k h2 (by simp [h1]) (by omega) (by omega)
  rw [i64_id (by omega) (by omega), show (t.length : Int) - 1 = ((([] : List Nd).length + T.flat.length - 1 : Nat) : Int) by simp; omega]
  exact this
/-! ### A state within -/
theorem state_pick {x : Spn} (hx : x.1.toNat ≤ x.2.toNat) {v d : Int} (h0 : 0 ≤ v) (h1 : v < 1000003) (hd0 : 1 ≤ d) (hd : d ≤ 1000) :
    (decide (IntKind.u64.wrap (wi x.2 - wi x.1) < 1000000) = true → (IntKind.u64.wrap ((IntKind.u64.wrap (wi x.2 - wi x.1)) + 1) == 0) = false ∧ ∃ w, IntKind.u64.wrap (wi x.1 + ((IntKind.u64.wrap (IntKind.i64.wrap (v.tdiv d))).tmod (IntKind.u64.wrap ((IntKind.u64.wrap (wi x.2 - wi x.1)) + 1)))) = wi w ∧ InS x w) ∧
    (decide (IntKind.u64.wrap (wi x.2 - wi x.1) < 1000000) = false → ∃ w, IntKind.u64.wrap (wi x.1 + ((IntKind.u64.wrap (IntKind.i64.wrap (v.tdiv d))).tmod 1000000)) = wi w ∧ InS x w) := by
  have e1 : IntKind.u64.wrap (wi x.2 - wi x.1) = ((x.2.toNat - x.1.toNat : Nat) : Int) := by
    rw [sub_wi]; unfold wi; rw [BitVec.toNat_sub_of_le (by rw [BitVec.le_def]; exact hx)]
  have q0 : 0 ≤ v.tdiv d := Int.tdiv_nonneg h0 (by omega)
  have q1 : v.tdiv d ≤ v := by
    rw [Int.tdiv_eq_ediv_of_nonneg h0]
    exact Int.ediv_le_self _ h0
  have hlt := x.2.isLt
  have mkW : ∀ z : Int, (x.1.toNat : Int) ≤ z → z ≤ (x.2.toNat : Int) → ∃ w, IntKind.u64.wrap z = wi w ∧ InS x w := by
    intro z z1 z2
    refine ⟨BitVec.ofInt 64 z, wrapU z, ?_⟩
    have e : wi (BitVec.ofInt 64 z) = z := by rw [← wrapU, u64_id (by omega) (by omega)]
    unfold wi at e
    exact ⟨by omega, by omega⟩
  rw [e1, i64_id (by omega) (by omega), u64_id (n := v.tdiv d) (by omega) (by omega)]
  generalize v.tdiv d = q at *
  constructor
  · intro h
    simp only [decide_eq_true_eq] at h
    rw [u64_id (n := ((x.2.toNat - x.1.toNat : Nat) : Int) + 1) (by omega) (by omega)]
    refine ⟨by simp; omega, mkW _ ?_ ?_⟩
    · unfold wi
      have := Int.tmod_nonneg (((x.2.toNat - x.1.toNat : Nat) : Int) + 1) q0
      omega
    · unfold wi
      have := Int.tmod_lt_of_pos q (b := ((x.2.toNat - x.1.toNat : Nat) : Int) + 1) (by omega)
      omega
  · intro h
    simp only [decide_eq_false_iff_not] at h
    refine mkW _ ?_ ?_
    · unfold wi
      have := Int.tmod_nonneg 1000000 q0
      omega
    · unfold wi
      have := Int.tmod_lt_of_pos q (b := 1000000) (by omega)
      omega
end Go.Proofs.YtclkgblckicabaaGreat
/- FnCommute: what commands touch; independent commands commute; the law. -/
set_option linter.unusedVariables false
set_option linter.unusedSimpArgs false
set_option maxRecDepth 4000
namespace Go.Proofs.YtclkgblckicabaaGreat
open Go.Dp

/-! ### What a command touches -/
def readsCh : List Chg → List Int
  | [] => []
  | x :: l => vlist x.by1 ++ readsCh l
def readsI : List Chg → List Int
  | [] => []
  | x :: l => canI (vlist x.by1) ++ readsI l
theorem readsI_mem : ∀ (l : List Chg) (v : Int), v ∈ readsI l ↔ v ∈ readsCh l
  | [], v => by simp [readsI, readsCh]
  | x :: l, v => by simp only [readsI, readsCh, List.mem_append, readsI_mem l v, (canI_spec _).2]
theorem readsI_len : ∀ (l : List Chg), (∀ x ∈ l, x.by1.length ≤ 100) → (readsI l).length ≤ 100 * l.length
  | [], h => by simp [readsI]
  | x :: l, h => by
    have h1 := readsI_len l fun y hy => h y (by simp [hy])
    have h2 := canI_len (vlist x.by1)
    have h3 := vlist_len x.by1
    have h4 := h x (by simp)
    simp only [readsI, List.length_append, List.length_cons]
    omega
theorem readsCh_len : ∀ (l : List Chg), (∀ x ∈ l, x.by1.length ≤ 100) → (readsCh l).length ≤ 100 * l.length
  | [], h => by simp [readsCh]
  | x :: l, h => by
    have h1 := readsCh_len l fun y hy => h y (by simp [hy])
    have h3 := vlist_len x.by1
    have h4 := h x (by simp)
    simp only [readsCh, List.length_append, List.length_cons]
    omega
def readsOf (c : Cmd) : List Int := putAllI [] (vlist c.wh ++ readsCh c.ch)
def writesOf (c : Cmd) : List Int := c.ch.map Chg.v
theorem reads_eq (c : Cmd) : canI (canI (vlist c.wh) ++ readsI c.ch) = readsOf c := by
  refine canI_put fun x => ?_
  simp only [List.mem_append, (canI_spec _).2, readsI_mem]
/-! ### Apart -/
def meetI (a b : List Int) : Bool := a.any fun x => b.contains x
def tOK (p : Prg) (k1 : Int) : Bool := goodP p && cnoOK p k1
def apart (p : Prg) (k1 m1 : Int) : Bool := !meetI (writesOf (cmdAt p k1)) (readsOf (cmdAt p m1)) && (!meetI (writesOf (cmdAt p k1)) (writesOf (cmdAt p m1)) && !meetI (writesOf (cmdAt p m1)) (readsOf (cmdAt p k1)))
theorem reads_len {p : Prg} (hp : FitP p) {k1 : Int} (h : cnoOK p k1 = true) : (readsOf (cmdAt p k1)).length ≤ 1000 ∧ (writesOf (cmdAt p k1)).length ≤ 1000 := by
  have hf := hp.c _ (cmdAt_get h).2
  have h1 := putAllI_len (vlist (cmdAt p k1).wh ++ readsCh (cmdAt p k1).ch) []
  have h2 := readsCh_len (cmdAt p k1).ch hf.by1
  have h3 := vlist_len (cmdAt p k1).wh
  have h4 := hf.wh
  have h5 := hf.ch
  simp only [List.length_append, List.length_nil] at h1
  unfold readsOf writesOf
  exact ⟨by omega, by simp; omega⟩
end Go.Proofs.YtclkgblckicabaaGreat
/- FnCommute: independent commands commute; the law. -/
set_option linter.unusedVariables false
set_option linter.unusedSimpArgs false
set_option maxRecDepth 4000
namespace Go.Proofs.YtclkgblckicabaaGreat
open Go.Dp

theorem good_cmd {p : Prg} (hp : FitP p) {k1 : Int} (h : tOK p k1 = true) : isW p.wide = true ∧ isV p.vars = true ∧ goodP p = true ∧ cnoOK p k1 = true ∧ FitC 6 (cmdAt p k1) ∧ kindT p.wide p.vars (cmdAt p k1).wh = 2 ∧ ∀ x ∈ (cmdAt p k1).ch, 0 ≤ x.v ∧ x.v < p.vars ∧ kindT p.wide p.vars x.by1 = 1 := by
  simp only [tOK, Bool.and_eq_true] at h
  obtain ⟨hg, hn⟩ := h
  obtain ⟨h1, h2⟩ := goodP_size hg
  have hm := (cmdAt_get hn).2
  have hg' := hg
  simp only [goodP, Bool.and_eq_true, List.all_eq_true] at hg
  have hc := hg.2 _ hm
  simp only [goodCmd, Bool.and_eq_true, beq_iff_eq] at hc
  exact ⟨h1, h2, hg', hn, hp.c _ hm, hc.1, goodChs_mem hc.2⟩
theorem stOK_of {p : Prg} (hw : isW p.wide = true) {s : List W} : stOK p s = true ↔ (s.length : Int) = p.vars ∧ ∀ a ∈ s, a ≤ mk p.wide := by
  simp only [stOK, Bool.and_eq_true, decide_eq_true_eq, List.all_eq_true]
  constructor
  · rintro ⟨h1, h2⟩; exact ⟨h1, fun a ha => (goodW_iff.1 (h2 a ha)).2⟩
  · rintro ⟨h1, h2⟩; exact ⟨h1, fun a ha => goodW_iff.2 ⟨hw, h2 a ha⟩⟩
def stepO (p : Prg) (k1 : Int) (s : List W) : Bool := stOK p s && holdC p (cmdAt p k1) s
def stepT (p : Prg) (k1 : Int) (s : List W) : List W := bif stepO p k1 s then afterS p.wide s (cmdAt p k1).ch s else []
theorem stepG_ok {k : Nat} (hk : 1000300 ≤ k) (p : Prg) (hp : FitP p) (k1 : Int) (ht : tOK p k1 = true) (s : List W) (hsl : s.length ≤ 1000) :
    c32 k p.wide p.vars (encT p.start) (encCms p.cmds) (encW s) k1 = r32 (encW (stepT p k1 s)) (stepO p k1 s) := by
  obtain ⟨k, rfl⟩ : ∃ j, k = j + 2 := ⟨k - 2, by omega⟩
  obtain ⟨hw, hv, hg, hn, hf, hkw, hx⟩ := good_cmd hp ht
  obtain ⟨hget, hm⟩ := cmdAt_get hn
  have hfw := hf.wh
  have hfc := hf.ch
  rw [n32, isStateOf_ok (by omega) p hp s (by omega), hg, cno_ok (by omega), hn, hget]
  simp only [R135_r, R136_r, Bool.true_and, Bool.not_true, cond_false, Option.bind_some, encCm_wh, encCm_ch, encCm_shp, cond_true]
  unfold stepT stepO
  cases hst : stOK p s
  · rfl
  · obtain ⟨hs, hgs⟩ := (stOK_of hw).1 hst
    obtain ⟨hval, _⟩ := kind_val hkw (by omega) hs hgs
    have hh : c137 (k + 1) p.wide p.vars (encT p.start) (encCms p.cmds) (encT (cmdAt p k1).wh) (encW s) = r137 (holdC p (cmdAt p k1) s) := by
      rw [n137, valueOf_ok (by omega) hw s _ (by omega) hval]
      simp only [R122_r]
      have e : (1 : Int) = wi 1#64 := rfl
      rw [e, wi_beq]
      rfl
    rw [hh]
    simp only [R137_r, Bool.not_true, cond_false, Bool.true_and]
    cases holdC p (cmdAt p k1) s
    · rfl
    · simp only [Bool.not_true, cond_false, cond_true]
      rw [after_ok (by omega) p hw _ _ _ s (by omega) hs hgs _ (by omega) (fun x h => ⟨(hx x h).1, (hx x h).2.1, (hx x h).2.2, hf.by1 x h⟩)]
      simp only [R138_r]

/-! ### The plain law -/
theorem vrun_agree {wide : Int} {s s' : List W} : ∀ (t : List Nd) (vs : List W), (∀ x ∈ t, x.1 = 2 → s[x.2.toNat]? = s'[x.2.toNat]?) → vrun wide s t vs = vrun wide s' t vs
  | [], vs, h => rfl
  | x :: t, vs, h => by
    have ih := fun vs => vrun_agree (wide := wide) t vs fun y hy => h y (by simp [hy])
    simp only [vrun]
    split
    · exact ih _
    · split
      · rename_i h2
        rw [h x (by simp) h2]
        cases s'[x.2.toNat]? with
        | none => rfl
        | some a => exact ih _
      · split
        · cases vs with
          | nil => rfl
          | cons a r => exact ih _
        · split
          · cases vs with
            | nil => rfl
            | cons a r => exact ih _
          · rcases vs with _ | ⟨b, _ | ⟨a, r⟩⟩
            · rfl
            · rfl
            · exact ih _
theorem vlist_mem : ∀ (t : List Nd) (x : Nd), x ∈ t → x.1 = 2 → IntKind.i64.wrap (wi x.2) ∈ vlist t
  | [], x, h, h2 => by simp at h
  | y :: t, x, h, h2 => by
    simp only [vlist, List.mem_append]
    rcases List.mem_cons.1 h with rfl | h
    · left; rw [if_pos h2]; simp
    · exact .inr (vlist_mem t x h h2)
theorem readsCh_mem : ∀ (l : List Chg) (x : Chg) (v : Int), x ∈ l → v ∈ vlist x.by1 → v ∈ readsCh l
  | [], x, v, h, hv => by simp at h
  | y :: l, x, v, h, hv => by
    simp only [readsCh, List.mem_append]
    rcases List.mem_cons.1 h with rfl | h
    · exact .inl hv
    · exact .inr (readsCh_mem l x v h hv)
theorem readsOf_mem (c : Cmd) (v : Int) : v ∈ readsOf c ↔ v ∈ vlist c.wh ∨ v ∈ readsCh c.ch := by
  rw [readsOf, (putAllI_spec _ [] List.Pairwise.nil).2]
  simp [List.mem_append]
theorem meetI_false {a b : List Int} (h : meetI a b = false) : ∀ x ∈ a, x ∉ b := by
  intro x hx hb
  have : meetI a b = true := by
    simp only [meetI, List.any_eq_true]
    exact ⟨x, hx, by simpa using hb⟩
  rw [h] at this
  cases this
theorem afterS_length (wide : Int) (s : List W) : ∀ (ch : List Chg) (o : List W), (afterS wide s ch o).length = o.length
  | [], o => rfl
  | x :: l, o => by
    have := afterS_length wide s l (o.set x.v.toNat (valD wide s x.by1))
    simpa [afterS] using this
theorem afterS_get (wide : Int) (s : List W) (i : Nat) : ∀ (ch : List Chg) (o : List W), (∀ x ∈ ch, x.v.toNat ≠ i) → (afterS wide s ch o)[i]? = o[i]?
  | [], o, h => rfl
  | x :: l, o, h => by
    have := afterS_get wide s i l (o.set x.v.toNat (valD wide s x.by1)) fun y hy => h y (by simp [hy])
    rw [List.getElem?_set_ne (h x (by simp))] at this
    exact this
theorem afterS_all {wide vars : Int} {s : List W} (hs : (s.length : Int) = vars) (hg : ∀ a ∈ s, a ≤ mk wide) : ∀ (ch : List Chg) (o : List W), (∀ x ∈ ch, kindT wide vars x.by1 = 1) → (∀ a ∈ o, a ≤ mk wide) → ∀ a ∈ afterS wide s ch o, a ≤ mk wide
  | [], o, hx, ho => ho
  | x :: l, o, hx, ho => by
    obtain ⟨_, h2⟩ := kind_val (hx x (by simp)) (by omega) hs hg
    have h3 : valD wide s x.by1 ≤ mk wide := by rcases h2 with h | h; exact h.2; exact absurd h.1 (by omega)
    refine afterS_all hs hg l (o.set x.v.toNat (valD wide s x.by1)) (fun y hy => hx y (by simp [hy])) fun a ha => ?_
    rcases List.mem_or_eq_of_mem_set ha with h4 | h4
    · exact ho a h4
    · rw [h4]; exact h3
theorem afterS_set (wide : Int) (s : List W) (i : Nat) (a : W) : ∀ (ch : List Chg) (o : List W), (∀ x ∈ ch, x.v.toNat ≠ i) → afterS wide s ch (o.set i a) = (afterS wide s ch o).set i a
  | [], o, h => rfl
  | x :: l, o, h => by
    have := afterS_set wide s i a l (o.set x.v.toNat (valD wide s x.by1)) fun y hy => h y (by simp [hy])
    simp only [afterS, List.foldl_cons] at this ⊢
    rw [List.set_comm _ _ (Ne.symm (h x (by simp)))]
    exact this
theorem afterS_comm (wide : Int) (s : List W) (c2 : List Chg) : ∀ (c1 : List Chg) (o : List W), (∀ x ∈ c1, ∀ y ∈ c2, y.v.toNat ≠ x.v.toNat) → afterS wide s c2 (afterS wide s c1 o) = afterS wide s c1 (afterS wide s c2 o)
  | [], o, h => rfl
  | x :: l, o, h => by
    have := afterS_comm wide s c2 l (o.set x.v.toNat (valD wide s x.by1)) fun y hy => h y (by simp [hy])
    rw [afterS_set wide s _ _ c2 o (h x (by simp))] at this
    exact this
theorem afterS_vals {wide : Int} {s s' : List W} : ∀ (ch : List Chg) (o : List W), (∀ x ∈ ch, valD wide s x.by1 = valD wide s' x.by1) → afterS wide s ch o = afterS wide s' ch o
  | [], o, h => rfl
  | x :: l, o, h => by
    have := afterS_vals (wide := wide) (s := s) (s' := s') l (o.set x.v.toNat (valD wide s x.by1)) fun y hy => h y (by simp [hy])
    simp only [afterS, List.foldl_cons] at this ⊢
    rw [this, h x (by simp)]
theorem apart_val {p : Prg} (hp : FitP p) {k1 m1 : Int} (hk : tOK p k1 = true) (hm : tOK p m1 = true) (h : meetI (writesOf (cmdAt p k1)) (readsOf (cmdAt p m1)) = false) (s : List W) {t : List Nd} (hg : goodT p.wide p.vars t = true) (hr : ∀ v ∈ vlist t, v ∈ readsOf (cmdAt p m1)) :
    valD p.wide (afterS p.wide s (cmdAt p k1).ch s) t = valD p.wide s t := by
  obtain ⟨hw, hv, _, _, _, _, hx⟩ := good_cmd hp hk
  have hv' := isV_iff.1 hv
  unfold valD
  rw [vrun_agree (s := afterS p.wide s (cmdAt p k1).ch s) (s' := s) t [] fun x hxt h2 => ?_]
  have hlt := goodT_vars hg x hxt h2
  refine afterS_get p.wide s _ _ _ fun y hy e => ?_
  have h3 := vlist_mem t x hxt h2
  have h4 : IntKind.i64.wrap (wi x.2) = (x.2.toNat : Int) := by unfold wi; exact i64_id (by omega) (by omega)
  rw [h4] at h3
  have h5 := meetI_false h y.v (List.mem_map.2 ⟨y, hy, rfl⟩)
  have h6 : y.v = (x.2.toNat : Int) := by have := (hx y hy).1; omega
  rw [h6] at h5
  exact h5 (hr _ h3)
theorem commute {p : Prg} (hp : FitP p) {k1 m1 : Int} (hk : tOK p k1 = true) (hm : tOK p m1 = true) (ha : apart p k1 m1 = true) {s : List W} (h1 : stepO p k1 s = true) (h2 : stepO p m1 s = true) :
    stepO p m1 (stepT p k1 s) = true ∧ stepO p k1 (stepT p m1 s) = true ∧ stepT p m1 (stepT p k1 s) = stepT p k1 (stepT p m1 s) := by
  simp only [apart, Bool.and_eq_true, Bool.not_eq_true'] at ha
  obtain ⟨a1, a2, a3⟩ := ha
  obtain ⟨hw, hv, _, _, hfk, hkk, hxk⟩ := good_cmd hp hk
  obtain ⟨_, _, _, _, hfm, hkm, hxm⟩ := good_cmd hp hm
  have ek : stepT p k1 s = afterS p.wide s (cmdAt p k1).ch s := by unfold stepT; rw [h1]; rfl
  have em : stepT p m1 s = afterS p.wide s (cmdAt p m1).ch s := by unfold stepT; rw [h2]; rfl
  simp only [stepO, Bool.and_eq_true] at h1 h2
  obtain ⟨hs, hg⟩ := (stOK_of hw).1 h1.1
  have oks : ∀ ch : List Chg, (∀ x ∈ ch, kindT p.wide p.vars x.by1 = 1) → stOK p (afterS p.wide s ch s) = true := fun ch hc => (stOK_of hw).2 ⟨by rw [afterS_length]; exact hs, afterS_all hs hg ch s hc hg⟩
  have okk := oks _ fun x h => (hxk x h).2.2
  have okm := oks _ fun x h => (hxm x h).2.2
  have vm := fun t hg hr => apart_val hp hk hm a1 s (t := t) hg hr
  have vk := fun t hg hr => apart_val hp hm hk a3 s (t := t) hg hr
  have hwm := vm (cmdAt p m1).wh (kind_good (by omega)) fun v hv => (readsOf_mem _ _).2 (.inl hv)
  have hwk := vk (cmdAt p k1).wh (kind_good (by omega)) fun v hv => (readsOf_mem _ _).2 (.inl hv)
  have hbm : ∀ x ∈ (cmdAt p m1).ch, valD p.wide (afterS p.wide s (cmdAt p k1).ch s) x.by1 = valD p.wide s x.by1 := fun x hx => vm x.by1 (kind_good (by have := (hxm x hx).2.2; omega)) fun v hv => (readsOf_mem _ _).2 (.inr (readsCh_mem _ x v hx hv))
  have hbk : ∀ x ∈ (cmdAt p k1).ch, valD p.wide (afterS p.wide s (cmdAt p m1).ch s) x.by1 = valD p.wide s x.by1 := fun x hx => vk x.by1 (kind_good (by have := (hxk x hx).2.2; omega)) fun v hv => (readsOf_mem _ _).2 (.inr (readsCh_mem _ x v hx hv))
  have o1 : stepO p m1 (stepT p k1 s) = true := by
    rw [ek, stepO, okk, Bool.true_and, holdC, hwm]
    exact h2.2
  have o2 : stepO p k1 (stepT p m1 s) = true := by
    rw [em, stepO, okm, Bool.true_and, holdC, hwk]
    exact h1.2
  refine ⟨o1, o2, ?_⟩
  unfold stepT at o1 o2 ⊢
  rw [show (bif stepO p m1 (bif stepO p k1 s then afterS p.wide s (cmdAt p k1).ch s else []) then _ else []) = afterS p.wide (bif stepO p k1 s then afterS p.wide s (cmdAt p k1).ch s else []) (cmdAt p m1).ch (bif stepO p k1 s then afterS p.wide s (cmdAt p k1).ch s else []) by rw [o1]; rfl]
  rw [show (bif stepO p k1 (bif stepO p m1 s then afterS p.wide s (cmdAt p m1).ch s else []) then _ else []) = afterS p.wide (bif stepO p m1 s then afterS p.wide s (cmdAt p m1).ch s else []) (cmdAt p k1).ch (bif stepO p m1 s then afterS p.wide s (cmdAt p m1).ch s else []) by rw [o2]; rfl]
  have ek' : (bif stepO p k1 s then afterS p.wide s (cmdAt p k1).ch s else []) = afterS p.wide s (cmdAt p k1).ch s := ek
  have em' : (bif stepO p m1 s then afterS p.wide s (cmdAt p m1).ch s else []) = afterS p.wide s (cmdAt p m1).ch s := em
  rw [ek', em', afterS_vals _ _ hbm, afterS_vals _ _ hbk]
  refine afterS_comm p.wide s _ _ s fun x hx y hy e => ?_
  have h5 := meetI_false a2 x.v (List.mem_map.2 ⟨x, hx, rfl⟩)
  have h6 : x.v = y.v := by have := (hxk x hx).1; have := (hxm y hy).1; omega
  exact h5 (h6 ▸ List.mem_map.2 ⟨y, hy, rfl⟩)

/-! ### The law -/
theorem stepT_len {p : Prg} (hp : FitP p) (k1 : Int) (s : List W) (hs : s.length ≤ 1000) : (stepT p k1 s).length ≤ 1000 := by
  unfold stepT
  cases stepO p k1 s
  · simp
  · simp only [cond_true, afterS_length]; exact hs
end Go.Proofs.YtclkgblckicabaaGreat
/- FnPlayed: commands that are played. -/
set_option linter.unusedVariables false
set_option linter.unusedSimpArgs false
set_option maxRecDepth 4000
namespace Go.Proofs.YtclkgblckicabaaGreat
open Go.Dp

def encWW (l : List (List W)) : List PV := l.map fun t => .row 0 0 (encW t)
@[simp] theorem encWW_length (l : List (List W)) : (encWW l).length = l.length := by simp [encWW]
theorem encWW_get (l : List (List W)) (i : Nat) : (encWW l)[i]? = (l[i]?).map fun t => .row 0 0 (encW t) := by simp [encWW]
theorem encWW_snoc (l : List (List W)) (x : List W) : encWW l ++ [.row 0 0 (encW x)] = encWW (l ++ [x]) := by simp [encWW]
def encBo (l : List Bool) : List PV := l.map PV.bool
@[simp] theorem encBo_length (l : List Bool) : (encBo l).length = l.length := by simp [encBo]
theorem encBo_get (l : List Bool) (i : Nat) : (encBo l)[i]? = (l[i]?).map PV.bool := by simp [encBo]
theorem encBo_snoc (l : List Bool) (x : Bool) : encBo l ++ [.bool x] = encBo (l ++ [x]) := by simp [encBo]
/-! ### One command -/
def pO (p : Prg) (k1 : Int) (s : List W) : Bool := stOK p s && (cnoOK p k1 && holdC p (cmdAt p k1) s)
def pT (p : Prg) (k1 : Int) (s : List W) : List W := bif pO p k1 s then afterS p.wide s (cmdAt p k1).ch s else []
def nx (p : Prg) (k1 : Int) (s : List W) : List W := bif pO p k1 s then afterS p.wide s (cmdAt p k1).ch s else s
theorem stepA_ok {k : Nat} (hk : 1000300 ≤ k) (p : Prg) (hp : FitP p) (k1 : Int) (hg : goodP p = true) (s : List W) (hsl : s.length ≤ 1000) :
    c32 k p.wide p.vars (encT p.start) (encCms p.cmds) (encW s) k1 = r32 (encW (pT p k1 s)) (pO p k1 s) := by
  cases hn : cnoOK p k1
  · obtain ⟨k, rfl⟩ : ∃ j, k = j + 1 := ⟨k - 1, by omega⟩
    rw [n32, isStateOf_ok (by omega) p hp s (by omega), hg, cno_ok (by omega), hn]
    simp only [R135_r, R136_r, Bool.true_and]
    unfold pT pO
    rw [hn]
    cases stOK p s <;> rfl
  · rw [stepG_ok hk p hp k1 (by simp [tOK, hg, hn]) s hsl]
    unfold stepT stepO pT pO
    rw [hn, Bool.true_and]
theorem good_all {p : Prg} (hg : goodP p = true) : kindT p.wide p.vars p.start = 2 ∧ ∀ c ∈ p.cmds, kindT p.wide p.vars c.wh = 2 := by
  simp only [goodP, Bool.and_eq_true, List.all_eq_true, beq_iff_eq] at hg
  refine ⟨hg.1.1.1, fun c hc => ?_⟩
  have := hg.2 c hc
  simp only [goodCmd, Bool.and_eq_true, beq_iff_eq] at this
  exact this.1
theorem pO_get {p : Prg} {k1 : Int} {s : List W} (h : pO p k1 s = true) : stOK p s = true ∧ cnoOK p k1 = true ∧ holdC p (cmdAt p k1) s = true := by
  simp only [pO, Bool.and_eq_true] at h
  exact ⟨h.1, h.2.1, h.2.2⟩
theorem nx_ok {p : Prg} (hp : FitP p) (hg : goodP p = true) {s : List W} (hs : stOK p s = true) (k1 : Int) : stOK p (nx p k1 s) = true := by
  unfold nx
  cases h : pO p k1 s
  · exact hs
  · obtain ⟨_, hn, _⟩ := pO_get h
    obtain ⟨hw, hv, _, _, _, _, hx⟩ := good_cmd hp (k1 := k1) (by simp [tOK, hg, hn])
    obtain ⟨h1, h2⟩ := (stOK_of hw).1 hs
    exact (stOK_of hw).2 ⟨by rw [cond_true, afterS_length]; exact h1, afterS_all h1 h2 _ s (fun x h => (hx x h).2.2) h2⟩
theorem st_len {p : Prg} (hp : FitP p) {s : List W} (hs : stOK p s = true) : s.length ≤ 5 := by
  simp only [stOK, Bool.and_eq_true, decide_eq_true_eq] at hs
  have := hp.v
  omega
def holdT (p : Prg) (t : List Nd) (s : List W) : Bool := valD p.wide s t == 1#64
theorem holdsI_ok {k : Nat} (hk : 1000010 ≤ k) (p : Prg) (hg : goodP p = true) (l1 l2 : List PV) (t : List Nd) (ht : t.length ≤ 100) (hkt : kindT p.wide p.vars t = 2) (s : List W) (hs : stOK p s = true) : c137 k p.wide p.vars l1 l2 (encT t) (encW s) = r137 (holdT p t s) := by
  obtain ⟨k, rfl⟩ : ∃ j, k = j + 1 := ⟨k - 1, by omega⟩
  obtain ⟨hw, hv⟩ := goodP_size hg
  obtain ⟨h1, h2⟩ := (stOK_of hw).1 hs
  obtain ⟨hval, _⟩ := kind_val hkt (by omega) h1 h2
  rw [n137, valueOf_ok (by omega) hw s _ (by omega) hval]
  simp only [R122_r]
  have e : (1 : Int) = wi 1#64 := rfl
  rw [e, wi_beq]
  rfl
def enL (p : Prg) (s : List W) : Nat → List Cmd → List Int
  | _, [] => []
  | i, c :: l => (bif holdT p c.wh s then [(i : Int)] else []) ++ enL p s (i + 1) l
theorem enL_mem (p : Prg) (s : List W) : ∀ (l : List Cmd) (i : Nat) (v : Int), v ∈ enL p s i l ↔ ∃ j c, l[j]? = some c ∧ holdT p c.wh s = true ∧ v = ((i + j : Nat) : Int)
  | [], i, v => by simp [enL]
  | c :: l, i, v => by
    simp only [enL, List.mem_append, enL_mem p s l (i + 1) v]
    constructor
    · rintro (h | ⟨j, c', h1, h2, h3⟩)
      · cases hh : holdT p c.wh s
        · rw [hh] at h; simp at h
        · rw [hh] at h
          simp at h
          exact ⟨0, c, rfl, hh, by simp [h]⟩
      · exact ⟨j + 1, c', by simpa using h1, h2, by rw [h3]; omega⟩
    · rintro ⟨j, c', h1, h2, h3⟩
      cases j with
      | zero =>
        simp at h1
        subst h1
        left
        rw [h2, h3]
        simp
      | succ j => exact .inr ⟨j, c', by simpa using h1, h2, by rw [h3]; omega⟩
theorem enL_len (p : Prg) (s : List W) : ∀ (l : List Cmd) (i : Nat), (enL p s i l).length ≤ l.length
  | [], i => by simp [enL]
  | c :: l, i => by
    have := enL_len p s l (i + 1)
    simp only [enL, List.length_append, List.length_cons]
    cases holdT p c.wh s <;> simp <;> omega
theorem enL_has (p : Prg) (s : List W) (k1 : Int) : (enL p s 0 p.cmds).contains k1 = (cnoOK p k1 && holdC p (cmdAt p k1) s) := by
  rw [Bool.eq_iff_iff, List.contains_iff_mem, enL_mem]
  simp only [Bool.and_eq_true, cnoOK, decide_eq_true_eq]
  constructor
  · rintro ⟨j, c, h1, h2, h3⟩
    have hj := (List.getElem?_eq_some_iff.1 h1).1
    have e : k1.toNat = j := by omega
    refine ⟨by omega, ?_⟩
    unfold cmdAt
    rw [e, h1]
    exact h2
  · rintro ⟨⟨h1, h2⟩, h3⟩
    have hlt : k1.toNat < p.cmds.length := by omega
    refine ⟨k1.toNat, p.cmds[k1.toNat], List.getElem?_eq_getElem hlt, ?_, by omega⟩
    unfold cmdAt at h3
    rw [List.getElem?_eq_getElem hlt] at h3
    exact h3
/-! ### Many commands -/
def playT (p : Prg) : List W → List Int → List (List W)
  | _, [] => []
  | s, k1 :: l => nx p k1 s :: playT p (nx p k1 s) l
def playD (p : Prg) : List W → List Int → List Bool
  | _, [] => []
  | s, k1 :: l => pO p k1 s :: playD p (nx p k1 s) l
theorem playT_len (p : Prg) : ∀ (l : List Int) (s : List W), (playT p s l).length = l.length ∧ (playD p s l).length = l.length
  | [], s => ⟨rfl, rfl⟩
  | k1 :: l, s => by
    have := playT_len p l (nx p k1 s)
    simp only [playT, playD, List.length_cons]
    omega
def plOK (p : Prg) (s : List W) (ks : List Int) : Bool := goodP p && stOK p s && decide (ks.length ≤ 60)
end Go.Proofs.YtclkgblckicabaaGreat
/- FnSettled: rounds of spans; the law. -/
set_option linter.unusedVariables false
set_option linter.unusedSimpArgs false
set_option linter.unusedSectionVars false
set_option maxRecDepth 4000
namespace Go.Proofs.YtclkgblckicabaaGreat
open Go.Dp

theorem sameSp_loop {k : Nat} (a b : List (Spn)) (hl : a.length = b.length) (ha : a.length ≤ 1000000) : ∀ (n i : Nat), a.length - i < n → i ≤ a.length → L29_1 k n (encSp a) (encSp b) (a.length : Int) (i : Int) = r29 (decide (a.drop i = b.drop i))
  | 0, i, h, hi => by omega
  | n + 1, i, h, hi => by
    rw [sL29_1]
    by_cases hlt : i < a.length
    · have hd : decide ((i : Int) < (a.length : Int)) = true := by simpa using hlt
      have hnext : IntKind.i64.wrap ((i : Int) + 1) = ((i + 1 : Nat) : Int) := by rw [i64_id (by omega) (by omega)]; omega
      rw [hd, lookSp hlt, lookSp (l := b) (i := i) (by omega), drop_cons hlt, drop_cons (l := b) (by omega), hnext]
      simp only [cond_true, Option.bind_some, encS_shp, encS_lo, encS_hi, wi_beq, Bool.and_true, prod_beq, List.cons.injEq, Bool.decide_and]
      by_cases he : a[i] = b[i]
      · have e1 : (!decide (a[i] = b[i])) = false := by simp [he]
        have e2 : decide (a[i] = b[i]) = true := by simpa using he
        rw [e1, e2]
        simp only [cond_false, Bool.true_and]
        exact sameSp_loop a b hl ha n (i + 1) (by omega) (by omega)
      · have e1 : (!decide (a[i] = b[i])) = true := by
          simpa using he
        have e2 : decide (a[i] = b[i]) = false := by simpa using he
        rw [e1, e2]; rfl
    · have hd : decide ((i : Int) < (a.length : Int)) = false := by simpa using hlt
      rw [hd, List.drop_eq_nil_of_le (by omega), List.drop_eq_nil_of_le (by omega)]
      rfl
theorem sameSp_ok {k : Nat} (hk : 1000010 ≤ k) (a b : List (Spn)) (ha : a.length ≤ 1000000) : c29 k (encSp a) (encSp b) = r29 (decide (a = b)) := by
  obtain ⟨k, rfl⟩ : ∃ j, k = j + 1 := ⟨k - 1, by omega⟩
  rw [n29, encSp_length, encSp_length]
  by_cases hl : a.length = b.length
  · have e : ((a.length : Int) != (b.length : Int)) = false := by simp [hl]
    rw [e]
    exact sameSp_loop (k := k) a b hl ha k 0 (by omega) (by omega)
  · have e : ((a.length : Int) != (b.length : Int)) = true := by simp; omega
    have e2 : decide (a = b) = false := by simp; intro h; exact hl (by rw [h])
    rw [e, e2]; rfl
theorem eqSp_loop {k : Nat} (a b : List (Spn)) (hl : a.length = b.length) (ha : a.length ≤ 1000000) : ∀ (n i : Nat), a.length - i < n → i ≤ a.length → L132_1 k n (encSp a) (encSp b) (a.length : Int) (i : Int) = r132 (decide (a.drop i = b.drop i))
  | 0, i, h, hi => by omega
  | n + 1, i, h, hi => by
    rw [sL132_1]
    by_cases hlt : i < a.length
    · have hd : decide ((i : Int) < (a.length : Int)) = true := by simpa using hlt
      have hnext : IntKind.i64.wrap ((i : Int) + 1) = ((i + 1 : Nat) : Int) := by rw [i64_id (by omega) (by omega)]; omega
      rw [hd, lookSp hlt, lookSp (l := b) (i := i) (by omega), drop_cons hlt, drop_cons (l := b) (by omega), hnext]
      simp only [cond_true, Option.bind_some, encS_shp, encS_lo, encS_hi, wi_beq, Bool.and_true, prod_beq, List.cons.injEq, Bool.decide_and]
      by_cases he : a[i] = b[i]
      · have e1 : (!decide (a[i] = b[i])) = false := by simp [he]
        have e2 : decide (a[i] = b[i]) = true := by simpa using he
        rw [e1, e2]
        simp only [cond_false, Bool.true_and]
        exact eqSp_loop a b hl ha n (i + 1) (by omega) (by omega)
      · have e1 : (!decide (a[i] = b[i])) = true := by
          simpa using he
        have e2 : decide (a[i] = b[i]) = false := by simpa using he
        rw [e1, e2]; rfl
    · have hd : decide ((i : Int) < (a.length : Int)) = false := by simpa using hlt
      rw [hd, List.drop_eq_nil_of_le (by omega), List.drop_eq_nil_of_le (by omega)]
      rfl
theorem eqSp_ok {k : Nat} (hk : 1000010 ≤ k) (a b : List (Spn)) (ha : a.length ≤ 1000000) : c132 k (encSp a) (encSp b) = r132 (decide (a = b)) := by
  obtain ⟨k, rfl⟩ : ∃ j, k = j + 1 := ⟨k - 1, by omega⟩
  rw [n132, encSp_length, encSp_length]
  by_cases hl : a.length = b.length
  · have e : ((a.length : Int) != (b.length : Int)) = false := by simp [hl]
    rw [e]
    exact eqSp_loop (k := k) a b hl ha k 0 (by omega) (by omega)
  · have e : ((a.length : Int) != (b.length : Int)) = true := by simp; omega
    have e2 : decide (a = b) = false := by simp; intro h; exact hl (by rw [h])
    rw [e, e2]; rfl
def zeroS (x : Spn) : Bool := x.2 == 0#64
theorem zeroI {wide : Int} {x : Spn} (h : GdS wide x) : ((wi x.1 == 0) && ((wi x.2 == 0) && true)) = zeroS x := by
  have h1 := h.le
  rw [z_wi, wi_beq, wi_beq]
  unfold zeroS
  by_cases h2 : x.2 = 0#64
  · have h3 : x.1 = 0#64 := BitVec.eq_of_toNat_eq (by rw [h2] at h1; simpa using h1)
    simp [h2, h3]
  · have : (x.2 == 0#64) = false := by simpa using h2
    simp [this]
theorem zeroSp (x : Spn) : (wi x.2 == 0) = zeroS x := by rw [z_wi, wi_beq]; rfl
noncomputable def chgS (p : Prg) (sp : List Spn) : List Chg → List Spn → List Spn
  | [], o => o
  | x :: l, o => chgS p sp l (o.set x.v.toNat (joinS ((o[x.v.toNat]?).getD (0#64, 0#64)) (spanT p.wide p.vars sp x.by1)))
noncomputable def cmdS (p : Prg) (sp : List Spn) : List Cmd → List Spn → List Spn
  | [], o => o
  | c :: l, o => cmdS p sp l (bif zeroS (spanT p.wide p.vars sp c.wh) then o else chgS p sp c.ch o)
noncomputable def roundS (p : Prg) (sp : List Spn) : List Spn := cmdS p sp p.cmds sp
theorem chgS_length (p : Prg) (sp : List Spn) : ∀ (l : List Chg) (o : List Spn), (chgS p sp l o).length = o.length
  | [], o => rfl
  | x :: l, o => by rw [chgS, chgS_length p sp l, List.length_set]
theorem cmdS_length (p : Prg) (sp : List Spn) : ∀ (l : List Cmd) (o : List Spn), (cmdS p sp l o).length = o.length
  | [], o => rfl
  | c :: l, o => by
    rw [cmdS, cmdS_length p sp l]
    cases zeroS (spanT p.wide p.vars sp c.wh)
    · exact chgS_length p sp _ _
    · rfl
structure SpOK (p : Prg) (sp : List Spn) : Prop where
  g : goodP p = true
  len : (sp.length : Int) = p.vars
  gd : ∀ x ∈ sp, GdS p.wide x
theorem goodC {p : Prg} (hg : goodP p = true) : ∀ c ∈ p.cmds, goodT p.wide p.vars c.wh = true ∧ ∀ x ∈ c.ch, 0 ≤ x.v ∧ x.v < p.vars ∧ goodT p.wide p.vars x.by1 = true := by
  intro c hc
  simp only [goodP, Bool.and_eq_true, List.all_eq_true] at hg
  have := hg.2 c hc
  simp only [goodCmd, Bool.and_eq_true, beq_iff_eq] at this
  exact ⟨kind_good (by omega), fun x hx => ⟨(goodChs_mem this.2 x hx).1, (goodChs_mem this.2 x hx).2.1, kind_good (by have := (goodChs_mem this.2 x hx).2.2; omega)⟩⟩
theorem joinS_gd {wide : Int} {a b : Spn} (ha : GdS wide a) (hb : GdS wide b) : GdS wide (joinS a b) := by
  have h1 := ha.le
  have h2 := ha.top
  have h3 := hb.le
  have h4 := hb.top
  exact ⟨by show (loW a.1 b.1).toNat ≤ (hiW a.2 b.2).toNat; rw [loW_nat, hiW_nat]; omega, by show (hiW a.2 b.2).toNat ≤ _; rw [hiW_nat]; omega⟩
theorem chgS_gd {p : Prg} {sp : List Spn} (h : SpOK p sp) : ∀ (l : List Chg) (o : List Spn), (∀ x ∈ l, 0 ≤ x.v ∧ x.v < p.vars ∧ goodT p.wide p.vars x.by1 = true) → (o.length : Int) = p.vars → (∀ x ∈ o, GdS p.wide x) → ∀ x ∈ chgS p sp l o, GdS p.wide x
  | [], o, hl, ho, hg => hg
  | x :: l, o, hl, ho, hg => by
    obtain ⟨h1, h2, h3⟩ := hl x (by simp)
    obtain ⟨hw, hv⟩ := goodP_size h.g
    refine chgS_gd h l _ (fun y hy => hl y (by simp [hy])) (by simpa using ho) fun y hy => ?_
    rcases List.mem_or_eq_of_mem_set hy with hy | rfl
    · exact hg y hy
    · have hlt : x.v.toNat < o.length := by omega
      rw [List.getElem?_eq_getElem hlt]
      exact joinS_gd (hg _ (List.getElem_mem hlt)) (spanT_gd hw hv h.len h.gd h3)
theorem cmdS_gd {p : Prg} {sp : List Spn} (h : SpOK p sp) : ∀ (l : List Cmd) (o : List Spn), (∀ c ∈ l, c ∈ p.cmds) → (o.length : Int) = p.vars → (∀ x ∈ o, GdS p.wide x) → ∀ x ∈ cmdS p sp l o, GdS p.wide x
  | [], o, hl, ho, hg => hg
  | c :: l, o, hl, ho, hg => by
    rw [cmdS]
    cases zeroS (spanT p.wide p.vars sp c.wh)
    · exact cmdS_gd h l _ (fun y hy => hl y (by simp [hy])) (by rw [cond_false, chgS_length]; exact ho) (chgS_gd h _ _ (goodC h.g c (hl c (by simp))).2 ho hg)
    · exact cmdS_gd h l _ (fun y hy => hl y (by simp [hy])) ho hg
theorem roundS_ok {p : Prg} {sp : List Spn} (h : SpOK p sp) : SpOK p (roundS p sp) :=
  ⟨h.g, by unfold roundS; rw [cmdS_length]; exact h.len, cmdS_gd h _ _ (fun c hc => hc) h.len h.gd⟩
section rounds
variable {k : Nat} (hk : 3000 ≤ k) {p : Prg} (hp : FitP p) {sp : List Spn} (h : SpOK p sp)
include hk hp h
theorem rndI_loop2 (n1 i : Nat) (l1 l2 : List PV) (t13 : List PV) (t14 : Int) (ch : List Chg) (hcl : ch.length ≤ 100) (hch : ∀ x ∈ ch, 0 ≤ x.v ∧ x.v < p.vars ∧ goodT p.wide p.vars x.by1 = true) : ∀ (n j : Nat) (o : List Spn), ch.length - j < n → j ≤ ch.length → o.length = sp.length →
    L131_2 k n1 n (encSp sp) o.length t13 t14 (i : Int) (encChs ch) (ch.length : Int) (j : Int) p.wide p.vars l1 l2 (encSp o) = L131_1 k n1 (encSp sp) (chgS p sp (ch.drop j) o).length t13 t14 (IntKind.i64.wrap ((i : Int) + 1)) p.wide p.vars l1 l2 (encSp (chgS p sp (ch.drop j) o))
  | 0, j, o, hn, hj, ho => by omega
  | n + 1, j, o, hn, hj, ho => by
    obtain ⟨hw, hv⟩ := goodP_size h.g
    have hlen := h.len
    rw [sL131_2]
    by_cases hlt : j < ch.length
    · have hd : decide ((j : Int) < (ch.length : Int)) = true := by simpa using hlt
      have hnext : IntKind.i64.wrap ((j : Int) + 1) = ((j + 1 : Nat) : Int) := by rw [i64_id (by omega) (by omega)]; omega
      obtain ⟨h1, h2, h3⟩ := hch _ (List.getElem_mem hlt)
      have hin : (decide ((0 : Int) ≤ ch[j].v) && decide (ch[j].v < (o.length : Int))) = true := by simp; omega
      have hvl : ch[j].v.toNat < o.length := by omega
      have hget : (encSp o)[0 + ch[j].v.toNat]? = some (encS o[ch[j].v.toNat]) := by rw [Nat.zero_add, encSp_get, List.getElem?_eq_getElem hvl]; rfl
      rw [hd, lookP_nat, encChs_get, List.getElem?_eq_getElem hlt, drop_cons hlt, hnext]
      simp only [cond_true, Option.map_some, Option.bind_some, encCh_shp, encCh_v, encCh_by]
      rw [hin, hget]
      simp only [cond_true, Option.bind_some, encS_shp, encS_lo, encS_hi, encT_length]
      rw [spanI_ok (by omega) hw hv h.len h.gd h3]
      simp only [R237_r]
      rw [joinI_ok (by omega)]
      simp only [R238_r, encS_mk]
      have := rndI_loop2 n1 i l1 l2 t13 t14 ch hcl hch n (j + 1) (o.set ch[j].v.toNat (joinS o[ch[j].v.toNat] (spanT p.wide p.vars sp ch[j].by1))) (by omega) (by omega) (by simpa using ho)
      rw [List.length_set] at this
      rw [Nat.zero_add, encSp_set, this, chgS, List.getElem?_eq_getElem hvl]
      rfl
    · have hd : decide ((j : Int) < (ch.length : Int)) = false := by simpa using hlt
      rw [hd, List.drop_eq_nil_of_le (by omega)]
      rfl
theorem rndI_loop1 (l1 l2 : List PV) : ∀ (n i : Nat) (o : List Spn), p.cmds.length - i < n → i ≤ p.cmds.length → o.length = sp.length →
    L131_1 k n (encSp sp) o.length (encCms p.cmds) (p.cmds.length : Int) (i : Int) p.wide p.vars l1 l2 (encSp o) = r131 (encSp (cmdS p sp (p.cmds.drop i) o))
  | 0, i, o, hn, hi, ho => by omega
  | n + 1, i, o, hn, hi, ho => by
    obtain ⟨hw, hv⟩ := goodP_size h.g
    have hcm := hp.cm
    rw [sL131_1]
    by_cases hlt : i < p.cmds.length
    · have hd : decide ((i : Int) < (p.cmds.length : Int)) = true := by simpa using hlt
      have hnext : IntKind.i64.wrap ((i : Int) + 1) = ((i + 1 : Nat) : Int) := by rw [i64_id (by omega) (by omega)]; omega
      have hm := List.getElem_mem hlt
      obtain ⟨h1, h2⟩ := goodC h.g _ hm
      have hcl := (hp.c _ hm).ch
      rw [hd, lookP_nat, encCms_get, List.getElem?_eq_getElem hlt, drop_cons hlt]
      simp only [cond_true, Option.map_some, Option.bind_some, encCm_shp, encCm_wh, encCm_ch, encT_length]
      rw [spanI_ok (by omega) hw hv h.len h.gd h1]
      simp only [R237_r, encChs_length]
      rw [zeroI (spanT_gd hw hv h.len h.gd h1), cmdS]
      cases zeroS (spanT p.wide p.vars sp p.cmds[i].wh)
      · simp only [cond_false]
        have h2l := rndI_loop2 hk hp h n i l1 l2 (encCms p.cmds) (p.cmds.length : Int) p.cmds[i].ch (by omega) h2 k 0 o (by omega) (by omega) ho
        have h' : L131_2 k n k (encSp sp) o.length (encCms p.cmds) (p.cmds.length : Int) (i : Int) (encChs p.cmds[i].ch) (p.cmds[i].ch.length : Int) 0 p.wide p.vars l1 l2 (encSp o) = _ := h2l
        rw [h', hnext, List.drop_zero]
        exact rndI_loop1 l1 l2 n (i + 1) _ (by omega) (by omega) (by rw [chgS_length]; exact ho)
      · simp only [cond_true]
        rw [hnext]
        exact rndI_loop1 l1 l2 n (i + 1) o (by omega) (by omega) ho
    · have hd : decide ((i : Int) < (p.cmds.length : Int)) = false := by simpa using hlt
      have etk : (encSp o).take o.length = encSp o := by rw [List.take_of_length_le (by simp)]
      rw [hd, List.drop_eq_nil_of_le (by omega), etk]
      rfl
theorem rndS_loop2 (n1 i : Nat) (l1 l2 : List PV) (t13 : List PV) (t14 : Int) (ch : List Chg) (hcl : ch.length ≤ 100) (hch : ∀ x ∈ ch, 0 ≤ x.v ∧ x.v < p.vars ∧ goodT p.wide p.vars x.by1 = true) : ∀ (n j : Nat) (o : List Spn), ch.length - j < n → j ≤ ch.length → o.length = sp.length →
    L134_2 k n1 n (encSp sp) o.length t13 t14 (i : Int) (encChs ch) (ch.length : Int) (j : Int) p.wide p.vars l1 l2 (encSp o) = L134_1 k n1 (encSp sp) (chgS p sp (ch.drop j) o).length t13 t14 (IntKind.i64.wrap ((i : Int) + 1)) p.wide p.vars l1 l2 (encSp (chgS p sp (ch.drop j) o))
  | 0, j, o, hn, hj, ho => by omega
  | n + 1, j, o, hn, hj, ho => by
    obtain ⟨hw, hv⟩ := goodP_size h.g
    have hlen := h.len
    rw [sL134_2]
    by_cases hlt : j < ch.length
    · have hd : decide ((j : Int) < (ch.length : Int)) = true := by simpa using hlt
      have hnext : IntKind.i64.wrap ((j : Int) + 1) = ((j + 1 : Nat) : Int) := by rw [i64_id (by omega) (by omega)]; omega
      obtain ⟨h1, h2, h3⟩ := hch _ (List.getElem_mem hlt)
      have hin : (decide ((0 : Int) ≤ ch[j].v) && decide (ch[j].v < (o.length : Int))) = true := by simp; omega
      have hvl : ch[j].v.toNat < o.length := by omega
      have hget : (encSp o)[0 + ch[j].v.toNat]? = some (encS o[ch[j].v.toNat]) := by rw [Nat.zero_add, encSp_get, List.getElem?_eq_getElem hvl]; rfl
      rw [hd, lookP_nat, encChs_get, List.getElem?_eq_getElem hlt, drop_cons hlt, hnext]
      simp only [cond_true, Option.map_some, Option.bind_some, encCh_shp, encCh_v, encCh_by]
      rw [hin, hget]
      simp only [cond_true, Option.bind_some, encS_shp, encS_lo, encS_hi, encT_length]
      rw [spanS_ok (by omega) hw hv h.len h.gd h3]
      simp only [R239_r]
      rw [joinSS_ok (by omega)]
      simp only [R240_r, encS_mk]
      have := rndS_loop2 n1 i l1 l2 t13 t14 ch hcl hch n (j + 1) (o.set ch[j].v.toNat (joinS o[ch[j].v.toNat] (spanT p.wide p.vars sp ch[j].by1))) (by omega) (by omega) (by simpa using ho)
      rw [List.length_set] at this
      rw [Nat.zero_add, encSp_set, this, chgS, List.getElem?_eq_getElem hvl]
      rfl
    · have hd : decide ((j : Int) < (ch.length : Int)) = false := by simpa using hlt
      rw [hd, List.drop_eq_nil_of_le (by omega)]
      rfl
theorem rndS_loop1 (l1 l2 : List PV) : ∀ (n i : Nat) (o : List Spn), p.cmds.length - i < n → i ≤ p.cmds.length → o.length = sp.length →
    L134_1 k n (encSp sp) o.length (encCms p.cmds) (p.cmds.length : Int) (i : Int) p.wide p.vars l1 l2 (encSp o) = r134 (encSp (cmdS p sp (p.cmds.drop i) o))
  | 0, i, o, hn, hi, ho => by omega
  | n + 1, i, o, hn, hi, ho => by
    obtain ⟨hw, hv⟩ := goodP_size h.g
    have hcm := hp.cm
    rw [sL134_1]
    by_cases hlt : i < p.cmds.length
    · have hd : decide ((i : Int) < (p.cmds.length : Int)) = true := by simpa using hlt
      have hnext : IntKind.i64.wrap ((i : Int) + 1) = ((i + 1 : Nat) : Int) := by rw [i64_id (by omega) (by omega)]; omega
      have hm := List.getElem_mem hlt
      obtain ⟨h1, h2⟩ := goodC h.g _ hm
      have hcl := (hp.c _ hm).ch
      rw [hd, lookP_nat, encCms_get, List.getElem?_eq_getElem hlt, drop_cons hlt]
      simp only [cond_true, Option.map_some, Option.bind_some, encCm_shp, encCm_wh, encCm_ch, encT_length]
      rw [spanS_ok (by omega) hw hv h.len h.gd h1]
      simp only [R239_r, encChs_length]
      rw [zeroSp, cmdS]
      cases zeroS (spanT p.wide p.vars sp p.cmds[i].wh)
      · simp only [cond_false]
        have h2l := rndS_loop2 hk hp h n i l1 l2 (encCms p.cmds) (p.cmds.length : Int) p.cmds[i].ch (by omega) h2 k 0 o (by omega) (by omega) ho
        have h' : L134_2 k n k (encSp sp) o.length (encCms p.cmds) (p.cmds.length : Int) (i : Int) (encChs p.cmds[i].ch) (p.cmds[i].ch.length : Int) 0 p.wide p.vars l1 l2 (encSp o) = _ := h2l
        rw [h', hnext, List.drop_zero]
        exact rndS_loop1 l1 l2 n (i + 1) _ (by omega) (by omega) (by rw [chgS_length]; exact ho)
      · simp only [cond_true]
        rw [hnext]
        exact rndS_loop1 l1 l2 n (i + 1) o (by omega) (by omega) ho
    · have hd : decide ((i : Int) < (p.cmds.length : Int)) = false := by simpa using hlt
      have etk : (encSp o).take o.length = encSp o := by rw [List.take_of_length_le (by simp)]
      rw [hd, List.drop_eq_nil_of_le (by omega), etk]
      rfl
end rounds
theorem roundI_ok {k : Nat} (hk : 3010 ≤ k) {p : Prg} (hp : FitP p) {sp : List Spn} (h : SpOK p sp) (l1 : List PV) : c131 k p.wide p.vars l1 (encCms p.cmds) (encSp sp) = r131 (encSp (roundS p sp)) := by
  obtain ⟨k, rfl⟩ : ∃ j, k = j + 2 := ⟨k - 2, by omega⟩
  have hv := hp.v
  have hl := h.len
  have hcm := hp.cm
  have hcl : c130 (k + 1) (encSp sp) = r130 (encSp sp) := n130 k _ (by simp [LIM]; omega) (by simp [LIM]; omega)
  rw [n131, hcl]
  simp only [R130_r, encSp_length, encCms_length]
  exact rndI_loop1 (k := k + 1) (by omega) hp h l1 (encCms p.cmds) (k + 1) 0 sp (by omega) (by omega) rfl
theorem roundSS_ok {k : Nat} (hk : 3010 ≤ k) {p : Prg} (hp : FitP p) {sp : List Spn} (h : SpOK p sp) (l1 : List PV) : c134 k p.wide p.vars l1 (encCms p.cmds) (encSp sp) = r134 (encSp (roundS p sp)) := by
  obtain ⟨k, rfl⟩ : ∃ j, k = j + 1 := ⟨k - 1, by omega⟩
  have hv := hp.v
  have hl := h.len
  have hcm := hp.cm
  rw [n134, encSp_length, encCms_length, Nat.zero_add, lim_ok (by omega) (by omega)]
  simp only [cond_true, List.nil_append]
  exact rndS_loop1 (k := k) (by omega) hp h l1 (encCms p.cmds) k 0 sp (by omega) (by omega) rfl
def forOK (p : Prg) (sp : List Spn) : Bool := goodP p && (decide ((sp.length : Int) = p.vars) && spansB p.wide sp)
theorem forOK_get {p : Prg} {sp : List Spn} (h : forOK p sp = true) : SpOK p sp := by
  simp only [forOK, Bool.and_eq_true, decide_eq_true_eq] at h
  exact ⟨h.1, h.2.1, ((spansB_iff (goodP_size h.1).1).1 h.2.2).2⟩
theorem forOK_of {p : Prg} {sp : List Spn} (h : SpOK p sp) : forOK p sp = true := by
  have hb : spansB p.wide sp = true := (spansB_iff (goodP_size h.g).1).2 ⟨by rw [h.len]; exact (goodP_size h.g).2, h.gd⟩
  simp [forOK, h.g, h.len, hb]
theorem forI_ok {k : Nat} (hk : 1000300 ≤ k) (p : Prg) (hp : FitP p) (sp : List Spn) (hl : sp.length ≤ 1000) : c129 k p.wide p.vars (encT p.start) (encCms p.cmds) (encSp sp) = r129 (forOK p sp) := by
  obtain ⟨k, rfl⟩ : ∃ j, k = j + 1 := ⟨k - 1, by omega⟩
  rw [n129, goodProgram_ok (by omega) p hp, encSp_length]
  simp only [R230_r, forOK]
  cases goodP p
  · rfl
  · have e : ((sp.length : Int) == p.vars) = decide ((sp.length : Int) = p.vars) := by rw [Bool.eq_iff_iff]; simp
    rw [e]
    cases decide ((sp.length : Int) = p.vars)
    · rfl
    · simp only [cond_true, Bool.true_and]
      rw [areSpans_ok (by omega) _ _ hl]
      simp only [R139_r]
theorem forS_ok {k : Nat} (hk : 1000300 ≤ k) (p : Prg) (hp : FitP p) (sp : List Spn) (hl : sp.length ≤ 1000) : c133 k p.wide p.vars (encT p.start) (encCms p.cmds) (encSp sp) = r133 (forOK p sp) := by
  obtain ⟨k, rfl⟩ : ∃ j, k = j + 1 := ⟨k - 1, by omega⟩
  rw [n133, goodProgramS_ok (by omega) p hp, encSp_length]
  simp only [R231_r, forOK]
  cases goodP p
  · rfl
  · have e : ((sp.length : Int) == p.vars) = decide ((sp.length : Int) = p.vars) := by rw [Bool.eq_iff_iff]; simp
    rw [e]
    cases decide ((sp.length : Int) = p.vars)
    · rfl
    · simp only [cond_true, Bool.true_and]
      rw [l18Spans_ok (by omega) _ _ hl]
      simp only [R146_r]
noncomputable def rndR (p : Prg) (sp : List Spn) : List Spn := bif forOK p sp then roundS p sp else []
theorem RoundI_ok {k : Nat} (hk : 1000400 ≤ k) (p : Prg) (hp : FitP p) (sp : List Spn) (hl : sp.length ≤ 1000) : c30 k p.wide p.vars (encT p.start) (encCms p.cmds) (encSp sp) = r30 (encSp (rndR p sp)) (forOK p sp) := by
  obtain ⟨k, rfl⟩ : ∃ j, k = j + 1 := ⟨k - 1, by omega⟩
  rw [n30, forI_ok (by omega) p hp sp hl]
  simp only [R129_r, rndR]
  cases h : forOK p sp
  · rfl
  · simp only [Bool.not_true, cond_false, cond_true]
    rw [roundI_ok (by omega) hp (forOK_get h)]
    simp only [R131_r]
theorem RoundS_ok {k : Nat} (hk : 1000400 ≤ k) (p : Prg) (hp : FitP p) (sp : List Spn) (hl : sp.length ≤ 1000) : c35 k p.wide p.vars (encT p.start) (encCms p.cmds) (encSp sp) = r35 (encSp (rndR p sp)) (forOK p sp) := by
  obtain ⟨k, rfl⟩ : ∃ j, k = j + 1 := ⟨k - 1, by omega⟩
  rw [n35, forS_ok (by omega) p hp sp hl]
  simp only [R133_r, rndR]
  cases h : forOK p sp
  · rfl
  · simp only [Bool.not_true, cond_false, cond_true]
    rw [roundSS_ok (by omega) hp (forOK_get h)]
    simp only [R134_r]
/-! ### Many rounds -/
noncomputable def iterS (p : Prg) : Nat → List Spn → List Spn
  | 0, o => o
  | m + 1, o => iterS p m (roundS p o)
theorem iterS_ok {p : Prg} : ∀ (m : Nat) {o : List Spn}, SpOK p o → SpOK p (iterS p m o)
  | 0, o, h => h
  | m + 1, o, h => iterS_ok m (roundS_ok h)
theorem settleI_loop {k : Nat} (hk : 1000100 ≤ k) {p : Prg} (hp : FitP p) (l1 : List PV) (m0 : Nat) (hm0 : m0 ≤ 20) : ∀ (n m i : Nat) (o : List Spn), m < n → i + m = m0 → SpOK p o →
    L27_2 k n (encSp o) (m0 : Int) (i : Int) p.wide p.vars l1 (encCms p.cmds) = r27 (encSp (iterS p m o)) (decide (roundS p (iterS p m o) = iterS p m o)) true
  | 0, m, i, o, hn, hi, ho => by omega
  | n + 1, m, i, o, hn, hi, ho => by
    rw [sL27_2]
    cases m with
    | zero =>
      have hd : decide ((i : Int) < (m0 : Int)) = false := by simp; omega
      have hlen := (roundS_ok ho).len
      have hv := hp.v
      rw [hd, roundI_ok (by omega) hp ho]
      simp only [cond_false, R131_r]
      rw [eqSp_ok (by omega) _ _ (by omega)]
      simp only [R132_r]
      rfl
    | succ m =>
      have hd : decide ((i : Int) < (m0 : Int)) = true := by simp; omega
      have hnext : IntKind.i64.wrap ((i : Int) + 1) = ((i + 1 : Nat) : Int) := by rw [i64_id (by omega) (by omega)]; omega
      rw [hd, roundI_ok (by omega) hp ho, hnext]
      simp only [cond_true, R131_r]
      exact settleI_loop hk hp l1 m0 hm0 n m (i + 1) _ (by omega) (by omega) (roundS_ok ho)
theorem settleS_loop3 {k : Nat} (a b : List Spn) (hl : a.length = b.length) (ha : a.length ≤ 1000) : ∀ (n i : Nat) (q : Bool), a.length - i < n → i ≤ a.length →
    L28_3 k n (encSp b) q (encSp a) (a.length : Int) (i : Int) = r28 (encSp b) (q && decide (a.drop i = b.drop i)) true
  | 0, i, q, h, hi => by omega
  | n + 1, i, q, h, hi => by
    rw [sL28_3]
    by_cases hlt : i < a.length
    · have hd : decide ((i : Int) < (a.length : Int)) = true := by simpa using hlt
      have hnext : IntKind.i64.wrap ((i : Int) + 1) = ((i + 1 : Nat) : Int) := by rw [i64_id (by omega) (by omega)]; omega
      rw [hd, lookSp hlt, lookSp (l := b) (i := i) (by omega), drop_cons hlt, drop_cons (l := b) (by omega), hnext]
      simp only [cond_true, Option.bind_some, encS_shp, encS_lo, encS_hi, List.cons.injEq, Bool.decide_and, eq_span]
      cases q
      · simp only [cond_false, Bool.false_and]
        have := settleS_loop3 (k := k) a b hl ha n (i + 1) false (by omega) (by omega)
        simpa using this
      · simp only [cond_true, Bool.true_and]
        exact settleS_loop3 a b hl ha n (i + 1) _ (by omega) (by omega)
    · have hd : decide ((i : Int) < (a.length : Int)) = false := by simpa using hlt
      rw [hd, List.drop_eq_nil_of_le (by omega), List.drop_eq_nil_of_le (by omega)]
      simp
theorem settleS_loop {k : Nat} (hk : 1000100 ≤ k) {p : Prg} (hp : FitP p) (l1 : List PV) : ∀ (n m : Nat) (o : List Spn), m < n → m ≤ 20 → SpOK p o →
    L28_2 k n (m : Int) (encSp o) p.wide p.vars l1 (encCms p.cmds) = r28 (encSp (iterS p m o)) (decide (roundS p (iterS p m o) = iterS p m o)) true
  | 0, m, o, hn, hm, ho => by omega
  | n + 1, m, o, hn, hm, ho => by
    rw [sL28_2]
    cases m with
    | zero =>
      have hd : decide (((0 : Nat) : Int) > 0) = false := rfl
      have hlen := (roundS_ok ho).len
      have hlen2 := ho.len
      have hv := hp.v
      rw [hd, roundSS_ok (by omega) hp ho]
      simp only [cond_false, R134_r, encSp_length]
      exact settleS_loop3 (k := k) (roundS p o) o (by omega) (by omega) k 0 true (by omega) (by omega)
    | succ m =>
      have hd : decide (((m + 1 : Nat) : Int) > 0) = true := decide_eq_true (by omega)
      have hnext : IntKind.i64.wrap (((m + 1 : Nat) : Int) - 1) = (m : Int) := by rw [i64_id (by omega) (by omega)]; omega
      rw [hd, roundSS_ok (by omega) hp ho, hnext]
      simp only [cond_true, R134_r]
      exact settleS_loop hk hp l1 n m _ (by omega) (by omega) (roundS_ok ho)
def setOK (p : Prg) (sp : List Spn) (m : Int) : Bool := forOK p sp && (decide (0 ≤ m) && decide (m ≤ 20))
noncomputable def setR (p : Prg) (sp : List Spn) (m : Int) : List Spn := bif setOK p sp m then iterS p m.toNat sp else []
noncomputable def setQ (p : Prg) (sp : List Spn) (m : Int) : Bool := setOK p sp m && decide (roundS p (iterS p m.toNat sp) = iterS p m.toNat sp)
theorem SettleI_ok {k : Nat} (hk : 1000400 ≤ k) (p : Prg) (hp : FitP p) (sp : List Spn) (hl : sp.length ≤ 1000) (m : Int) : c27 k p.wide p.vars (encT p.start) (encCms p.cmds) (encSp sp) m = r27 (encSp (setR p sp m)) (setQ p sp m) (setOK p sp m) := by
  obtain ⟨k, rfl⟩ : ∃ j, k = j + 2 := ⟨k - 2, by omega⟩
  rw [n27, forI_ok (by omega) p hp sp hl]
  simp only [R129_r]
  cases h : forOK p sp
  · simp [setR, setQ, setOK, h]; rfl
  simp only [Bool.not_true, cond_false]
  by_cases h0 : 0 ≤ m
  · have e1 : decide (m < 0) = false := by simpa using h0
    by_cases h20 : m ≤ 20
    · have e2 : decide (m > 20) = false := by simpa using h20
      have hok : setOK p sp m = true := by simp [setOK, h, h0, h20]
      have ho := forOK_get h
      have hcl : c130 (k + 1) (encSp sp) = r130 (encSp sp) := n130 k _ (by simp [LIM]; omega) (by simp [LIM]; omega)
      rw [e1, e2, hcl]
      simp only [cond_false, R130_r, encSp_length]
      have etk : (encSp sp).take sp.length = encSp sp := by rw [List.take_of_length_le (by simp)]
      have hm : m = (m.toNat : Int) := by omega
      rw [sL27_1, etk]
      simp only [setR, setQ, hok, cond_true, Bool.true_and]
      have hlen := (roundS_ok ho).len
      have hv := hp.v
      rw [roundI_ok (by omega) hp ho]
      simp only [R131_r]
      cases hmt : m.toNat with
      | zero =>
        have e3 : decide ((0 : Int) < m) = false := by simp; omega
        rw [e3, eqSp_ok (by omega) _ _ (by omega)]
        simp only [cond_false, R132_r]
        rfl
      | succ m' =>
        have e3 : decide ((0 : Int) < m) = true := by simp; omega
        have hnext : IntKind.i64.wrap ((0 : Int) + 1) = ((1 : Nat) : Int) := by rw [i64_id (by omega) (by omega)]; rfl
        have hm2 : m = ((m' + 1 : Nat) : Int) := by omega
        rw [e3, hnext, hm2]
        simp only [cond_true]
        exact settleI_loop (k := k + 1) (by omega) hp (encT p.start) (m' + 1) (by omega) k m' 1 _ (by omega) (by omega) (roundS_ok ho)
    · have e2 : decide (m > 20) = true := by simp; omega
      rw [e1, e2]
      simp [setR, setQ, setOK, h, h20]; rfl
  · have e1 : decide (m < 0) = true := by simp; omega
    rw [e1]
    simp [setR, setQ, setOK, h, h0]; rfl
theorem SettleS_ok {k : Nat} (hk : 1000400 ≤ k) (p : Prg) (hp : FitP p) (sp : List Spn) (hl : sp.length ≤ 1000) (m : Int) : c28 k p.wide p.vars (encT p.start) (encCms p.cmds) (encSp sp) m = r28 (encSp (setR p sp m)) (setQ p sp m) (setOK p sp m) := by
  obtain ⟨k, rfl⟩ : ∃ j, k = j + 2 := ⟨k - 2, by omega⟩
  rw [n28, forS_ok (by omega) p hp sp hl]
  simp only [R133_r]
  cases h : forOK p sp
  · simp [setR, setQ, setOK, h]; rfl
  simp only [Bool.not_true, cond_false]
  rw [in_ok (by omega)]
  simp only [R117_r]
  cases hb : (decide (0 ≤ m) && decide (m ≤ 20))
  · simp [setR, setQ, setOK, h, hb]; rfl
  · have hok : setOK p sp m = true := by simp only [setOK, h, hb, Bool.and_self]
    have ho := forOK_get h
    simp only [Bool.and_eq_true, decide_eq_true_eq] at hb
    have etk : (encSp sp).take sp.length = encSp sp := by rw [List.take_of_length_le (by simp)]
    rw [encSp_length, Nat.zero_add, lim_ok (by omega) (by omega)]
    simp only [Bool.not_true, cond_false, cond_true, List.nil_append]
    rw [sL28_1, etk]
    simp only [setR, setQ, hok, cond_true, Bool.true_and]
    have hlen := (roundS_ok ho).len
    have hlen2 := ho.len
    have hv := hp.v
    rw [roundSS_ok (by omega) hp ho]
    simp only [R134_r, encSp_length]
    cases hmt : m.toNat with
    | zero =>
      have e3 : decide (m > 0) = false := by simp; omega
      rw [e3]
      simp only [cond_false]
      exact settleS_loop3 (k := k + 1) (roundS p sp) sp (by omega) (by omega) (k + 1) 0 true (by omega) (by omega)
    | succ m' =>
      have e3 : decide (m > 0) = true := by simp; omega
      have hnext : IntKind.i64.wrap (m - 1) = (m' : Int) := by rw [i64_id (by omega) (by omega)]; omega
      rw [e3, hnext]
      simp only [cond_true]
      exact settleS_loop (k := k + 1) (by omega) hp (encT p.start) k m' _ (by omega) (by omega) (roundS_ok ho)
/-! ### What no round changes is not left -/
def LeS (a b : Spn) : Prop := b.1.toNat ≤ a.1.toNat ∧ a.2.toNat ≤ b.2.toNat
structure Sub (a b : List Spn) : Prop where
  len : a.length = b.length
  at' : ∀ (i : Nat) (h : i < a.length), LeS a[i] (b[i]'(by omega))
theorem Sub.refl (a : List Spn) : Sub a a := ⟨rfl, fun i h => ⟨Nat.le_refl _, Nat.le_refl _⟩⟩
theorem Sub.trans {a b c : List Spn} (h1 : Sub a b) (h2 : Sub b c) : Sub a c :=
  ⟨h1.len.trans h2.len, fun i h => ⟨Nat.le_trans (h2.at' i (by have := h1.len; omega)).1 (h1.at' i h).1, Nat.le_trans (h1.at' i h).2 (h2.at' i (by have := h1.len; omega)).2⟩⟩
theorem Sub.anti {a b : List Spn} (h1 : Sub a b) (h2 : Sub b a) : a = b := by
  refine List.ext_getElem h1.len fun i ha hb => ?_
  have p1 := h1.at' i ha
  have p2 := h2.at' i hb
  exact Prod.ext (BitVec.eq_of_toNat_eq (Nat.le_antisymm p2.1 p1.1)) (BitVec.eq_of_toNat_eq (Nat.le_antisymm p1.2 p2.2))
theorem join_left (a b : Spn) : LeS a (joinS a b) := ⟨by show (loW a.1 b.1).toNat ≤ _; rw [loW_nat]; omega, by show _ ≤ (hiW a.2 b.2).toNat; rw [hiW_nat]; omega⟩
theorem join_right (a b : Spn) : LeS b (joinS a b) := ⟨by show (loW a.1 b.1).toNat ≤ _; rw [loW_nat]; omega, by show _ ≤ (hiW a.2 b.2).toNat; rw [hiW_nat]; omega⟩
theorem set_sub (o : List Spn) (i : Nat) (y : Spn) : Sub o (o.set i (joinS ((o[i]?).getD (0#64, 0#64)) y)) := by
  refine ⟨by simp, fun j h => ?_⟩
  rw [List.getElem_set]
  split
  · rename_i he
    subst he
    rw [List.getElem?_eq_getElem h]
    exact join_left _ _
  · exact ⟨Nat.le_refl _, Nat.le_refl _⟩
theorem chg_sub (p : Prg) (sp : List Spn) : ∀ (l : List Chg) (o : List Spn), Sub o (chgS p sp l o)
  | [], o => Sub.refl o
  | x :: l, o => (set_sub o _ _).trans (chg_sub p sp l _)
theorem cmd_sub (p : Prg) (sp : List Spn) : ∀ (l : List Cmd) (o : List Spn), Sub o (cmdS p sp l o)
  | [], o => Sub.refl o
  | c :: l, o => by
    rw [cmdS]
    cases zeroS (spanT p.wide p.vars sp c.wh)
    · exact (chg_sub p sp _ o).trans (cmd_sub p sp l _)
    · exact cmd_sub p sp l o
theorem chg_fix {p : Prg} {sp : List Spn} : ∀ (l : List Chg) (o : List Spn), Sub sp o → chgS p sp l o = sp → o = sp ∧ ∀ x ∈ l, ∀ (h : x.v.toNat < sp.length), LeS (spanT p.wide p.vars sp x.by1) sp[x.v.toNat]
  | [], o, hs, h => ⟨h, by simp⟩
  | x :: l, o, hs, h => by
    rw [chgS] at h
    have h1 := set_sub o x.v.toNat (spanT p.wide p.vars sp x.by1)
    obtain ⟨h2, h3⟩ := chg_fix l _ (hs.trans h1) h
    rw [h2] at h1
    have ho : o = sp := h1.anti hs
    refine ⟨ho, fun y hy hlt => ?_⟩
    rcases List.mem_cons.1 hy with rfl | hy
    · rw [ho] at h2
      have h5 := congrArg (fun l => l[y.v.toNat]?) h2
      simp only [List.getElem?_set_self hlt, List.getElem?_eq_getElem hlt, Option.getD_some, Option.some.injEq] at h5
      have h6 := join_right sp[y.v.toNat] (spanT p.wide p.vars sp y.by1)
      rw [h5] at h6
      exact h6
    · exact h3 y hy hlt
theorem cmd_fix {p : Prg} {sp : List Spn} : ∀ (l : List Cmd) (o : List Spn), Sub sp o → cmdS p sp l o = sp → o = sp ∧ ∀ c ∈ l, zeroS (spanT p.wide p.vars sp c.wh) = false → chgS p sp c.ch sp = sp
  | [], o, hs, h => ⟨h, by simp⟩
  | c :: l, o, hs, h => by
    rw [cmdS] at h
    cases hz : zeroS (spanT p.wide p.vars sp c.wh)
    · rw [hz] at h
      have h1 := chg_sub p sp c.ch o
      obtain ⟨h2, h3⟩ := cmd_fix l _ (hs.trans h1) h
      have h2 : chgS p sp c.ch o = sp := h2
      have h1' := h1
      rw [h2] at h1'
      have ho : o = sp := h1'.anti hs
      refine ⟨ho, fun y hy hlt => ?_⟩
      rcases List.mem_cons.1 hy with rfl | hy
      · rw [ho] at h2; exact h2
      · exact h3 y hy hlt
    · rw [hz] at h
      obtain ⟨h2, h3⟩ := cmd_fix l _ hs h
      refine ⟨h2, fun y hy hlt => ?_⟩
      rcases List.mem_cons.1 hy with rfl | hy
      · rw [hz] at hlt; cases hlt
      · exact h3 y hy hlt
theorem after_in {wide : Int} {s : List W} {sp : List Spn} : ∀ (l : List Chg) (o : List W), AllIn sp o → (∀ x ∈ l, ∃ h : x.v.toNat < sp.length, InS sp[x.v.toNat] (valD wide s x.by1)) → AllIn sp (afterS wide s l o)
  | [], o, ho, hl => ho
  | x :: l, o, ho, hl => by
    obtain ⟨h1, h2⟩ := hl x (by simp)
    have hlen := ho.len
    refine after_in l _ ⟨by simpa using hlen, fun i hi => ?_⟩ fun y hy => hl y (by simp [hy])
    simp only [List.getElem_set]
    split
    · rename_i he
      subst he
      exact h2
    · exact ho.at' i hi
theorem step_in {p : Prg} {sp : List Spn} (h : SpOK p sp) (hfix : roundS p sp = sp) {k1 : Int} (hn : cnoOK p k1 = true) {s : List W} (hin : AllIn sp s) (hh : holdC p (cmdAt p k1) s = true) : AllIn sp (afterS p.wide s (cmdAt p k1).ch s) := by
  obtain ⟨hw, hv⟩ := goodP_size h.g
  have hm := (cmdAt_get hn).2
  obtain ⟨g1, g2⟩ := goodC h.g _ hm
  obtain ⟨_, hf⟩ := cmd_fix p.cmds sp (Sub.refl sp) hfix
  have hz : zeroS (spanT p.wide p.vars sp (cmdAt p k1).wh) = false := by
    have h1 := (spanT_in hw hv h.len h.gd g1 hin).2.2
    have h2 : valD p.wide s (cmdAt p k1).wh = 1#64 := by simpa [holdC] using hh
    rw [h2] at h1
    unfold zeroS
    rw [beq_eq_false_iff_ne]
    intro h3
    rw [h3] at h1
    exact absurd h1 (by decide)
  obtain ⟨_, hc⟩ := chg_fix _ sp (Sub.refl sp) (hf _ hm hz)
  have hlen := h.len
  refine after_in _ _ hin fun x hx => ?_
  obtain ⟨q1, q2, q3⟩ := g2 x hx
  have hlt : x.v.toNat < sp.length := by omega
  have h3 := (spanT_in hw hv h.len h.gd q3 hin).2
  have h4 := hc x hx hlt
  exact ⟨hlt, Nat.le_trans h4.1 h3.1, Nat.le_trans h3.2 h4.2⟩
theorem in_st {p : Prg} {sp : List Spn} (h : SpOK p sp) {s : List W} (hin : AllIn sp s) : stOK p s = true ∧ inOK p.wide sp s = true := by
  obtain ⟨hw, hv⟩ := goodP_size h.g
  have hlen := hin.len
  have hlen2 := h.len
  have hall : ∀ a ∈ s, a ≤ mk p.wide := by
    intro a ha
    obtain ⟨i, hi, rfl⟩ := List.getElem_of_mem ha
    have h1 := hin.at' i (by omega)
    have h2 := (h.gd _ (List.getElem_mem (show i < sp.length by omega))).top
    rw [BitVec.le_def]
    exact Nat.le_trans h1.2 h2
  have hst : stOK p s = true := (stOK_of hw).2 ⟨by omega, hall⟩
  refine ⟨hst, ?_⟩
  have hb := forOK_of h
  simp only [forOK, Bool.and_eq_true] at hb
  simp only [stOK, Bool.and_eq_true] at hst
  simp [inOK, hb.2.2, hlen, hst.2]
/-! ### What is drawn -/
theorem drawRound_ok {bs : List Nat} (hc : CodeOK bs) {k : Nat} (hk : 2500 ≤ k) : ∃ p sp, c34 k (encB bs) = r34 p.wide p.vars (encT p.start) (encCms p.cmds) (encSp sp) ∧ FitP p ∧ sp.length ≤ 100 := by
  obtain ⟨k, rfl⟩ : ∃ j, k = j + 1 := ⟨k - 1, by omega⟩
  rw [n34]
  obtain ⟨a2, s2, p, h, h2, h3, h4⟩ := prog_ok hc (k := k) (by omega) (at' := 0) (by omega) (by omega) 0#64
  have h' : c126 k (encB bs) 0 0 = _ := h
  have hw := h4.w
  have hv := h4.v
  rw [h']
  simp only [R126_r]
  obtain ⟨a3, s3, sp, h, h5, h6, h7, _⟩ := spans_ok hc (k := k) (by omega) (wide := p.wide) (vars := p.vars) (by omega) (by omega) (by omega) (at' := a2) (by omega) (by omega) s2
  rw [h]
  simp only [R127_r]
  exact ⟨p, sp, rfl, h4, h7⟩
theorem drawSettle_ok {bs : List Nat} (hc : CodeOK bs) {k : Nat} (hk : 2500 ≤ k) : ∃ p sp m, c26 k (encB bs) = r26 p.wide p.vars (encT p.start) (encCms p.cmds) (encSp sp) m ∧ FitP p ∧ sp.length ≤ 100 := by
  obtain ⟨k, rfl⟩ : ∃ j, k = j + 1 := ⟨k - 1, by omega⟩
  rw [n26]
  obtain ⟨a2, s2, p, h, h2, h3, h4⟩ := prog_ok hc (k := k) (by omega) (at' := 0) (by omega) (by omega) 0#64
  have h' : c126 k (encB bs) 0 0 = _ := h
  have hw := h4.w
  have hv := h4.v
  rw [h']
  simp only [R126_r]
  obtain ⟨a3, s3, sp, h, h5, h6, h7, _⟩ := spans_ok hc (k := k) (by omega) (wide := p.wide) (vars := p.vars) (by omega) (by omega) (by omega) (at' := a2) (by omega) (by omega) s2
  rw [h]
  simp only [R127_r]
  obtain ⟨a4, s4, m, h, h8, h9, h10⟩ := among_ok hc (k := k) (by omega) (at' := a3) (by omega) (by omega) s3 [0, 1, 2, 5, 20, 20, 21] (by simp)
  have h' : c128 k [PV.int .i64 0, PV.int .i64 1, PV.int .i64 2, PV.int .i64 5, PV.int .i64 20, PV.int .i64 20, PV.int .i64 21] (encB bs) a3 (wi s3) = _ := h
  rw [h']
  simp only [R128_r]
  exact ⟨p, sp, m, rfl, h4, h7⟩
theorem hi_loop {k : Nat} (w : Int) (l : List Spn) (hl : l.length ≤ 1000) : ∀ (n i : Nat) (st : List W), st.length - i < n → i ≤ st.length → st.length = l.length →
    ∃ st2, L36_1 k n w (encSp l) st.length (st.length : Int) (i : Int) (encW st) = r36 w (encSp l) (encW st2) ∧ st2.length = l.length
  | 0, i, st, h, hi, hs => by omega
  | n + 1, i, st, h, hi, hs => by
    rw [sL36_1]
    by_cases hlt : i < st.length
    · have hd : decide ((i : Int) < (st.length : Int)) = true := by simpa using hlt
      have hd0 : decide ((0 : Int) ≤ (i : Int)) = true := by simp
      have hnext : IntKind.i64.wrap ((i : Int) + 1) = ((i + 1 : Nat) : Int) := by rw [i64_id (by omega) (by omega)]; omega
      have hget : (encW st)[0 + (i : Int).toNat]? = some (.int .u64 (wi st[i])) := by rw [Int.toNat_natCast, Nat.zero_add, encW_get, List.getElem?_eq_getElem hlt]; rfl
      have hset : ∀ y : W, (encW st).set (0 + (i : Int).toNat) (.int .u64 (wi y)) = encW (st.set i y) := fun y => by simp [encW, List.map_set]
      rw [hd, hd0, lookSp (l := l) (i := i) (by omega), hnext, hget]
      simp only [cond_true, Option.bind_some, encS_hi, Bool.and_self]
      rw [hset]
      have := hi_loop (k := k) w l hl n (i + 1) (st.set i (l[i]'(by omega)).2) (by simp; omega) (by simp; omega) (by simpa using hs)
      rw [List.length_set] at this
      exact this
    · have hd : decide ((i : Int) < (st.length : Int)) = false := by simpa using hlt
      have etk : (encW st).take st.length = encW st := by rw [List.take_of_length_le (by simp)]
      rw [hd, etk]
      exact ⟨st, rfl, hs⟩
theorem drawIn_ok {bs : List Nat} (hc : CodeOK bs) {k : Nat} (hk : 2500 ≤ k) : ∃ w sp st, c36 k (encB bs) = r36 w (encSp sp) (encW st) ∧ sp.length ≤ 100 ∧ st.length ≤ 100 := by
  obtain ⟨k, rfl⟩ : ∃ j, k = j + 1 := ⟨k - 1, by omega⟩
  rw [n36]
  obtain ⟨a2, s2, w, h, h2, h3, h4, h5⟩ := width_ok hc (k := k) (by omega) (at' := 0) (by omega) (by omega) 0#64
  have h' : c142 k (encB bs) 0 0 = _ := h
  rw [h']
  simp only [R142_r]
  obtain ⟨a3, s3, v, h, h6, h7, h8, h9, _⟩ := pick_ok hc (k := k) (by omega) (at' := a2) (by omega) (by omega) s2 4
  have h9 := h9 (by omega)
  rw [h]
  simp only [R143_r]
  obtain ⟨a4, s4, sp, h, h10, h11, h12, h13⟩ := spans_ok hc (k := k) (by omega) (wide := w) (vars := 1 + v) h4 h5 (by omega) (at' := a3) (by omega) (by omega) s3
  have h13 := h13 (by omega)
  rw [i64_id (by omega) (by omega), h]
  simp only [R127_r, encSp_length]
  obtain ⟨a5, s5, st, h, h14, h15, h16, h17⟩ := stateA_ok hc (k := k) (by omega) (wide := w) (vars := (sp.length : Int)) h4 h5 (by omega) (at' := a4) (by omega) (by omega) s4
  have h17 := h17 (by omega)
  rw [h]
  simp only [R144_r]
  obtain ⟨a6, s6, b, h, h18, h19⟩ := one_ok hc (k := k) (by omega) (at' := a5) (by omega) (by omega) s5 3
  rw [h]
  simp only [R145_r, encW_length]
  cases b
  · have etk : (encW st).take st.length = encW st := by rw [List.take_of_length_le (by simp)]
    rw [etk]
    exact ⟨w, sp, st, rfl, h12, h16⟩
  · obtain ⟨st2, h, h20⟩ := hi_loop (k := k) w sp (by omega) k 0 st (by omega) (by omega) (by omega)
    exact ⟨w, sp, st2, h, h12, by omega⟩
/-! ### The law -/
theorem settled_end {k : Nat} (hk : 1001000 ≤ k) {more : List Nat} (hm : CodeOK more) : (R34 (c34 k (encB more)) fun v4 v5 l7 l8 l9 =>
       R30 (c30 k v4 v5 l7 l8 l9) fun l10 b9 =>
       R35 (c35 k v4 v5 l7 l8 l9) fun l11 b10 =>
       R36 (c36 k (encB more)) fun v6 l12 l13 =>
       R33 (c33 k v6 l12 l13) fun b11 b12 =>
       R37 (c37 k v6 l12 l13) fun b13 b14 =>
       bif (b9 == b10) then
        R29 (c29 k l10 l11) fun b15 =>
        bif b15 then
         bif (b12 == b14) then
          r4 (b11 == b13)
         else r4 false
        else r4 false
       else r4 false) = r4 true := by
  obtain ⟨p, sp, h, hp, hl⟩ := drawRound_ok hm (k := k) (by omega)
  rw [h]
  simp only [R34_r]
  rw [RoundI_ok (by omega) p hp sp (by omega), RoundS_ok (by omega) p hp sp (by omega)]
  simp only [R30_r, R35_r]
  obtain ⟨w, l, st, h, h1, h2⟩ := drawIn_ok hm (k := k) (by omega)
  rw [h]
  simp only [R36_r]
  rw [InSpI_ok (by omega) w l st (by omega) (by omega), InSpS_ok (by omega) w l st (by omega) (by omega)]
  simp only [R33_r, R37_r, beq_self_eq_true, cond_true]
  have hlen : (rndR p sp).length ≤ 1000 := by
    unfold rndR
    cases forOK p sp
    · simp
    · simp only [cond_true]; unfold roundS; rw [cmdS_length]; omega
  rw [sameSp_ok (by omega) _ _ (by omega)]
  simp only [R29_r, decide_true, cond_true]
theorem settled_loop3 {k : Nat} (hk : 1001000 ≤ k) {more : List Nat} (hm : CodeOK more) {p : Prg} (hp : FitP p) {sp : List Spn} (h : SpOK p sp) (hfix : roundS p sp = sp) {s : List W} (hin : AllIn sp s) : ∀ (n i : Nat), p.cmds.length - i < n → i ≤ p.cmds.length →
    L4_3 k n (encB more) (encSp sp) (encW s) (p.cmds.length : Int) (i : Int) p.wide p.vars (encT p.start) (encCms p.cmds) = r4 true
  | 0, i, hn, hi => by omega
  | n + 1, i, hn, hi => by
    have hcm := hp.cm
    have hv := hp.v
    have hlen := h.len
    have hsl := hin.len
    rw [sL4_3]
    by_cases hlt : i < p.cmds.length
    · have hd : decide ((i : Int) < (p.cmds.length : Int)) = true := by simpa using hlt
      have hnext : IntKind.i64.wrap ((i : Int) + 1) = ((i + 1 : Nat) : Int) := by rw [i64_id (by omega) (by omega)]; omega
      have hno : cnoOK p (i : Int) = true := by simp [cnoOK, hlt]
      have hpl : (pT p (i : Int) s).length ≤ 1000 := by
        unfold pT
        cases pO p (i : Int) s
        · simp
        · simp only [cond_true]; rw [afterS_length]; omega
      rw [hd, stepA_ok (by omega) p hp (i : Int) h.g s (by omega), hnext]
      simp only [cond_true, R32_r]
      rw [InSpI_ok (by omega) p.wide sp _ (by omega) hpl]
      simp only [R33_r]
      cases hO : pO p (i : Int) s
      · simp only [cond_false]
        exact settled_loop3 hk hm hp h hfix hin n (i + 1) (by omega) (by omega)
      · have hh : holdC p (cmdAt p (i : Int)) s = true := by simp only [pO, Bool.and_eq_true] at hO; exact hO.2.2
        have e : pT p (i : Int) s = afterS p.wide s (cmdAt p (i : Int)).ch s := by unfold pT; rw [hO]; rfl
        have ha := step_in h hfix hno hin hh
        rw [e, (in_st h ha).2, inB_all ha]
        simp only [cond_true, Bool.and_self, Bool.not_true, cond_false]
        exact settled_loop3 hk hm hp h hfix hin n (i + 1) (by omega) (by omega)
    · have hd : decide ((i : Int) < (p.cmds.length : Int)) = false := by simpa using hlt
      rw [hd]
      simp only [cond_false]
      exact settled_end hk hm
theorem settled_state {k : Nat} (hk : 1048600 ≤ k) {more : List Nat} (hm : CodeOK more) {p : Prg} (hp : FitP p) {sp : List Spn} (h : SpOK p sp) (hfix : roundS p sp = sp) : ∀ (n i : Nat) (st : List W), sp.length - i < n → i ≤ sp.length → st.length = i → (∀ (j : Nat) (h1 : j < i) (h2 : j < sp.length) (h3 : j < st.length), InS sp[j] st[j]) →
    L4_1 k n (encB more) (encSp sp) st.length (encSp sp) (sp.length : Int) (i : Int) p.wide p.vars (encT p.start) (encCms p.cmds) (encW st) = r4 true
  | 0, i, st, hn, hi, hst, hin => by omega
  | n + 1, i, st, hn, hi, hst, hin => by
    have hv := hp.v
    have hlen := h.len
    have etk : (encW st).take st.length = encW st := by rw [List.take_of_length_le (by simp)]
    rw [sL4_1]
    by_cases hlt : i < sp.length
    · have hd : decide ((i : Int) < (sp.length : Int)) = true := by simpa using hlt
      have hnext : IntKind.i64.wrap ((i : Int) + 1) = ((i + 1 : Nat) : Int) := by rw [i64_id (by omega) (by omega)]; omega
      have hz : (((i + 1 : Nat) : Int) == 0) = false := by simp; omega
      obtain ⟨v, hvv, v0, v1⟩ := numberOf_ok (k := k) (by omega) hm
      have hgd := h.gd _ (List.getElem_mem hlt)
      obtain ⟨q1, q2⟩ := state_pick hgd.le (v := v) (d := ((i + 1 : Nat) : Int)) v0 v1 (by omega) (by omega)
      have go : ∀ w : W, InS sp[i] w → L4_1 k n (encB more) (encSp sp) (st.length + 1) (encSp sp) (sp.length : Int) ((i + 1 : Nat) : Int) p.wide p.vars (encT p.start) (encCms p.cmds) (encW st ++ [PV.int .u64 (wi w)]) = r4 true := by
        intro w hw
        rw [encW_snoc]
        have := settled_state hk hm hp h hfix n (i + 1) (st ++ [w]) (by omega) (by omega) (by simp; omega) (fun j h1 h2 h3 => by
          by_cases hj : j < i
          · rw [List.getElem_append_left (by omega)]
            exact hin j hj h2 (by omega)
          · have : j = i := by omega
            subst this
            rw [List.getElem_append_right (by omega)]
            simpa [hst] using hw)
        rw [List.length_append] at this
        exact this
      rw [hd, lookSp hlt, hnext, hvv, etk]
      simp only [cond_true, Option.bind_some, encS_shp, encS_lo, encS_hi, R31_r, hz, Bool.not_false]
      rw [lim_ok (by omega) (by omega)]
      cases hb : decide (IntKind.u64.wrap (wi sp[i].2 - wi sp[i].1) < 1000000)
      · obtain ⟨w, e, hw⟩ := q2 hb
        simp only [cond_false, cond_true]
        rw [e]
        exact go w hw
      · obtain ⟨e0, w, e, hw⟩ := q1 hb
        simp only [cond_true, e0, Bool.not_false]
        rw [e]
        exact go w hw
    · have hd : decide ((i : Int) < (sp.length : Int)) = false := by simpa using hlt
      have hall : AllIn sp st := ⟨by omega, fun j hj => hin j (by omega) hj (by omega)⟩
      obtain ⟨k, rfl⟩ : ∃ j, k = j + 1 := ⟨k - 1, by omega⟩
      have hcm := hp.cm
      have h3 := settled_loop3 (k := k + 1) (by omega) hm hp h hfix hall
      rw [hd, encCms_length]
      simp only [cond_false]
      rw [sL4_2, etk]
      have h0 := h3 (k + 1) 0 (by omega) (by omega)
      have h0' : L4_3 (k + 1) (k + 1) (encB more) (encSp sp) (encW st) (p.cmds.length : Int) 0 p.wide p.vars (encT p.start) (encCms p.cmds) = _ := h0
      rw [sL4_3] at h0'
      exact h0'
theorem settled_true {k : Nat} (hk : 1048700 ≤ k) (code more : List Nat) (hc : ∀ b ∈ code, b < 256) (hm : ∀ b ∈ more, b < 256) : c4 k (encB code) (encB more) = r4 true := by
  obtain ⟨k, rfl⟩ : ∃ j, k = j + 1 := ⟨k - 1, by omega⟩
  rw [n4, big_ok (by omega)]
  simp only [R12_r]
  cases hbig : (decide (code.length > 1048576) || decide (more.length + code.length > 1048576))
  · simp only [cond_false]
    rw [Bool.or_eq_false_iff] at hbig
    have hl : code.length ≤ 1048576 ∧ more.length ≤ 1048576 := by
      have h1 := hbig.1
      have h2 := hbig.2
      simp at h1 h2
      omega
    have hcc : CodeOK code := ⟨hl.1, hc⟩
    have hmm : CodeOK more := ⟨hl.2, hm⟩
    obtain ⟨p, sp, m, h, hp, hsl⟩ := drawSettle_ok hcc (k := k) (by omega)
    have hend := settled_end (k := k) (by omega) hmm
    rw [h]
    simp only [R26_r]
    rw [SettleI_ok (by omega) p hp sp (by omega) m, SettleS_ok (by omega) p hp sp (by omega) m]
    simp only [R27_r, R28_r, beq_self_eq_true, Bool.not_true, cond_false]
    have hlen : (setR p sp m).length ≤ 1000 := by
      unfold setR
      cases hq : setOK p sp m
      · simp
      · simp only [setOK, Bool.and_eq_true] at hq
        have := (iterS_ok m.toNat (forOK_get hq.1)).len
        have hv := hp.v
        simp only [cond_true]
        omega
    rw [sameSp_ok (by omega) _ _ (by omega)]
    simp only [R29_r, decide_true, Bool.not_true, cond_false]
    cases hok : setOK p sp m
    · simp only [cond_false]
      exact hend
    · cases hq : setQ p sp m
      · simp only [cond_false, cond_true]
        exact hend
      · simp only [cond_true]
        have e : setR p sp m = iterS p m.toNat sp := by unfold setR; rw [hok]; rfl
        have hS : SpOK p (setR p sp m) := by
          rw [e]
          simp only [setOK, Bool.and_eq_true] at hok
          exact iterS_ok _ (forOK_get hok.1)
        have hfix : roundS p (setR p sp m) = setR p sp m := by
          rw [e]
          simp only [setQ, Bool.and_eq_true, decide_eq_true_eq] at hq
          exact hq.2
        have e2 : rndR p (setR p sp m) = setR p sp m := by unfold rndR; rw [forOK_of hS]; exact hfix
        rw [RoundI_ok (by omega) p hp _ (by omega), e2, forOK_of hS]
        simp only [R30_r, Bool.not_true, cond_false]
        rw [sameSp_ok (by omega) _ _ (by omega)]
        simp only [R29_r, decide_true, Bool.not_true, cond_false, encSp_length]
        exact settled_state (k := k) (by omega) hmm hp hS hfix k 0 [] (by omega) (by omega) rfl (fun j h1 => by omega)
  · rfl
theorem lawFnSettled (code more : List Int) (hc : ∀ n ∈ code, (Lit.int .u8 n).wf = true) (hm : ∀ n ∈ more, (Lit.int .u8 n).wf = true) : Contract Tryz.prog 4 (([.row 0 0 (ints .u8 code), .row 0 0 (ints .u8 more)] : List PV).map .p) [] ([.c (.p (.bool true))], []) := by
  obtain ⟨e1, h1⟩ := ints_encB code hc
  obtain ⟨e2, h2⟩ := ints_encB more hm
  rw [e1, e2]
  exact evF_sound envOK pOK (T := T) hT 1048700 (settled_true (k := 1048700) (Nat.le_refl _) _ _ h1 h2)
end Go.Proofs.YtclkgblckicabaaGreat
/- The law FnSettled of the program: for all arguments it returns true, and its arguments read as they did. -/
namespace Go.Proofs.YtclkgblckicabaaGreat.fnSettled
open Go.ChangeShapes Go.WideShapes Go.ChangeAt Go.RowKit Go.Dp
open Go.ChangeMaps (open_string shut_string)
set_option linter.unusedVariables false
theorem own : ownKnob Tryz.prog.godebug = none := by kernel_rfl
theorem laidOut : laidOutB Tryz.prog = true := by kernel_rfl
theorem spot_none {P : Program} {w : World} {r : Reach} {base : Nat} {t e : TypeId} {x : Addr} {len cap : Nat} (ht : P.underlying t = some (.slice e)) (h : Value.okWide P w r base t (.slice (some x) len cap)) : x.spot = none := by
  simp only [Value.okWide, ht, Cell.okWide, Cell.ok] at h
  exact h.2.2.2.1
set_option maxRecDepth 100000 in
theorem lifted (os : Os) (started : os.Started) (H : Type) (enc : TypeId × Value → H) :
    ReturnsInHanded {} Tryz.checked os 4 .any (Rows.fnSettledSpec.pre6 enc Tryz.prog Tryz.f4 Rows.fnSettledRow.domain false) (Rows.fnSettledSpec.post enc Tryz.prog Tryz.f4 false true false false) := by
  refine returnsInHanded_of_change_sized (C := Tryz.checked) own started (by kernel_rfl) Tryz.func4
    (ChangeSpec.witness6 (enc := enc) (C := Tryz.checked) false ⟨#[], #[.slice none 0 0, .slice none 0 0], []⟩ 8 (by kernel_rfl) (by kernel_rfl) (by kernel_rfl) (by kernel_rfl)) ?_
  intro W base args ds gs before hval0 hW hcnd hsz0 _
  have hval : ∀ (j : Nat) t v, Tryz.f4.params[j]? = some t → args[j]? = some v → Value.okWide Tryz.prog W .any base t v := hval0
  have hW' := hW
  obtain ⟨p, q, hA0, hV, rfl, hfz, hnd⟩ := hW
  have hA : DataW.TrodAll enc Tryz.prog W 0 (fun _ => true) true Tryz.f4.params.toList args.toList ds p := hA0
  rw [Tryz.params4] at hA hval
  obtain ⟨v0, vs0, d0, ds0, p0, q0, hargs, rfl, rfl, h0, r0⟩ := trodAll_cons hA
  obtain ⟨v1, vs1, d1, ds1, p1, q1, rfl, rfl, rfl, h1, r1⟩ := trodAll_cons r0
  obtain ⟨rfl, rfl, rfl⟩ := trodAll_nil r1
  obtain rfl : args = #[v0, v1] := by cases args; simp_all
  obtain ⟨rfl, rfl⟩ := trodVars_none hV
  have o0 := hval 0 22 v0 rfl rfl
  obtain ⟨a0, len0, cap0, rfl⟩ := okWide_slice Tryz.underlying22 o0
  have k0 := h0
  have lt0 : ∀ x ∈ p0, x.block < W.heap.size := by obtain ⟨m, hm⟩ := k0; exact DataW.trod_lt m _ _ _ hm
  obtain ⟨z0, w0⟩ : ∃ zs, IsRow .u8 W a0 len0 cap0 zs := by
    obtain ⟨fuel, hf⟩ := h0
    rcases open_ints Tryz.underlying22 Tryz.underlying5 (by kernel_rfl) hf with ⟨hcs, _⟩ | ⟨x, l, c, zs, hcs, _, hl, hm, hz, _, hcell, hwz⟩
    · simp [Value.cells] at hcs
      obtain ⟨rfl, rfl, rfl⟩ := hcs
      exact ⟨[], .inl ⟨rfl, rfl, rfl, rfl⟩⟩
    · simp [Value.cells] at hcs
      obtain ⟨rfl, rfl, rfl⟩ := hcs
      exact ⟨zs, .inr ⟨_, rfl, spot_none Tryz.underlying22 o0, hl, hm, by simpa using hz, hcell, hwz⟩⟩
  have o1 := hval 1 22 v1 rfl rfl
  obtain ⟨a1, len1, cap1, rfl⟩ := okWide_slice Tryz.underlying22 o1
  have k1 := h1
  have lt1 : ∀ x ∈ p1, x.block < W.heap.size := by obtain ⟨m, hm⟩ := k1; exact DataW.trod_lt m _ _ _ hm
  obtain ⟨z1, w1⟩ : ∃ zs, IsRow .u8 W a1 len1 cap1 zs := by
    obtain ⟨fuel, hf⟩ := h1
    rcases open_ints Tryz.underlying22 Tryz.underlying5 (by kernel_rfl) hf with ⟨hcs, _⟩ | ⟨x, l, c, zs, hcs, _, hl, hm, hz, _, hcell, hwz⟩
    · simp [Value.cells] at hcs
      obtain ⟨rfl, rfl, rfl⟩ := hcs
      exact ⟨[], .inl ⟨rfl, rfl, rfl, rfl⟩⟩
    · simp [Value.cells] at hcs
      obtain ⟨rfl, rfl, rfl⟩ := hcs
      exact ⟨zs, .inr ⟨_, rfl, spot_none Tryz.underlying22 o1, hl, hm, by simpa using hz, hcell, hwz⟩⟩
  clear hA0 hval0 hsz0
  refine (law_walk (P := Tryz.prog) (f := 4) (vs := [.row 0 0 (ints .u8 (z0.take len0)), .row 0 0 (ints .u8 (z1.take len1))]) (ys := [.slice a0 len0 cap0, .slice a1 len1 cap1]) rfl ?_ (lawFnSettled (z0.take len0) (z1.take len1) (fun n hn => w0.wf n (List.mem_of_mem_take hn)) (fun n hn => w1.wf n (List.mem_of_mem_take hn)))).mono fun e W' ⟨he, bel⟩ => ?_
  · intro i a y ha hy
    cases i with
    | zero => simp at ha hy; subst ha; subst hy; exact w0.rp
    | succ i =>
      cases i with
      | zero => simp at ha hy; subst ha; subst hy; exact w1.rp
      | succ i =>
        simp at ha
  subst he
  exact ⟨_, rfl, _, _, _, [], _, [], hW', trodAll_mk1 (shut_bool Tryz.underlying4 _), (trodAll_cons_mk (Below.trod laidOut (by kernel_rfl) (of_decide_eq_true (by kernel_rfl)) k0 bel lt0) (trodAll_cons_mk (Below.trod laidOut (by kernel_rfl) (of_decide_eq_true (by kernel_rfl)) k1 bel lt1) trodAll_mk0)), rfl, bel.frame _, fun h => by cases h⟩
theorem named : Tryz.pinned.checked.prog.funcNamed Rows.fnSettledRow.func = some 4 := by kernel_rfl
theorem closed : joinedFacts Tryz.pinned.checked.prog 4 Tryz.f4 Rows.fnSettledSpec Rows.fnSettledRow = true := by kernel_rfl
theorem inst : Tryz.f4.isInstance Tryz.pinned.checked.prog Rows.fnSettledRow.origin Rows.fnSettledRow.targs := of_decide_eq_true (by kernel_rfl)
theorem wrap : Tryz.f4.isWrapper Tryz.pinned.checked.prog Rows.fnSettledRow.wrapper Rows.fnSettledRow.mainSum := by unfold Func.isWrapper; first | (rw [if_pos (by decide +kernel)]; kernel_rfl) | (rw [if_neg (by decide +kernel)]; exact ⟨rfl, rfl⟩)
theorem over : Rows.fnSettledRow.holds Tryz.pinned (OpenSpec.ofChange Rows.fnSettledSpec) :=
  OpenClaim.holds_of_wide 4 Tryz.f4 rfl rfl rfl rfl rfl rfl rfl ⟨rfl, rfl, rfl, rfl, rfl⟩ rfl rfl rfl rfl rfl named Tryz.func4 closed inst wrap
    (fun os started H enc _ => lifted os started H enc)
theorem proved : Rows.FnSettledSaid := over
end Go.Proofs.YtclkgblckicabaaGreat.fnSettled
namespace Go.Proofs.YtclkgblckicabaaGreat
/-- The row, under a short name, for the claim. -/
theorem fnSettled_holds : Rows.FnSettledSaid := fnSettled.proved
#print axioms fnSettled_holds
end Go.Proofs.YtclkgblckicabaaGreat
