/- Folding: the functions. -/
import Derived.Test.YtocmjgfbcpgaoaaTb
set_option linter.unusedVariables false
set_option linter.unusedSimpArgs false
set_option maxRecDepth 4000
namespace Go.Proofs.Ytocmjgfbcpgaoaa
open Go.Dp

theorem w10 : IntKind.i64.wrap (((1 : Nat) : Int) - 1) = 0 := (i64_id (by omega) (by omega)).trans (by omega)
theorem w21 : IntKind.i64.wrap (((2 : Nat) : Int) - 1) = 1 := (i64_id (by omega) (by omega)).trans (by omega)
theorem w1 : IntKind.i64.wrap ((1 : Int) - 1) = 0 := (i64_id (by omega) (by omega)).trans (by omega)
theorem w01 : IntKind.i64.wrap ((0 : Int) + 1) = 1 := (i64_id (by omega) (by omega)).trans (by omega)
theorem w12 : IntKind.i64.wrap ((1 : Int) + 1) = 2 := (i64_id (by omega) (by omega)).trans (by omega)
theorem root_at {T : Tr} {t pre suf : List Nd} (h : t = pre ++ T.flat ++ suf) : lookP (encT t) ((pre.length + T.flat.length - 1 : Nat) : Int) = some (encN T.root) := by
  obtain ⟨r, hr⟩ := T.flat_last
  have hl : T.flat.length = r.length + 1 := by rw [hr]; simp
  have e : t[pre.length + r.length]? = some T.root := by
    rw [h, hr, List.append_assoc, List.getElem?_append_right (Nat.le_add_right _ _), Nat.add_sub_cancel_left, List.append_assoc, List.getElem?_append_right (Nat.le_refl _), Nat.sub_self]
    rfl
  rw [hl, show pre.length + (r.length + 1) - 1 = pre.length + r.length by omega, lookP_nat, encT_get, e]
  rfl
theorem lf0 (k n : Nat) (t : List PV) (f : Int) (hn : 1 ≤ n) : L52_1 k n t ((0 : Nat) : Int) f = r52 f := by
  obtain ⟨n, rfl⟩ : ∃ i, n = i + 1 := ⟨n - 1, by omega⟩
  rw [sL52_1]
  rfl
theorem lfS (k n : Nat) (t : List PV) (a f f2 : Nat) (hn : 1 ≤ n) (hf : 1 ≤ f) (hf2 : f ≤ 10000) (ha : a ≤ 5) (hc : c52 k t ((f - 1 : Nat) : Int) = r52 (f2 : Int)) : L52_1 k n t ((a + 1 : Nat) : Int) (f : Int) = L52_1 k (n - 1) t (a : Int) (f2 : Int) := by
  obtain ⟨n, rfl⟩ : ∃ i, n = i + 1 := ⟨n - 1, by omega⟩
  rw [sL52_1]
  have hd : decide (((a + 1 : Nat) : Int) > 0) = true := by (simp; try omega)
  rw [hd, i64_id (n := (f : Int) - 1) (by omega) (by omega), show (f : Int) - 1 = ((f - 1 : Nat) : Int) by omega, hc]
  simp only [cond_true, R52_r]
  rw [i64_id (by omega) (by omega), show ((a + 1 : Nat) : Int) - 1 = (a : Int) by omega]
  rfl
theorem lfC {k : Nat} (hk : 10 ≤ k) {T : Tr} {t pre suf : List Nd} (h : t = pre ++ T.flat ++ suf) : c52 k (encT t) ((pre.length + T.flat.length - 1 : Nat) : Int) = L52_1 (k - 1) (k - 1) (encT t) ((need T.root.1).1 : Nat) ((pre.length + T.flat.length - 1 : Nat) : Int) := by
  obtain ⟨k, rfl⟩ : ∃ i, k = i + 1 := ⟨k - 1, by omega⟩
  rw [n52, root_at h]
  simp only [Option.bind_some, encN_op]
  rw [needS_ok (by omega)]
  simp only [R49_r, Nat.add_sub_cancel]
theorem from_tree {wide vars : Int} : ∀ (T : Tr) (t pre suf : List Nd) (k : Nat), T.ok wide vars → t = pre ++ T.flat ++ suf → t.length ≤ 1000 → 300 + T.flat.length ≤ k → c52 k (encT t) ((pre.length + T.flat.length - 1 : Nat) : Int) = r52 (pre.length : Int) := by
  intro T
  induction T with
  | leaf x =>
    intro t pre suf k h ht hl hk
    rw [lfC (by omega) ht, show (need (Tr.leaf x).root.1).1 = 0 from h.1, lf0 _ _ _ _ (by omega)]
    simp [Tr.flat]
  | un x a iha0 =>
    intro t pre suf k h ht hl hk
    obtain ⟨h1, h2, h3, h4, h5⟩ := h
    have hp := a.flat_pos
    have hfl : (Tr.un x a).flat.length = a.flat.length + 1 := by simp [Tr.flat]
    have ht2 : t = pre ++ a.flat ++ ([x] ++ suf) := by rw [ht]; simp [Tr.flat]
    have htl : t.length = pre.length + a.flat.length + 1 + suf.length := by rw [ht2]; (simp; try omega)
    have ih := iha0 t pre ([x] ++ suf) (k - 1) h5 ht2 hl (by omega)
    rw [lfC (by omega) ht, show (need (Tr.un x a).root.1).1 = 0 + 1 from h1, lfS (k - 1) (k - 1) (encT t) 0 _ pre.length (by omega) (by omega) (by omega) (by omega) (by rw [show pre.length + (Tr.un x a).flat.length - 1 - 1 = pre.length + a.flat.length - 1 by omega]; exact ih)]
    exact lf0 _ _ _ _ (by omega)
  | bin x a b iha0 ihb0 =>
    intro t pre suf k h ht hl hk
    obtain ⟨h1, h2, h3, h4, h5, h6, h7⟩ := h
    have hp := a.flat_pos
    have hq := b.flat_pos
    have hfl : (Tr.bin x a b).flat.length = a.flat.length + b.flat.length + 1 := by (simp [Tr.flat]; try omega)
    have ht2 : t = (pre ++ a.flat) ++ b.flat ++ ([x] ++ suf) := by rw [ht]; simp [Tr.flat]
    have ht3 : t = pre ++ a.flat ++ (b.flat ++ [x] ++ suf) := by rw [ht]; simp [Tr.flat]
    have htl : t.length = pre.length + a.flat.length + b.flat.length + 1 + suf.length := by rw [ht2]; (simp; try omega)
    have ihb := ihb0 t (pre ++ a.flat) ([x] ++ suf) (k - 1) h7 ht2 hl (by omega)
    have iha := iha0 t pre (b.flat ++ [x] ++ suf) (k - 1) h6 ht3 hl (by omega)
    rw [List.length_append] at ihb
    rw [lfC (by omega) ht, show (need (Tr.bin x a b).root.1).1 = 1 + 1 from h1, lfS (k - 1) (k - 1) (encT t) 1 _ (pre.length + a.flat.length) (by omega) (by omega) (by omega) (by omega) (by rw [show pre.length + (Tr.bin x a b).flat.length - 1 - 1 = pre.length + a.flat.length + b.flat.length - 1 by omega]; exact ihb)]
    rw [show ((1 : Nat) : Int) = ((0 + 1 : Nat) : Int) from rfl, lfS (k - 1) (k - 1 - 1) (encT t) 0 _ pre.length (by omega) (by omega) (by omega) (by omega) iha]
    exact lf0 _ _ _ _ (by omega)
theorem ls0 (k n : Nat) (t : List PV) (f : Int) (m : Nat) (hn : 1 ≤ n) : L53_1 k n t f (m : Int) (m : Int) = r53 f := by
  obtain ⟨n, rfl⟩ : ∃ i, n = i + 1 := ⟨n - 1, by omega⟩
  rw [sL53_1]
  have hd : decide ((m : Int) < (m : Int)) = false := by simp
  rw [hd]
  rfl
theorem lsS (k n : Nat) (t : List PV) (m i f f2 : Nat) (hn : 1 ≤ n) (hi : i < m) (hm : m ≤ 5) (hf : 1 ≤ f) (hf2 : f ≤ 10000) (hc : c53 k t ((f - 1 : Nat) : Int) = r53 (f2 : Int)) : L53_1 k n t (f : Int) (m : Int) (i : Int) = L53_1 k (n - 1) t (f2 : Int) (m : Int) ((i + 1 : Nat) : Int) := by
  obtain ⟨n, rfl⟩ : ∃ i, n = i + 1 := ⟨n - 1, by omega⟩
  rw [sL53_1]
  have hd : decide ((i : Int) < (m : Int)) = true := by (simp; try omega)
  rw [hd, i64_id (n := (f : Int) - 1) (by omega) (by omega), show (f : Int) - 1 = ((f - 1 : Nat) : Int) by omega, hc]
  simp only [cond_true, R53_r]
  rw [i64_id (by omega) (by omega), show (i : Int) + 1 = ((i + 1 : Nat) : Int) by omega]
  rfl
theorem lsC {k : Nat} (hk : 10 ≤ k) {T : Tr} {t pre suf : List Nd} (h : t = pre ++ T.flat ++ suf) : c53 k (encT t) ((pre.length + T.flat.length - 1 : Nat) : Int) = L53_1 (k - 1) (k - 1) (encT t) ((pre.length + T.flat.length - 1 : Nat) : Int) ((need T.root.1).1 : Nat) ((0 : Nat) : Int) := by
  obtain ⟨k, rfl⟩ : ∃ i, k = i + 1 := ⟨k - 1, by omega⟩
  rw [n53, root_at h]
  simp only [Option.bind_some, encN_op]
  rw [operandsOf_ok (by omega)]
  simp only [R41_r, Nat.add_sub_cancel]
  rfl
theorem start_tree {wide vars : Int} : ∀ (T : Tr) (t pre suf : List Nd) (k : Nat), T.ok wide vars → t = pre ++ T.flat ++ suf → t.length ≤ 1000 → 300 + T.flat.length ≤ k → c53 k (encT t) ((pre.length + T.flat.length - 1 : Nat) : Int) = r53 (pre.length : Int) := by
  intro T
  induction T with
  | leaf x =>
    intro t pre suf k h ht hl hk
    rw [lsC (by omega) ht, show (need (Tr.leaf x).root.1).1 = 0 from h.1, ls0 _ _ _ _ _ (by omega)]
    simp [Tr.flat]
  | un x a iha0 =>
    intro t pre suf k h ht hl hk
    obtain ⟨h1, h2, h3, h4, h5⟩ := h
    have hp := a.flat_pos
    have hfl : (Tr.un x a).flat.length = a.flat.length + 1 := by simp [Tr.flat]
    have ht2 : t = pre ++ a.flat ++ ([x] ++ suf) := by rw [ht]; simp [Tr.flat]
    have htl : t.length = pre.length + a.flat.length + 1 + suf.length := by rw [ht2]; (simp; try omega)
    have ih := iha0 t pre ([x] ++ suf) (k - 1) h5 ht2 hl (by omega)
    rw [lsC (by omega) ht, show (need (Tr.un x a).root.1).1 = 1 from h1, lsS (k - 1) (k - 1) (encT t) 1 0 _ pre.length (by omega) (by omega) (by omega) (by omega) (by omega) (by rw [show pre.length + (Tr.un x a).flat.length - 1 - 1 = pre.length + a.flat.length - 1 by omega]; exact ih)]
    exact ls0 _ _ _ _ 1 (by omega)
  | bin x a b iha0 ihb0 =>
    intro t pre suf k h ht hl hk
    obtain ⟨h1, h2, h3, h4, h5, h6, h7⟩ := h
    have hp := a.flat_pos
    have hq := b.flat_pos
    have hfl : (Tr.bin x a b).flat.length = a.flat.length + b.flat.length + 1 := by (simp [Tr.flat]; try omega)
    have ht2 : t = (pre ++ a.flat) ++ b.flat ++ ([x] ++ suf) := by rw [ht]; simp [Tr.flat]
    have ht3 : t = pre ++ a.flat ++ (b.flat ++ [x] ++ suf) := by rw [ht]; simp [Tr.flat]
    have htl : t.length = pre.length + a.flat.length + b.flat.length + 1 + suf.length := by rw [ht2]; (simp; try omega)
    have ihb := ihb0 t (pre ++ a.flat) ([x] ++ suf) (k - 1) h7 ht2 hl (by omega)
    have iha := iha0 t pre (b.flat ++ [x] ++ suf) (k - 1) h6 ht3 hl (by omega)
    rw [List.length_append] at ihb
    rw [lsC (by omega) ht, show (need (Tr.bin x a b).root.1).1 = 2 from h1, lsS (k - 1) (k - 1) (encT t) 2 0 _ (pre.length + a.flat.length) (by omega) (by omega) (by omega) (by omega) (by omega) (by rw [show pre.length + (Tr.bin x a b).flat.length - 1 - 1 = pre.length + a.flat.length + b.flat.length - 1 by omega]; exact ihb)]
    rw [lsS (k - 1) (k - 1 - 1) (encT t) 2 (0 + 1) _ pre.length (by omega) (by omega) (by omega) (by omega) (by omega) iha]
    exact ls0 _ _ _ _ 2 (by omega)
theorem okV_le {wide k : Int} (hw : isW wide = true) {v : W} (h : okV wide k v) : v ≤ mk wide := by
  rcases h with h | h
  · exact h.2
  · refine BitVec.le_trans h.2 ?_
    exact le_of_cut hw (by have := tr_cut hw true; simpa [tr] using this)
theorem value_tree {wide vars : Int} (hw : isW wide = true) (hv : isV vars = true) {s : List W} (hg : ∀ a ∈ s, a ≤ mk wide) : ∀ (T : Tr) (t pre suf : List Nd) (k : Nat), T.ok wide vars → T.inS s → t = pre ++ T.flat ++ suf → t.length ≤ 1000 → 600 + T.flat.length ≤ k → c23 k wide (encT t) ((pre.length + T.flat.length - 1 : Nat) : Int) (encW s) = r23 (wi (T.val wide s)) := by
  intro T
  induction T with
  | leaf x =>
    intro t pre suf k h hi ht hl hk
    obtain ⟨k, rfl⟩ : ∃ i, k = i + 1 := ⟨k - 1, by omega⟩
    obtain ⟨h1, h2, h3⟩ := h
    have h0' : ((((need x.1).1 : Nat) : Int) == 0) = true := by simp [h1]
    rw [n23, root_at ht]
    simp only [Option.bind_some, encN_shp, encN_op, encN_n, cond_true, Tr.root]
    rw [needS_ok (by omega)]
    simp only [R49_r, h0', cond_true, Tr.val]
    by_cases c : x.1 = 2
    · have h2' : (x.1 == 2) = true := by simpa using c
      have hlt := hi c
      have e4 : (wi x.2).toNat = x.2.toNat := by simp [wi]
      rw [h2', lookP_int (wi_nonneg _), encW_get, e4, List.getElem?_eq_getElem hlt, if_pos c]
      simp only [cond_true, Option.map_some, Option.bind_some, int_atInt, Option.getD_some]
    · have h2' : (x.1 == 2) = false := by simpa using c
      rw [h2', if_neg c]
      simp only [cond_false]
  | un x a iha0 =>
    intro t pre suf k h hi ht hl hk
    obtain ⟨h1, h2, h3, h4, h5⟩ := h
    have hp := a.flat_pos
    have hfl : (Tr.un x a).flat.length = a.flat.length + 1 := by simp [Tr.flat]
    have ht2 : t = pre ++ a.flat ++ ([x] ++ suf) := by rw [ht]; simp [Tr.flat]
    have htl : t.length = pre.length + a.flat.length + 1 + suf.length := by rw [ht2]; (simp; try omega)
    obtain ⟨k, rfl⟩ : ∃ i, k = i + 1 := ⟨k - 1, by omega⟩
    have ih := iha0 t pre ([x] ++ suf) k h5 hi ht2 hl (by omega)
    have h0' : ((((need x.1).1 : Nat) : Int) == 0) = false := by simp [h1]
    have h2' : (x.1 == 2) = false := by rcases need_un h2 h1 with c | c <;> simp [c]
    rw [n23, root_at ht]
    simp only [Option.bind_some, encN_shp, encN_op, encN_n, cond_true, Tr.root]
    rw [needS_ok (by omega), hfl, i64_id (n := ((pre.length + (a.flat.length + 1) - 1 : Nat) : Int) - 1) (by omega) (by omega), show ((pre.length + (a.flat.length + 1) - 1 : Nat) : Int) - 1 = ((pre.length + a.flat.length - 1 : Nat) : Int) by omega, ih]
    simp only [R49_r, h2', h0', cond_false, R23_r, Tr.val]
    rcases need_un h2 h1 with c | c
    · have e13 : (x.1 == 13) = true := by simpa using c
      have e2 : (18446744073709551615 : Int) = wi (BitVec.allOnes 64) := rfl
      rw [e13, e2, xor_wi, cutM_ok (by omega) hw, BitVec.allOnes_xor, if_pos c]
      simp only [cond_true, R50_r]
    · have e13 : (x.1 == 13) = false := by simp [c]
      have e19 : (x.1 == 19) = true := by simpa using c
      have e1 : (1 : Int) = wi 1#64 := rfl
      rw [e13, e19, e1, sub_wi, if_neg (by omega)]
      simp only [cond_true, cond_false]
  | bin x a b iha0 ihb0 =>
    intro t pre suf k h hi ht hl hk
    obtain ⟨h1, h2, h3, h4, h5, h6, h7⟩ := h
    obtain ⟨c1, c2, c3, c4, c5⟩ := need_bin h2 h1
    have hp := a.flat_pos
    have hq := b.flat_pos
    have hfl : (Tr.bin x a b).flat.length = a.flat.length + b.flat.length + 1 := by (simp [Tr.flat]; try omega)
    have ht2 : t = (pre ++ a.flat) ++ b.flat ++ ([x] ++ suf) := by rw [ht]; simp [Tr.flat]
    have ht3 : t = pre ++ a.flat ++ (b.flat ++ [x] ++ suf) := by rw [ht]; simp [Tr.flat]
    have htl : t.length = pre.length + a.flat.length + b.flat.length + 1 + suf.length := by rw [ht2]; (simp; try omega)
    obtain ⟨k, rfl⟩ : ∃ i, k = i + 1 := ⟨k - 1, by omega⟩
    have ihb := ihb0 t (pre ++ a.flat) ([x] ++ suf) k h7 hi.2 ht2 hl (by omega)
    have iha := iha0 t pre (b.flat ++ [x] ++ suf) k h6 hi.1 ht3 hl (by omega)
    have hfr := from_tree b t (pre ++ a.flat) ([x] ++ suf) k h7 ht2 hl (by omega)
    rw [List.length_append] at ihb hfr
    have ham := okV_le hw (a.val_ok hw hv hg h6)
    have hbm := okV_le hw (b.val_ok hw hv hg h7)
    have h0' : ((((need x.1).1 : Nat) : Int) == 0) = false := by simp [h1]
    have e2 : (x.1 == 2) = false := by simpa using c3
    have e13 : (x.1 == 13) = false := by simpa using c4
    have e19 : (x.1 == 19) = false := by simpa using c5
    rw [n23, root_at ht]
    simp only [Option.bind_some, encN_shp, encN_op, encN_n, cond_true, Tr.root]
    rw [needS_ok (by omega), hfl, i64_id (n := ((pre.length + (a.flat.length + b.flat.length + 1) - 1 : Nat) : Int) - 1) (by omega) (by omega), show ((pre.length + (a.flat.length + b.flat.length + 1) - 1 : Nat) : Int) - 1 = ((pre.length + a.flat.length + b.flat.length - 1 : Nat) : Int) by omega, ihb, hfr]
    simp only [R49_r, e2, h0', e13, e19, cond_false, R23_r, R52_r, Tr.val]
    rw [i64_id (n := ((pre.length + a.flat.length : Nat) : Int) - 1) (by omega) (by omega), show ((pre.length + a.flat.length : Nat) : Int) - 1 = ((pre.length + a.flat.length - 1 : Nat) : Int) by omega, iha]
    simp only [R23_r]
    rw [l2Do_ok (by omega) hw _ _ _ ham hbm]
    simp only [R51_r]
theorem fold_const {wide vars : Int} : ∀ (T : Tr), T.ok wide vars → T.noVars = true → T.fold wide = numT wide T
  | .leaf x, h, hn => by
    obtain ⟨h1, h2, h3⟩ := h
    have c2 : x.1 ≠ 2 := by simpa [Tr.noVars] using hn
    have hk : (Tr.leaf x).kind = (need x.1).2.2 := rfl
    rw [Tr.fold_leaf]
    unfold numT
    rw [hk]
    congr 1
    refine Prod.ext ?_ ?_
    · rcases need_leaf h2 h1 with c | c | c
      · simp only [c]; decide
      · simp only [c]; decide
      · exact absurd c c2
    · simp only [Tr.val]
      rw [if_neg c2]
  | .un x a, h, hn => by rw [Tr.fold_un]; exact if_pos hn
  | .bin x a b, h, hn => by rw [Tr.fold_bin]; exact if_pos hn
end Go.Proofs.Ytocmjgfbcpgaoaa
