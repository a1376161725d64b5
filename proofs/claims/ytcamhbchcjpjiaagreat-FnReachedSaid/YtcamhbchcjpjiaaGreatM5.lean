/- The law FnReached of the program: for all arguments it returns true, and its arguments read as they did. -/
import Derived.Test.YtcamhbchcjpjiaaGreatM4
import Derived.Test.YtcamhbchcjpjiaaGreatM2
import Derived.Test.YtcamhbchcjpjiaaGreatRows
import Derived.WalkKit
import Derived.ProofKit
import Derived.OpenShut
import Derived.ShutString
import Derived.ChangeOld
import Derived.Below
import Derived.SizedLaws
/- Folding: the functions. -/
set_option linter.unusedVariables false
set_option linter.unusedSimpArgs false
set_option maxRecDepth 4000
namespace Go.Proofs.YtcamhbchcjpjiaaGreat
open Go.Dp

theorem w10 : IntKind.i64.wrap (((1 : Nat) : Int) - 1) = 0 := (i64_id (by omega) (by omega)).trans (by omega)
theorem w21 : IntKind.i64.wrap (((2 : Nat) : Int) - 1) = 1 := (i64_id (by omega) (by omega)).trans (by omega)
theorem w1 : IntKind.i64.wrap ((1 : Int) - 1) = 0 := (i64_id (by omega) (by omega)).trans (by omega)
theorem w01 : IntKind.i64.wrap ((0 : Int) + 1) = 1 := (i64_id (by omega) (by omega)).trans (by omega)
theorem w12 : IntKind.i64.wrap ((1 : Int) + 1) = 2 := (i64_id (by omega) (by omega)).trans (by omega)
theorem root_at {T : Tr} {t pre suf : List Nd} (h : t = pre ++ T.flat ++ suf) : lookP (encT t) ((pre.length + T.flat.length - 1 : Nat) : Int) = some (encN T.root) := by
  obtain ⟨r, hr⟩ := T.flat_last
  have hl : T.flat.length = r.length + 1 := by rw [hr]; simp
  have e : t[pre.length + r.length]? = some T.root := by
    rw [h, hr, List.append_assoc, List.getElem?_append_right (Nat.le_add_right _ _), Nat.add_sub_cancel_left, List.append_assoc, List.getElem?_append_right (Nat.le_refl _), Nat.sub_self]
    rfl
  rw [hl, show pre.length + (r.length + 1) - 1 = pre.length + r.length by omega, lookP_nat, encT_get, e]
  rfl
theorem lf0 (k n : Nat) (t : List PV) (f : Int) (hn : 1 ≤ n) : L153_1 k n t ((0 : Nat) : Int) f = r153 f := by
  obtain ⟨n, rfl⟩ : ∃ i, n = i + 1 := ⟨n - 1, by omega⟩
  rw [sL153_1]
  rfl
theorem lfS (k n : Nat) (t : List PV) (a f f2 : Nat) (hn : 1 ≤ n) (hf : 1 ≤ f) (hf2 : f ≤ 10000) (ha : a ≤ 5) (hc : c153 k t ((f - 1 : Nat) : Int) = r153 (f2 : Int)) : L153_1 k n t ((a + 1 : Nat) : Int) (f : Int) = L153_1 k (n - 1) t (a : Int) (f2 : Int) := by
  obtain ⟨n, rfl⟩ : ∃ i, n = i + 1 := ⟨n - 1, by omega⟩
  rw [sL153_1]
  have hd : decide (((a + 1 : Nat) : Int) > 0) = true := by (simp; try omega)
  rw [hd, i64_id (n := (f : Int) - 1) (by omega) (by omega), show (f : Int) - 1 = ((f - 1 : Nat) : Int) by omega, hc]
  simp only [cond_true, R153_r]
  rw [i64_id (by omega) (by omega), show ((a + 1 : Nat) : Int) - 1 = (a : Int) by omega]
  rfl
theorem lfC {k : Nat} (hk : 10 ≤ k) {T : Tr} {t pre suf : List Nd} (h : t = pre ++ T.flat ++ suf) : c153 k (encT t) ((pre.length + T.flat.length - 1 : Nat) : Int) = L153_1 (k - 1) (k - 1) (encT t) ((need T.root.1).1 : Nat) ((pre.length + T.flat.length - 1 : Nat) : Int) := by
  obtain ⟨k, rfl⟩ : ∃ i, k = i + 1 := ⟨k - 1, by omega⟩
  rw [n153, root_at h]
  simp only [Option.bind_some, encN_op]
  rw [needS_ok (by omega)]
  simp only [R150_r, Nat.add_sub_cancel]
theorem from_tree {wide vars : Int} : ∀ (T : Tr) (t pre suf : List Nd) (k : Nat), T.ok wide vars → t = pre ++ T.flat ++ suf → t.length ≤ 1000 → 300 + T.flat.length ≤ k → c153 k (encT t) ((pre.length + T.flat.length - 1 : Nat) : Int) = r153 (pre.length : Int) := by
  intro T
  induction T with
  | leaf x =>
    intro t pre suf k h ht hl hk
    rw [lfC (by omega) ht, show (need (Tr.leaf x).root.1).1 = 0 from h.1, lf0 _ _ _ _ (by omega)]
    simp [Tr.flat]
  | un x a iha0 =>
    intro t pre suf k h ht hl hk
    obtain ⟨h1, h2, h3, h4, h5⟩ := h
    have hp := a.flat_pos
    have hfl : (Tr.un x a).flat.length = a.flat.length + 1 := by simp [Tr.flat]
    have ht2 : t = pre ++ a.flat ++ ([x] ++ suf) := by rw [ht]; simp [Tr.flat]
    have htl : t.length = pre.length + a.flat.length + 1 + suf.length := by rw [ht2]; (simp; try omega)
    have ih := iha0 t pre ([x] ++ suf) (k - 1) h5 ht2 hl (by omega)
    rw [lfC (by omega) ht, show (need (Tr.un x a).root.1).1 = 0 + 1 from h1, lfS (k - 1) (k - 1) (encT t) 0 _ pre.length (by omega) (by omega) (by omega) (by omega) (by rw [show pre.length + (Tr.un x a).flat.length - 1 - 1 = pre.length + a.flat.length - 1 by omega]; exact ih)]
    exact lf0 _ _ _ _ (by omega)
  | bin x a b iha0 ihb0 =>
    intro t pre suf k h ht hl hk
    obtain ⟨h1, h2, h3, h4, h5, h6, h7⟩ := h
    have hp := a.flat_pos
    have hq := b.flat_pos
    have hfl : (Tr.bin x a b).flat.length = a.flat.length + b.flat.length + 1 := by (simp [Tr.flat]; try omega)
    have ht2 : t = (pre ++ a.flat) ++ b.flat ++ ([x] ++ suf) := by rw [ht]; simp [Tr.flat]
    have ht3 : t = pre ++ a.flat ++ (b.flat ++ [x] ++ suf) := by rw [ht]; simp [Tr.flat]
    have htl : t.length = pre.length + a.flat.length + b.flat.length + 1 + suf.length := by rw [ht2]; (simp; try omega)
    have ihb := ihb0 t (pre ++ a.flat) ([x] ++ suf) (k - 1) h7 ht2 hl (by omega)
    have iha := iha0 t pre (b.flat ++ [x] ++ suf) (k - 1) h6 ht3 hl (by omega)
    rw [List.length_append] at ihb
    rw [lfC (by omega) ht, show (need (Tr.bin x a b).root.1).1 = 1 + 1 from h1, lfS (k - 1) (k - 1) (encT t) 1 _ (pre.length + a.flat.length) (by omega) (by omega) (by omega) (by omega) (by rw [show pre.length + (Tr.bin x a b).flat.length - 1 - 1 = pre.length + a.flat.length + b.flat.length - 1 by omega]; exact ihb)]
    rw [show ((1 : Nat) : Int) = ((0 + 1 : Nat) : Int) from rfl, lfS (k - 1) (k - 1 - 1) (encT t) 0 _ pre.length (by omega) (by omega) (by omega) (by omega) iha]
    exact lf0 _ _ _ _ (by omega)
theorem okV_le {wide k : Int} (hw : isW wide = true) {v : W} (h : okV wide k v) : v ≤ mk wide := by
  rcases h with h | h
  · exact h.2
  · refine BitVec.le_trans h.2 ?_
    exact le_of_cut hw (by have := tr_cut hw true; simpa [tr] using this)
theorem value_tree {wide vars : Int} (hw : isW wide = true) (hv : isV vars = true) {s : List W} (hg : ∀ a ∈ s, a ≤ mk wide) : ∀ (T : Tr) (t pre suf : List Nd) (k : Nat), T.ok wide vars → T.inS s → t = pre ++ T.flat ++ suf → t.length ≤ 1000 → 600 + T.flat.length ≤ k → c122 k wide (encT t) ((pre.length + T.flat.length - 1 : Nat) : Int) (encW s) = r122 (wi (T.val wide s)) := by
  intro T
  induction T with
  | leaf x =>
    intro t pre suf k h hi ht hl hk
    obtain ⟨k, rfl⟩ : ∃ i, k = i + 1 := ⟨k - 1, by omega⟩
    obtain ⟨h1, h2, h3⟩ := h
    have h0' : ((((need x.1).1 : Nat) : Int) == 0) = true := by simp [h1]
    rw [n122, root_at ht]
    simp only [Option.bind_some, encN_shp, encN_op, encN_n, cond_true, Tr.root]
    rw [needS_ok (by omega)]
    simp only [R150_r, h0', cond_true, Tr.val]
    by_cases c : x.1 = 2
    · have h2' : (x.1 == 2) = true := by simpa using c
      have hlt := hi c
      have e4 : (wi x.2).toNat = x.2.toNat := by simp [wi]
      rw [h2', lookP_int (wi_nonneg _), encW_get, e4, List.getElem?_eq_getElem hlt, if_pos c]
      simp only [cond_true, Option.map_some, Option.bind_some, int_atInt, Option.getD_some]
    · have h2' : (x.1 == 2) = false := by simpa using c
      rw [h2', if_neg c]
      simp only [cond_false]
  | un x a iha0 =>
    intro t pre suf k h hi ht hl hk
    obtain ⟨h1, h2, h3, h4, h5⟩ := h
    have hp := a.flat_pos
    have hfl : (Tr.un x a).flat.length = a.flat.length + 1 := by simp [Tr.flat]
    have ht2 : t = pre ++ a.flat ++ ([x] ++ suf) := by rw [ht]; simp [Tr.flat]
    have htl : t.length = pre.length + a.flat.length + 1 + suf.length := by rw [ht2]; (simp; try omega)
    obtain ⟨k, rfl⟩ : ∃ i, k = i + 1 := ⟨k - 1, by omega⟩
    have ih := iha0 t pre ([x] ++ suf) k h5 hi ht2 hl (by omega)
    have h0' : ((((need x.1).1 : Nat) : Int) == 0) = false := by simp [h1]
    have h2' : (x.1 == 2) = false := by rcases need_un h2 h1 with c | c <;> simp [c]
    rw [n122, root_at ht]
    simp only [Option.bind_some, encN_shp, encN_op, encN_n, cond_true, Tr.root]
    rw [needS_ok (by omega), hfl, i64_id (n := ((pre.length + (a.flat.length + 1) - 1 : Nat) : Int) - 1) (by omega) (by omega), show ((pre.length + (a.flat.length + 1) - 1 : Nat) : Int) - 1 = ((pre.length + a.flat.length - 1 : Nat) : Int) by omega, ih]
    simp only [R150_r, h2', h0', cond_false, R122_r, Tr.val]
    rcases need_un h2 h1 with c | c
    · have e13 : (x.1 == 13) = true := by simpa using c
      have e2 : (18446744073709551615 : Int) = wi (BitVec.allOnes 64) := rfl
      rw [e13, e2, xor_wi, cutM_ok (by omega) hw, BitVec.allOnes_xor, if_pos c]
      simp only [cond_true, R148_r]
    · have e13 : (x.1 == 13) = false := by simp [c]
      have e19 : (x.1 == 19) = true := by simpa using c
      have e1 : (1 : Int) = wi 1#64 := rfl
      rw [e13, e19, e1, sub_wi, if_neg (by omega)]
      simp only [cond_true, cond_false]
  | bin x a b iha0 ihb0 =>
    intro t pre suf k h hi ht hl hk
    obtain ⟨h1, h2, h3, h4, h5, h6, h7⟩ := h
    obtain ⟨c1, c2, c3, c4, c5⟩ := need_bin h2 h1
    have hp := a.flat_pos
    have hq := b.flat_pos
    have hfl : (Tr.bin x a b).flat.length = a.flat.length + b.flat.length + 1 := by (simp [Tr.flat]; try omega)
    have ht2 : t = (pre ++ a.flat) ++ b.flat ++ ([x] ++ suf) := by rw [ht]; simp [Tr.flat]
    have ht3 : t = pre ++ a.flat ++ (b.flat ++ [x] ++ suf) := by rw [ht]; simp [Tr.flat]
    have htl : t.length = pre.length + a.flat.length + b.flat.length + 1 + suf.length := by rw [ht2]; (simp; try omega)
    obtain ⟨k, rfl⟩ : ∃ i, k = i + 1 := ⟨k - 1, by omega⟩
    have ihb := ihb0 t (pre ++ a.flat) ([x] ++ suf) k h7 hi.2 ht2 hl (by omega)
    have iha := iha0 t pre (b.flat ++ [x] ++ suf) k h6 hi.1 ht3 hl (by omega)
    have hfr := from_tree b t (pre ++ a.flat) ([x] ++ suf) k h7 ht2 hl (by omega)
    rw [List.length_append] at ihb hfr
    have ham := okV_le hw (a.val_ok hw hv hg h6)
    have hbm := okV_le hw (b.val_ok hw hv hg h7)
    have h0' : ((((need x.1).1 : Nat) : Int) == 0) = false := by simp [h1]
    have e2 : (x.1 == 2) = false := by simpa using c3
    have e13 : (x.1 == 13) = false := by simpa using c4
    have e19 : (x.1 == 19) = false := by simpa using c5
    rw [n122, root_at ht]
    simp only [Option.bind_some, encN_shp, encN_op, encN_n, cond_true, Tr.root]
    rw [needS_ok (by omega), hfl, i64_id (n := ((pre.length + (a.flat.length + b.flat.length + 1) - 1 : Nat) : Int) - 1) (by omega) (by omega), show ((pre.length + (a.flat.length + b.flat.length + 1) - 1 : Nat) : Int) - 1 = ((pre.length + a.flat.length + b.flat.length - 1 : Nat) : Int) by omega, ihb, hfr]
    simp only [R150_r, e2, h0', e13, e19, cond_false, R122_r, R153_r, Tr.val]
    rw [i64_id (n := ((pre.length + a.flat.length : Nat) : Int) - 1) (by omega) (by omega), show ((pre.length + a.flat.length : Nat) : Int) - 1 = ((pre.length + a.flat.length - 1 : Nat) : Int) by omega, iha]
    simp only [R122_r]
    rw [l2Do_ok (by omega) hw _ _ _ ham hbm]
    simp only [R152_r]
theorem fold_const {wide vars : Int} : ∀ (T : Tr), T.ok wide vars → T.noVars = true → T.fold wide = numT wide T
  | .leaf x, h, hn => by
    obtain ⟨h1, h2, h3⟩ := h
    have c2 : x.1 ≠ 2 := by simpa [Tr.noVars] using hn
    have hk : (Tr.leaf x).kind = (need x.1).2.2 := rfl
    rw [Tr.fold_leaf]
    unfold numT
    rw [hk]
    congr 1
    refine Prod.ext ?_ ?_
    · rcases need_leaf h2 h1 with c | c | c
      · simp only [c]; decide
      · simp only [c]; decide
      · exact absurd c c2
    · simp only [Tr.val]
      rw [if_neg c2]
  | .un x a, h, hn => by rw [Tr.fold_un]; exact if_pos hn
  | .bin x a b, h, hn => by rw [Tr.fold_bin]; exact if_pos hn
end Go.Proofs.YtcamhbchcjpjiaaGreat
/- FnFolded: folding's functions and the law. -/
set_option linter.unusedVariables false
set_option linter.unusedSimpArgs false
set_option maxRecDepth 4000
namespace Go.Proofs.YtcamhbchcjpjiaaGreat
open Go.Dp

theorem slice_tree {T : Tr} {t pre suf : List Nd} (h : t = pre ++ T.flat ++ suf) (e : Nat) (he : e = pre.length + T.flat.length) : ((encT t).take e).drop pre.length = encT T.flat := by
  rw [encT_take, he, h]
  have e1 : (pre ++ T.flat ++ suf).take (pre.length + T.flat.length) = pre ++ T.flat := by
    rw [List.take_append_of_le_length (by simp), List.take_of_length_le (by simp)]
  rw [e1]
  simp [encT]
theorem fold_leafvar {wide vars : Int} {x : Nd} (h : (Tr.leaf x).ok wide vars) : (Tr.leaf x).fold wide = .leaf x := rfl
theorem root_kind {wide vars : Int} {T : Tr} : T.kind = (need T.root.1).2.2 := rfl
theorem canI_beq (l : List Int) : (((canI l).length : Int) == 0) = decide (l = []) := by
  rw [Bool.eq_iff_iff, decide_eq_true_eq, ← canI_nil, beq_iff_eq]
  omega
end Go.Proofs.YtcamhbchcjpjiaaGreat
/- FnFolded: the law. -/
set_option linter.unusedVariables false
set_option linter.unusedSimpArgs false
set_option maxRecDepth 4000
namespace Go.Proofs.YtcamhbchcjpjiaaGreat
open Go.Dp

theorem good_len {wide vars : Int} {t : List Nd} (h : goodT wide vars t = true) : isW wide = true ∧ isV vars = true ∧ t.length ≤ 48 := by
  have hs := (goodT_iff.1 h).1
  simp only [sizeT, Bool.and_eq_true, decide_eq_true_eq] at hs
  exact ⟨hs.1.1.1, hs.1.1.2, hs.2⟩
end Go.Proofs.YtcamhbchcjpjiaaGreat
/- Steps between numbered states. -/
set_option linter.unusedVariables false
set_option linter.unusedSimpArgs false
set_option maxRecDepth 4000
namespace Go.Proofs.YtcamhbchcjpjiaaGreat
open Go.Dp

/-! ### Where a command leads -/
def aft (p : Prg) (c : Cmd) (no : Int) : List W := afterS p.wide (sto p no) c.ch (sto p no)
def toN (p : Prg) (c : Cmd) (no : Int) : Int := (noOf (pw p) (aft p c no) : Nat)
theorem toN_ok {p : Prg} (hp : FitP p) (hs : smallP p = true) {k1 : Int} (hn : cnoOK p k1 = true) {no : Int} (hi : inS p no) : stOK p (aft p (cmdAt p k1) no) = true ∧ inS p (toN p (cmdAt p k1) no) ∧ sto p (toN p (cmdAt p k1) no) = aft p (cmdAt p k1) no := by
  obtain ⟨hw, hv, _, _, _, _, hx⟩ := good_cmd hp (k1 := k1) (by simp [tOK, small_good hs, hn])
  obtain ⟨h1, h2⟩ := (stOK_of hw).1 (sto_ok hs hi)
  have h3 : stOK p (aft p (cmdAt p k1) no) = true := (stOK_of hw).2 ⟨by rw [aft, afterS_length]; exact h1, afterS_all h1 h2 _ _ (fun x h => (hx x h).2.2) h2⟩
  exact ⟨h3, no_inS hs h3⟩
theorem afterN_ok {k : Nat} (hk : 1000020 ≤ k) {p : Prg} (hp : FitP p) (hs : smallP p = true) {k1 : Int} (hn : cnoOK p k1 = true) (l1 l2 l3 : List PV) {no : Int} (hi : inS p no) : c110 k p.wide p.vars l1 l2 l3 (encChs (cmdAt p k1).ch) (encW (sto p no)) = r110 (encW (aft p (cmdAt p k1) no)) := by
  obtain ⟨hw, hv, _, _, hf, _, hx⟩ := good_cmd hp (k1 := k1) (by simp [tOK, small_good hs, hn])
  have hso := sto_ok hs hi
  obtain ⟨h1, h2⟩ := (stOK_of hw).1 hso
  have hsl := st_len hp hso
  have hfc := hf.ch
  exact after_ok (by omega) p hw l1 l2 l3 _ (by omega) h1 h2 _ (by omega) (fun x h => ⟨(hx x h).1, (hx x h).2.1, (hx x h).2.2, hf.by1 x h⟩)
theorem doN_ok {k : Nat} (hk : 1000020 ≤ k) {p : Prg} (hp : FitP p) (hs : smallP p = true) {k1 : Int} (hn : cnoOK p k1 = true) (l1 : List PV) {no : Int} (hi : inS p no) : c117 k p.wide p.vars l1 (encCms p.cmds) (encW (sto p no)) k1 = r117 (encW (aft p (cmdAt p k1) no)) := by
  obtain ⟨k, rfl⟩ : ∃ j, k = j + 1 := ⟨k - 1, by omega⟩
  obtain ⟨hw, hv, _, _, hf, _, hx⟩ := good_cmd hp (k1 := k1) (by simp [tOK, small_good hs, hn])
  have hso := sto_ok hs hi
  obtain ⟨h1, h2⟩ := (stOK_of hw).1 hso
  have hsl := st_len hp hso
  have hfc := hf.ch
  obtain ⟨hget, hm⟩ := cmdAt_get hn
  rw [n117, hget, encW_length, lim_ok (by omega) (by omega)]
  simp only [cond_true, Option.bind_some, encCm_ch, encChs_length, List.nil_append, Nat.zero_add]
  have := do_loop (k := k) (by omega) p hw l1 (encCms p.cmds) _ h1 h2 (cmdAt p k1).ch (by omega) (fun x h => ⟨(hx x h).1, (hx x h).2.1, (hx x h).2.2, hf.by1 x h⟩) k 0 _ (by omega) (by omega) rfl
  exact this
theorem cmd_kind {p : Prg} (hp : FitP p) (hs : smallP p = true) {k1 : Int} (hn : cnoOK p k1 = true) : (cmdAt p k1).wh.length ≤ 100 ∧ kindT p.wide p.vars (cmdAt p k1).wh = 2 := by
  obtain ⟨hw, hv, _, _, hf, h1, hx⟩ := good_cmd hp (k1 := k1) (by simp [tOK, small_good hs, hn])
  exact ⟨hf.wh, h1⟩
end Go.Proofs.YtcamhbchcjpjiaaGreat
/- The states that one step reaches: both sides; those of many states, the reference's reachable ones. -/
set_option linter.unusedVariables false
set_option linter.unusedSimpArgs false
set_option maxRecDepth 4000
namespace Go.Proofs.YtcamhbchcjpjiaaGreat
open Go.Dp

/-! ### Successors -/
def sucL (p : Prg) (no : Int) : List Cmd → List Int
  | [] => []
  | c :: l => (bif hN p c.wh no then [toN p c no] else []) ++ sucL p no l
theorem sucL_len (p : Prg) (no : Int) : ∀ l : List Cmd, (sucL p no l).length ≤ l.length
  | [] => by simp [sucL]
  | c :: l => by
    have := sucL_len p no l
    simp only [sucL, List.length_append, List.length_cons]
    cases hN p c.wh no <;> simp <;> omega
theorem sucL_mem (p : Prg) (no : Int) : ∀ (l : List Cmd) (y : Int), y ∈ sucL p no l ↔ ∃ c ∈ l, hN p c.wh no = true ∧ y = toN p c no
  | [], y => by simp [sucL]
  | c :: l, y => by
    simp only [sucL, List.mem_append, sucL_mem p no l y]
    cases hh : hN p c.wh no <;> simp [hh]
def nxL (p : Prg) (no : Int) : List Int := bif (sucL p no p.cmds).isEmpty then [no] else canI (sucL p no p.cmds)
theorem canI_nil' {l : List Int} (h : l ≠ []) : canI l ≠ [] := by
  intro h2
  obtain ⟨x, hx⟩ := List.exists_mem_of_ne_nil _ h
  have := ((canI_spec l).2 x).2 hx
  rw [h2] at this
  cases this
theorem cmd_at {p : Prg} {i : Nat} (h : i < p.cmds.length) : cmdAt p (i : Int) = p.cmds[i] ∧ cnoOK p (i : Int) = true := by
  refine ⟨?_, by simp [cnoOK, h]⟩
  unfold cmdAt
  rw [Int.toNat_natCast, List.getElem?_eq_getElem h]
  rfl
theorem nxL_mem {p : Prg} {no y : Int} : y ∈ nxL p no ↔ (∃ c ∈ p.cmds, hN p c.wh no = true ∧ y = toN p c no) ∨ ((∀ c ∈ p.cmds, hN p c.wh no = false) ∧ y = no) := by
  unfold nxL
  cases he : (sucL p no p.cmds).isEmpty
  · have hne : sucL p no p.cmds ≠ [] := by intro h; rw [h] at he; cases he
    simp only [cond_false]
    rw [(canI_spec _).2 y, sucL_mem]
    constructor
    · exact .inl
    · rintro (h | ⟨h, _⟩)
      · exact h
      · obtain ⟨x, hx⟩ := List.exists_mem_of_ne_nil _ hne
        obtain ⟨c, hc, h2, _⟩ := (sucL_mem p no p.cmds x).1 hx
        rw [h c hc] at h2
        cases h2
  · have hnil : sucL p no p.cmds = [] := by simpa using he
    simp only [cond_true, List.mem_singleton]
    have hno : ∀ c ∈ p.cmds, hN p c.wh no = false := by
      intro c hc
      cases hh : hN p c.wh no
      · rfl
      · have : toN p c no ∈ sucL p no p.cmds := (sucL_mem p no p.cmds _).2 ⟨c, hc, hh, rfl⟩
        rw [hnil] at this
        cases this
    constructor
    · exact fun h => .inr ⟨hno, h⟩
    · rintro (⟨c, hc, h2, _⟩ | ⟨_, h⟩)
      · rw [hno c hc] at h2; cases h2
      · exact h
theorem nxL_lt (p : Prg) (no : Int) : (nxL p no).Pairwise (· < ·) := by
  unfold nxL
  cases (sucL p no p.cmds).isEmpty
  · exact (canI_spec _).1
  · simp
theorem nxL_len {p : Prg} (hp : FitP p) (no : Int) : (nxL p no).length ≤ 6 := by
  have hcm := hp.cm
  unfold nxL
  cases (sucL p no p.cmds).isEmpty
  · have h1 := canI_len (sucL p no p.cmds)
    have h2 := sucL_len p no p.cmds
    simp only [cond_false]; omega
  · simp
theorem nxL_in {p : Prg} (hp : FitP p) (hs : smallP p = true) {no : Int} (hi : inS p no) : ∀ y ∈ nxL p no, inS p y := by
  intro y hy
  rcases nxL_mem.1 hy with ⟨c, hc, _, rfl⟩ | ⟨_, rfl⟩
  · obtain ⟨i, hil, rfl⟩ := List.getElem_of_mem hc
    obtain ⟨e, hn⟩ := cmd_at hil
    rw [← e]
    exact (toN_ok hp hs hn hi).2.1
  · exact hi
theorem nextI_loop {k : Nat} (hk : 1000100 ≤ k) {p : Prg} (hp : FitP p) (hs : smallP p = true) {no : Int} (hi : inS p no) (l1 : List PV) : ∀ (n i : Nat) (o : List Int), p.cmds.length - i < n → i ≤ p.cmds.length → o.length ≤ i →
    L53_1 k n no (encW (sto p no)) o.length (encCms p.cmds) (p.cmds.length : Int) (i : Int) p.wide p.vars l1 (encCms p.cmds) (encZ o) = r53 (encZ (bif (o ++ sucL p no (p.cmds.drop i)).isEmpty then [no] else canI (o ++ sucL p no (p.cmds.drop i))))
  | 0, i, o, h, hj, ho => by omega
  | n + 1, i, o, h, hj, ho => by
    have hcm := hp.cm
    have etk : (encZ o).take o.length = encZ o := by rw [List.take_of_length_le (by simp)]
    rw [sL53_1]
    by_cases hlt : i < p.cmds.length
    · have hd : decide ((i : Int) < (p.cmds.length : Int)) = true := by simpa using hlt
      have hnext : IntKind.i64.wrap ((i : Int) + 1) = ((i + 1 : Nat) : Int) := by rw [i64_id (by omega) (by omega)]; omega
      obtain ⟨e, hn⟩ := cmd_at hlt
      obtain ⟨hwl, hwk⟩ := cmd_kind hp hs hn
      rw [hd, lookP_nat, encCms_get, List.getElem?_eq_getElem hlt, drop_cons hlt, hnext, ← e]
      simp only [cond_true, Option.map_some, Option.bind_some, encCm_shp, encCm_wh, encCm_ch]
      rw [holdsI_ok (by omega) p (small_good hs) _ _ _ hwl hwk _ (sto_ok hs hi)]
      simp only [R51_r, sucL]
      change (bif hN p (cmdAt p (i : Int)).wh no then _ else _) = _
      cases hh : hN p (cmdAt p (i : Int)).wh no
      · simp only [cond_false, List.nil_append]
        exact nextI_loop hk hp hs hi l1 n (i + 1) o (by omega) (by omega) (by omega)
      · simp only [cond_true]
        rw [afterN_ok (by omega) hp hs hn _ _ _ hi]
        simp only [R110_r]
        rw [noI_ok (by omega) hs _ _ (toN_ok hp hs hn hi).1]
        simp only [R109_r]
        rw [lim_ok (by omega) (by omega), etk, encZ_snoc]
        simp only [cond_true]
        have := nextI_loop hk hp hs hi l1 n (i + 1) (o ++ [toN p (cmdAt p (i : Int)) no]) (by omega) (by omega) (by simp; omega)
        rw [List.length_append, List.append_assoc] at this
        exact this
    · have hd : decide ((i : Int) < (p.cmds.length : Int)) = false := by simpa using hlt
      have hol : decide (o.length ≤ LIM) = true := decide_eq_true (by unfold LIM; omega)
      have ed : p.cmds.drop i = [] := List.drop_eq_nil_of_le (by omega)
      rw [hd, ed]
      simp only [cond_false, sucL, List.append_nil]
      cases o with
      | nil => rfl
      | cons x o =>
        have e0 : (((x :: o).length : Int) == 0) = false := by simp; omega
        rw [e0, etk, intsOf_enc, hol]
        simp only [cond_false, cond_true, Option.bind_some]
        rw [sort_view, intsOf_enc]
        simp only [Option.bind_some]
        rw [comp_view]
        rfl
theorem nextI_ok {k : Nat} (hk : 1000200 ≤ k) {p : Prg} (hp : FitP p) (hs : smallP p = true) {no : Int} (hi : inS p no) (l1 : List PV) : c53 k p.wide p.vars l1 (encCms p.cmds) no = r53 (encZ (nxL p no)) := by
  obtain ⟨k, rfl⟩ : ∃ j, k = j + 1 := ⟨k - 1, by omega⟩
  have hcm := hp.cm
  rw [n53, stoI_ok (by omega) hs _ _ hi]
  simp only [R52_r, encCms_length]
  exact nextI_loop (k := k) (by omega) hp hs hi l1 k 0 [] (by omega) (by omega) (by simp)
theorem sucE (p : Prg) (no : Int) : ∀ (i : Nat), i ≤ p.cmds.length → (enL p (sto p no) i (p.cmds.drop i)).map (fun j => toN p (cmdAt p j) no) = sucL p no (p.cmds.drop i) := by
  intro i hi
  generalize hm : p.cmds.length - i = m
  induction m generalizing i with
  | zero => rw [List.drop_eq_nil_of_le (by omega)]; rfl
  | succ m ih =>
    have hlt : i < p.cmds.length := by omega
    rw [drop_cons hlt]
    simp only [enL, sucL, List.map_append, ih (i + 1) (by omega) (by omega)]
    congr 1
    obtain ⟨e, _⟩ := cmd_at hlt
    change (bif hN p p.cmds[i].wh no then [(i : Int)] else []).map _ = _
    cases hN p p.cmds[i].wh no
    · rfl
    · simp [e]
theorem nextS_loop {k : Nat} (hk : 1000100 ≤ k) {p : Prg} (hp : FitP p) (hs : smallP p = true) {no : Int} (hi : inS p no) (l1 : List PV) (en : List Int) (hen : en.length ≤ 100) (hin : ∀ j ∈ en, cnoOK p j = true) : ∀ (n i : Nat) (o : List Int), en.length - i < n → i ≤ en.length → o.length ≤ i →
    L65_1 k n no (encW (sto p no)) o.length (encZ en) (en.length : Int) (i : Int) p.wide p.vars l1 (encCms p.cmds) (encZ o) = r65 (encZ (bif (putAllI o ((en.drop i).map fun j => toN p (cmdAt p j) no)).isEmpty then [no] else putAllI o ((en.drop i).map fun j => toN p (cmdAt p j) no)))
  | 0, i, o, h, hj, ho => by omega
  | n + 1, i, o, h, hj, ho => by
    have etk : (encZ o).take o.length = encZ o := by rw [List.take_of_length_le (by simp)]
    rw [sL65_1, etk]
    by_cases hlt : i < en.length
    · have hd : decide ((i : Int) < (en.length : Int)) = true := by simpa using hlt
      have hnext : IntKind.i64.wrap ((i : Int) + 1) = ((i + 1 : Nat) : Int) := by rw [i64_id (by omega) (by omega)]; omega
      have hn := hin _ (List.getElem_mem hlt)
      rw [hd, encZ_lookup hlt, drop_cons hlt, hnext]
      simp only [cond_true, Option.bind_some, int_atInt, List.map_cons]
      rw [doN_ok (by omega) hp hs hn _ hi]
      simp only [R117_r]
      rw [noS_ok (by omega) hs _ _ (toN_ok hp hs hn hi).1]
      simp only [R116_r]
      rw [l1Put_ok (by omega) o (by omega)]
      simp only [R81_r, encZ_length]
      have hpl := putI_len o (toN p (cmdAt p en[i]) no)
      exact nextS_loop hk hp hs hi l1 en hen hin n (i + 1) (putI o (toN p (cmdAt p en[i]) no)) (by omega) (by omega) (by omega)
    · have hd : decide ((i : Int) < (en.length : Int)) = false := by simpa using hlt
      have ed : en.drop i = [] := List.drop_eq_nil_of_le (by omega)
      rw [hd, ed]
      cases o with
      | nil => rfl
      | cons x o =>
        have e0 : (((x :: o).length : Int) == 0) = false := by simp; omega
        rw [e0]
        rfl
theorem nextS_ok {k : Nat} (hk : 1000200 ≤ k) {p : Prg} (hp : FitP p) (hs : smallP p = true) {no : Int} (hi : inS p no) (l1 : List PV) : c65 k p.wide p.vars l1 (encCms p.cmds) no = r65 (encZ (nxL p no)) := by
  obtain ⟨k, rfl⟩ : ∃ j, k = j + 2 := ⟨k - 2, by omega⟩
  have hcm := hp.cm
  rw [n65, stoS_ok (by omega) hs _ _ hi]
  simp only [R80_r]
  have hen := enabledS_loop (k := k) (by omega) p hp (small_good hs) (sto p no) (sto_ok hs hi) l1 (encCms p.cmds) k 0 [] (by omega) (by omega) (by simp)
  rw [n89, encCms_length]
  have hen' : L89_1 k k (encW (sto p no)) 0 (encCms p.cmds) (p.cmds.length : Int) 0 p.wide p.vars l1 (encCms p.cmds) [] = _ := hen
  rw [hen']
  simp only [R89_r, List.nil_append, encZ_length]
  have hmem : ∀ j ∈ enL p (sto p no) 0 p.cmds, cnoOK p j = true := by
    intro j hj
    obtain ⟨q, c, hq, _, rfl⟩ := (enL_mem p (sto p no) p.cmds 0 j).1 hj
    have := (List.getElem?_eq_some_iff.1 hq).1
    simp [cnoOK, this]
  have hsl := sucL_len p no p.cmds
  have he := sucE p no 0 (by omega)
  rw [List.drop_zero] at he
  have hel : (enL p (sto p no) 0 p.cmds).length ≤ 100 := by
    have := congrArg List.length he
    rw [List.length_map] at this
    omega
  have := nextS_loop (k := k + 1) (by omega) hp hs hi l1 _ hel hmem (k + 1) 0 [] (by omega) (by omega) (by simp)
  rw [List.drop_zero, he] at this
  have h' : L65_1 (k + 1) (k + 1) no (encW (sto p no)) 0 (encZ (enL p (sto p no) 0 (p.cmds.drop 0))) ((enL p (sto p no) 0 (p.cmds.drop 0)).length : Int) 0 p.wide p.vars l1 (encCms p.cmds) [] = _ := this
  rw [h', ← canI_put (l := sucL p no p.cmds) (m := sucL p no p.cmds) (fun x => Iff.rfl)]
  congr 2
  unfold nxL
  cases hq : (sucL p no p.cmds).isEmpty
  · have hne : sucL p no p.cmds ≠ [] := by intro h; rw [h] at hq; cases hq
    have : (canI (sucL p no p.cmds)).isEmpty = false := by
      cases hc : canI (sucL p no p.cmds) with
      | nil => exact absurd hc (canI_nil' hne)
      | cons => rfl
    rw [this]
  · have hnil : sucL p no p.cmds = [] := by simpa using hq
    rw [hnil, show canI ([] : List Int) = [] from List.eq_nil_of_length_eq_zero (Nat.le_zero.1 (canI_len []))]
    rfl
end Go.Proofs.YtcamhbchcjpjiaaGreat
/- The reference's reachable states. -/
set_option linter.unusedVariables false
set_option linter.unusedSimpArgs false
set_option maxRecDepth 4000
namespace Go.Proofs.YtcamhbchcjpjiaaGreat
open Go.Dp

/-! ### Increasing lists -/
theorem lt_room : ∀ (l : List Int) (lo hi : Int), l.Pairwise (· < ·) → (∀ x ∈ l, lo ≤ x ∧ x < hi) → (l.length : Int) ≤ max 0 (hi - lo)
  | [], lo, hi, _, _ => by simp; omega
  | x :: l, lo, hi, h, hb => by
    have hx := hb x (by simp)
    have h1 := List.pairwise_cons.1 h
    have := lt_room l (x + 1) hi h1.2 fun y hy => ⟨by have := h1.1 y hy; omega, (hb y (by simp [hy])).2⟩
    simp only [List.length_cons]
    omega
theorem in_room {p : Prg} (hs : smallP p = true) {l : List Int} (hl : l.Pairwise (· < ·)) (hi : ∀ x ∈ l, inS p x) : l.length ≤ 32 := by
  have h1 := lt_room l 0 (nS p : Int) hl fun x hx => hi x hx
  have h2 := (nS_le hs).2
  omega
theorem lt_sub : ∀ {a b : List Int}, a.Pairwise (· < ·) → b.Pairwise (· < ·) → (∀ x ∈ a, x ∈ b) → a.Sublist b
  | [], b, _, _, _ => List.nil_sublist b
  | x :: a, [], _, _, h => by have := h x (by simp); cases this
  | x :: a, y :: b, ha, hb, h => by
    have h1 := List.pairwise_cons.1 ha
    have h2 := List.pairwise_cons.1 hb
    by_cases he : x = y
    · subst he
      refine (lt_sub h1.2 h2.2 fun z hz => ?_).cons_cons x
      rcases List.mem_cons.1 (h z (by simp [hz])) with rfl | h3
      · have := h1.1 z hz; omega
      · exact h3
    · have hxy : x ∈ b := by
        rcases List.mem_cons.1 (h x (by simp)) with h3 | h3
        · exact absurd h3 he
        · exact h3
      have hlt := h2.1 x hxy
      refine (lt_sub ha h2.2 fun z hz => ?_).cons y
      rcases List.mem_cons.1 (h z hz) with rfl | h3
      · rcases List.mem_cons.1 hz with h4 | h4
        · omega
        · have := h1.1 _ h4; omega
      · exact h3
theorem lt_same {a b : List Int} (ha : a.Pairwise (· < ·)) (hb : b.Pairwise (· < ·)) (h : ∀ x ∈ a, x ∈ b) (hl : b.length = a.length) : a = b :=
  (lt_sub ha hb h).eq_of_length hl.symm
/-! ### Many states' successors -/
def aftAll (p : Prg) : List Int → List Int
  | [] => []
  | x :: l => nxL p x ++ aftAll p l
theorem aftAll_mem (p : Prg) : ∀ (l : List Int) (y : Int), y ∈ aftAll p l ↔ ∃ x ∈ l, y ∈ nxL p x
  | [], y => by simp [aftAll]
  | x :: l, y => by simp [aftAll, aftAll_mem p l y]
theorem aftAll_len {p : Prg} (hp : FitP p) : ∀ l : List Int, (aftAll p l).length ≤ 6 * l.length
  | [] => by simp [aftAll]
  | x :: l => by
    have h1 := aftAll_len hp l
    have h2 := nxL_len hp x
    simp only [aftAll, List.length_append, List.length_cons]
    omega
theorem after_loop2 {k : Nat} (hk : 1000100 ≤ k) (p : Prg) (l1 l2 : List PV) (n1 : Nat) (t10 : List PV) (t11 : Int) (i : Nat) (l : List Int) (hl : l.length ≤ 100) : ∀ (n j : Nat) (o : List Int), l.length - j < n → j ≤ l.length → o.length ≤ 700 + j →
    L121_2 k n1 n o.length t10 t11 (i : Int) (encZ l) (l.length : Int) (j : Int) p.wide p.vars l1 l2 (encZ o) = L121_1 k n1 (putAllI o (l.drop j)).length t10 t11 (IntKind.i64.wrap ((i : Int) + 1)) p.wide p.vars l1 l2 (encZ (putAllI o (l.drop j)))
  | 0, j, o, hn, hj, ho => by omega
  | n + 1, j, o, hn, hj, ho => by
    have etk : (encZ o).take o.length = encZ o := by rw [List.take_of_length_le (by simp)]
    rw [sL121_2]
    by_cases hlt : j < l.length
    · have hd : decide ((j : Int) < (l.length : Int)) = true := by simpa using hlt
      have hnext : IntKind.i64.wrap ((j : Int) + 1) = ((j + 1 : Nat) : Int) := by rw [i64_id (by omega) (by omega)]; omega
      rw [hd, encZ_lookup hlt, drop_cons hlt, hnext, etk]
      simp only [cond_true, Option.bind_some, int_atInt]
      rw [l1Put_ok (by omega) o (by omega)]
      simp only [R81_r, encZ_length]
      have hpl := putI_len o l[j]
      exact after_loop2 hk p l1 l2 n1 t10 t11 i l hl n (j + 1) (putI o l[j]) (by omega) (by omega) (by omega)
    · have hd : decide ((j : Int) < (l.length : Int)) = false := by simpa using hlt
      rw [hd, List.drop_eq_nil_of_le (by omega)]
      rfl
theorem after_loop1 {k : Nat} (hk : 1000300 ≤ k) {p : Prg} (hp : FitP p) (hs : smallP p = true) (l1 : List PV) (l : List Int) (hl : l.length ≤ 100) (hin : ∀ x ∈ l, inS p x) : ∀ (n i : Nat) (o : List Int), l.length - i < n → i ≤ l.length → o.length ≤ 6 * i →
    L121_1 k n o.length (encZ l) (l.length : Int) (i : Int) p.wide p.vars l1 (encCms p.cmds) (encZ o) = r121 (encZ (putAllI o (aftAll p (l.drop i))))
  | 0, i, o, hn, hi, ho => by omega
  | n + 1, i, o, hn, hi, ho => by
    have etk : (encZ o).take o.length = encZ o := by rw [List.take_of_length_le (by simp)]
    rw [sL121_1]
    by_cases hlt : i < l.length
    · have hd : decide ((i : Int) < (l.length : Int)) = true := by simpa using hlt
      have hnext : IntKind.i64.wrap ((i : Int) + 1) = ((i + 1 : Nat) : Int) := by rw [i64_id (by omega) (by omega)]; omega
      have hx := hin _ (List.getElem_mem hlt)
      rw [hd, encZ_lookup hlt, drop_cons hlt]
      simp only [cond_true, Option.bind_some, int_atInt]
      rw [nextS_ok (by omega) hp hs hx]
      simp only [R65_r, encZ_length]
      have hnl := nxL_len hp l[i]
      have h2 := after_loop2 (k := k) (by omega) p l1 (encCms p.cmds) n (encZ l) (l.length : Int) i (nxL p l[i]) (by omega) k 0 o (by omega) (by omega) (by omega)
      have h' : L121_2 k n k o.length (encZ l) (l.length : Int) (i : Int) (encZ (nxL p l[i])) ((nxL p l[i]).length : Int) 0 p.wide p.vars l1 (encCms p.cmds) (encZ o) = _ := h2
      rw [h', hnext, List.drop_zero, aftAll, putAllI_app]
      have hpl := putAllI_len (nxL p l[i]) o
      exact after_loop1 hk hp hs l1 l hl hin n (i + 1) _ (by omega) (by omega) (by omega)
    · have hd : decide ((i : Int) < (l.length : Int)) = false := by simpa using hlt
      rw [hd, List.drop_eq_nil_of_le (by omega), etk]
      rfl
theorem l8After_ok {k : Nat} (hk : 1000400 ≤ k) {p : Prg} (hp : FitP p) (hs : smallP p = true) (l1 : List PV) (l : List Int) (hl : l.length ≤ 100) (hin : ∀ x ∈ l, inS p x) : c121 k p.wide p.vars l1 (encCms p.cmds) (encZ l) = r121 (encZ (putAllI [] (aftAll p l))) := by
  obtain ⟨k, rfl⟩ : ∃ j, k = j + 1 := ⟨k - 1, by omega⟩
  rw [n121, encZ_length]
  exact after_loop1 (k := k) (by omega) hp hs l1 l hl hin k 0 [] (by omega) (by omega) (by simp)
theorem own_ok {k : Nat} (hk : 1 ≤ k) (l : List Int) (hl : l.length ≤ 1000) : c123 k (encZ l) = r123 (encZ l) := by
  obtain ⟨k, rfl⟩ : ∃ j, k = j + 1 := ⟨k - 1, by omega⟩
  rw [n123, encZ_length, Nat.zero_add, lim_ok (by omega) (by omega), List.nil_append, List.take_of_length_le (by simp)]
  rfl
theorem union_loop {k : Nat} (hk : 1000100 ≤ k) (b : List Int) (hb : b.length ≤ 400) : ∀ (n i : Nat) (o : List Int), b.length - i < n → i ≤ b.length → o.length ≤ 400 + i →
    L120_1 k n o.length (encZ b) (b.length : Int) (i : Int) (encZ o) = r120 (encZ (putAllI o (b.drop i)))
  | 0, i, o, hn, hi, ho => by omega
  | n + 1, i, o, hn, hi, ho => by
    have etk : (encZ o).take o.length = encZ o := by rw [List.take_of_length_le (by simp)]
    rw [sL120_1, etk]
    by_cases hlt : i < b.length
    · have hd : decide ((i : Int) < (b.length : Int)) = true := by simpa using hlt
      have hnext : IntKind.i64.wrap ((i : Int) + 1) = ((i + 1 : Nat) : Int) := by rw [i64_id (by omega) (by omega)]; omega
      rw [hd, encZ_lookup hlt, drop_cons hlt, hnext]
      simp only [cond_true, Option.bind_some, int_atInt]
      rw [l1Put_ok (by omega) o (by omega)]
      simp only [R81_r, encZ_length]
      have hpl := putI_len o b[i]
      exact union_loop hk b hb n (i + 1) (putI o b[i]) (by omega) (by omega) (by omega)
    · have hd : decide ((i : Int) < (b.length : Int)) = false := by simpa using hlt
      rw [hd, List.drop_eq_nil_of_le (by omega)]
      rfl
theorem union_ok {k : Nat} (hk : 1000200 ≤ k) (a b : List Int) (ha : a.length ≤ 400) (hb : b.length ≤ 400) : c120 k (encZ a) (encZ b) = r120 (encZ (putAllI a b)) := by
  obtain ⟨k, rfl⟩ : ∃ j, k = j + 1 := ⟨k - 1, by omega⟩
  rw [n120, own_ok (by omega) a (by omega)]
  simp only [R123_r, encZ_length]
  exact union_loop (k := k) (by omega) b hb k 0 a (by omega) (by omega) (by omega)
/-! ### The reachable states -/
def grow (p : Prg) (o : List Int) : List Int := putAllI o (putAllI [] (aftAll p o))
theorem grow_spec {p : Prg} {o : List Int} (ho : o.Pairwise (· < ·)) : (grow p o).Pairwise (· < ·) ∧ ∀ x, x ∈ grow p o ↔ x ∈ o ∨ ∃ y ∈ o, x ∈ nxL p y := by
  obtain ⟨h1, h2⟩ := putAllI_spec (putAllI [] (aftAll p o)) o ho
  obtain ⟨_, h4⟩ := putAllI_spec (aftAll p o) [] List.Pairwise.nil
  refine ⟨h1, fun x => ?_⟩
  unfold grow
  rw [h2, h4, aftAll_mem]
  simp
def reachF (p : Prg) : Nat → List Int → List Int
  | 0, o => o
  | m + 1, o => bif (grow p o).length == o.length then o else reachF p m (grow p o)
theorem grow_in {p : Prg} (hp : FitP p) (hs : smallP p = true) {o : List Int} (ho : o.Pairwise (· < ·)) (hi : ∀ x ∈ o, inS p x) : ∀ x ∈ grow p o, inS p x := by
  intro x hx
  rcases ((grow_spec ho).2 x).1 hx with h | ⟨y, hy, h⟩
  · exact hi x h
  · exact nxL_in hp hs (hi y hy) x h
theorem reachS_loop {k : Nat} (hk : 1000500 ≤ k) {p : Prg} (hp : FitP p) (hs : smallP p = true) (l1 : List PV) : ∀ (m n : Nat) (o : List Int), m < n → 33 ≤ m + o.length → o.Pairwise (· < ·) → (∀ x ∈ o, inS p x) →
    L78_1 k n (encZ o) p.wide p.vars l1 (encCms p.cmds) = r78 (encZ (reachF p m o))
  | m, 0, o, hn, hm, ho, hi => by omega
  | 0, n + 1, o, hn, hm, ho, hi => by
    have := in_room hs ho hi
    omega
  | m + 1, n + 1, o, hn, hm, ho, hi => by
    have hr := in_room hs ho hi
    obtain ⟨g1, g2⟩ := grow_spec (p := p) ho
    have g3 := grow_in hp hs ho hi
    have hr2 := in_room hs g1 g3
    have hal := aftAll_len hp o
    have hpl := putAllI_len (aftAll p o) []
    rw [List.length_nil] at hpl
    rw [sL78_1, l8After_ok (by omega) hp hs l1 o (by omega) hi]
    simp only [R121_r]
    rw [union_ok (by omega) o _ (by omega) (by omega)]
    simp only [R120_r, encZ_length]
    change (bif (((grow p o).length : Int) == (o.length : Int)) then _ else _) = _
    have e : (((grow p o).length : Int) == (o.length : Int)) = ((grow p o).length == o.length) := by rw [Bool.eq_iff_iff]; simp only [beq_iff_eq]; omega
    rw [e, reachF]
    cases hq : ((grow p o).length == o.length)
    · have hne : (grow p o).length ≠ o.length := by simpa using hq
      have hge := (lt_sub ho g1 fun x hx => (g2 x).2 (.inl hx)).length_le
      exact reachS_loop hk hp hs l1 m n (grow p o) (by omega) (by omega) g1 g3
    · rfl
theorem reachF_spec {p : Prg} (hp : FitP p) (hs : smallP p = true) : ∀ (m : Nat) (o : List Int), 33 ≤ m + o.length → o.Pairwise (· < ·) → (∀ x ∈ o, inS p x) →
    (reachF p m o).Pairwise (· < ·) ∧ (∀ x ∈ reachF p m o, inS p x) ∧ (∀ x ∈ o, x ∈ reachF p m o) ∧ (∀ x ∈ reachF p m o, ∀ y ∈ nxL p x, y ∈ reachF p m o) ∧ ∀ S : Int → Prop, (∀ x ∈ o, S x) → (∀ x, S x → ∀ y ∈ nxL p x, S y) → ∀ x ∈ reachF p m o, S x
  | 0, o, hm, ho, hi => by
    have := in_room hs ho hi
    omega
  | m + 1, o, hm, ho, hi => by
    obtain ⟨g1, g2⟩ := grow_spec (p := p) ho
    have g3 := grow_in hp hs ho hi
    rw [reachF]
    cases hq : ((grow p o).length == o.length)
    · have hne : (grow p o).length ≠ o.length := by simpa using hq
      have hge := (lt_sub ho g1 fun x hx => (g2 x).2 (.inl hx)).length_le
      obtain ⟨r1, r2, r3, r4, r5⟩ := reachF_spec hp hs m (grow p o) (by omega) g1 g3
      refine ⟨r1, r2, fun x hx => r3 x ((g2 x).2 (.inl hx)), r4, fun S h1 h2 => r5 S (fun x hx => ?_) h2⟩
      rcases (g2 x).1 hx with h | ⟨y, hy, h⟩
      · exact h1 x h
      · exact h2 y (h1 y hy) x h
    · have heq : o = grow p o := lt_same ho g1 (fun x hx => (g2 x).2 (.inl hx)) (by simpa using hq)
      refine ⟨ho, hi, fun x hx => hx, fun x hx y hy => ?_, fun S h1 _ => h1⟩
      rw [heq]
      exact (g2 y).2 (.inr ⟨x, hx, hy⟩)
def reachL (p : Prg) : List Int := reachF p 33 (whI p p.start)
theorem l8Reach_ok {k : Nat} (hk : 1000600 ≤ k) {p : Prg} (hp : FitP p) (hs : smallP p = true) : c78 k p.wide p.vars (encT p.start) (encCms p.cmds) = r78 (encZ (reachL p)) := by
  obtain ⟨k, rfl⟩ : ∃ j, k = j + 1 := ⟨k - 1, by omega⟩
  have hst := hp.st
  have hks : kindT p.wide p.vars p.start = 2 := by
    have := small_good hs
    simp only [goodP, Bool.and_eq_true, beq_iff_eq] at this
    exact this.1.1.1
  rw [n78, those_ok (by omega) hs _ _ p.start (by omega) hks]
  simp only [R86_r]
  exact reachS_loop (k := k) (by omega) hp hs (encT p.start) 33 k (whI p p.start) (by omega) (by omega) (whN_lt p p.start _ _) (fun x hx => ((whI_mem p p.start x).1 hx).1)
inductive Rch (p : Prg) : Int → Prop
  | start {x : Int} : inS p x → hN p p.start x = true → Rch p x
  | step {x y : Int} : Rch p x → y ∈ nxL p x → Rch p y
theorem reachL_mem {p : Prg} (hp : FitP p) (hs : smallP p = true) (x : Int) : x ∈ reachL p ↔ Rch p x := by
  obtain ⟨r1, r2, r3, r4, r5⟩ := reachF_spec hp hs 33 (whI p p.start) (by omega) (whN_lt p p.start _ _) (fun x hx => ((whI_mem p p.start x).1 hx).1)
  constructor
  · exact r5 (Rch p) (fun x hx => .start ((whI_mem p p.start x).1 hx).1 ((whI_mem p p.start x).1 hx).2) (fun x hx y hy => .step hx hy) x
  · intro h
    induction h with
    | start h1 h2 => exact r3 _ ((whI_mem p p.start _).2 ⟨h1, h2⟩)
    | step _ h2 ih => exact r4 _ ih _ h2
end Go.Proofs.YtcamhbchcjpjiaaGreat
/- The reference's way back. -/
set_option linter.unusedVariables false
set_option linter.unusedSimpArgs false
set_option maxRecDepth 4000
namespace Go.Proofs.YtcamhbchcjpjiaaGreat
open Go.Dp

def scanB (p : Prg) : Nat → Nat → List Int → Bool → List Int × Bool
  | 0, i, o, q => (o, q)
  | m + 1, i, o, q => bif !o.contains (i : Int) && meetI (nxL p (i : Int)) o then scanB p m (i + 1) (putI o (i : Int)) true else scanB p m (i + 1) o q
theorem putI_new {o : List Int} {x : Int} (ho : o.Pairwise (· < ·)) (h : o.contains x = false) : (putI o x).length = o.length + 1 := by
  have h1 := putI_len o x
  have h2 := (lt_sub ho (putI_lt o x ho) fun y hy => (putI_mem o x y).2 (.inr hy)).length_le
  by_cases he : (putI o x).length = o.length
  · have := lt_same ho (putI_lt o x ho) (fun y hy => (putI_mem o x y).2 (.inr hy)) he
    have hx : x ∈ o := by rw [this]; exact (putI_mem o x x).2 (.inl rfl)
    have : o.contains x = true := by simpa using hx
    rw [this] at h; cases h
  · omega
def BackOf (p : Prg) (S : Int → Prop) : Prop := ∀ x, inS p x → (∃ y ∈ nxL p x, S y) → S x
theorem meetI_iff (a b : List Int) : meetI a b = true ↔ ∃ y ∈ a, y ∈ b := by simp [meetI]
theorem scanB_spec {p : Prg} : ∀ (m i : Nat) (o : List Int) (q : Bool), i + m = nS p → o.Pairwise (· < ·) → (∀ x ∈ o, inS p x) →
    (scanB p m i o q).1.Pairwise (· < ·) ∧ (∀ x ∈ (scanB p m i o q).1, inS p x) ∧ (∀ x ∈ o, x ∈ (scanB p m i o q).1) ∧ (∀ S : Int → Prop, (∀ x ∈ o, S x) → BackOf p S → ∀ x ∈ (scanB p m i o q).1, S x) ∧
    (q = false → (scanB p m i o q).2 = true → o.length < (scanB p m i o q).1.length) ∧ ((scanB p m i o q).2 = false → q = false ∧ (scanB p m i o q).1 = o ∧ ∀ j : Nat, i ≤ j → j < i + m → (∃ y ∈ nxL p (j : Int), y ∈ o) → (j : Int) ∈ o)
  | 0, i, o, q, hm, ho, hi => ⟨ho, hi, fun x hx => hx, fun S h1 _ => h1, fun h1 h2 => (by rw [h1] at h2; cases h2), fun h => ⟨h, rfl, fun j h1 h2 => by omega⟩⟩
  | m + 1, i, o, q, hm, ho, hi => by
    rw [scanB]
    cases hc : (!o.contains (i : Int) && meetI (nxL p (i : Int)) o)
    · simp only [cond_false]
      obtain ⟨r1, r2, r3, r4, r5, r6⟩ := scanB_spec m (i + 1) o q (by omega) ho hi
      refine ⟨r1, r2, r3, r4, r5, fun h => ?_⟩
      obtain ⟨h1, h2, h3⟩ := r6 h
      refine ⟨h1, h2, fun j hj hj2 hy => ?_⟩
      by_cases he : j = i
      · subst he
        have hmeet : meetI (nxL p (j : Int)) o = true := (meetI_iff _ _).2 hy
        rw [hmeet, Bool.and_true] at hc
        have : o.contains (j : Int) = true := by simpa using hc
        simpa using this
      · exact h3 j (by omega) (by omega) hy
    · simp only [cond_true]
      rw [Bool.and_eq_true] at hc
      have hnot : o.contains (i : Int) = false := by simpa using hc.1
      have hin : inS p (i : Int) := ⟨by omega, by omega⟩
      have hp1 : ∀ x ∈ putI o (i : Int), inS p x := by
        intro x hx
        rcases (putI_mem o _ x).1 hx with rfl | h
        · exact hin
        · exact hi x h
      obtain ⟨r1, r2, r3, r4, r5, r6⟩ := scanB_spec m (i + 1) (putI o (i : Int)) true (by omega) (putI_lt o _ ho) hp1
      have hsub : ∀ x ∈ o, x ∈ (scanB p m (i + 1) (putI o (i : Int)) true).1 := fun x hx => r3 x ((putI_mem o _ x).2 (.inr hx))
      refine ⟨r1, r2, hsub, fun S h1 h2 => r4 S (fun x hx => ?_) h2, fun _ _ => ?_, fun h => ?_⟩
      · rcases (putI_mem o _ x).1 hx with rfl | h
        · obtain ⟨y, hy, hyo⟩ := (meetI_iff _ _).1 hc.2
          exact h2 _ hin ⟨y, hy, h1 y hyo⟩
        · exact h1 x h
      · have := (lt_sub (putI_lt o (i : Int) ho) r1 r3).length_le
        have := putI_new ho hnot
        omega
      · obtain ⟨h1, _⟩ := r6 h
        cases h1
def backF (p : Prg) : Nat → List Int → List Int
  | 0, o => o
  | m + 1, o => bif (scanB p (nS p) 0 o false).2 then backF p m (scanB p (nS p) 0 o false).1 else (scanB p (nS p) 0 o false).1
theorem backF_spec {p : Prg} (hs : smallP p = true) : ∀ (m : Nat) (o : List Int), 33 ≤ m + o.length → o.Pairwise (· < ·) → (∀ x ∈ o, inS p x) →
    (backF p m o).Pairwise (· < ·) ∧ (∀ x ∈ backF p m o, inS p x) ∧ (∀ x ∈ o, x ∈ backF p m o) ∧ BackOf p (· ∈ backF p m o) ∧ ∀ S : Int → Prop, (∀ x ∈ o, S x) → BackOf p S → ∀ x ∈ backF p m o, S x
  | 0, o, hm, ho, hi => by
    have := in_room hs ho hi
    omega
  | m + 1, o, hm, ho, hi => by
    obtain ⟨r1, r2, r3, r4, r5, r6⟩ := scanB_spec (nS p) 0 o false (by omega) ho hi
    rw [backF]
    cases hq : (scanB p (nS p) 0 o false).2
    · obtain ⟨_, h2, h3⟩ := r6 hq
      simp only [cond_false]
      rw [h2]
      refine ⟨ho, hi, fun x hx => hx, fun x hx hy => ?_, fun S h1 _ => h1⟩
      obtain ⟨h4, h5⟩ := hx
      have := h3 x.toNat (by omega) (by omega)
      rw [Int.toNat_of_nonneg h4] at this
      exact this hy
    · have hlt := r5 rfl hq
      simp only [cond_true]
      obtain ⟨q1, q2, q3, q4, q5⟩ := backF_spec hs m _ (by omega) r1 r2
      exact ⟨q1, q2, fun x hx => q3 x (r3 x hx), q4, fun S h1 h2 => q5 S (r4 S h1 h2) h2⟩
def backL (p : Prg) (o : List Int) : List Int := backF p 33 o
inductive Into (p : Prg) (o : List Int) : Int → Prop
  | here {x : Int} : x ∈ o → Into p o x
  | step {x y : Int} : inS p x → y ∈ nxL p x → Into p o y → Into p o x
theorem backL_mem {p : Prg} (hs : smallP p = true) {o : List Int} (ho : o.Pairwise (· < ·)) (hi : ∀ x ∈ o, inS p x) (x : Int) : x ∈ backL p o ↔ Into p o x := by
  obtain ⟨r1, r2, r3, r4, r5⟩ := backF_spec hs 33 o (by omega) ho hi
  constructor
  · exact r5 (Into p o) (fun x hx => .here hx) (fun x hx ⟨y, hy, h⟩ => .step hx hy h) x
  · intro h
    induction h with
    | here h => exact r3 _ h
    | step h1 h2 _ ih => exact r4 _ h1 ⟨_, h2, ih⟩
theorem rch_in {p : Prg} (hp : FitP p) (hs : smallP p = true) {x : Int} (h : Rch p x) : inS p x := by
  induction h with
  | start h1 _ => exact h1
  | step _ h2 ih => exact nxL_in hp hs ih _ h2
theorem back_forth {p : Prg} (hp : FitP p) (hs : smallP p = true) {z : Int} : Rch p z ↔ ∃ x, inS p x ∧ hN p p.start x = true ∧ Into p [z] x := by
  constructor
  · intro h
    have key : ∀ y, Rch p y → ∀ z, Into p [z] y → ∃ x, inS p x ∧ hN p p.start x = true ∧ Into p [z] x := by
      intro y hy
      induction hy with
      | start h1 h2 => exact fun z hz => ⟨_, h1, h2, hz⟩
      | step h1 h2 ih =>
        intro z hz
        exact ih z (.step (rch_in hp hs h1) h2 hz)
    exact key z h z (.here (by simp))
  · rintro ⟨x, h1, h2, h3⟩
    have key : ∀ x, Into p [z] x → Rch p x → Rch p z := by
      intro x hx
      induction hx with
      | here h => intro hr; rw [List.mem_singleton.1 h] at hr; exact hr
      | step h1 h2 _ ih => exact fun hr => ih (.step hr h2)
    exact key x h3 (.start h1 h2)
end Go.Proofs.YtcamhbchcjpjiaaGreat
/- What is asked of reachable states: the reference's answers, the draws. -/
set_option linter.unusedVariables false
set_option linter.unusedSimpArgs false
set_option maxRecDepth 4000
namespace Go.Proofs.YtcamhbchcjpjiaaGreat
open Go.Dp

theorem no_in {p : Prg} {no : Int} (h : noOK p no = true) : smallP p = true ∧ inS p no := by
  simp only [noOK, Bool.and_eq_true, decide_eq_true_eq] at h
  exact ⟨h.1.1, h.1.2, h.2⟩
theorem is8_ok {k : Nat} (hk : 1000300 ≤ k) (p : Prg) (hp : FitP p) (no : Int) : c64 k p.wide p.vars (encT p.start) (encCms p.cmds) no = r64 (noOK p no) := by
  obtain ⟨k, rfl⟩ : ∃ j, k = j + 1 := ⟨k - 1, by omega⟩
  rw [n64, l7Small_ok (by omega) p hp]
  simp only [R76_r]
  cases hs : smallP p
  · simp [noOK, hs]
  · have hle := nS_le hs
    simp only [cond_true]
    rw [nSS_ok (by omega) hs]
    simp only [R83_r]
    rw [i64_id (by omega) (by omega), in_ok (by omega)]
    simp only [R95_r]
    congr 1
    unfold noOK
    rw [hs, Bool.true_and, Bool.eq_iff_iff]
    simp only [Bool.and_eq_true, decide_eq_true_eq]
    have : ((2 ^ (pw p * pv p) : Nat) : Int) = (nS p : Int) := rfl
    omega
def nextR (p : Prg) (no : Int) : List Int := bif noOK p no then nxL p no else []
theorem NextI_ok {k : Nat} (hk : 1000400 ≤ k) (p : Prg) (hp : FitP p) (no : Int) : c12 k p.wide p.vars (encT p.start) (encCms p.cmds) no = r12 (encZ (nextR p no)) (noOK p no) := by
  obtain ⟨k, rfl⟩ : ∃ j, k = j + 1 := ⟨k - 1, by omega⟩
  rw [n12, isNo_ok (by omega) p hp]
  simp only [R49_r, nextR]
  cases h : noOK p no
  · rfl
  · obtain ⟨hs, hi⟩ := no_in h
    simp only [Bool.not_true, cond_false, cond_true]
    rw [nextI_ok (by omega) hp hs hi]
    simp only [R53_r]
theorem NextS_ok {k : Nat} (hk : 1000400 ≤ k) (p : Prg) (hp : FitP p) (no : Int) : c18 k p.wide p.vars (encT p.start) (encCms p.cmds) no = r18 (encZ (nextR p no)) (noOK p no) := by
  obtain ⟨k, rfl⟩ : ∃ j, k = j + 1 := ⟨k - 1, by omega⟩
  rw [n18, is8_ok (by omega) p hp]
  simp only [R64_r, nextR]
  cases h : noOK p no
  · rfl
  · obtain ⟨hs, hi⟩ := no_in h
    simp only [Bool.not_true, cond_false, cond_true]
    rw [nextS_ok (by omega) hp hs hi]
    simp only [R65_r]
def hinOK (p : Prg) (t : List Nd) (no : Int) : Bool := noOK p no && (kindT p.wide p.vars t == 2)
theorem startK {p : Prg} (hs : smallP p = true) : kindT p.wide p.vars p.start = 2 := by
  have := small_good hs
  simp only [goodP, Bool.and_eq_true, beq_iff_eq] at this
  exact this.1.1.1
def startR (p : Prg) : List Int := bif smallP p then whI p p.start else []
theorem startsI_ok {k : Nat} (hk : 1000400 ≤ k) (p : Prg) (hp : FitP p) : c21 k p.wide p.vars (encT p.start) (encCms p.cmds) = r21 (encZ (startR p)) (smallP p) := by
  obtain ⟨k, rfl⟩ : ∃ j, k = j + 1 := ⟨k - 1, by omega⟩
  have hst := hp.st
  rw [n21, isSmall_ok (by omega) p hp]
  simp only [R66_r, startR]
  cases hs : smallP p
  · rfl
  · simp only [Bool.not_true, cond_false, cond_true]
    rw [where_ok (by omega) hs _ _ p.start (by omega) (startK hs)]
    simp only [R72_r]
theorem startsS_ok {k : Nat} (hk : 1000400 ≤ k) (p : Prg) (hp : FitP p) : c32 k p.wide p.vars (encT p.start) (encCms p.cmds) = r32 (encZ (startR p)) (smallP p) := by
  obtain ⟨k, rfl⟩ : ∃ j, k = j + 1 := ⟨k - 1, by omega⟩
  have hst := hp.st
  rw [n32, l7Small_ok (by omega) p hp]
  simp only [R76_r, startR]
  cases hs : smallP p
  · rfl
  · simp only [Bool.not_true, cond_false, cond_true]
    rw [those_ok (by omega) hs _ _ p.start (by omega) (startK hs)]
    simp only [R86_r]
def reachR (p : Prg) : List Int := bif smallP p then reachL p else []
theorem reachS_ok {k : Nat} (hk : 1000700 ≤ k) (p : Prg) (hp : FitP p) : c31 k p.wide p.vars (encT p.start) (encCms p.cmds) = r31 (encZ (reachR p)) (smallP p) := by
  obtain ⟨k, rfl⟩ : ∃ j, k = j + 1 := ⟨k - 1, by omega⟩
  rw [n31, l7Small_ok (by omega) p hp]
  simp only [R76_r, reachR]
  cases hs : smallP p
  · rfl
  · simp only [Bool.not_true, cond_false, cond_true]
    rw [l8Reach_ok (by omega) hp hs]
    simp only [R78_r]
def backOK (p : Prg) (l : List Int) : Bool := smallP p && incG (nS p : Int) none l
def backR (p : Prg) (l : List Int) : List Int := bif backOK p l then backL p l else []
def alwB (p : Prg) (t : List Nd) : Bool := (reachL p).all (hN p t)
def alwOK (p : Prg) (t : List Nd) : Bool := smallP p && (kindT p.wide p.vars t == 2)
/-! ### What is drawn -/
theorem stateNoD_ok {bs : List Nat} (hc : CodeOK bs) {k : Nat} (hk : 1000800 ≤ k) (p : Prg) (hp : FitP p) {at' : Int} (h0 : 0 ≤ at') (h1 : at' ≤ 600000000) (s : W) :
    ∃ a2 s2 no, c63 k p.wide p.vars (encT p.start) (encCms p.cmds) (encB bs) at' (wi s) = r63 (encB bs) a2 (wi s2) no ∧ at' ≤ a2 ∧ a2 ≤ at' + 100 := by
  obtain ⟨k, rfl⟩ : ∃ j, k = j + 1 := ⟨k - 1, by omega⟩
  rw [n63]
  obtain ⟨a2, s2, b, h, h2, h3⟩ := one_ok hc (k := k) (by omega) h0 (by omega) s 30
  rw [h]
  simp only [R55_r]
  obtain ⟨a3, s3, v, hv, h4, h5, _⟩ := pick_ok hc (k := k) (by omega) (at' := a2) (by omega) (by omega) s2 32
  cases b
  · simp only [cond_false]
    rw [reachS_ok (by omega) p hp]
    simp only [R31_r, encZ_length]
    cases hs : smallP p
    · simp only [cond_false]
      rw [hv]
      simp only [R54_r]
      exact ⟨_, _, _, rfl, by omega, by omega⟩
    · have hin : ∀ x ∈ reachL p, inS p x := fun x hx => rch_in hp hs ((reachL_mem hp hs x).1 hx)
      obtain ⟨r1, _⟩ := reachF_spec hp hs 33 (whI p p.start) (by omega) (whN_lt p p.start _ _) (fun x hx => ((whI_mem p p.start x).1 hx).1)
      have hr : (reachL p).length ≤ 32 := in_room hs r1 hin
      have e : reachR p = reachL p := by unfold reachR; rw [hs]; rfl
      rw [e]
      simp only [cond_true]
      by_cases hpos : (reachL p).length > 0
      · have d : decide (((reachL p).length : Int) > 0) = true := decide_eq_true (by omega)
        obtain ⟨a4, s4, q, hq, h6, h7⟩ := one_ok hc (k := k) (by omega) (at' := a2) (by omega) (by omega) s2 4
        rw [d, hq]
        simp only [cond_true, R55_r]
        cases q
        · obtain ⟨a5, s5, u, hu, h8, h9, h10, h11, _⟩ := pick_ok hc (k := k) (by omega) (at' := a4) (by omega) (by omega) s4 ((reachL p).length : Int)
          have h11 := h11 (by omega)
          simp only [Bool.not_false, cond_true]
          rw [hu]
          simp only [R54_r]
          have hl : u.toNat < (reachL p).length := by omega
          have hlk : lookP (encZ (reachL p)) u = some (.int .i64 (reachL p)[u.toNat]) := by
            have := encZ_lookup hl
            rwa [Int.toNat_of_nonneg h10] at this
          rw [hlk]
          exact ⟨_, _, _, rfl, by omega, by omega⟩
        · obtain ⟨a5, s5, u, hu, h8, h9, _⟩ := pick_ok hc (k := k) (by omega) (at' := a4) (by omega) (by omega) s4 32
          simp only [Bool.not_true, cond_false]
          rw [hu]
          simp only [R54_r]
          exact ⟨_, _, _, rfl, by omega, by omega⟩
      · have d : decide (((reachL p).length : Int) > 0) = false := decide_eq_false (by omega)
        rw [d]
        simp only [cond_false]
        rw [hv]
        simp only [R54_r]
        exact ⟨_, _, _, rfl, by omega, by omega⟩
  · obtain ⟨a4, s4, m, hm, h6, h7, _⟩ := among_ok hc (k := k) (by omega) (at' := a2) (by omega) (by omega) s2 [-1, 32, 16] (by simp)
    have h' : c97 k [PV.int .i64 (-1), PV.int .i64 32, PV.int .i64 16] (encB bs) a2 (wi s2) = _ := hm
    simp only [cond_true]
    rw [h']
    simp only [R97_r]
    exact ⟨_, _, _, rfl, by omega, by omega⟩
end Go.Proofs.YtcamhbchcjpjiaaGreat
/- Graphs of small programs. -/
set_option linter.unusedVariables false
set_option linter.unusedSimpArgs false
set_option maxRecDepth 4000
namespace Go.Proofs.YtcamhbchcjpjiaaGreat
open Go.Dp

def encZZ (l : List (List Int)) : List PV := l.map fun z => .row 0 0 (encZ z)
@[simp] theorem encZZ_length (l : List (List Int)) : (encZZ l).length = l.length := by simp [encZZ]
theorem encZZ_get (l : List (List Int)) (i : Nat) : (encZZ l)[i]? = (l[i]?).map fun z => .row 0 0 (encZ z) := by simp [encZZ]
theorem encZZ_snoc (l : List (List Int)) (x : List Int) : encZZ l ++ [.row 0 0 (encZ x)] = encZZ (l ++ [x]) := by simp [encZZ]
def graphF (p : Prg) : Nat → Nat → List (List Int)
  | 0, i => []
  | m + 1, i => nxL p (i : Int) :: graphF p m (i + 1)
def graphL (p : Prg) : List (List Int) := graphF p (nS p) 0
theorem graphF_len (p : Prg) : ∀ (m i : Nat), (graphF p m i).length = m
  | 0, i => rfl
  | m + 1, i => by simp [graphF, graphF_len p m]
theorem graphF_get (p : Prg) : ∀ (m i j : Nat), j < m → (graphF p m i)[j]? = some (nxL p ((i + j : Nat) : Int))
  | 0, i, j, h => by omega
  | m + 1, i, 0, h => by simp [graphF]
  | m + 1, i, j + 1, h => by
    rw [graphF, List.getElem?_cons_succ, graphF_get p m (i + 1) j (by omega)]
    congr 3
    omega
theorem graph_loop {k : Nat} (hk : 1000300 ≤ k) {p : Prg} (hp : FitP p) (hs : smallP p = true) (l1 : List PV) : ∀ (m n i : Nat) (o : List (List Int)), m < n → i + m = nS p → o.length = i →
    L71_1 k n o.length (nS p : Int) (i : Int) p.wide p.vars l1 (encCms p.cmds) (encZZ o) = r71 (encZZ (o ++ graphF p m i))
  | m, 0, i, o, hn, hm, ho => by omega
  | 0, n + 1, i, o, hn, hm, ho => by
    have hd : decide ((i : Int) < (nS p : Int)) = false := by simp; omega
    have etk : (encZZ o).take o.length = encZZ o := by rw [List.take_of_length_le (by simp)]
    rw [sL71_1, hd, etk, graphF, List.append_nil]
    rfl
  | m + 1, n + 1, i, o, hn, hm, ho => by
    have hle := (nS_le hs).2
    have hd : decide ((i : Int) < (nS p : Int)) = true := by simp; omega
    have hnext : IntKind.i64.wrap ((i : Int) + 1) = ((i + 1 : Nat) : Int) := by rw [i64_id (by omega) (by omega)]; omega
    have etk : (encZZ o).take o.length = encZZ o := by rw [List.take_of_length_le (by simp)]
    rw [sL71_1, hd, nextI_ok (by omega) hp hs ⟨by omega, by omega⟩, hnext, etk]
    simp only [cond_true, R53_r]
    rw [lim_ok (by omega) (by omega), encZZ_snoc]
    simp only [cond_true]
    have := graph_loop hk hp hs l1 m n (i + 1) (o ++ [nxL p (i : Int)]) (by omega) (by omega) (by simp; omega)
    rw [List.length_append, List.append_assoc] at this
    exact this
theorem graph_ok {k : Nat} (hk : 1000400 ≤ k) {p : Prg} (hp : FitP p) (hs : smallP p = true) (l1 : List PV) : c71 k p.wide p.vars l1 (encCms p.cmds) = r71 (encZZ (graphL p)) := by
  obtain ⟨k, rfl⟩ : ∃ j, k = j + 1 := ⟨k - 1, by omega⟩
  have hle := (nS_le hs).2
  rw [n71, nSI_ok (by omega) hs]
  simp only [R68_r]
  exact graph_loop (k := k) (by omega) hp hs l1 (nS p) k 0 [] (by omega) (by omega) rfl
end Go.Proofs.YtcamhbchcjpjiaaGreat
/- Graphs turned around. -/
set_option linter.unusedVariables false
set_option linter.unusedSimpArgs false
set_option maxRecDepth 4000
namespace Go.Proofs.YtcamhbchcjpjiaaGreat
open Go.Dp

def encN0 (z : List Int) : PV := bif z.isEmpty then .row 0 2 [] else .row 0 0 (encZ z)
def encF (l : List (List Int)) : List PV := l.map encN0
@[simp] theorem encF_length (l : List (List Int)) : (encF l).length = l.length := by simp [encF]
theorem encF_get (l : List (List Int)) (i : Nat) : (encF l)[i]? = (l[i]?).map encN0 := by simp [encF]
theorem encN0_row (z : List Int) : (encN0 z).atRow 0 0 = some (encZ z) := by
  unfold encN0
  cases z with
  | nil => rfl
  | cons x z => rfl
theorem encF_set (l : List (List Int)) (i : Nat) (z : List Int) (hz : z ≠ []) : (encF l).set i (.row 0 0 (encZ z)) = encF (l.set i z) := by
  have e : PV.row 0 0 (encZ z) = encN0 z := by
    unfold encN0
    cases z with
    | nil => exact absurd rfl hz
    | cons x z => rfl
  rw [e, encF, encF, List.map_set]
def pushAll (v : Int) : List Int → List (List Int) → List (List Int)
  | [], o => o
  | w :: l, o => pushAll v l (o.set w.toNat ((o[w.toNat]?).getD [] ++ [v]))
def turnF : Nat → List (List Int) → List (List Int) → List (List Int)
  | _, [], o => o
  | i, z :: l, o => turnF (i + 1) l (pushAll (i : Int) z o)
def turnL (g : List (List Int)) : List (List Int) := turnF 0 g (List.replicate g.length [])
theorem pushAll_len (v : Int) : ∀ (l : List Int) (o : List (List Int)), (pushAll v l o).length = o.length
  | [], o => rfl
  | w :: l, o => by rw [pushAll, pushAll_len v l, List.length_set]
theorem turnF_len : ∀ (l : List (List Int)) (i : Nat) (o : List (List Int)), (turnF i l o).length = o.length
  | [], i, o => rfl
  | z :: l, i, o => by rw [turnF, turnF_len l, pushAll_len]
def atL (o : List (List Int)) (w : Nat) : List Int := (o[w]?).getD []
theorem pushAll_mem (v : Int) : ∀ (l : List Int) (o : List (List Int)), (∀ x ∈ l, 0 ≤ x ∧ x.toNat < o.length) → ∀ (w : Nat) (y : Int), y ∈ atL (pushAll v l o) w ↔ y ∈ atL o w ∨ (y = v ∧ (w : Int) ∈ l)
  | [], o, hl, w, y => by simp [pushAll]
  | x :: l, o, hl, w, y => by
    obtain ⟨h0, h1⟩ := hl x (by simp)
    rw [pushAll, pushAll_mem v l _ (fun z hz => by rw [List.length_set]; exact hl z (by simp [hz])) w y]
    have e : atL (o.set x.toNat ((o[x.toNat]?).getD [] ++ [v])) w = if x.toNat = w then atL o w ++ [v] else atL o w := by
      unfold atL
      rw [List.getElem?_set]
      by_cases he : x.toNat = w
      · subst he; simp [h1]
      · simp [he]
    rw [e]
    have hw : (w : Int) = x ↔ x.toNat = w := by omega
    by_cases he : x.toNat = w
    · rw [if_pos he]
      have hwx := hw.2 he
      rw [List.mem_append, List.mem_singleton, hwx, List.mem_cons]
      constructor
      · rintro ((h | h) | ⟨h, _⟩)
        · exact .inl h
        · exact .inr ⟨h, .inl rfl⟩
        · exact .inr ⟨h, .inl rfl⟩
      · rintro (h | ⟨h, _⟩)
        · exact .inl (.inl h)
        · exact .inl (.inr h)
    · rw [if_neg he]
      have hne : ¬ (w : Int) = x := fun h => he (hw.1 h)
      simp [hne]
theorem turnF_mem : ∀ (l : List (List Int)) (i : Nat) (o : List (List Int)), (∀ z ∈ l, ∀ x ∈ z, 0 ≤ x ∧ x.toNat < o.length) → ∀ (w : Nat) (y : Int), y ∈ atL (turnF i l o) w ↔ y ∈ atL o w ∨ ∃ j z, l[j]? = some z ∧ y = ((i + j : Nat) : Int) ∧ (w : Int) ∈ z
  | [], i, o, hl, w, y => by simp [turnF]
  | z :: l, i, o, hl, w, y => by
    rw [turnF, turnF_mem l (i + 1) _ (fun u hu => by rw [pushAll_len]; exact hl u (by simp [hu])) w y, pushAll_mem (i : Int) z o (hl z (by simp)) w y]
    constructor
    · rintro ((h | ⟨h1, h2⟩) | ⟨j, u, h1, h2, h3⟩)
      · exact .inl h
      · exact .inr ⟨0, z, rfl, by simpa using h1, h2⟩
      · exact .inr ⟨j + 1, u, by simpa using h1, by rw [h2]; congr 1; omega, h3⟩
    · rintro (h | ⟨j, u, h1, h2, h3⟩)
      · exact .inl (.inl h)
      · cases j with
        | zero =>
          simp at h1
          subst h1
          exact .inl (.inr ⟨by simpa using h2, h3⟩)
        | succ j => exact .inr ⟨j, u, by simpa using h1, by rw [h2]; congr 1; omega, h3⟩
theorem turnL_mem {g : List (List Int)} (hg : ∀ z ∈ g, ∀ x ∈ z, 0 ≤ x ∧ x.toNat < g.length) (w : Nat) (y : Int) : y ∈ atL (turnL g) w ↔ ∃ (j : Nat) (z : List Int), g[j]? = some z ∧ y = (j : Int) ∧ (w : Int) ∈ z := by
  unfold turnL
  rw [turnF_mem g 0 _ (by simpa using hg) w y]
  have e : atL (List.replicate g.length ([] : List Int)) w = [] := by
    unfold atL
    rw [List.getElem?_replicate]
    split <;> rfl
  rw [e]
  simp
theorem pushAll_bound (v : Int) (b : Nat) : ∀ (l : List Int) (o : List (List Int)), (∀ z ∈ o, z.length ≤ b) → ∀ z ∈ pushAll v l o, z.length ≤ b + l.length
  | [], o, h => by simpa [pushAll] using h
  | x :: l, o, h => by
    intro z hz
    rw [pushAll] at hz
    have := pushAll_bound v (b + 1) l _ (fun u hu => by
      rcases List.mem_or_eq_of_mem_set hu with hu | rfl
      · have := h u hu; omega
      · cases ho : o[x.toNat]? with
        | none => simp
        | some t =>
          have := h t (List.mem_of_getElem? ho)
          simp; omega) z hz
    simp only [List.length_cons]
    omega
theorem turn_loop2 {k : Nat} (n1 i : Nat) (g : List PV) (t12 : Int) (l : List Int) (hl : l.length ≤ 6) : ∀ (n j : Nat) (o : List (List Int)), l.length - j < n → j ≤ l.length → (∀ x ∈ l, 0 ≤ x ∧ x.toNat < o.length) → (∀ z ∈ o, z.length ≤ 1000 + j) →
    L70_2 k n1 n o.length (i : Int) g t12 (i : Int) (encZ l) (l.length : Int) (j : Int) (encF o) = L70_1 k n1 (pushAll (i : Int) (l.drop j) o).length g t12 (IntKind.i64.wrap ((i : Int) + 1)) (encF (pushAll (i : Int) (l.drop j) o))
  | 0, j, o, hn, hj, ho, hb => by omega
  | n + 1, j, o, hn, hj, ho, hb => by
    rw [sL70_2]
    by_cases hlt : j < l.length
    · have hd : decide ((j : Int) < (l.length : Int)) = true := by simpa using hlt
      have hnext : IntKind.i64.wrap ((j : Int) + 1) = ((j + 1 : Nat) : Int) := by rw [i64_id (by omega) (by omega)]; omega
      obtain ⟨h0, h1⟩ := ho _ (List.getElem_mem hlt)
      have hin : (decide ((0 : Int) ≤ l[j]) && decide (l[j] < (o.length : Int))) = true := by simp; omega
      have hget : (encF o)[0 + l[j].toNat]? = some (encN0 o[l[j].toNat]) := by rw [Nat.zero_add, encF_get, List.getElem?_eq_getElem h1]; rfl
      have hz := hb _ (List.getElem_mem h1)
      rw [hd, encZ_lookup hlt, drop_cons hlt, hnext]
      simp only [cond_true, Option.bind_some, int_atInt]
      rw [hin, hget]
      simp only [cond_true, Option.bind_some, encN0_row, encZ_length]
      rw [lim_ok (by omega) (by omega), encZ_snoc]
      have e1 : ((some (0 + l[j].toNat) : Option Nat) == some (0 + l[j].toNat)) = true := by simp
      have e2 : decide (o[l[j].toNat].length + 1 ≤ (encZ (o[l[j].toNat] ++ [(i : Int)])).length) = true := by simp
      have e3 : (encZ (o[l[j].toNat] ++ [(i : Int)])).take (o[l[j].toNat].length + 1) = encZ (o[l[j].toNat] ++ [(i : Int)]) := by rw [List.take_of_length_le (by simp)]
      rw [e1, e2, e3, Nat.zero_add, encF_set _ _ _ (by simp), pushAll, List.getElem?_eq_getElem h1]
      simp only [cond_true, Bool.and_self, Option.getD_some]
      have := turn_loop2 (k := k) n1 i g t12 l hl n (j + 1) (o.set l[j].toNat (o[l[j].toNat] ++ [(i : Int)])) (by omega) (by omega) (fun x hx => by rw [List.length_set]; exact ho x hx) (fun z hz => by
        rcases List.mem_or_eq_of_mem_set hz with hz | rfl
        · have := hb z hz; omega
        · simp; omega)
      rw [List.length_set] at this
      exact this
    · have hd : decide ((j : Int) < (l.length : Int)) = false := by simpa using hlt
      rw [hd, List.drop_eq_nil_of_le (by omega)]
      rfl
theorem turn_loop1 {k : Nat} (hk : 100 ≤ k) (g : List (List Int)) (hgl : g.length ≤ 100) (hg : ∀ z ∈ g, z.length ≤ 6 ∧ ∀ x ∈ z, 0 ≤ x ∧ x.toNat < g.length) : ∀ (n i : Nat) (o : List (List Int)), g.length - i < n → i ≤ g.length → o.length = g.length → (∀ z ∈ o, z.length ≤ 6 * i) →
    L70_1 k n o.length (encZZ g) (g.length : Int) (i : Int) (encF o) = r70 (encF (turnF i (g.drop i) o))
  | 0, i, o, hn, hi, ho, hb => by omega
  | n + 1, i, o, hn, hi, ho, hb => by
    rw [sL70_1]
    by_cases hlt : i < g.length
    · have hd : decide ((i : Int) < (g.length : Int)) = true := by simpa using hlt
      have hnext : IntKind.i64.wrap ((i : Int) + 1) = ((i + 1 : Nat) : Int) := by rw [i64_id (by omega) (by omega)]; omega
      obtain ⟨h1, h2⟩ := hg _ (List.getElem_mem hlt)
      rw [hd, lookP_nat, encZZ_get, List.getElem?_eq_getElem hlt, drop_cons hlt]
      simp only [cond_true, Option.map_some, Option.bind_some, row_atRow, encZ_length]
      have h3 := turn_loop2 (k := k) n i (encZZ g) (g.length : Int) g[i] h1 k 0 o (by omega) (by omega) (fun x hx => by rw [ho]; exact h2 x hx) (fun z hz => by have := hb z hz; omega)
      have h' : L70_2 k n k o.length (i : Int) (encZZ g) (g.length : Int) (i : Int) (encZ g[i]) (g[i].length : Int) 0 (encF o) = _ := h3
      rw [h', hnext, List.drop_zero, turnF]
      exact turn_loop1 hk g hgl hg n (i + 1) _ (by omega) (by omega) (by rw [pushAll_len]; exact ho) (fun z hz => by
        have := pushAll_bound (i : Int) (6 * i) g[i] o hb z hz
        omega)
    · have hd : decide ((i : Int) < (g.length : Int)) = false := by simpa using hlt
      have etk : (encF o).take o.length = encF o := by rw [List.take_of_length_le (by simp)]
      rw [hd, List.drop_eq_nil_of_le (by omega), etk]
      rfl
theorem turned_ok {k : Nat} (hk : 200 ≤ k) (g : List (List Int)) (hgl : g.length ≤ 100) (hg : ∀ z ∈ g, z.length ≤ 6 ∧ ∀ x ∈ z, 0 ≤ x ∧ x.toNat < g.length) : c70 k (encZZ g) = r70 (encF (turnL g)) := by
  obtain ⟨k, rfl⟩ : ∃ j, k = j + 1 := ⟨k - 1, by omega⟩
  rw [n70, encZZ_length]
  have e : (((g.length : Int) == (g.length : Int)) && decide ((0 : Int) ≤ (g.length : Int)) && decide (g.length * 24 ≤ LIM) && decide (g.length ≤ LIM)) = true := by
    have h1 : decide (g.length * 24 ≤ LIM) = true := decide_eq_true (by unfold LIM; omega)
    have h2 : decide (g.length ≤ LIM) = true := decide_eq_true (by unfold LIM; omega)
    rw [h1, h2]
    simp
  have e2 : List.replicate g.length (PV.row 0 2 []) = encF (List.replicate g.length []) := by simp [encF, encN0]
  rw [e, e2]
  have := turn_loop1 (k := k) (by omega) g hgl hg k 0 (List.replicate g.length []) (by omega) (by omega) (by simp) (fun z hz => by rw [(List.mem_replicate.1 hz).2]; simp)
  rw [List.length_replicate, List.drop_zero] at this
  exact this
end Go.Proofs.YtcamhbchcjpjiaaGreat
/- Breadth first: the least numbers of steps. -/
set_option linter.unusedVariables false
set_option linter.unusedSimpArgs false
namespace Go.Proofs.YtcamhbchcjpjiaaGreat
open Go.Dp

def dAt (d : List Int) (v : Int) : Int := (d[v.toNat]?).getD (-1)
def inG (N : Nat) (v : Int) : Prop := 0 ≤ v ∧ v.toNat < N
inductive Way (g : List (List Int)) (some : List Int) : Nat → Int → Prop
  | start (v : Int) (h : v ∈ some) : Way g some 0 v
  | step (n : Nat) (v w : Int) (h : Way g some n v) (hw : w ∈ atL g v.toNat) : Way g some (n + 1) w
def bIn (h : Int) : List Int → List Int → List Int → List Int × List Int
  | [], d, q => (d, q)
  | w :: l, d, q => bif decide (dAt d w < 0) then bIn h l (d.set w.toNat (dAt d h + 1)) (q ++ [w]) else bIn h l d q
def bOut (g : List (List Int)) : Nat → List Int → List Int → List Int
  | _, d, [] => d
  | 0, d, _ => d
  | m + 1, d, h :: t => bOut g m (bIn h (atL g h.toNat) d (h :: t)).1 ((bIn h (atL g h.toNat) d (h :: t)).2.drop 1)
def bSt : List Int → List Int → List Int
  | [], d => d
  | v :: l, d => bSt l (d.set v.toNat 0)
def stepsL (g : List (List Int)) (some : List Int) : List Int := bOut g (some.length + g.length) (bSt some (List.replicate g.length (-1))) some
theorem dAt_set {d : List Int} {w : Int} (hw : inG d.length w) (x : Int) {v : Int} (hv : 0 ≤ v) : dAt (d.set w.toNat x) v = if v = w then x else dAt d v := by
  obtain ⟨h0, h1⟩ := hw
  unfold dAt
  by_cases e : v = w
  · subst e; rw [List.getElem?_set_self h1, if_pos rfl]; rfl
  · rw [List.getElem?_set_ne (by omega), if_neg e]
def negs (d : List Int) : Nat := d.countP fun x => decide (x < 0)
theorem negs_set : ∀ {d : List Int} {i : Nat} (x : Int), i < d.length → (d[i]?).getD (-1) < 0 → 0 ≤ x → negs (d.set i x) + 1 = negs d
  | [], i, x, h, _, _ => by simp at h
  | a :: d, 0, x, h, h1, h2 => by
    simp at h1
    simp only [List.set_cons_zero, negs, List.countP_cons]
    rw [if_neg (by simp; omega), if_pos (by simpa using h1)]
  | a :: d, i + 1, x, h, h1, h2 => by
    have := negs_set (d := d) (i := i) x (by simpa using h) (by simpa using h1) h2
    simp only [List.set_cons_succ, negs, List.countP_cons] at this ⊢
    omega
structure BfsI (g : List (List Int)) (some d q : List Int) : Prop where
  len : d.length = g.length
  rng : ∀ v ∈ q, inG g.length v
  snd : ∀ v, inG g.length v → dAt d v = -1 ∨ (0 ≤ dAt d v ∧ Way g some (dAt d v).toNat v)
  st : ∀ v ∈ some, dAt d v = 0
  vis : ∀ v ∈ q, 0 ≤ dAt d v
  srt : q.Pairwise (fun a b => dAt d a ≤ dAt d b)
  bnd : ∀ h t, q = h :: t → ∀ v, inG g.length v → dAt d v ≤ dAt d h + 1
  don : ∀ v, inG g.length v → 0 ≤ dAt d v → v ∉ q → ∀ w ∈ atL g v.toNat, 0 ≤ dAt d w ∧ dAt d w ≤ dAt d v + 1
theorem bIn_spec {g : List (List Int)} {some : List Int} (hg : ∀ (i : Nat) (x : Int), x ∈ atL g i → inG g.length x) (hs : ∀ x ∈ some, inG g.length x) (h : Int) : ∀ (l d t : List Int), BfsI g some d (h :: t) → (∀ w ∈ l, w ∈ atL g h.toNat) →
    ∃ t', (bIn h l d (h :: t)).2 = h :: t' ∧ BfsI g some (bIn h l d (h :: t)).1 (h :: t') ∧ (∀ v, inG g.length v → 0 ≤ dAt d v → dAt (bIn h l d (h :: t)).1 v = dAt d v) ∧ (∀ w ∈ l, 0 ≤ dAt (bIn h l d (h :: t)).1 w) ∧ negs (bIn h l d (h :: t)).1 + t'.length = negs d + t.length
  | [], d, t, hI, hl => ⟨t, rfl, hI, fun _ _ _ => rfl, by simp, rfl⟩
  | w :: l, d, t, hI, hl => by
    have hh := hI.vis h (by simp)
    have hhr := hI.rng h (by simp)
    have hwr : inG g.length w := hg _ _ (hl w (by simp))
    have hwd : inG d.length w := by rw [hI.len]; exact hwr
    rw [bIn]
    by_cases hc : dAt d w < 0
    · have e : decide (dAt d w < 0) = true := by simpa using hc
      rw [e]
      simp only [cond_true]
      have key : ∀ v, inG g.length v → dAt (d.set w.toNat (dAt d h + 1)) v = if v = w then dAt d h + 1 else dAt d v := fun v hv => dAt_set hwd _ hv.1
      have old : ∀ v, inG g.length v → 0 ≤ dAt d v → dAt (d.set w.toNat (dAt d h + 1)) v = dAt d v := by
        intro v hv h0
        rw [key v hv, if_neg (by rintro rfl; omega)]
      have hI2 : BfsI g some (d.set w.toNat (dAt d h + 1)) (h :: (t ++ [w])) := by
        refine ⟨by rw [List.length_set]; exact hI.len, ?_, ?_, ?_, ?_, ?_, ?_, ?_⟩
        · intro v hv
          rcases List.mem_cons.1 hv with rfl | hv
          · exact hhr
          · rcases List.mem_append.1 hv with hv | hv
            · exact hI.rng v (by simp [hv])
            · rw [List.mem_singleton.1 hv]; exact hwr
        · intro v hv
          rw [key v hv]
          by_cases e1 : v = w
          · subst e1
            rw [if_pos rfl]
            right
            refine ⟨by omega, ?_⟩
            rcases hI.snd h hhr with h1 | ⟨_, h1⟩
            · omega
            · have := Way.step _ _ v h1 (hl v (by simp))
              rwa [show (dAt d h).toNat + 1 = (dAt d h + 1).toNat by omega] at this
          · rw [if_neg e1]; exact hI.snd v hv
        · intro v hv
          rw [old v (hs v hv) (by rw [hI.st v hv]; omega)]
          exact hI.st v hv
        · intro v hv
          rcases List.mem_cons.1 hv with rfl | hv
          · rw [old v hhr hh]; exact hh
          · rcases List.mem_append.1 hv with hv | hv
            · have h1 := hI.vis v (by simp [hv])
              rw [old v (hI.rng v (by simp [hv])) h1]; exact h1
            · rw [List.mem_singleton.1 hv, key w hwr, if_pos rfl]; omega
        · rw [← List.cons_append, List.pairwise_append]
          refine ⟨?_, by simp, ?_⟩
          · refine hI.srt.imp_of_mem ?_
            intro a b ha hb hab
            rw [old a (hI.rng a ha) (hI.vis a ha), old b (hI.rng b hb) (hI.vis b hb)]
            exact hab
          · intro a ha b hb
            rw [List.mem_singleton.1 hb, key w hwr, if_pos rfl, old a (hI.rng a ha) (hI.vis a ha)]
            exact hI.bnd h t rfl a (hI.rng a ha)
        · intro h' t' he v hv
          injection he with he _
          subst he
          rw [old h hhr hh, key v hv]
          by_cases e1 : v = w
          · rw [if_pos e1]; omega
          · rw [if_neg e1]; exact hI.bnd h t rfl v hv
        · intro v hv h0 hn x hx
          have hvw : v ≠ w := by rintro rfl; exact hn (by simp)
          have hvq : v ∉ h :: t := by
            intro hm
            rcases List.mem_cons.1 hm with rfl | hm
            · exact hn (by simp)
            · exact hn (by simp [hm])
          rw [key v hv, if_neg hvw] at h0 ⊢
          obtain ⟨h1, h2⟩ := hI.don v hv h0 hvq x hx
          rw [old x (hg _ _ hx) h1]
          exact ⟨h1, h2⟩
      obtain ⟨t', r1, r2, r3, r4, r5⟩ := bIn_spec hg hs h l _ (t ++ [w]) hI2 (fun x hx => hl x (by simp [hx]))
      have hq : (h :: t) ++ [w] = h :: (t ++ [w]) := rfl
      rw [hq]
      refine ⟨t', r1, r2, fun v hv h0 => ?_, fun x hx => ?_, ?_⟩
      · rw [r3 v hv (by rw [old v hv h0]; exact h0), old v hv h0]
      · rcases List.mem_cons.1 hx with rfl | hx
        · rw [r3 x hwr (by rw [key x hwr, if_pos rfl]; omega), key x hwr, if_pos rfl]; omega
        · exact r4 x hx
      · have := negs_set (d := d) (i := w.toNat) (dAt d h + 1) hwd.2 hc (by omega)
        rw [r5, List.length_append, List.length_singleton]
        omega
    · have e : decide (dAt d w < 0) = false := by simpa using hc
      rw [e]
      simp only [cond_false]
      obtain ⟨t', r1, r2, r3, r4, r5⟩ := bIn_spec hg hs h l d t hI (fun x hx => hl x (by simp [hx]))
      refine ⟨t', r1, r2, r3, fun x hx => ?_, r5⟩
      rcases List.mem_cons.1 hx with rfl | hx
      · rw [r3 x hwr (by omega)]; omega
      · exact r4 x hx
theorem bPop {g : List (List Int)} {some : List Int} {h : Int} {d t : List Int} (hg : ∀ (i : Nat) (x : Int), x ∈ atL g i → inG g.length x) (hI : BfsI g some d (h :: t)) (hd : ∀ w ∈ atL g h.toNat, 0 ≤ dAt d w) : BfsI g some d t := by
  have hs := List.pairwise_cons.1 hI.srt
  refine ⟨hI.len, fun v hv => hI.rng v (by simp [hv]), hI.snd, hI.st, fun v hv => hI.vis v (by simp [hv]), hs.2, ?_, ?_⟩
  · rintro h' t' rfl v hv
    have h1 := hI.bnd h _ rfl v hv
    have h2 := hs.1 h' (by simp)
    omega
  · intro v hv h0 hn w hw
    by_cases e : v = h
    · subst e
      exact ⟨hd w hw, hI.bnd v t rfl w (hg _ _ hw)⟩
    · exact hI.don v hv h0 (by simp [e, hn]) w hw
theorem bOut_spec {g : List (List Int)} {some : List Int} (hg : ∀ (i : Nat) (x : Int), x ∈ atL g i → inG g.length x) (hs : ∀ x ∈ some, inG g.length x) : ∀ (m : Nat) (d q : List Int), BfsI g some d q → negs d + q.length ≤ m → BfsI g some (bOut g m d q) []
  | m, d, [], hI, hm => by unfold bOut; exact hI
  | 0, d, h :: t, hI, hm => by simp at hm
  | m + 1, d, h :: t, hI, hm => by
    obtain ⟨t', r1, r2, r3, r4, r5⟩ := bIn_spec hg hs h (atL g h.toNat) d t hI (fun x hx => hx)
    rw [bOut, r1]
    simp only [List.length_cons] at hm
    exact bOut_spec hg hs m _ t' (bPop hg r2 r4) (by omega)
theorem bSt_spec : ∀ (l d : List Int), (∀ v ∈ l, inG d.length v) → (bSt l d).length = d.length ∧ ∀ v, 0 ≤ v → dAt (bSt l d) v = if v ∈ l then 0 else dAt d v
  | [], d, h => ⟨rfl, fun v _ => by simp [bSt]⟩
  | x :: l, d, h => by
    have hx := h x (by simp)
    obtain ⟨h1, h2⟩ := bSt_spec l (d.set x.toNat 0) (fun v hv => by rw [List.length_set]; exact h v (by simp [hv]))
    rw [bSt]
    refine ⟨by rw [h1, List.length_set], fun v hv => ?_⟩
    rw [h2 v hv, dAt_set hx 0 hv]
    by_cases e1 : v ∈ l
    · simp [e1]
    · by_cases e2 : v = x <;> simp [e1, e2]
theorem dAt_rep (N : Nat) (v : Int) : dAt (List.replicate N (-1)) v = -1 := by
  unfold dAt
  by_cases h : v.toNat < N
  · simp [h]
  · rw [List.getElem?_eq_none (by simp; omega)]; rfl
theorem negs_le (d : List Int) : negs d ≤ d.length := List.countP_le_length
theorem bfs_start {g : List (List Int)} {some : List Int} (hs : ∀ x ∈ some, inG g.length x) : BfsI g some (bSt some (List.replicate g.length (-1))) some := by
  obtain ⟨h1, h2⟩ := bSt_spec some (List.replicate g.length (-1)) (fun v hv => by simpa using hs v hv)
  have hd : ∀ v, 0 ≤ v → dAt (bSt some (List.replicate g.length (-1))) v = if v ∈ some then 0 else -1 := fun v hv => by rw [h2 v hv, dAt_rep]
  refine ⟨by simpa using h1, hs, ?_, ?_, ?_, ?_, ?_, ?_⟩
  · intro v hv
    rw [hd v hv.1]
    by_cases e : v ∈ some
    · rw [if_pos e]; exact .inr ⟨by omega, .start v e⟩
    · rw [if_neg e]; exact .inl rfl
  · intro v hv; rw [hd v (hs v hv).1, if_pos hv]
  · intro v hv; rw [hd v (hs v hv).1, if_pos hv]; omega
  · refine (List.pairwise_of_forall (R := fun _ _ => True) (fun _ _ => trivial)).imp_of_mem ?_
    intro a b ha hb _
    rw [hd a (hs a ha).1, hd b (hs b hb).1, if_pos ha, if_pos hb]
    omega
  · rintro h t rfl v hv
    rw [hd v hv.1, hd h (hs h (by simp)).1, if_pos (show h ∈ h :: t by simp)]
    split <;> omega
  · intro v hv h0 hn
    rw [hd v hv.1, if_neg hn] at h0
    omega
theorem stepsL_spec {g : List (List Int)} {some : List Int} (hg : ∀ (i : Nat) (x : Int), x ∈ atL g i → inG g.length x) (hs : ∀ x ∈ some, inG g.length x) : (stepsL g some).length = g.length ∧
    ∀ v, inG g.length v → (dAt (stepsL g some) v = -1 ∧ ∀ n, ¬ Way g some n v) ∨ (0 ≤ dAt (stepsL g some) v ∧ Way g some (dAt (stepsL g some) v).toNat v ∧ ∀ n, Way g some n v → dAt (stepsL g some) v ≤ n) := by
  have hI := bOut_spec hg hs (some.length + g.length) _ some (bfs_start hs) (by
    have h1 := negs_le (bSt some (List.replicate g.length (-1)))
    have h2 := (bfs_start hs).len
    omega)
  have hI' : BfsI g some (stepsL g some) [] := hI
  have low : ∀ n v, Way g some n v → 0 ≤ dAt (stepsL g some) v ∧ dAt (stepsL g some) v ≤ n ∧ inG g.length v := by
    intro n v hw
    induction hw with
    | start v h => rw [hI'.st v h]; exact ⟨by omega, by omega, hs v h⟩
    | step n v w _ hw ih =>
      obtain ⟨h1, h2⟩ := hI'.don v ih.2.2 ih.1 (by simp) w hw
      exact ⟨h1, by omega, hg _ _ hw⟩
  refine ⟨hI'.len, fun v hv => ?_⟩
  rcases hI'.snd v hv with h | ⟨h1, h2⟩
  · exact .inl ⟨h, fun n hn => by have := (low n v hn).1; omega⟩
  · exact .inr ⟨h1, h2, fun n hn => (low n v hn).2.1⟩
end Go.Proofs.YtcamhbchcjpjiaaGreat
/- A row made of one value, many times over. -/
set_option linter.unusedVariables false
set_option linter.unusedSimpArgs false
set_option maxRecDepth 8000
namespace Go.Proofs.YtcamhbchcjpjiaaGreat
open Go.Dp

theorem lo32B (a : W) : (a &&& 4294967295#64).toNat = a.toNat % 4294967296 := by
  rw [BitVec.toNat_and]
  exact Nat.and_two_pow_sub_one_eq_mod a.toNat 32
theorem hi32B (a : W) : (a >>> (32 : Int).toNat).toNat = a.toNat / 4294967296 := by
  rw [BitVec.toNat_ushiftRight, Nat.shiftRight_eq_div_pow]
  rfl
theorem mulB64_ok {k : Nat} (hk : 1 ≤ k) (a b : W) : ∃ h : W, c179 k (wi a) (wi b) = r179 (wi h) (wi (a * b)) ∧ h.toNat = a.toNat * b.toNat / 18446744073709551616 := by
  obtain ⟨k, rfl⟩ : ∃ j, k = j + 1 := ⟨k - 1, by omega⟩
  rw [n179]
  have e : (4294967295 : Int) = wi 4294967295#64 := rfl
  have hs : ∀ x : W, shrI .u64 (wi x) 32 = wi (x >>> (32 : Int).toNat) := fun x => shr_wi x (by omega)
  rw [e]
  simp only [hs, and_wi, mul_wi, add_wi]
  refine ⟨_, rfl, ?_⟩
  simp only [BitVec.toNat_add, BitVec.toNat_mul, lo32B, hi32B]
  have ha := a.isLt
  have hb := b.isLt
  generalize a.toNat = x at *
  generalize b.toNat = y at *
  have hx : x = x / 4294967296 * 4294967296 + x % 4294967296 := by omega
  have hy : y = y / 4294967296 * 4294967296 + y % 4294967296 := by omega
  have b1 : x / 4294967296 ≤ 4294967295 := by omega
  have b2 : x % 4294967296 ≤ 4294967295 := by omega
  have b3 : y / 4294967296 ≤ 4294967295 := by omega
  have b4 : y % 4294967296 ≤ 4294967295 := by omega
  have e1 : x * y = x / 4294967296 * (y / 4294967296) * 18446744073709551616 + (x / 4294967296 * (y % 4294967296) + x % 4294967296 * (y / 4294967296)) * 4294967296 + x % 4294967296 * (y % 4294967296) := by
    generalize x / 4294967296 = p at *
    generalize x % 4294967296 = q at *
    generalize y / 4294967296 = u at *
    generalize y % 4294967296 = v at *
    subst hx hy
    simp only [Nat.add_mul, Nat.mul_add]
    have t1 : p * 4294967296 * (u * 4294967296) = p * u * 18446744073709551616 := by rw [Nat.mul_mul_mul_comm]
    have t2 : p * 4294967296 * v = p * v * 4294967296 := by rw [Nat.mul_right_comm]
    have t3 : q * (u * 4294967296) = q * u * 4294967296 := by rw [Nat.mul_assoc]
    rw [t1, t2, t3]
    omega
  rw [e1]
  have m1 := Nat.mul_le_mul b1 b3
  have m2 := Nat.mul_le_mul b1 b4
  have m3 := Nat.mul_le_mul b2 b3
  have m4 := Nat.mul_le_mul b2 b4
  generalize x / 4294967296 * (y / 4294967296) = A at *
  generalize x / 4294967296 * (y % 4294967296) = B at *
  generalize x % 4294967296 * (y / 4294967296) = C at *
  generalize x % 4294967296 * (y % 4294967296) = D at *
  clear e1 hx hy
  omega
theorem u64_small {n : Int} (h0 : 0 ≤ n) (h1 : n ≤ 1000000) : IntKind.u64.wrap n = n := by
  show n % 18446744073709551616 = n
  omega
theorem repeat_loop {k : Nat} (N : Nat) (hN : N ≤ 1000) (a : Int) : ∀ (n c : Nat), 1 ≤ c → c ≤ N → N - c < n →
    L127_1 k n N (c : Int) (encZ (List.replicate c a ++ List.replicate (N - c) 0)) = r127 (encZ (List.replicate N a))
  | 0, c, h1, h2, h => by omega
  | n + 1, c, h1, h2, h => by
    rw [sL127_1]
    have ln : (encZ (List.replicate c a ++ List.replicate (N - c) 0)).length = N := by simp; omega
    by_cases hlt : c < N
    · have hd : decide ((c : Int) < (N : Int)) = true := by simpa using hlt
      have ht : (encZ (List.replicate c a ++ List.replicate (N - c) 0)).take c = encZ (List.replicate c a) := by rw [encZ_take, List.take_left' (by simp)]
      have hl : ((encZ (List.replicate c a)).length) = c := by simp
      have hm : min c (N - c) ≤ c := Nat.min_le_left _ _
      have hm2 : min c (N - c) ≤ N - c := Nat.min_le_right _ _
      have hm3 : 1 ≤ min c (N - c) := by omega
      rw [hd]
      simp only [Int.toNat_natCast, Nat.zero_add, ht, hl]
      have hg1 : (decide ((0 : Int) ≤ (c : Int)) && decide ((c : Int) ≤ (N : Int)) && decide ((N : Int) ≤ (N : Int))) = true := by simp; omega
      have hg2 : (decide ((0 : Int) ≤ (c : Int)) && decide ((c : Int) ≤ (N : Int))) = true := by simp; omega
      have ht2 : (encZ (List.replicate c a)).take (min c (N - c)) = encZ (List.replicate (min c (N - c)) a) := by rw [encZ_take, List.take_replicate, Nat.min_eq_left hm]
      have ht3 : (encZ (List.replicate c a ++ List.replicate (N - c) 0)).drop (c + min c (N - c)) = encZ (List.replicate (N - (c + min c (N - c))) 0) := by
        rw [show encZ (List.replicate c a ++ List.replicate (N - c) 0) = encZ (List.replicate c a) ++ encZ (List.replicate (N - c) 0) by simp [encZ], ← List.drop_drop, List.drop_left' (by simp)]
        simp only [encZ, ← List.map_drop, List.drop_replicate]
        congr 2
        omega
      have hnext : IntKind.i64.wrap ((c : Int) + ((min c (N - c) : Nat) : Int)) = ((c + min c (N - c) : Nat) : Int) := by rw [i64_id (by omega) (by omega)]; omega
      have he : encZ (List.replicate c a) ++ encZ (List.replicate (min c (N - c)) a) ++ encZ (List.replicate (N - (c + min c (N - c))) 0) = encZ (List.replicate (c + min c (N - c)) a ++ List.replicate (N - (c + min c (N - c))) 0) := by
        simp [encZ, ← List.replicate_append_replicate]
      rw [hg1, hg2, ht2, encZ_length, List.length_replicate, ht3, hnext, he]
      simp only [cond_true]
      exact repeat_loop N hN a n _ (by omega) (by omega) (by omega)
    · have hd : decide ((c : Int) < (N : Int)) = false := by simpa using hlt
      have hc : c = N := by omega
      subst hc
      have et : (encZ (List.replicate c a)).take c = encZ (List.replicate c a) := by rw [List.take_of_length_le (by simp)]
      rw [hd, Nat.sub_self, List.replicate_zero, List.append_nil, et]
      rfl
theorem repeat_ok {k : Nat} (hk : 1010 ≤ k) (N : Nat) (hN : N ≤ 1000) (a : Int) : c127 k [PV.int .i64 a] (N : Int) = r127 (encZ (List.replicate N a)) := by
  obtain ⟨k, rfl⟩ : ∃ j, k = j + 1 := ⟨k - 1, by omega⟩
  rw [n127]
  have hd : decide ((N : Int) < 0) = false := by simp
  have hw1 : IntKind.u64.wrap (([PV.int .i64 a] : List PV).length : Int) = wi 1#64 := rfl
  have hw2 : IntKind.u64.wrap (N : Int) = wi (BitVec.ofNat 64 N) := by
    rw [u64_small (by omega) (by omega)]
    show (N : Int) = ((BitVec.ofNat 64 N).toNat : Int)
    rw [BitVec.toNat_ofNat, Nat.mod_eq_of_lt (by omega)]
  obtain ⟨k, rfl⟩ : ∃ j, k = j + 1 := ⟨k - 1, by omega⟩
  rw [hd, hw1, hw2, n154]
  obtain ⟨h, h1, h2⟩ := mulB64_ok (k := k) (by omega) 1#64 (BitVec.ofNat 64 N)
  rw [h1]
  simp only [R179_r, R154_r, cond_false]
  have hh : h = 0#64 := by
    apply BitVec.eq_of_toNat_eq
    rw [h2, BitVec.toNat_ofNat, BitVec.toNat_ofNat, Nat.mod_eq_of_lt (a := N) (by omega)]
    simp
    omega
  have hv : wi (1#64 * BitVec.ofNat 64 N) = (N : Int) := by
    rw [BitVec.one_mul, ← hw2, u64_small (by omega) (by omega)]
  subst hh
  have h0 : decide (wi 0#64 > 0) = false := rfl
  have h3 : decide ((N : Int) > 9223372036854775807) = false := by simp; omega
  have h4 : IntKind.i64.wrap (N : Int) = (N : Int) := i64_id (by omega) (by omega)
  have h5 : (((N : Int) == (N : Int)) && decide ((0 : Int) ≤ (N : Int)) && decide (N * 8 ≤ LIM) && decide (N ≤ LIM)) = true := by
    have q1 : decide (N * 8 ≤ LIM) = true := decide_eq_true (by unfold LIM; omega)
    have q2 : decide (N ≤ LIM) = true := decide_eq_true (by unfold LIM; omega)
    rw [q1, q2]
    simp
  rw [hv, h0, h3, h4]
  simp only [cond_false, Int.toNat_natCast]
  rw [h5]
  simp only [cond_true, List.length_singleton]
  rcases Nat.eq_zero_or_pos N with hN0 | hN0
  · subst hN0
    obtain ⟨k, rfl⟩ : ∃ j, k = j + 1 := ⟨k - 1, by omega⟩
    rw [sL127_1]
    rfl
  · have e1 : min 1 N = 1 := by omega
    rw [e1]
    have e2 : (List.replicate N (PV.int .i64 0)).take 0 ++ [PV.int .i64 a].take 1 ++ (List.replicate N (PV.int .i64 0)).drop (0 + ([PV.int .i64 a].take 1).length) = encZ (List.replicate 1 a ++ List.replicate (N - 1) 0) := by
      simp [encZ]
    rw [e2]
    exact repeat_loop (k := k + 1) N hN a (k + 1) 1 (by omega) (by omega) (by omega)
end Go.Proofs.YtcamhbchcjpjiaaGreat
/- The program's numbers of steps: breadth first. -/
set_option linter.unusedVariables false
set_option linter.unusedSimpArgs false
set_option maxRecDepth 8000
namespace Go.Proofs.YtcamhbchcjpjiaaGreat
open Go.Dp

theorem encZ_set (l : List Int) (i : Nat) (x : Int) : (encZ l).set i (.int .i64 x) = encZ (l.set i x) := by simp [encZ, List.map_set]
theorem encZ_drop (l : List Int) (i : Nat) : (encZ l).drop i = encZ (l.drop i) := by simp [encZ, List.map_drop]
theorem encZ_at {d : List Int} {v : Int} (h : inG d.length v) : (encZ d)[0 + v.toNat]? = some (.int .i64 (dAt d v)) := by
  rw [Nat.zero_add, encZ_get, List.getElem?_eq_getElem h.2]
  simp [dAt, h.2]
theorem inG_dec {N : Nat} {v : Int} (h : inG N v) : (decide ((0 : Int) ≤ v) && decide (v < (N : Int))) = true := by
  obtain ⟨h0, h1⟩ := h
  rw [decide_eq_true h0, decide_eq_true (by omega)]
  rfl
theorem encZ_plain (l : List Int) : (encZ l).all plainP = true := by
  simp only [encZ, List.all_eq_true, List.mem_map]
  rintro _ ⟨x, _, rfl⟩
  rfl
theorem R127p_enc (l : List Int) (K0 : List PV → R) : R127p (r127 (encZ l)) K0 = K0 (encZ l) := by
  have h : ([SV.c (.own 3 0 (encZ l))].all plainS && true) = true := by simp [plainS, plainC, encZ_plain]; rfl
  show (bif ([SV.c (.own 3 0 (encZ l))].all plainS && true) then K0 (encZ l) else none) = _
  rw [h]
  rfl
structure GrF (G : List PV) (g : List (List Int)) : Prop where
  len : G.length = g.length
  row : ∀ i, i < g.length → ∃ p, G[i]? = some p ∧ p.atRow 0 0 = some (encZ (atL g i))
theorem GrF.at {G : List PV} {g : List (List Int)} (h : GrF G g) {v : Int} (hv : inG g.length v) : (lookP G v).bind (fun p => p.atRow 0 0) = some (encZ (atL g v.toNat)) := by
  obtain ⟨p, h1, h2⟩ := h.row v.toNat hv.2
  have : v = ((v.toNat : Nat) : Int) := by have := hv.1; omega
  rw [this, lookP_nat, Int.toNat_natCast, h1]
  exact h2
theorem GrF.bind {G : List PV} {g : List (List Int)} (h : GrF G g) {v : Int} (hv : inG g.length v) {α : Type} (K : List PV → Option α) : ((lookP G v).bind fun p => (p.atRow 0 0).bind fun l => K l) = K (encZ (atL g v.toNat)) := by
  have := h.at hv
  cases hl : lookP G v with
  | none => rw [hl] at this; cases this
  | some p =>
    rw [hl] at this
    simp only [Option.bind_some] at this ⊢
    rw [this]
    rfl
theorem bIn_len (h : Int) : ∀ (l d q : List Int), (bIn h l d q).1.length = d.length
  | [], d, q => rfl
  | w :: l, d, q => by
    rw [bIn]
    cases hc : decide (dAt d w < 0)
    · exact bIn_len h l d q
    · exact (bIn_len h l _ _).trans (List.length_set)
theorem bIn_que (h : Int) : ∀ (l d q : List Int), ∃ t, (bIn h l d q).2 = q ++ t ∧ t.length ≤ l.length
  | [], d, q => ⟨[], by simp [bIn], by simp⟩
  | w :: l, d, q => by
    rw [bIn]
    cases hc : decide (dAt d w < 0)
    · obtain ⟨t, h1, h2⟩ := bIn_que h l d q
      exact ⟨t, h1, by simp; omega⟩
    · obtain ⟨t, h1, h2⟩ := bIn_que h l (d.set w.toNat (dAt d h + 1)) (q ++ [w])
      exact ⟨w :: t, by simp only [cond_true]; rw [h1]; simp, by simp; omega⟩
section
variable {k : Nat} {G : List PV} (h : Int)
theorem in3 (n1 : Nat) (N : Nat) (l : List Int) (hll : l.length ≤ 1000) (hl : ∀ w ∈ l, inG N w) (hN : N ≤ 1000) : ∀ (n j : Nat) (d t : List Int), l.length - j < n → j ≤ l.length → d.length = N → inG N h → (h :: t).length + (l.length - j) ≤ 100000 → 0 ≤ dAt d h → dAt d h ≤ 100000 →
    L91_3 k n1 n G N (h :: t).length (encZ l) (l.length : Int) (j : Int) (encZ d) (encZ (h :: t)) =
      L91_4 k n1 G N 1 ((bIn h (l.drop j) d (h :: t)).2.length - 1) (encZ (bIn h (l.drop j) d (h :: t)).1) (encZ (bIn h (l.drop j) d (h :: t)).2)
  | 0, j, d, t, hn, hj, hd, hh, hq, h0, h1 => by omega
  | n + 1, j, d, t, hn, hj, hd, hh, hq, h0, h1 => by
    rw [sL91_3]
    by_cases hlt : j < l.length
    · have hdj : decide ((j : Int) < (l.length : Int)) = true := by simpa using hlt
      have hnext : IntKind.i64.wrap ((j : Int) + 1) = ((j + 1 : Nat) : Int) := by rw [i64_id (by omega) (by omega)]; omega
      have hw := hl _ (List.getElem_mem hlt)
      rw [hdj, encZ_lookup hlt, hnext]
      simp only [cond_true, Option.bind_some, int_atInt]
      rw [inG_dec hw, encZ_at (d := d) (v := l[j]) (by rw [hd]; exact hw)]
      simp only [cond_true, Option.bind_some, int_atInt]
      rw [drop_cons hlt, bIn]
      cases hc : decide (dAt d l[j] < 0)
      · exact in3 n1 N l hll hl hN n (j + 1) d t (by omega) (by omega) hd hh (by omega) h0 h1
      · have hp : decide ((0 : Int) < (((h :: t).length : Nat) : Int)) = true := decide_eq_true (by rw [List.length_cons]; omega)
        have hget : (encZ (h :: t))[0]? = some (PV.int .i64 h) := rfl
        have hwr : IntKind.i64.wrap (dAt d h + 1) = dAt d h + 1 := i64_id (by omega) (by omega)
        have hlm : (decide (((h :: t).length + 1) * 8 ≤ LIM) && decide ((h :: t).length + 1 ≤ LIM)) = true := lim_ok (by omega) (by omega)
        simp only [cond_true]
        rw [hp, hget]
        simp only [cond_true, Option.bind_some, int_atInt]
        rw [inG_dec hh, encZ_at (d := d) (v := h) (by rw [hd]; exact hh), hlm]
        simp only [cond_true, Option.bind_some, int_atInt]
        rw [hwr, Nat.zero_add, encZ_set, List.take_of_length_le (by simp), encZ_snoc]
        have hwh : l[j] ≠ h := by
          intro e
          have := of_decide_eq_true hc
          rw [e] at this
          omega
        have hdh : dAt (d.set l[j].toNat (dAt d h + 1)) h = dAt d h := by
          rw [dAt_set (by rw [hd]; exact hw) _ hh.1, if_neg (Ne.symm hwh)]
        have := in3 n1 N l hll hl hN n (j + 1) (d.set l[j].toNat (dAt d h + 1)) (t ++ [l[j]]) (by omega) (by omega) (by rw [List.length_set]; exact hd) hh (by simp at hq ⊢; omega) (by rw [hdh]; exact h0) (by rw [hdh]; exact h1)
        have e1 : (h :: (t ++ [l[j]])).length = (h :: t).length + 1 := by simp
        rw [e1] at this
        exact this
    · have hdj : decide ((j : Int) < (l.length : Int)) = false := by simpa using hlt
      have hp : (decide ((1 : Int) ≤ (((h :: t).length : Nat) : Int)) && decide ((((h :: t).length : Nat) : Int) ≤ (((h :: t).length : Nat) : Int))) = true := by
        rw [decide_eq_true (by rw [List.length_cons]; omega), decide_eq_true (by omega)]
        rfl
      have ed : l.drop j = [] := List.drop_eq_nil_of_le (by omega)
      rw [hdj, ed, hp]
      rfl
theorem in5 (n1 : Nat) (N : Nat) (l : List Int) (hll : l.length ≤ 1000) (hl : ∀ w ∈ l, inG N w) (hN : N ≤ 1000) : ∀ (n j : Nat) (d pre t : List Int), l.length - j < n → j ≤ l.length → d.length = N → inG N h → (h :: t).length + (l.length - j) ≤ 100000 → 0 ≤ dAt d h → dAt d h ≤ 100000 →
    ∃ pre' : List Int, L91_5 k n1 n G N pre.length (h :: t).length (encZ l) (l.length : Int) (j : Int) (encZ d) (encZ (pre ++ (h :: t))) =
      L91_4 k n1 G N (pre'.length + 1) ((bIn h (l.drop j) d (h :: t)).2.length - 1) (encZ (bIn h (l.drop j) d (h :: t)).1) (encZ (pre' ++ (bIn h (l.drop j) d (h :: t)).2))
  | 0, j, d, pre, t, hn, hj, hd, hh, hq, h0, h1 => by omega
  | n + 1, j, d, pre, t, hn, hj, hd, hh, hq, h0, h1 => by
    rw [sL91_5]
    by_cases hlt : j < l.length
    · have hdj : decide ((j : Int) < (l.length : Int)) = true := by simpa using hlt
      have hnext : IntKind.i64.wrap ((j : Int) + 1) = ((j + 1 : Nat) : Int) := by rw [i64_id (by omega) (by omega)]; omega
      have hw := hl _ (List.getElem_mem hlt)
      rw [hdj, encZ_lookup hlt, hnext]
      simp only [cond_true, Option.bind_some, int_atInt]
      rw [inG_dec hw, encZ_at (d := d) (v := l[j]) (by rw [hd]; exact hw)]
      simp only [cond_true, Option.bind_some, int_atInt]
      rw [drop_cons hlt, bIn]
      cases hc : decide (dAt d l[j] < 0)
      · exact in5 n1 N l hll hl hN n (j + 1) d pre t (by omega) (by omega) hd hh (by omega) h0 h1
      · have hp : decide ((0 : Int) < (((h :: t).length : Nat) : Int)) = true := decide_eq_true (by rw [List.length_cons]; omega)
        have hget : (encZ (pre ++ (h :: t)))[pre.length]? = some (PV.int .i64 h) := by rw [encZ_get]; simp
        have hwr : IntKind.i64.wrap (dAt d h + 1) = dAt d h + 1 := i64_id (by omega) (by omega)
        have hlm : (decide (((h :: t).length + 1) * 8 ≤ LIM) && decide ((h :: t).length + 1 ≤ LIM)) = true := lim_ok (by omega) (by omega)
        simp only [cond_true]
        rw [hp, hget]
        simp only [cond_true, Option.bind_some, int_atInt]
        rw [inG_dec hh, encZ_at (d := d) (v := h) (by rw [hd]; exact hh), hlm]
        simp only [cond_true, Option.bind_some, int_atInt]
        rw [hwr, Nat.zero_add, encZ_set, encZ_drop, List.drop_left, List.take_of_length_le (by simp), encZ_snoc]
        have hwh : l[j] ≠ h := by
          intro e
          have := of_decide_eq_true hc
          rw [e] at this
          omega
        have hdh : dAt (d.set l[j].toNat (dAt d h + 1)) h = dAt d h := by
          rw [dAt_set (by rw [hd]; exact hw) _ hh.1, if_neg (Ne.symm hwh)]
        have := in3 (k := k) (G := G) h n1 N l hll hl hN n (j + 1) (d.set l[j].toNat (dAt d h + 1)) (t ++ [l[j]]) (by omega) (by omega) (by rw [List.length_set]; exact hd) hh (by simp at hq ⊢; omega) (by rw [hdh]; exact h0) (by rw [hdh]; exact h1)
        have e1 : (h :: (t ++ [l[j]])).length = (h :: t).length + 1 := by simp
        rw [e1] at this
        exact ⟨[], this⟩
    · have hdj : decide ((j : Int) < (l.length : Int)) = false := by simpa using hlt
      have hp : (decide ((1 : Int) ≤ (((h :: t).length : Nat) : Int)) && decide ((((h :: t).length : Nat) : Int) ≤ (((h :: t).length : Nat) : Int))) = true := by
        rw [decide_eq_true (by rw [List.length_cons]; omega), decide_eq_true (by omega)]
        rfl
      have ed : l.drop j = [] := List.drop_eq_nil_of_le (by omega)
      rw [hdj, ed, hp]
      exact ⟨pre, rfl⟩
end
theorem out4 {k : Nat} (hk : 2000 ≤ k) {G : List PV} {g : List (List Int)} (hG : GrF G g) (hN : g.length ≤ 1000) (hgl : ∀ i, (atL g i).length ≤ 1000) {some' : List Int} (hg : ∀ (i : Nat) (x : Int), x ∈ atL g i → inG g.length x) (hs : ∀ x ∈ some', inG g.length x) : ∀ (m n : Nat) (d q pre : List Int), BfsI g some' d q → negs d + q.length ≤ m → m < n → (b : Int) → (∀ v, inG g.length v → dAt d v ≤ b) → b + m ≤ 50000 → m ≤ 50000 →
    L91_4 k n G g.length pre.length q.length (encZ d) (encZ (pre ++ q)) = r91 (encZ (bOut g m d q))
  | m, 0, d, q, pre, hI, hm, hn, b, hb, hbm, hm5 => by omega
  | m, n + 1, d, [], pre, hI, hm, hn, b, hb, hbm, hm5 => by
    rw [sL91_4]
    have e : bOut g m d [] = d := by unfold bOut; rfl
    have e2 : (encZ d).take g.length = encZ d := by rw [List.take_of_length_le (by simp [hI.len])]
    rw [e2, e]
    rfl
  | 0, n + 1, d, h :: t, pre, hI, hm, hn, b, hb, hbm, hm5 => by simp at hm
  | m + 1, n + 1, d, h :: t, pre, hI, hm, hn, b, hb, hbm, hm5 => by
    have hh := hI.rng h (by simp)
    have hp : decide ((((h :: t).length : Nat) : Int) > 0) = true := decide_eq_true (by rw [List.length_cons]; omega)
    have hp2 : decide ((0 : Int) < (((h :: t).length : Nat) : Int)) = true := hp
    have hget : (encZ (pre ++ (h :: t)))[pre.length]? = some (PV.int .i64 h) := by rw [encZ_get]; simp
    obtain ⟨t', r1, r2, r3, r4, r5⟩ := bIn_spec hg hs h (atL g h.toNat) d t hI (fun x hx => hx)
    have hlen := hgl h.toNat
    have hml : (h :: t).length ≤ m + 1 := by omega
    obtain ⟨pre', h5⟩ := in5 (k := k) (G := G) h n g.length (atL g h.toNat) hlen (fun w hw => hg _ w hw) hN k 0 d pre t (by omega) (by omega) hI.len hh (by omega) (hI.vis h (by simp)) (by have := hb h hh; omega)
    rw [sL91_4, hp, hget]
    simp only [cond_true, Option.bind_some, int_atInt]
    rw [hG.bind hh]
    rw [List.drop_zero, r1] at h5
    have h5' : L91_5 k n k G g.length pre.length (h :: t).length (encZ (atL g h.toNat)) ((atL g h.toNat).length : Int) 0 (encZ d) (encZ (pre ++ (h :: t))) = _ := h5
    rw [encZ_length, h5', bOut, r1]
    simp only [List.length_cons, Nat.add_sub_cancel, List.drop_succ_cons, List.drop_zero] at hm ⊢
    have hbd := hb h hh
    have e1 : pre' ++ h :: t' = (pre' ++ [h]) ++ t' := by simp
    have e2 : pre'.length + 1 = (pre' ++ [h]).length := by simp
    rw [e1, e2]
    refine out4 hk hG hN hgl hg hs m n _ t' (pre' ++ [h]) (bPop hg r2 r4) (by omega) (by omega) (b + 1) (fun v hv => ?_) (by omega) (by omega)
    have h1 := r2.bnd h t' rfl v hv
    rw [r3 h hh (hI.vis h (by simp))] at h1
    omega
theorem out2 {k : Nat} (hk : 2000 ≤ k) {G : List PV} {g : List (List Int)} (hG : GrF G g) (hN : g.length ≤ 1000) (hgl : ∀ i, (atL g i).length ≤ 1000) {some' : List Int} (hg : ∀ (i : Nat) (x : Int), x ∈ atL g i → inG g.length x) (hs : ∀ x ∈ some', inG g.length x) : ∀ (m n : Nat) (d q : List Int), BfsI g some' d q → negs d + q.length ≤ m → m < n → (b : Int) → (∀ v, inG g.length v → dAt d v ≤ b) → b + m ≤ 50000 → m ≤ 50000 →
    L91_2 k n G g.length q.length (encZ d) (encZ q) = r91 (encZ (bOut g m d q))
  | m, 0, d, q, hI, hm, hn, b, hb, hbm, hm5 => by omega
  | m, n + 1, d, [], hI, hm, hn, b, hb, hbm, hm5 => by
    rw [sL91_2]
    have e : bOut g m d [] = d := by unfold bOut; rfl
    have e2 : (encZ d).take g.length = encZ d := by rw [List.take_of_length_le (by simp [hI.len])]
    rw [e2, e]
    rfl
  | 0, n + 1, d, h :: t, hI, hm, hn, b, hb, hbm, hm5 => by simp at hm
  | m + 1, n + 1, d, h :: t, hI, hm, hn, b, hb, hbm, hm5 => by
    have hh := hI.rng h (by simp)
    have hp : decide ((((h :: t).length : Nat) : Int) > 0) = true := decide_eq_true (by rw [List.length_cons]; omega)
    have hp2 : decide ((0 : Int) < (((h :: t).length : Nat) : Int)) = true := hp
    have hget : (encZ (h :: t))[0]? = some (PV.int .i64 h) := rfl
    obtain ⟨t', r1, r2, r3, r4, r5⟩ := bIn_spec hg hs h (atL g h.toNat) d t hI (fun x hx => hx)
    have hlen := hgl h.toNat
    have hml : (h :: t).length ≤ m + 1 := by omega
    have h5 := in3 (k := k) (G := G) h n g.length (atL g h.toNat) hlen (fun w hw => hg _ w hw) hN k 0 d t (by omega) (by omega) hI.len hh (by omega) (hI.vis h (by simp)) (by have := hb h hh; omega)
    rw [sL91_2, hp, hget]
    simp only [cond_true, Option.bind_some, int_atInt]
    rw [hG.bind hh]
    rw [List.drop_zero, r1] at h5
    have h5' : L91_3 k n k G g.length (h :: t).length (encZ (atL g h.toNat)) ((atL g h.toNat).length : Int) 0 (encZ d) (encZ (h :: t)) = _ := h5
    rw [encZ_length, h5', bOut, r1]
    simp only [List.length_cons, Nat.add_sub_cancel, List.drop_succ_cons, List.drop_zero] at hm ⊢
    have hbd := hb h hh
    have e1 : h :: t' = [h] ++ t' := by simp
    rw [e1]
    refine out4 hk hG hN hgl hg hs m n _ t' [h] (bPop hg r2 r4) (by omega) (by omega) (b + 1) (fun v hv => ?_) (by omega) (by omega)
    have h1 := r2.bnd h t' rfl v hv
    rw [r3 h hh (hI.vis h (by simp))] at h1
    omega
theorem st1 {k : Nat} {G : List PV} {N : Nat} (hN : N ≤ 1000) (oL : Nat) (l : List Int) (hll : l.length ≤ 1000) (hl : ∀ w ∈ l, inG N w) (q : List PV) : ∀ (n j : Nat) (d : List Int), l.length - j < n → j ≤ l.length → d.length = N →
    L91_1 k n G N oL (encZ l) (l.length : Int) (j : Int) (encZ d) q = L91_2 k k G N oL (encZ (bSt (l.drop j) d)) q
  | 0, j, d, hn, hj, hd => by omega
  | n + 1, j, d, hn, hj, hd => by
    rw [sL91_1]
    by_cases hlt : j < l.length
    · have hdj : decide ((j : Int) < (l.length : Int)) = true := by simpa using hlt
      have hnext : IntKind.i64.wrap ((j : Int) + 1) = ((j + 1 : Nat) : Int) := by rw [i64_id (by omega) (by omega)]; omega
      have hw := hl _ (List.getElem_mem hlt)
      rw [hdj, encZ_lookup hlt, hnext, drop_cons hlt, bSt]
      simp only [cond_true, Option.bind_some, int_atInt]
      rw [inG_dec hw, encZ_at (d := d) (v := l[j]) (by rw [hd]; exact hw)]
      simp only [cond_true, Option.bind_some]
      rw [Nat.zero_add, encZ_set]
      exact st1 hN oL l hll hl q n (j + 1) _ (by omega) (by omega) (by rw [List.length_set]; exact hd)
    · have hdj : decide ((j : Int) < (l.length : Int)) = false := by simpa using hlt
      rw [hdj, List.drop_eq_nil_of_le (by omega)]
      rfl
theorem stepsFrom_ok {k : Nat} (hk : 3000 ≤ k) {G : List PV} {g : List (List Int)} (hG : GrF G g) (hN : g.length ≤ 1000) (hgl : ∀ i, (atL g i).length ≤ 1000) {l : List Int} (hll : l.length ≤ 500) (hg : ∀ (i : Nat) (x : Int), x ∈ atL g i → inG g.length x) (hs : ∀ x ∈ l, inG g.length x) :
    c91 k G (encZ l) = r91 (encZ (stepsL g l)) := by
  obtain ⟨k, rfl⟩ : ∃ j, k = j + 1 := ⟨k - 1, by omega⟩
  obtain ⟨k', rfl⟩ : ∃ j, k = j + 1 := ⟨k - 1, by omega⟩
  rw [n91, hG.len, repeat_ok (by omega) g.length hN (-1)]
  simp only [R127p_enc]
  rw [n128 _ _ (by rw [encZ_length]; unfold LIM; omega) (by rw [encZ_length]; unfold LIM; omega)]
  simp only [R128_r, encZ_length, List.length_replicate]
  have h1 := st1 (k := k' + 1) (G := G) (N := g.length) hN l.length l (by omega) hs (encZ l) (k' + 1) 0 (List.replicate g.length (-1)) (by omega) (by omega) (by simp)
  have h1' : L91_1 (k' + 1) (k' + 1) G g.length l.length (encZ l) (l.length : Int) 0 (encZ (List.replicate g.length (-1))) (encZ l) = _ := h1
  rw [h1', List.drop_zero]
  have hI := bfs_start (g := g) hs
  have hneg := negs_le (bSt l (List.replicate g.length (-1)))
  have hlen := hI.len
  refine out2 (by omega) hG hN hgl hg hs (l.length + g.length) (k' + 1) _ l hI (by omega) (by omega) 0 (fun v hv => ?_) (by omega) (by omega)
  rw [(bSt_spec l (List.replicate g.length (-1)) (fun v hv => by simpa using hs v hv)).2 v hv.1, dAt_rep]
  split <;> omega
end Go.Proofs.YtcamhbchcjpjiaaGreat
/- FnPlayed: the law. -/
set_option linter.unusedVariables false
set_option linter.unusedSimpArgs false
set_option maxRecDepth 4000
namespace Go.Proofs.YtcamhbchcjpjiaaGreat
open Go.Dp

theorem hasL_loop {k : Nat} (l : List Int) (hl : l.length ≤ 100000) (v : Int) : ∀ (n i : Nat), l.length - i < n → i ≤ l.length → L23_1 k n v (encZ l) (l.length : Int) (i : Int) = r23 ((l.drop i).contains v)
  | 0, i, h, hi => by omega
  | n + 1, i, h, hi => by
    rw [sL23_1]
    by_cases hlt : i < l.length
    · have hd : decide ((i : Int) < (l.length : Int)) = true := by simpa using hlt
      rw [hd, encZ_lookup hlt, drop_cons hlt]
      simp only [cond_true, Option.bind_some, int_atInt, List.contains_cons]
      rw [show (v == l[i]) = (l[i] == v) from BEq.comm]
      cases he : (l[i] == v)
      · simp only [cond_false, Bool.false_or]
        rw [i64_id (by omega) (by omega)]
        exact hasL_loop l hl v n (i + 1) (by omega) (by omega)
      · simp
    · have hd : decide ((i : Int) < (l.length : Int)) = false := by simpa using hlt
      rw [hd, List.drop_eq_nil_of_le (by omega)]
      simp
theorem hasL_ok {k : Nat} (hk : 100010 ≤ k) (l : List Int) (hl : l.length ≤ 100000) (v : Int) : c23 k (encZ l) v = r23 (l.contains v) := by
  obtain ⟨k, rfl⟩ : ∃ j, k = j + 1 := ⟨k - 1, by omega⟩
  rw [n23, encZ_length]
  have := hasL_loop (k := k) l hl v k 0 (by omega) (by omega)
  simpa using this
/-! ### The law -/
end Go.Proofs.YtcamhbchcjpjiaaGreat
/- What the program reaches, forth and back. -/
set_option linter.unusedVariables false
set_option linter.unusedSimpArgs false
set_option maxRecDepth 8000
namespace Go.Proofs.YtcamhbchcjpjiaaGreat
open Go.Dp

def nnF : List Int → Nat → List Int
  | [], _ => []
  | x :: d, i => bif decide (x ≥ 0) then (i : Int) :: nnF d (i + 1) else nnF d (i + 1)
theorem nnF_mem : ∀ (d : List Int) (i : Nat) (x : Int), x ∈ nnF d i ↔ ∃ (j : Nat) (y : Int), x = ((i + j : Nat) : Int) ∧ d[j]? = some y ∧ 0 ≤ y
  | [], i, x => by simp [nnF]
  | z :: d, i, x => by
    have ih := nnF_mem d (i + 1) x
    have tail : (∃ (j : Nat) (y : Int), x = ((i + j : Nat) : Int) ∧ (z :: d)[j]? = some y ∧ 0 ≤ y) ↔ (x = (i : Int) ∧ 0 ≤ z) ∨ ∃ (j : Nat) (y : Int), x = ((i + 1 + j : Nat) : Int) ∧ d[j]? = some y ∧ 0 ≤ y := by
      constructor
      · rintro ⟨j, y, h1, h2, h3⟩
        cases j with
        | zero => simp at h2; subst h2; exact .inl ⟨by simpa using h1, h3⟩
        | succ j => exact .inr ⟨j, y, by rw [h1]; omega, by simpa using h2, h3⟩
      · rintro (⟨h1, h2⟩ | ⟨j, y, h1, h2, h3⟩)
        · exact ⟨0, z, by simpa using h1, rfl, h2⟩
        · exact ⟨j + 1, y, by rw [h1]; omega, by simpa using h2, h3⟩
    rw [tail, nnF]
    by_cases hz : z ≥ 0
    · rw [decide_eq_true hz]
      simp only [cond_true, List.mem_cons, ih]
      constructor
      · rintro (h | h)
        · exact .inl ⟨h, hz⟩
        · exact .inr h
      · rintro (h | h)
        · exact .inl h.1
        · exact .inr h
    · rw [decide_eq_false hz]
      simp only [cond_false, ih]
      constructor
      · exact .inr
      · rintro (h | h)
        · exact absurd h.2 hz
        · exact h
theorem nnF_lt : ∀ (d : List Int) (i : Nat), (nnF d i).Pairwise (· < ·) ∧ ∀ x ∈ nnF d i, (i : Int) ≤ x
  | [], i => by simp [nnF]
  | z :: d, i => by
    obtain ⟨h1, h2⟩ := nnF_lt d (i + 1)
    rw [nnF]
    cases decide (z ≥ 0)
    · exact ⟨h1, fun x hx => by have := h2 x hx; omega⟩
    · refine ⟨List.pairwise_cons.2 ⟨fun x hx => by have := h2 x hx; omega, h1⟩, fun x hx => ?_⟩
      rcases List.mem_cons.1 hx with rfl | hx
      · omega
      · have := h2 x hx; omega
theorem nnF_len : ∀ (d : List Int) (i : Nat), (nnF d i).length ≤ d.length
  | [], i => by simp [nnF]
  | z :: d, i => by
    have := nnF_len d (i + 1)
    rw [nnF]
    cases decide (z ≥ 0)
    · simp only [cond_false, List.length_cons]; omega
    · simp only [cond_true, List.length_cons]; omega
theorem reachFrom_loop {k : Nat} (d : List Int) (hl : d.length ≤ 1000) : ∀ (n i : Nat) (o : List Int), d.length - i < n → i ≤ d.length → o.length ≤ i →
    L69_1 k n o.length (encZ d) (d.length : Int) (i : Int) (encZ o) = r69 (encZ (o ++ nnF (d.drop i) i))
  | 0, i, o, hn, hi, ho => by omega
  | n + 1, i, o, hn, hi, ho => by
    rw [sL69_1]
    have etk : (encZ o).take o.length = encZ o := by rw [List.take_of_length_le (by simp)]
    by_cases hlt : i < d.length
    · have hd : decide ((i : Int) < (d.length : Int)) = true := by simpa using hlt
      have hnext : IntKind.i64.wrap ((i : Int) + 1) = ((i + 1 : Nat) : Int) := by rw [i64_id (by omega) (by omega)]; omega
      rw [hd, encZ_lookup hlt, drop_cons hlt, hnext, etk, nnF]
      simp only [cond_true, Option.bind_some, int_atInt]
      cases hc : decide (d[i] ≥ 0)
      · exact reachFrom_loop d hl n (i + 1) o (by omega) (by omega) (by omega)
      · simp only [cond_true]
        rw [lim_ok (by omega) (by omega), encZ_snoc]
        simp only [cond_true]
        have := reachFrom_loop (k := k) d hl n (i + 1) (o ++ [(i : Int)]) (by omega) (by omega) (by simp; omega)
        rw [List.length_append, List.append_assoc] at this
        exact this
    · have hd : decide ((i : Int) < (d.length : Int)) = false := by simpa using hlt
      rw [hd, List.drop_eq_nil_of_le (by omega), etk]
      simp only [nnF, List.append_nil]
      rfl
def rfL (g : List (List Int)) (l : List Int) : List Int := nnF (stepsL g l) 0
theorem rfL_mem {g : List (List Int)} {l : List Int} (hg : ∀ (i : Nat) (x : Int), x ∈ atL g i → inG g.length x) (hs : ∀ x ∈ l, inG g.length x) (x : Int) : x ∈ rfL g l ↔ ∃ n, Way g l n x := by
  obtain ⟨h1, h2⟩ := stepsL_spec hg hs
  have hin : ∀ n x, Way g l n x → inG g.length x := by
    intro n x h
    cases h with
    | start _ h => exact hs _ h
    | step n v w h hw => exact hg _ _ hw
  rw [rfL, nnF_mem]
  constructor
  · rintro ⟨j, y, h3, h4, h5⟩
    have hj := (List.getElem?_eq_some_iff.1 h4).1
    have hx : inG g.length x := ⟨by omega, by omega⟩
    have hd : dAt (stepsL g l) x = y := by
      unfold dAt
      rw [show x.toNat = j by omega, h4]
      rfl
    rcases h2 x hx with ⟨h6, _⟩ | ⟨_, h6, _⟩
    · omega
    · exact ⟨_, h6⟩
  · rintro ⟨n, h⟩
    have hx := hin n x h
    have hlt : x.toNat < (stepsL g l).length := by rw [h1]; exact hx.2
    refine ⟨x.toNat, dAt (stepsL g l) x, by have := hx.1; omega, by simp [dAt, hlt], ?_⟩
    rcases h2 x hx with ⟨_, h6⟩ | ⟨h6, _⟩
    · exact absurd h (h6 n)
    · exact h6
theorem reachedFrom_ok {k : Nat} (hk : 4000 ≤ k) {G : List PV} {g : List (List Int)} (hG : GrF G g) (hN : g.length ≤ 1000) (hgl : ∀ i, (atL g i).length ≤ 1000) {l : List Int} (hll : l.length ≤ 500) (hg : ∀ (i : Nat) (x : Int), x ∈ atL g i → inG g.length x) (hs : ∀ x ∈ l, inG g.length x) :
    c69 k G (encZ l) = r69 (encZ (rfL g l)) := by
  obtain ⟨k, rfl⟩ : ∃ j, k = j + 1 := ⟨k - 1, by omega⟩
  have h1 := (stepsL_spec hg hs).1
  rw [n69, stepsFrom_ok (by omega) hG hN hgl hll hg hs]
  simp only [R91_r, encZ_length]
  have := reachFrom_loop (k := k) (stepsL g l) (by omega) k 0 [] (by omega) (by omega) (by simp)
  rw [List.drop_zero, List.nil_append] at this
  exact this
/-! ### Small programs -/
theorem inG_in {p : Prg} {x : Int} : inG (nS p) x ↔ inS p x := by
  unfold inG inS
  omega
theorem graphL_len (p : Prg) : (graphL p).length = nS p := graphF_len p (nS p) 0
theorem graphL_at (p : Prg) (i : Nat) : atL (graphL p) i = if i < nS p then nxL p (i : Int) else [] := by
  unfold atL graphL
  by_cases h : i < nS p
  · rw [graphF_get p _ _ _ h, if_pos h, Nat.zero_add]; rfl
  · rw [List.getElem?_eq_none (by rw [graphF_len]; omega), if_neg h]; rfl
theorem graphL_in {p : Prg} (hp : FitP p) (hs : smallP p = true) (i : Nat) (x : Int) (h : x ∈ atL (graphL p) i) : inG (graphL p).length x := by
  rw [graphL_len]
  rw [graphL_at] at h
  split at h
  · exact inG_in.2 (nxL_in hp hs ⟨by omega, by omega⟩ x h)
  · simp at h
theorem graphL_rows {p : Prg} (hp : FitP p) (hs : smallP p = true) : ∀ z ∈ graphL p, z.length ≤ 6 ∧ ∀ x ∈ z, 0 ≤ x ∧ x.toNat < (graphL p).length := by
  intro z hz
  obtain ⟨i, hi, rfl⟩ := List.getElem_of_mem hz
  have hi2 : i < nS p := by rw [graphL_len] at hi; exact hi
  have e : (graphL p)[i] = nxL p (i : Int) := by
    have := graphL_at p i
    rw [if_pos hi2] at this
    unfold atL at this
    rw [List.getElem?_eq_getElem hi] at this
    simpa using this
  rw [e]
  refine ⟨nxL_len hp _, fun x hx => ?_⟩
  have := graphL_in hp hs i x (by rw [graphL_at, if_pos hi2]; exact hx)
  exact this
theorem graphL_fit (p : Prg) : GrF (encZZ (graphL p)) (graphL p) := by
  refine ⟨by simp, fun i hi => ⟨.row 0 0 (encZ (atL (graphL p) i)), ?_, by simp⟩⟩
  rw [encZZ_get, List.getElem?_eq_getElem hi]
  simp [atL, hi]
theorem turnF_bound (b : Nat) : ∀ (l : List (List Int)) (i : Nat) (o : List (List Int)) (c : Nat), (∀ z ∈ l, z.length ≤ c) → (∀ z ∈ o, z.length ≤ b) → ∀ z ∈ turnF i l o, z.length ≤ b + c * l.length
  | [], i, o, c, hl, ho => fun z hz => by have := ho z hz; omega
  | x :: l, i, o, c, hl, ho => by
    intro z hz
    rw [turnF] at hz
    have h1 := hl x (by simp)
    have := turnF_bound (b + c) l (i + 1) _ c (fun z hz => hl z (by simp [hz])) (fun z hz => by have := pushAll_bound (i : Int) b x o ho z hz; omega) z hz
    simp only [List.length_cons, Nat.mul_add]
    omega
theorem turnL_len (g : List (List Int)) : (turnL g).length = g.length := by unfold turnL; rw [turnF_len]; simp
theorem turnL_fit (g : List (List Int)) : GrF (encF (turnL g)) (turnL g) := by
  refine ⟨by simp, fun i hi => ⟨encN0 (atL (turnL g) i), ?_, encN0_row _⟩⟩
  rw [encF_get, List.getElem?_eq_getElem hi]
  simp [atL, hi]
theorem turnL_short {p : Prg} (hp : FitP p) (hs : smallP p = true) (i : Nat) : (atL (turnL (graphL p)) i).length ≤ 1000 := by
  have hle := (nS_le hs).2
  have hb := turnF_bound 0 (graphL p) 0 (List.replicate (graphL p).length []) 6 (fun z hz => (graphL_rows hp hs z hz).1) (fun z hz => by rw [(List.mem_replicate.1 hz).2]; simp)
  unfold atL
  cases h : (turnL (graphL p))[i]? with
  | none => simp
  | some z =>
    have := hb z (List.mem_of_getElem? h)
    rw [graphL_len] at this
    simp only [Option.getD_some]
    omega
theorem turnL_in {p : Prg} (hp : FitP p) (hs : smallP p = true) (i : Nat) (x : Int) (h : x ∈ atL (turnL (graphL p)) i) : inG (turnL (graphL p)).length x := by
  rw [turnL_len]
  obtain ⟨j, z, h1, h2, _⟩ := (turnL_mem (fun z hz => (graphL_rows hp hs z hz).2) i x).1 h
  have := (List.getElem?_eq_some_iff.1 h1).1
  exact ⟨by omega, by omega⟩
theorem way_rch {p : Prg} (hp : FitP p) (hs : smallP p = true) (x : Int) : (∃ n, Way (graphL p) (whI p p.start) n x) ↔ Rch p x := by
  constructor
  · rintro ⟨n, h⟩
    induction h with
    | start v h => exact .start ((whI_mem p p.start v).1 h).1 ((whI_mem p p.start v).1 h).2
    | step n v w _ hw ih =>
      have hv := rch_in hp hs ih
      have := hv.1
      have := hv.2
      rw [graphL_at, if_pos (by omega), show ((v.toNat : Nat) : Int) = v by omega] at hw
      exact .step ih hw
  · intro h
    induction h with
    | start h1 h2 => exact ⟨0, .start _ ((whI_mem p p.start _).2 ⟨h1, h2⟩)⟩
    | @step x y h1 h2 ih =>
      obtain ⟨n, hn⟩ := ih
      have hv := rch_in hp hs h1
      have := hv.1
      have := hv.2
      exact ⟨n + 1, .step n x y hn (by rw [graphL_at, if_pos (by omega), show ((x.toNat : Nat) : Int) = x by omega]; exact h2)⟩
theorem way_into {p : Prg} (hp : FitP p) (hs : smallP p = true) {l : List Int} (hl : ∀ x ∈ l, inS p x) (x : Int) : (∃ n, Way (turnL (graphL p)) l n x) ↔ Into p l x := by
  have hr := fun (z : List Int) (hz : z ∈ graphL p) => (graphL_rows hp hs z hz).2
  have into_in : ∀ x, Into p l x → inS p x := by
    intro x h
    cases h with
    | here h => exact hl _ h
    | step h _ _ => exact h
  constructor
  · rintro ⟨n, h⟩
    induction h with
    | start v h => exact .here h
    | step n v w _ hw ih =>
      have hv := into_in v ih
      have := hv.1
      have := hv.2
      obtain ⟨j, z, h1, h2, h3⟩ := (turnL_mem hr _ _).1 hw
      have hj : j < nS p := by have := (List.getElem?_eq_some_iff.1 h1).1; rwa [graphL_len] at this
      have hz : z = nxL p (j : Int) := by
        have := graphL_at p j
        rw [if_pos hj] at this
        unfold atL at this
        rw [h1] at this
        simpa using this
      subst hz
      subst h2
      rw [show ((v.toNat : Nat) : Int) = v by omega] at h3
      exact .step ⟨by omega, by omega⟩ h3 ih
  · intro h
    induction h with
    | here h => exact ⟨0, .start _ h⟩
    | @step x y h1 h2 h3 ih =>
      obtain ⟨n, hn⟩ := ih
      have hv := into_in y h3
      have := hv.1
      have := hv.2
      have := h1.1
      have := h1.2
      refine ⟨n + 1, .step n y x hn ((turnL_mem hr _ _).2 ⟨x.toNat, nxL p x, ?_, by omega, by rw [show ((y.toNat : Nat) : Int) = y by omega]; exact h2⟩)⟩
      have hg := graphL_at p x.toNat
      rw [if_pos (by omega), show ((x.toNat : Nat) : Int) = x by omega] at hg
      unfold atL at hg
      rw [List.getElem?_eq_getElem (by rw [graphL_len]; omega)] at hg ⊢
      simpa using hg
theorem whI_len {p : Prg} (hs : smallP p = true) (t : List Nd) : (whI p t).length ≤ 32 := in_room hs (whN_lt p t _ _) fun x hx => ((whI_mem p t x).1 hx).1
theorem reachL_lt {p : Prg} (hp : FitP p) (hs : smallP p = true) : (reachL p).Pairwise (· < ·) := (reachF_spec hp hs 33 (whI p p.start) (by omega) (whN_lt p p.start _ _) (fun x hx => ((whI_mem p p.start x).1 hx).1)).1
theorem reachL_in {p : Prg} (hp : FitP p) (hs : smallP p = true) : ∀ x ∈ reachL p, inS p x := fun x hx => rch_in hp hs ((reachL_mem hp hs x).1 hx)
theorem reachL_len {p : Prg} (hp : FitP p) (hs : smallP p = true) : (reachL p).length ≤ 32 := in_room hs (reachL_lt hp hs) (reachL_in hp hs)
theorem reach_ok {k : Nat} (hk : 1000500 ≤ k) {p : Prg} (hp : FitP p) (hs : smallP p = true) : c73 k p.wide p.vars (encT p.start) (encCms p.cmds) = r73 (encZ (reachL p)) := by
  obtain ⟨k, rfl⟩ : ∃ j, k = j + 1 := ⟨k - 1, by omega⟩
  have hst := hp.st
  have hle := (nS_le hs).2
  have hwl := whI_len hs p.start
  have hsin : ∀ x ∈ whI p p.start, inG (graphL p).length x := fun x hx => by rw [graphL_len]; exact inG_in.2 ((whI_mem p p.start x).1 hx).1
  rw [n73, graph_ok (by omega) hp hs]
  simp only [R71_r]
  rw [where_ok (by omega) hs _ _ p.start (by omega) (startK hs)]
  simp only [R72_r]
  rw [reachedFrom_ok (by omega) (graphL_fit p) (by rw [graphL_len]; omega) (fun i => by
    rw [graphL_at]
    split
    · have := nxL_len hp (i : Int); omega
    · simp) (by omega) (graphL_in hp hs) hsin]
  simp only [R69_r]
  have e : rfL (graphL p) (whI p p.start) = reachL p := lt_ext (nnF_lt _ 0).1 (reachL_lt hp hs) fun x => by
    rw [rfL_mem (graphL_in hp hs) hsin x, way_rch hp hs x, reachL_mem hp hs x]
  rw [e]
theorem reachI_ok {k : Nat} (hk : 1000700 ≤ k) (p : Prg) (hp : FitP p) : c22 k p.wide p.vars (encT p.start) (encCms p.cmds) = r22 (encZ (reachR p)) (smallP p) := by
  obtain ⟨k, rfl⟩ : ∃ j, k = j + 1 := ⟨k - 1, by omega⟩
  rw [n22, isSmall_ok (by omega) p hp]
  simp only [R66_r, reachR]
  cases hs : smallP p
  · rfl
  · simp only [Bool.not_true, cond_false, cond_true]
    rw [reach_ok (by omega) hp hs]
    simp only [R73_r]
end Go.Proofs.YtcamhbchcjpjiaaGreat
/- Least ways. -/
set_option linter.unusedVariables false
set_option linter.unusedSimpArgs false
set_option maxRecDepth 8000
namespace Go.Proofs.YtcamhbchcjpjiaaGreat
open Go.Dp

theorem way_in {g : List (List Int)} {A : List Int} (hg : ∀ (i : Nat) (x : Int), x ∈ atL g i → inG g.length x) (hA : ∀ x ∈ A, inG g.length x) {m : Nat} {y : Int} (h : Way g A m y) : inG g.length y := by
  cases h with
  | start _ h => exact hA _ h
  | step n v w h hw => exact hg _ _ hw
theorem way_src {g : List (List Int)} {A : List Int} {m : Nat} {y : Int} : Way g A m y ↔ ∃ s ∈ A, Way g [s] m y := by
  constructor
  · intro h
    induction h with
    | start v h => exact ⟨v, h, .start v (by simp)⟩
    | step n v w _ hw ih =>
      obtain ⟨s, h1, h2⟩ := ih
      exact ⟨s, h1, .step n v w h2 hw⟩
  · rintro ⟨s, hs, h⟩
    induction h with
    | start v h => rw [List.mem_singleton.1 h]; exact .start s hs
    | step n v w _ hw ih => exact .step n v w ih hw
theorem way_pre {g : List (List Int)} {v w : Int} (hw : w ∈ atL g v.toNat) {n : Nat} {y : Int} (h : Way g [w] n y) : Way g [v] (n + 1) y := by
  induction h with
  | start u h => rw [List.mem_singleton.1 h]; exact .step 0 v w (.start v (by simp)) hw
  | step n u x _ hx ih => exact .step (n + 1) u x ih hx
theorem turn_iff {g : List (List Int)} (hr : ∀ z ∈ g, ∀ x ∈ z, 0 ≤ x ∧ x.toNat < g.length) {v w : Int} (hv : 0 ≤ v) (hw : 0 ≤ w) : v ∈ atL (turnL g) w.toNat ↔ w ∈ atL g v.toNat := by
  rw [turnL_mem hr, show ((w.toNat : Nat) : Int) = w by omega]
  constructor
  · rintro ⟨j, z, h1, h2, h3⟩
    have : v.toNat = j := by omega
    unfold atL
    rw [this, h1]
    exact h3
  · intro h
    unfold atL at h
    cases hz : g[v.toNat]? with
    | none => rw [hz] at h; simp at h
    | some z => rw [hz] at h; exact ⟨v.toNat, z, hz, by omega, h⟩
theorem atL_in {g : List (List Int)} (hr : ∀ z ∈ g, ∀ x ∈ z, 0 ≤ x ∧ x.toNat < g.length) (i : Nat) (x : Int) (h : x ∈ atL g i) : inG g.length x := by
  unfold atL at h
  cases hz : g[i]? with
  | none => rw [hz] at h; simp at h
  | some z => rw [hz] at h; exact hr z (List.mem_of_getElem? hz) x h
theorem way_turn {g : List (List Int)} (hr : ∀ z ∈ g, ∀ x ∈ z, 0 ≤ x ∧ x.toNat < g.length) {x y : Int} (hx : 0 ≤ x) (hy : 0 ≤ y) {m : Nat} : Way (turnL g) [y] m x ↔ Way g [x] m y := by
  have hT : ∀ (i : Nat) (x : Int), x ∈ atL (turnL g) i → 0 ≤ x := by
    intro i x h
    obtain ⟨j, z, _, h2, _⟩ := (turnL_mem hr i x).1 h
    omega
  have pos : ∀ {g' : List (List Int)} {a : Int} {m : Nat} {b : Int}, (∀ (i : Nat) (x : Int), x ∈ atL g' i → 0 ≤ x) → 0 ≤ a → Way g' [a] m b → 0 ≤ b := by
    intro g' a m b h1 h2 h3
    cases h3 with
    | start _ h => rw [List.mem_singleton.1 h]; exact h2
    | step n v w h hw => exact h1 _ _ hw
  constructor
  · intro h
    clear hx
    induction h with
    | start v h => rw [List.mem_singleton.1 h]; exact .start y (by simp)
    | step n v w h hw ih =>
      have h0 := pos hT hy h
      have h1 := hT _ _ hw
      exact way_pre ((turn_iff hr h1 h0).1 hw) ih
  · intro h
    clear hy
    induction h with
    | start v h => rw [List.mem_singleton.1 h]; exact .start x (by simp)
    | step n v w h hw ih =>
      have h0 := pos (fun i x h => (atL_in hr i x h).1) hx h
      have h1 := (atL_in hr _ _ hw).1
      exact way_pre ((turn_iff hr h0 h1).2 hw) ih
/-! ### The best of some -/
def bestF (D : List Int) : List Int → Int → Int
  | [], b => b
  | v :: l, b => bif decide (dAt D v ≥ 0) then (bif decide (b < 0) then bestF D l v else bif decide (dAt D v < dAt D b) then bestF D l v else bestF D l b) else bestF D l b
theorem bestF_spec (D : List Int) : ∀ (l : List Int) (b : Int), (∀ v ∈ l, 0 ≤ v) → (0 ≤ b → 0 ≤ dAt D b) →
    (bestF D l b = b ∧ ∀ v ∈ l, 0 ≤ dAt D v → 0 ≤ b ∧ dAt D b ≤ dAt D v) ∨ (bestF D l b ∈ l ∧ 0 ≤ dAt D (bestF D l b) ∧ (∀ v ∈ l, 0 ≤ dAt D v → dAt D (bestF D l b) ≤ dAt D v) ∧ (0 ≤ b → dAt D (bestF D l b) ≤ dAt D b))
  | [], b, hl, hb => .inl ⟨rfl, by simp⟩
  | v :: l, b, hl, hb => by
    have hv := hl v (by simp)
    have hl2 : ∀ u ∈ l, 0 ≤ u := fun u hu => hl u (by simp [hu])
    rw [bestF]
    by_cases h0 : dAt D v ≥ 0
    · rw [decide_eq_true h0]
      simp only [cond_true]
      have take : (b < 0 ∨ dAt D v < dAt D b) → (bestF D l v ∈ v :: l ∧ 0 ≤ dAt D (bestF D l v) ∧ (∀ u ∈ v :: l, 0 ≤ dAt D u → dAt D (bestF D l v) ≤ dAt D u) ∧ (0 ≤ b → dAt D (bestF D l v) ≤ dAt D b)) := by
        intro hb2
        rcases bestF_spec D l v hl2 (fun _ => h0) with ⟨h1, h2⟩ | ⟨h1, h2, h3, h4⟩
        · rw [h1]
          refine ⟨by simp, h0, fun u hu hu0 => ?_, fun h => by omega⟩
          rcases List.mem_cons.1 hu with rfl | hu
          · omega
          · exact (h2 u hu hu0).2
        · have := h4 hv
          refine ⟨by simp [h1], h2, fun u hu hu0 => ?_, fun h => by omega⟩
          rcases List.mem_cons.1 hu with rfl | hu
          · omega
          · exact h3 u hu hu0
      by_cases h1 : b < 0
      · rw [decide_eq_true h1]
        exact .inr (take (.inl h1))
      · rw [decide_eq_false h1]
        simp only [cond_false]
        by_cases h2 : dAt D v < dAt D b
        · rw [decide_eq_true h2]
          exact .inr (take (.inr h2))
        · rw [decide_eq_false h2]
          simp only [cond_false]
          rcases bestF_spec D l b hl2 hb with ⟨h3, h4⟩ | ⟨h3, h4, h5, h6⟩
          · refine .inl ⟨h3, fun u hu hu0 => ?_⟩
            rcases List.mem_cons.1 hu with rfl | hu
            · exact ⟨by omega, by omega⟩
            · exact h4 u hu hu0
          · have := h6 (by omega)
            refine .inr ⟨by simp [h3], h4, fun u hu hu0 => ?_, h6⟩
            rcases List.mem_cons.1 hu with rfl | hu
            · omega
            · exact h5 u hu hu0
    · rw [decide_eq_false h0]
      simp only [cond_false]
      rcases bestF_spec D l b hl2 hb with ⟨h3, h4⟩ | ⟨h3, h4, h5, h6⟩
      · refine .inl ⟨h3, fun u hu hu0 => ?_⟩
        rcases List.mem_cons.1 hu with rfl | hu
        · omega
        · exact h4 u hu hu0
      · refine .inr ⟨by simp [h3], h4, fun u hu hu0 => ?_, h6⟩
        rcases List.mem_cons.1 hu with rfl | hu
        · omega
        · exact h5 u hu hu0
/-! ### Down a way -/
def nxtQ (D : List Int) (v : Int) (w : Int) : Bool := dAt D w == dAt D v - 1
def nxtF (g : List (List Int)) (D : List Int) (v : Int) : Int := ((atL g v.toNat)[(fixI (nxtQ D v) 0 (atL g v.toNat)).toNat]?).getD 0
theorem nxtF_spec {g : List (List Int)} {D : List Int} {v : Int} (h : ∃ w ∈ atL g v.toNat, dAt D w = dAt D v - 1) : nxtF g D v ∈ atL g v.toNat ∧ dAt D (nxtF g D v) = dAt D v - 1 ∧
    ∃ j : Nat, fixI (nxtQ D v) 0 (atL g v.toNat) = (j : Int) ∧ (atL g v.toNat)[j]? = some (nxtF g D v) := by
  rcases fixI_spec (nxtQ D v) (atL g v.toNat) 0 with ⟨_, h1⟩ | ⟨j, hj, h1, h2, _⟩
  · obtain ⟨w, hw, hd⟩ := h
    have := h1 w hw
    unfold nxtQ at this
    rw [hd] at this
    simp at this
  · rw [Nat.zero_add] at h1
    have e : nxtF g D v = (atL g v.toNat)[j] := by
      unfold nxtF
      rw [h1, Int.toNat_natCast, List.getElem?_eq_getElem hj]
      rfl
    rw [e]
    refine ⟨List.getElem_mem hj, ?_, j, h1, List.getElem?_eq_getElem hj⟩
    unfold nxtQ at h2
    simpa using h2
def downF (g : List (List Int)) (D : List Int) : Nat → Int → List Int
  | 0, _ => []
  | m + 1, v => nxtF g D v :: downF g D m (nxtF g D v)
theorem downF_len (g : List (List Int)) (D : List Int) : ∀ (m : Nat) (v : Int), (downF g D m v).length = m
  | 0, v => rfl
  | m + 1, v => by rw [downF, List.length_cons, downF_len g D m]
def Stairs (g : List (List Int)) (D : List Int) : Prop := ∀ v, inG g.length v → 0 < dAt D v → ∃ w ∈ atL g v.toNat, dAt D w = dAt D v - 1
def endL : Int → List Int → Int
  | v, [] => v
  | _, x :: l => endL x l
theorem downF_end {g : List (List Int)} {D : List Int} (hst : Stairs g D) (hg : ∀ (i : Nat) (x : Int), x ∈ atL g i → inG g.length x) : ∀ (m : Nat) (v : Int), inG g.length v → dAt D v = (m : Int) → dAt D (endL v (downF g D m v)) = 0 ∧ inG g.length (endL v (downF g D m v))
  | 0, v, hv, hd => ⟨by simpa [downF, endL] using hd, hv⟩
  | m + 1, v, hv, hd => by
    obtain ⟨h1, h2, _⟩ := nxtF_spec (hst v hv (by omega))
    rw [downF, endL]
    exact downF_end hst hg m _ (hg _ _ h1) (by omega)
theorem endL_get : ∀ (l : List Int) (v : Int), (v :: l)[l.length]? = some (endL v l)
  | [], v => rfl
  | x :: l, v => by
    rw [List.length_cons, List.getElem?_cons_succ, endL]
    exact endL_get l x
section
variable {k : Nat}
theorem lway_loop {k : Nat} (l0 : List PV) (v0 : Int) (f : Int → Bool) (l : List (Int)) (hl : l.length ≤ 100000) (hc : ∀ x ∈ l, c126 k x l0 v0 = r126 (f x)) : ∀ (n i : Nat), l.length - i < n → i ≤ l.length → L114f126_1 k n (encZ l) l0 v0 (l.length : Int) (i : Int) = r114f126 (fixI f i (l.drop i))
  | 0, i, h, hi => by omega
  | n + 1, i, h, hi => by
    rw [sL114f126_1]
    by_cases hlt : i < l.length
    · have hd : decide ((i : Int) < (l.length : Int)) = true := by simpa using hlt
      have hnext : IntKind.i64.wrap ((i : Int) + 1) = ((i + 1 : Nat) : Int) := by rw [i64_id (by omega) (by omega)]; omega
      rw [hd, encZ_lookup hlt, drop_cons hlt, hnext]
      simp only [cond_true, Option.bind_some, int_atInt]
      rw [hc _ (List.getElem_mem hlt)]
      simp only [R126_r, fixI]
      cases f l[i]
      · exact lway_loop l0 v0 f l hl hc n (i + 1) (by omega) (by omega)
      · rfl
    · have hd : decide ((i : Int) < (l.length : Int)) = false := by simpa using hlt
      rw [hd, List.drop_eq_nil_of_le (by omega)]
      rfl
theorem lway_idx {k : Nat} (hk : 100010 ≤ k) (l0 : List PV) (v0 : Int) (f : Int → Bool) (l : List (Int)) (hl : l.length ≤ 100000) (hc : ∀ x ∈ l, c126 k x l0 v0 = r126 (f x)) : c114f126 (k + 1) (encZ l) l0 v0 = r114f126 (fixI f 0 l) := by
  rw [n114f126, encZ_length]
  exact lway_loop (k := k) l0 v0 f l hl hc k 0 (by omega) (by omega)
theorem encZ_v {D : List Int} {v : Int} (h : inG D.length v) : lookP (encZ D) v = some (.int .i64 (dAt D v)) := by
  have := encZ_at h
  rw [Nat.zero_add] at this
  have e : v = ((v.toNat : Nat) : Int) := by have := h.1; omega
  have h2 : lookP (encZ D) v = (encZ D)[v.toNat]? := by rw [e, lookP_nat, Int.toNat_natCast]
  rw [h2, this]
theorem best_loop (G : List PV) (l D : List Int) (hl : l.length ≤ 1000) (hin : ∀ v ∈ l, inG D.length v) : ∀ (n i : Nat) (b : Int), l.length - i < n → i ≤ l.length → (b < 0 ∨ inG D.length b) →
    L90_1 k n G b (encZ l) (l.length : Int) (i : Int) (encZ D) = (bif decide (bestF D (l.drop i) b < 0) then r90 [] else L90_2 k k G 1 (encZ D) (bestF D (l.drop i) b) [PV.int .i64 (bestF D (l.drop i) b)])
  | 0, i, b, hn, hi, hb => by omega
  | n + 1, i, b, hn, hi, hb => by
    rw [sL90_1]
    by_cases hlt : i < l.length
    · have hd : decide ((i : Int) < (l.length : Int)) = true := by simpa using hlt
      have hnext : IntKind.i64.wrap ((i : Int) + 1) = ((i + 1 : Nat) : Int) := by rw [i64_id (by omega) (by omega)]; omega
      have hv := hin _ (List.getElem_mem hlt)
      rw [hd, encZ_lookup hlt, hnext, drop_cons hlt, bestF]
      simp only [cond_true, Option.bind_some, int_atInt]
      rw [encZ_v hv]
      simp only [Option.bind_some, int_atInt]
      cases h0 : decide (dAt D l[i] ≥ 0)
      · exact best_loop G l D hl hin n (i + 1) b (by omega) (by omega) hb
      · simp only [cond_true]
        cases h1 : decide (b < 0)
        · have hbin : inG D.length b := by
            rcases hb with h | h
            · have := of_decide_eq_false h1; omega
            · exact h
          simp only [cond_false]
          rw [encZ_v hbin]
          simp only [Option.bind_some, int_atInt]
          cases h2 : decide (dAt D l[i] < dAt D b)
          · exact best_loop G l D hl hin n (i + 1) b (by omega) (by omega) hb
          · exact best_loop G l D hl hin n (i + 1) _ (by omega) (by omega) (.inr hv)
        · exact best_loop G l D hl hin n (i + 1) _ (by omega) (by omega) (.inr hv)
    · have hd : decide ((i : Int) < (l.length : Int)) = false := by simpa using hlt
      rw [hd, List.drop_eq_nil_of_le (by omega)]
      rfl
theorem down_loop (hk : 200000 ≤ k) {G : List PV} {g : List (List Int)} (hG : GrF G g) (hgl : ∀ i, (atL g i).length ≤ 1000) (hg : ∀ (i : Nat) (x : Int), x ∈ atL g i → inG g.length x) {D : List Int} (hD : D.length = g.length) (hst : Stairs g D) : ∀ (m n : Nat) (v : Int) (o : List Int), m < n → inG g.length v → dAt D v = (m : Int) → m ≤ 10000 → o.length + m ≤ 50000 →
    L90_2 k n G o.length (encZ D) v (encZ o) = r90 (encZ (o ++ downF g D m v))
  | m, 0, v, o, hn, hv, hd, hm, ho => by omega
  | 0, n + 1, v, o, hn, hv, hd, hm, ho => by
    have etk : (encZ o).take o.length = encZ o := by rw [List.take_of_length_le (by simp)]
    rw [sL90_2, encZ_v (by rw [hD]; exact hv), etk, downF, List.append_nil]
    simp only [Option.bind_some, int_atInt]
    rw [hd]
    rfl
  | m + 1, n + 1, v, o, hn, hv, hd, hm, ho => by
    have etk : (encZ o).take o.length = encZ o := by rw [List.take_of_length_le (by simp)]
    obtain ⟨h1, h2, j, h3, h4⟩ := nxtF_spec (hst v hv (by omega))
    have hp : decide (dAt D v > 0) = true := decide_eq_true (by omega)
    have hlen := hgl v.toNat
    rw [sL90_2, encZ_v (by rw [hD]; exact hv), etk]
    simp only [Option.bind_some, int_atInt]
    rw [hp, hG.bind hv]
    have hidx : c114f126 k (encZ (atL g v.toNat)) (encZ D) v = r114f126 (fixI (nxtQ D v) 0 (atL g v.toNat)) := by
      obtain ⟨k', rfl⟩ : ∃ j, k = j + 2 := ⟨k - 2, by omega⟩
      exact lway_idx (k := k' + 1) (by omega) (encZ D) v (nxtQ D v) (atL g v.toNat) (by omega) (fun x hx => by
        rw [n126, encZ_v (by rw [hD]; exact hg _ _ hx), encZ_v (by rw [hD]; exact hv)]
        simp only [Option.bind_some, int_atInt]
        rw [i64_id (by omega) (by omega)]
        rfl)
    rw [hidx]
    simp only [cond_true, R114f126p_r]
    rw [hG.bind hv, h3, lookP_nat, encZ_get, h4]
    simp only [Option.map_some, Option.bind_some, int_atInt]
    rw [lim_ok (by omega) (by omega), encZ_snoc, downF]
    simp only [cond_true]
    have := down_loop hk hG hgl hg hD hst m n (nxtF g D v) (o ++ [nxtF g D v]) (by omega) (hg _ _ h1) (by omega) (by omega) (by simp; omega)
    rw [List.length_append, List.append_assoc] at this
    exact this
end
def bestL (g : List (List Int)) (A : List Int) (y : Int) : Int := bestF (stepsL (turnL g) [y]) A (-1)
def wayL (g : List (List Int)) (A : List Int) (y : Int) : List Int := downF g (stepsL (turnL g) [y]) (dAt (stepsL (turnL g) [y]) (bestL g A y)).toNat (bestL g A y)
theorem way_spec {g : List (List Int)} (hr : ∀ z ∈ g, ∀ x ∈ z, 0 ≤ x ∧ x.toNat < g.length) {A : List Int} (hA : ∀ x ∈ A, inG g.length x) {y : Int} (hy : inG g.length y) (hreach : ∃ n, Way g A n y) :
    bestL g A y ∈ A ∧ 0 ≤ dAt (stepsL g A) y ∧ dAt (stepsL (turnL g) [y]) (bestL g A y) = dAt (stepsL g A) y ∧ Stairs g (stepsL (turnL g) [y]) ∧ (stepsL (turnL g) [y]).length = g.length ∧ ∀ v, inG g.length v → dAt (stepsL (turnL g) [y]) v = 0 → v = y := by
  have hg := atL_in hr
  have hT : ∀ (i : Nat) (x : Int), x ∈ atL (turnL g) i → inG (turnL g).length x := by
    intro i x h
    rw [turnL_len]
    obtain ⟨j, z, h1, h2, _⟩ := (turnL_mem hr i x).1 h
    have := (List.getElem?_eq_some_iff.1 h1).1
    exact ⟨by omega, by omega⟩
  have hys : ∀ x ∈ [y], inG (turnL g).length x := fun x hx => by rw [List.mem_singleton.1 hx, turnL_len]; exact hy
  obtain ⟨l1, d1⟩ := stepsL_spec hg hA
  obtain ⟨l2, d2⟩ := stepsL_spec hT hys
  rw [turnL_len] at l2 d2
  obtain ⟨n, hn⟩ := hreach
  have hy1 : 0 ≤ dAt (stepsL g A) y ∧ Way g A (dAt (stepsL g A) y).toNat y ∧ ∀ n, Way g A n y → dAt (stepsL g A) y ≤ n := by
    rcases d1 y hy with ⟨_, h⟩ | h
    · exact absurd hn (h n)
    · exact h
  obtain ⟨s0, hs0, hw0⟩ := way_src.1 hy1.2.1
  have hs0in := hA s0 hs0
  have hback : ∀ {v m}, inG g.length v → (Way (turnL g) [y] m v ↔ Way g [v] m y) := fun hv => way_turn hr hv.1 hy.1
  have hd0 : 0 ≤ dAt (stepsL (turnL g) [y]) s0 ∧ dAt (stepsL (turnL g) [y]) s0 ≤ dAt (stepsL g A) y := by
    rcases d2 s0 hs0in with ⟨_, h⟩ | ⟨h1, _, h3⟩
    · exact absurd ((hback hs0in).2 hw0) (h _)
    · have := h3 _ ((hback hs0in).2 hw0)
      exact ⟨h1, by omega⟩
  have hbest : bestL g A y ∈ A ∧ 0 ≤ dAt (stepsL (turnL g) [y]) (bestL g A y) ∧ dAt (stepsL (turnL g) [y]) (bestL g A y) ≤ dAt (stepsL (turnL g) [y]) s0 := by
    rcases bestF_spec (stepsL (turnL g) [y]) A (-1) (fun v hv => (hA v hv).1) (fun h => by omega) with ⟨_, h2⟩ | ⟨h1, h2, h3, _⟩
    · have := (h2 s0 hs0 hd0.1).1
      omega
    · exact ⟨h1, h2, h3 s0 hs0 hd0.1⟩
  have hbin := hA _ hbest.1
  refine ⟨hbest.1, hy1.1, ?_, ?_, l2, ?_⟩
  · have h1 : dAt (stepsL g A) y ≤ dAt (stepsL (turnL g) [y]) (bestL g A y) := by
      rcases d2 _ hbin with ⟨h, _⟩ | ⟨h1, h2, _⟩
      · omega
      · have := hy1.2.2 _ (way_src.2 ⟨_, hbest.1, (hback hbin).1 h2⟩)
        omega
    omega
  · intro v hv h0
    rcases d2 v hv with ⟨h, _⟩ | ⟨h1, h2, h3⟩
    · omega
    · generalize hm : dAt (stepsL (turnL g) [y]) v = D at *
      obtain ⟨m, hm2⟩ : ∃ m : Nat, D = ((m + 1 : Nat) : Int) := ⟨D.toNat - 1, by omega⟩
      have e : D.toNat = m + 1 := by omega
      rw [e] at h2
      cases h2 with
      | step _ u _ hu huv =>
        have huin : inG g.length u := by rw [← turnL_len g]; exact way_in hT hys hu
        have hmem := (turn_iff hr hv.1 huin.1).1 huv
        refine ⟨u, hmem, ?_⟩
        rcases d2 u huin with ⟨_, h⟩ | ⟨q1, q2, q3⟩
        · exact absurd hu (h _)
        · have a1 := q3 _ hu
          have a2 := h3 _ (Way.step _ u v q2 huv)
          omega
  · intro v hv h0
    rcases d2 v hv with ⟨h, _⟩ | ⟨h1, h2, _⟩
    · omega
    · rw [h0] at h2
      cases h2 with
      | start _ h => exact List.mem_singleton.1 h
theorem leastWay_ok {k : Nat} (hk : 300000 ≤ k) {g : List (List Int)} (hgl : g.length ≤ 100) (hr6 : ∀ z ∈ g, z.length ≤ 6 ∧ ∀ x ∈ z, 0 ≤ x ∧ x.toNat < g.length) (hT : ∀ i, (atL (turnL g) i).length ≤ 1000) {A : List Int} (hAl : A.length ≤ 500) (hA : ∀ x ∈ A, inG g.length x) {y : Int} (hy : inG g.length y) (hreach : ∃ n, Way g A n y) (hsm : dAt (stepsL g A) y ≤ 10000) :
    c90 k (encZZ g) (encZ A) [PV.int .i64 y] = r90 (encZ (bestL g A y :: wayL g A y)) := by
  have hr := fun z hz => (hr6 z hz).2
  have hg := atL_in hr
  obtain ⟨h1, h2, h3, h4, h5, h6⟩ := way_spec hr hA hy hreach
  have hTin : ∀ (i : Nat) (x : Int), x ∈ atL (turnL g) i → inG (turnL g).length x := by
    intro i x h
    rw [turnL_len]
    obtain ⟨j, z, h1, h2, _⟩ := (turnL_mem hr i x).1 h
    have := (List.getElem?_eq_some_iff.1 h1).1
    exact ⟨by omega, by omega⟩
  have hys : ∀ x ∈ [y], inG (turnL g).length x := fun x hx => by rw [List.mem_singleton.1 hx, turnL_len]; exact hy
  have hG : GrF (encZZ g) g := by
    refine ⟨by simp, fun i hi => ⟨.row 0 0 (encZ (atL g i)), ?_, by simp⟩⟩
    rw [encZZ_get, List.getElem?_eq_getElem hi]
    simp [atL, hi]
  have hgl6 : ∀ i, (atL g i).length ≤ 1000 := by
    intro i
    unfold atL
    cases hz : g[i]? with
    | none => simp
    | some z => have := (hr6 z (List.mem_of_getElem? hz)).1; simp only [Option.getD_some]; omega
  have hbin := hA _ h1
  obtain ⟨k, rfl⟩ : ∃ j, k = j + 1 := ⟨k - 1, by omega⟩
  have e0 : [PV.int .i64 y] = encZ [y] := rfl
  rw [n90, turned_ok (by omega) g hgl hr6]
  simp only [R70_r]
  rw [e0, stepsFrom_ok (by omega) (turnL_fit g) (by rw [turnL_len]; omega) hT (by simp) hTin hys]
  simp only [R91_r, encZ_length]
  have hb := best_loop (k := k) (encZZ g) A (stepsL (turnL g) [y]) (by omega) (fun v hv => by rw [h5]; exact hA v hv) k 0 (-1) (by omega) (by omega) (.inl (by omega))
  have hb' : L90_1 k k (encZZ g) (-1) (encZ A) (A.length : Int) 0 (encZ (stepsL (turnL g) [y])) = _ := hb
  rw [hb', List.drop_zero]
  have hneg : decide (bestF (stepsL (turnL g) [y]) A (-1) < 0) = false := decide_eq_false (by have := hbin.1; unfold bestL at this; omega)
  rw [hneg]
  simp only [cond_false]
  have hd := down_loop (k := k) (by omega) hG hgl6 hg h5 h4 (dAt (stepsL (turnL g) [y]) (bestL g A y)).toNat k (bestL g A y) [bestL g A y] (by omega) hbin (by omega) (by omega) (by simp; omega)
  exact hd
end Go.Proofs.YtcamhbchcjpjiaaGreat
/- Stuck states, numbers of steps, paths. -/
set_option linter.unusedVariables false
set_option linter.unusedSimpArgs false
set_option maxRecDepth 8000
namespace Go.Proofs.YtcamhbchcjpjiaaGreat
open Go.Dp

/-! ### Stuck states -/
def busy (p : Prg) (x : Int) : Bool := p.cmds.any fun c => hN p c.wh x
def stuckL (p : Prg) : List Int := (reachL p).filter fun x => !busy p x
def stuckR (p : Prg) : List Int := bif smallP p then stuckL p else []
theorem stuckL_len {p : Prg} (hp : FitP p) (hs : smallP p = true) : (stuckL p).length ≤ 32 := Nat.le_trans (List.length_filter_le _ _) (reachL_len hp hs)
theorem stuckR_len {p : Prg} (hp : FitP p) : (stuckR p).length ≤ 32 := by
  unfold stuckR
  cases hs : smallP p
  · simp
  · exact stuckL_len hp hs
theorem enL_empty (p : Prg) (s : List W) : ∀ (l : List Cmd) (i : Nat), (((enL p s i l).length : Int) == 0) = !(l.any fun c => holdT p c.wh s)
  | [], i => rfl
  | c :: l, i => by
    simp only [enL, List.any_cons]
    cases h : holdT p c.wh s
    · simp only [cond_false, List.nil_append, Bool.false_or]
      exact enL_empty p s l (i + 1)
    · simp only [cond_true, Bool.true_or, Bool.not_true, List.cons_append, List.nil_append, List.length_cons]
      simp
      omega
theorem stuck_loop {k : Nat} (w1 v1 : Int) (l1 l2 s1 : List PV) (f : Cmd → Bool) (l : List (Cmd)) (hl : l.length ≤ 100000) (hc : ∀ x ∈ l, c88 k (encT x.wh) (encChs x.ch) w1 v1 l1 l2 s1 = r88 (f x)) : ∀ (n i : Nat), l.length - i < n → i ≤ l.length → L125f88_1 k n (encCms l) w1 v1 l1 l2 s1 (l.length : Int) (i : Int) = r125f88 (fixI f i (l.drop i))
  | 0, i, h, hi => by omega
  | n + 1, i, h, hi => by
    rw [sL125f88_1]
    by_cases hlt : i < l.length
    · have hd : decide ((i : Int) < (l.length : Int)) = true := by simpa using hlt
      have hnext : IntKind.i64.wrap ((i : Int) + 1) = ((i + 1 : Nat) : Int) := by rw [i64_id (by omega) (by omega)]; omega
      rw [hd, lookP_nat, encCms_get, List.getElem?_eq_getElem hlt, drop_cons hlt, hnext]
      simp only [cond_true, Option.map_some, Option.bind_some, encCm_shp, encCm_wh, encCm_ch]
      rw [hc _ (List.getElem_mem hlt)]
      simp only [R88_r, fixI]
      cases f l[i]
      · exact stuck_loop w1 v1 l1 l2 s1 f l hl hc n (i + 1) (by omega) (by omega)
      · rfl
    · have hd : decide ((i : Int) < (l.length : Int)) = false := by simpa using hlt
      rw [hd, List.drop_eq_nil_of_le (by omega)]
      rfl
theorem stuck_idx {k : Nat} (hk : 100010 ≤ k) (w1 v1 : Int) (l1 l2 s1 : List PV) (f : Cmd → Bool) (l : List (Cmd)) (hl : l.length ≤ 100000) (hc : ∀ x ∈ l, c88 k (encT x.wh) (encChs x.ch) w1 v1 l1 l2 s1 = r88 (f x)) : c125f88 (k + 1) (encCms l) w1 v1 l1 l2 s1 = r125f88 (fixI f 0 l) := by
  rw [n125f88, encCms_length]
  exact stuck_loop (k := k) w1 v1 l1 l2 s1 f l hl hc k 0 (by omega) (by omega)
theorem stuck_ok {k : Nat} (hk : 100010 ≤ k) (w1 v1 : Int) (l1 l2 s1 : List PV) (f : Cmd → Bool) (l : List (Cmd)) (hl : l.length ≤ 100000) (hc : ∀ x ∈ l, c88 k (encT x.wh) (encChs x.ch) w1 v1 l1 l2 s1 = r88 (f x)) : c87f88 (k + 2) (encCms l) w1 v1 l1 l2 s1 = r87f88 (l.any f) := by
  rw [n87f88, stuck_idx (by omega) w1 v1 l1 l2 s1 f l hl hc]
  simp only [R125f88p_r, fixI_ge]
theorem stuckI_loop {k : Nat} (hk : 1000100 ≤ k) {p : Prg} (hp : FitP p) (hs : smallP p = true) (l : List Int) (hl : l.length ≤ 1000) (hin : ∀ x ∈ l, inS p x) : ∀ (n i : Nat) (o : List Int), l.length - i < n → i ≤ l.length → o.length ≤ i →
    L33_1 k n o.length (encZ l) (l.length : Int) (i : Int) p.wide p.vars (encT p.start) (encCms p.cmds) (encZ o) = r33 (encZ (o ++ (l.drop i).filter fun x => !busy p x)) true
  | 0, i, o, hn, hi, ho => by omega
  | n + 1, i, o, hn, hi, ho => by
    have hcm := hp.cm
    have etk : (encZ o).take o.length = encZ o := by rw [List.take_of_length_le (by simp)]
    rw [sL33_1]
    by_cases hlt : i < l.length
    · have hd : decide ((i : Int) < (l.length : Int)) = true := by simpa using hlt
      have hnext : IntKind.i64.wrap ((i : Int) + 1) = ((i + 1 : Nat) : Int) := by rw [i64_id (by omega) (by omega)]; omega
      have hx := hin _ (List.getElem_mem hlt)
      rw [hd, encZ_lookup hlt, drop_cons hlt, hnext]
      simp only [cond_true, Option.bind_some, int_atInt]
      rw [stoI_ok (by omega) hs _ _ hx]
      simp only [R52_r]
      have hany : c87f88 k (encCms p.cmds) p.wide p.vars (encT p.start) (encCms p.cmds) (encW (sto p l[i])) = r87f88 (busy p l[i]) := by
        obtain ⟨k', rfl⟩ : ∃ j, k = j + 3 := ⟨k - 3, by omega⟩
        exact stuck_ok (k := k' + 1) (by omega) p.wide p.vars (encT p.start) (encCms p.cmds) (encW (sto p l[i])) (fun c => hN p c.wh l[i]) p.cmds (by omega) (fun c hc => by
          rw [n88, holdsI_ok (by omega) p (small_good hs) _ _ _ (hp.c _ hc).wh ((good_all (small_good hs)).2 _ hc) _ (sto_ok hs hx)]
          simp only [R51_r]
          rfl)
      rw [hany]
      simp only [R87f88p_r, etk, List.filter_cons]
      cases busy p l[i]
      · simp only [Bool.not_false, cond_true, if_true]
        rw [lim_ok (by omega) (by omega), encZ_snoc]
        simp only [cond_true]
        have := stuckI_loop hk hp hs l hl hin n (i + 1) (o ++ [l[i]]) (by omega) (by omega) (by simp; omega)
        rw [List.length_append, List.append_assoc] at this
        exact this
      · exact stuckI_loop hk hp hs l hl hin n (i + 1) o (by omega) (by omega) (by omega)
    · have hd : decide ((i : Int) < (l.length : Int)) = false := by simpa using hlt
      have ed : l.drop i = [] := List.drop_eq_nil_of_le (by omega)
      rw [hd, ed, etk]
      simp only [List.filter_nil, List.append_nil]
      rfl
theorem stuckI_ok {k : Nat} (hk : 1000700 ≤ k) (p : Prg) (hp : FitP p) : c33 k p.wide p.vars (encT p.start) (encCms p.cmds) = r33 (encZ (stuckR p)) (smallP p) := by
  obtain ⟨k, rfl⟩ : ∃ j, k = j + 1 := ⟨k - 1, by omega⟩
  rw [n33, isSmall_ok (by omega) p hp]
  simp only [R66_r, stuckR]
  cases hs : smallP p
  · rfl
  · have hr := reachL_len hp hs
    simp only [Bool.not_true, cond_false, cond_true]
    rw [reach_ok (by omega) hp hs]
    simp only [R73_r, encZ_length]
    exact stuckI_loop (k := k) (by omega) hp hs (reachL p) (by omega) (reachL_in hp hs) k 0 [] (by omega) (by omega) (by simp)
theorem enab8_ok {k : Nat} (hk : 1000200 ≤ k) {p : Prg} (hp : FitP p) (hs : smallP p = true) {no : Int} (hi : inS p no) (l1 : List PV) : c89 k p.wide p.vars l1 (encCms p.cmds) (encW (sto p no)) = r89 (encZ (enL p (sto p no) 0 p.cmds)) := by
  obtain ⟨k, rfl⟩ : ∃ j, k = j + 1 := ⟨k - 1, by omega⟩
  have hcm := hp.cm
  rw [n89, encCms_length]
  exact enabledS_loop (k := k) (by omega) p hp (small_good hs) (sto p no) (sto_ok hs hi) l1 (encCms p.cmds) k 0 [] (by omega) (by omega) (by simp)
theorem stuckS_loop {k : Nat} (hk : 1000300 ≤ k) {p : Prg} (hp : FitP p) (hs : smallP p = true) (l : List Int) (hl : l.length ≤ 1000) (hin : ∀ x ∈ l, inS p x) : ∀ (n i : Nat) (o : List Int), l.length - i < n → i ≤ l.length → o.length ≤ i →
    L34_1 k n o.length (encZ l) (l.length : Int) (i : Int) p.wide p.vars (encT p.start) (encCms p.cmds) (encZ o) = r34 (encZ (o ++ (l.drop i).filter fun x => !busy p x)) true
  | 0, i, o, hn, hi, ho => by omega
  | n + 1, i, o, hn, hi, ho => by
    have etk : (encZ o).take o.length = encZ o := by rw [List.take_of_length_le (by simp)]
    rw [sL34_1]
    by_cases hlt : i < l.length
    · have hd : decide ((i : Int) < (l.length : Int)) = true := by simpa using hlt
      have hnext : IntKind.i64.wrap ((i : Int) + 1) = ((i + 1 : Nat) : Int) := by rw [i64_id (by omega) (by omega)]; omega
      have hx := hin _ (List.getElem_mem hlt)
      rw [hd, encZ_lookup hlt, drop_cons hlt, hnext]
      simp only [cond_true, Option.bind_some, int_atInt]
      rw [stoS_ok (by omega) hs _ _ hx]
      simp only [R80_r]
      rw [enab8_ok (by omega) hp hs hx]
      simp only [R89_r, encZ_length]
      have e : (((enL p (sto p l[i]) 0 p.cmds).length : Int) == 0) = !busy p l[i] := enL_empty p (sto p l[i]) p.cmds 0
      rw [e]
      simp only [etk, List.filter_cons]
      cases busy p l[i]
      · simp only [Bool.not_false, cond_true, if_true]
        rw [lim_ok (by omega) (by omega), encZ_snoc]
        simp only [cond_true]
        have := stuckS_loop hk hp hs l hl hin n (i + 1) (o ++ [l[i]]) (by omega) (by omega) (by simp; omega)
        rw [List.length_append, List.append_assoc] at this
        exact this
      · exact stuckS_loop hk hp hs l hl hin n (i + 1) o (by omega) (by omega) (by omega)
    · have hd : decide ((i : Int) < (l.length : Int)) = false := by simpa using hlt
      have ed : l.drop i = [] := List.drop_eq_nil_of_le (by omega)
      rw [hd, ed, etk]
      simp only [List.filter_nil, List.append_nil]
      rfl
theorem stuckS_ok {k : Nat} (hk : 1000800 ≤ k) (p : Prg) (hp : FitP p) : c34 k p.wide p.vars (encT p.start) (encCms p.cmds) = r34 (encZ (stuckR p)) (smallP p) := by
  obtain ⟨k, rfl⟩ : ∃ j, k = j + 1 := ⟨k - 1, by omega⟩
  rw [n34, l7Small_ok (by omega) p hp]
  simp only [R76_r, stuckR]
  cases hs : smallP p
  · rfl
  · have hr := reachL_len hp hs
    simp only [Bool.not_true, cond_false, cond_true]
    rw [l8Reach_ok (by omega) hp hs]
    simp only [R78_r, encZ_length]
    exact stuckS_loop (k := k) (by omega) hp hs (reachL p) (by omega) (reachL_in hp hs) k 0 [] (by omega) (by omega) (by simp)
theorem stuck_next {p : Prg} {x : Int} (h : x ∈ stuckL p) : nxL p x = [x] := by
  have h2 := (List.mem_filter.1 h).2
  simp only [busy, Bool.not_eq_true', List.any_eq_false] at h2
  have h3 : ∀ c ∈ p.cmds, hN p c.wh x = false := fun c hc => by simpa using h2 c hc
  refine lt_ext (nxL_lt p x) (by simp) fun y => ?_
  rw [nxL_mem]
  constructor
  · rintro (⟨c, hc, h4, _⟩ | ⟨_, h4⟩)
    · rw [h3 c hc] at h4; cases h4
    · simp [h4]
  · intro hy
    exact .inr ⟨h3, List.mem_singleton.1 hy⟩
/-! ### Numbers of steps -/
theorem bOut_bound {g : List (List Int)} {A : List Int} (hg : ∀ (i : Nat) (x : Int), x ∈ atL g i → inG g.length x) (hs : ∀ x ∈ A, inG g.length x) : ∀ (m : Nat) (d q : List Int) (b : Int), BfsI g A d q → (∀ v, inG g.length v → dAt d v ≤ b) → ∀ v, inG g.length v → dAt (bOut g m d q) v ≤ b + m
  | m, d, [], b, hI, hb => fun v hv => by
    have := hb v hv
    unfold bOut
    omega
  | 0, d, h :: t, b, hI, hb => fun v hv => by
    have := hb v hv
    unfold bOut
    omega
  | m + 1, d, h :: t, b, hI, hb => fun v hv => by
    obtain ⟨t', r1, r2, r3, r4, r5⟩ := bIn_spec hg hs h (atL g h.toNat) d t hI (fun x hx => hx)
    have hh := hI.rng h (by simp)
    have hbd := hb h hh
    have := bOut_bound hg hs m _ t' (b + 1) (bPop hg r2 r4) (fun u hu => by
      have h1 := r2.bnd h t' rfl u hu
      rw [r3 h hh (hI.vis h (by simp))] at h1
      omega) v hv
    rw [bOut, r1]
    simp only [List.drop_succ_cons, List.drop_zero]
    omega
def distN (p : Prg) (no : Int) : Int := dAt (stepsL (graphL p) (whI p p.start)) no
theorem whI_inG {p : Prg} (hs : smallP p = true) (t : List Nd) : ∀ x ∈ whI p t, inG (graphL p).length x := fun x hx => by rw [graphL_len]; exact inG_in.2 ((whI_mem p t x).1 hx).1
theorem distN_le {p : Prg} (hp : FitP p) (hs : smallP p = true) {no : Int} (hi : inS p no) : distN p no ≤ 64 := by
  have hg := graphL_in hp hs
  have hA := whI_inG hs p.start
  have hwl := whI_len hs p.start
  have hle := (nS_le hs).2
  have hno : inG (graphL p).length no := by rw [graphL_len]; exact inG_in.2 hi
  have := bOut_bound hg hA ((whI p p.start).length + (graphL p).length) _ (whI p p.start) 0 (bfs_start hA) (fun v hv => by
    rw [(bSt_spec (whI p p.start) (List.replicate (graphL p).length (-1)) (fun v hv => by simpa using hA v hv)).2 v hv.1, dAt_rep]
    split <;> omega) no hno
  rw [graphL_len] at this
  unfold distN stepsL
  rw [graphL_len]
  omega
theorem distN_spec {p : Prg} (hp : FitP p) (hs : smallP p = true) {no : Int} (hi : inS p no) : (distN p no = -1 ∧ ¬ Rch p no) ∨ (0 ≤ distN p no ∧ Rch p no) := by
  have hno : inG (graphL p).length no := by rw [graphL_len]; exact inG_in.2 hi
  obtain ⟨_, h2⟩ := stepsL_spec (graphL_in hp hs) (whI_inG hs p.start)
  rcases h2 no hno with ⟨h3, h4⟩ | ⟨h3, h4, _⟩
  · refine .inl ⟨h3, fun hr => ?_⟩
    obtain ⟨n, hn⟩ := (way_rch hp hs no).2 hr
    exact h4 n hn
  · exact .inr ⟨h3, (way_rch hp hs no).1 ⟨_, h4⟩⟩
def stpOK (p : Prg) (no : Int) : Bool := noOK p no && decide (0 ≤ distN p no)
def stpR (p : Prg) (no : Int) : Int := bif stpOK p no then distN p no else 0
theorem graph_short {p : Prg} (hp : FitP p) (i : Nat) : (atL (graphL p) i).length ≤ 1000 := by
  rw [graphL_at]
  split
  · have := nxL_len hp (i : Int); omega
  · simp
theorem stepsI_ok {k : Nat} (hk : 1000700 ≤ k) (p : Prg) (hp : FitP p) (no : Int) : c36 k p.wide p.vars (encT p.start) (encCms p.cmds) no = r36 (stpR p no) (stpOK p no) := by
  obtain ⟨k, rfl⟩ : ∃ j, k = j + 1 := ⟨k - 1, by omega⟩
  have hst := hp.st
  rw [n36, isNo_ok (by omega) p hp]
  simp only [R49_r, stpR, stpOK]
  cases hno : noOK p no
  · rfl
  · obtain ⟨hs, hi⟩ := no_in hno
    have hle := (nS_le hs).2
    have hwl := whI_len hs p.start
    have hin : inG (graphL p).length no := by rw [graphL_len]; exact inG_in.2 hi
    have hlen := (stepsL_spec (graphL_in hp hs) (whI_inG hs p.start)).1
    simp only [Bool.not_true, cond_false, Bool.true_and]
    rw [graph_ok (by omega) hp hs]
    simp only [R71_r]
    rw [where_ok (by omega) hs _ _ p.start (by omega) (startK hs)]
    simp only [R72_r]
    rw [stepsFrom_ok (by omega) (graphL_fit p) (by rw [graphL_len]; omega) (graph_short hp) (by omega) (graphL_in hp hs) (whI_inG hs p.start)]
    simp only [R91_r]
    rw [encZ_v (by rw [hlen]; exact hin)]
    simp only [Option.bind_some, int_atInt]
    change (bif decide (distN p no < 0) then _ else r36 (distN p no) true) = _
    by_cases h : 0 ≤ distN p no
    · rw [decide_eq_true h, decide_eq_false (by omega)]
      rfl
    · rw [decide_eq_false h, decide_eq_true (by omega)]
      rfl
def pathN (p : Prg) (no : Int) : List Int := bestL (graphL p) (whI p p.start) no :: wayL (graphL p) (whI p p.start) no
theorem pathI_ok {k : Nat} (hk : 1000700 ≤ k) {p : Prg} (hp : FitP p) (hs : smallP p = true) {no : Int} (hr : Rch p no) : c35 k p.wide p.vars (encT p.start) (encCms p.cmds) no = r35 (encZ (pathN p no)) true := by
  obtain ⟨k, rfl⟩ : ∃ j, k = j + 1 := ⟨k - 1, by omega⟩
  have hst := hp.st
  have hle := (nS_le hs).2
  have hwl := whI_len hs p.start
  have hi := rch_in hp hs hr
  have hin : inG (graphL p).length no := by rw [graphL_len]; exact inG_in.2 hi
  have hd := distN_le hp hs hi
  have hno : noOK p no = true := by
    simp only [noOK, hs, Bool.true_and, Bool.and_eq_true, decide_eq_true_eq]
    exact hi
  rw [n35, isNo_ok (by omega) p hp]
  simp only [R49_r, hno, Bool.not_true, cond_false]
  rw [graph_ok (by omega) hp hs]
  simp only [R71_r]
  rw [where_ok (by omega) hs _ _ p.start (by omega) (startK hs)]
  simp only [R72_r]
  rw [leastWay_ok (by omega) (by rw [graphL_len]; omega) (graphL_rows hp hs) (turnL_short hp hs) (by omega) (whI_inG hs p.start) hin ((way_rch hp hs no).2 hr) (by unfold distN at hd; omega)]
  simp only [R90_r]
  rfl
/-! ### Paths -/
def chainB (p : Prg) : Int → List Int → Bool
  | _, [] => true
  | v, x :: l => (nxL p v).contains x && chainB p x l
def pathB (p : Prg) : List Int → Bool
  | [] => false
  | x :: l => chainB p x l && hN p p.start x
def pathOK (p : Prg) (l : List Int) : Bool := decide (1 ≤ l.length) && (decide (l.length ≤ 200) && l.all (noOK p))
theorem chain_at {p : Prg} {l : List Int} {i : Nat} (h0 : 1 ≤ i) (hi : i < l.length) : chainB p (l[i - 1]'(by omega)) (l.drop i) = ((nxL p (l[i - 1]'(by omega))).contains l[i] && chainB p (l[i + 1 - 1]'(by omega)) (l.drop (i + 1))) := by
  rw [drop_cons hi, chainB]
  rfl
theorem ispath_loop {k : Nat} (w1 v1 : Int) (l1 l2 : List PV) (f : Int → Bool) (l : List (Int)) (hl : l.length ≤ 100000) (hc : ∀ x ∈ l, c92 k x w1 v1 l1 l2 = r92 (f x)) : ∀ (n i : Nat), l.length - i < n → i ≤ l.length → L114f92_1 k n (encZ l) w1 v1 l1 l2 (l.length : Int) (i : Int) = r114f92 (fixI f i (l.drop i))
  | 0, i, h, hi => by omega
  | n + 1, i, h, hi => by
    rw [sL114f92_1]
    by_cases hlt : i < l.length
    · have hd : decide ((i : Int) < (l.length : Int)) = true := by simpa using hlt
      have hnext : IntKind.i64.wrap ((i : Int) + 1) = ((i + 1 : Nat) : Int) := by rw [i64_id (by omega) (by omega)]; omega
      rw [hd, encZ_lookup hlt, drop_cons hlt, hnext]
      simp only [cond_true, Option.bind_some, int_atInt]
      rw [hc _ (List.getElem_mem hlt)]
      simp only [R92_r, fixI]
      cases f l[i]
      · exact ispath_loop w1 v1 l1 l2 f l hl hc n (i + 1) (by omega) (by omega)
      · rfl
    · have hd : decide ((i : Int) < (l.length : Int)) = false := by simpa using hlt
      rw [hd, List.drop_eq_nil_of_le (by omega)]
      rfl
theorem ispath_idx {k : Nat} (hk : 100010 ≤ k) (w1 v1 : Int) (l1 l2 : List PV) (f : Int → Bool) (l : List (Int)) (hl : l.length ≤ 100000) (hc : ∀ x ∈ l, c92 k x w1 v1 l1 l2 = r92 (f x)) : c114f92 (k + 1) (encZ l) w1 v1 l1 l2 = r114f92 (fixI f 0 l) := by
  rw [n114f92, encZ_length]
  exact ispath_loop (k := k) w1 v1 l1 l2 f l hl hc k 0 (by omega) (by omega)
theorem ispath_ok {k : Nat} (hk : 100010 ≤ k) (w1 v1 : Int) (l1 l2 : List PV) (f : Int → Bool) (l : List (Int)) (hl : l.length ≤ 100000) (hc : ∀ x ∈ l, c92 k x w1 v1 l1 l2 = r92 (f x)) : c57f92 (k + 2) (encZ l) w1 v1 l1 l2 = r57f92 (l.any f) := by
  rw [n57f92, ispath_idx (by omega) w1 v1 l1 l2 f l hl hc]
  simp only [R114f92p_r, fixI_ge]
theorem isPathI_loop {k : Nat} (hk : 1000300 ≤ k) {p : Prg} (hp : FitP p) (hs : smallP p = true) (l : List Int) (hl : l.length ≤ 1000) (h0 : 0 < l.length) (hin : ∀ x ∈ l, inS p x) : ∀ (n i : Nat), l.length - i < n → (h1 : 1 ≤ i) → (hi : i ≤ l.length) →
    L37_1 k n (encZ l) (i : Int) p.wide p.vars (encT p.start) (encCms p.cmds) = r37 (chainB p (l[i - 1]'(by omega)) (l.drop i) && hN p p.start l[0]) true
  | 0, i, hn, h1, hi => by omega
  | n + 1, i, hn, h1, hi => by
    have hst := hp.st
    rw [sL37_1, encZ_length]
    by_cases hlt : i < l.length
    · have hd : decide ((i : Int) < (l.length : Int)) = true := by simpa using hlt
      have hnext : IntKind.i64.wrap ((i : Int) + 1) = ((i + 1 : Nat) : Int) := by rw [i64_id (by omega) (by omega)]; omega
      have hprev : IntKind.i64.wrap ((i : Int) - 1) = ((i - 1 : Nat) : Int) := by rw [i64_id (by omega) (by omega)]; omega
      have hx := hin _ (List.getElem_mem (show i - 1 < l.length by omega))
      have hnl := nxL_len hp (l[i - 1]'(by omega))
      rw [hd, hnext, hprev, encZ_lookup (l := l) (i := i - 1) (by omega), encZ_lookup hlt, chain_at h1 hlt]
      simp only [cond_true, Option.bind_some, int_atInt]
      rw [nextI_ok (by omega) hp hs hx]
      simp only [R53_r]
      rw [contains1_ok (by omega) _ (by omega)]
      simp only [R93_r]
      cases (nxL p (l[i - 1]'(by omega))).contains l[i]
      · rfl
      · simp only [Bool.not_true, cond_false, Bool.true_and]
        exact isPathI_loop hk hp hs l hl h0 hin n (i + 1) (by omega) (by omega) (by omega)
    · have hd : decide ((i : Int) < (l.length : Int)) = false := by simpa using hlt
      have ed : l.drop i = [] := List.drop_eq_nil_of_le (by omega)
      have hx := hin _ (List.getElem_mem h0)
      have e0 : lookP (encZ l) 0 = some (.int .i64 l[0]) := encZ_lookup (l := l) (i := 0) h0
      rw [hd, ed, e0]
      simp only [cond_false, Option.bind_some, int_atInt, chainB, Bool.true_and]
      rw [stoI_ok (by omega) hs _ _ hx]
      simp only [R52_r]
      rw [holdsI_ok (by omega) p (small_good hs) _ _ p.start (by omega) (startK hs) _ (sto_ok hs hx)]
      simp only [R51_r]
      rfl
theorem isPathI_ok {k : Nat} (hk : 1000700 ≤ k) (p : Prg) (hp : FitP p) (l : List Int) (hl : l.length ≤ 1000) : c37 k p.wide p.vars (encT p.start) (encCms p.cmds) (encZ l) = r37 (pathOK p l && pathB p l) (pathOK p l) := by
  obtain ⟨k, rfl⟩ : ∃ j, k = j + 4 := ⟨k - 4, by omega⟩
  rw [n37, encZ_length]
  unfold pathOK
  by_cases h1 : 1 ≤ l.length
  · rw [decide_eq_true h1, decide_eq_false (show ¬ (l.length : Int) < 1 by omega)]
    by_cases h2 : l.length ≤ 200
    · rw [decide_eq_true h2, decide_eq_false (show ¬ (l.length : Int) > 200 by omega)]
      simp only [cond_false, Bool.true_and]
      rw [ispath_ok (k := k + 1) (by omega) p.wide p.vars (encT p.start) (encCms p.cmds) (fun x => !noOK p x) l (by omega) (fun x hx => by
        rw [n92, isNo_ok (by omega) p hp]
        simp only [R49_r])]
      simp only [R57f92p_r]
      have e : l.any (fun x => !noOK p x) = !(l.all (noOK p)) := by rw [List.any_eq_not_all_not]; simp
      rw [e]
      cases ha : l.all (noOK p)
      · rfl
      · simp only [Bool.not_true, cond_false, Bool.true_and]
        rw [List.all_eq_true] at ha
        have hin : ∀ x ∈ l, inS p x := fun x hx => (no_in (ha x hx)).2
        have hs := (no_in (ha _ (List.getElem_mem (show 0 < l.length by omega)))).1
        have := isPathI_loop (k := k + 3) (by omega) hp hs l hl (by omega) hin (k + 3) 1 (by omega) (by omega) (by omega)
        have e1 : L37_1 (k + 3) (k + 3) (encZ l) 1 p.wide p.vars (encT p.start) (encCms p.cmds) = _ := this
        rw [e1]
        cases l with
        | nil => simp at h1
        | cons x l => rfl
    · rw [decide_eq_false h2, decide_eq_true (show (l.length : Int) > 200 by omega)]
      rfl
  · rw [decide_eq_false h1, decide_eq_true (show (l.length : Int) < 1 by omega)]
    rfl
theorem allIn_loop {k : Nat} (hk : 10 ≤ k) (l : List Int) (hl : l.length ≤ 1000) (lo hi : Int) : ∀ (n i : Nat), l.length - i < n → i ≤ l.length → L62_1 k n lo hi (encZ l) (l.length : Int) (i : Int) = r62 ((l.drop i).all fun x => decide (lo ≤ x) && decide (x ≤ hi))
  | 0, i, hn, h => by omega
  | n + 1, i, hn, h => by
    rw [sL62_1]
    by_cases hlt : i < l.length
    · have hd : decide ((i : Int) < (l.length : Int)) = true := by simpa using hlt
      have hnext : IntKind.i64.wrap ((i : Int) + 1) = ((i + 1 : Nat) : Int) := by rw [i64_id (by omega) (by omega)]; omega
      rw [hd, encZ_lookup hlt, drop_cons hlt, hnext]
      simp only [cond_true, Option.bind_some, int_atInt]
      rw [in_ok (by omega)]
      simp only [R95_r, List.all_cons]
      cases (decide (lo ≤ l[i]) && decide (l[i] ≤ hi))
      · rfl
      · exact allIn_loop hk l hl lo hi n (i + 1) (by omega) (by omega)
    · have hd : decide ((i : Int) < (l.length : Int)) = false := by simpa using hlt
      rw [hd, List.drop_eq_nil_of_le (by omega)]
      rfl
theorem isPathS_loop {k : Nat} (hk : 1000300 ≤ k) {p : Prg} (hp : FitP p) (hs : smallP p = true) (l : List Int) (hl : l.length ≤ 1000) (hin : ∀ x ∈ l, inS p x) : ∀ (n i : Nat) (b : Bool), l.length - i < n → (h1 : 1 ≤ i) → (hi : i ≤ l.length) →
    L39_1 k n (encZ l) b (i : Int) p.wide p.vars (encT p.start) (encCms p.cmds) = r39 (b && chainB p (l[i - 1]'(by omega)) (l.drop i)) true
  | 0, i, b, hn, h1, hi => by omega
  | n + 1, i, b, hn, h1, hi => by
    rw [sL39_1, encZ_length]
    by_cases hlt : i < l.length
    · have hd : decide ((i : Int) < (l.length : Int)) = true := by simpa using hlt
      have hnext : IntKind.i64.wrap ((i : Int) + 1) = ((i + 1 : Nat) : Int) := by rw [i64_id (by omega) (by omega)]; omega
      have hprev : IntKind.i64.wrap ((i : Int) - 1) = ((i - 1 : Nat) : Int) := by rw [i64_id (by omega) (by omega)]; omega
      have hx := hin _ (List.getElem_mem (show i - 1 < l.length by omega))
      have hnl := nxL_len hp (l[i - 1]'(by omega))
      rw [hd, hnext, hprev]
      simp only [cond_true]
      cases b
      · have := isPathS_loop hk hp hs l hl hin n (i + 1) false (by omega) (by omega) (by omega)
        simp only [Bool.false_and] at this ⊢
        exact this
      · rw [encZ_lookup (l := l) (i := i - 1) (by omega), encZ_lookup hlt, chain_at h1 hlt]
        simp only [cond_true, Option.bind_some, int_atInt, Bool.true_and]
        rw [nextS_ok (by omega) hp hs hx]
        simp only [R65_r]
        rw [has_ok (by omega) _ (by omega)]
        simp only [R96_r]
        exact isPathS_loop hk hp hs l hl hin n (i + 1) _ (by omega) (by omega) (by omega)
    · have hd : decide ((i : Int) < (l.length : Int)) = false := by simpa using hlt
      have ed : l.drop i = [] := List.drop_eq_nil_of_le (by omega)
      rw [hd, ed]
      simp only [cond_false, chainB, Bool.and_true]
theorem isPathS_ok {k : Nat} (hk : 1000700 ≤ k) (p : Prg) (hp : FitP p) (l : List Int) (hl : l.length ≤ 1000) : c39 k p.wide p.vars (encT p.start) (encCms p.cmds) (encZ l) = r39 (pathOK p l && pathB p l) (pathOK p l) := by
  obtain ⟨k, rfl⟩ : ∃ j, k = j + 2 := ⟨k - 2, by omega⟩
  have hst := hp.st
  rw [n39, l7Small_ok (by omega) p hp, encZ_length]
  simp only [R76_r]
  unfold pathOK
  cases hs : smallP p
  · simp only [Bool.not_false, cond_true]
    by_cases h1 : 1 ≤ l.length
    · have : l.all (noOK p) = false := by
        rw [List.all_eq_false]
        exact ⟨l[0], List.getElem_mem _, by simp [noOK, hs]⟩
      rw [this]
      simp
    · rw [decide_eq_false h1]
      rfl
  · have hle := (nS_le hs).2
    simp only [Bool.not_true, cond_false]
    rw [in_ok (by omega)]
    simp only [R95_r]
    by_cases h1 : 1 ≤ l.length
    · rw [decide_eq_true h1, decide_eq_true (show (1 : Int) ≤ (l.length : Int) by omega)]
      by_cases h2 : l.length ≤ 200
      · rw [decide_eq_true h2, decide_eq_true (show (l.length : Int) ≤ 200 by omega)]
        simp only [Bool.and_self, Bool.not_true, cond_false, Bool.true_and]
        rw [nSS_ok (by omega) hs]
        simp only [R83_r]
        rw [i64_id (by omega) (by omega), n62, encZ_length]
        have ha1 := allIn_loop (k := k) (by omega) l hl 0 ((nS p : Int) - 1) k 0 (by omega) (by omega)
        have ha2 : L62_1 k k 0 ((nS p : Int) - 1) (encZ l) (l.length : Int) 0 = _ := ha1
        rw [ha2, List.drop_zero]
        simp only [R62_r]
        have e : (l.all fun x => decide (0 ≤ x) && decide (x ≤ (nS p : Int) - 1)) = l.all (noOK p) := by
          congr 1
          funext x
          have hn : ((2 ^ (pw p * pv p) : Nat) : Int) = (nS p : Int) := rfl
          simp only [noOK, hs, Bool.true_and]
          congr 1
          rw [Bool.eq_iff_iff]
          simp only [decide_eq_true_eq, hn]
          omega
        rw [e]
        cases ha : l.all (noOK p)
        · rfl
        · rw [List.all_eq_true] at ha
          have hin : ∀ x ∈ l, inS p x := fun x hx => (no_in (ha x hx)).2
          have hx := hin _ (List.getElem_mem (show 0 < l.length by omega))
          have hwl := whI_len hs p.start
          have e0 : lookP (encZ l) 0 = some (.int .i64 l[0]) := encZ_lookup (l := l) (i := 0) (by omega)
          simp only [Bool.not_true, cond_false]
          rw [e0]
          simp only [Option.bind_some, int_atInt, Bool.true_and]
          rw [those_ok (by omega) hs _ _ p.start (by omega) (startK hs)]
          simp only [R86_r]
          rw [has_ok (by omega) _ (by omega)]
          simp only [R96_r]
          have hw : (whI p p.start).contains l[0] = hN p p.start l[0] := by
            rw [Bool.eq_iff_iff, List.contains_iff_mem, whI_mem]
            exact ⟨fun h => h.2, fun h => ⟨hx, h⟩⟩
          rw [hw]
          have := isPathS_loop (k := k + 1) (by omega) hp hs l hl hin (k + 1) 1 (hN p p.start l[0]) (by omega) (by omega) (by omega)
          have e1 : L39_1 (k + 1) (k + 1) (encZ l) (hN p p.start l[0]) 1 p.wide p.vars (encT p.start) (encCms p.cmds) = _ := this
          rw [e1]
          cases l with
          | nil => simp at h1
          | cons x l => exact congrArg (fun b => r39 b true) (Bool.and_comm _ _)
      · rw [decide_eq_false h2, decide_eq_false (show ¬ (l.length : Int) ≤ 200 by omega)]
        rfl
    · rw [decide_eq_false h1, decide_eq_false (show ¬ (1 : Int) ≤ (l.length : Int) by omega)]
      rfl
end Go.Proofs.YtcamhbchcjpjiaaGreat
/- The reference's paths; the draws of paths. -/
set_option linter.unusedVariables false
set_option linter.unusedSimpArgs false
set_option maxRecDepth 8000
namespace Go.Proofs.YtcamhbchcjpjiaaGreat
open Go.Dp

theorem nxL_ne (p : Prg) (x : Int) : nxL p x ≠ [] := by
  intro h
  have key : ∀ y, ¬ y ∈ nxL p x := by rw [h]; simp
  by_cases hb : ∃ c ∈ p.cmds, hN p c.wh x = true
  · obtain ⟨c, hc, hh⟩ := hb
    exact key _ (nxL_mem.2 (.inl ⟨c, hc, hh, rfl⟩))
  · refine key x (nxL_mem.2 (.inr ⟨fun c hc => ?_, rfl⟩))
    cases hh : hN p c.wh x
    · rfl
    · exact absurd ⟨c, hc, hh⟩ hb
/-! ### Rounds -/
def growN (p : Prg) : Nat → List Int → List Int
  | 0, o => o
  | j + 1, o => growN p j (grow p o)
theorem growN_succ (p : Prg) : ∀ (j : Nat) (o : List Int), growN p j (grow p o) = grow p (growN p j o)
  | 0, o => rfl
  | j + 1, o => by rw [growN, growN, growN_succ p j (grow p o)]
theorem growN_lt (p : Prg) : ∀ (j : Nat) (o : List Int), o.Pairwise (· < ·) → (growN p j o).Pairwise (· < ·)
  | 0, o, h => h
  | j + 1, o, h => growN_lt p j _ (grow_spec h).1
def aftS (p : Prg) (l : List Int) : List Int := putAllI [] (aftAll p l)
theorem aftS_mem (p : Prg) (l : List Int) (y : Int) : y ∈ aftS p l ↔ ∃ x ∈ l, y ∈ nxL p x := by
  unfold aftS
  rw [(putAllI_spec (aftAll p l) [] List.Pairwise.nil).2, aftAll_mem]
  simp
theorem aftS_in {p : Prg} (hp : FitP p) (hs : smallP p = true) {l : List Int} (hl : ∀ x ∈ l, inS p x) : (∀ x ∈ aftS p l, inS p x) ∧ (aftS p l).length ≤ 32 := by
  have h1 : ∀ x ∈ aftS p l, inS p x := by
    intro x hx
    obtain ⟨y, hy, h⟩ := (aftS_mem p l x).1 hx
    exact nxL_in hp hs (hl y hy) x h
  exact ⟨h1, in_room hs (putAllI_spec (aftAll p l) [] List.Pairwise.nil).1 h1⟩
def aftN (p : Prg) : Nat → List Int → List Int
  | 0, l => l
  | j + 1, l => aftN p j (aftS p l)
theorem aftN_succ (p : Prg) : ∀ (j : Nat) (o : List Int), aftN p j (aftS p o) = aftS p (aftN p j o)
  | 0, o => rfl
  | j + 1, o => by rw [aftN, aftN, aftN_succ p j (aftS p o)]
theorem nx_at {p : Prg} {x y : Int} (hx : inS p x) (h : y ∈ nxL p x) : y ∈ atL (graphL p) x.toNat := by
  have := hx.1
  have := hx.2
  rw [graphL_at, if_pos (by omega), show ((x.toNat : Nat) : Int) = x by omega]
  exact h
theorem at_nx {p : Prg} {x y : Int} (hx : 0 ≤ x) (h : y ∈ atL (graphL p) x.toNat) : y ∈ nxL p x := by
  rw [graphL_at] at h
  split at h
  · rw [show ((x.toNat : Nat) : Int) = x by omega] at h
    exact h
  · simp at h
theorem grow_way {p : Prg} (hp : FitP p) (hs : smallP p = true) : ∀ (j : Nat) (o : List Int), o.Pairwise (· < ·) → (∀ x ∈ o, inS p x) → ∀ x ∈ growN p j o, ∃ i ≤ j, Way (graphL p) o i x
  | 0, o, ho, hi, x, hx => ⟨0, by omega, .start x hx⟩
  | j + 1, o, ho, hi, x, hx => by
    obtain ⟨g1, g2⟩ := grow_spec (p := p) ho
    obtain ⟨i, h1, h2⟩ := grow_way hp hs j (grow p o) g1 (grow_in hp hs ho hi) x hx
    obtain ⟨s, h3, h4⟩ := way_src.1 h2
    rcases (g2 s).1 h3 with h | ⟨y, hy, h⟩
    · exact ⟨i, by omega, way_src.2 ⟨s, h, h4⟩⟩
    · exact ⟨i + 1, by omega, way_src.2 ⟨y, hy, way_pre (nx_at (hi y hy) h) h4⟩⟩
theorem way_nonneg {p : Prg} (hp : FitP p) (hs : smallP p = true) {o : List Int} (hi : ∀ x ∈ o, inS p x) {i : Nat} {x : Int} (h : Way (graphL p) o i x) : inS p x := by
  have := way_in (graphL_in hp hs) (fun x hx => by rw [graphL_len]; exact inG_in.2 (hi x hx)) h
  rw [graphL_len] at this
  exact inG_in.1 this
theorem way_grow {p : Prg} (hp : FitP p) (hs : smallP p = true) {o : List Int} (ho : o.Pairwise (· < ·)) (hi : ∀ x ∈ o, inS p x) {i : Nat} {x : Int} (h : Way (graphL p) o i x) : x ∈ growN p i o := by
  induction h with
  | start v h => exact h
  | step n v w h hw ih =>
    rw [growN, growN_succ]
    exact ((grow_spec (growN_lt p n o ho)).2 w).2 (.inr ⟨v, ih, at_nx (way_nonneg hp hs hi h).1 hw⟩)
theorem way_aft {p : Prg} (hp : FitP p) (hs : smallP p = true) {o : List Int} (hi : ∀ x ∈ o, inS p x) {i : Nat} {x : Int} (h : Way (graphL p) o i x) : x ∈ aftN p i o := by
  induction h with
  | start v h => exact h
  | step n v w h hw ih =>
    rw [aftN, aftN_succ]
    exact (aftS_mem p _ w).2 ⟨v, ih, at_nx (way_nonneg hp hs hi h).1 hw⟩
/-! ### The reference's number of steps -/
theorem steps_loop {k : Nat} (hk : 1000500 ≤ k) {p : Prg} (hp : FitP p) (hs : smallP p = true) (l1 : List PV) (no : Int) (hr : Rch p no) : ∀ (m n i : Nat) (o : List Int), m < n → 33 ≤ m + o.length → i + m ≤ 1000 → o.Pairwise (· < ·) → (∀ x ∈ o, inS p x) → (∀ x ∈ whI p p.start, x ∈ o) →
    ∃ j, L130_1 k n no (encZ o) (i : Int) p.wide p.vars l1 (encCms p.cmds) = r130 ((i + j : Nat) : Int) true ∧ no ∈ growN p j o ∧ (∀ j' < j, ¬ no ∈ growN p j' o) ∧ j ≤ m
  | m, 0, i, o, hn, hm, hi, ho, hin, hst => by omega
  | 0, n + 1, i, o, hn, hm, hi, ho, hin, hst => by
    have := in_room hs ho hin
    omega
  | m + 1, n + 1, i, o, hn, hm, hi, ho, hin, hst => by
    have hroom := in_room hs ho hin
    rw [sL130_1, has_ok (by omega) o (by omega)]
    simp only [R96_r]
    cases hc : o.contains no
    · have hno : ¬ no ∈ o := by intro h; have : o.contains no = true := by simpa using h
                                rw [this] at hc; cases hc
      obtain ⟨g1, g2⟩ := grow_spec (p := p) ho
      have g3 := grow_in hp hs ho hin
      have hr2 := in_room hs g1 g3
      have hal := aftAll_len hp o
      have hpl := putAllI_len (aftAll p o) []
      rw [List.length_nil] at hpl
      have hsub : ∀ x ∈ o, x ∈ grow p o := fun x hx => (g2 x).2 (.inl hx)
      have hge := (lt_sub ho g1 hsub).length_le
      have hne : (grow p o).length ≠ o.length := by
        intro he
        have heq := lt_same ho g1 hsub he
        have : ∀ y, Rch p y → y ∈ o := by
          intro y hy
          induction hy with
          | start h1 h2 => exact hst _ ((whI_mem p p.start _).2 ⟨h1, h2⟩)
          | step _ h2 ih => rw [heq]; exact (g2 _).2 (.inr ⟨_, ih, h2⟩)
        exact hno (this no hr)
      simp only [Bool.not_false, cond_true]
      rw [l8After_ok (by omega) hp hs l1 o (by omega) hin]
      simp only [R121_r]
      rw [union_ok (by omega) o _ (by omega) (by omega)]
      simp only [R120_r]
      have hnext : IntKind.i64.wrap ((i : Int) + 1) = ((i + 1 : Nat) : Int) := by rw [i64_id (by omega) (by omega)]; omega
      rw [hnext]
      obtain ⟨j, h1, h2, h3, h4⟩ := steps_loop hk hp hs l1 no hr m n (i + 1) (grow p o) (by omega) (by omega) (by omega) g1 g3 (fun x hx => hsub x (hst x hx))
      refine ⟨j + 1, by rw [show i + (j + 1) = i + 1 + j by omega]; exact h1, h2, fun j' hj' => ?_, by omega⟩
      cases j' with
      | zero => exact hno
      | succ j' => exact h3 j' (by omega)
    · exact ⟨0, rfl, by simpa [growN] using hc, fun j' h => by omega, by omega⟩
def reachB (p : Prg) (no : Int) : Bool := smallP p && (reachL p).contains no
theorem reachB_iff {p : Prg} (hp : FitP p) {no : Int} (h : reachB p no = true) : smallP p = true ∧ Rch p no := by
  simp only [reachB, Bool.and_eq_true, List.contains_iff_mem] at h
  exact ⟨h.1, (reachL_mem hp h.1 no).1 h.2⟩
theorem stepsS_ok {k : Nat} (hk : 1000700 ≤ k) (p : Prg) (hp : FitP p) (no : Int) : ∃ j : Nat, c130 k p.wide p.vars (encT p.start) (encCms p.cmds) no = r130 (j : Int) (reachB p no) ∧ j ≤ 33 ∧ (reachB p no = true → ∃ s ∈ whI p p.start, no ∈ aftN p j [s]) := by
  obtain ⟨k, rfl⟩ : ∃ j, k = j + 1 := ⟨k - 1, by omega⟩
  have hst := hp.st
  rw [n130, l7Small_ok (by omega) p hp]
  simp only [R76_r, reachB]
  cases hs : smallP p
  · exact ⟨0, rfl, by omega, fun h => by cases h⟩
  · have hr := reachL_len hp hs
    have hwl := whI_len hs p.start
    simp only [Bool.not_true, cond_false, Bool.true_and]
    rw [l8Reach_ok (by omega) hp hs]
    simp only [R78_r]
    rw [has_ok (by omega) _ (by omega)]
    simp only [R96_r]
    cases hc : (reachL p).contains no
    · exact ⟨0, rfl, by omega, fun h => by cases h⟩
    · have hR : Rch p no := (reachL_mem hp hs no).1 (by simpa using hc)
      have hwin : ∀ x ∈ whI p p.start, inS p x := fun x hx => ((whI_mem p p.start x).1 hx).1
      have hwlt : (whI p p.start).Pairwise (· < ·) := whN_lt p p.start _ _
      simp only [Bool.not_true, cond_false]
      rw [those_ok (by omega) hs _ _ p.start (by omega) (startK hs)]
      simp only [R86_r]
      obtain ⟨j, h1, h2, h3, h4⟩ := steps_loop (k := k) (by omega) hp hs (encT p.start) no hR 33 k 0 (whI p p.start) (by omega) (by omega) (by omega) hwlt hwin (fun x hx => hx)
      rw [Nat.zero_add] at h1
      refine ⟨j, h1, h4, fun _ => ?_⟩
      obtain ⟨i, h5, h6⟩ := grow_way hp hs j (whI p p.start) hwlt hwin no h2
      have hij : i = j := by
        by_cases hlt : i < j
        · exact absurd (way_grow hp hs hwlt hwin h6) (h3 i hlt)
        · omega
      subst hij
      obtain ⟨s, h7, h8⟩ := way_src.1 h6
      exact ⟨s, h7, way_aft hp hs (fun x hx => by rw [List.mem_singleton.1 hx]; exact hwin s h7) h8⟩
/-! ### Can a way of so many steps lead there? -/
theorem can_loop {k : Nat} (hk : 1000500 ≤ k) {p : Prg} (hp : FitP p) (hs : smallP p = true) (l1 : List PV) (to : Int) : ∀ (m n : Nat) (o : List Int), m < n → m ≤ 1000 → o.length ≤ 100 → (∀ x ∈ o, inS p x) →
    L131_2 k n to (m : Int) (encZ o) p.wide p.vars l1 (encCms p.cmds) = r131 ((aftN p m o).contains to)
  | m, 0, o, hn, hm, ho, hi => by omega
  | 0, n + 1, o, hn, hm, ho, hi => by
    rw [sL131_2, has_ok (by omega) o (by omega)]
    simp only [R96_r]
    rfl
  | m + 1, n + 1, o, hn, hm, ho, hi => by
    obtain ⟨h1, h2⟩ := aftS_in hp hs hi
    have hd : decide (((m + 1 : Nat) : Int) > 0) = true := decide_eq_true (by omega)
    have hnext : IntKind.i64.wrap (((m + 1 : Nat) : Int) - 1) = (m : Int) := by rw [i64_id (by omega) (by omega)]; omega
    rw [sL131_2, hd, l8After_ok (by omega) hp hs l1 o ho hi, hnext]
    simp only [cond_true, R121_r]
    exact can_loop hk hp hs l1 to m n (aftS p o) (by omega) (by omega) (by omega) h1
theorem can_ok {k : Nat} (hk : 1000600 ≤ k) {p : Prg} (hp : FitP p) (hs : smallP p = true) (l1 : List PV) (s to : Int) (hi : inS p s) (m : Nat) (hm : m ≤ 1000) : c131 k p.wide p.vars l1 (encCms p.cmds) s to (m : Int) = r131 ((aftN p m [s]).contains to) := by
  obtain ⟨k, rfl⟩ : ∃ j, k = j + 2 := ⟨k - 2, by omega⟩
  have e0 : [PV.int .i64 s] = encZ [s] := rfl
  have hin : ∀ x ∈ [s], inS p x := fun x hx => by rw [List.mem_singleton.1 hx]; exact hi
  have et : (encZ [s]).take 1 = encZ [s] := rfl
  rw [n131, e0, sL131_1, et]
  cases m with
  | zero =>
    rw [has_ok (by omega) [s] (by simp)]
    simp only [R96p_r]
    rfl
  | succ m =>
    obtain ⟨h1, h2⟩ := aftS_in hp hs hin
    have hd : decide (((m + 1 : Nat) : Int) > 0) = true := decide_eq_true (by omega)
    have hnext : IntKind.i64.wrap (((m + 1 : Nat) : Int) - 1) = (m : Int) := by rw [i64_id (by omega) (by omega)]; omega
    rw [hd, l8After_ok (by omega) hp hs l1 [s] (by simp) hin, hnext]
    simp only [cond_true, R121_r]
    exact can_loop (k := k + 1) (by omega) hp hs l1 to m k (aftS p [s]) (by omega) (by omega) (by omega) h1
/-! ### The reference's path -/
theorem path_loop2 {k : Nat} (hk : 1000700 ≤ k) {p : Prg} (hp : FitP p) (hs : smallP p = true) (l1 : List PV) (no : Int) (n1 m : Nat) (hm : m ≤ 100) (l : List Int) (hl : l.length ≤ 100) (hin : ∀ x ∈ l, inS p x) : ∀ (n i : Nat) (o : List Int), l.length - i < n → i ≤ l.length → o.length ≤ 1000 → (∀ x ∈ o, inS p x) → (o ≠ [] ∨ ∃ s ∈ l.drop i, no ∈ aftN p m [s]) →
    ∃ o' l', L94_2 k n1 n no (m : Int) o.length (encZ l) (l.length : Int) (i : Int) p.wide p.vars l1 (encCms p.cmds) (encZ o) = L94_1 k n1 no (IntKind.i64.wrap ((m : Int) - 1)) o'.length (encZ l') p.wide p.vars l1 (encCms p.cmds) (encZ o') ∧
      o' ≠ [] ∧ (∀ x ∈ o', inS p x) ∧ o'.length ≤ o.length + 1 ∧ (∀ x ∈ l', inS p x) ∧ l'.length ≤ 6
  | 0, i, o, hn, hi, ho, hoi, hex => by omega
  | n + 1, i, o, hn, hi, ho, hoi, hex => by
    have etk : (encZ o).take o.length = encZ o := by rw [List.take_of_length_le (by simp)]
    rw [sL94_2, etk]
    by_cases hlt : i < l.length
    · have hd : decide ((i : Int) < (l.length : Int)) = true := by simpa using hlt
      have hnext : IntKind.i64.wrap ((i : Int) + 1) = ((i + 1 : Nat) : Int) := by rw [i64_id (by omega) (by omega)]; omega
      have hx := hin _ (List.getElem_mem hlt)
      rw [hd, encZ_lookup hlt, hnext]
      simp only [cond_true, Option.bind_some, int_atInt]
      rw [can_ok (by omega) hp hs l1 l[i] no hx m (by omega)]
      simp only [R131_r]
      cases hc : (aftN p m [l[i]]).contains no
      · rw [drop_cons hlt] at hex
        exact path_loop2 hk hp hs l1 no n1 m hm l hl hin n (i + 1) o (by omega) (by omega) ho hoi (by
          rcases hex with h | ⟨s, h1, h2⟩
          · exact .inl h
          · rcases List.mem_cons.1 h1 with rfl | h1
            · have : (aftN p m [l[i]]).contains no = true := by simpa using h2
              rw [this] at hc; cases hc
            · exact .inr ⟨s, h1, h2⟩)
      · have e1 : IntKind.i64.wrap ((o.length + 1 : Int) - 1) = (o.length : Int) := by rw [i64_id (by omega) (by omega)]; omega
        have e2 : (decide ((0 : Int) ≤ (o.length : Int)) && decide ((o.length : Int) < (o.length + 1 : Int))) = true := by
          rw [decide_eq_true (by omega), decide_eq_true (by omega)]
          rfl
        simp only [cond_true]
        rw [lim_ok (by omega) (by omega), encZ_snoc, e1, e2]
        simp only [cond_true]
        have e3 : (encZ (o ++ [l[i]]))[0 + (o.length : Int).toNat]? = some (.int .i64 l[i]) := by rw [Nat.zero_add, Int.toNat_natCast, encZ_get]; simp
        rw [e3]
        simp only [Option.bind_some, int_atInt]
        rw [nextS_ok (by omega) hp hs hx]
        simp only [R65_r]
        refine ⟨o ++ [l[i]], nxL p l[i], by rw [List.length_append]; rfl, by simp, fun x h => ?_, by simp, nxL_in hp hs hx, nxL_len hp _⟩
        rcases List.mem_append.1 h with h | h
        · exact hoi x h
        · rw [List.mem_singleton.1 h]; exact hx
    · have hd : decide ((i : Int) < (l.length : Int)) = false := by simpa using hlt
      have ed : l.drop i = [] := List.drop_eq_nil_of_le (by omega)
      have hne : o ≠ [] := by
        rcases hex with h | ⟨s, h1, _⟩
        · exact h
        · rw [ed] at h1; simp at h1
      have hpos : 0 < o.length := List.length_pos_iff.2 hne
      have e1 : IntKind.i64.wrap ((o.length : Int) - 1) = ((o.length - 1 : Nat) : Int) := by rw [i64_id (by omega) (by omega)]; omega
      have e2 : (decide ((0 : Int) ≤ ((o.length - 1 : Nat) : Int)) && decide (((o.length - 1 : Nat) : Int) < (o.length : Int))) = true := by
        rw [decide_eq_true (by omega), decide_eq_true (by omega)]
        rfl
      have hx := hoi _ (List.getElem_mem (show o.length - 1 < o.length by omega))
      have e3 : (encZ o)[0 + ((o.length - 1 : Nat) : Int).toNat]? = some (.int .i64 (o[o.length - 1]'(by omega))) := by rw [Nat.zero_add, Int.toNat_natCast, encZ_get, List.getElem?_eq_getElem (by omega)]; rfl
      rw [hd, e1, e2, e3]
      simp only [cond_false, cond_true, Option.bind_some, int_atInt]
      rw [nextS_ok (by omega) hp hs hx]
      simp only [R65_r]
      exact ⟨o, _, rfl, hne, hoi, by omega, nxL_in hp hs hx, nxL_len hp _⟩
theorem path_loop1 {k : Nat} (hk : 1000700 ≤ k) {p : Prg} (hp : FitP p) (hs : smallP p = true) (l1 : List PV) (no : Int) : ∀ (m n : Nat) (o l : List Int), m < n → m ≤ 100 → o.length + m ≤ 900 → l.length ≤ 100 → (∀ x ∈ l, inS p x) → (∀ x ∈ o, inS p x) → (o ≠ [] ∨ (0 < m ∧ ∃ s ∈ l, no ∈ aftN p (m - 1) [s])) →
    ∃ o', L94_1 k n no ((m : Int) - 1) o.length (encZ l) p.wide p.vars l1 (encCms p.cmds) (encZ o) = r94 (encZ o') true ∧ o' ≠ [] ∧ (∀ x ∈ o', inS p x) ∧ o'.length ≤ o.length + m
  | m, 0, o, l, hn, hm, ho, hl, hli, hoi, hex => by omega
  | 0, n + 1, o, l, hn, hm, ho, hl, hli, hoi, hex => by
    have etk : (encZ o).take o.length = encZ o := by rw [List.take_of_length_le (by simp)]
    have hd : decide (((0 : Nat) : Int) - 1 ≥ 0) = false := rfl
    rw [sL94_1, hd, etk]
    refine ⟨o, rfl, ?_, hoi, by omega⟩
    rcases hex with h | ⟨h, _⟩
    · exact h
    · omega
  | m + 1, n + 1, o, l, hn, hm, ho, hl, hli, hoi, hex => by
    have e0 : ((m + 1 : Nat) : Int) - 1 = (m : Int) := by omega
    have hd : decide ((m : Int) ≥ 0) = true := decide_eq_true (by omega)
    obtain ⟨o', l', h1, h2, h3, h4, h5, h6⟩ := path_loop2 hk hp hs l1 no n m (by omega) l hl hli k 0 o (by omega) (by omega) (by omega) hoi (by
      rcases hex with h | ⟨_, s, h1, h2⟩
      · exact .inl h
      · exact .inr ⟨s, by simpa using h1, h2⟩)
    have h1' : L94_2 k n k no (m : Int) o.length (encZ l) (l.length : Int) 0 p.wide p.vars l1 (encCms p.cmds) (encZ o) = _ := h1
    have e1 : IntKind.i64.wrap ((m : Int) - 1) = (m : Int) - 1 := i64_id (by omega) (by omega)
    rw [sL94_1, e0, hd, encZ_length]
    simp only [cond_true]
    rw [h1', e1]
    obtain ⟨o2, q1, q2, q3, q4⟩ := path_loop1 hk hp hs l1 no m n o' l' (by omega) (by omega) (by omega) (by omega) h5 h3 (.inl h2)
    exact ⟨o2, q1, q2, q3, by omega⟩
theorem pathS_ok {k : Nat} (hk : 1000900 ≤ k) (p : Prg) (hp : FitP p) (no : Int) : ∃ l b, c94 k p.wide p.vars (encT p.start) (encCms p.cmds) no = r94 (encZ l) b ∧ l.length ≤ 40 ∧ (l ≠ [] → smallP p = true ∧ ∀ x ∈ l, inS p x) := by
  obtain ⟨k, rfl⟩ : ∃ j, k = j + 1 := ⟨k - 1, by omega⟩
  have hst := hp.st
  obtain ⟨j, h1, h2, h3⟩ := stepsS_ok (k := k) (by omega) p hp no
  rw [n94, h1]
  simp only [R130_r]
  cases hb : reachB p no
  · exact ⟨[], false, rfl, by simp, fun h => absurd rfl h⟩
  · obtain ⟨hs, hR⟩ := reachB_iff hp hb
    have hwl := whI_len hs p.start
    have hwin : ∀ x ∈ whI p p.start, inS p x := fun x hx => ((whI_mem p p.start x).1 hx).1
    simp only [Bool.not_true, cond_false]
    rw [those_ok (by omega) hs _ _ p.start (by omega) (startK hs)]
    simp only [R86_r]
    obtain ⟨o, q1, q2, q3, q4⟩ := path_loop1 (k := k) (by omega) hp hs (encT p.start) no (j + 1) k [] (whI p p.start) (by omega) (by omega) (by simp; omega) (by omega) hwin (by simp) (.inr ⟨by omega, h3 hb⟩)
    have e0 : ((j + 1 : Nat) : Int) - 1 = (j : Int) := by omega
    rw [e0] at q1
    exact ⟨o, true, q1, by simp at q4; omega, fun _ => ⟨hs, q3⟩⟩
end Go.Proofs.YtcamhbchcjpjiaaGreat
/- FnReached: the law. -/
set_option linter.unusedVariables false
set_option linter.unusedSimpArgs false
set_option maxRecDepth 8000
namespace Go.Proofs.YtcamhbchcjpjiaaGreat
open Go.Dp

theorem withinM_loop {k : Nat} (hk : 100010 ≤ k) (a b : List Int) (ha : a.length ≤ 100000) (hb : b.length ≤ 100000) : ∀ (n i : Nat), a.length - i < n → i ≤ a.length → L29_1 k n (encZ b) (encZ a) (a.length : Int) (i : Int) = r29 ((a.drop i).all fun x => b.contains x)
  | 0, i, h, hi => by omega
  | n + 1, i, h, hi => by
    rw [sL29_1]
    by_cases hlt : i < a.length
    · have hd : decide ((i : Int) < (a.length : Int)) = true := by simpa using hlt
      have hnext : IntKind.i64.wrap ((i : Int) + 1) = ((i + 1 : Nat) : Int) := by rw [i64_id (by omega) (by omega)]; omega
      rw [hd, encZ_lookup hlt, drop_cons hlt, hnext]
      simp only [cond_true, Option.bind_some, int_atInt]
      rw [hasL_ok hk b hb]
      simp only [R23_r, List.all_cons]
      cases b.contains a[i]
      · rfl
      · exact withinM_loop hk a b ha hb n (i + 1) (by omega) (by omega)
    · have hd : decide ((i : Int) < (a.length : Int)) = false := by simpa using hlt
      rw [hd, List.drop_eq_nil_of_le (by omega)]
      rfl
theorem withinM_ok {k : Nat} (hk : 100020 ≤ k) (a b : List Int) (ha : a.length ≤ 100000) (hb : b.length ≤ 100000) : c29 k (encZ a) (encZ b) = r29 (a.all fun x => b.contains x) := by
  obtain ⟨k, rfl⟩ : ∃ j, k = j + 1 := ⟨k - 1, by omega⟩
  rw [n29, encZ_length]
  exact withinM_loop (k := k) (by omega) a b ha hb k 0 (by omega) (by omega)
theorem drawReach_ok {bs : List Nat} (hc : CodeOK bs) {k : Nat} (hk : 300 ≤ k) : ∃ p, c30 k (encB bs) = r30 p.wide p.vars (encT p.start) (encCms p.cmds) ∧ FitP p := by
  obtain ⟨k, rfl⟩ : ∃ j, k = j + 2 := ⟨k - 2, by omega⟩
  rw [n30, n85]
  obtain ⟨a2, s2, p, h, h2, h3, h4⟩ := small_ok hc (k := k) (by omega) (at' := 0) (by omega) (by omega) 0#64
  have h' : c40 k (encB bs) 0 0 = _ := h
  rw [h']
  simp only [R40_r, R85_r]
  exact ⟨p, rfl, h4⟩
theorem drawPath_end {bs : List Nat} (hc : CodeOK bs) {k : Nat} (hk : 2010 ≤ k) (p : Prg) (o : List Int) (hol : o.length ≤ 200) {at' : Int} (h5 : 0 ≤ at') (h6 : at' ≤ 800000000) (s : W) :
    ∃ r, (bif decide (((o.length : Nat) : Int) > 0) then
   R55 (c55 k 5 (encB bs) at' (wi s)) fun l10 v12 v13 b3 =>
   bif b3 then
    R54 (c54 k (o.length : Int) l10 v12 v13) fun l11 v14 v15 v16 =>
    R54 (c54 k 33 l11 v14 v15) fun l12 v17 v18 v19 =>
    bif decide ((0 : Int) ≤ v16) && decide (v16 < (o.length : Int)) then
     ((encZ o)[0 + v16.toNat]?).bind fun p4 =>
     r38 p.wide p.vars (encT p.start) (encCms p.cmds) (((encZ o).set (0 + v16.toNat) (PV.int .i64 v19)).take o.length)
    else none
   else r38 p.wide p.vars (encT p.start) (encCms p.cmds) ((encZ o).take o.length)
  else r38 p.wide p.vars (encT p.start) (encCms p.cmds) ((encZ o).take o.length)) = r38 p.wide p.vars (encT p.start) (encCms p.cmds) (encZ r) ∧ r.length ≤ 200 := by
  have etk : (encZ o).take o.length = encZ o := by rw [List.take_of_length_le (by simp)]
  rw [etk]
  by_cases hp : 0 < o.length
  · have e1 : decide (((o.length : Nat) : Int) > 0) = true := decide_eq_true (by omega)
    obtain ⟨a2, s2, b, h, h7, h8⟩ := one_ok hc (k := k) (by omega) h5 (by omega) s 5
    rw [e1, h]
    simp only [cond_true, R55_r]
    cases b
    · exact ⟨o, rfl, hol⟩
    · obtain ⟨a3, s3, v, h, h9, h10, h11, h12, _⟩ := pick_ok hc (k := k) (by omega) (at' := a2) (by omega) (by omega) s2 (o.length : Int)
      have h12 := h12 (by omega)
      simp only [cond_true]
      rw [h]
      simp only [R54_r]
      obtain ⟨a4, s4, u, h, _⟩ := pick_ok hc (k := k) (by omega) (at' := a3) (by omega) (by omega) s3 33
      rw [h]
      simp only [R54_r]
      have hv : inG o.length v := ⟨h11, by omega⟩
      rw [inG_dec hv, encZ_at (d := o) hv]
      simp only [cond_true, Option.bind_some]
      rw [Nat.zero_add, encZ_set, List.take_of_length_le (by simp)]
      exact ⟨o.set v.toNat u, rfl, by rw [List.length_set]; exact hol⟩
  · have e1 : decide (((o.length : Nat) : Int) > 0) = false := decide_eq_false (by omega)
    rw [e1]
    exact ⟨o, rfl, hol⟩
theorem drawPath_loop {bs : List Nat} (hc : CodeOK bs) {k : Nat} (hk : 1000900 ≤ k) {p : Prg} (hp : FitP p) (x1 x2 : Int) (y1 y2 : List PV) : ∀ (m n : Nat) (q : Int) (o : List Int) {at' : Int} (s : W), q.toNat ≤ m → m < n → q ≤ 100 → o.length + m ≤ 190 → 0 ≤ at' → at' + 2 * m ≤ 700000000 → (o ≠ [] → smallP p = true ∧ ∀ x ∈ o, inS p x) →
    ∃ r, L38_1 k n o.length q x1 x2 y1 y2 (encB bs) at' (wi s) p.wide p.vars (encT p.start) (encCms p.cmds) (encZ o) = r38 p.wide p.vars (encT p.start) (encCms p.cmds) (encZ r) ∧ r.length ≤ 200
  | m, 0, q, o, at', s, h1, h2, _, _, _, _, _ => by omega
  | m, n + 1, q, o, at', s, h1, h2, h3, h4, h5, h6, hoi => by
    have etk : (encZ o).take o.length = encZ o := by rw [List.take_of_length_le (by simp)]
    have hend := drawPath_end hc (k := k) (by omega) p o (by omega) h5 (by omega) s
    rw [sL38_1]
    by_cases hq : q > 0
    · have e1 : decide (q > 0) = true := by simpa using hq
      rw [e1]
      simp only [cond_true]
      by_cases hpos : 0 < o.length
      · have e2 : decide (((o.length : Nat) : Int) > 0) = true := decide_eq_true (by omega)
        obtain ⟨hs, hin⟩ := hoi (List.length_pos_iff.1 hpos)
        have e3 : IntKind.i64.wrap ((o.length : Int) - 1) = ((o.length - 1 : Nat) : Int) := by rw [i64_id (by omega) (by omega)]; omega
        have e4 : (decide ((0 : Int) ≤ ((o.length - 1 : Nat) : Int)) && decide (((o.length - 1 : Nat) : Int) < (o.length : Int))) = true := by
          rw [decide_eq_true (by omega), decide_eq_true (by omega)]
          rfl
        have hx := hin _ (List.getElem_mem (show o.length - 1 < o.length by omega))
        have e5 : (encZ o)[0 + ((o.length - 1 : Nat) : Int).toNat]? = some (.int .i64 (o[o.length - 1]'(by omega))) := by rw [Nat.zero_add, Int.toNat_natCast, encZ_get, List.getElem?_eq_getElem (by omega)]; rfl
        have hno : noOK p (o[o.length - 1]'(by omega)) = true := by
          simp only [noOK, hs, Bool.true_and, Bool.and_eq_true, decide_eq_true_eq]
          exact hx
        have hnr : nextR p (o[o.length - 1]'(by omega)) = nxL p (o[o.length - 1]'(by omega)) := by unfold nextR; rw [hno]; rfl
        have hnpos : 0 < (nxL p (o[o.length - 1]'(by omega))).length := List.length_pos_iff.2 (nxL_ne p _)
        have hnl := nxL_len hp (o[o.length - 1]'(by omega))
        rw [e2, e3, e4, e5]
        simp only [cond_true, Option.bind_some, int_atInt]
        rw [NextS_ok (by omega) p hp, hnr]
        simp only [R18_r, encZ_length]
        obtain ⟨a2, s2, v, h, h7, h8, h9, h10, _⟩ := pick_ok hc (k := k) (by omega) h5 (by omega) s ((nxL p (o[o.length - 1]'(by omega))).length : Int)
        have h10 := h10 (by omega)
        rw [h]
        simp only [R54_r]
        have hvin : inG (nxL p (o[o.length - 1]'(by omega))).length v := ⟨h9, by omega⟩
        have hmem : dAt (nxL p (o[o.length - 1]'(by omega))) v ∈ nxL p (o[o.length - 1]'(by omega)) := by
          unfold dAt
          rw [List.getElem?_eq_getElem hvin.2]
          exact List.getElem_mem hvin.2
        rw [encZ_v hvin]
        simp only [Option.bind_some, int_atInt]
        rw [lim_ok (by omega) (by omega), etk, encZ_snoc, i64_id (by omega) (by omega)]
        simp only [cond_true]
        cases m with
        | zero => omega
        | succ m =>
          have := drawPath_loop hc hk hp x1 x2 y1 y2 m n (q - 1) (o ++ [dAt (nxL p (o[o.length - 1]'(by omega))) v]) (at' := a2) s2 (by omega) (by omega) (by omega) (by simp; omega) (by omega) (by omega) (fun _ => ⟨hs, fun x hx2 => by
            rcases List.mem_append.1 hx2 with h | h
            · exact hin x h
            · rw [List.mem_singleton.1 h]; exact nxL_in hp hs hx _ hmem⟩)
          rw [List.length_append] at this
          exact this
      · have e2 : decide (((o.length : Nat) : Int) > 0) = false := decide_eq_false (by omega)
        have hol : o.length ≤ 200 := by omega
        rw [e2, etk]
        exact ⟨o, rfl, hol⟩
    · have e1 : decide (q > 0) = false := by simpa using hq
      rw [e1]
      exact hend
theorem drawIsPath_ok {bs : List Nat} (hc : CodeOK bs) {k : Nat} (hk : 1001000 ≤ k) : ∃ p l, c38 k (encB bs) = r38 p.wide p.vars (encT p.start) (encCms p.cmds) (encZ l) ∧ FitP p ∧ l.length ≤ 200 := by
  obtain ⟨k, rfl⟩ : ∃ j, k = j + 1 := ⟨k - 1, by omega⟩
  rw [n38]
  obtain ⟨a2, s2, p, h, h2, h3, h4⟩ := small_ok hc (k := k) (by omega) (at' := 0) (by omega) (by omega) 0#64
  have h' : c40 k (encB bs) 0 0 = _ := h
  rw [h']
  simp only [R40_r]
  obtain ⟨a3, s3, no, h, h5, h6⟩ := stateNoD_ok hc (k := k) (by omega) p h4 (at' := a2) (by omega) (by omega) s2
  rw [h]
  simp only [R63_r]
  obtain ⟨l, b, h, h7, h8⟩ := pathS_ok (k := k) (by omega) p h4 no
  rw [h]
  simp only [R94_r, encZ_length]
  obtain ⟨a4, s4, v, h, h9, h10, h11, h12, _⟩ := pick_ok hc (k := k) (by omega) (at' := a3) (by omega) (by omega) s3 5
  have h12 := h12 (by omega)
  rw [h]
  simp only [R54_r]
  obtain ⟨r, h, h13⟩ := drawPath_loop hc (k := k) (by omega) h4 0 0 [] [] 5 k v l (at' := a4) s4 (by omega) (by omega) (by omega) (by omega) (by omega) (by omega) h8
  exact ⟨p, r, h, h4, h13⟩
/-! ### What a path is -/
theorem chain_way {p : Prg} (hp : FitP p) (hs : smallP p = true) : ∀ (l : List Int) (v : Int), inS p v → (∀ x ∈ l, inS p x) → chainB p v l = true → Way (graphL p) [v] l.length (endL v l)
  | [], v, hv, hl, h => .start v (by simp)
  | x :: l, v, hv, hl, h => by
    simp only [chainB, Bool.and_eq_true, List.contains_iff_mem] at h
    exact way_pre (nx_at hv h.1) (chain_way hp hs l x (hl x (by simp)) (fun y hy => hl y (by simp [hy])) h.2)
theorem path_far {p : Prg} (hp : FitP p) {l : List Int} (hok : pathOK p l = true) (hb : pathB p l = true) : ∃ v t, l = v :: t ∧ smallP p = true ∧ inS p (endL v t) ∧ 0 ≤ distN p (endL v t) ∧ distN p (endL v t) ≤ (t.length : Int) := by
  cases l with
  | nil => simp [pathB] at hb
  | cons v t =>
    simp only [pathOK, Bool.and_eq_true, List.all_eq_true] at hok
    simp only [pathB, Bool.and_eq_true] at hb
    have hin : ∀ x ∈ v :: t, inS p x := fun x hx => (no_in (hok.2.2 x hx)).2
    have hs := (no_in (hok.2.2 v (by simp))).1
    have hw := chain_way hp hs t v (hin v (by simp)) (fun x hx => hin x (by simp [hx])) hb.1
    have hmem : v ∈ whI p p.start := (whI_mem p p.start v).2 ⟨hin v (by simp), hb.2⟩
    have hw2 : Way (graphL p) (whI p p.start) t.length (endL v t) := way_src.2 ⟨v, hmem, hw⟩
    have hend : inS p (endL v t) := way_nonneg hp hs (fun x hx => by rw [List.mem_singleton.1 hx]; exact hin v (by simp)) hw
    have hin2 : inG (graphL p).length (endL v t) := by rw [graphL_len]; exact inG_in.2 hend
    obtain ⟨_, h2⟩ := stepsL_spec (graphL_in hp hs) (whI_inG hs p.start)
    refine ⟨v, t, rfl, hs, hend, ?_⟩
    rcases h2 _ hin2 with ⟨_, h4⟩ | ⟨h3, _, h4⟩
    · exact absurd hw2 (h4 _)
    · exact ⟨h3, h4 _ hw2⟩
theorem down_chain {p : Prg} {D : List Int} (hst : Stairs (graphL p) D) (hg : ∀ (i : Nat) (x : Int), x ∈ atL (graphL p) i → inG (graphL p).length x) : ∀ (m : Nat) (v : Int), inG (graphL p).length v → dAt D v = (m : Int) → chainB p v (downF (graphL p) D m v) = true ∧ ∀ x ∈ downF (graphL p) D m v, inG (graphL p).length x
  | 0, v, hv, hd => ⟨rfl, by simp [downF]⟩
  | m + 1, v, hv, hd => by
    obtain ⟨h1, h2, _⟩ := nxtF_spec (hst v hv (by omega))
    obtain ⟨h3, h4⟩ := down_chain hst hg m _ (hg _ _ h1) (by omega)
    have hn := at_nx hv.1 h1
    refine ⟨?_, fun x hx => ?_⟩
    · simp only [downF, chainB, h3, Bool.and_true]
      simpa using hn
    · rw [downF] at hx
      rcases List.mem_cons.1 hx with rfl | hx
      · exact hg _ _ h1
      · exact h4 x hx
theorem pathN_spec {p : Prg} (hp : FitP p) (hs : smallP p = true) {no : Int} (hr : Rch p no) : pathOK p (pathN p no) = true ∧ pathB p (pathN p no) = true ∧ 0 ≤ distN p no ∧ ((pathN p no).length : Int) = distN p no + 1 ∧ (pathN p no)[(distN p no).toNat]? = some no := by
  have hi := rch_in hp hs hr
  have hin : inG (graphL p).length no := by rw [graphL_len]; exact inG_in.2 hi
  have hrows := fun z hz => (graphL_rows hp hs z hz).2
  have hg := graphL_in hp hs
  obtain ⟨h1, h2, h3, h4, h5, h6⟩ := way_spec hrows (whI_inG hs p.start) hin ((way_rch hp hs no).2 hr)
  have hle := distN_le hp hs hi
  have hb := (whI_mem p p.start _).1 h1
  have hbin := whI_inG hs p.start _ h1
  change 0 ≤ distN p no at h2
  change dAt (stepsL (turnL (graphL p)) [no]) (bestL (graphL p) (whI p p.start) no) = distN p no at h3
  have hm : dAt (stepsL (turnL (graphL p)) [no]) (bestL (graphL p) (whI p p.start) no) = ((distN p no).toNat : Int) := by rw [h3]; omega
  have hway : wayL (graphL p) (whI p p.start) no = downF (graphL p) (stepsL (turnL (graphL p)) [no]) (distN p no).toNat (bestL (graphL p) (whI p p.start) no) := by
    unfold wayL
    rw [h3]
  obtain ⟨c1, c2⟩ := down_chain h4 hg (distN p no).toNat _ hbin hm
  obtain ⟨e1, e2⟩ := downF_end h4 hg (distN p no).toNat _ hbin hm
  have e3 := h6 _ e2 e1
  have hlen := downF_len (graphL p) (stepsL (turnL (graphL p)) [no]) (distN p no).toNat (bestL (graphL p) (whI p p.start) no)
  unfold pathN
  rw [hway]
  refine ⟨?_, ?_, h2, ?_, ?_⟩
  · simp only [pathOK, Bool.and_eq_true, decide_eq_true_eq, List.all_eq_true, List.length_cons, hlen]
    refine ⟨by omega, by omega, fun x hx => ?_⟩
    have hx2 : inG (graphL p).length x := by
      rcases List.mem_cons.1 hx with rfl | hx
      · exact hbin
      · exact c2 x hx
    rw [graphL_len] at hx2
    simp only [noOK, hs, Bool.true_and, Bool.and_eq_true, decide_eq_true_eq]
    exact inG_in.1 hx2
  · simp only [pathB, c1, hb.2, Bool.and_self]
  · rw [List.length_cons, hlen]
    omega
  · have := endL_get (downF (graphL p) (stepsL (turnL (graphL p)) [no]) (distN p no).toNat (bestL (graphL p) (whI p p.start) no)) (bestL (graphL p) (whI p p.start) no)
    rw [hlen, e3] at this
    exact this
/-! ### The law -/
theorem rd_end {k : Nat} (hk : 1001100 ≤ k) {more : List Nat} (hm : CodeOK more) : (R38 (c38 k (encB more)) fun v2 v3 l4 l5 l6 =>
  R37 (c37 k v2 v3 l4 l5 l6) fun b9 b10 =>
  R39 (c39 k v2 v3 l4 l5 l6) fun b11 b12 =>
  bif (!(b10 == b12)) then
   r5 false
  else
   bif (!(b9 == b11)) then
    r5 false
   else
    bif b9 then
     (lookP l6 (IntKind.i64.wrap ((l6.length : Int) - 1))).bind fun p3 =>
     (p3.atInt .i64 0).bind fun n4 =>
     R36 (c36 k v2 v3 l4 l5 n4) fun v4 b13 =>
     bif b13 then
      r5 (decide (v4 < (l6.length : Int)))
     else r5 false
    else r5 true) = r5 true := by
  obtain ⟨p, l, h, hp, hl⟩ := drawIsPath_ok hm (k := k) (by omega)
  rw [h]
  simp only [R38_r]
  rw [isPathI_ok (by omega) p hp l (by omega), isPathS_ok (by omega) p hp l (by omega)]
  simp only [R37_r, R39_r, beq_self_eq_true, Bool.not_true, cond_false]
  cases hb : (pathOK p l && pathB p l)
  · rfl
  · rw [Bool.and_eq_true] at hb
    obtain ⟨v, t, rfl, hs, h1, h2, h3⟩ := path_far hp hb.1 hb.2
    have e1 : IntKind.i64.wrap ((((encZ (v :: t)).length : Nat) : Int) - 1) = ((t.length : Nat) : Int) := by
      rw [encZ_length, List.length_cons, i64_id (by simp at hl; omega) (by simp at hl; omega)]; omega
    have e2 : lookP (encZ (v :: t)) ((t.length : Nat) : Int) = some (.int .i64 (endL v t)) := by rw [lookP_nat, encZ_get, endL_get]; rfl
    have hno : noOK p (endL v t) = true := by
      simp only [noOK, hs, Bool.true_and, Bool.and_eq_true, decide_eq_true_eq]
      exact h1
    have hst : stpOK p (endL v t) = true := by unfold stpOK; rw [hno, decide_eq_true h2]; rfl
    have hsr : stpR p (endL v t) = distN p (endL v t) := by unfold stpR; rw [hst]; rfl
    simp only [cond_true]
    rw [e1, e2]
    simp only [Option.bind_some, int_atInt]
    rw [stepsI_ok (by omega) p hp, hst, hsr]
    simp only [R36_r, cond_true, encZ_length, List.length_cons]
    rw [decide_eq_true (by omega)]
theorem rd_loop {k : Nat} (hk : 1001100 ≤ k) {more : List Nat} (hm : CodeOK more) {p : Prg} (hp : FitP p) (hs : smallP p = true) : ∀ (n i : Nat), (reachL p).length - i < n → i ≤ (reachL p).length →
    L5_1 k n (encB more) (encZ (reachL p)) (encZ (stuckL p)) (encZ (reachL p)) ((reachL p).length : Int) (i : Int) p.wide p.vars (encT p.start) (encCms p.cmds) = r5 true
  | 0, i, h, hi => by omega
  | n + 1, i, h, hi => by
    have hrl := reachL_len hp hs
    have hkl := stuckL_len hp hs
    rw [sL5_1]
    by_cases hlt : i < (reachL p).length
    · have hd : decide ((i : Int) < ((reachL p).length : Int)) = true := by simpa using hlt
      have hnext : IntKind.i64.wrap ((i : Int) + 1) = ((i + 1 : Nat) : Int) := by rw [i64_id (by omega) (by omega)]; omega
      have hmem := List.getElem_mem hlt
      have hR := (reachL_mem hp hs _).1 hmem
      have hx := reachL_in hp hs _ hmem
      have hno : noOK p (reachL p)[i] = true := by
        simp only [noOK, hs, Bool.true_and, Bool.and_eq_true, decide_eq_true_eq]
        exact hx
      obtain ⟨q1, q2, q3, q4, q5⟩ := pathN_spec hp hs hR
      have hdl := distN_le hp hs hx
      have hnr : nextR p (reachL p)[i] = nxL p (reachL p)[i] := by unfold nextR; rw [hno]; rfl
      have hst : stpOK p (reachL p)[i] = true := by unfold stpOK; rw [hno, decide_eq_true q3]; rfl
      have hsr : stpR p (reachL p)[i] = distN p (reachL p)[i] := by unfold stpR; rw [hst]; rfl
      have hnl := nxL_len hp (reachL p)[i]
      have ih := rd_loop hk hm hp hs n (i + 1) (by omega) (by omega)
      rw [hd, encZ_lookup hlt, hnext]
      simp only [cond_true, Option.bind_some, int_atInt]
      rw [NextI_ok (by omega) p hp, hnr, hno, pathI_ok (by omega) hp hs hR, stepsI_ok (by omega) p hp, hst, hsr]
      simp only [R12_r, R35_r, R36_r]
      rw [isPathI_ok (by omega) p hp _ (by omega), q1, q2]
      simp only [R37_r, Bool.not_true, cond_false, Bool.and_self]
      rw [withinM_ok (by omega) _ _ (by omega) (by omega)]
      have hwi : ((nxL p (reachL p)[i]).all fun x => (reachL p).contains x) = true := by
        rw [List.all_eq_true]
        intro y hy
        have := (reachL_mem hp hs y).2 (.step hR hy)
        simpa using this
      simp only [R29_r, hwi, Bool.not_true, cond_false, encZ_length]
      have e1 : decide (distN p (reachL p)[i] < 0) = false := decide_eq_false (by omega)
      have e2 : (((pathN p (reachL p)[i]).length : Int) != IntKind.i64.wrap (distN p (reachL p)[i] + 1)) = false := by
        rw [i64_id (by omega) (by omega), q4]
        simp
      have e3 : lookP (encZ (pathN p (reachL p)[i])) (distN p (reachL p)[i]) = some (.int .i64 (reachL p)[i]) := by
        have : distN p (reachL p)[i] = (((distN p (reachL p)[i]).toNat : Nat) : Int) := by omega
        rw [this, lookP_nat, encZ_get, q5]
        rfl
      rw [e1, e2, e3]
      simp only [cond_false, Option.bind_some, int_atInt, bne_self_eq_false]
      rw [hasL_ok (by omega) _ (by omega)]
      simp only [R23_r]
      cases hk1 : (stuckL p).contains (reachL p)[i]
      · exact ih
      · have hkm : (reachL p)[i] ∈ stuckL p := by simpa using hk1
        have e4 : [PV.int .i64 (reachL p)[i]] = encZ [(reachL p)[i]] := rfl
        simp only [cond_true]
        rw [stuck_next hkm, e4, sameI_ok (by omega) _ (by simp)]
        simp only [R19p_r, Bool.not_true, cond_false]
        exact ih
    · have hd : decide ((i : Int) < ((reachL p).length : Int)) = false := by simpa using hlt
      rw [hd]
      exact rd_end (by omega) hm
theorem reached_true {k : Nat} (hk : 1048700 ≤ k) (code more : List Nat) (hc : ∀ b ∈ code, b < 256) (hm : ∀ b ∈ more, b < 256) : c5 k (encB code) (encB more) = r5 true := by
  obtain ⟨k, rfl⟩ : ∃ j, k = j + 2 := ⟨k - 2, by omega⟩
  rw [n5, big_ok (by omega)]
  simp only [R6_r]
  cases hbig : (decide (code.length > 1048576) || decide (more.length + code.length > 1048576))
  · simp only [cond_false]
    rw [Bool.or_eq_false_iff] at hbig
    have hl : code.length ≤ 1048576 ∧ more.length ≤ 1048576 := by
      have h1 := hbig.1
      have h2 := hbig.2
      simp at h1 h2
      omega
    have hcc : CodeOK code := ⟨hl.1, hc⟩
    have hmm : CodeOK more := ⟨hl.2, hm⟩
    obtain ⟨p, h, hp⟩ := drawReach_ok hcc (k := k + 1) (by omega)
    rw [h]
    simp only [R30_r]
    rw [reachI_ok (by omega) p hp, reachS_ok (by omega) p hp, startsI_ok (by omega) p hp, startsS_ok (by omega) p hp, stuckI_ok (by omega) p hp, stuckS_ok (by omega) p hp]
    simp only [R22_r, R31_r, R21_r, R32_r, R33_r, R34_r, beq_self_eq_true, Bool.not_true, cond_false, encZ_length]
    have h1 : (reachR p).length ≤ 32 := by
      unfold reachR
      cases hs : smallP p
      · simp
      · exact reachL_len hp hs
    have h2 : (startR p).length ≤ 32 := by
      unfold startR
      cases hs : smallP p
      · simp
      · exact whI_len hs p.start
    have h3 := stuckR_len hp
    rw [sameI_ok (by omega) _ (by omega), sameI_ok (by omega) _ (by omega), sameI_ok (by omega) _ (by omega)]
    simp only [R19_r, Bool.not_true, cond_false]
    cases hs : smallP p
    · have e1 : reachR p = [] := by unfold reachR; rw [hs]; rfl
      rw [e1]
      simp only [cond_false, List.length_nil]
      rw [sL5_1, show decide ((0 : Int) < ((0 : Nat) : Int)) = false from rfl]
      simp only [cond_false]
      exact rd_end (k := k + 1) (by omega) hmm
    · have e1 : reachR p = reachL p := by unfold reachR; rw [hs]; rfl
      have e2 : startR p = whI p p.start := by unfold startR; rw [hs]; rfl
      have e3 : stuckR p = stuckL p := by unfold stuckR; rw [hs]; rfl
      rw [e1, e2, e3]
      rw [e1] at h1
      rw [e2] at h2
      simp only [cond_true]
      rw [withinM_ok (by omega) _ _ (by omega) (by omega)]
      have hwi : ((whI p p.start).all fun x => (reachL p).contains x) = true := by
        rw [List.all_eq_true]
        intro y hy
        obtain ⟨h4, h5⟩ := (whI_mem p p.start y).1 hy
        have := (reachL_mem hp hs y).2 (.start h4 h5)
        simpa using this
      simp only [R29_r, hwi, Bool.not_true, cond_false]
      exact rd_loop (k := k + 1) (by omega) hmm hp hs (k + 1) 0 (by omega) (by omega)
  · rfl
theorem lawFnReached (code more : List Int) (hc : ∀ n ∈ code, (Lit.int .u8 n).wf = true) (hm : ∀ n ∈ more, (Lit.int .u8 n).wf = true) : Contract Tryz.prog 5 (([.row 0 0 (ints .u8 code), .row 0 0 (ints .u8 more)] : List PV).map .p) [] ([.c (.p (.bool true))], []) := by
  obtain ⟨e1, h1⟩ := ints_encB code hc
  obtain ⟨e2, h2⟩ := ints_encB more hm
  rw [e1, e2]
  exact evF_sound envOK pOK (T := T) hT 1048700 (reached_true (k := 1048700) (Nat.le_refl _) _ _ h1 h2)
end Go.Proofs.YtcamhbchcjpjiaaGreat
/- The law FnReached of the program: for all arguments it returns true, and its arguments read as they did. -/
namespace Go.Proofs.YtcamhbchcjpjiaaGreat.fnReached
open Go.ChangeShapes Go.WideShapes Go.ChangeAt Go.RowKit Go.Dp
open Go.ChangeMaps (open_string shut_string)
set_option linter.unusedVariables false
theorem own : ownKnob Tryz.prog.godebug = none := by kernel_rfl
theorem laidOut : laidOutB Tryz.prog = true := by kernel_rfl
theorem spot_none {P : Program} {w : World} {r : Reach} {base : Nat} {t e : TypeId} {x : Addr} {len cap : Nat} (ht : P.underlying t = some (.slice e)) (h : Value.okWide P w r base t (.slice (some x) len cap)) : x.spot = none := by
  simp only [Value.okWide, ht, Cell.okWide, Cell.ok] at h
  exact h.2.2.2.1
set_option maxRecDepth 100000 in
theorem lifted (os : Os) (started : os.Started) (H : Type) (enc : TypeId × Value → H) :
    ReturnsInHanded {} Tryz.checked os 5 .any (Rows.fnReachedSpec.pre6 enc Tryz.prog Tryz.f5 Rows.fnReachedRow.domain false) (Rows.fnReachedSpec.post enc Tryz.prog Tryz.f5 false true false false) := by
  refine returnsInHanded_of_change_sized (C := Tryz.checked) own started (by kernel_rfl) Tryz.func5
    (ChangeSpec.witness6 (enc := enc) (C := Tryz.checked) false ⟨#[], #[.slice none 0 0, .slice none 0 0], []⟩ 8 (by kernel_rfl) (by kernel_rfl) (by kernel_rfl) (by kernel_rfl)) ?_
  intro W base args ds gs before hval0 hW hcnd hsz0 _
  have hval : ∀ (j : Nat) t v, Tryz.f5.params[j]? = some t → args[j]? = some v → Value.okWide Tryz.prog W .any base t v := hval0
  have hW' := hW
  obtain ⟨p, q, hA0, hV, rfl, hfz, hnd⟩ := hW
  have hA : DataW.TrodAll enc Tryz.prog W 0 (fun _ => true) true Tryz.f5.params.toList args.toList ds p := hA0
  rw [Tryz.params5] at hA hval
  obtain ⟨v0, vs0, d0, ds0, p0, q0, hargs, rfl, rfl, h0, r0⟩ := trodAll_cons hA
  obtain ⟨v1, vs1, d1, ds1, p1, q1, rfl, rfl, rfl, h1, r1⟩ := trodAll_cons r0
  obtain ⟨rfl, rfl, rfl⟩ := trodAll_nil r1
  obtain rfl : args = #[v0, v1] := by cases args; simp_all
  obtain ⟨rfl, rfl⟩ := trodVars_none hV
  have o0 := hval 0 22 v0 rfl rfl
  obtain ⟨a0, len0, cap0, rfl⟩ := okWide_slice Tryz.underlying22 o0
  have k0 := h0
  have lt0 : ∀ x ∈ p0, x.block < W.heap.size := by obtain ⟨m, hm⟩ := k0; exact DataW.trod_lt m _ _ _ hm
  obtain ⟨z0, w0⟩ : ∃ zs, IsRow .u8 W a0 len0 cap0 zs := by
    obtain ⟨fuel, hf⟩ := h0
    rcases open_ints Tryz.underlying22 Tryz.underlying5 (by kernel_rfl) hf with ⟨hcs, _⟩ | ⟨x, l, c, zs, hcs, _, hl, hm, hz, _, hcell, hwz⟩
    · simp [Value.cells] at hcs
      obtain ⟨rfl, rfl, rfl⟩ := hcs
      exact ⟨[], .inl ⟨rfl, rfl, rfl, rfl⟩⟩
    · simp [Value.cells] at hcs
      obtain ⟨rfl, rfl, rfl⟩ := hcs
      exact ⟨zs, .inr ⟨_, rfl, spot_none Tryz.underlying22 o0, hl, hm, by simpa using hz, hcell, hwz⟩⟩
  have o1 := hval 1 22 v1 rfl rfl
  obtain ⟨a1, len1, cap1, rfl⟩ := okWide_slice Tryz.underlying22 o1
  have k1 := h1
  have lt1 : ∀ x ∈ p1, x.block < W.heap.size := by obtain ⟨m, hm⟩ := k1; exact DataW.trod_lt m _ _ _ hm
  obtain ⟨z1, w1⟩ : ∃ zs, IsRow .u8 W a1 len1 cap1 zs := by
    obtain ⟨fuel, hf⟩ := h1
    rcases open_ints Tryz.underlying22 Tryz.underlying5 (by kernel_rfl) hf with ⟨hcs, _⟩ | ⟨x, l, c, zs, hcs, _, hl, hm, hz, _, hcell, hwz⟩
    · simp [Value.cells] at hcs
      obtain ⟨rfl, rfl, rfl⟩ := hcs
      exact ⟨[], .inl ⟨rfl, rfl, rfl, rfl⟩⟩
    · simp [Value.cells] at hcs
      obtain ⟨rfl, rfl, rfl⟩ := hcs
      exact ⟨zs, .inr ⟨_, rfl, spot_none Tryz.underlying22 o1, hl, hm, by simpa using hz, hcell, hwz⟩⟩
  clear hA0 hval0 hsz0
  refine (law_walk (P := Tryz.prog) (f := 5) (vs := [.row 0 0 (ints .u8 (z0.take len0)), .row 0 0 (ints .u8 (z1.take len1))]) (ys := [.slice a0 len0 cap0, .slice a1 len1 cap1]) rfl ?_ (lawFnReached (z0.take len0) (z1.take len1) (fun n hn => w0.wf n (List.mem_of_mem_take hn)) (fun n hn => w1.wf n (List.mem_of_mem_take hn)))).mono fun e W' ⟨he, bel⟩ => ?_
  · intro i a y ha hy
    cases i with
    | zero => simp at ha hy; subst ha; subst hy; exact w0.rp
    | succ i =>
      cases i with
      | zero => simp at ha hy; subst ha; subst hy; exact w1.rp
      | succ i =>
        simp at ha
  subst he
  exact ⟨_, rfl, _, _, _, [], _, [], hW', trodAll_mk1 (shut_bool Tryz.underlying4 _), (trodAll_cons_mk (Below.trod laidOut (by kernel_rfl) (of_decide_eq_true (by kernel_rfl)) k0 bel lt0) (trodAll_cons_mk (Below.trod laidOut (by kernel_rfl) (of_decide_eq_true (by kernel_rfl)) k1 bel lt1) trodAll_mk0)), rfl, bel.frame _, fun h => by cases h⟩
theorem named : Tryz.pinned.checked.prog.funcNamed Rows.fnReachedRow.func = some 5 := by kernel_rfl
theorem closed : joinedFacts Tryz.pinned.checked.prog 5 Tryz.f5 Rows.fnReachedSpec Rows.fnReachedRow = true := by kernel_rfl
theorem inst : Tryz.f5.isInstance Tryz.pinned.checked.prog Rows.fnReachedRow.origin Rows.fnReachedRow.targs := of_decide_eq_true (by kernel_rfl)
theorem wrap : Tryz.f5.isWrapper Tryz.pinned.checked.prog Rows.fnReachedRow.wrapper Rows.fnReachedRow.mainSum := by unfold Func.isWrapper; first | (rw [if_pos (by decide +kernel)]; kernel_rfl) | (rw [if_neg (by decide +kernel)]; exact ⟨rfl, rfl⟩)
theorem over : Rows.fnReachedRow.holds Tryz.pinned (OpenSpec.ofChange Rows.fnReachedSpec) :=
  OpenClaim.holds_of_wide 5 Tryz.f5 rfl rfl rfl rfl rfl rfl rfl ⟨rfl, rfl, rfl, rfl, rfl⟩ rfl rfl rfl rfl rfl named Tryz.func5 closed inst wrap
    (fun os started H enc _ => lifted os started H enc)
theorem proved : Rows.FnReachedSaid := over
end Go.Proofs.YtcamhbchcjpjiaaGreat.fnReached
namespace Go.Proofs.YtcamhbchcjpjiaaGreat
/-- The row, under a short name, for the claim. -/
theorem fnReached_holds : Rows.FnReachedSaid := fnReached.proved
#print axioms fnReached_holds
end Go.Proofs.YtcamhbchcjpjiaaGreat
