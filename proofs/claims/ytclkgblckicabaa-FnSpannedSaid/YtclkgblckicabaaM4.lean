/- The law FnSpanned of the program: for all arguments it returns true, and its arguments read as they did. -/
import Derived.Test.YtclkgblckicabaaM3
import Derived.Test.YtclkgblckicabaaM2
import Derived.Test.YtclkgblckicabaaRows
import Derived.WalkKit
import Derived.ProofKit
import Derived.OpenShut
import Derived.ShutString
import Derived.ChangeOld
import Derived.Below
import Derived.SizedLaws
/- Good programs. -/
set_option linter.unusedVariables false
set_option linter.unusedSimpArgs false
set_option maxRecDepth 4000
namespace Go.Proofs.Ytclkgblckicabaa
open Go.Dp

theorem kindT_size {wide vars : Int} {t : List Nd} (h : kindT wide vars t ≠ 0) : isW wide = true ∧ isV vars = true := by
  unfold kindT at h
  split at h
  · rename_i hs
    simp only [sizeT, Bool.and_eq_true] at hs
    exact hs.1.1
  · exact absurd rfl h
def goodChs (wide vars : Int) : Int → List Chg → Bool
  | _, [] => true
  | pv, x :: l => decide (0 ≤ x.v) && decide (x.v < vars) && decide (pv < x.v) && (kindT wide vars x.by1 == 1) && goodChs wide vars x.v l
def goodCmd (wide vars : Int) (c : Cmd) : Bool := (kindT wide vars c.wh == 2) && goodChs wide vars (-1) c.ch
def goodP (p : Prg) : Bool := (kindT p.wide p.vars p.start == 2) && decide (1 ≤ p.cmds.length) && decide (p.cmds.length ≤ 6) && p.cmds.all (goodCmd p.wide p.vars)
theorem goodChs_len {wide vars : Int} : ∀ {l : List Chg} {pv : Int}, -1 ≤ pv → goodChs wide vars pv l = true → l = [] ∨ (l.length : Int) ≤ vars - 1 - pv
  | [], pv, hp, h => .inl rfl
  | x :: l, pv, hp, h => by
    simp only [goodChs, Bool.and_eq_true, decide_eq_true_eq] at h
    obtain ⟨⟨⟨⟨h1, h2⟩, h3⟩, _⟩, h5⟩ := h
    right
    rcases goodChs_len (by omega) h5 with rfl | h6
    · simp; omega
    · simp; omega
def prevV (l : List Chg) (i : Nat) : Int := if i = 0 then -1 else match l[i - 1]? with | some x => x.v | none => -1
theorem goodChs_at {wide vars : Int} {l : List Chg} {i : Nat} (h : i < l.length) : goodChs wide vars (prevV l i) (l.drop i) = (decide (0 ≤ l[i].v) && decide (l[i].v < vars) && decide (prevV l i < l[i].v) && (kindT wide vars l[i].by1 == 1) && goodChs wide vars (prevV l (i + 1)) (l.drop (i + 1))) := by
  rw [drop_cons h]
  have e : prevV l (i + 1) = l[i].v := by simp [prevV, h]
  rw [e]
  rfl
theorem goodP_size {p : Prg} (h : goodP p = true) : isW p.wide = true ∧ isV p.vars = true := by
  simp only [goodP, Bool.and_eq_true, beq_iff_eq] at h
  exact kindT_size (t := p.start) (by omega)
end Go.Proofs.Ytclkgblckicabaa
/- What is put for variables does as their values do: the plain law, and the law. -/
set_option linter.unusedVariables false
set_option linter.unusedSimpArgs false
set_option maxRecDepth 4000
namespace Go.Proofs.Ytclkgblckicabaa
open Go.Dp

theorem vrun_app (wide : Int) (state : List W) : ∀ (t u : List Nd) (vs : List W), vrun wide state (t ++ u) vs = (vrun wide state t vs).bind (vrun wide state u)
  | [], u, vs => rfl
  | x :: t, u, vs => by
    simp only [List.cons_append, vrun]
    split
    · exact vrun_app wide state t u _
    · split
      · cases state[x.2.toNat]? with
        | none => rfl
        | some s => exact vrun_app wide state t u _
      · split
        · cases vs with
          | nil => rfl
          | cons a r => exact vrun_app wide state t u _
        · split
          · cases vs with
            | nil => rfl
            | cons a r => exact vrun_app wide state t u _
          · rcases vs with _ | ⟨b, _ | ⟨a, r⟩⟩
            · rfl
            · rfl
            · exact vrun_app wide state t u _
theorem vrun_frame {wide : Int} {state : List W} : ∀ {t : List Nd} {vs vs' : List W} (s : List W), vrun wide state t vs = some vs' → vrun wide state t (vs ++ s) = some (vs' ++ s)
  | [], vs, vs', s, h => by simp only [vrun] at h ⊢; injection h with h; rw [h]
  | x :: t, vs, vs', s, h => by
    simp only [vrun] at h ⊢
    split
    · rename_i h1
      rw [if_pos h1] at h
      exact vrun_frame (vs := x.2 :: vs) s h
    · rename_i h1
      rw [if_neg h1] at h
      split
      · rename_i h2
        rw [if_pos h2] at h
        obtain ⟨a, ha, h⟩ := Option.bind_eq_some_iff.1 h
        rw [ha]
        exact vrun_frame (vs := a :: vs) s h
      · rename_i h2
        rw [if_neg h2] at h
        split
        · rename_i h3
          rw [if_pos h3] at h
          cases vs with
          | nil => cases h
          | cons a r => exact vrun_frame (vs := (~~~a &&& mk wide) :: r) s h
        · rename_i h3
          rw [if_neg h3] at h
          split
          · rename_i h4
            rw [if_pos h4] at h
            cases vs with
            | nil => cases h
            | cons a r => exact vrun_frame (vs := (1#64 - a) :: r) s h
          · rename_i h4
            rw [if_neg h4] at h
            rcases vs with _ | ⟨b, _ | ⟨a, r⟩⟩
            · cases h
            · cases h
            · exact vrun_frame (vs := apW wide x.1 a b :: r) s h
theorem vrun_put {wide : Int} {state values : List W} {by1 : List (List Nd)} (hl : values.length = by1.length) (hv : ∀ (i : Nat) (b : List Nd) (v : W), by1[i]? = some b → values[i]? = some v → vrun wide state b [] = some [v]) :
    ∀ (t : List Nd) (vs : List W), (∀ x ∈ t, x.1 = 2 → x.2.toNat < by1.length) → vrun wide state (putT by1 t) vs = vrun wide values t vs
  | [], vs, h => rfl
  | x :: t, vs, h => by
    have ih := fun vs => vrun_put hl hv t vs (fun y hy => h y (by simp [hy]))
    simp only [putT]
    by_cases h2 : x.1 = 2
    · have hx := h x (by simp) h2
      have h1 : ¬ (x.1 = 1 ∨ x.1 = 20) := by omega
      have hxv : x.2.toNat < values.length := by omega
      rw [if_pos h2, vrun_app]
      simp only [vrun]
      rw [if_neg h1, if_pos h2, List.getElem?_eq_getElem hx, List.getElem?_eq_getElem hxv]
      simp only [Option.getD_some, Option.bind_some]
      have := vrun_frame vs (hv x.2.toNat _ _ (List.getElem?_eq_getElem hx) (List.getElem?_eq_getElem hxv))
      rw [List.nil_append] at this
      rw [this]
      exact ih _
    · rw [if_neg h2]
      simp only [List.cons_append, List.nil_append, vrun, h2, if_false]
      split
      · exact ih _
      · split
        · cases vs with
          | nil => rfl
          | cons a r => exact ih _
        · split
          · cases vs with
            | nil => rfl
            | cons a r => exact ih _
          · rcases vs with _ | ⟨b, _ | ⟨a, r⟩⟩
            · rfl
            · rfl
            · exact ih _

/-! ### Values fit their kinds -/
def okV (wide k : Int) (v : W) : Prop := (k = 1 ∧ v ≤ mk wide) ∨ (k = 2 ∧ v ≤ 1#64)
inductive Fit (wide : Int) : List Int → List W → Prop
  | nil : Fit wide [] []
  | cons {k v ks vs} : okV wide k v → Fit wide ks vs → Fit wide (k :: ks) (v :: vs)
theorem tr_le (b : Bool) : tr b ≤ 1#64 := by cases b <;> decide
theorem and_le_left' (a b : W) : a &&& b ≤ a := by rw [BitVec.le_def, BitVec.toNat_and]; exact Nat.and_le_left
theorem and_le_right' (a b : W) : a &&& b ≤ b := by rw [BitVec.le_def, BitVec.toNat_and]; exact Nat.and_le_right
theorem le_one_cases {a : W} (h : a ≤ 1#64) : a = 0#64 ∨ a = 1#64 := by
  rw [BitVec.le_def] at h
  have h1 : (1#64).toNat = 1 := rfl
  rcases Nat.lt_or_ge a.toNat 1 with h2 | h2
  · left; exact BitVec.eq_of_toNat_eq (by simp; omega)
  · right; exact BitVec.eq_of_toNat_eq (by omega)
theorem apW_ok {wide op : Int} {a b : W} (hw : isW wide = true) (hm : (need op).1 = 2) (ha : okV wide (need op).2.1 a) (hb : okV wide (need op).2.1 b) : okV wide (need op).2.2 (apW wide op a b) := by
  have hle : apW wide op a b ≤ mk wide := and_le_right' _ _
  have hle2 : apW wide op a b ≤ apRaw wide op a b := and_le_left' _ _
  have ho : 3 ≤ op ∧ op ≤ 12 ∨ 14 ≤ op ∧ op ≤ 16 ∨ op = 17 ∨ op = 18 := by
    unfold need at hm
    split at hm
    · simp at hm
    · split at hm
      · simp at hm
      · split at hm
        · simp at hm
        · split at hm
          · simp at hm
          · split at hm
            · left; assumption
            · split at hm
              · right; left; assumption
              · split at hm
                · right; right; assumption
                · simp at hm
  rcases ho with h | h | h
  · have : (need op).2.2 = 1 := by
      unfold need
      rw [if_neg (by omega), if_neg (by omega), if_neg (by omega), if_neg (by omega), if_pos h]
    rw [this]
    exact .inl ⟨rfl, hle⟩
  · have : (need op).2.2 = 2 := by
      unfold need
      rw [if_neg (by omega), if_neg (by omega), if_neg (by omega), if_neg (by omega), if_neg (by omega), if_pos h]
    rw [this]
    refine .inr ⟨rfl, ?_⟩
    have h3 : op = 14 ∨ op = 15 ∨ op = 16 := by omega
    have : ∃ c, apRaw wide op a b = tr c := by
      rcases h3 with rfl | rfl | rfl
      · exact ⟨_, rfl⟩
      · exact ⟨_, rfl⟩
      · exact ⟨_, rfl⟩
    obtain ⟨c, hc⟩ := this
    rw [hc] at hle2
    exact BitVec.le_trans hle2 (tr_le c)
  · have : (need op).2.2 = 2 ∧ (need op).2.1 = 2 := by
      unfold need
      rw [if_neg (by omega), if_neg (by omega), if_neg (by omega), if_neg (by omega), if_neg (by omega), if_neg (by omega), if_pos h]
      exact ⟨rfl, rfl⟩
    rw [this.1]
    rw [this.2] at ha hb
    refine .inr ⟨rfl, ?_⟩
    have ha : a ≤ 1#64 := by rcases ha with h | h; exact absurd h.1 (by omega); exact h.2
    have hb : b ≤ 1#64 := by rcases hb with h | h; exact absurd h.1 (by omega); exact h.2
    refine BitVec.le_trans hle2 ?_
    rcases h with rfl | rfl <;> rcases le_one_cases ha with rfl | rfl <;> rcases le_one_cases hb with rfl | rfl <;> simp [apRaw]
theorem goodW_iff {wide : Int} {a : W} : goodW wide a = true ↔ isW wide = true ∧ a ≤ mk wide := by simp [goodW, mk]
theorem leaf_run {wide vars : Int} (hv : isV vars = true) {x : Nd} (h : leafOK wide vars x = true) : (x.1 = 1 → x.2 ≤ mk wide) ∧ (x.1 = 20 → x.2 ≤ 1#64) ∧ (x.1 = 2 → (x.2.toNat : Int) < vars) := by
  have hv' := isV_iff.1 hv
  unfold leafOK at h
  refine ⟨fun h1 => ?_, fun h1 => ?_, fun h1 => ?_⟩
  · rw [if_pos h1] at h; exact (goodW_iff.1 h).2
  · rw [if_neg (by omega), if_neg (by omega), if_pos h1] at h
    rw [decide_eq_true_eq] at h
    exact wi_le_iff.1 h
  · rw [if_neg (by omega), if_pos h1, decide_eq_true_eq, u64_id (by omega) (by omega)] at h
    exact h
theorem Fit.take_all {wide : Int} {ks : List Int} {vs : List W} (h : Fit wide ks vs) : ks.length = vs.length := by
  induction h with
  | nil => rfl
  | cons _ _ ih => simp [ih]
theorem run_fit {wide vars : Int} (hw : isW wide = true) (hv : isV vars = true) {state : List W} (hs : (state.length : Int) = vars) (hg : ∀ a ∈ state, a ≤ mk wide) : ∀ {t : List Nd} {ks ks' : List Int} {vs : List W}, kst wide vars t ks = some ks' → Fit wide ks vs → ∃ vs', vrun wide state t vs = some vs' ∧ Fit wide ks' vs'
  | [], ks, ks', vs, h, hf => by simp only [kst] at h; injection h with h; subst h; exact ⟨vs, rfl, hf⟩
  | x :: t, ks, ks', vs, h, hf => by
    simp only [kst] at h
    split at h
    · cases h
    · rename_i h0
      split at h
      · cases h
      · rename_i h1
        split at h
        · cases h
        · rename_i h2
          split at h
          · cases h
          · rename_i h3
            have hlf := leaf_run hv (x := x) (by simpa using h1)
            simp only [vrun]
            by_cases a1 : x.1 = 1 ∨ x.1 = 20
            · rw [if_pos a1]
              have hn : (need x.1).1 = 0 ∧ (x.1 = 1 → (need x.1).2.2 = 1) ∧ (x.1 = 20 → (need x.1).2.2 = 2) := by
                rcases a1 with a | a <;> rw [a] <;> decide
              rw [hn.1, List.drop_zero] at h
              refine run_fit hw hv hs hg h (.cons ?_ hf)
              rcases a1 with a | a
              · exact .inl ⟨hn.2.1 a, hlf.1 a⟩
              · exact .inr ⟨hn.2.2 a, hlf.2.1 a⟩
            · rw [if_neg a1]
              by_cases a2 : x.1 = 2
              · rw [if_pos a2]
                have hn : (need x.1).1 = 0 ∧ (need x.1).2.2 = 1 := by rw [a2]; decide
                have hlt : x.2.toNat < state.length := by have := hlf.2.2 a2; omega
                rw [List.getElem?_eq_getElem hlt]
                rw [hn.1, List.drop_zero] at h
                exact run_fit hw hv hs hg h (.cons (.inl ⟨hn.2, hg _ (List.getElem_mem hlt)⟩) hf)
              · rw [if_neg a2]
                by_cases a3 : x.1 = 13
                · rw [if_pos a3]
                  have hn : (need x.1).1 = 1 ∧ (need x.1).2.2 = 1 := by rw [a3]; decide
                  cases hf with
                  | nil => simp [hn.1] at h2
                  | cons ho hf =>
                    rw [hn.1] at h
                    exact run_fit hw hv hs hg h (.cons (.inl ⟨hn.2, and_le_right' _ _⟩) hf)
                · rw [if_neg a3]
                  by_cases a4 : x.1 = 19
                  · rw [if_pos a4]
                    have hn : (need x.1).1 = 1 ∧ (need x.1).2.2 = 2 ∧ (need x.1).2.1 = 2 := by rw [a4]; decide
                    cases hf with
                    | nil => simp [hn.1] at h2
                    | @cons kk v ks vs ho hf =>
                      rw [hn.1] at h h3
                      rw [hn.2.2] at h3
                      have hk : kk = 2 := by simpa using h3
                      refine run_fit hw hv hs hg h (.cons (.inr ⟨hn.2.1, ?_⟩) hf)
                      rcases ho with ho | ho
                      · omega
                      · rcases le_one_cases ho.2 with rfl | rfl <;> decide
                  · rw [if_neg a4]
                    have hn : (need x.1).1 = 2 := by
                      unfold need at h0 ⊢
                      rw [if_neg (by omega), if_neg (by omega), if_neg a3, if_neg a4] at h0 ⊢
                      split
                      · rfl
                      · split
                        · rfl
                        · split
                          · rfl
                          · rename_i b1 b2 b3
                            rw [if_neg b1, if_neg b2, if_neg b3] at h0
                            exact absurd rfl h0
                    rw [hn] at h h2 h3
                    cases hf with
                    | nil => simp at h2
                    | @cons k1 v1 ks vs ho1 hf =>
                      cases hf with
                      | nil => simp at h2
                      | @cons k2 v2 ks vs ho2 hf =>
                        have hk : k1 = (need x.1).2.1 ∧ k2 = (need x.1).2.1 := by simpa using h3
                        rw [hk.1] at ho1
                        rw [hk.2] at ho2
                        exact run_fit hw hv hs hg h (.cons (apW_ok hw hn ho2 ho1) hf)
theorem good_value {wide vars : Int} {t : List Nd} (h : goodT wide vars t = true) {state : List W} (hs : (state.length : Int) = vars) (hg : ∀ a ∈ state, a ≤ mk wide) : ∃ v, vrun wide state t [] = some [v] ∧ okV wide (kindT wide vars t) v := by
  obtain ⟨hsz, c, hk, hc⟩ := goodT_iff.1 h
  have hw : isW wide = true := by simp only [sizeT, Bool.and_eq_true] at hsz; exact hsz.1.1.1
  have hv : isV vars = true := by simp only [sizeT, Bool.and_eq_true] at hsz; exact hsz.1.1.2
  obtain ⟨vs', h1, hf⟩ := run_fit hw hv hs hg hk .nil
  cases hf with
  | cons ho hf =>
    cases hf
    refine ⟨_, h1, ?_⟩
    have : kindT wide vars t = c := by simp [kindT, hsz, hk, kind1]
    rw [this]
    exact ho
theorem stateOK_of {wide vars : Int} {s : List W} (hw : isW wide = true) (hv : isV vars = true) (hs : (s.length : Int) = vars) (hg : ∀ a ∈ s, a ≤ mk wide) : stateOK wide s.length s = true := by
  simp only [stateOK, Bool.and_eq_true, decide_eq_true_eq, List.all_eq_true]
  rw [hs]
  exact ⟨⟨⟨hw, hv⟩, trivial⟩, fun a ha => goodW_iff.2 ⟨hw, hg a ha⟩⟩

/-! ### The law -/
theorem big_ok {k : Nat} (hk : 1 ≤ k) (a b : List Nat) : c4 k (encB a) (encB b) = r4 (decide (a.length > 1048576) || decide (b.length + a.length > 1048576)) := by
  obtain ⟨k, rfl⟩ : ∃ j, k = j + 1 := ⟨k - 1, by omega⟩
  rw [n4, encB_length, encB_length]
  by_cases h : a.length > 1048576
  · have : decide ((a.length : Int) > 1048576) = true := by simp; omega
    simp [this, h]
  · have : decide ((a.length : Int) > 1048576) = false := by simp; omega
    rw [this, i64_id (by omega) (by omega)]
    simp only [cond_false]
    congr 1
    rw [Bool.eq_iff_iff]
    simp
    omega
theorem ints_encB (l : List Int) (h : ∀ n ∈ l, (Lit.int .u8 n).wf = true) : ints .u8 l = encB (l.map Int.toNat) ∧ ∀ b ∈ l.map Int.toNat, b < 256 := by
  have hb : ∀ n ∈ l, 0 ≤ n ∧ n ≤ 255 := by
    intro n hn
    have := h n hn
    simp only [Lit.wf, Bool.and_eq_true, decide_eq_true_eq] at this
    have e1 : IntKind.u8.min = 0 := rfl
    have e2 : IntKind.u8.max = 255 := rfl
    rw [e1, e2] at this
    exact this
  constructor
  · simp only [ints, encB, List.map_map]
    apply List.map_congr_left
    intro n hn
    have := hb n hn
    simp only [Function.comp]
    congr 1
    omega
  · intro b hb2
    obtain ⟨n, hn, rfl⟩ := List.mem_map.1 hb2
    have := hb n hn
    omega
end Go.Proofs.Ytclkgblckicabaa
/- States of programs and their numbers. -/
set_option linter.unusedVariables false
set_option linter.unusedSimpArgs false
set_option maxRecDepth 4000
namespace Go.Dp

/-! ### Bits of small numbers -/
theorem i64_bv (x : Nat) (hx : x < 9223372036854775808) : (BitVec.ofInt 64 (x : Int)).toNat = x := by
  rw [BitVec.toNat_ofInt]
  show ((x : Int) % ((2 ^ 64 : Nat) : Int)).toNat = x
  omega
theorem i64_or {x y : Nat} (hx : x < 4611686018427387904) (hy : y < 4611686018427387904) : bitsOp .or .i64 (x : Int) (y : Int) = ((x ||| y : Nat) : Int) := by
  show IntKind.i64.wrap (((BitVec.ofInt 64 (x : Int)) ||| (BitVec.ofInt 64 (y : Int))).toNat : Int) = _
  rw [BitVec.toNat_or, i64_bv x (by omega), i64_bv y (by omega)]
  have : x ||| y < 2 ^ 62 := Nat.or_lt_two_pow (by omega) (by omega)
  exact i64_id (by omega) (by omega)
theorem i64_and {x y : Nat} (hx : x < 4611686018427387904) (hy : y < 4611686018427387904) : bitsOp .and .i64 (x : Int) (y : Int) = ((x &&& y : Nat) : Int) := by
  show IntKind.i64.wrap (((BitVec.ofInt 64 (x : Int)) &&& (BitVec.ofInt 64 (y : Int))).toNat : Int) = _
  rw [BitVec.toNat_and, i64_bv x (by omega), i64_bv y (by omega)]
  have : x &&& y ≤ x := Nat.and_le_left
  exact i64_id (by omega) (by omega)
theorem i64_shl {x n : Nat} (h : x * 2 ^ n < 9223372036854775808) (hn : n ≤ 64) : shlI .i64 (x : Int) (n : Int) = ((x * 2 ^ n : Nat) : Int) := by
  unfold shlI
  show IntKind.i64.wrap ((x : Int) * 2 ^ (min (n : Int).toNat 64)) = _
  rw [Int.toNat_natCast, Nat.min_eq_left hn]
  have e : (x : Int) * 2 ^ n = ((x * 2 ^ n : Nat) : Int) := by simp
  rw [e]
  exact i64_id (by omega) (by omega)
theorem i64_shr {x n : Nat} (hn : n ≤ 64) : shrI .i64 (x : Int) (n : Int) = ((x / 2 ^ n : Nat) : Int) := by
  unfold shrI
  show Int.fdiv (x : Int) (2 ^ (min (n : Int).toNat 64)) = _
  rw [Int.toNat_natCast, Nat.min_eq_left hn]
  have e : ((2 : Int) ^ n) = ((2 ^ n : Nat) : Int) := by simp
  rw [e, Int.fdiv_eq_ediv_of_nonneg _ (Int.natCast_nonneg _), ← Int.natCast_ediv]
theorem ofInt_toNat {x : Nat} (hx : x < 18446744073709551616) : (BitVec.ofInt 64 (x : Int)).toNat = x := by
  rw [BitVec.toNat_ofInt]
  show ((x : Int) % ((2 ^ 64 : Nat) : Int)).toNat = x
  omega
end Go.Dp
namespace Go.Proofs.Ytclkgblckicabaa
open Go.Dp

def noOf (w : Nat) : List W → Nat
  | [] => 0
  | a :: l => a.toNat + 2 ^ w * noOf w l
def digs (w : Nat) : Nat → Nat → List W
  | 0, _ => []
  | v + 1, no => BitVec.ofNat 64 (no % 2 ^ w) :: digs w v (no / 2 ^ w)
theorem noOf_lt {w : Nat} : ∀ {s : List W}, (∀ a ∈ s, a.toNat < 2 ^ w) → noOf w s < 2 ^ (w * s.length)
  | [], _ => by simp [noOf]
  | a :: l, h => by
    have h1 := h a (by simp)
    have h2 := noOf_lt (s := l) fun b hb => h b (by simp [hb])
    simp only [noOf, List.length_cons]
    have e : 2 ^ (w * (l.length + 1)) = 2 ^ w * 2 ^ (w * l.length) := by rw [← Nat.pow_add]; congr 1; rw [Nat.mul_succ]; omega
    rw [e]
    have h3 : 2 ^ w * (noOf w l + 1) ≤ 2 ^ w * 2 ^ (w * l.length) := Nat.mul_le_mul_left _ h2
    rw [Nat.mul_add] at h3
    omega
theorem noOf_app {w : Nat} : ∀ (s t : List W), noOf w (s ++ t) = noOf w s + 2 ^ (w * s.length) * noOf w t
  | [], t => by simp [noOf]
  | a :: l, t => by
    simp only [List.cons_append, noOf, noOf_app l t, List.length_cons]
    have e : 2 ^ (w * (l.length + 1)) = 2 ^ w * 2 ^ (w * l.length) := by rw [← Nat.pow_add]; congr 1; rw [Nat.mul_succ]; omega
    rw [e, Nat.mul_add, Nat.mul_assoc]
    omega
theorem digs_length {w : Nat} : ∀ {v no : Nat}, (digs w v no).length = v
  | 0, _ => rfl
  | v + 1, no => by simp [digs, digs_length]
theorem digs_lt {w : Nat} (hw : w ≤ 63) : ∀ {v no : Nat}, ∀ a ∈ digs w v no, a.toNat < 2 ^ w
  | 0, no, a, h => by simp [digs] at h
  | v + 1, no, a, h => by
    simp only [digs, List.mem_cons] at h
    rcases h with rfl | h
    · have h1 : no % 2 ^ w < 2 ^ w := Nat.mod_lt _ (Nat.two_pow_pos w)
      have h2 : 2 ^ w ≤ 2 ^ 63 := Nat.pow_le_pow_right (by omega) hw
      rw [BitVec.toNat_ofNat, Nat.mod_eq_of_lt (by omega)]
      exact h1
    · exact digs_lt hw a h
theorem noOf_digs {w : Nat} (hw : w ≤ 63) : ∀ {v no : Nat}, no < 2 ^ (w * v) → noOf w (digs w v no) = no
  | 0, no, h => by simp at h; subst h; rfl
  | v + 1, no, h => by
    have h1 : no % 2 ^ w < 2 ^ w := Nat.mod_lt _ (Nat.two_pow_pos w)
    have h2 : 2 ^ w ≤ 2 ^ 63 := Nat.pow_le_pow_right (by omega) hw
    have e : 2 ^ (w * (v + 1)) = 2 ^ w * 2 ^ (w * v) := by rw [← Nat.pow_add]; congr 1; rw [Nat.mul_succ]; omega
    rw [e] at h
    simp only [digs, noOf]
    rw [noOf_digs hw (Nat.div_lt_of_lt_mul h), BitVec.toNat_ofNat, Nat.mod_eq_of_lt (a := no % 2 ^ w) (by omega)]
    exact Nat.mod_add_div no (2 ^ w)
theorem digs_noOf {w : Nat} : ∀ {s : List W}, (∀ a ∈ s, a.toNat < 2 ^ w) → digs w s.length (noOf w s) = s
  | [], _ => rfl
  | a :: l, h => by
    have h1 := h a (by simp)
    simp only [List.length_cons, digs, noOf]
    rw [Nat.add_mul_mod_self_left, Nat.mod_eq_of_lt h1, Nat.add_mul_div_left _ _ (Nat.two_pow_pos w), Nat.div_eq_of_lt h1, Nat.zero_add, digs_noOf fun b hb => h b (by simp [hb])]
    congr 1
    exact BitVec.eq_of_toNat_eq (by rw [BitVec.toNat_ofNat, Nat.mod_eq_of_lt a.isLt])
theorem digs_get {w : Nat} : ∀ {v no i : Nat}, i < v → (digs w v no)[i]? = some (BitVec.ofNat 64 (no / 2 ^ (w * i) % 2 ^ w))
  | 0, no, i, h => by omega
  | v + 1, no, 0, h => by simp [digs]
  | v + 1, no, i + 1, h => by
    simp only [digs, List.getElem?_cons_succ]
    rw [digs_get (by omega), Nat.div_div_eq_div_mul, ← Nat.pow_add, Nat.mul_succ, Nat.add_comm (w * i) w]
theorem digs_take {w v no i : Nat} (h : i < v) : (digs w v no).take i ++ [BitVec.ofNat 64 (no / 2 ^ (w * i) % 2 ^ w)] = (digs w v no).take (i + 1) := by
  have hl : i < (digs w v no).length := by rw [digs_length]; exact h
  have e := digs_get (w := w) (no := no) h
  rw [List.getElem?_eq_getElem hl] at e
  injection e with e
  rw [List.take_succ_eq_append_getElem hl, e]

/-! ### The functions -/
def stOK (p : Prg) (s : List W) : Bool := decide ((s.length : Int) = p.vars) && s.all (goodW p.wide)
def smallP (p : Prg) : Bool := goodP p && decide (p.wide * p.vars ≤ 5)
theorem fit_mul {p : Prg} (hp : FitP p) : IntKind.i64.wrap (p.wide * p.vars) = p.wide * p.vars ∧ 0 ≤ p.wide * p.vars ∧ p.wide * p.vars ≤ 320 := by
  have h1 := hp.w
  have h2 := hp.v
  have h3 : p.wide * p.vars ≤ 64 * p.vars := Int.mul_le_mul_of_nonneg_right h1.2 (by omega)
  have h4 : 0 ≤ p.wide * p.vars := Int.mul_nonneg (by omega) (by omega)
  exact ⟨i64_id (by omega) (by omega), h4, by omega⟩
theorem small_nat {p : Prg} (h : smallP p = true) : ∃ w v : Nat, p.wide = w ∧ p.vars = v ∧ 1 ≤ w ∧ 1 ≤ v ∧ v ≤ 4 ∧ w * v ≤ 5 ∧ goodP p = true := by
  simp only [smallP, Bool.and_eq_true, decide_eq_true_eq] at h
  obtain ⟨hw, hv⟩ := goodP_size h.1
  have hw' := isW_iff.1 hw
  have hv' := isV_iff.1 hv
  have h2 := h.2
  refine ⟨p.wide.toNat, p.vars.toNat, by omega, by omega, by omega, by omega, by omega, ?_, h.1⟩
  have e1 : p.wide = (p.wide.toNat : Int) := by omega
  have e2 : p.vars = (p.vars.toNat : Int) := by omega
  rw [e1, e2, ← Int.natCast_mul] at h2
  omega
theorem goodW_lt {w : Nat} (hw : w ≤ 64) {a : W} (h : goodW (w : Int) a = true) : a.toNat < 2 ^ w := by
  have h1 := (goodW_iff.1 h).2
  rw [BitVec.le_def] at h1
  have h2 : (mk (w : Int)).toNat = 2 ^ w - 1 := by
    unfold mk
    rw [Int.toNat_natCast]
    exact maskB_toNat hw
  have := Nat.two_pow_pos w
  omega
theorem goodW_of {w : Nat} (h1 : 1 ≤ w) (hw : w ≤ 64) {a : W} (h : a.toNat < 2 ^ w) : goodW (w : Int) a = true := by
  rw [goodW_iff]
  refine ⟨isW_iff.2 (by omega), ?_⟩
  rw [BitVec.le_def]
  have h2 : (mk (w : Int)).toNat = 2 ^ w - 1 := by
    unfold mk
    rw [Int.toNat_natCast]
    exact maskB_toNat hw
  omega
theorem pow5 {n : Nat} (h : n ≤ 5) : 2 ^ n ≤ 32 := Nat.pow_le_pow_right (n := 2) (by omega) h
theorem or_shift {x a n : Nat} (h : x < 2 ^ n) : x ||| (a * 2 ^ n) = x + 2 ^ n * a := by
  rw [← Nat.shiftLeft_eq, Nat.or_comm, ← Nat.shiftLeft_add_eq_or_of_lt h, Nat.shiftLeft_eq, Nat.mul_comm, Nat.add_comm]
end Go.Proofs.Ytclkgblckicabaa
/- Joined and turned terms: the functions. -/
set_option linter.unusedVariables false
set_option linter.unusedSimpArgs false
set_option maxRecDepth 4000
namespace Go.Proofs.Ytclkgblckicabaa
open Go.Dp

theorem kst_frame {wide vars : Int} : ∀ {t : List Nd} {ks ks' : List Int} (r : List Int), kst wide vars t ks = some ks' → kst wide vars t (ks ++ r) = some (ks' ++ r)
  | [], ks, ks', r, h => by simp only [kst] at h ⊢; injection h with h; rw [h]
  | x :: t, ks, ks', r, h => by
    simp only [kst] at h ⊢
    split at h
    · cases h
    · rename_i h0
      rw [if_neg h0]
      split at h
      · cases h
      · rename_i h1
        rw [if_neg h1]
        split at h
        · cases h
        · rename_i h2
          rw [if_neg (by simp; try omega)]
          have e1 : (ks ++ r).take (need x.1).1 = ks.take (need x.1).1 := List.take_append_of_le_length (by omega)
          have e2 : (ks ++ r).drop (need x.1).1 = ks.drop (need x.1).1 ++ r := List.drop_append_of_le_length (by omega)
          rw [e1, e2]
          split at h
          · cases h
          · rename_i h3
            rw [if_neg h3]
            exact kst_frame (ks := (need x.1).2.2 :: ks.drop (need x.1).1) r h
/-! ### slices.Concat -/
def rowsP (ls : List (List PV)) : List PV := ls.map (PV.row 2 0)
@[simp] theorem rowsP_length (ls : List (List PV)) : (rowsP ls).length = ls.length := by simp [rowsP]
theorem rowsP_get (ls : List (List PV)) (i : Nat) : (rowsP ls)[i]? = (ls[i]?).map (PV.row 2 0) := by simp [rowsP]
theorem encT_plain (t : List Nd) : (encT t).all plainP = true := by
  simp only [encT, List.all_eq_true, List.mem_map]
  rintro _ ⟨x, _, rfl⟩
  rfl
/-! ### Join, turn -/
def joinT (op : Int) (a b : List Nd) : List Nd := a ++ b ++ [(op, 0#64)]
def joinOK (wide vars op : Int) (a b : List Nd) : Bool := decide ((need op).1 = 2) && goodT wide vars a && goodT wide vars b && goodT wide vars (joinT op a b)
theorem good_kst {wide vars : Int} {t : List Nd} (h : goodT wide vars t = true) : kst wide vars t [] = some [kindT wide vars t] ∧ (kindT wide vars t = 1 ∨ kindT wide vars t = 2) := by
  obtain ⟨hs, c, hk, hc⟩ := goodT_iff.1 h
  have : kindT wide vars t = c := by simp [kindT, hs, hk, kind1]
  rw [this]
  exact ⟨hk, hc⟩
theorem join_kinds {wide vars op : Int} {a b : List Nd} (h : joinOK wide vars op a b = true) : kindT wide vars a = (need op).2.1 ∧ kindT wide vars b = (need op).2.1 := by
  simp only [joinOK, Bool.and_eq_true, decide_eq_true_eq] at h
  obtain ⟨⟨⟨hm, ha⟩, hb⟩, hj⟩ := h
  obtain ⟨ka, _⟩ := good_kst ha
  obtain ⟨kb, _⟩ := good_kst hb
  obtain ⟨kj, _⟩ := good_kst hj
  have kb' := kst_frame [kindT wide vars a] kb
  rw [joinT, kst_app, kst_app, ka] at kj
  simp only [Option.bind_some] at kj
  rw [List.nil_append] at kb'
  rw [kb'] at kj
  simp only [List.cons_append, List.nil_append, Option.bind_some, kst] at kj
  split at kj
  · cases kj
  · split at kj
    · cases kj
    · split at kj
      · cases kj
      · split at kj
        · cases kj
        · rename_i h3
          rw [hm] at h3
          simp at h3
          exact ⟨h3.2, h3.1⟩
theorem need_part {op : Int} (h : (need op).1 ≠ 0) : (need op).2.1 = 1 ∨ (need op).2.1 = 2 := by
  unfold need at h ⊢
  repeat' split
  all_goals simp_all
theorem kind_good {wide vars : Int} {t : List Nd} (h : kindT wide vars t > 0) : goodT wide vars t = true := by
  rw [← kindT_pos]; simpa using h
theorem join_spec (wide vars op : Int) (a b : List Nd) : (decide ((need op).1 = 2) && (kindT wide vars a == (need op).2.1) && (kindT wide vars b == (need op).2.1) && goodT wide vars (joinT op a b)) = joinOK wide vars op a b := by
  rw [Bool.eq_iff_iff]
  constructor
  · intro h
    simp only [Bool.and_eq_true, decide_eq_true_eq, beq_iff_eq] at h
    obtain ⟨⟨⟨hm, ha⟩, hb⟩, hj⟩ := h
    have hp := need_part (op := op) (by omega)
    simp only [joinOK, Bool.and_eq_true, decide_eq_true_eq]
    exact ⟨⟨⟨hm, kind_good (by omega)⟩, kind_good (by omega)⟩, hj⟩
  · intro h
    obtain ⟨h1, h2⟩ := join_kinds h
    simp only [joinOK, Bool.and_eq_true, decide_eq_true_eq] at h
    simp only [Bool.and_eq_true, decide_eq_true_eq, beq_iff_eq]
    exact ⟨⟨⟨h.1.1.1, h1⟩, h2⟩, h.2⟩
def turnT (op : Int) (a : List Nd) : List Nd := a ++ [(op, 0#64)]
def turnOK (wide vars op : Int) (a : List Nd) : Bool := decide (op = 13 ∨ op = 19) && goodT wide vars a && goodT wide vars (turnT op a)
theorem need_one {op : Int} : (need op).1 = 1 ↔ op = 13 ∨ op = 19 := by
  constructor
  · intro h
    unfold need at h
    split at h
    · simp at h
    · split at h
      · simp at h
      · split at h
        · left; assumption
        · split at h
          · right; assumption
          · split at h
            · simp at h
            · split at h
              · simp at h
              · split at h
                · simp at h
                · simp at h
  · rintro (h | h) <;> rw [h] <;> decide
theorem turn_kind {wide vars op : Int} {a : List Nd} (h : turnOK wide vars op a = true) : kindT wide vars a = (need op).2.1 := by
  simp only [turnOK, Bool.and_eq_true, decide_eq_true_eq] at h
  obtain ⟨⟨hm, ha⟩, hj⟩ := h
  have hm := need_one.2 hm
  obtain ⟨ka, _⟩ := good_kst ha
  obtain ⟨kj, _⟩ := good_kst hj
  rw [turnT, kst_app, ka] at kj
  simp only [Option.bind_some, kst] at kj
  split at kj
  · cases kj
  · split at kj
    · cases kj
    · split at kj
      · cases kj
      · split at kj
        · cases kj
        · rename_i h3
          rw [hm] at h3
          simpa using h3
theorem turn_spec (wide vars op : Int) (a : List Nd) : (decide ((need op).1 = 1) && (kindT wide vars a == (need op).2.1) && goodT wide vars (turnT op a)) = turnOK wide vars op a := by
  rw [Bool.eq_iff_iff]
  constructor
  · intro h
    simp only [Bool.and_eq_true, decide_eq_true_eq, beq_iff_eq] at h
    obtain ⟨⟨hm, ha⟩, hj⟩ := h
    have hp := need_part (op := op) (by omega)
    simp only [turnOK, Bool.and_eq_true, decide_eq_true_eq]
    exact ⟨⟨need_one.1 hm, kind_good (by omega)⟩, hj⟩
  · intro h
    have h1 := turn_kind h
    simp only [turnOK, Bool.and_eq_true, decide_eq_true_eq] at h
    simp only [Bool.and_eq_true, decide_eq_true_eq, beq_iff_eq]
    exact ⟨⟨need_one.2 h.1.1, h1⟩, h.2⟩
end Go.Proofs.Ytclkgblckicabaa
/- FnBefore: what is drawn; what must hold ahead of a command. -/
set_option linter.unusedVariables false
set_option linter.unusedSimpArgs false
set_option maxRecDepth 4000
namespace Go.Proofs.Ytclkgblckicabaa
open Go.Dp

def one1 (n : Int) : Int := if n < 1 then 1 else n
/-! ### What is asked -/
def cnoOK (p : Prg) (k1 : Int) : Bool := decide (0 ≤ k1) && decide (k1 < (p.cmds.length : Int))
def cmdAt (p : Prg) (k1 : Int) : Cmd := (p.cmds[k1.toNat]?).getD ⟨[], []⟩
def askOK (p : Prg) (k1 : Int) (t : List Nd) : Bool := goodP p && (cnoOK p k1 && (kindT p.wide p.vars t == 2))
theorem cmdAt_get {p : Prg} {k1 : Int} (h : cnoOK p k1 = true) : lookP (encCms p.cmds) k1 = some (encCm (cmdAt p k1)) ∧ cmdAt p k1 ∈ p.cmds := by
  simp only [cnoOK, Bool.and_eq_true, decide_eq_true_eq] at h
  have hlt : k1.toNat < p.cmds.length := by omega
  rw [lookP_int h.1, encCms_get]
  unfold cmdAt
  rw [List.getElem?_eq_getElem hlt]
  exact ⟨rfl, List.getElem_mem hlt⟩
/-! ### What is put for the variables -/
def varsT (n : Nat) : List (List Nd) := (List.range n).map fun v => [((2 : Int), BitVec.ofNat 64 v)]
@[simp] theorem varsT_length (n : Nat) : (varsT n).length = n := by simp [varsT]
theorem varsT_snoc (n : Nat) : varsT n ++ [[(2, BitVec.ofNat 64 n)]] = varsT (n + 1) := by simp [varsT, List.range_succ]
def setCh (by1 : List (List Nd)) (ch : List Chg) : List (List Nd) := ch.foldl (fun b x => b.set x.v.toNat x.by1) by1
theorem setCh_length : ∀ (ch : List Chg) (by1 : List (List Nd)), (setCh by1 ch).length = by1.length
  | [], by1 => rfl
  | x :: l, by1 => by
    have := setCh_length l (by1.set x.v.toNat x.by1)
    simpa [setCh] using this
theorem setCh_len : ∀ (ch : List Chg) (by1 : List (List Nd)), (∀ b ∈ by1, b.length ≤ 100) → (∀ x ∈ ch, x.by1.length ≤ 100) → ∀ b ∈ setCh by1 ch, b.length ≤ 100
  | [], by1, h1, h2 => h1
  | x :: l, by1, h1, h2 => by
    refine setCh_len l (by1.set x.v.toNat x.by1) (fun b hb => ?_) fun y hy => h2 y (by simp [hy])
    rcases List.mem_or_eq_of_mem_set hb with h | h
    · exact h1 b h
    · subst h; exact h2 x (by simp)
def byOf (p : Prg) (c : Cmd) : List (List Nd) := setCh (varsT p.vars.toNat) c.ch
theorem varsT_len (n : Nat) : ∀ b ∈ varsT n, b.length ≤ 100 := by
  intro b hb
  simp only [varsT, List.mem_map] at hb
  obtain ⟨v, _, rfl⟩ := hb
  simp
def oneOK (p : Prg) (c : Cmd) (t : List Nd) : Bool := putOK p.wide p.vars t (byOf p c) && goodT p.wide p.vars (putT (byOf p c) t)
def oneT (p : Prg) (c : Cmd) (t : List Nd) : List Nd := bif oneOK p c t then putT (byOf p c) t else []
theorem oneT_enc (p : Prg) (c : Cmd) (t : List Nd) : (bif oneOK p c t then encT (putT (byOf p c) t) else []) = encT (oneT p c t) := by
  unfold oneT
  cases oneOK p c t <;> rfl
theorem oneT_len (p : Prg) (c : Cmd) (t : List Nd) : (oneT p c t).length ≤ 48 := by
  unfold oneT
  cases h : oneOK p c t
  · simp
  · simp only [oneOK, Bool.and_eq_true] at h
    have := (goodT_iff.1 h.2).1
    simp only [sizeT, Bool.and_eq_true, decide_eq_true_eq] at this
    exact this.2
theorem goodChs_mem {wide vars : Int} : ∀ {l : List Chg} {pv : Int}, goodChs wide vars pv l = true → ∀ x ∈ l, 0 ≤ x.v ∧ x.v < vars ∧ kindT wide vars x.by1 = 1
  | [], pv, h => by simp
  | x :: l, pv, h => by
    simp only [goodChs, Bool.and_eq_true, decide_eq_true_eq, beq_iff_eq] at h
    intro y hy
    rcases List.mem_cons.1 hy with rfl | hy
    · exact ⟨h.1.1.1.1, h.1.1.1.2, h.1.2⟩
    · exact goodChs_mem h.2 y hy
theorem ask_cmd {p : Prg} (hp : FitP p) {k1 : Int} {t : List Nd} (h : askOK p k1 t = true) : isW p.wide = true ∧ isV p.vars = true ∧ cnoOK p k1 = true ∧ kindT p.wide p.vars t = 2 ∧ FitC 6 (cmdAt p k1) ∧ kindT p.wide p.vars (cmdAt p k1).wh = 2 ∧ ∀ x ∈ (cmdAt p k1).ch, 0 ≤ x.v ∧ x.v < p.vars ∧ kindT p.wide p.vars x.by1 = 1 := by
  simp only [askOK, Bool.and_eq_true, beq_iff_eq] at h
  obtain ⟨hg, hn, hk⟩ := h
  obtain ⟨h1, h2⟩ := goodP_size hg
  have hm := (cmdAt_get hn).2
  simp only [goodP, Bool.and_eq_true, List.all_eq_true] at hg
  have hc := hg.2 _ hm
  simp only [goodCmd, Bool.and_eq_true, beq_iff_eq] at hc
  exact ⟨h1, h2, hn, hk, hp.c _ hm, hc.1, goodChs_mem hc.2⟩
theorem vars_node (v : Nat) (hv : v ≤ 100) : PV.agg [.int .i64 2, .int .u64 (IntKind.u64.wrap (v : Int))] = encN (2, BitVec.ofNat 64 v) := by
  rw [wrapU]
  have : BitVec.ofInt 64 (v : Int) = BitVec.ofNat 64 v := by simp
  rw [this]
  rfl
/-! ### The condition that a command establishes another one -/
def ifT (p : Prg) (c : Cmd) (t : List Nd) : List Nd := c.wh ++ [(19, 0#64)] ++ oneT p c t ++ [(18, 0#64)]
def ifOK (p : Prg) (c : Cmd) (t : List Nd) : Bool := oneOK p c t && goodT p.wide p.vars (ifT p c t)
def ifR (p : Prg) (c : Cmd) (t : List Nd) : List Nd := bif ifOK p c t then ifT p c t else []
theorem ifR_len {p : Prg} {c : Cmd} {t : List Nd} (hc : FitC 6 c) : (ifR p c t).length ≤ 200 := by
  unfold ifR
  have h1 := hc.wh
  have h2 := oneT_len p c t
  cases ifOK p c t
  · simp
  · simp [ifT]; omega
/-! ### The four functions -/
def b1OK (p : Prg) (k1 : Int) (t : List Nd) : Bool := askOK p k1 t && oneOK p (cmdAt p k1) t
def b1T (p : Prg) (k1 : Int) (t : List Nd) : List Nd := bif askOK p k1 t then oneT p (cmdAt p k1) t else []
def b2OK (p : Prg) (k1 : Int) (t : List Nd) : Bool := askOK p k1 t && ifOK p (cmdAt p k1) t
def b2T (p : Prg) (k1 : Int) (t : List Nd) : List Nd := bif askOK p k1 t then ifR p (cmdAt p k1) t else []
end Go.Proofs.Ytclkgblckicabaa
/- FnBefore: what must hold ahead of a command does; the law. -/
set_option linter.unusedVariables false
set_option linter.unusedSimpArgs false
set_option maxRecDepth 4000
namespace Go.Proofs.Ytclkgblckicabaa
open Go.Dp

def valD (wide : Int) (s : List W) (t : List Nd) : W := match vrun wide s t [] with | some [v] => v | _ => 0#64
theorem valD_of {wide : Int} {s : List W} {t : List Nd} {v : W} (h : vrun wide s t [] = some [v]) : valD wide s t = v := by unfold valD; rw [h]
def afterS (wide : Int) (s : List W) (ch : List Chg) (o : List W) : List W := ch.foldl (fun o x => o.set x.v.toNat (valD wide s x.by1)) o
theorem kind_val {wide vars c : Int} {t : List Nd} (h : kindT wide vars t = c) (hc : c > 0) {s : List W} (hs : (s.length : Int) = vars) (hg : ∀ a ∈ s, a ≤ mk wide) : vrun wide s t [] = some [valD wide s t] ∧ okV wide c (valD wide s t) := by
  obtain ⟨v, h1, h2⟩ := good_value (kind_good (by omega : kindT wide vars t > 0)) hs hg
  rw [valD_of h1, ← h]
  exact ⟨h1, h2⟩
def holdC (p : Prg) (c : Cmd) (s : List W) : Bool := valD p.wide s c.wh == 1#64
/-! ### The plain law -/
structure InvV (wide : Int) (s : List W) (b : List (List Nd)) (v : List W) : Prop where
  l : v.length = b.length
  q : ∀ (i : Nat) (t : List Nd) (w : W), b[i]? = some t → v[i]? = some w → vrun wide s t [] = some [w]
  m : ∀ a ∈ v, a ≤ mk wide
theorem inv_set {wide vars : Int} {s : List W} (hs : (s.length : Int) = vars) (hg : ∀ a ∈ s, a ≤ mk wide) : ∀ (ch : List Chg) (b : List (List Nd)) (v : List W), (∀ x ∈ ch, kindT wide vars x.by1 = 1) → InvV wide s b v → InvV wide s (setCh b ch) (afterS wide s ch v)
  | [], b, v, hx, h => h
  | x :: l, b, v, hx, h => by
    obtain ⟨h1, h2⟩ := kind_val (hx x (by simp)) (by omega) hs hg
    have h3 : valD wide s x.by1 ≤ mk wide := by rcases h2 with h | h; exact h.2; exact absurd h.1 (by omega)
    refine inv_set hs hg l (b.set x.v.toNat x.by1) (v.set x.v.toNat (valD wide s x.by1)) (fun y hy => hx y (by simp [hy])) ⟨by simp [h.l], ?_, ?_⟩
    · intro i t w ht hw
      rw [List.getElem?_set] at ht hw
      by_cases he : x.v.toNat = i
      · rw [if_pos he] at ht hw
        split at ht
        · split at hw
          · injection ht with ht
            injection hw with hw
            rw [← ht, ← hw]
            exact h1
          · cases hw
        · cases ht
      · rw [if_neg he] at ht hw
        exact h.q i t w ht hw
    · intro a ha
      rcases List.mem_or_eq_of_mem_set ha with h4 | h4
      · exact h.m a h4
      · rw [h4]; exact h3
theorem inv_vars {wide : Int} {s : List W} (hl : s.length ≤ 100) (hg : ∀ a ∈ s, a ≤ mk wide) : InvV wide s (varsT s.length) s := by
  refine ⟨by simp, ?_, hg⟩
  intro i t w ht hw
  have hi := (List.getElem?_eq_some_iff.1 hw).1
  have e1 : (varsT s.length)[i]? = some [((2 : Int), BitVec.ofNat 64 i)] := by simp [varsT, hi]
  rw [e1] at ht
  injection ht with ht
  subst ht
  have e2 : (BitVec.ofNat 64 i).toNat = i := by rw [BitVec.toNat_ofNat, Nat.mod_eq_of_lt (by omega)]
  simp only [vrun]
  rw [if_neg (by omega), if_pos trivial, e2, hw]
  rfl
theorem one_mk {wide : Int} (hw : isW wide = true) : 1#64 &&& mk wide = 1#64 := by
  have h := isW_iff.1 hw
  unfold mk
  rw [cut_eq_iff (by omega), BitVec.le_def, maskB_toNat (by omega)]
  have : 2 ^ 1 ≤ 2 ^ wide.toNat := Nat.pow_le_pow_right (by omega) (by omega)
  have h1 : (1#64).toNat = 1 := rfl
  omega
theorem or_if {wide : Int} (hw : isW wide = true) {w v : W} (h1 : w ≤ 1#64) (h2 : v ≤ 1#64) : apW wide 18 (1#64 - w) v = bif w == 1#64 then v else 1#64 := by
  have e : apW wide 18 (1#64 - w) v = ((1#64 - w) ||| v) &&& mk wide := rfl
  have hm := one_mk hw
  have h0 : 0#64 &&& mk wide = 0#64 := by simp
  rw [e]
  rcases le_one_cases h1 with rfl | rfl <;> rcases le_one_cases h2 with rfl | rfl
  · exact hm
  · exact hm
  · exact h0
  · exact hm
theorem okV_two {wide : Int} {v : W} (h : okV wide 2 v) : v ≤ 1#64 := by rcases h with h | h; exact absurd h.1 (by omega); exact h.2
theorem one_law {p : Prg} (hp : FitP p) {k1 : Int} {t : List Nd} (ha : askOK p k1 t = true) (ho : oneOK p (cmdAt p k1) t = true) {s : List W} (hs : (s.length : Int) = p.vars) (hg : ∀ a ∈ s, a ≤ mk p.wide) :
    ∃ v, vrun p.wide s (putT (byOf p (cmdAt p k1)) t) [] = some [v] ∧ vrun p.wide (afterS p.wide s (cmdAt p k1).ch s) t [] = some [v] ∧ v ≤ 1#64 ∧ ((afterS p.wide s (cmdAt p k1).ch s).length : Int) = p.vars ∧ ∀ a ∈ afterS p.wide s (cmdAt p k1).ch s, a ≤ mk p.wide := by
  obtain ⟨hw, hv, hn, hkt, hf, hkw, hx⟩ := ask_cmd hp ha
  have hv' := isV_iff.1 hv
  have hn2 : s.length = p.vars.toNat := by omega
  have hi := inv_vars (wide := p.wide) (s := s) (by omega) hg
  rw [hn2] at hi
  have hi2 := inv_set hs hg (cmdAt p k1).ch _ _ (fun x h => (hx x h).2.2) hi
  simp only [oneOK, putOK, Bool.and_eq_true, decide_eq_true_eq] at ho
  obtain ⟨⟨⟨hgt, hbl⟩, _⟩, hgp⟩ := ho
  have hl2 : ((afterS p.wide s (cmdAt p k1).ch s).length : Int) = p.vars := by rw [hi2.l]; exact hbl
  obtain ⟨x, h1, _⟩ := good_value hgp hs hg
  obtain ⟨y, h2, h3⟩ := good_value hgt hl2 hi2.m
  have hxy := vrun_put (wide := p.wide) (state := s) (by1 := byOf p (cmdAt p k1)) hi2.l hi2.q t [] (fun z hz h => by have := goodT_vars hgt z hz h; omega)
  rw [h1, h2] at hxy
  injection hxy with hxy
  injection hxy with hxy
  rw [hkt] at h3
  refine ⟨x, h1, by rw [hxy]; exact h2, by rw [hxy]; exact okV_two h3, hl2, hi2.m⟩
theorem if_law {p : Prg} (hp : FitP p) {k1 : Int} {t : List Nd} (ha : askOK p k1 t = true) (ho : oneOK p (cmdAt p k1) t = true) {s : List W} (hs : (s.length : Int) = p.vars) (hg : ∀ a ∈ s, a ≤ mk p.wide) {v : W} (h1 : vrun p.wide s (putT (byOf p (cmdAt p k1)) t) [] = some [v]) (h2 : v ≤ 1#64) :
    vrun p.wide s (ifT p (cmdAt p k1) t) [] = some [bif holdC p (cmdAt p k1) s then v else 1#64] := by
  obtain ⟨hw, hv, hn, hkt, hf, hkw, hx⟩ := ask_cmd hp ha
  obtain ⟨h3, h4⟩ := kind_val hkw (by omega) hs hg
  have e : oneT p (cmdAt p k1) t = putT (byOf p (cmdAt p k1)) t := by unfold oneT; rw [ho]; rfl
  have h5 := vrun_frame [1#64 - valD p.wide s (cmdAt p k1).wh] h1
  rw [List.nil_append] at h5
  have e19 : ∀ a : W, vrun p.wide s [(19, 0#64)] [a] = some [1#64 - a] := fun a => rfl
  have e18 : ∀ a b : W, vrun p.wide s [(18, 0#64)] [b, a] = some [apW p.wide 18 a b] := fun a b => rfl
  unfold ifT
  rw [e, vrun_app, vrun_app, vrun_app, h3]
  simp only [Option.bind_some, e19, h5, List.cons_append, List.nil_append, e18]
  rw [or_if hw (okV_two h4) h2]
  rfl

/-! ### The law -/
end Go.Proofs.Ytclkgblckicabaa
/- The reference's values of terms: by the tree of a node. -/
set_option linter.unusedVariables false
set_option linter.unusedSimpArgs false
set_option maxRecDepth 4000
namespace Go.Proofs.Ytclkgblckicabaa
open Go.Dp

/-! ### Words -/
theorem mk_cut {wide : Int} (hw : isW wide = true) {a : W} (h : a ≤ mk wide) : a &&& mk wide = a := by
  have h' := isW_iff.1 hw
  exact (cut_eq_iff (by omega) a).2 h
theorem le_of_cut {wide : Int} (hw : isW wide = true) {a : W} (h : a &&& mk wide = a) : a ≤ mk wide := by
  have h' := isW_iff.1 hw
  exact (cut_eq_iff (by omega) a).1 h
theorem bit_mk {wide : Int} (hw : isW wide = true) (i : Nat) : (mk wide).getLsbD i = decide (i < wide.toNat) := by
  have h' := isW_iff.1 hw
  exact maskB_lsb (by omega) i
theorem or_cut {wide : Int} (hw : isW wide = true) {a b : W} (ha : a ≤ mk wide) (hb : b ≤ mk wide) : (a ||| b) &&& mk wide = a ||| b := by
  have h1 := mk_cut hw ha
  have h2 := mk_cut hw hb
  rw [BitVec.and_comm, BitVec.and_or_distrib_left, BitVec.and_comm _ a, BitVec.and_comm _ b, h1, h2]
theorem xor_cut {wide : Int} (hw : isW wide = true) {a b : W} (ha : a ≤ mk wide) (hb : b ≤ mk wide) : (a ^^^ b) &&& mk wide = a ^^^ b := by
  have h1 := mk_cut hw ha
  have h2 := mk_cut hw hb
  apply BitVec.eq_of_getLsbD_eq
  intro i hi
  have b1 := congrArg (fun x => x.getLsbD i) h1
  have b2 := congrArg (fun x => x.getLsbD i) h2
  simp only [BitVec.getLsbD_and, BitVec.getLsbD_xor] at b1 b2 ⊢
  revert b1 b2
  cases a.getLsbD i <;> cases b.getLsbD i <;> cases (mk wide).getLsbD i <;> simp
theorem shl_step {wide : Int} (hw : isW wide = true) (a : W) (j : Nat) : (((a <<< 1) &&& mk wide) <<< j) &&& mk wide = (a <<< (j + 1)) &&& mk wide := by
  apply BitVec.eq_of_getLsbD_eq
  intro i hi
  simp only [BitVec.getLsbD_and, BitVec.getLsbD_shiftLeft, bit_mk hw]
  by_cases h1 : i < wide.toNat
  · by_cases h2 : i < j
    · have : i < j + 1 := by omega
      simp [h2, this]
    · by_cases h3 : i = j
      · subst h3
        simp
      · have e1 : i - j - 1 = i - (j + 1) := by omega
        have h4 : ¬ i < j + 1 := by omega
        have h5 : ¬ i - j < 1 := by omega
        have h6 : i - j < wide.toNat := by omega
        have h7 : i - j < 64 := by omega
        simp [h1, h2, h4, h5, h6, h7, hi, e1]
  · simp [h1]
theorem cut_idem {wide : Int} (hw : isW wide = true) (a : W) : (a &&& mk wide) &&& mk wide = a &&& mk wide := by rw [BitVec.and_assoc, BitVec.and_self]
def sg (wide : Int) (a : W) : Int := if a.toNat < 2 ^ (wide.toNat - 1) then (a.toNat : Int) else (a.toNat : Int) - 2 ^ wide.toNat
theorem wrap_hi {x : Int} (h1 : 9223372036854775808 ≤ x) (h2 : x < 18446744073709551616) : IntKind.i64.wrap x = x - 18446744073709551616 := by
  unfold IntKind.wrap
  simp [IntKind.signed, IntKind.bits]
  omega
theorem mk_toNat {wide : Int} (hw : isW wide = true) : (mk wide).toNat = 2 ^ wide.toNat - 1 := by
  have h' := isW_iff.1 hw
  exact maskB_toNat (by omega)
theorem word_lt {wide : Int} (hw : isW wide = true) {a : W} (ha : a ≤ mk wide) : a.toNat < 2 ^ wide.toNat := by
  have h1 := mk_toNat hw
  rw [BitVec.le_def] at ha
  have := Nat.two_pow_pos wide.toNat
  omega
theorem pow_parts {wide : Int} (hw : isW wide = true) : ∃ w : Nat, wide = ((w + 1 : Nat) : Int) ∧ w ≤ 63 ∧ wide.toNat = w + 1 ∧ wide.toNat - 1 = w := by
  have h' := isW_iff.1 hw
  exact ⟨wide.toNat - 1, by omega, by omega, by omega, rfl⟩
theorem sgn_sg {wide : Int} (hw : isW wide = true) {a : W} (ha : a ≤ mk wide) : sgn wide a = sg wide a := by
  have hlt := word_lt hw ha
  obtain ⟨w, rfl, hw63, e1, e2⟩ := pow_parts hw
  unfold sgn sg
  rw [e2, e1] at *
  have hd : (64 - ((w + 1 : Nat) : Int)).toNat = 63 - w := by omega
  have hmul : 2 ^ (w + 1) * 2 ^ (63 - w) = 18446744073709551616 := by rw [← Nat.pow_add, show w + 1 + (63 - w) = 64 by omega]
  have hmul2 : 2 ^ w * 2 ^ (63 - w) = 9223372036854775808 := by rw [← Nat.pow_add, show w + (63 - w) = 63 by omega]
  have hp := Nat.two_pow_pos (63 - w)
  have hb : a.toNat * 2 ^ (63 - w) < 18446744073709551616 := by rw [← hmul]; exact Nat.mul_lt_mul_of_pos_right hlt hp
  have hs : (a <<< (63 - w)).toNat = a.toNat * 2 ^ (63 - w) := by
    rw [BitVec.toNat_shiftLeft, Nat.shiftLeft_eq, Nat.mod_eq_of_lt (by simpa using hb)]
  have hy : min (64 - ((w + 1 : Nat) : Int)).toNat 64 = 63 - w := by omega
  unfold shrI
  rw [hd, show min (63 - w) IntKind.i64.bits = 63 - w from Nat.min_eq_left (by show 63 - w ≤ 64; omega)]
  have hwi : wi (a <<< (63 - w)) = ((a.toNat * 2 ^ (63 - w) : Nat) : Int) := by unfold wi; rw [hs]
  have hpc : (2 : Int) ^ (63 - w) = ((2 ^ (63 - w) : Nat) : Int) := by simp
  rw [hwi, hpc]
  by_cases h : a.toNat < 2 ^ w
  · have hc : a.toNat * 2 ^ (63 - w) < 9223372036854775808 := by rw [← hmul2]; exact Nat.mul_lt_mul_of_pos_right h hp
    rw [if_pos h, i64_id (by omega) (by omega), Int.fdiv_eq_ediv_of_nonneg _ (Int.natCast_nonneg _), ← Int.natCast_ediv, Nat.mul_div_cancel _ hp]
  · have hc : 9223372036854775808 ≤ a.toNat * 2 ^ (63 - w) := by rw [← hmul2]; exact Nat.mul_le_mul_right _ (by omega)
    rw [if_neg h, wrap_hi (by omega) (by omega)]
    have e3 : ((a.toNat * 2 ^ (63 - w) : Nat) : Int) - 18446744073709551616 = ((a.toNat : Int) - ((2 ^ (w + 1) : Nat) : Int)) * ((2 ^ (63 - w) : Nat) : Int) := by
      rw [Int.sub_mul, ← Int.natCast_mul, ← Int.natCast_mul, hmul]
      rfl
    rw [e3, Int.mul_fdiv_cancel _ (by omega)]
    simp
theorem or_hi {wide : Int} (hw : isW wide = true) {a : W} (ha : a ≤ mk wide) : (a ||| ~~~mk wide).toNat = a.toNat + (18446744073709551616 - 2 ^ wide.toNat) := by
  have hz : a &&& ~~~mk wide = 0#64 := by
    have h1 := mk_cut hw ha
    apply BitVec.eq_of_getLsbD_eq
    intro i hi
    have b1 := congrArg (fun x => x.getLsbD i) h1
    simp only [BitVec.getLsbD_and, BitVec.getLsbD_not, hi, decide_true, Bool.true_and] at b1 ⊢
    revert b1
    cases a.getLsbD i <;> cases (mk wide).getLsbD i <;> simp
  rw [← BitVec.add_eq_or_of_and_eq_zero _ _ hz, BitVec.toNat_add, BitVec.toNat_not, mk_toNat hw]
  have h1 := word_lt hw ha
  have h' := isW_iff.1 hw
  have h2 : 2 ^ wide.toNat ≤ 2 ^ 64 := Nat.pow_le_pow_right (by omega) (by omega)
  have h3 := Nat.two_pow_pos wide.toNat
  rw [Nat.mod_eq_of_lt]
  · omega
  · omega
theorem top_bit {wide : Int} (hw : isW wide = true) {a : W} (ha : a ≤ mk wide) : ((a >>> (wide.toNat - 1)) &&& 1#64 == 1#64) = !decide (a.toNat < 2 ^ (wide.toNat - 1)) := by
  have hlt := word_lt hw ha
  obtain ⟨w, rfl, hw63, e1, e2⟩ := pow_parts hw
  rw [e2]
  rw [e1, Nat.pow_succ] at hlt
  have hp := Nat.two_pow_pos w
  have hn : ((a >>> w) &&& 1#64).toNat = a.toNat / 2 ^ w % 2 := by
    rw [BitVec.toNat_and, BitVec.toNat_ushiftRight, Nat.shiftRight_eq_div_pow]
    exact Nat.and_one_is_mod _
  by_cases h : a.toNat < 2 ^ w
  · rw [Nat.div_eq_of_lt h] at hn
    have : (a >>> w) &&& 1#64 ≠ 1#64 := fun e => by rw [e] at hn; simp at hn
    simp [h, this]
  · have hq : a.toNat / 2 ^ w = 1 := by
      apply Nat.div_eq_of_lt_le <;> omega
    rw [hq] at hn
    have : (a >>> w) &&& 1#64 = 1#64 := BitVec.eq_of_toNat_eq hn
    simp [h, this]
/-! ### The reference's functions -/
theorem both_ok {k : Nat} (hk : 90 ≤ k) (wide : Int) (a b : W) : c63 k wide (wi a) (wi b) = r63 (goodW wide a && goodW wide b) := by
  obtain ⟨k, rfl⟩ : ∃ j, k = j + 1 := ⟨k - 1, by omega⟩
  rw [n63, goodWordS_ok (by omega), goodWordS_ok (by omega)]
  simp only [R79_r]
  cases goodW wide a <;> rfl
theorem cutM_ok {k : Nat} (hk : 70 ≤ k) {wide : Int} (hw : isW wide = true) (a : W) : c55 k wide (wi a) = r55 (wi (a &&& mk wide)) := by
  have h' := isW_iff.1 hw
  exact cut_ok hk (by omega) h'.2 a
theorem tr_cut {wide : Int} (hw : isW wide = true) (b : Bool) : tr b &&& mk wide = tr b := by
  refine mk_cut hw (BitVec.le_trans (tr_le b) ?_)
  have h1 := mk_toNat hw
  have h' := isW_iff.1 hw
  have : 2 ^ 1 ≤ 2 ^ wide.toNat := Nat.pow_le_pow_right (by omega) (by omega)
  have h2 : (1#64).toNat = 1 := rfl
  rw [BitVec.le_def]
  omega
theorem divW_le {wide : Int} (hw : isW wide = true) {a b : W} (ha : a ≤ mk wide) (hb : b ≤ mk wide) : (divW wide a b).1 ≤ mk wide ∧ (divW wide a b).2 ≤ mk wide := by
  unfold divW
  split
  · split
    · exact ⟨BitVec.le_refl _, ha⟩
    · refine ⟨BitVec.le_trans ?_ ha, BitVec.le_trans ?_ ha⟩
      · rw [BitVec.le_def, BitVec.toNat_udiv]; exact Nat.div_le_self _ _
      · rw [BitVec.le_def, BitVec.toNat_umod]; exact Nat.mod_le _ _
  · exact ⟨by rw [BitVec.le_def]; exact Nat.zero_le _, by rw [BitVec.le_def]; exact Nat.zero_le _⟩
/-! ### The tree of a node -/
theorem kst_need {wide vars : Int} : ∀ {t : List Nd} {st st' : List Int}, kst wide vars t st = some st' → ∀ x ∈ t, (need x.1).2.2 ≠ 0
  | [], st, st', h => by simp
  | x :: t, st, st', h => by
    simp only [kst] at h
    split at h
    · cases h
    · rename_i h0
      split at h
      · cases h
      · split at h
        · cases h
        · split at h
          · cases h
          · intro y hy
            rcases List.mem_cons.1 hy with rfl | hy
            · exact h0
            · exact kst_need h y hy
theorem need_cases {op : Int} (h : (need op).2.2 ≠ 0) : ((op = 1 ∨ op = 20) ∧ (need op).1 = 0) ∨ (op = 2 ∧ (need op).1 = 0) ∨ ((op = 13 ∨ op = 19) ∧ (need op).1 = 1) ∨ (op ≠ 1 ∧ op ≠ 20 ∧ op ≠ 2 ∧ op ≠ 13 ∧ op ≠ 19 ∧ (need op).1 = 2) := by
  by_cases h1 : op = 1
  · subst h1; exact .inl ⟨.inl rfl, rfl⟩
  by_cases h20 : op = 20
  · subst h20; exact .inl ⟨.inr rfl, by decide⟩
  by_cases h2 : op = 2
  · subst h2; exact .inr (.inl ⟨rfl, by decide⟩)
  by_cases h13 : op = 13
  · subst h13; exact .inr (.inr (.inl ⟨.inl rfl, by decide⟩))
  by_cases h19 : op = 19
  · subst h19; exact .inr (.inr (.inl ⟨.inr rfl, by decide⟩))
  refine .inr (.inr (.inr ⟨h1, h20, h2, h13, h19, ?_⟩))
  unfold need at h ⊢
  rw [if_neg (by omega), if_neg h20, if_neg h13, if_neg h19] at h ⊢
  split
  · rfl
  · split
    · rfl
    · split
      · rfl
      · rename_i b1 b2 b3
        rw [if_neg b1, if_neg b2, if_neg b3] at h
        exact absurd rfl h
theorem Fit.le {wide : Int} (hw : isW wide = true) {ks : List Int} {vs : List W} (h : Fit wide ks vs) : ∀ v ∈ vs, v ≤ mk wide := by
  induction h with
  | nil => simp
  | cons ho _ ih =>
    intro v hv
    rcases List.mem_cons.1 hv with rfl | hv
    · rcases ho with ho | ho
      · exact ho.2
      · refine BitVec.le_trans ho.2 ?_
        exact le_of_cut hw (by
          have := tr_cut hw true
          simpa [tr] using this)
    · exact ih v hv
theorem good_prefix {wide vars : Int} {t : List Nd} (h : goodT wide vars t = true) {s : List W} (hs : (s.length : Int) = vars) (hg : ∀ a ∈ s, a ≤ mk wide) : (∀ x ∈ t, (need x.1).2.2 ≠ 0) ∧ ∀ (j : Nat) (us : List W), vrun wide s (t.take j) [] = some us → ∀ u ∈ us, u ≤ mk wide := by
  obtain ⟨hsz, c, hk, hc⟩ := goodT_iff.1 h
  have hw : isW wide = true := by simp only [sizeT, Bool.and_eq_true] at hsz; exact hsz.1.1.1
  have hv : isV vars = true := by simp only [sizeT, Bool.and_eq_true] at hsz; exact hsz.1.1.2
  refine ⟨kst_need hk, fun j us hus => ?_⟩
  rw [← List.take_append_drop j t, kst_app] at hk
  obtain ⟨ks, h1, h2⟩ := Option.bind_eq_some_iff.1 hk
  obtain ⟨vs', h3, hf⟩ := run_fit hw hv hs hg h1 .nil
  rw [hus] at h3
  injection h3 with h3
  subst h3
  exact hf.le hw
end Go.Proofs.Ytclkgblckicabaa
/- Sorted lists; the variables that a command reads and changes. -/
set_option linter.unusedVariables false
set_option linter.unusedSimpArgs false
set_option maxRecDepth 4000
namespace Go.Dp
/-! ### Sorted lists -/
theorem lt_ext : ∀ {a b : List Int}, a.Pairwise (· < ·) → b.Pairwise (· < ·) → (∀ x, x ∈ a ↔ x ∈ b) → a = b
  | [], [], _, _, _ => rfl
  | [], y :: b, _, _, h => by have := (h y).2 (by simp); simp at this
  | x :: a, [], _, _, h => by have := (h x).1 (by simp); simp at this
  | x :: a, y :: b, ha, hb, h => by
    rw [List.pairwise_cons] at ha hb
    have exy : x = y := by
      have h1 := (h x).1 (by simp)
      have h2 := (h y).2 (by simp)
      rcases List.mem_cons.1 h1 with h1 | h1
      · exact h1
      · rcases List.mem_cons.1 h2 with h2 | h2
        · exact h2.symm
        · have := ha.1 y h2
          have := hb.1 x h1
          omega
    subst exy
    rw [lt_ext ha.2 hb.2 fun z => ?_]
    constructor
    · intro hz
      rcases List.mem_cons.1 ((h z).1 (List.mem_cons_of_mem _ hz)) with h1 | h1
      · have := ha.1 z hz; omega
      · exact h1
    · intro hz
      rcases List.mem_cons.1 ((h z).2 (List.mem_cons_of_mem _ hz)) with h1 | h1
      · have := hb.1 z hz; omega
      · exact h1
theorem comp_up (z : List Int) (hs : ∀ i j, i ≤ j → j < z.length → z.toArray[i]! ≤ z.toArray[j]!) : ∀ m, m ≤ z.length → (Lib.compactUpTo z.toArray m).Pairwise (· < ·) ∧ ∀ x, x ∈ Lib.compactUpTo z.toArray m ↔ ∃ j, j < m ∧ z.toArray[j]! = x
  | 0, _ => by simp [Lib.compactUpTo]
  | m + 1, h => by
    obtain ⟨h1, h2⟩ := comp_up z hs m (by omega)
    rw [Lib.compactUpTo_succ]
    by_cases hk : Lib.keeps z.toArray m = true
    · rw [if_pos hk]
      refine ⟨List.pairwise_append.2 ⟨h1, by simp, fun a ha b hb => ?_⟩, fun x => ?_⟩
      · rw [List.mem_singleton] at hb
        subst hb
        obtain ⟨j, hj, rfl⟩ := (h2 a).1 ha
        have l1 := hs j (m - 1) (by omega) (by omega)
        have l2 := hs (m - 1) m (by omega) (by omega)
        have hne : z.toArray[m]! ≠ z.toArray[m - 1]! := by
          unfold Lib.keeps at hk
          rw [decide_eq_true_eq] at hk
          rcases hk with hk | hk
          · omega
          · exact hk
        omega
      · rw [List.mem_append, h2, List.mem_singleton]
        constructor
        · rintro (⟨j, hj, hx⟩ | hx)
          · exact ⟨j, by omega, hx⟩
          · exact ⟨m, by omega, hx.symm⟩
        · rintro ⟨j, hj, hx⟩
          by_cases e : j = m
          · subst e; exact .inr hx.symm
          · exact .inl ⟨j, by omega, hx⟩
    · rw [if_neg hk, List.append_nil]
      refine ⟨h1, fun x => ?_⟩
      have hm : m ≠ 0 ∧ z.toArray[m]! = z.toArray[m - 1]! := by
        unfold Lib.keeps at hk
        rw [decide_eq_true_eq] at hk
        exact ⟨fun e => hk (.inl e), Decidable.byContradiction fun e => hk (.inr e)⟩
      rw [h2]
      constructor
      · rintro ⟨j, hj, hx⟩; exact ⟨j, by omega, hx⟩
      · rintro ⟨j, hj, hx⟩
        by_cases e : j = m
        · subst e; exact ⟨j - 1, by omega, by rw [← hm.2]; exact hx⟩
        · exact ⟨j, by omega, hx⟩
def canI (l : List Int) : List Int := compI (sortI l)
theorem mem_bang {z : List Int} {x : Int} : (∃ j, j < z.length ∧ z.toArray[j]! = x) ↔ x ∈ z := by
  constructor
  · rintro ⟨j, hj, rfl⟩
    rw [getElem!_pos z.toArray j (by simpa using hj)]
    simp
  · intro h
    obtain ⟨j, hj, rfl⟩ := List.getElem_of_mem h
    exact ⟨j, hj, by rw [getElem!_pos z.toArray j (by simpa using hj)]; simp⟩
theorem canI_spec (l : List Int) : (canI l).Pairwise (· < ·) ∧ ∀ x, x ∈ canI l ↔ x ∈ l := by
  have hp : (sortI l).Pairwise fun a b => decide (a ≤ b) = true := List.pairwise_mergeSort (fun a b c h1 h2 => by simp at h1 h2 ⊢; omega) (fun a b => by simp; omega) l
  have hs : ∀ i j, i ≤ j → j < (sortI l).length → (sortI l).toArray[i]! ≤ (sortI l).toArray[j]! := by
    intro i j hij hj
    rw [getElem!_pos (sortI l).toArray i (by simp; omega), getElem!_pos (sortI l).toArray j (by simpa using hj)]
    by_cases e : i = j
    · subst e; omega
    · have := List.pairwise_iff_getElem.1 hp i j (by omega) hj (by omega)
      simpa using this
  obtain ⟨h1, h2⟩ := comp_up (sortI l) hs (sortI l).length (Nat.le_refl _)
  refine ⟨h1, fun x => (h2 x).trans (mem_bang.trans ?_)⟩
  unfold sortI
  exact List.mem_mergeSort
theorem canI_len (l : List Int) : (canI l).length ≤ l.length := by
  have := compI_le (sortI l)
  unfold canI
  have : (sortI l).length = l.length := by simp [sortI]
  omega
def putI : List Int → Int → List Int
  | [], n => [n]
  | x :: l, n => if x < n then x :: putI l n else if x = n then x :: l else n :: x :: l
theorem putI_cons (x : Int) (l : List Int) (n : Int) : putI (x :: l) n = if x < n then x :: putI l n else if x = n then x :: l else n :: x :: l := rfl
theorem putI_mem : ∀ (l : List Int) (n x : Int), x ∈ putI l n ↔ x = n ∨ x ∈ l
  | [], n, x => by simp [putI]
  | y :: l, n, x => by
    unfold putI
    split
    · simp only [List.mem_cons, putI_mem l n x]
      constructor
      · rintro (h | h | h) <;> simp [h]
      · rintro (h | h | h) <;> simp [h]
    · split
      · rename_i h
        subst h
        simp
      · simp
theorem putI_lt : ∀ (l : List Int) (n : Int), l.Pairwise (· < ·) → (putI l n).Pairwise (· < ·)
  | [], n, h => by simp [putI]
  | y :: l, n, h => by
    rw [List.pairwise_cons] at h
    unfold putI
    split
    · rename_i h1
      rw [List.pairwise_cons]
      refine ⟨fun x hx => ?_, putI_lt l n h.2⟩
      rcases (putI_mem l n x).1 hx with hx | hx
      · omega
      · exact h.1 x hx
    · split
      · exact List.pairwise_cons.2 h
      · rw [List.pairwise_cons]
        refine ⟨fun x hx => ?_, List.pairwise_cons.2 h⟩
        rcases List.mem_cons.1 hx with hx | hx
        · omega
        · have := h.1 x hx; omega
theorem putI_len : ∀ (l : List Int) (n : Int), (putI l n).length ≤ l.length + 1
  | [], n => by simp [putI]
  | y :: l, n => by
    have := putI_len l n
    unfold putI
    split
    · simp; omega
    · split <;> simp
def putAllI (l m : List Int) : List Int := m.foldl putI l
theorem putAllI_spec : ∀ (m l : List Int), l.Pairwise (· < ·) → (putAllI l m).Pairwise (· < ·) ∧ ∀ x, x ∈ putAllI l m ↔ x ∈ l ∨ x ∈ m
  | [], l, h => ⟨h, fun x => by simp [putAllI]⟩
  | n :: m, l, h => by
    obtain ⟨h1, h2⟩ := putAllI_spec m (putI l n) (putI_lt l n h)
    refine ⟨h1, fun x => (h2 x).trans ?_⟩
    rw [putI_mem, List.mem_cons]
    constructor
    · rintro ((h | h) | h) <;> simp [h]
    · rintro (h | h | h) <;> simp [h]
theorem putAllI_len : ∀ (m l : List Int), (putAllI l m).length ≤ l.length + m.length
  | [], l => by simp [putAllI]
  | n :: m, l => by
    have h1 := putAllI_len m (putI l n)
    have h2 := putI_len l n
    simp only [putAllI, List.foldl_cons, List.length_cons] at h1 ⊢
    omega
theorem putAllI_app (l m m2 : List Int) : putAllI l (m ++ m2) = putAllI (putAllI l m) m2 := by simp [putAllI]
theorem canI_put {l m : List Int} (h : ∀ x, x ∈ l ↔ x ∈ m) : canI l = putAllI [] m := by
  obtain ⟨h1, h2⟩ := canI_spec l
  obtain ⟨h3, h4⟩ := putAllI_spec m [] List.Pairwise.nil
  exact lt_ext h1 h3 fun x => by rw [h2, h4]; simp [h]
end Go.Dp
namespace Go.Proofs.Ytclkgblckicabaa
open Go.Dp

theorem encZ_lookup {l : List Int} {i : Nat} (h : i < l.length) : lookP (encZ l) (i : Int) = some (.int .i64 l[i]) := by rw [lookP_nat, encZ_get, List.getElem?_eq_getElem h]; rfl
theorem intsOf_enc : ∀ l : List Int, intsOf (encZ l) = some l
  | [] => rfl
  | x :: l => by
    have := intsOf_enc l
    simp only [encZ, List.map_cons] at this ⊢
    simp only [intsOf, this]
    rfl
theorem sort_view (o : List Int) : ((((sortI o).map (PV.int .i64)) ++ ((encZ o).drop o.length)).take o.length) = encZ (sortI o) := by
  have hl : (sortI o).length = o.length := by simp [sortI]
  have : (encZ o).drop o.length = [] := List.drop_eq_nil_of_le (by simp)
  rw [this, List.append_nil, List.take_of_length_le (by simp [hl])]
  rfl
theorem comp_view (z : List Int) (r tl : List PV) : (((((compI z).map (PV.int .i64)) ++ r) ++ tl).take ((compI z).length)) = encZ (compI z) := by
  rw [List.append_assoc, List.take_append_of_le_length (by simp), List.take_of_length_le (by simp)]
  rfl
/-! ### Variables of a term -/
def vlist : List Nd → List Int
  | [] => []
  | x :: t => (if x.1 = 2 then [IntKind.i64.wrap (wi x.2)] else []) ++ vlist t
theorem vlist_len : ∀ t : List Nd, (vlist t).length ≤ t.length
  | [] => by simp [vlist]
  | x :: t => by
    have := vlist_len t
    unfold vlist
    split <;> simp <;> omega
end Go.Proofs.Ytclkgblckicabaa
/- Terms as trees. -/
set_option linter.unusedVariables false
set_option linter.unusedSimpArgs false
set_option maxRecDepth 4000
namespace Go.Proofs.Ytclkgblckicabaa
open Go.Dp

inductive Tr where
  | leaf (x : Nd)
  | un (x : Nd) (a : Tr)
  | bin (x : Nd) (a b : Tr)
def Tr.root : Tr → Nd
  | .leaf x => x
  | .un x _ => x
  | .bin x _ _ => x
def Tr.flat : Tr → List Nd
  | .leaf x => [x]
  | .un x a => a.flat ++ [x]
  | .bin x a b => a.flat ++ b.flat ++ [x]
def Tr.kind (T : Tr) : Int := (need T.root.1).2.2
def Tr.ok (wide vars : Int) : Tr → Prop
  | .leaf x => (need x.1).1 = 0 ∧ (need x.1).2.2 ≠ 0 ∧ leafOK wide vars x = true
  | .un x a => (need x.1).1 = 1 ∧ (need x.1).2.2 ≠ 0 ∧ leafOK wide vars x = true ∧ a.kind = (need x.1).2.1 ∧ a.ok wide vars
  | .bin x a b => (need x.1).1 = 2 ∧ (need x.1).2.2 ≠ 0 ∧ leafOK wide vars x = true ∧ a.kind = (need x.1).2.1 ∧ b.kind = (need x.1).2.1 ∧ a.ok wide vars ∧ b.ok wide vars
theorem Tr.flat_pos : ∀ T : Tr, 1 ≤ T.flat.length
  | .leaf x => by simp [Tr.flat]
  | .un x a => by simp [Tr.flat]
  | .bin x a b => by (simp [Tr.flat]; try omega)
theorem Tr.flat_last : ∀ T : Tr, ∃ r, T.flat = r ++ [T.root]
  | .leaf x => ⟨[], rfl⟩
  | .un x a => ⟨a.flat, rfl⟩
  | .bin x a b => ⟨a.flat ++ b.flat, rfl⟩
def flats : List Tr → List Nd
  | [] => []
  | T :: l => flats l ++ T.flat
theorem parse {wide vars : Int} : ∀ (t : List Nd) (l : List Tr) (ks' : List Int), kst wide vars t (l.map Tr.kind) = some ks' → (∀ T ∈ l, T.ok wide vars) → ∃ l', flats l' = flats l ++ t ∧ l'.map Tr.kind = ks' ∧ ∀ T ∈ l', T.ok wide vars
  | [], l, ks', h, hl => ⟨l, by simp, by simp only [kst] at h; injection h, hl⟩
  | x :: t, l, ks', h, hl => by
    simp only [kst] at h
    split at h
    · cases h
    · rename_i h0
      split at h
      · cases h
      · rename_i h1
        split at h
        · cases h
        · rename_i h2
          split at h
          · cases h
          · rename_i h3
            have hlf : leafOK wide vars x = true := by simpa using h1
            rcases need_cases h0 with ⟨c1, hn⟩ | ⟨c1, hn⟩ | ⟨c1, hn⟩ | ⟨_, _, _, _, _, hn⟩
            · rw [hn, List.drop_zero] at h
              obtain ⟨l', g1, g2, g3⟩ := parse t (.leaf x :: l) ks' h (fun T hT => by
                rcases List.mem_cons.1 hT with rfl | hT
                · exact ⟨hn, h0, hlf⟩
                · exact hl T hT)
              exact ⟨l', by rw [g1]; simp [flats, Tr.flat], g2, g3⟩
            · rw [hn, List.drop_zero] at h
              obtain ⟨l', g1, g2, g3⟩ := parse t (.leaf x :: l) ks' h (fun T hT => by
                rcases List.mem_cons.1 hT with rfl | hT
                · exact ⟨hn, h0, hlf⟩
                · exact hl T hT)
              exact ⟨l', by rw [g1]; simp [flats, Tr.flat], g2, g3⟩
            · rw [hn] at h h2 h3
              cases l with
              | nil => simp at h2
              | cons a l =>
                have ha : a.kind = (need x.1).2.1 := by simpa using h3
                obtain ⟨l', g1, g2, g3⟩ := parse t (.un x a :: l) ks' h (fun T hT => by
                  rcases List.mem_cons.1 hT with rfl | hT
                  · exact ⟨hn, h0, hlf, ha, hl a (by simp)⟩
                  · exact hl T (by simp [hT]))
                exact ⟨l', by rw [g1]; simp [flats, Tr.flat], g2, g3⟩
            · rw [hn] at h h2 h3
              cases l with
              | nil => simp at h2
              | cons b l =>
                cases l with
                | nil => simp at h2
                | cons a l =>
                  have hab : b.kind = (need x.1).2.1 ∧ a.kind = (need x.1).2.1 := by simpa using h3
                  obtain ⟨l', g1, g2, g3⟩ := parse t (.bin x a b :: l) ks' h (fun T hT => by
                    rcases List.mem_cons.1 hT with rfl | hT
                    · exact ⟨hn, h0, hlf, hab.2, hab.1, hl a (by simp), hl b (by simp)⟩
                    · exact hl T (by simp [hT]))
                  exact ⟨l', by rw [g1]; simp [flats, Tr.flat], g2, g3⟩
theorem good_tree {wide vars : Int} {t : List Nd} (h : goodT wide vars t = true) : ∃ T : Tr, T.flat = t ∧ T.ok wide vars ∧ T.kind = kindT wide vars t := by
  obtain ⟨hk, _⟩ := good_kst h
  obtain ⟨l, h1, h2, h3⟩ := parse t [] _ hk (by simp)
  cases l with
  | nil => simp at h2
  | cons T l =>
    cases l with
    | nil =>
      simp at h2
      exact ⟨T, by simpa [flats] using h1, h3 T (by simp), h2⟩
    | cons T2 l => simp at h2
theorem Tr.run_kinds {wide vars : Int} : ∀ (T : Tr), T.ok wide vars → ∀ ks, kst wide vars T.flat ks = some (T.kind :: ks)
  | .leaf x, h, ks => by
    obtain ⟨h1, h2, h3⟩ := h
    simp only [Tr.flat, kst]
    rw [if_neg h2, if_neg (by simp [h3]), if_neg (by omega), h1]
    simp [Tr.kind, Tr.root]
  | .un x a, h, ks => by
    obtain ⟨h1, h2, h3, h4, h5⟩ := h
    simp only [Tr.flat, kst_app, Tr.run_kinds a h5 ks, Option.bind_some, kst]
    rw [if_neg h2, if_neg (by simp [h3]), if_neg (by simp; omega), h1]
    simp [Tr.kind, Tr.root] at h4 ⊢
    simp [h4]
  | .bin x a b, h, ks => by
    obtain ⟨h1, h2, h3, h4, h5, h6, h7⟩ := h
    simp only [Tr.flat, kst_app, Tr.run_kinds a h6 ks, Option.bind_some, Tr.run_kinds b h7, kst]
    rw [if_neg h2, if_neg (by simp [h3]), if_neg (by simp; omega), h1]
    simp [Tr.kind, Tr.root] at h4 h5 ⊢
    simp [h4, h5]
theorem tree_good {wide vars : Int} {T : Tr} (h : T.ok wide vars) (hw : isW wide = true) (hv : isV vars = true) (hl : T.flat.length ≤ 48) : goodT wide vars T.flat = true ∧ kindT wide vars T.flat = T.kind := by
  have hk := T.run_kinds h []
  have hs : sizeT wide vars T.flat = true := by simp [sizeT, hw, hv, T.flat_pos, hl]
  refine ⟨?_, ?_⟩
  · simp [goodT, hs, hk, fin1]
  · simp [kindT, hs, hk, kind1]
/-! ### Values -/
def Tr.val (wide : Int) (s : List W) : Tr → W
  | .leaf x => if x.1 = 2 then (s[x.2.toNat]?).getD 0#64 else x.2
  | .un x a => if x.1 = 13 then (~~~(a.val wide s) &&& mk wide) else 1#64 - a.val wide s
  | .bin x a b => apW wide x.1 (a.val wide s) (b.val wide s)
def Tr.inS (s : List W) : Tr → Prop
  | .leaf x => x.1 = 2 → x.2.toNat < s.length
  | .un _ a => a.inS s
  | .bin _ a b => a.inS s ∧ b.inS s
theorem need_leaf {op : Int} (h0 : (need op).2.2 ≠ 0) (h : (need op).1 = 0) : op = 1 ∨ op = 20 ∨ op = 2 := by
  rcases need_cases h0 with ⟨c, _⟩ | ⟨c, _⟩ | ⟨_, c⟩ | ⟨_, _, _, _, _, c⟩
  · rcases c with c | c <;> simp [c]
  · simp [c]
  · omega
  · omega
theorem need_un {op : Int} (h0 : (need op).2.2 ≠ 0) (h : (need op).1 = 1) : op = 13 ∨ op = 19 := by
  rcases need_cases h0 with ⟨_, c⟩ | ⟨_, c⟩ | ⟨c, _⟩ | ⟨_, _, _, _, _, c⟩
  · omega
  · omega
  · exact c
  · omega
theorem need_bin {op : Int} (h0 : (need op).2.2 ≠ 0) (h : (need op).1 = 2) : op ≠ 1 ∧ op ≠ 20 ∧ op ≠ 2 ∧ op ≠ 13 ∧ op ≠ 19 := by
  rcases need_cases h0 with ⟨_, c⟩ | ⟨_, c⟩ | ⟨_, c⟩ | ⟨c1, c2, c3, c4, c5, _⟩
  · omega
  · omega
  · omega
  · exact ⟨c1, c2, c3, c4, c5⟩
theorem Tr.run_val {wide vars : Int} (s : List W) : ∀ (T : Tr), T.ok wide vars → T.inS s → ∀ vs, vrun wide s T.flat vs = some (T.val wide s :: vs)
  | .leaf x, h, hi, vs => by
    obtain ⟨h1, h2, h3⟩ := h
    simp only [Tr.flat, vrun, Tr.val]
    rcases need_leaf h2 h1 with c | c | c
    · rw [if_pos (.inl c), if_neg (by omega)]
    · rw [if_pos (.inr c), if_neg (by omega)]
    · have := hi c
      rw [if_neg (by omega), if_pos c, if_pos c, List.getElem?_eq_getElem this]
      rfl
  | .un x a, h, hi, vs => by
    obtain ⟨h1, h2, h3, h4, h5⟩ := h
    simp only [Tr.flat, vrun_app, Tr.run_val s a h5 hi vs, Option.bind_some, vrun, Tr.val]
    rcases need_un h2 h1 with c | c
    · rw [if_neg (by omega), if_neg (by omega), if_pos c, if_pos c]
    · rw [if_neg (by omega), if_neg (by omega), if_neg (by omega), if_pos c, if_neg (by omega)]
  | .bin x a b, h, hi, vs => by
    obtain ⟨h1, h2, h3, h4, h5, h6, h7⟩ := h
    obtain ⟨c1, c2, c3, c4, c5⟩ := need_bin h2 h1
    simp only [Tr.flat, vrun_app, Tr.run_val s a h6 hi.1 vs, Option.bind_some, Tr.run_val s b h7 hi.2, vrun, Tr.val]
    rw [if_neg (by omega), if_neg c3, if_neg c4, if_neg c5]
theorem Tr.val_ok {wide vars : Int} (hw : isW wide = true) (hv : isV vars = true) {s : List W} (hg : ∀ a ∈ s, a ≤ mk wide) : ∀ (T : Tr), T.ok wide vars → okV wide T.kind (T.val wide s)
  | .leaf x, h => by
    obtain ⟨h1, h2, h3⟩ := h
    have hl := leaf_run hv h3
    rcases need_leaf h2 h1 with c | c | c
    · refine .inl ⟨by simp only [Tr.kind, Tr.root]; rw [c]; decide, ?_⟩
      simp only [Tr.val]
      rw [if_neg (by omega)]
      exact hl.1 c
    · refine .inr ⟨by simp only [Tr.kind, Tr.root]; rw [c]; decide, ?_⟩
      simp only [Tr.val]
      rw [if_neg (by omega)]
      exact hl.2.1 c
    · refine .inl ⟨by simp only [Tr.kind, Tr.root]; rw [c]; decide, ?_⟩
      simp only [Tr.val]
      rw [if_pos c]
      cases hq : s[x.2.toNat]? with
      | none => rw [Option.getD_none, BitVec.le_def]; exact Nat.zero_le _
      | some a => exact hg a (List.mem_of_getElem? hq)
  | .un x a, h => by
    obtain ⟨h1, h2, h3, h4, h5⟩ := h
    have ih := Tr.val_ok hw hv hg a h5
    rcases need_un h2 h1 with c | c
    · refine .inl ⟨by simp only [Tr.kind, Tr.root]; rw [c]; decide, ?_⟩
      simp only [Tr.val]
      rw [if_pos c]
      exact and_le_right' _ _
    · refine .inr ⟨by simp only [Tr.kind, Tr.root]; rw [c]; decide, ?_⟩
      simp only [Tr.val]
      rw [if_neg (by omega)]
      have hk : a.kind = 2 := by rw [h4, c]; decide
      rw [hk] at ih
      rcases le_one_cases (okV_two ih) with e | e <;> rw [e] <;> decide
  | .bin x a b, h => by
    obtain ⟨h1, h2, h3, h4, h5, h6, h7⟩ := h
    have ia := Tr.val_ok hw hv hg a h6
    have ib := Tr.val_ok hw hv hg b h7
    rw [h4] at ia
    rw [h5] at ib
    exact apW_ok hw h1 ia ib
end Go.Proofs.Ytclkgblckicabaa
/- Spans of numbers: what an operator makes of two. -/
set_option linter.unusedVariables false
set_option linter.unusedSimpArgs false
set_option maxRecDepth 8000
namespace Go.Proofs.Ytclkgblckicabaa
open Go.Dp

abbrev Spn := W × W
def encS (x : Spn) : PV := .agg [.int .u64 (wi x.1), .int .u64 (wi x.2)]
def encSp (l : List Spn) : List PV := l.map encS
@[simp] theorem encSp_length (l : List Spn) : (encSp l).length = l.length := by simp [encSp]
theorem encSp_get (l : List Spn) (i : Nat) : (encSp l)[i]? = (l[i]?).map encS := by simp [encSp]
theorem encSp_snoc (l : List Spn) (x : Spn) : encSp l ++ [encS x] = encSp (l ++ [x]) := by simp [encSp]
theorem encSp_take (l : List Spn) (i : Nat) : (encSp l).take i = encSp (l.take i) := by simp [encSp, List.map_take]
theorem encSp_set (l : List Spn) (i : Nat) (x : Spn) : (encSp l).set i (encS x) = encSp (l.set i x) := by simp [encSp, List.map_set]
@[simp] theorem encS_shp (x : Spn) : (encS x).shp 2 = true := rfl
@[simp] theorem encS_lo (x : Spn) : (encS x).atInt .u64 0 = some (wi x.1) := rfl
@[simp] theorem encS_hi (x : Spn) : (encS x).atInt .u64 1 = some (wi x.2) := rfl
theorem encS_mk (a b : W) : PV.agg [.int .u64 (wi a), .int .u64 (wi b)] = encS (a, b) := rfl
theorem lookSp {l : List Spn} {i : Nat} (h : i < l.length) : lookP (encSp l) (i : Int) = some (encS l[i]) := by rw [lookP_nat, encSp_get, List.getElem?_eq_getElem h]; rfl

def loW (a b : W) : W := if a < b then a else b
def hiW (a b : W) : W := if b < a then a else b
theorem loW_nat (a b : W) : (loW a b).toNat = min a.toNat b.toNat := by
  unfold loW
  split <;> rename_i h <;> rw [BitVec.lt_def] at h <;> omega
theorem hiW_nat (a b : W) : (hiW a b).toNat = max a.toNat b.toNat := by
  unfold hiW
  split <;> rename_i h <;> rw [BitVec.lt_def] at h <;> omega
theorem minI_wi (a b : W) : minI (wi a) (wi b) = wi (loW a b) := by
  unfold minI
  have h := loW_nat a b
  unfold wi
  rw [h]
  by_cases h1 : b.toNat < a.toNat
  · have : decide ((b.toNat : Int) < (a.toNat : Int)) = true := by simpa using h1
    rw [this]; simp only [cond_true]; omega
  · have : decide ((b.toNat : Int) < (a.toNat : Int)) = false := by simp; omega
    rw [this]; simp only [cond_false]; omega
theorem maxI_wi (a b : W) : maxI (wi a) (wi b) = wi (hiW a b) := by
  unfold maxI
  have h := hiW_nat a b
  unfold wi
  rw [h]
  by_cases h1 : b.toNat > a.toNat
  · have : decide ((b.toNat : Int) > (a.toNat : Int)) = true := by simpa using h1
    rw [this]; simp only [cond_true]; omega
  · have : decide ((b.toNat : Int) > (a.toNat : Int)) = false := by simp; omega
    rw [this]; simp only [cond_false]; omega
theorem least_ok {k : Nat} (hk : 1 ≤ k) (a b : W) : c36 k (wi a) (wi b) = r36 (wi (loW a b)) := by
  obtain ⟨k, rfl⟩ : ∃ j, k = j + 1 := ⟨k - 1, by omega⟩
  rw [n36]
  simp only [wi_lt_iff, loW]
  by_cases h : a < b <;> simp [h]
theorem most_ok {k : Nat} (hk : 1 ≤ k) (a b : W) : c35 k (wi a) (wi b) = r35 (wi (hiW a b)) := by
  obtain ⟨k, rfl⟩ : ∃ j, k = j + 1 := ⟨k - 1, by omega⟩
  rw [n35]
  simp only [gt_iff_lt, wi_lt_iff, hiW]
  by_cases h : b < a <;> simp [h]
def joinS (a b : Spn) : Spn := (loW a.1 b.1, hiW a.2 b.2)
theorem joinI_ok {k : Nat} (hk : 1 ≤ k) (a b : Spn) : c31 k (wi a.1) (wi a.2) (wi b.1) (wi b.2) = r31 (wi (joinS a b).1) (wi (joinS a b).2) := by
  obtain ⟨k, rfl⟩ : ∃ j, k = j + 1 := ⟨k - 1, by omega⟩
  rw [n31, minI_wi, maxI_wi]
  rfl
theorem joinSS_ok {k : Nat} (hk : 2 ≤ k) (a b : Spn) : c33 k (wi a.1) (wi a.2) (wi b.1) (wi b.2) = r33 (wi (joinS a b).1) (wi (joinS a b).2) := by
  obtain ⟨k, rfl⟩ : ∃ j, k = j + 1 := ⟨k - 1, by omega⟩
  rw [n33, least_ok (by omega)]
  simp only [R36_r]
  rw [most_ok (by omega)]
  simp only [R35_r]
  rfl
/-! ### Two numbers -/
def twoS (wide op : Int) (a b : Spn) : Spn :=
  if op = 3 then (if a.2.toNat + b.2.toNat ≤ (mk wide).toNat then (a.1 + b.1, a.2 + b.2) else (0#64, mk wide))
  else if op = 5 then (if a.2.toNat * b.2.toNat ≤ (mk wide).toNat then (a.1 * b.1, a.2 * b.2) else (0#64, mk wide))
  else if op = 4 then (if b.2 ≤ a.1 then (a.1 - b.2, a.2 - b.1) else (0#64, mk wide))
  else if op = 6 then (if 0#64 < b.1 then (a.1 / b.2, a.2 / b.1) else (0#64, mk wide))
  else if op = 7 then (if 0#64 < b.1 then (0#64, loW a.2 (b.2 - 1#64)) else (0#64, a.2))
  else if op = 12 then (0#64, a.2)
  else if op = 8 then (0#64, loW a.2 b.2)
  else if op = 9 then (hiW a.1 b.1, mk wide)
  else if op = 14 then (if a.2 < b.1 ∨ b.2 < a.1 then (0#64, 0#64) else if a.1 = a.2 ∧ a = b then (1#64, 1#64) else (0#64, 1#64))
  else if op = 15 then (if a.2 < b.1 then (1#64, 1#64) else if b.2 ≤ a.1 then (0#64, 0#64) else (0#64, 1#64))
  else if op = 16 then (0#64, 1#64)
  else if op = 17 then (loW a.1 b.1, loW a.2 b.2)
  else if op = 18 then (hiW a.1 b.1, hiW a.2 b.2)
  else (0#64, mk wide)
structure GdS (wide : Int) (x : Spn) : Prop where
  le : x.1.toNat ≤ x.2.toNat
  top : x.2.toNat ≤ (mk wide).toNat
theorem lo32 (a : W) : (a &&& 4294967295#64).toNat = a.toNat % 4294967296 := by
  rw [BitVec.toNat_and]
  exact Nat.and_two_pow_sub_one_eq_mod a.toNat 32
theorem hi32 (a : W) : (a >>> (32 : Int).toNat).toNat = a.toNat / 4294967296 := by
  rw [BitVec.toNat_ushiftRight, Nat.shiftRight_eq_div_pow]
  rfl
theorem mul64_ok {k : Nat} (hk : 1 ≤ k) (a b : W) : ∃ h : W, c81 k (wi a) (wi b) = r81 (wi h) (wi (a * b)) ∧ h.toNat = a.toNat * b.toNat / 18446744073709551616 := by
  obtain ⟨k, rfl⟩ : ∃ j, k = j + 1 := ⟨k - 1, by omega⟩
  rw [n81]
  have e : (4294967295 : Int) = wi 4294967295#64 := rfl
  have hs : ∀ x : W, shrI .u64 (wi x) 32 = wi (x >>> (32 : Int).toNat) := fun x => shr_wi x (by omega)
  rw [e]
  simp only [hs, and_wi, mul_wi, add_wi]
  refine ⟨_, rfl, ?_⟩
  simp only [BitVec.toNat_add, BitVec.toNat_mul, lo32, hi32]
  have ha := a.isLt
  have hb := b.isLt
  generalize a.toNat = x at *
  generalize b.toNat = y at *
  have hx : x = x / 4294967296 * 4294967296 + x % 4294967296 := by omega
  have hy : y = y / 4294967296 * 4294967296 + y % 4294967296 := by omega
  have b1 : x / 4294967296 ≤ 4294967295 := by omega
  have b2 : x % 4294967296 ≤ 4294967295 := by omega
  have b3 : y / 4294967296 ≤ 4294967295 := by omega
  have b4 : y % 4294967296 ≤ 4294967295 := by omega
  have e1 : x * y = x / 4294967296 * (y / 4294967296) * 18446744073709551616 + (x / 4294967296 * (y % 4294967296) + x % 4294967296 * (y / 4294967296)) * 4294967296 + x % 4294967296 * (y % 4294967296) := by
    generalize x / 4294967296 = p at *
    generalize x % 4294967296 = q at *
    generalize y / 4294967296 = u at *
    generalize y % 4294967296 = v at *
    subst hx hy
    simp only [Nat.add_mul, Nat.mul_add]
    have t1 : p * 4294967296 * (u * 4294967296) = p * u * 18446744073709551616 := by rw [Nat.mul_mul_mul_comm]
    have t2 : p * 4294967296 * v = p * v * 4294967296 := by rw [Nat.mul_right_comm]
    have t3 : q * (u * 4294967296) = q * u * 4294967296 := by rw [Nat.mul_assoc]
    rw [t1, t2, t3]
    omega
  rw [e1]
  have m1 := Nat.mul_le_mul b1 b3
  have m2 := Nat.mul_le_mul b1 b4
  have m3 := Nat.mul_le_mul b2 b3
  have m4 := Nat.mul_le_mul b2 b4
  generalize x / 4294967296 * (y / 4294967296) = A at *
  generalize x / 4294967296 * (y % 4294967296) = B at *
  generalize x % 4294967296 * (y / 4294967296) = C at *
  generalize x % 4294967296 * (y % 4294967296) = D at *
  clear e1 hx hy
  omega
theorem sum_ok {k : Nat} (hk : 1 ≤ k) {wide : Int} (hw : isW wide = true) (a b : Spn) : c67 k 0 (wi (mk wide)) (wi a.1) (wi a.2) (wi b.1) (wi b.2) = r67 (wi (twoS wide 3 a b).1) (wi (twoS wide 3 a b).2) := by
  obtain ⟨k, rfl⟩ : ∃ j, k = j + 1 := ⟨k - 1, by omega⟩
  rw [n67]
  have h1 : decide ((0 : Int) ≤ wi a.2) = true := by simpa using wi_nonneg _
  have h2 : decide ((0 : Int) ≤ wi b.2) = true := by simpa using wi_nonneg _
  have e0 : twoS wide 3 a b = (if a.2.toNat + b.2.toNat ≤ (mk wide).toNat then (a.1 + b.1, a.2 + b.2) else (0#64, mk wide)) := rfl
  have hm := (mk wide).isLt
  have z : (0 : Int) = wi 0#64 := rfl
  rw [h1, h2, e0]
  simp only [Bool.and_self, cond_true, add_wi]
  by_cases h : a.2.toNat + b.2.toNat ≤ (mk wide).toNat
  · have e1 : ((wi a.2 + wi b.2 + 0) / 18446744073709551616 == 0) = true := by unfold wi; simp; omega
    have e2 : (wi a.2 + wi b.2 + 0) % 18446744073709551616 = wi (a.2 + b.2) := by unfold wi; rw [BitVec.toNat_add]; omega
    have e3 : decide (wi (a.2 + b.2) ≤ wi (mk wide)) = true := by rw [← e2]; unfold wi; simp; omega
    rw [e1, e2, e3, if_pos h]
    rfl
  · rw [if_neg h]
    by_cases h3 : a.2.toNat + b.2.toNat < 18446744073709551616
    · have e1 : ((wi a.2 + wi b.2 + 0) / 18446744073709551616 == 0) = true := by unfold wi; simp; omega
      have e2 : decide ((wi a.2 + wi b.2 + 0) % 18446744073709551616 ≤ wi (mk wide)) = false := by unfold wi; simp; omega
      rw [e1, e2]
      rfl
    · have e1 : ((wi a.2 + wi b.2 + 0) / 18446744073709551616 == 0) = false := by unfold wi; simp; omega
      rw [e1]
      rfl
theorem mul_nat {a b : W} (h : a.toNat * b.toNat < 18446744073709551616) : (a * b).toNat = a.toNat * b.toNat := by
  rw [BitVec.toNat_mul]
  exact Nat.mod_eq_of_lt h
theorem product_ok {k : Nat} (hk : 2 ≤ k) {wide : Int} (hw : isW wide = true) (a b : Spn) : c68 k 0 (wi (mk wide)) (wi a.1) (wi a.2) (wi b.1) (wi b.2) = r68 (wi (twoS wide 5 a b).1) (wi (twoS wide 5 a b).2) := by
  obtain ⟨k, rfl⟩ : ∃ j, k = j + 1 := ⟨k - 1, by omega⟩
  obtain ⟨h, hh, hv⟩ := mul64_ok (k := k) (by omega) a.2 b.2
  have e0 : twoS wide 5 a b = (if a.2.toNat * b.2.toNat ≤ (mk wide).toNat then (a.1 * b.1, a.2 * b.2) else (0#64, mk wide)) := rfl
  have hm := (mk wide).isLt
  rw [n68, hh, e0]
  simp only [R81_r, mul_wi]
  by_cases hl : a.2.toNat * b.2.toNat < 18446744073709551616
  · have e1 : (wi h == 0) = true := by unfold wi; rw [hv, Nat.div_eq_of_lt hl]; rfl
    have e2 : decide (wi (a.2 * b.2) ≤ wi (mk wide)) = decide (a.2.toNat * b.2.toNat ≤ (mk wide).toNat) := by unfold wi; rw [mul_nat hl, Bool.eq_iff_iff]; simp only [decide_eq_true_eq]; exact Int.ofNat_le
    rw [e1, e2]
    by_cases h3 : a.2.toNat * b.2.toNat ≤ (mk wide).toNat
    · rw [if_pos h3]; simp only [h3, decide_true, cond_true]
    · rw [if_neg h3]; simp only [h3, decide_false, cond_true, cond_false]; rfl
  · have e1 : (wi h == 0) = false := by
      have : 1 ≤ a.2.toNat * b.2.toNat / 18446744073709551616 := (Nat.le_div_iff_mul_le (by omega)).2 (by omega)
      unfold wi; rw [hv]; simp; omega
    have h3 : ¬ a.2.toNat * b.2.toNat ≤ (mk wide).toNat := by omega
    rw [e1, if_neg h3]
    rfl
theorem div_wi (a b : W) : IntKind.u64.wrap ((wi a).tdiv (wi b)) = wi (a / b) := by
  have e : (wi a).tdiv (wi b) = wi (a / b) := by
    unfold wi
    rw [BitVec.toNat_udiv]
    exact Int.ofNat_tdiv _ _ |>.symm
  rw [e, wrap_wi]
def opB (op : Int) : Prop := (3 ≤ op ∧ op ≤ 12) ∨ (14 ≤ op ∧ op ≤ 18)
theorem z_wi : (0 : Int) = wi 0#64 := rfl
theorem o_wi : (1 : Int) = wi 1#64 := rfl
theorem eq_span (a b : Spn) : ((wi a.1 == wi b.1) && ((wi a.2 == wi b.2) && true)) = decide (a = b) := by
  obtain ⟨a1, a2⟩ := a
  obtain ⟨b1, b2⟩ := b
  rw [wi_beq, wi_beq, Bool.eq_iff_iff]
  simp
theorem spanTwo_ok {k : Nat} (hk : 5 ≤ k) {wide : Int} (hw : isW wide = true) {op : Int} (ho : opB op) {a b : Spn} (ha : GdS wide a) (hb : GdS wide b) : c51 k op 0 (wi (mk wide)) (wi a.1) (wi a.2) (wi b.1) (wi b.2) = r51 (wi (twoS wide op a b).1) (wi (twoS wide op a b).2) := by
  obtain ⟨k, rfl⟩ : ∃ j, k = j + 1 := ⟨k - 1, by omega⟩
  have h1 := ha.le
  have h2 := ha.top
  have h3 := hb.le
  have h4 := hb.top
  have hm := (mk wide).isLt
  have hop : op = 3 ∨ op = 4 ∨ op = 5 ∨ op = 6 ∨ op = 7 ∨ op = 8 ∨ op = 9 ∨ op = 10 ∨ op = 11 ∨ op = 12 ∨ op = 14 ∨ op = 15 ∨ op = 16 ∨ op = 17 ∨ op = 18 := by unfold opB at ho; omega
  rw [n51]
  rcases hop with rfl | rfl | rfl | rfl | rfl | rfl | rfl | rfl | rfl | rfl | rfl | rfl | rfl | rfl | rfl
  · show R67 _ _ = _
    rw [sum_ok (by omega) hw]
    simp only [R67_r]
  · show (bif decide (wi a.1 ≥ wi b.2) then r51 (IntKind.u64.wrap (wi a.1 - wi b.2)) (IntKind.u64.wrap (wi a.2 - wi b.1)) else r51 0 (wi (mk wide))) = _
    have e0 : twoS wide 4 a b = (if b.2 ≤ a.1 then (a.1 - b.2, a.2 - b.1) else (0#64, mk wide)) := rfl
    rw [e0, sub_wi, sub_wi]
    simp only [ge_iff_le, wi_le_iff]
    by_cases h : b.2 ≤ a.1 <;> simp [h] <;> rfl
  · show R68 _ _ = _
    rw [product_ok (by omega) hw]
    simp only [R68_r]
  · show (bif decide (wi b.1 > 0) then (bif !(wi b.2 == 0) then (bif !(wi b.1 == 0) then r51 (IntKind.u64.wrap ((wi a.1).tdiv (wi b.2))) (IntKind.u64.wrap ((wi a.2).tdiv (wi b.1))) else none) else none) else r51 0 (wi (mk wide))) = _
    have e0 : twoS wide 6 a b = (if 0#64 < b.1 then (a.1 / b.2, a.2 / b.1) else (0#64, mk wide)) := rfl
    rw [e0, div_wi, div_wi]
    by_cases h : 0#64 < b.1
    · have h' := h
      rw [BitVec.lt_def] at h'
      have hz : (0#64 : W).toNat = 0 := rfl
      have e1 : decide (wi b.1 > 0) = true := by unfold wi; simp; omega
      have e2 : (wi b.2 == 0) = false := by unfold wi; simp; omega
      have e3 : (wi b.1 == 0) = false := by unfold wi; simp; omega
      rw [e1, e2, e3, if_pos h]
      rfl
    · have e1 : decide (wi b.1 > 0) = false := by rw [z_wi]; simpa [wi_lt_iff] using h
      rw [e1, if_neg h]
      rfl
  · show (bif decide (wi b.1 > 0) then (bif decide (IntKind.u64.wrap (wi b.2 - 1) < wi a.2) then r51 0 (IntKind.u64.wrap (wi b.2 - 1)) else r51 0 (wi a.2)) else r51 0 (wi a.2)) = _
    have e0 : twoS wide 7 a b = (if 0#64 < b.1 then (0#64, loW a.2 (b.2 - 1#64)) else (0#64, a.2)) := rfl
    rw [e0, o_wi, sub_wi]
    simp only [wi_lt_iff]
    by_cases h : 0#64 < b.1
    · have e1 : decide (wi b.1 > 0) = true := by rw [z_wi]; simpa [wi_lt_iff] using h
      have e2 : wi (loW a.2 (b.2 - 1#64)) = wi (if b.2 - 1#64 < a.2 then b.2 - 1#64 else a.2) := by
        rw [wi_inj]
        apply BitVec.eq_of_toNat_eq
        rw [loW_nat]
        split <;> rename_i h5 <;> rw [BitVec.lt_def] at h5 <;> omega
      rw [e1, if_pos h]
      simp only [cond_true, e2]
      by_cases h5 : b.2 - 1#64 < a.2 <;> simp [h5] <;> rfl
    · have e1 : decide (wi b.1 > 0) = false := by rw [z_wi]; simpa [wi_lt_iff] using h
      rw [e1, if_neg h]
      rfl
  · show r51 0 (minI (wi a.2) (wi b.2)) = _
    rw [minI_wi]
    rfl
  · show r51 (maxI (wi a.1) (wi b.1)) (wi (mk wide)) = _
    rw [maxI_wi]
    rfl
  · rfl
  · rfl
  · rfl
  · show (R34 (c34 k (wi a.1) (wi a.2) (wi b.1) (wi b.2)) fun v5 v6 b2 => bif ((wi a.1 == wi b.1) && ((wi a.2 == wi b.2) && true)) then R69 (c69 k (wi a.1 == wi a.2) (!b2)) fun v7 v8 => r51 v7 v8 else R69 (c69 k false (!b2)) fun v9 v10 => r51 v9 v10) = _
    obtain ⟨k, rfl⟩ : ∃ j, k = j + 1 := ⟨k - 1, by omega⟩
    have e0 : twoS wide 14 a b = (if a.2 < b.1 ∨ b.2 < a.1 then (0#64, 0#64) else if a.1 = a.2 ∧ a = b then (1#64, 1#64) else (0#64, 1#64)) := rfl
    rw [e0, eq_span, n34, maxI_wi, minI_wi]
    by_cases h : a.2 < b.1 ∨ b.2 < a.1
    · have e1 : decide (wi (hiW a.1 b.1) > wi (loW a.2 b.2)) = true := by
        unfold wi; rw [hiW_nat, loW_nat]
        simp only [BitVec.lt_def] at h
        simp; omega
      have e2 : decide (a = b) = false := by
        simp only [decide_eq_false_iff_not]
        rintro rfl
        simp only [BitVec.lt_def] at h
        omega
      rw [e1, if_pos h]
      simp only [cond_true, R34_r, e2, cond_false, n69, Bool.not_false, R69_r]
      rfl
    · have e1 : decide (wi (hiW a.1 b.1) > wi (loW a.2 b.2)) = false := by
        unfold wi; rw [hiW_nat, loW_nat]
        simp only [BitVec.lt_def, not_or] at h
        simp; omega
      rw [e1, if_neg h]
      simp only [cond_false, R34_r, Bool.not_true, wi_beq, n69]
      by_cases h5 : a = b
      · have e3 : decide (a = b) = true := by simpa using h5
        rw [e3]
        by_cases h6 : a.1 = a.2
        · have e4 : (a.1 == a.2) = true := by simpa using h6
          rw [e4, if_pos ⟨h6, h5⟩]
          simp only [cond_true, R69_r]
          rfl
        · have e4 : (a.1 == a.2) = false := by simpa using h6
          rw [e4, if_neg (fun h => h6 h.1)]
          simp only [cond_true, cond_false, R69_r]
          rfl
      · have e3 : decide (a = b) = false := by simpa using h5
        rw [e3, if_neg (fun h => h5 h.2)]
        simp only [cond_false, R69_r]
        rfl
  · show (R69 (c69 k (decide (wi a.2 < wi b.1)) (decide (wi a.1 ≥ wi b.2))) fun v7 v8 => r51 v7 v8) = _
    obtain ⟨k, rfl⟩ : ∃ j, k = j + 1 := ⟨k - 1, by omega⟩
    have e0 : twoS wide 15 a b = (if a.2 < b.1 then (1#64, 1#64) else if b.2 ≤ a.1 then (0#64, 0#64) else (0#64, 1#64)) := rfl
    rw [e0, n69]
    simp only [ge_iff_le, wi_le_iff, wi_lt_iff]
    by_cases h : a.2 < b.1
    · simp only [h, decide_true, cond_true, if_true, R69_r]; rfl
    · by_cases h5 : b.2 ≤ a.1
      · simp only [h, h5, decide_true, decide_false, cond_true, cond_false, if_true, if_false, R69_r]; rfl
      · simp only [h, h5, decide_true, decide_false, cond_true, cond_false, if_true, if_false, R69_r]; rfl
  · rfl
  · show r51 (minI (wi a.1) (wi b.1)) (minI (wi a.2) (wi b.2)) = _
    rw [minI_wi, minI_wi]
    rfl
  · show r51 (maxI (wi a.1) (wi b.1)) (maxI (wi a.2) (wi b.2)) = _
    rw [maxI_wi, maxI_wi]
    rfl
theorem cutAll_ok {k : Nat} (hk : 70 ≤ k) {wide : Int} (hw : isW wide = true) : c55 k wide 18446744073709551615 = r55 (wi (mk wide)) := by
  have := cutM_ok hk hw 18446744073709551615#64
  have e : (18446744073709551615#64 &&& mk wide) = mk wide := by
    rw [BitVec.and_comm]
    exact BitVec.and_allOnes
  rw [e] at this
  exact this
theorem fits_ok {k : Nat} (hk : 80 ≤ k) {wide : Int} (hw : isW wide = true) (a b : W) : c72 k wide (wi a) (wi b) = r72 (decide (a.toNat * b.toNat ≤ (mk wide).toNat)) := by
  obtain ⟨k, rfl⟩ : ∃ j, k = j + 1 := ⟨k - 1, by omega⟩
  rw [n72, cutAll_ok (by omega) hw]
  by_cases h : b.toNat = 0
  · have e1 : (wi b == 0) = true := by unfold wi; simp [h]
    rw [e1, h]
    simp
  · have e1 : (wi b == 0) = false := by unfold wi; simp [h]
    rw [e1]
    simp only [cond_false, R55_r, Bool.not_false, cond_true, div_wi, wi_le_iff, BitVec.le_def, BitVec.toNat_udiv]
    simp only [Nat.le_div_iff_mul_le (show 0 < b.toNat by omega)]
theorem num_ok {k : Nat} (hk : 90 ≤ k) {wide : Int} (hw : isW wide = true) {op : Int} (ho : 3 ≤ op ∧ op ≤ 12) {a b : Spn} (ha : GdS wide a) (hb : GdS wide b) : c57 k wide op (wi a.1) (wi a.2) (wi b.1) (wi b.2) = r57 (wi (twoS wide op a b).1) (wi (twoS wide op a b).2) := by
  obtain ⟨k, rfl⟩ : ∃ j, k = j + 1 := ⟨k - 1, by omega⟩
  have h1 := ha.le
  have h2 := ha.top
  have h3 := hb.le
  have h4 := hb.top
  have hm := (mk wide).isLt
  have hop : op = 3 ∨ op = 4 ∨ op = 5 ∨ op = 6 ∨ op = 7 ∨ op = 8 ∨ op = 9 ∨ op = 10 ∨ op = 11 ∨ op = 12 := by omega
  rw [n57, cutAll_ok (by omega) hw]
  simp only [R55_r]
  rcases hop with rfl | rfl | rfl | rfl | rfl | rfl | rfl | rfl | rfl | rfl
  · show (bif decide (wi a.2 ≤ IntKind.u64.wrap (wi (mk wide) - wi b.2)) then r57 (IntKind.u64.wrap (wi a.1 + wi b.1)) (IntKind.u64.wrap (wi a.2 + wi b.2)) else r57 0 (wi (mk wide))) = _
    have e0 : twoS wide 3 a b = (if a.2.toNat + b.2.toNat ≤ (mk wide).toNat then (a.1 + b.1, a.2 + b.2) else (0#64, mk wide)) := rfl
    have e1 : decide (wi a.2 ≤ wi (mk wide - b.2)) = decide (a.2.toNat + b.2.toNat ≤ (mk wide).toNat) := by
      unfold wi
      rw [BitVec.toNat_sub_of_le (by rw [BitVec.le_def]; exact h4), Bool.eq_iff_iff]
      simp; omega
    rw [e0, sub_wi, add_wi, add_wi, e1]
    by_cases h : a.2.toNat + b.2.toNat ≤ (mk wide).toNat <;> simp [h] <;> rfl
  · show (bif decide (wi a.1 ≥ wi b.2) then r57 (IntKind.u64.wrap (wi a.1 - wi b.2)) (IntKind.u64.wrap (wi a.2 - wi b.1)) else r57 0 (wi (mk wide))) = _
    have e0 : twoS wide 4 a b = (if b.2 ≤ a.1 then (a.1 - b.2, a.2 - b.1) else (0#64, mk wide)) := rfl
    rw [e0, sub_wi, sub_wi]
    simp only [ge_iff_le, wi_le_iff]
    by_cases h : b.2 ≤ a.1 <;> simp [h] <;> rfl
  · show (R72 (c72 k wide (wi a.2) (wi b.2)) fun b3 => bif b3 then r57 (IntKind.u64.wrap (wi a.1 * wi b.1)) (IntKind.u64.wrap (wi a.2 * wi b.2)) else r57 0 (wi (mk wide))) = _
    have e0 : twoS wide 5 a b = (if a.2.toNat * b.2.toNat ≤ (mk wide).toNat then (a.1 * b.1, a.2 * b.2) else (0#64, mk wide)) := rfl
    rw [e0, mul_wi, mul_wi, fits_ok (by omega) hw]
    simp only [R72_r]
    by_cases h : a.2.toNat * b.2.toNat ≤ (mk wide).toNat <;> simp [h] <;> rfl
  · show (bif decide (wi b.1 > 0) then (bif !(wi b.2 == 0) then (bif !(wi b.1 == 0) then r57 (IntKind.u64.wrap ((wi a.1).tdiv (wi b.2))) (IntKind.u64.wrap ((wi a.2).tdiv (wi b.1))) else none) else none) else r57 0 (wi (mk wide))) = _
    have e0 : twoS wide 6 a b = (if 0#64 < b.1 then (a.1 / b.2, a.2 / b.1) else (0#64, mk wide)) := rfl
    rw [e0, div_wi, div_wi]
    by_cases h : 0#64 < b.1
    · have h' := h
      rw [BitVec.lt_def] at h'
      have hz : (0#64 : W).toNat = 0 := rfl
      have e1 : decide (wi b.1 > 0) = true := by unfold wi; simp; omega
      have e2 : (wi b.2 == 0) = false := by unfold wi; simp; omega
      have e3 : (wi b.1 == 0) = false := by unfold wi; simp; omega
      rw [e1, e2, e3, if_pos h]
      rfl
    · have e1 : decide (wi b.1 > 0) = false := by rw [z_wi]; simpa [wi_lt_iff] using h
      rw [e1, if_neg h]
      rfl
  · show (bif decide (wi b.1 > 0) then (R36 (c36 k (wi a.2) (IntKind.u64.wrap (wi b.2 - 1))) fun v => r57 0 v) else r57 0 (wi a.2)) = _
    have e0 : twoS wide 7 a b = (if 0#64 < b.1 then (0#64, loW a.2 (b.2 - 1#64)) else (0#64, a.2)) := rfl
    rw [e0, o_wi, sub_wi, least_ok (by omega)]
    simp only [R36_r]
    by_cases h : 0#64 < b.1
    · have e1 : decide (wi b.1 > 0) = true := by rw [z_wi]; simpa [wi_lt_iff] using h
      rw [e1, if_pos h]
      rfl
    · have e1 : decide (wi b.1 > 0) = false := by rw [z_wi]; simpa [wi_lt_iff] using h
      rw [e1, if_neg h]
      rfl
  · show (R36 (c36 k (wi a.2) (wi b.2)) fun v => r57 0 v) = _
    rw [least_ok (by omega)]
    simp only [R36_r]
    rfl
  · show (R35 (c35 k (wi a.1) (wi b.1)) fun v => r57 v (wi (mk wide))) = _
    rw [most_ok (by omega)]
    simp only [R35_r]
    rfl
  · rfl
  · rfl
  · rfl
theorem ask_ok {k : Nat} (hk : 5 ≤ k) (wide : Int) {op : Int} (ho : 14 ≤ op ∧ op ≤ 18) (a b : Spn) : c58 k op (wi a.1) (wi a.2) (wi b.1) (wi b.2) = r58 (wi (twoS wide op a b).1) (wi (twoS wide op a b).2) := by
  obtain ⟨k, rfl⟩ : ∃ j, k = j + 1 := ⟨k - 1, by omega⟩
  have hop : op = 14 ∨ op = 15 ∨ op = 16 ∨ op = 17 ∨ op = 18 := by omega
  rw [n58]
  rcases hop with rfl | rfl | rfl | rfl | rfl
  · show (bif decide (wi a.2 < wi b.1) then r58 0 0 else bif decide (wi b.2 < wi a.1) then r58 0 0 else bif (wi a.1 == wi a.2) then (bif ((wi a.1 == wi b.1) && ((wi a.2 == wi b.2) && true)) then r58 1 1 else r58 0 1) else r58 0 1) = _
    have e0 : twoS wide 14 a b = (if a.2 < b.1 ∨ b.2 < a.1 then (0#64, 0#64) else if a.1 = a.2 ∧ a = b then (1#64, 1#64) else (0#64, 1#64)) := rfl
    rw [e0, eq_span]
    simp only [wi_lt_iff, wi_beq]
    by_cases h : a.2 < b.1
    · simp only [h, decide_true, cond_true, true_or, if_true]; rfl
    · by_cases h2 : b.2 < a.1
      · simp only [h, h2, decide_true, decide_false, cond_true, cond_false, or_true, if_true]; rfl
      · simp only [h, h2, decide_false, cond_false, or_self, if_false]
        by_cases h3 : a.1 = a.2
        · have e3 : (a.1 == a.2) = true := by simpa using h3
          by_cases h4 : a = b
          · have e4 : decide (a = b) = true := by simpa using h4
            rw [e3, e4, if_pos ⟨h3, h4⟩]; rfl
          · have e4 : decide (a = b) = false := by simpa using h4
            rw [e3, e4, if_neg (fun h => h4 h.2)]; rfl
        · have e3 : (a.1 == a.2) = false := by simpa using h3
          rw [e3, if_neg (fun h => h3 h.1)]; rfl
  · show (bif decide (wi a.2 < wi b.1) then r58 1 1 else bif decide (wi a.1 ≥ wi b.2) then r58 0 0 else r58 0 1) = _
    have e0 : twoS wide 15 a b = (if a.2 < b.1 then (1#64, 1#64) else if b.2 ≤ a.1 then (0#64, 0#64) else (0#64, 1#64)) := rfl
    rw [e0]
    simp only [ge_iff_le, wi_le_iff, wi_lt_iff]
    by_cases h : a.2 < b.1
    · simp only [h, decide_true, cond_true, if_true]; rfl
    · by_cases h5 : b.2 ≤ a.1
      · simp only [h, h5, decide_true, decide_false, cond_true, cond_false, if_true, if_false]; rfl
      · simp only [h, h5, decide_true, decide_false, cond_true, cond_false, if_true, if_false]; rfl
  · rfl
  · show (R36 (c36 k (wi a.1) (wi b.1)) fun v => R36 (c36 k (wi a.2) (wi b.2)) fun v2 => r58 v v2) = _
    rw [least_ok (by omega)]
    simp only [R36_r]
    rw [least_ok (by omega)]
    simp only [R36_r]
    rfl
  · show (R35 (c35 k (wi a.1) (wi b.1)) fun v => R35 (c35 k (wi a.2) (wi b.2)) fun v2 => r58 v v2) = _
    rw [most_ok (by omega)]
    simp only [R35_r]
    rw [most_ok (by omega)]
    simp only [R35_r]
    rfl
end Go.Proofs.Ytclkgblckicabaa
/- Folding: the plain laws. -/
set_option linter.unusedVariables false
set_option linter.unusedSimpArgs false
set_option maxRecDepth 4000
namespace Go.Proofs.Ytclkgblckicabaa
open Go.Dp

def Tr.noVars : Tr → Bool
  | .leaf x => x.1 != 2
  | .un _ a => a.noVars
  | .bin _ a b => a.noVars && b.noVars
def numT (wide : Int) (T : Tr) : Tr := .leaf (if T.kind = 2 then 20 else 1, T.val wide [])
def Tr.fold (wide : Int) : Tr → Tr
  | .leaf x => .leaf x
  | .un x a => if a.noVars then numT wide (.un x a) else .un x (a.fold wide)
  | .bin x a b => if a.noVars && b.noVars then numT wide (.bin x a b) else .bin x (a.fold wide) (b.fold wide)
theorem Tr.fold_leaf (wide : Int) (x : Nd) : (Tr.leaf x).fold wide = .leaf x := rfl
theorem Tr.fold_un (wide : Int) (x : Nd) (a : Tr) : (Tr.un x a).fold wide = if a.noVars then numT wide (.un x a) else .un x (a.fold wide) := rfl
theorem Tr.fold_bin (wide : Int) (x : Nd) (a b : Tr) : (Tr.bin x a b).fold wide = if a.noVars && b.noVars then numT wide (.bin x a b) else .bin x (a.fold wide) (b.fold wide) := rfl
theorem Tr.noVars_inS : ∀ (T : Tr) (s : List W), T.noVars = true → T.inS s
  | .leaf x, s, h => fun h2 => by simp [Tr.noVars, h2] at h
  | .un x a, s, h => Tr.noVars_inS a s h
  | .bin x a b, s, h => by
    simp only [Tr.noVars, Bool.and_eq_true] at h
    exact ⟨Tr.noVars_inS a s h.1, Tr.noVars_inS b s h.2⟩
theorem Tr.noVars_val (wide : Int) (s s' : List W) : ∀ (T : Tr), T.noVars = true → T.val wide s = T.val wide s'
  | .leaf x, h => by
    have : ¬ x.1 = 2 := by simpa [Tr.noVars] using h
    simp [Tr.val, this]
  | .un x a, h => by simp only [Tr.val, Tr.noVars_val wide s s' a h]
  | .bin x a b, h => by
    simp only [Tr.noVars, Bool.and_eq_true] at h
    simp only [Tr.val, Tr.noVars_val wide s s' a h.1, Tr.noVars_val wide s s' b h.2]
theorem numT_kind {wide vars : Int} {T : Tr} (h : T.ok wide vars) : (numT wide T).kind = T.kind := by
  have hk : T.kind = 1 ∨ T.kind = 2 := by
    have h0 : T.kind ≠ 0 := by cases T <;> exact h.2.1
    rcases need_own T.root.1 with h1 | h1 | h1
    · exact absurd h1 h0
    · exact .inl h1
    · exact .inr h1
  rcases hk with hk | hk
  · rw [hk]; unfold numT; rw [hk]; rfl
  · rw [hk]; unfold numT; rw [hk]; rfl
theorem numT_ok {wide vars : Int} (hw : isW wide = true) (hv : isV vars = true) {T : Tr} (h : T.ok wide vars) : (numT wide T).ok wide vars := by
  have hvv := T.val_ok hw hv (s := []) (by simp) h
  unfold numT Tr.ok
  by_cases hk : T.kind = 2
  · rw [hk] at hvv
    have := okV_two hvv
    simp only [hk, if_true]
    refine ⟨by decide, by decide, ?_⟩
    unfold leafOK
    simp only
    rw [if_neg (by omega), if_neg (by omega), if_pos trivial, decide_eq_true_eq]
    exact wi_le_iff.2 this
  · have hle : T.val wide [] ≤ mk wide := by rcases hvv with h | h; exact h.2; exact absurd h.1 hk
    simp only [hk, if_false]
    refine ⟨by decide, by decide, ?_⟩
    unfold leafOK
    rw [if_pos rfl]
    exact goodW_iff.2 ⟨hw, hle⟩
theorem Tr.fold_ok {wide vars : Int} (hw : isW wide = true) (hv : isV vars = true) : ∀ (T : Tr), T.ok wide vars → (T.fold wide).ok wide vars ∧ (T.fold wide).kind = T.kind
  | .leaf x, h => ⟨h, rfl⟩
  | .un x a, h => by
    obtain ⟨h1, h2, h3, h4, h5⟩ := h
    obtain ⟨g1, g2⟩ := Tr.fold_ok hw hv a h5
    rw [Tr.fold_un]
    split
    · exact ⟨numT_ok hw hv ⟨h1, h2, h3, h4, h5⟩, numT_kind (vars := vars) ⟨h1, h2, h3, h4, h5⟩⟩
    · exact ⟨⟨h1, h2, h3, by rw [g2]; exact h4, g1⟩, rfl⟩
  | .bin x a b, h => by
    obtain ⟨h1, h2, h3, h4, h5, h6, h7⟩ := h
    obtain ⟨g1, g2⟩ := Tr.fold_ok hw hv a h6
    obtain ⟨g3, g4⟩ := Tr.fold_ok hw hv b h7
    rw [Tr.fold_bin]
    split
    · exact ⟨numT_ok hw hv ⟨h1, h2, h3, h4, h5, h6, h7⟩, numT_kind (vars := vars) ⟨h1, h2, h3, h4, h5, h6, h7⟩⟩
    · exact ⟨⟨h1, h2, h3, by rw [g2]; exact h4, by rw [g4]; exact h5, g1, g3⟩, rfl⟩
theorem numT_val (wide : Int) (s : List W) (T : Tr) (h : T.noVars = true) : (numT wide T).val wide s = T.val wide s := by
  have hne : ¬ (if T.kind = 2 then (20 : Int) else 1) = 2 := by split <;> omega
  unfold numT
  simp only [Tr.val]
  rw [if_neg hne, Tr.noVars_val wide s [] T h]
theorem Tr.fold_val (wide : Int) (s : List W) : ∀ (T : Tr), (T.fold wide).val wide s = T.val wide s
  | .leaf x => rfl
  | .un x a => by
    rw [Tr.fold_un]
    split
    · rename_i h
      exact numT_val wide s (.un x a) h
    · simp only [Tr.val, Tr.fold_val wide s a]
  | .bin x a b => by
    rw [Tr.fold_bin]
    split
    · rename_i h
      exact numT_val wide s (.bin x a b) h
    · simp only [Tr.val, Tr.fold_val wide s a, Tr.fold_val wide s b]
theorem Tr.fold_len (wide : Int) : ∀ (T : Tr), (T.fold wide).flat.length ≤ T.flat.length
  | .leaf x => by simp [Tr.fold]
  | .un x a => by
    have := Tr.fold_len wide a
    rw [Tr.fold_un]
    split
    · (simp [numT, Tr.flat]; try omega)
    · (simp [Tr.flat]; try omega)
  | .bin x a b => by
    have := Tr.fold_len wide a
    have := Tr.fold_len wide b
    rw [Tr.fold_bin]
    split
    · (simp [numT, Tr.flat]; try omega)
    · (simp [Tr.flat]; try omega)
theorem numT_noVars (wide : Int) (T : Tr) : (numT wide T).noVars = true := by
  unfold numT Tr.noVars
  simp only
  split <;> decide
theorem Tr.fold_noVars (wide : Int) : ∀ (T : Tr), (T.fold wide).noVars = T.noVars
  | .leaf x => rfl
  | .un x a => by
    rw [Tr.fold_un]
    split
    · rename_i h
      rw [numT_noVars]
      exact h.symm
    · simp only [Tr.noVars, Tr.fold_noVars wide a]
  | .bin x a b => by
    rw [Tr.fold_bin]
    split
    · rename_i h
      rw [numT_noVars]
      exact h.symm
    · simp only [Tr.noVars, Tr.fold_noVars wide a, Tr.fold_noVars wide b]
theorem Tr.fold_fold (wide : Int) : ∀ (T : Tr), (T.fold wide).fold wide = T.fold wide
  | .leaf x => rfl
  | .un x a => by
    rw [Tr.fold_un]
    split
    · rfl
    · rename_i h
      rw [Tr.fold_un, Tr.fold_noVars, if_neg h, Tr.fold_fold wide a]
  | .bin x a b => by
    rw [Tr.fold_bin]
    split
    · rfl
    · rename_i h
      rw [Tr.fold_bin, Tr.fold_noVars, Tr.fold_noVars, if_neg h, Tr.fold_fold wide a, Tr.fold_fold wide b]
theorem vlist_app : ∀ (t u : List Nd), vlist (t ++ u) = vlist t ++ vlist u
  | [], u => rfl
  | x :: t, u => by simp only [List.cons_append, vlist, vlist_app t u, List.append_assoc]
theorem vlist_op {wide vars : Int} {x : Nd} (h : (need x.1).1 ≠ 0) (h0 : (need x.1).2.2 ≠ 0) : vlist [x] = [] := by
  have : ¬ x.1 = 2 := fun e => by rw [e] at h; exact h (by decide)
  simp [vlist, this]
theorem Tr.noVars_vlist {wide vars : Int} : ∀ (T : Tr), T.ok wide vars → (vlist T.flat = [] ↔ T.noVars = true)
  | .leaf x, h => by
    simp only [Tr.flat, vlist, Tr.noVars]
    by_cases h2 : x.1 = 2 <;> simp [h2]
  | .un x a, h => by
    obtain ⟨h1, h2, h3, h4, h5⟩ := h
    simp only [Tr.flat, vlist_app, vlist_op (wide := wide) (vars := vars) (x := x) (by omega) h2, List.append_nil, Tr.noVars]
    exact Tr.noVars_vlist a h5
  | .bin x a b, h => by
    obtain ⟨h1, h2, h3, h4, h5, h6, h7⟩ := h
    simp only [Tr.flat, vlist_app, vlist_op (wide := wide) (vars := vars) (x := x) (by omega) h2, List.append_nil, List.append_eq_nil_iff, Tr.noVars, Bool.and_eq_true, Tr.noVars_vlist a h6, Tr.noVars_vlist b h7]
theorem numT_vlist (wide : Int) (T : Tr) : vlist (numT wide T).flat = [] := by
  have hne : ¬ (if T.kind = 2 then (20 : Int) else 1) = 2 := by split <;> omega
  unfold numT Tr.flat vlist
  rw [if_neg hne]
  rfl
theorem Tr.fold_vlist {wide vars : Int} : ∀ (T : Tr), T.ok wide vars → vlist (T.fold wide).flat = vlist T.flat
  | .leaf x, h => rfl
  | .un x a, h => by
    have hok := h
    obtain ⟨h1, h2, h3, h4, h5⟩ := h
    have ih := Tr.fold_vlist a h5
    rw [Tr.fold_un]
    split
    · rename_i hn
      rw [numT_vlist, (Tr.noVars_vlist (.un x a) hok).2 hn]
    · simp only [Tr.flat, vlist_app, ih]
  | .bin x a b, h => by
    have hok := h
    obtain ⟨h1, h2, h3, h4, h5, h6, h7⟩ := h
    have iha := Tr.fold_vlist a h6
    have ihb := Tr.fold_vlist b h7
    rw [Tr.fold_bin]
    split
    · rename_i hn
      rw [numT_vlist, (Tr.noVars_vlist (.bin x a b) hok).2 hn]
    · simp only [Tr.flat, vlist_app, iha, ihb]
theorem canI_nil {l : List Int} : (canI l).length = 0 ↔ l = [] := by
  constructor
  · intro h
    have h1 : canI l = [] := List.eq_nil_of_length_eq_zero h
    cases l with
    | nil => rfl
    | cons x l =>
      have := ((canI_spec (x :: l)).2 x).2 (by simp)
      rw [h1] at this
      simp at this
  · intro h
    subst h
    have := canI_len []
    simpa using this
end Go.Proofs.Ytclkgblckicabaa
/- Folding: the functions. -/
set_option linter.unusedVariables false
set_option linter.unusedSimpArgs false
set_option maxRecDepth 4000
namespace Go.Proofs.Ytclkgblckicabaa
open Go.Dp

theorem w10 : IntKind.i64.wrap (((1 : Nat) : Int) - 1) = 0 := (i64_id (by omega) (by omega)).trans (by omega)
theorem w21 : IntKind.i64.wrap (((2 : Nat) : Int) - 1) = 1 := (i64_id (by omega) (by omega)).trans (by omega)
theorem w1 : IntKind.i64.wrap ((1 : Int) - 1) = 0 := (i64_id (by omega) (by omega)).trans (by omega)
theorem w01 : IntKind.i64.wrap ((0 : Int) + 1) = 1 := (i64_id (by omega) (by omega)).trans (by omega)
theorem w12 : IntKind.i64.wrap ((1 : Int) + 1) = 2 := (i64_id (by omega) (by omega)).trans (by omega)
theorem root_at {T : Tr} {t pre suf : List Nd} (h : t = pre ++ T.flat ++ suf) : lookP (encT t) ((pre.length + T.flat.length - 1 : Nat) : Int) = some (encN T.root) := by
  obtain ⟨r, hr⟩ := T.flat_last
  have hl : T.flat.length = r.length + 1 := by rw [hr]; simp
  have e : t[pre.length + r.length]? = some T.root := by
    rw [h, hr, List.append_assoc, List.getElem?_append_right (Nat.le_add_right _ _), Nat.add_sub_cancel_left, List.append_assoc, List.getElem?_append_right (Nat.le_refl _), Nat.sub_self]
    rfl
  rw [hl, show pre.length + (r.length + 1) - 1 = pre.length + r.length by omega, lookP_nat, encT_get, e]
  rfl
theorem lf0 (k n : Nat) (t : List PV) (f : Int) (hn : 1 ≤ n) : L56_1 k n t ((0 : Nat) : Int) f = r56 f := by
  obtain ⟨n, rfl⟩ : ∃ i, n = i + 1 := ⟨n - 1, by omega⟩
  rw [sL56_1]
  rfl
theorem lfS (k n : Nat) (t : List PV) (a f f2 : Nat) (hn : 1 ≤ n) (hf : 1 ≤ f) (hf2 : f ≤ 10000) (ha : a ≤ 5) (hc : c56 k t ((f - 1 : Nat) : Int) = r56 (f2 : Int)) : L56_1 k n t ((a + 1 : Nat) : Int) (f : Int) = L56_1 k (n - 1) t (a : Int) (f2 : Int) := by
  obtain ⟨n, rfl⟩ : ∃ i, n = i + 1 := ⟨n - 1, by omega⟩
  rw [sL56_1]
  have hd : decide (((a + 1 : Nat) : Int) > 0) = true := by (simp; try omega)
  rw [hd, i64_id (n := (f : Int) - 1) (by omega) (by omega), show (f : Int) - 1 = ((f - 1 : Nat) : Int) by omega, hc]
  simp only [cond_true, R56_r]
  rw [i64_id (by omega) (by omega), show ((a + 1 : Nat) : Int) - 1 = (a : Int) by omega]
  rfl
theorem lfC {k : Nat} (hk : 10 ≤ k) {T : Tr} {t pre suf : List Nd} (h : t = pre ++ T.flat ++ suf) : c56 k (encT t) ((pre.length + T.flat.length - 1 : Nat) : Int) = L56_1 (k - 1) (k - 1) (encT t) ((need T.root.1).1 : Nat) ((pre.length + T.flat.length - 1 : Nat) : Int) := by
  obtain ⟨k, rfl⟩ : ∃ i, k = i + 1 := ⟨k - 1, by omega⟩
  rw [n56, root_at h]
  simp only [Option.bind_some, encN_op]
  rw [needS_ok (by omega)]
  simp only [R54_r, Nat.add_sub_cancel]
theorem from_tree {wide vars : Int} : ∀ (T : Tr) (t pre suf : List Nd) (k : Nat), T.ok wide vars → t = pre ++ T.flat ++ suf → t.length ≤ 1000 → 300 + T.flat.length ≤ k → c56 k (encT t) ((pre.length + T.flat.length - 1 : Nat) : Int) = r56 (pre.length : Int) := by
  intro T
  induction T with
  | leaf x =>
    intro t pre suf k h ht hl hk
    rw [lfC (by omega) ht, show (need (Tr.leaf x).root.1).1 = 0 from h.1, lf0 _ _ _ _ (by omega)]
    simp [Tr.flat]
  | un x a iha0 =>
    intro t pre suf k h ht hl hk
    obtain ⟨h1, h2, h3, h4, h5⟩ := h
    have hp := a.flat_pos
    have hfl : (Tr.un x a).flat.length = a.flat.length + 1 := by simp [Tr.flat]
    have ht2 : t = pre ++ a.flat ++ ([x] ++ suf) := by rw [ht]; simp [Tr.flat]
    have htl : t.length = pre.length + a.flat.length + 1 + suf.length := by rw [ht2]; (simp; try omega)
    have ih := iha0 t pre ([x] ++ suf) (k - 1) h5 ht2 hl (by omega)
    rw [lfC (by omega) ht, show (need (Tr.un x a).root.1).1 = 0 + 1 from h1, lfS (k - 1) (k - 1) (encT t) 0 _ pre.length (by omega) (by omega) (by omega) (by omega) (by rw [show pre.length + (Tr.un x a).flat.length - 1 - 1 = pre.length + a.flat.length - 1 by omega]; exact ih)]
    exact lf0 _ _ _ _ (by omega)
  | bin x a b iha0 ihb0 =>
    intro t pre suf k h ht hl hk
    obtain ⟨h1, h2, h3, h4, h5, h6, h7⟩ := h
    have hp := a.flat_pos
    have hq := b.flat_pos
    have hfl : (Tr.bin x a b).flat.length = a.flat.length + b.flat.length + 1 := by (simp [Tr.flat]; try omega)
    have ht2 : t = (pre ++ a.flat) ++ b.flat ++ ([x] ++ suf) := by rw [ht]; simp [Tr.flat]
    have ht3 : t = pre ++ a.flat ++ (b.flat ++ [x] ++ suf) := by rw [ht]; simp [Tr.flat]
    have htl : t.length = pre.length + a.flat.length + b.flat.length + 1 + suf.length := by rw [ht2]; (simp; try omega)
    have ihb := ihb0 t (pre ++ a.flat) ([x] ++ suf) (k - 1) h7 ht2 hl (by omega)
    have iha := iha0 t pre (b.flat ++ [x] ++ suf) (k - 1) h6 ht3 hl (by omega)
    rw [List.length_append] at ihb
    rw [lfC (by omega) ht, show (need (Tr.bin x a b).root.1).1 = 1 + 1 from h1, lfS (k - 1) (k - 1) (encT t) 1 _ (pre.length + a.flat.length) (by omega) (by omega) (by omega) (by omega) (by rw [show pre.length + (Tr.bin x a b).flat.length - 1 - 1 = pre.length + a.flat.length + b.flat.length - 1 by omega]; exact ihb)]
    rw [show ((1 : Nat) : Int) = ((0 + 1 : Nat) : Int) from rfl, lfS (k - 1) (k - 1 - 1) (encT t) 0 _ pre.length (by omega) (by omega) (by omega) (by omega) iha]
    exact lf0 _ _ _ _ (by omega)
theorem okV_le {wide k : Int} (hw : isW wide = true) {v : W} (h : okV wide k v) : v ≤ mk wide := by
  rcases h with h | h
  · exact h.2
  · refine BitVec.le_trans h.2 ?_
    exact le_of_cut hw (by have := tr_cut hw true; simpa [tr] using this)
theorem fold_const {wide vars : Int} : ∀ (T : Tr), T.ok wide vars → T.noVars = true → T.fold wide = numT wide T
  | .leaf x, h, hn => by
    obtain ⟨h1, h2, h3⟩ := h
    have c2 : x.1 ≠ 2 := by simpa [Tr.noVars] using hn
    have hk : (Tr.leaf x).kind = (need x.1).2.2 := rfl
    rw [Tr.fold_leaf]
    unfold numT
    rw [hk]
    congr 1
    refine Prod.ext ?_ ?_
    · rcases need_leaf h2 h1 with c | c | c
      · simp only [c]; decide
      · simp only [c]; decide
      · exact absurd c c2
    · simp only [Tr.val]
      rw [if_neg c2]
  | .un x a, h, hn => by rw [Tr.fold_un]; exact if_pos hn
  | .bin x a b, h, hn => by rw [Tr.fold_bin]; exact if_pos hn
end Go.Proofs.Ytclkgblckicabaa
/- FnFolded: folding's functions and the law. -/
set_option linter.unusedVariables false
set_option linter.unusedSimpArgs false
set_option maxRecDepth 4000
namespace Go.Proofs.Ytclkgblckicabaa
open Go.Dp

theorem slice_tree {T : Tr} {t pre suf : List Nd} (h : t = pre ++ T.flat ++ suf) (e : Nat) (he : e = pre.length + T.flat.length) : ((encT t).take e).drop pre.length = encT T.flat := by
  rw [encT_take, he, h]
  have e1 : (pre ++ T.flat ++ suf).take (pre.length + T.flat.length) = pre ++ T.flat := by
    rw [List.take_append_of_le_length (by simp), List.take_of_length_le (by simp)]
  rw [e1]
  simp [encT]
theorem fold_leafvar {wide vars : Int} {x : Nd} (h : (Tr.leaf x).ok wide vars) : (Tr.leaf x).fold wide = .leaf x := rfl
theorem root_kind {wide vars : Int} {T : Tr} : T.kind = (need T.root.1).2.2 := rfl
theorem canI_beq (l : List Int) : (((canI l).length : Int) == 0) = decide (l = []) := by
  rw [Bool.eq_iff_iff, decide_eq_true_eq, ← canI_nil, beq_iff_eq]
  omega
end Go.Proofs.Ytclkgblckicabaa
/- Spans of terms: both sides, and that a value lies within. -/
set_option linter.unusedVariables false
set_option linter.unusedSimpArgs false
set_option linter.unusedSectionVars false
set_option maxRecDepth 8000
namespace Go.Proofs.Ytclkgblckicabaa
open Go.Dp

def InS (x : Spn) (v : W) : Prop := x.1.toNat ≤ v.toNat ∧ v.toNat ≤ x.2.toNat
theorem mk_one {wide : Int} (hw : isW wide = true) : 1 ≤ (mk wide).toNat := by
  have h1 := mk_toNat hw
  have h' := isW_iff.1 hw
  have : 2 ^ 1 ≤ 2 ^ wide.toNat := Nat.pow_le_pow_right (by omega) (by omega)
  omega
theorem opB_list {op : Int} (ho : opB op) : op = 3 ∨ op = 4 ∨ op = 5 ∨ op = 6 ∨ op = 7 ∨ op = 8 ∨ op = 9 ∨ op = 10 ∨ op = 11 ∨ op = 12 ∨ op = 14 ∨ op = 15 ∨ op = 16 ∨ op = 17 ∨ op = 18 := by unfold opB at ho; omega
theorem two_gd {wide : Int} (hw : isW wide = true) {op : Int} (ho : opB op) {a b : Spn} (ha : GdS wide a) (hb : GdS wide b) : GdS wide (twoS wide op a b) ∧ (14 ≤ op → (op = 17 ∨ op = 18 → a.2.toNat ≤ 1 ∧ b.2.toNat ≤ 1) → (twoS wide op a b).2.toNat ≤ 1) := by
  have h1 := ha.le
  have h2 := ha.top
  have h3 := hb.le
  have h4 := hb.top
  have hm := (mk wide).isLt
  have hm1 := mk_one hw
  have all : GdS wide (0#64, mk wide) := ⟨by simp, by simp⟩
  have z0 : (0#64 : W).toNat = 0 := rfl
  have z1 : (1#64 : W).toNat = 1 := rfl
  have bit : GdS wide (0#64, 1#64) := ⟨by simp, by simpa using hm1⟩
  rcases opB_list ho with rfl | rfl | rfl | rfl | rfl | rfl | rfl | rfl | rfl | rfl | rfl | rfl | rfl | rfl | rfl
  · refine ⟨?_, fun h => by omega⟩
    have e0 : twoS wide 3 a b = (if a.2.toNat + b.2.toNat ≤ (mk wide).toNat then (a.1 + b.1, a.2 + b.2) else (0#64, mk wide)) := rfl
    rw [e0]
    split
    · constructor
      · simp only [BitVec.toNat_add]; omega
      · simp only [BitVec.toNat_add]; omega
    · exact all
  · refine ⟨?_, fun h => by omega⟩
    have e0 : twoS wide 4 a b = (if b.2 ≤ a.1 then (a.1 - b.2, a.2 - b.1) else (0#64, mk wide)) := rfl
    rw [e0]
    split
    · rename_i h
      have h' := h
      rw [BitVec.le_def] at h'
      constructor
      · simp only []
        rw [BitVec.toNat_sub_of_le h, BitVec.toNat_sub_of_le (by rw [BitVec.le_def]; omega)]; omega
      · simp only []
        rw [BitVec.toNat_sub_of_le (by rw [BitVec.le_def]; omega)]; omega
    · exact all
  · refine ⟨?_, fun h => by omega⟩
    have e0 : twoS wide 5 a b = (if a.2.toNat * b.2.toNat ≤ (mk wide).toNat then (a.1 * b.1, a.2 * b.2) else (0#64, mk wide)) := rfl
    rw [e0]
    split
    · have hmul := Nat.mul_le_mul h1 h3
      constructor
      · simp only []
        rw [mul_nat (by omega), mul_nat (by omega)]; exact hmul
      · simp only []
        rw [mul_nat (by omega)]; omega
    · exact all
  · refine ⟨?_, fun h => by omega⟩
    have e0 : twoS wide 6 a b = (if 0#64 < b.1 then (a.1 / b.2, a.2 / b.1) else (0#64, mk wide)) := rfl
    rw [e0]
    split
    · rename_i h
      rw [BitVec.lt_def] at h
      constructor
      · simp only [BitVec.toNat_udiv]; exact Nat.div_le_div h1 h3 (by omega)
      · simp only [BitVec.toNat_udiv]; exact Nat.le_trans (Nat.div_le_self _ _) h2
    · exact all
  · refine ⟨?_, fun h => by omega⟩
    have e0 : twoS wide 7 a b = (if 0#64 < b.1 then (0#64, loW a.2 (b.2 - 1#64)) else (0#64, a.2)) := rfl
    rw [e0]
    split
    · exact ⟨by simp, by simp only [loW_nat]; omega⟩
    · exact ⟨by simp, h2⟩
  · exact ⟨⟨by show (0#64 : W).toNat ≤ _; rw [z0]; omega, by show (loW a.2 b.2).toNat ≤ _; rw [loW_nat]; omega⟩, fun h => by omega⟩
  · exact ⟨⟨by show (hiW a.1 b.1).toNat ≤ (mk wide).toNat; rw [hiW_nat]; omega, Nat.le_refl _⟩, fun h => by omega⟩
  · exact ⟨all, fun h => by omega⟩
  · exact ⟨all, fun h => by omega⟩
  · exact ⟨⟨by show (0#64 : W).toNat ≤ _; rw [z0]; omega, h2⟩, fun h => by omega⟩
  · have e0 : twoS wide 14 a b = (if a.2 < b.1 ∨ b.2 < a.1 then (0#64, 0#64) else if a.1 = a.2 ∧ a = b then (1#64, 1#64) else (0#64, 1#64)) := rfl
    rw [e0]
    split
    · exact ⟨⟨by simp, by simp⟩, fun _ _ => by simp⟩
    · split
      · exact ⟨⟨by simp, by simpa using hm1⟩, fun _ _ => by simp⟩
      · exact ⟨bit, fun _ _ => by simp⟩
  · have e0 : twoS wide 15 a b = (if a.2 < b.1 then (1#64, 1#64) else if b.2 ≤ a.1 then (0#64, 0#64) else (0#64, 1#64)) := rfl
    rw [e0]
    split
    · exact ⟨⟨by simp, by simpa using hm1⟩, fun _ _ => by simp⟩
    · split
      · exact ⟨⟨by simp, by simp⟩, fun _ _ => by simp⟩
      · exact ⟨bit, fun _ _ => by simp⟩
  · exact ⟨bit, fun _ _ => by show (1#64 : W).toNat ≤ 1; omega⟩
  · refine ⟨⟨by show (loW a.1 b.1).toNat ≤ (loW a.2 b.2).toNat; rw [loW_nat, loW_nat]; omega, by show (loW a.2 b.2).toNat ≤ _; rw [loW_nat]; omega⟩, fun _ h => ?_⟩
    have := h (.inl rfl)
    show (loW a.2 b.2).toNat ≤ 1
    rw [loW_nat]; omega
  · refine ⟨⟨by show (hiW a.1 b.1).toNat ≤ (hiW a.2 b.2).toNat; rw [hiW_nat, hiW_nat]; omega, by show (hiW a.2 b.2).toNat ≤ _; rw [hiW_nat]; omega⟩, fun _ h => ?_⟩
    have := h (.inr rfl)
    show (hiW a.2 b.2).toNat ≤ 1
    rw [hiW_nat]; omega
theorem tr_nat (b : Bool) : (tr b).toNat = if b then 1 else 0 := by cases b <;> rfl
theorem two_in {wide : Int} (hw : isW wide = true) {op : Int} (ho : opB op) {a b : Spn} (ha : GdS wide a) (hb : GdS wide b) {v w : W} (hv : InS a v) (hu : InS b w) (h17 : op = 17 ∨ op = 18 → a.2.toNat ≤ 1 ∧ b.2.toNat ≤ 1) : InS (twoS wide op a b) (apW wide op v w) := by
  have h1 := ha.le
  have h2 := ha.top
  have h3 := hb.le
  have h4 := hb.top
  obtain ⟨v1, v2⟩ := hv
  obtain ⟨w1, w2⟩ := hu
  have hm := (mk wide).isLt
  have hm1 := mk_one hw
  have z0 : (0#64 : W).toNat = 0 := rfl
  have z1 : (1#64 : W).toNat = 1 := rfl
  have cutid : ∀ x : W, x.toNat ≤ (mk wide).toNat → x &&& mk wide = x := fun x hx => mk_cut hw (by rw [BitVec.le_def]; exact hx)
  have cutle : ∀ x : W, (x &&& mk wide).toNat ≤ x.toNat ∧ (x &&& mk wide).toNat ≤ (mk wide).toNat := fun x => by
    rw [BitVec.toNat_and]; exact ⟨Nat.and_le_left, Nat.and_le_right⟩
  have all : InS (0#64, mk wide) (apW wide op v w) := ⟨by simp, (cutle _).2⟩
  have bit : ∀ c, InS (0#64, 1#64) (tr c &&& mk wide) := fun c => by
    rw [tr_cut hw]
    exact ⟨by simp, by show (tr c).toNat ≤ 1; rw [tr_nat]; cases c <;> simp⟩
  have gv : goodW wide v = true := by
    have : v ≤ maskB wide.toNat := by rw [BitVec.le_def]; exact Nat.le_trans v2 h2
    simp [goodW, hw, this]
  have gw : goodW wide w = true := by
    have : w ≤ maskB wide.toNat := by rw [BitVec.le_def]; exact Nat.le_trans w2 h4
    simp [goodW, hw, this]
  rcases opB_list ho with rfl | rfl | rfl | rfl | rfl | rfl | rfl | rfl | rfl | rfl | rfl | rfl | rfl | rfl | rfl
  · have e0 : twoS wide 3 a b = (if a.2.toNat + b.2.toNat ≤ (mk wide).toNat then (a.1 + b.1, a.2 + b.2) else (0#64, mk wide)) := rfl
    rw [e0]
    split
    · show InS _ ((v + w) &&& mk wide)
      have e : (v + w).toNat = v.toNat + w.toNat := by rw [BitVec.toNat_add]; omega
      rw [cutid _ (by omega)]
      constructor
      · simp only [BitVec.toNat_add]; omega
      · simp only [BitVec.toNat_add]; omega
    · exact all
  · have e0 : twoS wide 4 a b = (if b.2 ≤ a.1 then (a.1 - b.2, a.2 - b.1) else (0#64, mk wide)) := rfl
    rw [e0]
    split
    · rename_i h
      have h' := h
      rw [BitVec.le_def] at h'
      show InS _ ((v - w) &&& mk wide)
      have e : (v - w).toNat = v.toNat - w.toNat := BitVec.toNat_sub_of_le (by rw [BitVec.le_def]; omega)
      rw [cutid _ (by omega)]
      constructor
      · rw [e, BitVec.toNat_sub_of_le h]; omega
      · rw [e, BitVec.toNat_sub_of_le (by rw [BitVec.le_def]; omega)]; omega
    · exact all
  · have e0 : twoS wide 5 a b = (if a.2.toNat * b.2.toNat ≤ (mk wide).toNat then (a.1 * b.1, a.2 * b.2) else (0#64, mk wide)) := rfl
    rw [e0]
    split
    · have m1 := Nat.mul_le_mul v1 w1
      have m2 := Nat.mul_le_mul v2 w2
      have e : (v * w).toNat = v.toNat * w.toNat := mul_nat (by omega)
      show InS _ ((v * w) &&& mk wide)
      rw [cutid _ (by omega)]
      constructor
      · rw [e, mul_nat (by omega)]; exact m1
      · rw [e, mul_nat (by omega)]; exact m2
    · exact all
  · have e0 : twoS wide 6 a b = (if 0#64 < b.1 then (a.1 / b.2, a.2 / b.1) else (0#64, mk wide)) := rfl
    rw [e0]
    split
    · rename_i h
      rw [BitVec.lt_def] at h
      have hz : ¬ w = 0#64 := fun h => by rw [h] at w1; omega
      have e : divW wide v w = (v / w, v % w) := by unfold divW; rw [gv, gw]; simp [hz]
      show InS _ ((divW wide v w).1 &&& mk wide)
      rw [e]
      have hd : (v / w).toNat ≤ v.toNat := by rw [BitVec.toNat_udiv]; exact Nat.div_le_self _ _
      simp only []
      rw [cutid _ (by omega)]
      constructor
      · simp only [BitVec.toNat_udiv]; exact Nat.div_le_div v1 w2 (by omega)
      · simp only [BitVec.toNat_udiv]; exact Nat.div_le_div v2 w1 (by omega)
    · exact all
  · have e0 : twoS wide 7 a b = (if 0#64 < b.1 then (0#64, loW a.2 (b.2 - 1#64)) else (0#64, a.2)) := rfl
    rw [e0]
    have hle : ((divW wide v w).2 &&& mk wide).toNat ≤ v.toNat := by
      refine Nat.le_trans (cutle _).1 ?_
      unfold divW; rw [gv, gw]
      simp only [Bool.and_self, if_true]
      split
      · exact Nat.le_refl _
      · simp only [BitVec.toNat_umod]; exact Nat.mod_le _ _
    split
    · rename_i h
      rw [BitVec.lt_def] at h
      have hz : ¬ w = 0#64 := fun h => by rw [h] at w1; omega
      have e : divW wide v w = (v / w, v % w) := by unfold divW; rw [gv, gw]; simp [hz]
      refine ⟨by simp, ?_⟩
      show ((divW wide v w).2 &&& mk wide).toNat ≤ (loW a.2 (b.2 - 1#64)).toNat
      have hlt : ((divW wide v w).2 &&& mk wide).toNat < w.toNat := by
        refine Nat.lt_of_le_of_lt (cutle _).1 ?_
        rw [e]
        simp only [BitVec.toNat_umod]
        exact Nat.mod_lt _ (by omega)
      rw [loW_nat, BitVec.toNat_sub_of_le (by rw [BitVec.le_def]; omega)]
      omega
    · exact ⟨by simp, Nat.le_trans hle v2⟩
  · refine ⟨by show (0#64 : W).toNat ≤ _; rw [z0]; omega, ?_⟩
    show ((v &&& w) &&& mk wide).toNat ≤ (loW a.2 b.2).toNat
    have h5 := (cutle (v &&& w)).1
    have h6 : (v &&& w).toNat ≤ v.toNat := by rw [BitVec.toNat_and]; exact Nat.and_le_left
    have h7 : (v &&& w).toNat ≤ w.toNat := by rw [BitVec.toNat_and]; exact Nat.and_le_right
    rw [loW_nat]; omega
  · refine ⟨?_, (cutle _).2⟩
    show (hiW a.1 b.1).toNat ≤ ((v ||| w) &&& mk wide).toNat
    rw [or_cut hw (by rw [BitVec.le_def]; omega) (by rw [BitVec.le_def]; omega), hiW_nat, BitVec.toNat_or]
    have h6 : v.toNat ≤ v.toNat ||| w.toNat := Nat.left_le_or
    have h7 : w.toNat ≤ v.toNat ||| w.toNat := Nat.right_le_or
    omega
  · exact all
  · exact all
  · refine ⟨by show (0#64 : W).toNat ≤ _; rw [z0]; omega, ?_⟩
    show (shW wide v w false &&& mk wide).toNat ≤ a.2.toNat
    refine Nat.le_trans (cutle _).1 (Nat.le_trans ?_ v2)
    unfold shW
    split
    · simp
    · simp only [Bool.false_eq_true, if_false, BitVec.toNat_ushiftRight, Nat.shiftRight_eq_div_pow]; exact Nat.div_le_self _ _
  · have e0 : twoS wide 14 a b = (if a.2 < b.1 ∨ b.2 < a.1 then (0#64, 0#64) else if a.1 = a.2 ∧ a = b then (1#64, 1#64) else (0#64, 1#64)) := rfl
    rw [e0]
    show InS _ (tr (v == w) &&& mk wide)
    split
    · rename_i h
      have hne : ¬ v = w := by
        rintro rfl
        simp only [BitVec.lt_def] at h
        omega
      have e : (v == w) = false := by simpa using hne
      rw [e, tr_cut hw]
      exact ⟨by simp, by simp [tr]⟩
    · split
      · rename_i h
        obtain ⟨h5, rfl⟩ := h
        rw [h5] at v1 w1
        have : v = w := BitVec.eq_of_toNat_eq (by omega)
        have e : (v == w) = true := by simpa using this
        rw [e, tr_cut hw]
        exact ⟨by simp [tr], by simp [tr]⟩
      · exact bit _
  · have e0 : twoS wide 15 a b = (if a.2 < b.1 then (1#64, 1#64) else if b.2 ≤ a.1 then (0#64, 0#64) else (0#64, 1#64)) := rfl
    rw [e0]
    show InS _ (tr (decide (v < w)) &&& mk wide)
    split
    · rename_i h
      rw [BitVec.lt_def] at h
      have e : decide (v < w) = true := by simp only [decide_eq_true_eq, BitVec.lt_def]; omega
      rw [e, tr_cut hw]
      exact ⟨by simp [tr], by simp [tr]⟩
    · split
      · rename_i h
        rw [BitVec.le_def] at h
        have e : decide (v < w) = false := by simp only [decide_eq_false_iff_not, BitVec.lt_def]; omega
        rw [e, tr_cut hw]
        exact ⟨by simp [tr], by simp [tr]⟩
      · exact bit _
  · exact bit _
  · obtain ⟨h5, h6⟩ := h17 (.inl rfl)
    show (loW a.1 b.1).toNat ≤ ((v &&& w) &&& mk wide).toNat ∧ ((v &&& w) &&& mk wide).toNat ≤ (loW a.2 b.2).toNat
    have c1 := le_one_cases (a := v) (by rw [BitVec.le_def]; omega)
    have c2 := le_one_cases (a := w) (by rw [BitVec.le_def]; omega)
    rw [loW_nat, loW_nat]
    have h7 : (v &&& w).toNat ≤ v.toNat := by rw [BitVec.toNat_and]; exact Nat.and_le_left
    rw [cutid _ (by omega)]
    rcases c1 with rfl | rfl <;> rcases c2 with rfl | rfl <;> simp at v1 v2 w1 w2 ⊢ <;> omega
  · obtain ⟨h5, h6⟩ := h17 (.inr rfl)
    show (hiW a.1 b.1).toNat ≤ ((v ||| w) &&& mk wide).toNat ∧ ((v ||| w) &&& mk wide).toNat ≤ (hiW a.2 b.2).toNat
    have c1 := le_one_cases (a := v) (by rw [BitVec.le_def]; omega)
    have c2 := le_one_cases (a := w) (by rw [BitVec.le_def]; omega)
    rw [hiW_nat, hiW_nat, or_cut hw (by rw [BitVec.le_def]; omega) (by rw [BitVec.le_def]; omega)]
    rcases c1 with rfl | rfl <;> rcases c2 with rfl | rfl <;> simp at v1 v2 w1 w2 ⊢ <;> omega
theorem flip_nat {wide : Int} (hw : isW wide = true) {v : W} (hv : v.toNat ≤ (mk wide).toNat) : (~~~v &&& mk wide) = mk wide - v := by
  have hm := (mk wide).isLt
  apply BitVec.eq_of_toNat_eq
  rw [BitVec.toNat_sub_of_le (by rw [BitVec.le_def]; exact hv)]
  have e : (~~~v &&& mk wide) + (v &&& mk wide) = mk wide := by
    rw [BitVec.add_eq_or_of_and_eq_zero]
    · ext i; simp; cases v[i] <;> simp
    · ext i; simp; cases v[i] <;> simp
  have e1 : v &&& mk wide = v := mk_cut hw (by rw [BitVec.le_def]; exact hv)
  have h5 : (~~~v &&& mk wide).toNat ≤ (mk wide).toNat := by rw [BitVec.toNat_and]; exact Nat.and_le_right
  rw [e1] at e
  have h := congrArg BitVec.toNat e
  rw [BitVec.toNat_add] at h
  omega
/-! ### Trees -/
def Tr.span (wide : Int) (sp : List Spn) : Tr → Spn
  | .leaf x => if x.1 = 2 then (sp[x.2.toNat]?).getD (0#64, 0#64) else (x.2, x.2)
  | .un x a => if x.1 = 13 then (mk wide - (a.span wide sp).2, mk wide - (a.span wide sp).1) else (1#64 - (a.span wide sp).2, 1#64 - (a.span wide sp).1)
  | .bin x a b => twoS wide x.1 (a.span wide sp) (b.span wide sp)
theorem need_op {op : Int} (h0 : (need op).2.2 ≠ 0) (h : (need op).1 = 2) : opB op ∧ (need op).2.1 = (if op = 17 ∨ op = 18 then 2 else 1) ∧ (need op).2.2 = (if op ≤ 12 then 1 else 2) := by
  have h' := h0
  unfold need at h' h
  unfold opB need
  repeat' split at h
  all_goals first | (exfalso; omega) | skip
  all_goals (repeat' split) <;> first | (exfalso; omega) | (refine ⟨?_, ?_, ?_⟩ <;> first | rfl | omega | (split <;> omega)) | skip
theorem leaf_bits {wide vars : Int} (hv : isV vars = true) {x : Nd} (h : leafOK wide vars x = true) : (x.1 = 1 → x.2.toNat ≤ (mk wide).toNat) ∧ (x.1 = 20 → x.2.toNat ≤ 1) ∧ (x.1 = 2 → (x.2.toNat : Int) < vars) := by
  have hl := leaf_run hv h
  unfold leafOK at h
  refine ⟨fun c => ?_, fun c => ?_, fun c => hl.2.2 c⟩
  · rw [if_pos c] at h
    simp only [goodW, Bool.and_eq_true, decide_eq_true_eq] at h
    exact h.2
  · rw [if_neg (by omega), if_neg (by omega), if_pos c] at h
    simp only [decide_eq_true_eq] at h
    unfold wi at h
    omega
section tree
variable {wide vars : Int} (hw : isW wide = true) (hv : isV vars = true) (sp : List Spn) (hs : (sp.length : Int) = vars) (hg : ∀ x ∈ sp, GdS wide x)
include hw hv hs hg
theorem span_gd : ∀ (T : Tr), T.ok wide vars → GdS wide (T.span wide sp) ∧ (T.kind = 2 → (T.span wide sp).2.toNat ≤ 1)
  | .leaf x, h => by
    obtain ⟨h1, h2, h3⟩ := h
    have hb := leaf_bits hv h3
    have hm1 := mk_one hw
    rcases need_leaf h2 h1 with c | c | c
    · have e : (Tr.leaf x).span wide sp = (x.2, x.2) := by simp [Tr.span, c]
      rw [e]
      refine ⟨⟨Nat.le_refl _, hb.1 c⟩, fun hk => ?_⟩
      have : (Tr.leaf x).kind = 1 := by show (need x.1).2.2 = 1; rw [c]; rfl
      omega
    · have e : (Tr.leaf x).span wide sp = (x.2, x.2) := by simp [Tr.span, c]
      rw [e]
      have := hb.2.1 c
      exact ⟨⟨Nat.le_refl _, by simp only []; omega⟩, fun hk => this⟩
    · have hlt := hb.2.2 c
      have hl : x.2.toNat < sp.length := by omega
      have e : (Tr.leaf x).span wide sp = sp[x.2.toNat] := by simp [Tr.span, c, hl]
      rw [e]
      refine ⟨hg _ (List.getElem_mem hl), fun hk => ?_⟩
      have : (Tr.leaf x).kind = 1 := by show (need x.1).2.2 = 1; rw [c]; rfl
      omega
  | .un x a, h => by
    obtain ⟨h1, h2, h3, h4, h5⟩ := h
    obtain ⟨g1, g2⟩ := span_gd a h5
    have ht := g1.top
    have hl := g1.le
    have hm := (mk wide).isLt
    have hm1 := mk_one hw
    rcases need_un h2 h1 with c | c
    · have e : (Tr.un x a).span wide sp = (mk wide - (a.span wide sp).2, mk wide - (a.span wide sp).1) := by simp [Tr.span, c]
      have e1 : (mk wide - (a.span wide sp).2).toNat = (mk wide).toNat - (a.span wide sp).2.toNat := BitVec.toNat_sub_of_le (by rw [BitVec.le_def]; exact ht)
      have e2 : (mk wide - (a.span wide sp).1).toNat = (mk wide).toNat - (a.span wide sp).1.toNat := BitVec.toNat_sub_of_le (by rw [BitVec.le_def]; omega)
      rw [e]
      refine ⟨⟨by simp only []; omega, by simp only []; omega⟩, fun hk => ?_⟩
      have : (Tr.un x a).kind = 1 := by show (need x.1).2.2 = 1; rw [c]; rfl
      omega
    · have e : (Tr.un x a).span wide sp = (1#64 - (a.span wide sp).2, 1#64 - (a.span wide sp).1) := by simp [Tr.span, c]
      have hk : a.kind = 2 := by rw [h4, c]; rfl
      have hb := g2 hk
      have z1 : (1#64 : W).toNat = 1 := rfl
      have e1 : (1#64 - (a.span wide sp).2).toNat = 1 - (a.span wide sp).2.toNat := BitVec.toNat_sub_of_le (by rw [BitVec.le_def]; omega)
      have e2 : (1#64 - (a.span wide sp).1).toNat = 1 - (a.span wide sp).1.toNat := BitVec.toNat_sub_of_le (by rw [BitVec.le_def]; omega)
      rw [e]
      exact ⟨⟨by simp only []; omega, by simp only []; omega⟩, fun hk => by simp only []; omega⟩
  | .bin x a b, h => by
    obtain ⟨h1, h2, h3, h4, h5, h6, h7⟩ := h
    obtain ⟨g1, g2⟩ := span_gd a h6
    obtain ⟨g3, g4⟩ := span_gd b h7
    obtain ⟨ho, e1, e2⟩ := need_op h2 h1
    have := two_gd hw ho g1 g3
    refine ⟨this.1, fun hk => this.2 ?_ fun h17 => ?_⟩
    · have hk' : (need x.1).2.2 = 2 := hk
      unfold opB at ho
      by_cases h12 : x.1 ≤ 12
      · rw [if_pos h12] at e2; omega
      · omega
    · rw [if_pos h17] at e1
      exact ⟨g2 (by rw [h4, e1]), g4 (by rw [h5, e1])⟩
theorem span_in {s : List W} (hsl : s.length = sp.length) (hin : ∀ (i : Nat) (h : i < sp.length), InS sp[i] (s[i]'(by omega))) : ∀ (T : Tr), T.ok wide vars → InS (T.span wide sp) (T.val wide s)
  | .leaf x, h => by
    obtain ⟨h1, h2, h3⟩ := h
    have hb := leaf_bits hv h3
    rcases need_leaf h2 h1 with c | c | c
    · have e : (Tr.leaf x).span wide sp = (x.2, x.2) := by simp [Tr.span, c]
      have e2 : (Tr.leaf x).val wide s = x.2 := by simp [Tr.val, c]
      rw [e, e2]
      exact ⟨Nat.le_refl _, Nat.le_refl _⟩
    · have e : (Tr.leaf x).span wide sp = (x.2, x.2) := by simp [Tr.span, c]
      have e2 : (Tr.leaf x).val wide s = x.2 := by simp [Tr.val, c]
      rw [e, e2]
      exact ⟨Nat.le_refl _, Nat.le_refl _⟩
    · have hlt := hb.2.2 c
      have hl : x.2.toNat < sp.length := by omega
      have hl2 : x.2.toNat < s.length := by omega
      have e : (Tr.leaf x).span wide sp = sp[x.2.toNat] := by simp [Tr.span, c, hl]
      have e2 : (Tr.leaf x).val wide s = s[x.2.toNat] := by simp [Tr.val, c, hl2]
      rw [e, e2]
      exact hin _ hl
  | .un x a, h => by
    obtain ⟨h1, h2, h3, h4, h5⟩ := h
    obtain ⟨g1, g2⟩ := span_gd hw hv sp hs hg a h5
    obtain ⟨i1, i2⟩ := span_in hsl hin a h5
    have ht := g1.top
    have hl := g1.le
    rcases need_un h2 h1 with c | c
    · have e : (Tr.un x a).span wide sp = (mk wide - (a.span wide sp).2, mk wide - (a.span wide sp).1) := by simp [Tr.span, c]
      have e3 : (Tr.un x a).val wide s = mk wide - a.val wide s := by simp only [Tr.val, c, if_true]; exact flip_nat hw (by omega)
      have e1 : (mk wide - (a.span wide sp).2).toNat = (mk wide).toNat - (a.span wide sp).2.toNat := BitVec.toNat_sub_of_le (by rw [BitVec.le_def]; exact ht)
      have e2 : (mk wide - (a.span wide sp).1).toNat = (mk wide).toNat - (a.span wide sp).1.toNat := BitVec.toNat_sub_of_le (by rw [BitVec.le_def]; omega)
      have e4 : (mk wide - a.val wide s).toNat = (mk wide).toNat - (a.val wide s).toNat := BitVec.toNat_sub_of_le (by rw [BitVec.le_def]; omega)
      rw [e, e3]
      exact ⟨by simp only []; omega, by simp only []; omega⟩
    · have e : (Tr.un x a).span wide sp = (1#64 - (a.span wide sp).2, 1#64 - (a.span wide sp).1) := by simp [Tr.span, c]
      have hk : a.kind = 2 := by rw [h4, c]; rfl
      have hb := g2 hk
      have z1 : (1#64 : W).toNat = 1 := rfl
      have e3 : (Tr.un x a).val wide s = 1#64 - a.val wide s := by simp [Tr.val, c]
      have e1 : (1#64 - (a.span wide sp).2).toNat = 1 - (a.span wide sp).2.toNat := BitVec.toNat_sub_of_le (by rw [BitVec.le_def]; omega)
      have e2 : (1#64 - (a.span wide sp).1).toNat = 1 - (a.span wide sp).1.toNat := BitVec.toNat_sub_of_le (by rw [BitVec.le_def]; omega)
      have e4 : (1#64 - a.val wide s).toNat = 1 - (a.val wide s).toNat := BitVec.toNat_sub_of_le (by rw [BitVec.le_def]; omega)
      rw [e, e3]
      exact ⟨by simp only []; omega, by simp only []; omega⟩
  | .bin x a b, h => by
    obtain ⟨h1, h2, h3, h4, h5, h6, h7⟩ := h
    obtain ⟨g1, g2⟩ := span_gd hw hv sp hs hg a h6
    obtain ⟨g3, g4⟩ := span_gd hw hv sp hs hg b h7
    obtain ⟨ho, e1, e2⟩ := need_op h2 h1
    refine two_in hw ho g1 g3 (span_in hsl hin a h6) (span_in hsl hin b h7) fun h17 => ?_
    rw [if_pos h17] at e1
    exact ⟨g2 (by rw [h4, e1]), g4 (by rw [h5, e1])⟩
theorem l18_tree : ∀ (T : Tr) (t pre suf : List Nd) (k : Nat), T.ok wide vars → t = pre ++ T.flat ++ suf → t.length ≤ 1000 → 600 + T.flat.length ≤ k → c24 k wide (encT t) ((pre.length + T.flat.length - 1 : Nat) : Int) (encSp sp) = r24 (wi (T.span wide sp).1) (wi (T.span wide sp).2)
  | .leaf x, t, pre, suf, k, h, ht, hl, hk => by
    obtain ⟨k, rfl⟩ : ∃ i, k = i + 1 := ⟨k - 1, by omega⟩
    obtain ⟨h1, h2, h3⟩ := h
    have hb := leaf_bits hv h3
    rw [n24, root_at ht]
    simp only [Option.bind_some, encN_shp, encN_op, encN_n, cond_true, Tr.root]
    rw [needS_ok (by omega)]
    simp only [R54_r]
    rcases need_leaf h2 h1 with c | c | c
    · have e : (Tr.leaf x).span wide sp = (x.2, x.2) := by simp [Tr.span, c]
      rw [e, h1, c]; rfl
    · have e : (Tr.leaf x).span wide sp = (x.2, x.2) := by simp [Tr.span, c]
      rw [e, h1, c]; rfl
    · have hlt := hb.2.2 c
      have hl : x.2.toNat < sp.length := by omega
      have e : (Tr.leaf x).span wide sp = sp[x.2.toNat] := by simp [Tr.span, c, hl]
      have e2 : lookP (encSp sp) (wi x.2) = some (encS sp[x.2.toNat]) := lookSp hl
      have e3 : (x.1 == 2) = true := by simp [c]
      rw [e, e2, e3]
      simp only [cond_true, Option.bind_some, encS_shp, encS_lo, encS_hi]
  | .un x a, t, pre, suf, k, h, ht, hl, hk => by
    obtain ⟨k, rfl⟩ : ∃ i, k = i + 1 := ⟨k - 1, by omega⟩
    obtain ⟨h1, h2, h3, h4, h5⟩ := h
    obtain ⟨g1, g2⟩ := span_gd hw hv sp hs hg a h5
    have hp := a.flat_pos
    have hfl : (Tr.un x a).flat.length = a.flat.length + 1 := by simp [Tr.flat]
    have ht2 : t = pre ++ a.flat ++ ([x] ++ suf) := by rw [ht]; simp [Tr.flat]
    have htl : t.length = pre.length + a.flat.length + 1 + suf.length := by rw [ht2]; (simp; try omega)
    have ih := l18_tree a t pre ([x] ++ suf) k h5 ht2 hl (by omega)
    have hgt := g1.top
    have hgl := g1.le
    rw [n24, root_at ht]
    simp only [Option.bind_some, encN_shp, encN_op, encN_n, cond_true, Tr.root]
    rw [needS_ok (by omega)]
    simp only [R54_r]
    have e0 : IntKind.i64.wrap (((pre.length + (Tr.un x a).flat.length - 1 : Nat) : Int) - 1) = ((pre.length + a.flat.length - 1 : Nat) : Int) := by rw [i64_id (by omega) (by omega)]; omega
    rw [e0, ih, h1]
    simp only [R24_r]
    have hall : (18446744073709551615 : Int) = wi 18446744073709551615#64 := rfl
    have hx : ∀ v : W, (18446744073709551615#64 ^^^ v) = ~~~v := fun v => by
      have h1 : (18446744073709551615#64 : W) = BitVec.allOnes 64 := rfl
      rw [h1]
      exact BitVec.allOnes_xor
    rcases need_un h2 h1 with c | c
    · have e : (Tr.un x a).span wide sp = (mk wide - (a.span wide sp).2, mk wide - (a.span wide sp).1) := by simp [Tr.span, c]
      have e3 : (x.1 == 2) = false := by simp [c]
      have e4 : (x.1 == 13) = true := by simp [c]
      have e5 : (((1 : Nat) : Int) == 0) = false := rfl
      rw [e, e3, e4, e5, hall, xor_wi, xor_wi, hx, hx]
      simp only [cond_false, cond_true]
      rw [cutM_ok (by omega) hw]
      simp only [R55_r]
      rw [cutM_ok (by omega) hw]
      simp only [R55_r]
      rw [flip_nat hw (by omega), flip_nat hw (by omega)]
    · have e : (Tr.un x a).span wide sp = (1#64 - (a.span wide sp).2, 1#64 - (a.span wide sp).1) := by simp [Tr.span, c]
      have e3 : (x.1 == 2) = false := by simp [c]
      have e4 : (x.1 == 13) = false := by simp [c]
      have e6 : (x.1 == 19) = true := by simp [c]
      have e5 : (((1 : Nat) : Int) == 0) = false := rfl
      have e7 : ∀ v : W, IntKind.u64.wrap (1 - wi v) = wi (1#64 - v) := fun v => sub_wi 1#64 v
      rw [e, e3, e4, e5, e6, e7, e7]
      rfl
  | .bin x a b, t, pre, suf, k, h, ht, hl, hk => by
    obtain ⟨k, rfl⟩ : ∃ i, k = i + 1 := ⟨k - 1, by omega⟩
    obtain ⟨h1, h2, h3, h4, h5, h6, h7⟩ := h
    obtain ⟨g1, g2⟩ := span_gd hw hv sp hs hg a h6
    obtain ⟨g3, g4⟩ := span_gd hw hv sp hs hg b h7
    obtain ⟨ho, e1, e2⟩ := need_op h2 h1
    have hp := a.flat_pos
    have hp2 := b.flat_pos
    have hfl : (Tr.bin x a b).flat.length = a.flat.length + b.flat.length + 1 := by (simp [Tr.flat]; try omega)
    have htb : t = (pre ++ a.flat) ++ b.flat ++ ([x] ++ suf) := by rw [ht]; simp [Tr.flat]
    have hta : t = pre ++ a.flat ++ (b.flat ++ ([x] ++ suf)) := by rw [ht]; simp [Tr.flat]
    have htl : t.length = pre.length + a.flat.length + b.flat.length + 1 + suf.length := by rw [hta]; (simp; try omega)
    have ihb := l18_tree b t (pre ++ a.flat) ([x] ++ suf) k h7 htb hl (by omega)
    have iha := l18_tree a t pre (b.flat ++ ([x] ++ suf)) k h6 hta hl (by omega)
    have hfr := from_tree b t (pre ++ a.flat) ([x] ++ suf) k h7 htb (by omega) (by omega)
    rw [List.length_append] at ihb hfr
    rw [n24, root_at ht]
    simp only [Option.bind_some, encN_shp, encN_op, encN_n, cond_true, Tr.root]
    rw [needS_ok (by omega)]
    simp only [R54_r]
    have e0 : IntKind.i64.wrap (((pre.length + (Tr.bin x a b).flat.length - 1 : Nat) : Int) - 1) = ((pre.length + a.flat.length + b.flat.length - 1 : Nat) : Int) := by rw [i64_id (by omega) (by omega)]; omega
    rw [e0, ihb, h1, hfr]
    simp only [R24_r, R56_r]
    have e8 : IntKind.i64.wrap (((pre.length + a.flat.length : Nat) : Int) - 1) = ((pre.length + a.flat.length - 1 : Nat) : Int) := by rw [i64_id (by omega) (by omega)]; omega
    have hne := need_bin h2 h1
    have e3 : (x.1 == 2) = false := by simpa using hne.2.2.1
    have e4 : (x.1 == 13) = false := by simpa using hne.2.2.2.1
    have e6 : (x.1 == 19) = false := by simpa using hne.2.2.2.2
    have e5 : (((2 : Nat) : Int) == 0) = false := rfl
    rw [e3, e4, e5, e6, e8, iha]
    simp only [cond_false, R24_r]
    show _ = r24 (wi (twoS wide x.1 (a.span wide sp) (b.span wide sp)).1) (wi (twoS wide x.1 (a.span wide sp) (b.span wide sp)).2)
    by_cases h12 : x.1 ≤ 12
    · rw [if_pos h12] at e2
      rw [e2, num_ok (by omega) hw (by unfold opB at ho; omega) g1 g3]
      simp only [R57_r]
      rfl
    · rw [if_neg h12] at e2
      rw [e2, ask_ok (by omega) wide (by unfold opB at ho; omega)]
      simp only [R58_r]
      rfl
theorem spanI_run {k : Nat} (hk : 100 ≤ k) : ∀ (T : Tr) (t pre suf : List Nd) (n : Nat) (st : List Spn), T.ok wide vars → t = pre ++ T.flat ++ suf → t.length ≤ 1000 → st.length + T.flat.length ≤ 2000 →
    L21_1 k (n + T.flat.length) (encSp sp) st.length (encT t) (t.length : Int) (pre.length : Int) 0 0 0 (wi (mk wide)) (encSp st) = L21_1 k n (encSp sp) (st ++ [T.span wide sp]).length (encT t) (t.length : Int) ((pre.length + T.flat.length : Nat) : Int) 0 0 0 (wi (mk wide)) (encSp (st ++ [T.span wide sp]))
  | .leaf x, t, pre, suf, n, st, h, ht, hl, hst => by
    obtain ⟨h1, h2, h3⟩ := h
    have hb := leaf_bits hv h3
    have htl : t.length = pre.length + 1 + suf.length := by rw [ht]; (simp [Tr.flat]; try omega)
    have hr := root_at ht
    have hfl : (Tr.leaf x).flat.length = 1 := rfl
    rw [hfl] at hr hst ⊢
    have e0 : pre.length + 1 - 1 = pre.length := by omega
    rw [e0] at hr
    have hd : decide ((pre.length : Int) < (t.length : Int)) = true := by simp; omega
    have hnext : IntKind.i64.wrap ((pre.length : Int) + 1) = ((pre.length + 1 : Nat) : Int) := by rw [i64_id (by omega) (by omega)]; omega
    have etk : (encSp st).take st.length = encSp st := by rw [List.take_of_length_le (by simp)]
    rw [sL21_1, hd, hr, hnext]
    simp only [cond_true, Option.bind_some, encN_shp, encN_op, encN_n, Tr.root, etk, encS_mk, encSp_snoc]
    rcases need_leaf h2 h1 with c | c | c
    · have e : (Tr.leaf x).span wide sp = (x.2, x.2) := by simp [Tr.span, c]
      have e3 : (x.1 == 1) = true := by simp [c]
      rw [e, e3, lim_ok (by omega) (by omega), List.length_append]
      rfl
    · have e : (Tr.leaf x).span wide sp = (x.2, x.2) := by simp [Tr.span, c]
      have e3 : (x.1 == 1) = false := by simp [c]
      have e4 : (x.1 == 20) = true := by simp [c]
      rw [e, e3, e4, lim_ok (by omega) (by omega), List.length_append]
      rfl
    · have hlt := hb.2.2 c
      have hl : x.2.toNat < sp.length := by omega
      have e : (Tr.leaf x).span wide sp = sp[x.2.toNat] := by simp [Tr.span, c, hl]
      have e2 : lookP (encSp sp) (wi x.2) = some (encS sp[x.2.toNat]) := lookSp hl
      have e3 : (x.1 == 1) = false := by simp [c]
      have e4 : (x.1 == 20) = false := by simp [c]
      have e5 : (x.1 == 2) = true := by simp [c]
      rw [e, e2, e3, e4, e5]
      simp only [cond_true, cond_false, Option.bind_some, encS_shp, encS_lo, encS_hi, encS_mk, encSp_snoc]
      rw [lim_ok (by omega) (by omega), List.length_append]
      rfl
  | .un x a, t, pre, suf, n, st, h, ht, hl, hst => by
    obtain ⟨h1, h2, h3, h4, h5⟩ := h
    have hp := a.flat_pos
    have hfl : (Tr.un x a).flat.length = a.flat.length + 1 := by simp [Tr.flat]
    have ht2 : t = pre ++ a.flat ++ ([x] ++ suf) := by rw [ht]; simp [Tr.flat]
    have htl : t.length = pre.length + a.flat.length + 1 + suf.length := by rw [ht2]; (simp; try omega)
    have hr := root_at ht
    rw [hfl] at hr hst ⊢
    have ih := spanI_run hk a t pre ([x] ++ suf) (n + 1) st h5 ht2 hl (by omega)
    have en : n + 1 + a.flat.length = n + (a.flat.length + 1) := by omega
    rw [en] at ih
    rw [ih, sL21_1]
    have e0 : pre.length + (a.flat.length + 1) - 1 = pre.length + a.flat.length := by omega
    rw [e0] at hr
    have hd : decide (((pre.length + a.flat.length : Nat) : Int) < (t.length : Int)) = true := by simp; omega
    have hnext : IntKind.i64.wrap (((pre.length + a.flat.length : Nat) : Int) + 1) = ((pre.length + (a.flat.length + 1) : Nat) : Int) := by rw [i64_id (by omega) (by omega)]; omega
    have hsl : (st ++ [a.span wide sp]).length = st.length + 1 := by simp
    have htop : IntKind.i64.wrap (((st ++ [a.span wide sp]).length : Int) - 1) = (st.length : Int) := by rw [hsl, i64_id (by omega) (by omega)]; omega
    have hget : (encSp (st ++ [a.span wide sp]))[0 + (st.length : Int).toNat]? = some (encS (a.span wide sp)) := by rw [encSp_get]; simp
    have hcond : (decide ((0 : Int) ≤ (st.length : Int)) && decide ((st.length : Int) < ((st ++ [a.span wide sp]).length : Int))) = true := by rw [hsl]; simp; omega
    have hset : ∀ y : Spn, (encSp (st ++ [a.span wide sp])).set (0 + (st.length : Int).toNat) (encS y) = encSp (st ++ [y]) := fun y => by rw [encSp_set]; simp
    have hsl2 : ∀ y : Spn, (st ++ [a.span wide sp]).length = (st ++ [y]).length := fun y => by simp
    rw [hd, hr, hnext, htop, hcond, hget]
    simp only [cond_true, Option.bind_some, encN_shp, encN_op, encN_n, Tr.root, encS_lo, encS_hi]
    rcases need_un h2 h1 with c | c
    · have e : (Tr.un x a).span wide sp = (mk wide - (a.span wide sp).2, mk wide - (a.span wide sp).1) := by simp [Tr.span, c]
      have c1 : (x.1 == 1) = false := by simp [c]
      have c2 : (x.1 == 20) = false := by simp [c]
      have c3 : (x.1 == 2) = false := by simp [c]
      have c4 : (x.1 == 13) = true := by simp [c]
      rw [c1, c2, c3, c4]
      simp only [cond_true, cond_false, sub_wi, encS_mk]
      rw [hset, e, hsl2 (mk wide - (a.span wide sp).2, mk wide - (a.span wide sp).1)]
    · have e : (Tr.un x a).span wide sp = (1#64 - (a.span wide sp).2, 1#64 - (a.span wide sp).1) := by simp [Tr.span, c]
      have c1 : (x.1 == 1) = false := by simp [c]
      have c2 : (x.1 == 20) = false := by simp [c]
      have c3 : (x.1 == 2) = false := by simp [c]
      have c4 : (x.1 == 13) = false := by simp [c]
      have c5 : (x.1 == 19) = true := by simp [c]
      have e7 : ∀ v : W, IntKind.u64.wrap (1 - wi v) = wi (1#64 - v) := fun v => sub_wi 1#64 v
      rw [c1, c2, c3, c4, c5]
      simp only [cond_true, cond_false, e7, encS_mk]
      rw [hset, e, hsl2 (1#64 - (a.span wide sp).2, 1#64 - (a.span wide sp).1)]
  | .bin x a b, t, pre, suf, n, st, h, ht, hl, hst => by
    obtain ⟨h1, h2, h3, h4, h5, h6, h7⟩ := h
    obtain ⟨g1, g2⟩ := span_gd hw hv sp hs hg a h6
    obtain ⟨g3, g4⟩ := span_gd hw hv sp hs hg b h7
    obtain ⟨ho, e1, e2⟩ := need_op h2 h1
    have hp := a.flat_pos
    have hp2 := b.flat_pos
    have hfl : (Tr.bin x a b).flat.length = a.flat.length + b.flat.length + 1 := by (simp [Tr.flat]; try omega)
    have htb : t = (pre ++ a.flat) ++ b.flat ++ ([x] ++ suf) := by rw [ht]; simp [Tr.flat]
    have hta : t = pre ++ a.flat ++ (b.flat ++ ([x] ++ suf)) := by rw [ht]; simp [Tr.flat]
    have htl : t.length = pre.length + a.flat.length + b.flat.length + 1 + suf.length := by rw [hta]; (simp; try omega)
    have hr := root_at ht
    rw [hfl] at hr hst ⊢
    have iha := spanI_run hk a t pre (b.flat ++ ([x] ++ suf)) (n + 1 + b.flat.length) st h6 hta hl (by omega)
    have ihb := spanI_run hk b t (pre ++ a.flat) ([x] ++ suf) (n + 1) (st ++ [a.span wide sp]) h7 htb hl (by simp; omega)
    have en : n + 1 + b.flat.length + a.flat.length = n + (a.flat.length + b.flat.length + 1) := by omega
    rw [en] at iha
    have hla : (pre ++ a.flat).length = pre.length + a.flat.length := List.length_append
    rw [hla] at ihb
    rw [iha, ihb, sL21_1]
    have e0 : pre.length + (a.flat.length + b.flat.length + 1) - 1 = pre.length + a.flat.length + b.flat.length := by omega
    rw [e0] at hr
    have hd : decide (((pre.length + a.flat.length + b.flat.length : Nat) : Int) < (t.length : Int)) = true := by simp; omega
    have hnext : IntKind.i64.wrap (((pre.length + a.flat.length + b.flat.length : Nat) : Int) + 1) = ((pre.length + (a.flat.length + b.flat.length + 1) : Nat) : Int) := by rw [i64_id (by omega) (by omega)]; omega
    have hsl : (st ++ [a.span wide sp] ++ [b.span wide sp]).length = st.length + 2 := by simp
    have htop : IntKind.i64.wrap (((st ++ [a.span wide sp] ++ [b.span wide sp]).length : Int) - 1) = ((st.length + 1 : Nat) : Int) := by rw [hsl, i64_id (by omega) (by omega)]; omega
    have htop2 : IntKind.i64.wrap (((st.length + 1 : Nat) : Int) - 1) = (st.length : Int) := by rw [i64_id (by omega) (by omega)]; omega
    have hget : (encSp (st ++ [a.span wide sp] ++ [b.span wide sp]))[0 + ((st.length + 1 : Nat) : Int).toNat]? = some (encS (b.span wide sp)) := by rw [encSp_get, Int.toNat_natCast]; simp
    have hget2 : (encSp (st ++ [a.span wide sp] ++ [b.span wide sp]))[0 + (st.length : Int).toNat]? = some (encS (a.span wide sp)) := by rw [encSp_get, Int.toNat_natCast]; simp
    have hc1 : (decide ((0 : Int) ≤ (st.length : Int)) && decide ((st.length : Int) ≤ ((st ++ [a.span wide sp] ++ [b.span wide sp]).length : Int))) = true := by rw [hsl]; simp; omega
    have hc2 : (decide ((0 : Int) ≤ (st.length : Int)) && decide ((st.length : Int) < ((st ++ [a.span wide sp] ++ [b.span wide sp]).length : Int))) = true := by rw [hsl]; simp; omega
    have hc3 : (decide ((0 : Int) ≤ ((st.length + 1 : Nat) : Int)) && decide (((st.length + 1 : Nat) : Int) < ((st ++ [a.span wide sp] ++ [b.span wide sp]).length : Int))) = true := by rw [hsl]; simp; omega
    have htk : (encSp (st ++ [a.span wide sp] ++ [b.span wide sp])).take (st.length : Int).toNat = encSp st := by rw [encSp_take, Int.toNat_natCast]; simp
    have hne := need_bin h2 h1
    have c1 : (x.1 == 1) = false := by simpa using hne.1
    have c2 : (x.1 == 20) = false := by simpa using hne.2.1
    have c3 : (x.1 == 2) = false := by simpa using hne.2.2.1
    have c4 : (x.1 == 13) = false := by simpa using hne.2.2.2.1
    have c5 : (x.1 == 19) = false := by simpa using hne.2.2.2.2
    rw [hd, hr, hnext, htop, htop2, hc1, hc2, hc3, hget, hget2, htk]
    simp only [cond_true, Option.bind_some, encN_shp, encN_op, encN_n, Tr.root, encS_lo, encS_hi, encS_shp]
    rw [c1, c2, c3, c4, c5]
    simp only [cond_false]
    rw [spanTwo_ok (by omega) hw ho g1 g3]
    simp only [R51_r, encS_mk, encSp_snoc]
    rw [lim_ok (by rw [Int.toNat_natCast]; omega) (by omega)]
    have hsl3 : (st.length : Int).toNat + 1 = (st ++ [(Tr.bin x a b).span wide sp]).length := by rw [Int.toNat_natCast]; simp
    rw [hsl3]
    rfl
end tree
end Go.Proofs.Ytclkgblckicabaa
/- FnFolded: the law. -/
set_option linter.unusedVariables false
set_option linter.unusedSimpArgs false
set_option maxRecDepth 4000
namespace Go.Proofs.Ytclkgblckicabaa
open Go.Dp

theorem good_len {wide vars : Int} {t : List Nd} (h : goodT wide vars t = true) : isW wide = true ∧ isV vars = true ∧ t.length ≤ 48 := by
  have hs := (goodT_iff.1 h).1
  simp only [sizeT, Bool.and_eq_true, decide_eq_true_eq] at hs
  exact ⟨hs.1.1.1, hs.1.1.2, hs.2⟩
end Go.Proofs.Ytclkgblckicabaa
/- Spans: what is good, what is drawn, what lies within. -/
set_option linter.unusedVariables false
set_option linter.unusedSimpArgs false
set_option linter.unusedSectionVars false
set_option maxRecDepth 4000
namespace Go.Proofs.Ytclkgblckicabaa
open Go.Dp

/-! ### What is drawn -/
theorem cutA_loop {wide : Int} (h2 : wide ≤ 65) (a : W) (k : Nat) : ∀ (m n : Nat) (j : Nat) (o : W), (wide - j).toNat ≤ m → m < n → j ≤ 65 → ∃ d, L55_1 k n wide (wi a) (wi o) (j : Int) = r55 (wi d)
  | m, 0, j, o, hm, hn, hj => by omega
  | m, n + 1, j, o, hm, hn, hj => by
    rw [sL55_1]
    by_cases h : (j : Int) < wide
    · have hd : decide ((j : Int) < wide) = true := by simpa using h
      rw [u64_id (n := (j : Int)) (by omega) (by omega)]
      have hd2 : decide ((j : Int) < 0) = false := by simp
      have e1 : (1 : Int) = wi (1#64) := rfl
      simp only [hd, hd2, cond_true, Bool.not_false]
      rw [e1, shl_wi _ (by omega), and_wi, or_wi, ← e1, i64_id (by omega) (by omega)]
      have e2 : (j : Int) + 1 = ((j + 1 : Nat) : Int) := by omega
      rw [e2]
      cases m with
      | zero => omega
      | succ m => exact cutA_loop h2 a k m n (j + 1) _ (by omega) (by omega) (by omega)
    · have hd : decide ((j : Int) < wide) = false := by simpa using h
      simp only [hd, cond_false]
      exact ⟨o, rfl⟩
theorem cutA_ok {k : Nat} (hk : 80 ≤ k) {wide : Int} (h2 : wide ≤ 65) (a : W) : ∃ d, c55 k wide (wi a) = r55 (wi d) := by
  obtain ⟨k, rfl⟩ : ∃ j, k = j + 1 := ⟨k - 1, by omega⟩
  rw [n55]
  exact cutA_loop h2 a k wide.toNat k 0 0#64 (by omega) (by omega) (by omega)
theorem wordA_ok {bs : List Nat} (hc : CodeOK bs) {k : Nat} (hk : 90 ≤ k) {wide : Int} (hw0 : 0 ≤ wide) (hw : wide ≤ 65) {at' : Int} (h0 : 0 ≤ at') (h1 : at' ≤ 800000000) (s : W) :
    ∃ a2 s2 b, c62 k wide (encB bs) at' (wi s) = r62 (encB bs) a2 (wi s2) (wi b) ∧ at' ≤ a2 ∧ a2 ≤ at' + 20 := by
  obtain ⟨k, rfl⟩ : ∃ j, k = j + 1 := ⟨k - 1, by omega⟩
  rw [n62]
  obtain ⟨a2, s2, v, h, h2, h3, h4, h5, _⟩ := pick_ok hc (k := k) (by omega) h0 (by omega) s 5
  rw [h]
  simp only [R38_r]
  obtain ⟨a3, s3, u, h, h6, h7, h8, h9, _⟩ := pick_ok hc (k := k) (by omega) (at' := a2) (by omega) (by omega) s2 5
  rw [h]
  simp only [R38_r]
  have fin : ∀ (a4 : Int) (s4 : W) (b : W), at' ≤ a4 → a4 ≤ at' + 15 → ∃ a5 s5 d, (R40 (c40 k 30 (encB bs) a4 (wi s4)) fun l4 v10 v11 b1 => bif b1 then r62 l4 v10 v11 (wi b) else R55 (c55 k wide (wi b)) fun v12 => r62 l4 v10 v11 v12) = r62 (encB bs) a5 (wi s5) (wi d) ∧ at' ≤ a5 ∧ a5 ≤ at' + 20 := by
    intro a4 s4 b h10 h11
    obtain ⟨a5, s5, e, h, h12, h13⟩ := one_ok hc (k := k) (by omega) (at' := a4) (by omega) (by omega) s4 30
    rw [h]
    simp only [R40_r]
    cases e
    · simp only [cond_false]
      obtain ⟨d, hd⟩ := cutA_ok (k := k) (by omega) hw b
      rw [hd]
      simp only [R55_r]
      exact ⟨_, _, _, rfl, by omega, by omega⟩
    · exact ⟨_, _, _, rfl, by omega, by omega⟩
  cases e0 : (u == 0)
  · simp only [cond_false]
    cases e1 : (u == 1)
    · simp only [cond_false]
      cases e2 : (u == 2)
      · simp only [cond_false]
        rw [wrapU]
        exact fin a3 s3 _ (by omega) (by omega)
      · simp only [cond_true]
        obtain ⟨a4, s4, x, h, h10, h11, h12, h13, _⟩ := pick_ok hc (k := k) (by omega) (at' := a3) (by omega) (by omega) s3 64
        rw [h]
        simp only [R38_r]
        rw [u64_id h12 (by omega)]
        have hx : decide (x < 0) = false := by simpa using h12
        rw [hx]
        simp only [Bool.not_false, cond_true]
        rw [show (1 : Int) = wi 1#64 from rfl, shl_wi _ h12]
        exact fin a4 s4 _ (by omega) (by omega)
    · simp only [cond_true]
      obtain ⟨a4, s4, x, h, h10, h11, h12, h13, _⟩ := pick_ok hc (k := k) (by omega) (at' := a3) (by omega) (by omega) s3 3
      rw [h]
      simp only [R38_r]
      rw [wrapU]
      exact fin a4 s4 _ (by omega) (by omega)
  · simp only [cond_true]
    obtain ⟨a4, s4, b, h, h10, h11⟩ := long_ok hc (k := k) (by omega) (at' := a3) (by omega) (by omega) s3
    rw [h]
    simp only [R78_r]
    exact fin a4 s4 b (by omega) (by omega)
theorem span1_ok {bs : List Nat} (hc : CodeOK bs) {k : Nat} (hk : 100 ≤ k) {wide : Int} (hw0 : 0 ≤ wide) (hw : wide ≤ 65) {at' : Int} (h0 : 0 ≤ at') (h1 : at' ≤ 700000000) (s : W) :
    ∃ a2 s2 x, c30 k wide (encB bs) at' (wi s) = r30 (encB bs) a2 (wi s2) (wi (x : Spn).1) (wi x.2) ∧ at' ≤ a2 ∧ a2 ≤ at' + 50 := by
  obtain ⟨k, rfl⟩ : ∃ j, k = j + 1 := ⟨k - 1, by omega⟩
  rw [n30]
  obtain ⟨a2, s2, u, h, h2, h3⟩ := wordA_ok hc (k := k) (by omega) hw0 hw h0 (by omega) s
  rw [h]
  simp only [R62_r]
  obtain ⟨a3, s3, v, h, h4, h5⟩ := wordA_ok hc (k := k) (by omega) hw0 hw (at' := a2) (by omega) (by omega) s2
  rw [h]
  simp only [R62_r]
  obtain ⟨a4, s4, b, h, h6, h7⟩ := one_ok hc (k := k) (by omega) (at' := a3) (by omega) (by omega) s3 3
  rw [h]
  simp only [R40_r]
  have e : decide (wi u > wi u) = false := by simp
  obtain ⟨a5, s5, q, hq, h8, h9⟩ := one_ok hc (k := k) (by omega) (at' := a4) (by omega) (by omega) s4 30
  cases b
  · simp only [cond_false]
    cases decide (wi u > wi v)
    · exact ⟨_, _, (u, v), rfl, by omega, by omega⟩
    · simp only [cond_true]
      rw [hq]
      simp only [R40_r]
      cases q
      · exact ⟨_, _, (v, u), rfl, by omega, by omega⟩
      · exact ⟨_, _, (u, v), rfl, by omega, by omega⟩
  · rw [e]
    exact ⟨_, _, (u, u), rfl, by omega, by omega⟩
theorem spans_loop {bs : List Nat} (hc : CodeOK bs) {k : Nat} (hk : 110 ≤ k) {wide vars : Int} (hw0 : 0 ≤ wide) (hw : wide ≤ 65) (hv : vars ≤ 100) : ∀ (m n : Nat) (st : List Spn) {at' : Int} (s : W), (vars - st.length).toNat ≤ m → m < n → st.length ≤ 100 → 0 ≤ at' → at' + 50 * m ≤ 650000000 →
    ∃ a2 s2 st2, L18_1 k n wide vars st.length (st.length : Int) (encB bs) at' (wi s) (encSp st) = r18 (encB bs) a2 (wi s2) (encSp st2) ∧ at' ≤ a2 ∧ a2 ≤ at' + 50 * m ∧ st2.length ≤ 100 ∧ ((st.length : Int) ≤ vars → (st2.length : Int) = vars)
  | m, 0, st, at', s, hm, hn, hl, h0, h1 => by omega
  | m, n + 1, st, at', s, hm, hn, hl, h0, h1 => by
    rw [sL18_1]
    have e1 : (encSp st).take st.length = encSp st := by rw [List.take_of_length_le (by simp)]
    by_cases hd : (st.length : Int) < vars
    · have hd' : decide ((st.length : Int) < vars) = true := by simpa using hd
      rw [hd']
      simp only [cond_true]
      obtain ⟨a2, s2, b, h, h2, h3⟩ := span1_ok hc (k := k) (by omega) hw0 hw h0 (by omega) s
      rw [h]
      simp only [R30_r]
      rw [lim_ok (by omega) (by omega), i64_id (by omega) (by omega), e1, encS_mk, encSp_snoc]
      simp only [cond_true]
      have e2 : st.length + 1 = (st ++ [b]).length := by simp
      have e3 : (st.length : Int) + 1 = ((st ++ [b]).length : Int) := by simp
      rw [e2, e3]
      cases m with
      | zero => omega
      | succ m =>
        obtain ⟨a3, s3, st2, h, h4, h5, h6, h7⟩ := spans_loop hc hk hw0 hw hv m n (st ++ [b]) (at' := a2) s2 (by simp; omega) (by omega) (by simp; omega) (by omega) (by omega)
        exact ⟨a3, s3, st2, h, by omega, by omega, h6, fun _ => h7 (by simp; omega)⟩
    · have hd' : decide ((st.length : Int) < vars) = false := by simpa using hd
      rw [hd', e1]
      exact ⟨at', s, st, rfl, by omega, by omega, hl, fun _ => by omega⟩
theorem spans_ok {bs : List Nat} (hc : CodeOK bs) {k : Nat} (hk : 220 ≤ k) {wide vars : Int} (hw0 : 0 ≤ wide) (hw : wide ≤ 65) (hv : vars ≤ 100) {at' : Int} (h0 : 0 ≤ at') (h1 : at' ≤ 600000000) (s : W) :
    ∃ a2 s2 st, c18 k wide vars (encB bs) at' (wi s) = r18 (encB bs) a2 (wi s2) (encSp st) ∧ at' ≤ a2 ∧ a2 ≤ at' + 5000 ∧ st.length ≤ 100 ∧ (0 ≤ vars → (st.length : Int) = vars) := by
  obtain ⟨k, rfl⟩ : ∃ j, k = j + 1 := ⟨k - 1, by omega⟩
  rw [n18]
  obtain ⟨a2, s2, st, h, h2, h3, h4, h5⟩ := spans_loop hc (k := k) (by omega) hw0 hw hv vars.toNat k [] (at' := at') s (by simp) (by omega) (by simp) h0 (by omega)
  exact ⟨a2, s2, st, h, h2, by omega, h4, fun h0 => h5 (by simpa using h0)⟩
theorem width_ok {bs : List Nat} (hc : CodeOK bs) {k : Nat} (hk : 10 ≤ k) {at' : Int} (h0 : 0 ≤ at') (h1 : at' ≤ 900000000) (s : W) :
    ∃ a2 s2 w, c29 k (encB bs) at' (wi s) = r29 (encB bs) a2 (wi s2) w ∧ at' ≤ a2 ∧ a2 ≤ at' + 2 ∧ 0 ≤ w ∧ w ≤ 65 := by
  obtain ⟨k, rfl⟩ : ∃ j, k = j + 1 := ⟨k - 1, by omega⟩
  rw [n29]
  obtain ⟨a2, s2, w, h, h2, h3, h4⟩ := among_ok hc (k := k) (by omega) h0 (by omega) s [1, 2, 3, 4, 8, 16, 32, 63, 64, 0, 65] (by simp)
  have h' : c37 k [PV.int .i64 1, PV.int .i64 2, PV.int .i64 3, PV.int .i64 4, PV.int .i64 8, PV.int .i64 16, PV.int .i64 32, PV.int .i64 63, PV.int .i64 64, PV.int .i64 0, PV.int .i64 65] (encB bs) at' (wi s) = _ := h
  rw [h']
  simp only [R37_r]
  refine ⟨a2, s2, w, rfl, h2, by omega, ?_⟩
  simp at h4
  omega
/-! ### What is good -/
def gdB (wide : Int) (x : Spn) : Bool := goodW wide x.2 && decide (x.1 ≤ x.2)
theorem gdB_iff {wide : Int} (hw : isW wide = true) {x : Spn} : gdB wide x = true ↔ GdS wide x := by
  unfold gdB goodW
  simp only [hw, Bool.true_and, Bool.and_eq_true, decide_eq_true_eq, BitVec.le_def]
  exact ⟨fun h => ⟨h.2, h.1⟩, fun h => ⟨h.top, h.le⟩⟩
theorem goodSpan_ok {k : Nat} (hk : 5 ≤ k) (wide : Int) (x : Spn) : c8 k wide (wi x.1) (wi x.2) = r8 (gdB wide x) := by
  obtain ⟨k, rfl⟩ : ∃ j, k = j + 1 := ⟨k - 1, by omega⟩
  rw [n8, goodWord_ok (by omega)]
  simp only [R25_r, gdB, wi_le_iff]
  cases goodW wide x.2 <;> rfl
theorem goodSpanS_ok {k : Nat} (hk : 100 ≤ k) (wide : Int) (x : Spn) : c32 k wide (wi x.1) (wi x.2) = r32 (gdB wide x) := by
  obtain ⟨k, rfl⟩ : ∃ j, k = j + 1 := ⟨k - 1, by omega⟩
  rw [n32, both_ok (by omega)]
  simp only [R63_r, gdB, wi_le_iff]
  cases h2 : goodW wide x.2
  · simp
  · by_cases h : x.1 ≤ x.2
    · have h1 : goodW wide x.1 = true := by
        simp only [goodW, Bool.and_eq_true, decide_eq_true_eq] at h2 ⊢
        exact ⟨h2.1, BitVec.le_trans h h2.2⟩
      simp [h1, h]
    · cases goodW wide x.1 <;> simp [h]
theorem nspan_loop {k : Nat} (w1 : Int) (f : Spn → Bool) (l : List (Spn)) (hl : l.length ≤ 100000) (hc : ∀ x ∈ l, c44 k (wi x.1) (wi x.2) w1 = r44 (f x)) : ∀ (n i : Nat), l.length - i < n → i ≤ l.length → L65f44_1 k n (encSp l) w1 (l.length : Int) (i : Int) = r65f44 (fixI f i (l.drop i))
  | 0, i, h, hi => by omega
  | n + 1, i, h, hi => by
    rw [sL65f44_1]
    by_cases hlt : i < l.length
    · have hd : decide ((i : Int) < (l.length : Int)) = true := by simpa using hlt
      have hnext : IntKind.i64.wrap ((i : Int) + 1) = ((i + 1 : Nat) : Int) := by rw [i64_id (by omega) (by omega)]; omega
      rw [hd, lookP_nat, encSp_get, List.getElem?_eq_getElem hlt, drop_cons hlt, hnext]
      simp only [cond_true, Option.map_some, Option.bind_some, encS_shp, encS_lo, encS_hi]
      rw [hc _ (List.getElem_mem hlt)]
      simp only [R44_r, fixI]
      cases f l[i]
      · exact nspan_loop w1 f l hl hc n (i + 1) (by omega) (by omega)
      · rfl
    · have hd : decide ((i : Int) < (l.length : Int)) = false := by simpa using hlt
      rw [hd, List.drop_eq_nil_of_le (by omega)]
      rfl
theorem nspan_idx {k : Nat} (hk : 100010 ≤ k) (w1 : Int) (f : Spn → Bool) (l : List (Spn)) (hl : l.length ≤ 100000) (hc : ∀ x ∈ l, c44 k (wi x.1) (wi x.2) w1 = r44 (f x)) : c65f44 (k + 1) (encSp l) w1 = r65f44 (fixI f 0 l) := by
  rw [n65f44, encSp_length]
  exact nspan_loop (k := k) w1 f l hl hc k 0 (by omega) (by omega)
theorem nspan_ok {k : Nat} (hk : 100010 ≤ k) (w1 : Int) (f : Spn → Bool) (l : List (Spn)) (hl : l.length ≤ 100000) (hc : ∀ x ∈ l, c44 k (wi x.1) (wi x.2) w1 = r44 (f x)) : c43f44 (k + 2) (encSp l) w1 = r43f44 (l.any f) := by
  rw [n43f44, nspan_idx (by omega) w1 f l hl hc]
  simp only [R65f44p_r, fixI_ge]
def spansB (wide : Int) (l : List Spn) : Bool := isV (l.length : Int) && l.all (gdB wide)
theorem spansB_iff {wide : Int} (hw : isW wide = true) {l : List Spn} : spansB wide l = true ↔ isV (l.length : Int) = true ∧ ∀ x ∈ l, GdS wide x := by
  simp only [spansB, Bool.and_eq_true, List.all_eq_true, gdB_iff hw]
theorem any_notB {α : Type} (f : α → Bool) : ∀ l : List α, (l.any fun x => !f x) = !l.all f
  | [] => rfl
  | x :: l => by simp [any_notB f l]
theorem areSpans_ok {k : Nat} (hk : 100100 ≤ k) (wide : Int) (l : List Spn) (hl : l.length ≤ 1000) : c19 k wide (encSp l) = r19 (spansB wide l) := by
  obtain ⟨k, rfl⟩ : ∃ j, k = j + 4 := ⟨k - 4, by omega⟩
  rw [n19, isVars_ok (by omega), encSp_length]
  simp only [R42_r, spansB]
  cases isV (l.length : Int)
  · rfl
  · simp only [cond_true, Bool.true_and]
    rw [nspan_ok (k := k + 1) (by omega) wide (fun x => !gdB wide x) l (by omega) (fun x hx => by
      rw [n44, goodSpan_ok (by omega)]
      simp only [R8_r])]
    simp only [R43f44p_r, any_notB, Bool.not_not]
theorem l18Spans_loop {k : Nat} (hk : 200 ≤ k) (wide : Int) (l : List Spn) (hl : l.length ≤ 1000) : ∀ (n i : Nat), l.length - i < n → i ≤ l.length → L23_1 k n wide (encSp l) (l.length : Int) (i : Int) = r23 ((l.drop i).all (gdB wide))
  | 0, i, h, hi => by omega
  | n + 1, i, h, hi => by
    rw [sL23_1]
    by_cases hlt : i < l.length
    · have hd : decide ((i : Int) < (l.length : Int)) = true := by simpa using hlt
      have hnext : IntKind.i64.wrap ((i : Int) + 1) = ((i + 1 : Nat) : Int) := by rw [i64_id (by omega) (by omega)]; omega
      rw [hd, lookSp hlt, drop_cons hlt, hnext]
      simp only [cond_true, Option.bind_some, encS_shp, encS_lo, encS_hi]
      rw [goodSpanS_ok (by omega)]
      simp only [R32_r, List.all_cons]
      cases gdB wide l[i]
      · rfl
      · exact l18Spans_loop hk wide l hl n (i + 1) (by omega) (by omega)
    · have hd : decide ((i : Int) < (l.length : Int)) = false := by simpa using hlt
      rw [hd, List.drop_eq_nil_of_le (by omega)]
      rfl
theorem l18Spans_ok {k : Nat} (hk : 100100 ≤ k) (wide : Int) (l : List Spn) (hl : l.length ≤ 1000) : c23 k wide (encSp l) = r23 (spansB wide l) := by
  obtain ⟨k, rfl⟩ : ∃ j, k = j + 1 := ⟨k - 1, by omega⟩
  rw [n23, in_ok (by omega), encSp_length]
  simp only [R53_r, spansB]
  have e : isV (l.length : Int) = (decide (1 ≤ (l.length : Int)) && decide ((l.length : Int) ≤ 4)) := rfl
  rw [e]
  cases (decide (1 ≤ (l.length : Int)) && decide ((l.length : Int) ≤ 4))
  · rfl
  · exact l18Spans_loop (k := k) (by omega) wide l hl k 0 (by omega) (by omega)
/-! ### What lies within -/
def inB : List Spn → List W → Bool
  | x :: l, v :: s => (decide (x.1 ≤ v) && decide (v ≤ x.2)) && inB l s
  | _, _ => true
structure AllIn (sp : List Spn) (s : List W) : Prop where
  len : s.length = sp.length
  at' : ∀ (i : Nat) (h : i < sp.length), InS sp[i] (s[i]'(by omega))
theorem inB_all : ∀ {sp : List Spn} {s : List W}, AllIn sp s → inB sp s = true
  | [], s, h => by cases s <;> rfl
  | x :: l, [], h => rfl
  | x :: l, v :: s, h => by
    have h0 := h.at' 0 (by simp)
    simp only [List.getElem_cons_zero] at h0
    have := inB_all (sp := l) (s := s) ⟨by have := h.len; simpa using this, fun i hi => by
      have := h.at' (i + 1) (by simp; omega)
      simpa using this⟩
    simp only [inB, this, Bool.and_true, Bool.and_eq_true, decide_eq_true_eq, BitVec.le_def]
    exact h0
def inOK (wide : Int) (sp : List Spn) (s : List W) : Bool := spansB wide sp && (decide (s.length = sp.length) && s.all (goodW wide))
theorem inI_loop {k : Nat} (hk : 10 ≤ k) (sp : List Spn) (s : List W) (hl : sp.length ≤ 1000) (hs : s.length = sp.length) : ∀ (n i : Nat), sp.length - i < n → i ≤ sp.length → L10_1 k n (encW s) (encSp sp) (sp.length : Int) (i : Int) = r10 (inB (sp.drop i) (s.drop i)) true
  | 0, i, h, hi => by omega
  | n + 1, i, h, hi => by
    rw [sL10_1]
    by_cases hlt : i < sp.length
    · have hd : decide ((i : Int) < (sp.length : Int)) = true := by simpa using hlt
      have hnext : IntKind.i64.wrap ((i : Int) + 1) = ((i + 1 : Nat) : Int) := by rw [i64_id (by omega) (by omega)]; omega
      have hl2 : i < s.length := by omega
      obtain ⟨k, rfl⟩ : ∃ j, k = j + 1 := ⟨k - 1, by omega⟩
      rw [hd, lookSp hlt, lookW hl2, drop_cons hlt, drop_cons hl2, hnext]
      simp only [cond_true, Option.bind_some, encS_shp, encS_lo, encS_hi, int_atInt, n27, wi_le_iff, inB]
      by_cases h1 : sp[i].1 ≤ s[i]
      · by_cases h2 : s[i] ≤ sp[i].2
        · simp only [h1, h2, decide_true, cond_true, R27_r, Bool.not_true, cond_false, Bool.and_self, Bool.true_and]
          exact inI_loop hk sp s hl hs n (i + 1) (by omega) (by omega)
        · simp only [h1, h2, decide_true, decide_false, cond_true, R27_r, Bool.not_false, Bool.and_false, Bool.false_and]
      · simp only [h1, decide_false, cond_false, R27_r, Bool.not_false, cond_true, Bool.false_and]
    · have hd : decide ((i : Int) < (sp.length : Int)) = false := by simpa using hlt
      rw [hd, List.drop_eq_nil_of_le (by omega)]
      rfl
theorem InSpI_ok {k : Nat} (hk : 1000100 ≤ k) (wide : Int) (sp : List Spn) (s : List W) (hl : sp.length ≤ 1000) (hs : s.length ≤ 1000) : c10 k wide (encSp sp) (encW s) = r10 (inOK wide sp s && inB sp s) (inOK wide sp s) := by
  obtain ⟨k, rfl⟩ : ∃ j, k = j + 1 := ⟨k - 1, by omega⟩
  rw [n10, areSpans_ok (by omega) wide sp hl, encSp_length]
  simp only [R19_r, inOK]
  cases h : spansB wide sp
  · rfl
  simp only [Bool.not_true, cond_false, Bool.true_and]
  rw [isState_ok (by omega) _ _ s (by omega)]
  simp only [R26_r]
  have hv : isV (sp.length : Int) = true := by simp only [spansB, Bool.and_eq_true] at h; exact h.1
  have hne : ∃ x l, sp = x :: l := by
    cases sp with
    | nil => simp [isV] at hv
    | cons x l => exact ⟨x, l, rfl⟩
  have hw : isW wide = true := by
    obtain ⟨x, l, rfl⟩ := hne
    simp only [spansB, List.all_cons, gdB, goodW, Bool.and_eq_true] at h
    exact h.2.1.1.1
  have e : stateOK wide (sp.length : Int) s = (decide (s.length = sp.length) && s.all (goodW wide)) := by
    unfold stateOK
    rw [hw, hv]
    have : decide ((s.length : Int) = (sp.length : Int)) = decide (s.length = sp.length) := by rw [Bool.eq_iff_iff]; simp only [decide_eq_true_eq]; omega
    rw [this]
    rfl
  rw [e]
  by_cases h1 : s.length = sp.length
  · have e1 : decide (s.length = sp.length) = true := by simpa using h1
    rw [e1]
    cases s.all (goodW wide)
    · rfl
    · simp only [Bool.not_true, cond_false, Bool.and_self, Bool.true_and]
      exact inI_loop (k := k) (by omega) sp s hl h1 k 0 (by omega) (by omega)
  · have e1 : decide (s.length = sp.length) = false := by simpa using h1
    rw [e1]
    rfl
/-! ### The span of a term -/
open Classical in
noncomputable def spanT (wide vars : Int) (sp : List Spn) (t : List Nd) : Spn := if h : goodT wide vars t = true then (Classical.choose (good_tree h)).span wide sp else (0#64, 0#64)
theorem spanT_tree {wide vars : Int} {t : List Nd} (h : goodT wide vars t = true) (sp : List Spn) : ∃ T : Tr, T.flat = t ∧ T.ok wide vars ∧ T.kind = kindT wide vars t ∧ spanT wide vars sp t = T.span wide sp := by
  obtain ⟨h1, h2, h3⟩ := Classical.choose_spec (good_tree h)
  exact ⟨_, h1, h2, h3, by unfold spanT; rw [dif_pos h]⟩
theorem spanT_gd {wide vars : Int} (hw : isW wide = true) (hv : isV vars = true) {sp : List Spn} (hs : (sp.length : Int) = vars) (hg : ∀ x ∈ sp, GdS wide x) {t : List Nd} (h : goodT wide vars t = true) : GdS wide (spanT wide vars sp t) := by
  obtain ⟨T, h1, h2, h3, h4⟩ := spanT_tree h sp
  rw [h4]
  exact (span_gd hw hv sp hs hg T h2).1
theorem spanT_in {wide vars : Int} (hw : isW wide = true) (hv : isV vars = true) {sp : List Spn} (hs : (sp.length : Int) = vars) (hg : ∀ x ∈ sp, GdS wide x) {t : List Nd} (h : goodT wide vars t = true) {s : List W} (hin : AllIn sp s) : vrun wide s t [] = some [valD wide s t] ∧ InS (spanT wide vars sp t) (valD wide s t) := by
  obtain ⟨T, h1, h2, h3, h4⟩ := spanT_tree h sp
  have hsl := hin.len
  have hin' : ∀ (S : Tr), S.ok wide vars → S.inS s := by
    intro S
    induction S with
    | leaf x =>
      intro ho h2
      have := (leaf_run hv ho.2.2).2.2 h2
      omega
    | un x a ih => intro ho; exact ih ho.2.2.2.2
    | bin x a b iha ihb => intro ho; exact ⟨iha ho.2.2.2.2.2.1, ihb ho.2.2.2.2.2.2⟩
  have hr := T.run_val s h2 (hin' T h2) []
  rw [h1] at hr
  have hv' := valD_of hr
  rw [hv', h4]
  exact ⟨hr, span_in hw hv sp hs hg hsl hin.at' T h2⟩
theorem spanI_ok {k : Nat} (hk : 2000 ≤ k) {wide vars : Int} (hw : isW wide = true) (hv : isV vars = true) {sp : List Spn} (hs : (sp.length : Int) = vars) (hg : ∀ x ∈ sp, GdS wide x) {t : List Nd} (h : goodT wide vars t = true) : c21 k wide (encT t) (encSp sp) = r21 (wi (spanT wide vars sp t).1) (wi (spanT wide vars sp t).2) := by
  obtain ⟨k, rfl⟩ : ∃ j, k = j + 1 := ⟨k - 1, by omega⟩
  obtain ⟨T, h1, h2, h3, h4⟩ := spanT_tree h sp
  have hlen := (good_len h).2.2
  have hTl : T.flat.length = t.length := by rw [h1]
  rw [n21, mk_ok (by omega) hw, h4]
  simp only [R50_r, encT_length]
  have := spanI_run hw hv sp hs hg (k := k) (by omega) T t [] [] (k - 1 - T.flat.length + 1) [] h2 (by simp [h1]) (by omega) (by simp; omega)
  have e : k - 1 - T.flat.length + 1 + T.flat.length = k := by omega
  rw [e] at this
  have h' : L21_1 k k (encSp sp) 0 (encT t) (t.length : Int) 0 0 0 0 (wi (mk wide)) [] = _ := this
  rw [h', sL21_1]
  have e2 : decide (((([] : List Nd).length + T.flat.length : Nat) : Int) < (t.length : Int)) = false := by simp; omega
  rw [e2]
  rfl
theorem spanS_ok {k : Nat} (hk : 2000 ≤ k) {wide vars : Int} (hw : isW wide = true) (hv : isV vars = true) {sp : List Spn} (hs : (sp.length : Int) = vars) (hg : ∀ x ∈ sp, GdS wide x) {t : List Nd} (h : goodT wide vars t = true) : c24 k wide (encT t) (IntKind.i64.wrap ((t.length : Int) - 1)) (encSp sp) = r24 (wi (spanT wide vars sp t).1) (wi (spanT wide vars sp t).2) := by
  obtain ⟨T, h1, h2, h3, h4⟩ := spanT_tree h sp
  have hlen := (good_len h).2.2
  have hTl : T.flat.length = t.length := by rw [h1]
  have hp := T.flat_pos
  rw [h4]
  have := l18_tree hw hv sp hs hg T t [] [] k h2 (by simp [h1]) (by omega) (by omega)
  rw [i64_id (by omega) (by omega), show (t.length : Int) - 1 = ((([] : List Nd).length + T.flat.length - 1 : Nat) : Int) by simp; omega]
  exact this
/-! ### A state within -/
theorem state_pick {x : Spn} (hx : x.1.toNat ≤ x.2.toNat) {v d : Int} (h0 : 0 ≤ v) (h1 : v < 1000003) (hd0 : 1 ≤ d) (hd : d ≤ 1000) :
    (decide (IntKind.u64.wrap (wi x.2 - wi x.1) < 1000000) = true → (IntKind.u64.wrap ((IntKind.u64.wrap (wi x.2 - wi x.1)) + 1) == 0) = false ∧ ∃ w, IntKind.u64.wrap (wi x.1 + ((IntKind.u64.wrap (IntKind.i64.wrap (v.tdiv d))).tmod (IntKind.u64.wrap ((IntKind.u64.wrap (wi x.2 - wi x.1)) + 1)))) = wi w ∧ InS x w) ∧
    (decide (IntKind.u64.wrap (wi x.2 - wi x.1) < 1000000) = false → ∃ w, IntKind.u64.wrap (wi x.1 + ((IntKind.u64.wrap (IntKind.i64.wrap (v.tdiv d))).tmod 1000000)) = wi w ∧ InS x w) := by
  have e1 : IntKind.u64.wrap (wi x.2 - wi x.1) = ((x.2.toNat - x.1.toNat : Nat) : Int) := by
    rw [sub_wi]; unfold wi; rw [BitVec.toNat_sub_of_le (by rw [BitVec.le_def]; exact hx)]
  have q0 : 0 ≤ v.tdiv d := Int.tdiv_nonneg h0 (by omega)
  have q1 : v.tdiv d ≤ v := by
    rw [Int.tdiv_eq_ediv_of_nonneg h0]
    exact Int.ediv_le_self _ h0
  have hlt := x.2.isLt
  have mkW : ∀ z : Int, (x.1.toNat : Int) ≤ z → z ≤ (x.2.toNat : Int) → ∃ w, IntKind.u64.wrap z = wi w ∧ InS x w := by
    intro z z1 z2
    refine ⟨BitVec.ofInt 64 z, wrapU z, ?_⟩
    have e : wi (BitVec.ofInt 64 z) = z := by rw [← wrapU, u64_id (by omega) (by omega)]
    unfold wi at e
    exact ⟨by omega, by omega⟩
  rw [e1, i64_id (by omega) (by omega), u64_id (n := v.tdiv d) (by omega) (by omega)]
  generalize v.tdiv d = q at *
  constructor
  · intro h
    simp only [decide_eq_true_eq] at h
    rw [u64_id (n := ((x.2.toNat - x.1.toNat : Nat) : Int) + 1) (by omega) (by omega)]
    refine ⟨by simp; omega, mkW _ ?_ ?_⟩
    · unfold wi
      have := Int.tmod_nonneg (((x.2.toNat - x.1.toNat : Nat) : Int) + 1) q0
      omega
    · unfold wi
      have := Int.tmod_lt_of_pos q (b := ((x.2.toNat - x.1.toNat : Nat) : Int) + 1) (by omega)
      omega
  · intro h
    simp only [decide_eq_false_iff_not] at h
    refine mkW _ ?_ ?_
    · unfold wi
      have := Int.tmod_nonneg 1000000 q0
      omega
    · unfold wi
      have := Int.tmod_lt_of_pos q (b := 1000000) (by omega)
      omega
end Go.Proofs.Ytclkgblckicabaa
/- FnSpanned: what is drawn; the law. -/
set_option linter.unusedVariables false
set_option linter.unusedSimpArgs false
set_option linter.unusedSectionVars false
set_option maxRecDepth 4000
namespace Go.Proofs.Ytclkgblckicabaa
open Go.Dp

def soOK (wide : Int) (sp : List Spn) (t : List Nd) : Bool := spansB wide sp && goodT wide (sp.length : Int) t
noncomputable def soV (wide : Int) (sp : List Spn) (t : List Nd) : Spn := bif soOK wide sp t then spanT wide (sp.length : Int) sp t else (0#64, 0#64)
theorem soOK_get {wide : Int} {sp : List Spn} {t : List Nd} (h : soOK wide sp t = true) : isW wide = true ∧ isV (sp.length : Int) = true ∧ (∀ x ∈ sp, GdS wide x) ∧ goodT wide (sp.length : Int) t = true ∧ t.length ≤ 48 := by
  simp only [soOK, Bool.and_eq_true] at h
  obtain ⟨hw, hv, hl⟩ := good_len h.2
  exact ⟨hw, hv, ((spansB_iff hw).1 h.1).2, h.2, hl⟩
theorem SpanI_ok {k : Nat} (hk : 1000500 ≤ k) (wide : Int) (sp : List Spn) (t : List Nd) (hl : sp.length ≤ 1000) (ht : t.length ≤ 1000) : c6 k wide (encT t) (encSp sp) = r6 (wi (soV wide sp t).1) (wi (soV wide sp t).2) (soOK wide sp t) := by
  obtain ⟨k, rfl⟩ : ∃ j, k = j + 1 := ⟨k - 1, by omega⟩
  rw [n6, areSpans_ok (by omega) wide sp hl, encSp_length]
  simp only [R19_r, soV]
  cases h1 : spansB wide sp
  · have : soOK wide sp t = false := by simp [soOK, h1]
    rw [this]; rfl
  simp only [Bool.not_true, cond_false]
  rw [goodTerm_ok (by omega) _ _ _ (by omega)]
  simp only [R20_r]
  cases h2 : goodT wide (sp.length : Int) t
  · have : soOK wide sp t = false := by simp [soOK, h2]
    rw [this]; rfl
  · have hok : soOK wide sp t = true := by simp [soOK, h1, h2]
    obtain ⟨hw, hv, hg, hgt, _⟩ := soOK_get hok
    simp only [Bool.not_true, cond_false]
    rw [spanI_ok (by omega) hw hv rfl hg hgt, hok]
    simp only [R21_r]
    rfl
theorem SpanS_ok {k : Nat} (hk : 1000500 ≤ k) (wide : Int) (sp : List Spn) (t : List Nd) (hl : sp.length ≤ 1000) (ht : t.length ≤ 1000) : c7 k wide (encT t) (encSp sp) = r7 (wi (soV wide sp t).1) (wi (soV wide sp t).2) (soOK wide sp t) := by
  obtain ⟨k, rfl⟩ : ∃ j, k = j + 1 := ⟨k - 1, by omega⟩
  rw [n7, encSp_length, goodTermS_ok (by omega) _ _ _ (by omega)]
  simp only [R22_r, soV]
  cases h2 : goodT wide (sp.length : Int) t
  · have : soOK wide sp t = false := by simp [soOK, h2]
    rw [this]; rfl
  simp only [Bool.not_true, cond_false]
  rw [l18Spans_ok (by omega) wide sp hl]
  simp only [R23_r]
  cases h1 : spansB wide sp
  · have : soOK wide sp t = false := by simp [soOK, h1]
    rw [this]; rfl
  · have hok : soOK wide sp t = true := by simp [soOK, h1, h2]
    obtain ⟨hw, hv, hg, hgt, _⟩ := soOK_get hok
    simp only [Bool.not_true, cond_false, encT_length]
    rw [spanS_ok (by omega) hw hv rfl hg hgt, hok]
    simp only [R24_r]
    rfl
def joOK (wide : Int) (a b : Spn) : Bool := gdB wide a && gdB wide b
def joV (wide : Int) (a b : Spn) : Spn := bif joOK wide a b then joinS a b else (0#64, 0#64)
def meetS (a b : Spn) : Spn := (hiW a.1 b.1, loW a.2 b.2)
def meOK (wide : Int) (a b : Spn) : Bool := joOK wide a b && decide ((hiW a.1 b.1).toNat ≤ (loW a.2 b.2).toNat)
def meV (wide : Int) (a b : Spn) : Spn := bif meOK wide a b then meetS a b else (0#64, 0#64)
theorem JoinI_ok {k : Nat} (hk : 200 ≤ k) (wide : Int) (a b : Spn) : c13 k wide (wi a.1) (wi a.2) (wi b.1) (wi b.2) = r13 (wi (joV wide a b).1) (wi (joV wide a b).2) (joOK wide a b) := by
  obtain ⟨k, rfl⟩ : ∃ j, k = j + 1 := ⟨k - 1, by omega⟩
  rw [n13, goodSpan_ok (by omega), goodSpan_ok (by omega), joinI_ok (by omega)]
  simp only [R8_r, R31_r, joV, joOK]
  cases gdB wide a <;> cases gdB wide b <;> rfl
theorem JoinS_ok {k : Nat} (hk : 200 ≤ k) (wide : Int) (a b : Spn) : c14 k wide (wi a.1) (wi a.2) (wi b.1) (wi b.2) = r14 (wi (joV wide a b).1) (wi (joV wide a b).2) (joOK wide a b) := by
  obtain ⟨k, rfl⟩ : ∃ j, k = j + 1 := ⟨k - 1, by omega⟩
  rw [n14, goodSpanS_ok (by omega), goodSpanS_ok (by omega), joinSS_ok (by omega)]
  simp only [R32_r, R33_r, joV, joOK]
  cases gdB wide a <;> cases gdB wide b <;> rfl
theorem gt_meet (a b : Spn) : decide (wi (hiW a.1 b.1) > wi (loW a.2 b.2)) = !decide ((hiW a.1 b.1).toNat ≤ (loW a.2 b.2).toNat) := by
  unfold wi
  rw [Bool.eq_iff_iff]
  simp
theorem MeetI_ok {k : Nat} (hk : 200 ≤ k) (wide : Int) (a b : Spn) : c15 k wide (wi a.1) (wi a.2) (wi b.1) (wi b.2) = r15 (wi (meV wide a b).1) (wi (meV wide a b).2) (meOK wide a b) := by
  obtain ⟨k, rfl⟩ : ∃ j, k = j + 2 := ⟨k - 2, by omega⟩
  rw [n15, goodSpan_ok (by omega), goodSpan_ok (by omega), n34, maxI_wi, minI_wi, gt_meet]
  simp only [R8_r, meV, meOK, joOK]
  cases gdB wide a <;> cases gdB wide b <;> cases decide ((hiW a.1 b.1).toNat ≤ (loW a.2 b.2).toNat) <;> rfl
theorem MeetS_ok {k : Nat} (hk : 200 ≤ k) (wide : Int) (a b : Spn) : c16 k wide (wi a.1) (wi a.2) (wi b.1) (wi b.2) = r16 (wi (meV wide a b).1) (wi (meV wide a b).2) (meOK wide a b) := by
  obtain ⟨k, rfl⟩ : ∃ j, k = j + 1 := ⟨k - 1, by omega⟩
  rw [n16, goodSpanS_ok (by omega), goodSpanS_ok (by omega), most_ok (by omega), least_ok (by omega)]
  simp only [R32_r, R35_r, R36_r, gt_meet, meV, meOK, joOK]
  cases gdB wide a <;> cases gdB wide b <;> cases decide ((hiW a.1 b.1).toNat ≤ (loW a.2 b.2).toNat) <;> rfl
/-! ### What is drawn -/
theorem drawSpan_ok {bs : List Nat} (hc : CodeOK bs) {k : Nat} (hk : 2500 ≤ k) : ∃ w t sp, c5 k (encB bs) = r5 w (encT t) (encSp sp) ∧ t.length ≤ 100 ∧ sp.length ≤ 100 := by
  obtain ⟨k, rfl⟩ : ∃ j, k = j + 1 := ⟨k - 1, by omega⟩
  rw [n5]
  obtain ⟨a2, s2, w, vars, t, h, h2, h3, h4, h5, h6, h7, h8⟩ := term_ok hc (k := k) (by omega) (at' := 0) (by omega) (by omega) 0#64
  have h' : c17 k (encB bs) 0 0 = _ := h
  rw [h']
  simp only [R17_r]
  obtain ⟨a3, s3, sp, h, h9, h10, h11, _⟩ := spans_ok hc (k := k) (by omega) (wide := w) (vars := vars) (by omega) (by omega) (by omega) (at' := a2) (by omega) (by omega) s2
  rw [h]
  simp only [R18_r]
  exact ⟨w, t, sp, rfl, h8, h11⟩
theorem drawJoin_ok {bs : List Nat} (hc : CodeOK bs) {k : Nat} (hk : 2500 ≤ k) : ∃ (w : Int) (a b : Spn), c12 k (encB bs) = r12 w (wi a.1) (wi a.2) (wi b.1) (wi b.2) := by
  obtain ⟨k, rfl⟩ : ∃ j, k = j + 1 := ⟨k - 1, by omega⟩
  rw [n12]
  obtain ⟨a2, s2, w, h, h2, h3, h4, h5⟩ := width_ok hc (k := k) (by omega) (at' := 0) (by omega) (by omega) 0#64
  have h' : c29 k (encB bs) 0 0 = _ := h
  rw [h']
  simp only [R29_r]
  obtain ⟨a3, s3, a, h, h6, h7⟩ := span1_ok hc (k := k) (by omega) h4 h5 (at' := a2) (by omega) (by omega) s2
  rw [h]
  simp only [R30_r]
  obtain ⟨a4, s4, b, h, h8, h9⟩ := span1_ok hc (k := k) (by omega) h4 h5 (at' := a3) (by omega) (by omega) s3
  rw [h]
  simp only [R30_r]
  exact ⟨w, a, b, rfl⟩
/-! ### The law -/
theorem spanned_end {k : Nat} (hk : 1001000 ≤ k) {more : List Nat} (hm : CodeOK more) : (R12 (c12 k (encB more)) fun v4 v5 v6 v7 v8 =>
       R13 (c13 k v4 v5 v6 v7 v8) fun v9 v10 b4 =>
       R14 (c14 k v4 v5 v6 v7 v8) fun v11 v12 b5 =>
       R15 (c15 k v4 v5 v6 v7 v8) fun v13 v14 b6 =>
       R16 (c16 k v4 v5 v6 v7 v8) fun v15 v16 b7 =>
       bif (!(b4 == b5)) then
        r3 false
       else
        bif (!((v9 == v11) && ((v10 == v12) && true))) then
         r3 false
        else
         bif (!(b6 == b7)) then
          r3 false
         else
          bif (!((v13 == v15) && ((v14 == v16) && true))) then
           r3 false
          else
           bif !b6 then
            r3 true
           else
            bif b4 then
            bif decide (v13 ≥ v5) then
            bif decide (v13 ≥ v7) then
            bif decide (v14 ≤ v6) then
            bif decide (v14 ≤ v8) then
            bif decide (v9 ≤ v13) then
            r3 (decide (v10 ≥ v14))
            else r3 false
            else r3 false
            else r3 false
            else r3 false
            else r3 false
            else r3 false) = r3 true := by
  obtain ⟨w, a, b, h⟩ := drawJoin_ok hm (k := k) (by omega)
  rw [h]
  simp only [R12_r]
  rw [JoinI_ok (by omega) w a b, JoinS_ok (by omega) w a b, MeetI_ok (by omega) w a b, MeetS_ok (by omega) w a b]
  simp only [R13_r, R14_r, R15_r, R16_r, beq_self_eq_true, Bool.not_true, cond_false, Bool.and_self]
  cases hq : meOK w a b
  · rfl
  · have hq' := hq
    simp only [meOK, Bool.and_eq_true, decide_eq_true_eq] at hq
    have e1 : joV w a b = joinS a b := by unfold joV; rw [hq.1]; rfl
    have e2 : meV w a b = meetS a b := by unfold meV; rw [hq']; rfl
    rw [hq.1, e1, e2]
    have m1 := hq.2
    rw [hiW_nat, loW_nat] at m1
    have d1 : decide (wi (meetS a b).1 ≥ wi a.1) = true := by unfold wi; show decide (((hiW a.1 b.1).toNat : Int) ≥ _) = true; rw [hiW_nat]; simp; omega
    have d2 : decide (wi (meetS a b).1 ≥ wi b.1) = true := by unfold wi; show decide (((hiW a.1 b.1).toNat : Int) ≥ _) = true; rw [hiW_nat]; simp; omega
    have d3 : decide (wi (meetS a b).2 ≤ wi a.2) = true := by unfold wi; show decide (((loW a.2 b.2).toNat : Int) ≤ _) = true; rw [loW_nat]; simp; omega
    have d4 : decide (wi (meetS a b).2 ≤ wi b.2) = true := by unfold wi; show decide (((loW a.2 b.2).toNat : Int) ≤ _) = true; rw [loW_nat]; simp; omega
    have d5 : decide (wi (joinS a b).1 ≤ wi (meetS a b).1) = true := by unfold wi; show decide (((loW a.1 b.1).toNat : Int) ≤ ((hiW a.1 b.1).toNat : Int)) = true; rw [loW_nat, hiW_nat]; simp; omega
    have d6 : decide (wi (joinS a b).2 ≥ wi (meetS a b).2) = true := by unfold wi; show decide (((hiW a.2 b.2).toNat : Int) ≥ ((loW a.2 b.2).toNat : Int)) = true; rw [loW_nat, hiW_nat]; simp; omega
    rw [d1, d2, d3, d4, d5, d6]
    rfl
theorem spanned_state {k : Nat} (hk : 1048600 ≤ k) {more : List Nat} (hm : CodeOK more) {wide : Int} {sp : List Spn} (hsl : sp.length ≤ 100) {t : List Nd} (hok : soOK wide sp t = true) : ∀ (n i : Nat) (st : List W), sp.length - i < n → i ≤ sp.length → st.length = i → (∀ (j : Nat) (h1 : j < i) (h2 : j < sp.length) (h3 : j < st.length), InS sp[j] st[j]) →
    L3_1 k n (encB more) wide (encT t) (encSp sp) st.length (encSp sp) (sp.length : Int) (i : Int) (wi (soV wide sp t).1) (wi (soV wide sp t).2) (encW st) = r3 true
  | 0, i, st, hn, hi, hst, hin => by omega
  | n + 1, i, st, hn, hi, hst, hin => by
    obtain ⟨hw, hv, hg, hgt, htl⟩ := soOK_get hok
    have etk : (encW st).take st.length = encW st := by rw [List.take_of_length_le (by simp)]
    rw [sL3_1]
    by_cases hlt : i < sp.length
    · have hd : decide ((i : Int) < (sp.length : Int)) = true := by simpa using hlt
      have hnext : IntKind.i64.wrap ((i : Int) + 1) = ((i + 1 : Nat) : Int) := by rw [i64_id (by omega) (by omega)]; omega
      have hz : (((i + 1 : Nat) : Int) == 0) = false := by simp; omega
      obtain ⟨v, hvv, v0, v1⟩ := numberOf_ok (k := k) (by omega) hm
      have hgd := hg _ (List.getElem_mem hlt)
      obtain ⟨q1, q2⟩ := state_pick hgd.le (v := v) (d := ((i + 1 : Nat) : Int)) v0 v1 (by omega) (by omega)
      have go : ∀ w : W, InS sp[i] w → L3_1 k n (encB more) wide (encT t) (encSp sp) (st.length + 1) (encSp sp) (sp.length : Int) ((i + 1 : Nat) : Int) (wi (soV wide sp t).1) (wi (soV wide sp t).2) (encW st ++ [PV.int .u64 (wi w)]) = r3 true := by
        intro w hw
        rw [encW_snoc]
        have := spanned_state hk hm hsl hok n (i + 1) (st ++ [w]) (by omega) (by omega) (by simp; omega) (fun j h1 h2 h3 => by
          by_cases hj : j < i
          · rw [List.getElem_append_left (by omega)]
            exact hin j hj h2 (by omega)
          · have : j = i := by omega
            subst this
            rw [List.getElem_append_right (by omega)]
            simpa [hst] using hw)
        rw [List.length_append] at this
        exact this
      rw [hd, lookSp hlt, hnext, hvv, etk]
      simp only [cond_true, Option.bind_some, encS_shp, encS_lo, encS_hi, R9_r, hz, Bool.not_false]
      rw [lim_ok (by omega) (by omega)]
      cases hb : decide (IntKind.u64.wrap (wi sp[i].2 - wi sp[i].1) < 1000000)
      · obtain ⟨w, e, hw⟩ := q2 hb
        simp only [cond_false, cond_true]
        rw [e]
        exact go w hw
      · obtain ⟨e0, w, e, hw⟩ := q1 hb
        simp only [cond_true, e0, Bool.not_false]
        rw [e]
        exact go w hw
    · have hd : decide ((i : Int) < (sp.length : Int)) = false := by simpa using hlt
      have hall : AllIn sp st := ⟨by omega, fun j hj => hin j (by omega) hj (by omega)⟩
      have hlen : st.length = sp.length := by omega
      have hmk : ∀ a ∈ st, goodW wide a = true := by
        intro a ha
        obtain ⟨j, hj, rfl⟩ := List.getElem_of_mem ha
        have h1 := hall.at' j (by omega)
        have h2 := (hg _ (List.getElem_mem (show j < sp.length by omega))).top
        have h3 : st[j] ≤ maskB wide.toNat := by rw [BitVec.le_def]; exact Nat.le_trans h1.2 h2
        simp [goodW, hw, h3]
      have hsp : spansB wide sp = true := by simp only [soOK, Bool.and_eq_true] at hok; exact hok.1
      have hio : inOK wide sp st = true := by
        simp only [inOK, hsp, hlen, decide_true, Bool.true_and, List.all_eq_true]
        exact hmk
      have hso : stateOK wide (st.length : Int) st = true := by
        simp only [stateOK, hw, hlen, hv, decide_true, Bool.and_self, Bool.true_and, List.all_eq_true]
        exact hmk
      obtain ⟨hrun, hin2⟩ := spanT_in hw hv (vars := (sp.length : Int)) rfl hg hgt hall
      have eV : soV wide sp t = spanT wide (sp.length : Int) sp t := by unfold soV; rw [hok]; rfl
      rw [hd, etk, InSpI_ok (by omega) wide sp st (by omega) (by omega), hio, inB_all hall, valueOf_full (by omega) wide t (by omega) st (by omega) hso (by rw [hlen]; exact hgt) hrun, eV]
      simp only [cond_false, R10p_r, R11p_r, Bool.and_self, Bool.not_true]
      have d1 : decide (wi (valD wide st t) < wi (spanT wide (sp.length : Int) sp t).1) = false := by unfold wi; have := hin2.1; simp; omega
      have d2 : decide (wi (valD wide st t) > wi (spanT wide (sp.length : Int) sp t).2) = false := by unfold wi; have := hin2.2; simp; omega
      rw [d1, d2]
      simp only [cond_false]
      exact spanned_end (by omega) hm
theorem spanned_true {k : Nat} (hk : 1048700 ≤ k) (code more : List Nat) (hc : ∀ b ∈ code, b < 256) (hm : ∀ b ∈ more, b < 256) : c3 k (encB code) (encB more) = r3 true := by
  obtain ⟨k, rfl⟩ : ∃ j, k = j + 1 := ⟨k - 1, by omega⟩
  rw [n3, big_ok (by omega)]
  simp only [R4_r]
  cases hbig : (decide (code.length > 1048576) || decide (more.length + code.length > 1048576))
  · simp only [cond_false]
    rw [Bool.or_eq_false_iff] at hbig
    have hl : code.length ≤ 1048576 ∧ more.length ≤ 1048576 := by
      have h1 := hbig.1
      have h2 := hbig.2
      simp at h1 h2
      omega
    have hcc : CodeOK code := ⟨hl.1, hc⟩
    have hmm : CodeOK more := ⟨hl.2, hm⟩
    obtain ⟨w, t, sp, h, h1, h2⟩ := drawSpan_ok hcc (k := k) (by omega)
    have hend := spanned_end (k := k) (by omega) hmm
    rw [h]
    simp only [R5_r]
    rw [SpanI_ok (by omega) w sp t (by omega) (by omega), SpanS_ok (by omega) w sp t (by omega) (by omega)]
    simp only [R6_r, R7_r, beq_self_eq_true, Bool.not_true, cond_false, Bool.and_self]
    cases hok : soOK w sp t
    · simp only [cond_false]
      exact hend
    · obtain ⟨hw, hv, hg, hgt, htl⟩ := soOK_get hok
      have eV : soV w sp t = spanT w (sp.length : Int) sp t := by unfold soV; rw [hok]; rfl
      have hgd : gdB w (soV w sp t) = true := by rw [eV]; exact (gdB_iff hw).2 (spanT_gd hw hv rfl hg hgt)
      simp only [cond_true]
      rw [goodSpan_ok (by omega), hgd]
      simp only [R8_r, Bool.not_true, cond_false, encSp_length]
      exact spanned_state (k := k) (by omega) hmm h2 hok k 0 [] (by omega) (by omega) rfl (fun j h1 => by omega)
  · rfl
theorem lawFnSpanned (code more : List Int) (hc : ∀ n ∈ code, (Lit.int .u8 n).wf = true) (hm : ∀ n ∈ more, (Lit.int .u8 n).wf = true) : Contract Try.prog 3 (([.row 0 0 (ints .u8 code), .row 0 0 (ints .u8 more)] : List PV).map .p) [] ([.c (.p (.bool true))], []) := by
  obtain ⟨e1, h1⟩ := ints_encB code hc
  obtain ⟨e2, h2⟩ := ints_encB more hm
  rw [e1, e2]
  exact evF_sound envOK pOK (T := T) hT 1048700 (spanned_true (k := 1048700) (Nat.le_refl _) _ _ h1 h2)
end Go.Proofs.Ytclkgblckicabaa
/- The law FnSpanned of the program: for all arguments it returns true, and its arguments read as they did. -/
namespace Go.Proofs.Ytclkgblckicabaa.fnSpanned
open Go.ChangeShapes Go.WideShapes Go.ChangeAt Go.RowKit Go.Dp
open Go.ChangeMaps (open_string shut_string)
set_option linter.unusedVariables false
theorem own : ownKnob Try.prog.godebug = none := by kernel_rfl
theorem laidOut : laidOutB Try.prog = true := by kernel_rfl
theorem spot_none {P : Program} {w : World} {r : Reach} {base : Nat} {t e : TypeId} {x : Addr} {len cap : Nat} (ht : P.underlying t = some (.slice e)) (h : Value.okWide P w r base t (.slice (some x) len cap)) : x.spot = none := by
  simp only [Value.okWide, ht, Cell.okWide, Cell.ok] at h
  exact h.2.2.2.1
set_option maxRecDepth 100000 in
theorem lifted (os : Os) (started : os.Started) (H : Type) (enc : TypeId × Value → H) :
    ReturnsInHanded {} Try.checked os 3 .any (Rows.fnSpannedSpec.pre6 enc Try.prog Try.f3 Rows.fnSpannedRow.domain false) (Rows.fnSpannedSpec.post enc Try.prog Try.f3 false true false false) := by
  refine returnsInHanded_of_change_sized (C := Try.checked) own started (by kernel_rfl) Try.func3
    (ChangeSpec.witness6 (enc := enc) (C := Try.checked) false ⟨#[], #[.slice none 0 0, .slice none 0 0], []⟩ 8 (by kernel_rfl) (by kernel_rfl) (by kernel_rfl) (by kernel_rfl)) ?_
  intro W base args ds gs before hval0 hW hcnd hsz0 _
  have hval : ∀ (j : Nat) t v, Try.f3.params[j]? = some t → args[j]? = some v → Value.okWide Try.prog W .any base t v := hval0
  have hW' := hW
  obtain ⟨p, q, hA0, hV, rfl, hfz, hnd⟩ := hW
  have hA : DataW.TrodAll enc Try.prog W 0 (fun _ => true) true Try.f3.params.toList args.toList ds p := hA0
  rw [Try.params3] at hA hval
  obtain ⟨v0, vs0, d0, ds0, p0, q0, hargs, rfl, rfl, h0, r0⟩ := trodAll_cons hA
  obtain ⟨v1, vs1, d1, ds1, p1, q1, rfl, rfl, rfl, h1, r1⟩ := trodAll_cons r0
  obtain ⟨rfl, rfl, rfl⟩ := trodAll_nil r1
  obtain rfl : args = #[v0, v1] := by cases args; simp_all
  obtain ⟨rfl, rfl⟩ := trodVars_none hV
  have o0 := hval 0 22 v0 rfl rfl
  obtain ⟨a0, len0, cap0, rfl⟩ := okWide_slice Try.underlying22 o0
  have k0 := h0
  have lt0 : ∀ x ∈ p0, x.block < W.heap.size := by obtain ⟨m, hm⟩ := k0; exact DataW.trod_lt m _ _ _ hm
  obtain ⟨z0, w0⟩ : ∃ zs, IsRow .u8 W a0 len0 cap0 zs := by
    obtain ⟨fuel, hf⟩ := h0
    rcases open_ints Try.underlying22 Try.underlying5 (by kernel_rfl) hf with ⟨hcs, _⟩ | ⟨x, l, c, zs, hcs, _, hl, hm, hz, _, hcell, hwz⟩
    · simp [Value.cells] at hcs
      obtain ⟨rfl, rfl, rfl⟩ := hcs
      exact ⟨[], .inl ⟨rfl, rfl, rfl, rfl⟩⟩
    · simp [Value.cells] at hcs
      obtain ⟨rfl, rfl, rfl⟩ := hcs
      exact ⟨zs, .inr ⟨_, rfl, spot_none Try.underlying22 o0, hl, hm, by simpa using hz, hcell, hwz⟩⟩
  have o1 := hval 1 22 v1 rfl rfl
  obtain ⟨a1, len1, cap1, rfl⟩ := okWide_slice Try.underlying22 o1
  have k1 := h1
  have lt1 : ∀ x ∈ p1, x.block < W.heap.size := by obtain ⟨m, hm⟩ := k1; exact DataW.trod_lt m _ _ _ hm
  obtain ⟨z1, w1⟩ : ∃ zs, IsRow .u8 W a1 len1 cap1 zs := by
    obtain ⟨fuel, hf⟩ := h1
    rcases open_ints Try.underlying22 Try.underlying5 (by kernel_rfl) hf with ⟨hcs, _⟩ | ⟨x, l, c, zs, hcs, _, hl, hm, hz, _, hcell, hwz⟩
    · simp [Value.cells] at hcs
      obtain ⟨rfl, rfl, rfl⟩ := hcs
      exact ⟨[], .inl ⟨rfl, rfl, rfl, rfl⟩⟩
    · simp [Value.cells] at hcs
      obtain ⟨rfl, rfl, rfl⟩ := hcs
      exact ⟨zs, .inr ⟨_, rfl, spot_none Try.underlying22 o1, hl, hm, by simpa using hz, hcell, hwz⟩⟩
  clear hA0 hval0 hsz0
  refine (law_walk (P := Try.prog) (f := 3) (vs := [.row 0 0 (ints .u8 (z0.take len0)), .row 0 0 (ints .u8 (z1.take len1))]) (ys := [.slice a0 len0 cap0, .slice a1 len1 cap1]) rfl ?_ (lawFnSpanned (z0.take len0) (z1.take len1) (fun n hn => w0.wf n (List.mem_of_mem_take hn)) (fun n hn => w1.wf n (List.mem_of_mem_take hn)))).mono fun e W' ⟨he, bel⟩ => ?_
  · intro i a y ha hy
    cases i with
    | zero => simp at ha hy; subst ha; subst hy; exact w0.rp
    | succ i =>
      cases i with
      | zero => simp at ha hy; subst ha; subst hy; exact w1.rp
      | succ i =>
        simp at ha
  subst he
  exact ⟨_, rfl, _, _, _, [], _, [], hW', trodAll_mk1 (shut_bool Try.underlying4 _), (trodAll_cons_mk (Below.trod laidOut (by kernel_rfl) (of_decide_eq_true (by kernel_rfl)) k0 bel lt0) (trodAll_cons_mk (Below.trod laidOut (by kernel_rfl) (of_decide_eq_true (by kernel_rfl)) k1 bel lt1) trodAll_mk0)), rfl, bel.frame _, fun h => by cases h⟩
theorem named : Try.pinned.checked.prog.funcNamed Rows.fnSpannedRow.func = some 3 := by kernel_rfl
theorem closed : joinedFacts Try.pinned.checked.prog 3 Try.f3 Rows.fnSpannedSpec Rows.fnSpannedRow = true := by kernel_rfl
theorem inst : Try.f3.isInstance Try.pinned.checked.prog Rows.fnSpannedRow.origin Rows.fnSpannedRow.targs := of_decide_eq_true (by kernel_rfl)
theorem wrap : Try.f3.isWrapper Try.pinned.checked.prog Rows.fnSpannedRow.wrapper Rows.fnSpannedRow.mainSum := by unfold Func.isWrapper; first | (rw [if_pos (by decide +kernel)]; kernel_rfl) | (rw [if_neg (by decide +kernel)]; exact ⟨rfl, rfl⟩)
theorem over : Rows.fnSpannedRow.holds Try.pinned (OpenSpec.ofChange Rows.fnSpannedSpec) :=
  OpenClaim.holds_of_wide 3 Try.f3 rfl rfl rfl rfl rfl rfl rfl ⟨rfl, rfl, rfl, rfl, rfl⟩ rfl rfl rfl rfl rfl named Try.func3 closed inst wrap
    (fun os started H enc _ => lifted os started H enc)
theorem proved : Rows.FnSpannedSaid := over
end Go.Proofs.Ytclkgblckicabaa.fnSpanned
namespace Go.Proofs.Ytclkgblckicabaa
/-- The row, under a short name, for the claim. -/
theorem fnSpanned_holds : Rows.FnSpannedSaid := fnSpanned.proved
#print axioms fnSpanned_holds
end Go.Proofs.Ytclkgblckicabaa
