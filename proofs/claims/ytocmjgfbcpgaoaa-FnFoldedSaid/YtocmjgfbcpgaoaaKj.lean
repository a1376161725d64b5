/- What is put for variables does as their values do: the plain law, and the law. -/
import Derived.Test.YtocmjgfbcpgaoaaKi
import Derived.Test.YtocmjgfbcpgaoaaKd
import Derived.Test.YtocmjgfbcpgaoaaRow0
set_option linter.unusedVariables false
set_option linter.unusedSimpArgs false
set_option maxRecDepth 4000
namespace Go.Proofs.Ytocmjgfbcpgaoaa
open Go.Dp

theorem vrun_app (wide : Int) (state : List W) : ∀ (t u : List Nd) (vs : List W), vrun wide state (t ++ u) vs = (vrun wide state t vs).bind (vrun wide state u)
  | [], u, vs => rfl
  | x :: t, u, vs => by
    simp only [List.cons_append, vrun]
    split
    · exact vrun_app wide state t u _
    · split
      · cases state[x.2.toNat]? with
        | none => rfl
        | some s => exact vrun_app wide state t u _
      · split
        · cases vs with
          | nil => rfl
          | cons a r => exact vrun_app wide state t u _
        · split
          · cases vs with
            | nil => rfl
            | cons a r => exact vrun_app wide state t u _
          · rcases vs with _ | ⟨b, _ | ⟨a, r⟩⟩
            · rfl
            · rfl
            · exact vrun_app wide state t u _
theorem vrun_frame {wide : Int} {state : List W} : ∀ {t : List Nd} {vs vs' : List W} (s : List W), vrun wide state t vs = some vs' → vrun wide state t (vs ++ s) = some (vs' ++ s)
  | [], vs, vs', s, h => by simp only [vrun] at h ⊢; injection h with h; rw [h]
  | x :: t, vs, vs', s, h => by
    simp only [vrun] at h ⊢
    split
    · rename_i h1
      rw [if_pos h1] at h
      exact vrun_frame (vs := x.2 :: vs) s h
    · rename_i h1
      rw [if_neg h1] at h
      split
      · rename_i h2
        rw [if_pos h2] at h
        obtain ⟨a, ha, h⟩ := Option.bind_eq_some_iff.1 h
        rw [ha]
        exact vrun_frame (vs := a :: vs) s h
      · rename_i h2
        rw [if_neg h2] at h
        split
        · rename_i h3
          rw [if_pos h3] at h
          cases vs with
          | nil => cases h
          | cons a r => exact vrun_frame (vs := (~~~a &&& mk wide) :: r) s h
        · rename_i h3
          rw [if_neg h3] at h
          split
          · rename_i h4
            rw [if_pos h4] at h
            cases vs with
            | nil => cases h
            | cons a r => exact vrun_frame (vs := (1#64 - a) :: r) s h
          · rename_i h4
            rw [if_neg h4] at h
            rcases vs with _ | ⟨b, _ | ⟨a, r⟩⟩
            · cases h
            · cases h
            · exact vrun_frame (vs := apW wide x.1 a b :: r) s h
theorem vrun_put {wide : Int} {state values : List W} {by1 : List (List Nd)} (hl : values.length = by1.length) (hv : ∀ (i : Nat) (b : List Nd) (v : W), by1[i]? = some b → values[i]? = some v → vrun wide state b [] = some [v]) :
    ∀ (t : List Nd) (vs : List W), (∀ x ∈ t, x.1 = 2 → x.2.toNat < by1.length) → vrun wide state (putT by1 t) vs = vrun wide values t vs
  | [], vs, h => rfl
  | x :: t, vs, h => by
    have ih := fun vs => vrun_put hl hv t vs (fun y hy => h y (by simp [hy]))
    simp only [putT]
    by_cases h2 : x.1 = 2
    · have hx := h x (by simp) h2
      have h1 : ¬ (x.1 = 1 ∨ x.1 = 20) := by omega
      have hxv : x.2.toNat < values.length := by omega
      rw [if_pos h2, vrun_app]
      simp only [vrun]
      rw [if_neg h1, if_pos h2, List.getElem?_eq_getElem hx, List.getElem?_eq_getElem hxv]
      simp only [Option.getD_some, Option.bind_some]
      have := vrun_frame vs (hv x.2.toNat _ _ (List.getElem?_eq_getElem hx) (List.getElem?_eq_getElem hxv))
      rw [List.nil_append] at this
      rw [this]
      exact ih _
    · rw [if_neg h2]
      simp only [List.cons_append, List.nil_append, vrun, h2, if_false]
      split
      · exact ih _
      · split
        · cases vs with
          | nil => rfl
          | cons a r => exact ih _
        · split
          · cases vs with
            | nil => rfl
            | cons a r => exact ih _
          · rcases vs with _ | ⟨b, _ | ⟨a, r⟩⟩
            · rfl
            · rfl
            · exact ih _

/-! ### Values fit their kinds -/
def okV (wide k : Int) (v : W) : Prop := (k = 1 ∧ v ≤ mk wide) ∨ (k = 2 ∧ v ≤ 1#64)
inductive Fit (wide : Int) : List Int → List W → Prop
  | nil : Fit wide [] []
  | cons {k v ks vs} : okV wide k v → Fit wide ks vs → Fit wide (k :: ks) (v :: vs)
theorem tr_le (b : Bool) : tr b ≤ 1#64 := by cases b <;> decide
theorem and_le_left' (a b : W) : a &&& b ≤ a := by rw [BitVec.le_def, BitVec.toNat_and]; exact Nat.and_le_left
theorem and_le_right' (a b : W) : a &&& b ≤ b := by rw [BitVec.le_def, BitVec.toNat_and]; exact Nat.and_le_right
theorem le_one_cases {a : W} (h : a ≤ 1#64) : a = 0#64 ∨ a = 1#64 := by
  rw [BitVec.le_def] at h
  have h1 : (1#64).toNat = 1 := rfl
  rcases Nat.lt_or_ge a.toNat 1 with h2 | h2
  · left; exact BitVec.eq_of_toNat_eq (by simp; omega)
  · right; exact BitVec.eq_of_toNat_eq (by omega)
theorem apW_ok {wide op : Int} {a b : W} (hw : isW wide = true) (hm : (need op).1 = 2) (ha : okV wide (need op).2.1 a) (hb : okV wide (need op).2.1 b) : okV wide (need op).2.2 (apW wide op a b) := by
  have hle : apW wide op a b ≤ mk wide := and_le_right' _ _
  have hle2 : apW wide op a b ≤ apRaw wide op a b := and_le_left' _ _
  have ho : 3 ≤ op ∧ op ≤ 12 ∨ 14 ≤ op ∧ op ≤ 16 ∨ op = 17 ∨ op = 18 := by
    unfold need at hm
    split at hm
    · simp at hm
    · split at hm
      · simp at hm
      · split at hm
        · simp at hm
        · split at hm
          · simp at hm
          · split at hm
            · left; assumption
            · split at hm
              · right; left; assumption
              · split at hm
                · right; right; assumption
                · simp at hm
  rcases ho with h | h | h
  · have : (need op).2.2 = 1 := by
      unfold need
      rw [if_neg (by omega), if_neg (by omega), if_neg (by omega), if_neg (by omega), if_pos h]
    rw [this]
    exact .inl ⟨rfl, hle⟩
  · have : (need op).2.2 = 2 := by
      unfold need
      rw [if_neg (by omega), if_neg (by omega), if_neg (by omega), if_neg (by omega), if_neg (by omega), if_pos h]
    rw [this]
    refine .inr ⟨rfl, ?_⟩
    have h3 : op = 14 ∨ op = 15 ∨ op = 16 := by omega
    have : ∃ c, apRaw wide op a b = tr c := by
      rcases h3 with rfl | rfl | rfl
      · exact ⟨_, rfl⟩
      · exact ⟨_, rfl⟩
      · exact ⟨_, rfl⟩
    obtain ⟨c, hc⟩ := this
    rw [hc] at hle2
    exact BitVec.le_trans hle2 (tr_le c)
  · have : (need op).2.2 = 2 ∧ (need op).2.1 = 2 := by
      unfold need
      rw [if_neg (by omega), if_neg (by omega), if_neg (by omega), if_neg (by omega), if_neg (by omega), if_neg (by omega), if_pos h]
      exact ⟨rfl, rfl⟩
    rw [this.1]
    rw [this.2] at ha hb
    refine .inr ⟨rfl, ?_⟩
    have ha : a ≤ 1#64 := by rcases ha with h | h; exact absurd h.1 (by omega); exact h.2
    have hb : b ≤ 1#64 := by rcases hb with h | h; exact absurd h.1 (by omega); exact h.2
    refine BitVec.le_trans hle2 ?_
    rcases h with rfl | rfl <;> rcases le_one_cases ha with rfl | rfl <;> rcases le_one_cases hb with rfl | rfl <;> simp [apRaw]
theorem goodW_iff {wide : Int} {a : W} : goodW wide a = true ↔ isW wide = true ∧ a ≤ mk wide := by simp [goodW, mk]
theorem leaf_run {wide vars : Int} (hv : isV vars = true) {x : Nd} (h : leafOK wide vars x = true) : (x.1 = 1 → x.2 ≤ mk wide) ∧ (x.1 = 20 → x.2 ≤ 1#64) ∧ (x.1 = 2 → (x.2.toNat : Int) < vars) := by
  have hv' := isV_iff.1 hv
  unfold leafOK at h
  refine ⟨fun h1 => ?_, fun h1 => ?_, fun h1 => ?_⟩
  · rw [if_pos h1] at h; exact (goodW_iff.1 h).2
  · rw [if_neg (by omega), if_neg (by omega), if_pos h1] at h
    rw [decide_eq_true_eq] at h
    exact wi_le_iff.1 h
  · rw [if_neg (by omega), if_pos h1, decide_eq_true_eq, u64_id (by omega) (by omega)] at h
    exact h
theorem Fit.take_all {wide : Int} {ks : List Int} {vs : List W} (h : Fit wide ks vs) : ks.length = vs.length := by
  induction h with
  | nil => rfl
  | cons _ _ ih => simp [ih]
theorem run_fit {wide vars : Int} (hw : isW wide = true) (hv : isV vars = true) {state : List W} (hs : (state.length : Int) = vars) (hg : ∀ a ∈ state, a ≤ mk wide) : ∀ {t : List Nd} {ks ks' : List Int} {vs : List W}, kst wide vars t ks = some ks' → Fit wide ks vs → ∃ vs', vrun wide state t vs = some vs' ∧ Fit wide ks' vs'
  | [], ks, ks', vs, h, hf => by simp only [kst] at h; injection h with h; subst h; exact ⟨vs, rfl, hf⟩
  | x :: t, ks, ks', vs, h, hf => by
    simp only [kst] at h
    split at h
    · cases h
    · rename_i h0
      split at h
      · cases h
      · rename_i h1
        split at h
        · cases h
        · rename_i h2
          split at h
          · cases h
          · rename_i h3
            have hlf := leaf_run hv (x := x) (by simpa using h1)
            simp only [vrun]
            by_cases a1 : x.1 = 1 ∨ x.1 = 20
            · rw [if_pos a1]
              have hn : (need x.1).1 = 0 ∧ (x.1 = 1 → (need x.1).2.2 = 1) ∧ (x.1 = 20 → (need x.1).2.2 = 2) := by
                rcases a1 with a | a <;> rw [a] <;> decide
              rw [hn.1, List.drop_zero] at h
              refine run_fit hw hv hs hg h (.cons ?_ hf)
              rcases a1 with a | a
              · exact .inl ⟨hn.2.1 a, hlf.1 a⟩
              · exact .inr ⟨hn.2.2 a, hlf.2.1 a⟩
            · rw [if_neg a1]
              by_cases a2 : x.1 = 2
              · rw [if_pos a2]
                have hn : (need x.1).1 = 0 ∧ (need x.1).2.2 = 1 := by rw [a2]; decide
                have hlt : x.2.toNat < state.length := by have := hlf.2.2 a2; omega
                rw [List.getElem?_eq_getElem hlt]
                rw [hn.1, List.drop_zero] at h
                exact run_fit hw hv hs hg h (.cons (.inl ⟨hn.2, hg _ (List.getElem_mem hlt)⟩) hf)
              · rw [if_neg a2]
                by_cases a3 : x.1 = 13
                · rw [if_pos a3]
                  have hn : (need x.1).1 = 1 ∧ (need x.1).2.2 = 1 := by rw [a3]; decide
                  cases hf with
                  | nil => simp [hn.1] at h2
                  | cons ho hf =>
                    rw [hn.1] at h
                    exact run_fit hw hv hs hg h (.cons (.inl ⟨hn.2, and_le_right' _ _⟩) hf)
                · rw [if_neg a3]
                  by_cases a4 : x.1 = 19
                  · rw [if_pos a4]
                    have hn : (need x.1).1 = 1 ∧ (need x.1).2.2 = 2 ∧ (need x.1).2.1 = 2 := by rw [a4]; decide
                    cases hf with
                    | nil => simp [hn.1] at h2
                    | @cons kk v ks vs ho hf =>
                      rw [hn.1] at h h3
                      rw [hn.2.2] at h3
                      have hk : kk = 2 := by simpa using h3
                      refine run_fit hw hv hs hg h (.cons (.inr ⟨hn.2.1, ?_⟩) hf)
                      rcases ho with ho | ho
                      · omega
                      · rcases le_one_cases ho.2 with rfl | rfl <;> decide
                  · rw [if_neg a4]
                    have hn : (need x.1).1 = 2 := by
                      unfold need at h0 ⊢
                      rw [if_neg (by omega), if_neg (by omega), if_neg a3, if_neg a4] at h0 ⊢
                      split
                      · rfl
                      · split
                        · rfl
                        · split
                          · rfl
                          · rename_i b1 b2 b3
                            rw [if_neg b1, if_neg b2, if_neg b3] at h0
                            exact absurd rfl h0
                    rw [hn] at h h2 h3
                    cases hf with
                    | nil => simp at h2
                    | @cons k1 v1 ks vs ho1 hf =>
                      cases hf with
                      | nil => simp at h2
                      | @cons k2 v2 ks vs ho2 hf =>
                        have hk : k1 = (need x.1).2.1 ∧ k2 = (need x.1).2.1 := by simpa using h3
                        rw [hk.1] at ho1
                        rw [hk.2] at ho2
                        exact run_fit hw hv hs hg h (.cons (apW_ok hw hn ho2 ho1) hf)
/-- A good term has a value, and it fits its kind. -/
theorem good_value {wide vars : Int} {t : List Nd} (h : goodT wide vars t = true) {state : List W} (hs : (state.length : Int) = vars) (hg : ∀ a ∈ state, a ≤ mk wide) : ∃ v, vrun wide state t [] = some [v] ∧ okV wide (kindT wide vars t) v := by
  obtain ⟨hsz, c, hk, hc⟩ := goodT_iff.1 h
  have hw : isW wide = true := by simp only [sizeT, Bool.and_eq_true] at hsz; exact hsz.1.1.1
  have hv : isV vars = true := by simp only [sizeT, Bool.and_eq_true] at hsz; exact hsz.1.1.2
  obtain ⟨vs', h1, hf⟩ := run_fit hw hv hs hg hk .nil
  cases hf with
  | cons ho hf =>
    cases hf
    refine ⟨_, h1, ?_⟩
    have : kindT wide vars t = c := by simp [kindT, hsz, hk, kind1]
    rw [this]
    exact ho
theorem stateOK_of {wide vars : Int} {s : List W} (hw : isW wide = true) (hv : isV vars = true) (hs : (s.length : Int) = vars) (hg : ∀ a ∈ s, a ≤ mk wide) : stateOK wide s.length s = true := by
  simp only [stateOK, Bool.and_eq_true, decide_eq_true_eq, List.all_eq_true]
  rw [hs]
  exact ⟨⟨⟨hw, hv⟩, trivial⟩, fun a ha => goodW_iff.2 ⟨hw, hg a ha⟩⟩

/-! ### The law -/
theorem big_ok {k : Nat} (hk : 1 ≤ k) (a b : List Nat) : c4 k (encB a) (encB b) = r4 (decide (a.length > 1048576) || decide (b.length + a.length > 1048576)) := by
  obtain ⟨k, rfl⟩ : ∃ j, k = j + 1 := ⟨k - 1, by omega⟩
  rw [n4, encB_length, encB_length]
  by_cases h : a.length > 1048576
  · have : decide ((a.length : Int) > 1048576) = true := by simp; omega
    simp [this, h]
  · have : decide ((a.length : Int) > 1048576) = false := by simp; omega
    rw [this, i64_id (by omega) (by omega)]
    simp only [cond_false]
    congr 1
    rw [Bool.eq_iff_iff]
    simp
    omega
theorem ints_encB (l : List Int) (h : ∀ n ∈ l, (Lit.int .u8 n).wf = true) : ints .u8 l = encB (l.map Int.toNat) ∧ ∀ b ∈ l.map Int.toNat, b < 256 := by
  have hb : ∀ n ∈ l, 0 ≤ n ∧ n ≤ 255 := by
    intro n hn
    have := h n hn
    simp only [Lit.wf, Bool.and_eq_true, decide_eq_true_eq] at this
    have e1 : IntKind.u8.min = 0 := rfl
    have e2 : IntKind.u8.max = 255 := rfl
    rw [e1, e2] at this
    exact this
  constructor
  · simp only [ints, encB, List.map_map]
    apply List.map_congr_left
    intro n hn
    have := hb n hn
    simp only [Function.comp]
    congr 1
    omega
  · intro b hb2
    obtain ⟨n, hn, rfl⟩ := List.mem_map.1 hb2
    have := hb n hn
    omega
end Go.Proofs.Ytocmjgfbcpgaoaa
