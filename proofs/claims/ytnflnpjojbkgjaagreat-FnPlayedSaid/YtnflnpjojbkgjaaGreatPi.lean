/- FnCommute: independent commands commute; the law. -/
import Derived.Test.YtnflnpjojbkgjaaGreatPh
set_option linter.unusedVariables false
set_option linter.unusedSimpArgs false
set_option maxRecDepth 4000
namespace Go.Proofs.YtnflnpjojbkgjaaGreat
open Go.Dp

theorem good_cmd {p : Prg} (hp : FitP p) {k1 : Int} (h : tOK p k1 = true) : isW p.wide = true ∧ isV p.vars = true ∧ goodP p = true ∧ cnoOK p k1 = true ∧ FitC 6 (cmdAt p k1) ∧ kindT p.wide p.vars (cmdAt p k1).wh = 2 ∧ ∀ x ∈ (cmdAt p k1).ch, 0 ≤ x.v ∧ x.v < p.vars ∧ kindT p.wide p.vars x.by1 = 1 := by
  simp only [tOK, Bool.and_eq_true] at h
  obtain ⟨hg, hn⟩ := h
  obtain ⟨h1, h2⟩ := goodP_size hg
  have hm := (cmdAt_get hn).2
  have hg' := hg
  simp only [goodP, Bool.and_eq_true, List.all_eq_true] at hg
  have hc := hg.2 _ hm
  simp only [goodCmd, Bool.and_eq_true, beq_iff_eq] at hc
  exact ⟨h1, h2, hg', hn, hp.c _ hm, hc.1, goodChs_mem hc.2⟩
theorem stOK_of {p : Prg} (hw : isW p.wide = true) {s : List W} : stOK p s = true ↔ (s.length : Int) = p.vars ∧ ∀ a ∈ s, a ≤ mk p.wide := by
  simp only [stOK, Bool.and_eq_true, decide_eq_true_eq, List.all_eq_true]
  constructor
  · rintro ⟨h1, h2⟩; exact ⟨h1, fun a ha => (goodW_iff.1 (h2 a ha)).2⟩
  · rintro ⟨h1, h2⟩; exact ⟨h1, fun a ha => goodW_iff.2 ⟨hw, h2 a ha⟩⟩
def stepO (p : Prg) (k1 : Int) (s : List W) : Bool := stOK p s && holdC p (cmdAt p k1) s
def stepT (p : Prg) (k1 : Int) (s : List W) : List W := bif stepO p k1 s then afterS p.wide s (cmdAt p k1).ch s else []
theorem stepG_ok {k : Nat} (hk : 1000300 ≤ k) (p : Prg) (hp : FitP p) (k1 : Int) (ht : tOK p k1 = true) (s : List W) (hsl : s.length ≤ 1000) :
    c28 k p.wide p.vars (encT p.start) (encCms p.cmds) (encW s) k1 = r28 (encW (stepT p k1 s)) (stepO p k1 s) := by
  obtain ⟨k, rfl⟩ : ∃ j, k = j + 2 := ⟨k - 2, by omega⟩
  obtain ⟨hw, hv, hg, hn, hf, hkw, hx⟩ := good_cmd hp ht
  obtain ⟨hget, hm⟩ := cmdAt_get hn
  have hfw := hf.wh
  have hfc := hf.ch
  rw [n28, isStateOf_ok (by omega) p hp s (by omega), hg, cno_ok (by omega), hn, hget]
  simp only [R106_r, R97_r, Bool.true_and, Bool.not_true, cond_false, Option.bind_some, encCm_wh, encCm_ch, encCm_shp, cond_true]
  unfold stepT stepO
  cases hst : stOK p s
  · rfl
  · obtain ⟨hs, hgs⟩ := (stOK_of hw).1 hst
    obtain ⟨hval, _⟩ := kind_val hkw (by omega) hs hgs
    have hh : c107 (k + 1) p.wide p.vars (encT p.start) (encCms p.cmds) (encT (cmdAt p k1).wh) (encW s) = r107 (holdC p (cmdAt p k1) s) := by
      rw [n107, valueOf_ok (by omega) hw s _ (by omega) hval]
      simp only [R173_r]
      have e : (1 : Int) = wi 1#64 := rfl
      rw [e, wi_beq]
      rfl
    rw [hh]
    simp only [R107_r, Bool.not_true, cond_false, Bool.true_and]
    cases holdC p (cmdAt p k1) s
    · rfl
    · simp only [Bool.not_true, cond_false, cond_true]
      rw [after_ok (by omega) p hw _ _ _ s (by omega) hs hgs _ (by omega) (fun x h => ⟨(hx x h).1, (hx x h).2.1, (hx x h).2.2, hf.by1 x h⟩)]
      simp only [R108_r]

/-! ### The plain law -/
theorem vrun_agree {wide : Int} {s s' : List W} : ∀ (t : List Nd) (vs : List W), (∀ x ∈ t, x.1 = 2 → s[x.2.toNat]? = s'[x.2.toNat]?) → vrun wide s t vs = vrun wide s' t vs
  | [], vs, h => rfl
  | x :: t, vs, h => by
    have ih := fun vs => vrun_agree (wide := wide) t vs fun y hy => h y (by simp [hy])
    simp only [vrun]
    split
    · exact ih _
    · split
      · rename_i h2
        rw [h x (by simp) h2]
        cases s'[x.2.toNat]? with
        | none => rfl
        | some a => exact ih _
      · split
        · cases vs with
          | nil => rfl
          | cons a r => exact ih _
        · split
          · cases vs with
            | nil => rfl
            | cons a r => exact ih _
          · rcases vs with _ | ⟨b, _ | ⟨a, r⟩⟩
            · rfl
            · rfl
            · exact ih _
theorem vlist_mem : ∀ (t : List Nd) (x : Nd), x ∈ t → x.1 = 2 → IntKind.i64.wrap (wi x.2) ∈ vlist t
  | [], x, h, h2 => by simp at h
  | y :: t, x, h, h2 => by
    simp only [vlist, List.mem_append]
    rcases List.mem_cons.1 h with rfl | h
    · left; rw [if_pos h2]; simp
    · exact .inr (vlist_mem t x h h2)
theorem readsCh_mem : ∀ (l : List Chg) (x : Chg) (v : Int), x ∈ l → v ∈ vlist x.by1 → v ∈ readsCh l
  | [], x, v, h, hv => by simp at h
  | y :: l, x, v, h, hv => by
    simp only [readsCh, List.mem_append]
    rcases List.mem_cons.1 h with rfl | h
    · exact .inl hv
    · exact .inr (readsCh_mem l x v h hv)
theorem readsOf_mem (c : Cmd) (v : Int) : v ∈ readsOf c ↔ v ∈ vlist c.wh ∨ v ∈ readsCh c.ch := by
  rw [readsOf, (putAllI_spec _ [] List.Pairwise.nil).2]
  simp [List.mem_append]
theorem meetI_false {a b : List Int} (h : meetI a b = false) : ∀ x ∈ a, x ∉ b := by
  intro x hx hb
  have : meetI a b = true := by
    simp only [meetI, List.any_eq_true]
    exact ⟨x, hx, by simpa using hb⟩
  rw [h] at this
  cases this
theorem afterS_length (wide : Int) (s : List W) : ∀ (ch : List Chg) (o : List W), (afterS wide s ch o).length = o.length
  | [], o => rfl
  | x :: l, o => by
    have := afterS_length wide s l (o.set x.v.toNat (valD wide s x.by1))
    simpa [afterS] using this
theorem afterS_get (wide : Int) (s : List W) (i : Nat) : ∀ (ch : List Chg) (o : List W), (∀ x ∈ ch, x.v.toNat ≠ i) → (afterS wide s ch o)[i]? = o[i]?
  | [], o, h => rfl
  | x :: l, o, h => by
    have := afterS_get wide s i l (o.set x.v.toNat (valD wide s x.by1)) fun y hy => h y (by simp [hy])
    rw [List.getElem?_set_ne (h x (by simp))] at this
    exact this
theorem afterS_all {wide vars : Int} {s : List W} (hs : (s.length : Int) = vars) (hg : ∀ a ∈ s, a ≤ mk wide) : ∀ (ch : List Chg) (o : List W), (∀ x ∈ ch, kindT wide vars x.by1 = 1) → (∀ a ∈ o, a ≤ mk wide) → ∀ a ∈ afterS wide s ch o, a ≤ mk wide
  | [], o, hx, ho => ho
  | x :: l, o, hx, ho => by
    obtain ⟨_, h2⟩ := kind_val (hx x (by simp)) (by omega) hs hg
    have h3 : valD wide s x.by1 ≤ mk wide := by rcases h2 with h | h; exact h.2; exact absurd h.1 (by omega)
    refine afterS_all hs hg l (o.set x.v.toNat (valD wide s x.by1)) (fun y hy => hx y (by simp [hy])) fun a ha => ?_
    rcases List.mem_or_eq_of_mem_set ha with h4 | h4
    · exact ho a h4
    · rw [h4]; exact h3
theorem afterS_set (wide : Int) (s : List W) (i : Nat) (a : W) : ∀ (ch : List Chg) (o : List W), (∀ x ∈ ch, x.v.toNat ≠ i) → afterS wide s ch (o.set i a) = (afterS wide s ch o).set i a
  | [], o, h => rfl
  | x :: l, o, h => by
    have := afterS_set wide s i a l (o.set x.v.toNat (valD wide s x.by1)) fun y hy => h y (by simp [hy])
    simp only [afterS, List.foldl_cons] at this ⊢
    rw [List.set_comm _ _ (Ne.symm (h x (by simp)))]
    exact this
theorem afterS_comm (wide : Int) (s : List W) (c2 : List Chg) : ∀ (c1 : List Chg) (o : List W), (∀ x ∈ c1, ∀ y ∈ c2, y.v.toNat ≠ x.v.toNat) → afterS wide s c2 (afterS wide s c1 o) = afterS wide s c1 (afterS wide s c2 o)
  | [], o, h => rfl
  | x :: l, o, h => by
    have := afterS_comm wide s c2 l (o.set x.v.toNat (valD wide s x.by1)) fun y hy => h y (by simp [hy])
    rw [afterS_set wide s _ _ c2 o (h x (by simp))] at this
    exact this
theorem afterS_vals {wide : Int} {s s' : List W} : ∀ (ch : List Chg) (o : List W), (∀ x ∈ ch, valD wide s x.by1 = valD wide s' x.by1) → afterS wide s ch o = afterS wide s' ch o
  | [], o, h => rfl
  | x :: l, o, h => by
    have := afterS_vals (wide := wide) (s := s) (s' := s') l (o.set x.v.toNat (valD wide s x.by1)) fun y hy => h y (by simp [hy])
    simp only [afterS, List.foldl_cons] at this ⊢
    rw [this, h x (by simp)]
/-- What one command reads has the same value after another that does not change it. -/
theorem apart_val {p : Prg} (hp : FitP p) {k1 m1 : Int} (hk : tOK p k1 = true) (hm : tOK p m1 = true) (h : meetI (writesOf (cmdAt p k1)) (readsOf (cmdAt p m1)) = false) (s : List W) {t : List Nd} (hg : goodT p.wide p.vars t = true) (hr : ∀ v ∈ vlist t, v ∈ readsOf (cmdAt p m1)) :
    valD p.wide (afterS p.wide s (cmdAt p k1).ch s) t = valD p.wide s t := by
  obtain ⟨hw, hv, _, _, _, _, hx⟩ := good_cmd hp hk
  have hv' := isV_iff.1 hv
  unfold valD
  rw [vrun_agree (s := afterS p.wide s (cmdAt p k1).ch s) (s' := s) t [] fun x hxt h2 => ?_]
  have hlt := goodT_vars hg x hxt h2
  refine afterS_get p.wide s _ _ _ fun y hy e => ?_
  have h3 := vlist_mem t x hxt h2
  have h4 : IntKind.i64.wrap (wi x.2) = (x.2.toNat : Int) := by unfold wi; exact i64_id (by omega) (by omega)
  rw [h4] at h3
  have h5 := meetI_false h y.v (List.mem_map.2 ⟨y, hy, rfl⟩)
  have h6 : y.v = (x.2.toNat : Int) := by have := (hx y hy).1; omega
  rw [h6] at h5
  exact h5 (hr _ h3)
theorem commute {p : Prg} (hp : FitP p) {k1 m1 : Int} (hk : tOK p k1 = true) (hm : tOK p m1 = true) (ha : apart p k1 m1 = true) {s : List W} (h1 : stepO p k1 s = true) (h2 : stepO p m1 s = true) :
    stepO p m1 (stepT p k1 s) = true ∧ stepO p k1 (stepT p m1 s) = true ∧ stepT p m1 (stepT p k1 s) = stepT p k1 (stepT p m1 s) := by
  simp only [apart, Bool.and_eq_true, Bool.not_eq_true'] at ha
  obtain ⟨a1, a2, a3⟩ := ha
  obtain ⟨hw, hv, _, _, hfk, hkk, hxk⟩ := good_cmd hp hk
  obtain ⟨_, _, _, _, hfm, hkm, hxm⟩ := good_cmd hp hm
  have ek : stepT p k1 s = afterS p.wide s (cmdAt p k1).ch s := by unfold stepT; rw [h1]; rfl
  have em : stepT p m1 s = afterS p.wide s (cmdAt p m1).ch s := by unfold stepT; rw [h2]; rfl
  simp only [stepO, Bool.and_eq_true] at h1 h2
  obtain ⟨hs, hg⟩ := (stOK_of hw).1 h1.1
  have oks : ∀ ch : List Chg, (∀ x ∈ ch, kindT p.wide p.vars x.by1 = 1) → stOK p (afterS p.wide s ch s) = true := fun ch hc => (stOK_of hw).2 ⟨by rw [afterS_length]; exact hs, afterS_all hs hg ch s hc hg⟩
  have okk := oks _ fun x h => (hxk x h).2.2
  have okm := oks _ fun x h => (hxm x h).2.2
  have vm := fun t hg hr => apart_val hp hk hm a1 s (t := t) hg hr
  have vk := fun t hg hr => apart_val hp hm hk a3 s (t := t) hg hr
  have hwm := vm (cmdAt p m1).wh (kind_good (by omega)) fun v hv => (readsOf_mem _ _).2 (.inl hv)
  have hwk := vk (cmdAt p k1).wh (kind_good (by omega)) fun v hv => (readsOf_mem _ _).2 (.inl hv)
  have hbm : ∀ x ∈ (cmdAt p m1).ch, valD p.wide (afterS p.wide s (cmdAt p k1).ch s) x.by1 = valD p.wide s x.by1 := fun x hx => vm x.by1 (kind_good (by have := (hxm x hx).2.2; omega)) fun v hv => (readsOf_mem _ _).2 (.inr (readsCh_mem _ x v hx hv))
  have hbk : ∀ x ∈ (cmdAt p k1).ch, valD p.wide (afterS p.wide s (cmdAt p m1).ch s) x.by1 = valD p.wide s x.by1 := fun x hx => vk x.by1 (kind_good (by have := (hxk x hx).2.2; omega)) fun v hv => (readsOf_mem _ _).2 (.inr (readsCh_mem _ x v hx hv))
  have o1 : stepO p m1 (stepT p k1 s) = true := by
    rw [ek, stepO, okk, Bool.true_and, holdC, hwm]
    exact h2.2
  have o2 : stepO p k1 (stepT p m1 s) = true := by
    rw [em, stepO, okm, Bool.true_and, holdC, hwk]
    exact h1.2
  refine ⟨o1, o2, ?_⟩
  unfold stepT at o1 o2 ⊢
  rw [show (bif stepO p m1 (bif stepO p k1 s then afterS p.wide s (cmdAt p k1).ch s else []) then _ else []) = afterS p.wide (bif stepO p k1 s then afterS p.wide s (cmdAt p k1).ch s else []) (cmdAt p m1).ch (bif stepO p k1 s then afterS p.wide s (cmdAt p k1).ch s else []) by rw [o1]; rfl]
  rw [show (bif stepO p k1 (bif stepO p m1 s then afterS p.wide s (cmdAt p m1).ch s else []) then _ else []) = afterS p.wide (bif stepO p m1 s then afterS p.wide s (cmdAt p m1).ch s else []) (cmdAt p k1).ch (bif stepO p m1 s then afterS p.wide s (cmdAt p m1).ch s else []) by rw [o2]; rfl]
  have ek' : (bif stepO p k1 s then afterS p.wide s (cmdAt p k1).ch s else []) = afterS p.wide s (cmdAt p k1).ch s := ek
  have em' : (bif stepO p m1 s then afterS p.wide s (cmdAt p m1).ch s else []) = afterS p.wide s (cmdAt p m1).ch s := em
  rw [ek', em', afterS_vals _ _ hbm, afterS_vals _ _ hbk]
  refine afterS_comm p.wide s _ _ s fun x hx y hy e => ?_
  have h5 := meetI_false a2 x.v (List.mem_map.2 ⟨x, hx, rfl⟩)
  have h6 : x.v = y.v := by have := (hxk x hx).1; have := (hxm y hy).1; omega
  exact h5 (h6 ▸ List.mem_map.2 ⟨y, hy, rfl⟩)

/-! ### The law -/
theorem stepT_len {p : Prg} (hp : FitP p) (k1 : Int) (s : List W) (hs : s.length ≤ 1000) : (stepT p k1 s).length ≤ 1000 := by
  unfold stepT
  cases stepO p k1 s
  · simp
  · simp only [cond_true, afterS_length]; exact hs
end Go.Proofs.YtnflnpjojbkgjaaGreat
