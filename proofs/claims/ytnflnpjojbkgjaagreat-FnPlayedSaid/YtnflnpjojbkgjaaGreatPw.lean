/- FnPlayed: commands that are played. -/
import Derived.Test.YtnflnpjojbkgjaaGreatPi
import Derived.Test.YtnflnpjojbkgjaaGreatPv
set_option linter.unusedVariables false
set_option linter.unusedSimpArgs false
set_option maxRecDepth 4000
namespace Go.Proofs.YtnflnpjojbkgjaaGreat
open Go.Dp

def encWW (l : List (List W)) : List PV := l.map fun t => .row 0 0 (encW t)
@[simp] theorem encWW_length (l : List (List W)) : (encWW l).length = l.length := by simp [encWW]
theorem encWW_get (l : List (List W)) (i : Nat) : (encWW l)[i]? = (l[i]?).map fun t => .row 0 0 (encW t) := by simp [encWW]
theorem encWW_snoc (l : List (List W)) (x : List W) : encWW l ++ [.row 0 0 (encW x)] = encWW (l ++ [x]) := by simp [encWW]
def encBo (l : List Bool) : List PV := l.map PV.bool
@[simp] theorem encBo_length (l : List Bool) : (encBo l).length = l.length := by simp [encBo]
theorem encBo_get (l : List Bool) (i : Nat) : (encBo l)[i]? = (l[i]?).map PV.bool := by simp [encBo]
theorem encBo_snoc (l : List Bool) (x : Bool) : encBo l ++ [.bool x] = encBo (l ++ [x]) := by simp [encBo]
/-! ### One command -/
def pO (p : Prg) (k1 : Int) (s : List W) : Bool := stOK p s && (cnoOK p k1 && holdC p (cmdAt p k1) s)
def pT (p : Prg) (k1 : Int) (s : List W) : List W := bif pO p k1 s then afterS p.wide s (cmdAt p k1).ch s else []
def nx (p : Prg) (k1 : Int) (s : List W) : List W := bif pO p k1 s then afterS p.wide s (cmdAt p k1).ch s else s
theorem stepA_ok {k : Nat} (hk : 1000300 ≤ k) (p : Prg) (hp : FitP p) (k1 : Int) (hg : goodP p = true) (s : List W) (hsl : s.length ≤ 1000) :
    c28 k p.wide p.vars (encT p.start) (encCms p.cmds) (encW s) k1 = r28 (encW (pT p k1 s)) (pO p k1 s) := by
  cases hn : cnoOK p k1
  · obtain ⟨k, rfl⟩ : ∃ j, k = j + 1 := ⟨k - 1, by omega⟩
    rw [n28, isStateOf_ok (by omega) p hp s (by omega), hg, cno_ok (by omega), hn]
    simp only [R106_r, R97_r, Bool.true_and]
    unfold pT pO
    rw [hn]
    cases stOK p s <;> rfl
  · rw [stepG_ok hk p hp k1 (by simp [tOK, hg, hn]) s hsl]
    unfold stepT stepO pT pO
    rw [hn, Bool.true_and]
theorem good_all {p : Prg} (hg : goodP p = true) : kindT p.wide p.vars p.start = 2 ∧ ∀ c ∈ p.cmds, kindT p.wide p.vars c.wh = 2 := by
  simp only [goodP, Bool.and_eq_true, List.all_eq_true, beq_iff_eq] at hg
  refine ⟨hg.1.1.1, fun c hc => ?_⟩
  have := hg.2 c hc
  simp only [goodCmd, Bool.and_eq_true, beq_iff_eq] at this
  exact this.1
theorem pO_get {p : Prg} {k1 : Int} {s : List W} (h : pO p k1 s = true) : stOK p s = true ∧ cnoOK p k1 = true ∧ holdC p (cmdAt p k1) s = true := by
  simp only [pO, Bool.and_eq_true] at h
  exact ⟨h.1, h.2.1, h.2.2⟩
theorem nx_ok {p : Prg} (hp : FitP p) (hg : goodP p = true) {s : List W} (hs : stOK p s = true) (k1 : Int) : stOK p (nx p k1 s) = true := by
  unfold nx
  cases h : pO p k1 s
  · exact hs
  · obtain ⟨_, hn, _⟩ := pO_get h
    obtain ⟨hw, hv, _, _, _, _, hx⟩ := good_cmd hp (k1 := k1) (by simp [tOK, hg, hn])
    obtain ⟨h1, h2⟩ := (stOK_of hw).1 hs
    exact (stOK_of hw).2 ⟨by rw [cond_true, afterS_length]; exact h1, afterS_all h1 h2 _ s (fun x h => (hx x h).2.2) h2⟩
theorem st_len {p : Prg} (hp : FitP p) {s : List W} (hs : stOK p s = true) : s.length ≤ 5 := by
  simp only [stOK, Bool.and_eq_true, decide_eq_true_eq] at hs
  have := hp.v
  omega
def holdT (p : Prg) (t : List Nd) (s : List W) : Bool := valD p.wide s t == 1#64
theorem holdsI_ok {k : Nat} (hk : 1000010 ≤ k) (p : Prg) (hg : goodP p = true) (l1 l2 : List PV) (t : List Nd) (ht : t.length ≤ 100) (hkt : kindT p.wide p.vars t = 2) (s : List W) (hs : stOK p s = true) : c107 k p.wide p.vars l1 l2 (encT t) (encW s) = r107 (holdT p t s) := by
  obtain ⟨k, rfl⟩ : ∃ j, k = j + 1 := ⟨k - 1, by omega⟩
  obtain ⟨hw, hv⟩ := goodP_size hg
  obtain ⟨h1, h2⟩ := (stOK_of hw).1 hs
  obtain ⟨hval, _⟩ := kind_val hkt (by omega) h1 h2
  rw [n107, valueOf_ok (by omega) hw s _ (by omega) hval]
  simp only [R173_r]
  have e : (1 : Int) = wi 1#64 := rfl
  rw [e, wi_beq]
  rfl
theorem holdsS_ok {k : Nat} (hk : 1000010 ≤ k) (p : Prg) (hg : goodP p = true) (l1 l2 : List PV) (t : List Nd) (ht : t.length ≤ 100) (hkt : kindT p.wide p.vars t = 2) (s : List W) (hs : stOK p s = true) : c133 k p.wide p.vars l1 l2 (encT t) (encW s) = r133 (holdT p t s) := by
  obtain ⟨k, rfl⟩ : ∃ j, k = j + 1 := ⟨k - 1, by omega⟩
  obtain ⟨hw, hv⟩ := goodP_size hg
  obtain ⟨h1, h2⟩ := (stOK_of hw).1 hs
  obtain ⟨hval, _⟩ := kind_val hkt (by omega) h1 h2
  rw [n133, encT_length, l2Value_ok (by omega) (kind_good (by omega)) h1 h2 ht hval]
  simp only [R182_r]
  have e : (1 : Int) = wi 1#64 := rfl
  rw [e, wi_beq]
  rfl
def enL (p : Prg) (s : List W) : Nat → List Cmd → List Int
  | _, [] => []
  | i, c :: l => (bif holdT p c.wh s then [(i : Int)] else []) ++ enL p s (i + 1) l
theorem enL_mem (p : Prg) (s : List W) : ∀ (l : List Cmd) (i : Nat) (v : Int), v ∈ enL p s i l ↔ ∃ j c, l[j]? = some c ∧ holdT p c.wh s = true ∧ v = ((i + j : Nat) : Int)
  | [], i, v => by simp [enL]
  | c :: l, i, v => by
    simp only [enL, List.mem_append, enL_mem p s l (i + 1) v]
    constructor
    · rintro (h | ⟨j, c', h1, h2, h3⟩)
      · cases hh : holdT p c.wh s
        · rw [hh] at h; simp at h
        · rw [hh] at h
          simp at h
          exact ⟨0, c, rfl, hh, by simp [h]⟩
      · exact ⟨j + 1, c', by simpa using h1, h2, by rw [h3]; omega⟩
    · rintro ⟨j, c', h1, h2, h3⟩
      cases j with
      | zero =>
        simp at h1
        subst h1
        left
        rw [h2, h3]
        simp
      | succ j => exact .inr ⟨j, c', by simpa using h1, h2, by rw [h3]; omega⟩
theorem enL_len (p : Prg) (s : List W) : ∀ (l : List Cmd) (i : Nat), (enL p s i l).length ≤ l.length
  | [], i => by simp [enL]
  | c :: l, i => by
    have := enL_len p s l (i + 1)
    simp only [enL, List.length_append, List.length_cons]
    cases holdT p c.wh s <;> simp <;> omega
theorem enL_has (p : Prg) (s : List W) (k1 : Int) : (enL p s 0 p.cmds).contains k1 = (cnoOK p k1 && holdC p (cmdAt p k1) s) := by
  rw [Bool.eq_iff_iff, List.contains_iff_mem, enL_mem]
  simp only [Bool.and_eq_true, cnoOK, decide_eq_true_eq]
  constructor
  · rintro ⟨j, c, h1, h2, h3⟩
    have hj := (List.getElem?_eq_some_iff.1 h1).1
    have e : k1.toNat = j := by omega
    refine ⟨by omega, ?_⟩
    unfold cmdAt
    rw [e, h1]
    exact h2
  · rintro ⟨⟨h1, h2⟩, h3⟩
    have hlt : k1.toNat < p.cmds.length := by omega
    refine ⟨k1.toNat, p.cmds[k1.toNat], List.getElem?_eq_getElem hlt, ?_, by omega⟩
    unfold cmdAt at h3
    rw [List.getElem?_eq_getElem hlt] at h3
    exact h3
theorem enabledI_loop {k : Nat} (hk : 1000010 ≤ k) (p : Prg) (hp : FitP p) (hg : goodP p = true) (s : List W) (hs : stOK p s = true) (l1 l2 : List PV) : ∀ (n i : Nat) (o : List Int), p.cmds.length - i < n → i ≤ p.cmds.length → o.length ≤ i →
    L46_1 k n (encW s) o.length (encCms p.cmds) (p.cmds.length : Int) (i : Int) p.wide p.vars l1 l2 (encZ o) = r46 (encZ (o ++ enL p s i (p.cmds.drop i))) true
  | 0, i, o, h, hi, ho => by omega
  | n + 1, i, o, h, hi, ho => by
    have hcm := hp.cm
    rw [sL46_1]
    have e1 : (encZ o).take o.length = encZ o := by rw [List.take_of_length_le (by simp)]
    rw [e1]
    by_cases hlt : i < p.cmds.length
    · have hd : decide ((i : Int) < (p.cmds.length : Int)) = true := by simpa using hlt
      have hm := List.getElem_mem hlt
      rw [hd, lookP_nat, encCms_get, List.getElem?_eq_getElem hlt, drop_cons hlt]
      simp only [cond_true, Option.map_some, Option.bind_some, encCm_shp, encCm_wh, encCm_ch]
      rw [holdsI_ok (by omega) p hg _ _ _ (hp.c _ hm).wh ((good_all hg).2 _ hm) s hs]
      simp only [R107_r, enL]
      rw [i64_id (by omega) (by omega)]
      cases holdT p p.cmds[i].wh s
      · simp only [cond_false, List.nil_append]
        exact enabledI_loop hk p hp hg s hs l1 l2 n (i + 1) o (by omega) (by omega) (by omega)
      · simp only [cond_true]
        rw [lim_ok (by omega) (by omega), encZ_snoc]
        have e2 : o.length + 1 = (o ++ [(i : Int)]).length := by simp
        simp only [cond_true]
        rw [e2, ← List.append_assoc]
        exact enabledI_loop hk p hp hg s hs l1 l2 n (i + 1) _ (by omega) (by omega) (by simp; omega)
    · have hd : decide ((i : Int) < (p.cmds.length : Int)) = false := by simpa using hlt
      rw [hd, List.drop_eq_nil_of_le (by omega)]
      simp [enL]
theorem enabledI_ok {k : Nat} (hk : 1000300 ≤ k) (p : Prg) (hp : FitP p) (s : List W) (hsl : s.length ≤ 1000) : c46 k p.wide p.vars (encT p.start) (encCms p.cmds) (encW s) = r46 (encZ (bif goodP p && stOK p s then enL p s 0 p.cmds else [])) (goodP p && stOK p s) := by
  obtain ⟨k, rfl⟩ : ∃ j, k = j + 1 := ⟨k - 1, by omega⟩
  have hcm := hp.cm
  rw [n46, isStateOf_ok (by omega) p hp s (by omega)]
  simp only [R106_r]
  cases h : (goodP p && stOK p s)
  · rfl
  · simp only [Bool.and_eq_true] at h
    rw [encCms_length]
    exact enabledI_loop (k := k) (by omega) p hp h.1 s h.2 (encT p.start) (encCms p.cmds) k 0 [] (by omega) (by omega) (by simp)
theorem enabledS_loop {k : Nat} (hk : 1000010 ≤ k) (p : Prg) (hp : FitP p) (hg : goodP p = true) (s : List W) (hs : stOK p s = true) (l1 l2 : List PV) : ∀ (n i : Nat) (o : List Int), p.cmds.length - i < n → i ≤ p.cmds.length → o.length ≤ i →
    L134_1 k n (encW s) o.length (encCms p.cmds) (p.cmds.length : Int) (i : Int) p.wide p.vars l1 l2 (encZ o) = r134 (encZ (o ++ enL p s i (p.cmds.drop i)))
  | 0, i, o, h, hi, ho => by omega
  | n + 1, i, o, h, hi, ho => by
    have hcm := hp.cm
    rw [sL134_1]
    have e1 : (encZ o).take o.length = encZ o := by rw [List.take_of_length_le (by simp)]
    rw [e1]
    by_cases hlt : i < p.cmds.length
    · have hd : decide ((i : Int) < (p.cmds.length : Int)) = true := by simpa using hlt
      have hm := List.getElem_mem hlt
      rw [hd, lookP_nat, encCms_get, List.getElem?_eq_getElem hlt, drop_cons hlt]
      simp only [cond_true, Option.map_some, Option.bind_some, encCm_shp, encCm_wh, encCm_ch]
      rw [holdsS_ok (by omega) p hg _ _ _ (hp.c _ hm).wh ((good_all hg).2 _ hm) s hs]
      simp only [R133_r, enL]
      rw [i64_id (by omega) (by omega)]
      cases holdT p p.cmds[i].wh s
      · simp only [cond_false, List.nil_append]
        exact enabledS_loop hk p hp hg s hs l1 l2 n (i + 1) o (by omega) (by omega) (by omega)
      · simp only [cond_true]
        rw [lim_ok (by omega) (by omega), encZ_snoc]
        have e2 : o.length + 1 = (o ++ [(i : Int)]).length := by simp
        simp only [cond_true]
        rw [e2, ← List.append_assoc]
        exact enabledS_loop hk p hp hg s hs l1 l2 n (i + 1) _ (by omega) (by omega) (by simp; omega)
    · have hd : decide ((i : Int) < (p.cmds.length : Int)) = false := by simpa using hlt
      rw [hd, List.drop_eq_nil_of_le (by omega)]
      simp [enL]
theorem enabledS_ok {k : Nat} (hk : 1000300 ≤ k) (p : Prg) (hp : FitP p) (s : List W) (hsl : s.length ≤ 1000) : c51 k p.wide p.vars (encT p.start) (encCms p.cmds) (encW s) = r51 (encZ (bif goodP p && stOK p s then enL p s 0 p.cmds else [])) (goodP p && stOK p s) := by
  obtain ⟨k, rfl⟩ : ∃ j, k = j + 2 := ⟨k - 2, by omega⟩
  have hcm := hp.cm
  rw [n51, goodProgramS_ok (by omega) p hp, l7State_ok (by omega) p _ _ s (by omega)]
  simp only [R45_r, R126_r]
  cases h1 : goodP p
  · rfl
  · cases h2 : stOK p s
    · rfl
    · simp only [Bool.not_true, cond_false, Bool.and_self, cond_true]
      rw [n134, encCms_length]
      have := enabledS_loop (k := k) (by omega) p hp h1 s h2 (encT p.start) (encCms p.cmds) k 0 [] (by omega) (by omega) (by simp)
      have h' : L134_1 k k (encW s) 0 (encCms p.cmds) (p.cmds.length : Int) 0 p.wide p.vars (encT p.start) (encCms p.cmds) [] = _ := this
      rw [h']
      simp only [R134_r, List.nil_append, List.drop_zero]
theorem do_loop {k : Nat} (hk : 1000000 ≤ k) (p : Prg) (hw : isW p.wide = true) (l1 l2 : List PV) (s : List W) (hs : (s.length : Int) = p.vars) (hg : ∀ a ∈ s, a ≤ mk p.wide) (ch : List Chg) (hl : ch.length ≤ 100) (hx : ∀ x ∈ ch, 0 ≤ x.v ∧ x.v < p.vars ∧ kindT p.wide p.vars x.by1 = 1 ∧ x.by1.length ≤ 100) : ∀ (n i : Nat) (o : List W), ch.length - i < n → i ≤ ch.length → o.length = s.length →
    L180_1 k n (encW s) o.length (encChs ch) (ch.length : Int) (i : Int) p.wide p.vars l1 l2 (encW o) = r180 (encW (afterS p.wide s (ch.drop i) o))
  | 0, i, o, h, hi, ho => by omega
  | n + 1, i, o, h, hi, ho => by
    rw [sL180_1]
    by_cases hlt : i < ch.length
    · have hd : decide ((i : Int) < (ch.length : Int)) = true := by simpa using hlt
      have hxi := hx _ (List.getElem_mem hlt)
      obtain ⟨hv, _⟩ := kind_val hxi.2.2.1 (by omega) hs hg
      rw [hd, lookP_nat, encChs_get, List.getElem?_eq_getElem hlt, drop_cons hlt]
      simp only [cond_true, Option.map_some, Option.bind_some, encCh_shp, encCh_v, encCh_by, encT_length]
      rw [l2Value_ok (by omega) (kind_good (by omega)) hs hg hxi.2.2.2 hv]
      simp only [R182_r]
      have hin : (decide ((0 : Int) ≤ ch[i].v) && decide (ch[i].v < (o.length : Int))) = true := by simp; omega
      have hget : (encW o)[0 + ch[i].v.toNat]? = some (PV.int .u64 (wi (o[ch[i].v.toNat]'(by omega)))) := by rw [Nat.zero_add, encW_get, List.getElem?_eq_getElem (by omega)]; rfl
      rw [hin, hget]
      simp only [cond_true, Option.bind_some, Nat.zero_add]
      have hset : (encW o).set ch[i].v.toNat (PV.int .u64 (wi (valD p.wide s ch[i].by1))) = encW (o.set ch[i].v.toNat (valD p.wide s ch[i].by1)) := by simp [encW, List.map_set]
      rw [hset, i64_id (by omega) (by omega)]
      have := do_loop hk p hw l1 l2 s hs hg ch hl hx n (i + 1) (o.set ch[i].v.toNat (valD p.wide s ch[i].by1)) (by omega) (by omega) (by simpa using ho)
      rw [List.length_set] at this
      exact this
    · have hd : decide ((i : Int) < (ch.length : Int)) = false := by simpa using hlt
      rw [hd, List.drop_eq_nil_of_le (by omega)]
      have e1 : (encW o).take o.length = encW o := by rw [List.take_of_length_le (by simp)]
      simp only [cond_false, e1]
      rfl
theorem stepS_ok {k : Nat} (hk : 1000400 ≤ k) (p : Prg) (hp : FitP p) (k1 : Int) (hg : goodP p = true) (s : List W) (hsl : s.length ≤ 1000) :
    c127 k p.wide p.vars (encT p.start) (encCms p.cmds) (encW s) k1 = r127 (encW (pT p k1 s)) (pO p k1 s) := by
  obtain ⟨k, rfl⟩ : ∃ j, k = j + 2 := ⟨k - 2, by omega⟩
  have hcm := hp.cm
  have hel := enL_len p s p.cmds 0
  rw [n127, enabledS_ok (by omega) p hp s hsl, hg]
  simp only [R51_r, Bool.true_and]
  unfold pT
  cases h2 : stOK p s
  · simp only [Bool.not_false, cond_true, pO, h2, Bool.false_and, cond_false]
    rfl
  · simp only [Bool.not_true, cond_false, cond_true]
    rw [has_ok (by omega) _ (by omega), enL_has]
    simp only [R88_r, pO, h2, Bool.true_and]
    cases h3 : (cnoOK p k1 && holdC p (cmdAt p k1) s)
    · rfl
    · simp only [Bool.and_eq_true] at h3
      obtain ⟨hw, hv, _, _, hf, _, hx⟩ := good_cmd hp (k1 := k1) (by simp [tOK, hg, h3.1])
      obtain ⟨hs, hgs⟩ := (stOK_of hw).1 h2
      obtain ⟨hget, hm⟩ := cmdAt_get h3.1
      have hfc := hf.ch
      simp only [Bool.not_true, cond_false, cond_true]
      rw [n180, hget, encW_length, lim_ok (by omega) (by omega)]
      simp only [cond_true, Option.bind_some, encCm_ch, encChs_length, List.nil_append, Nat.zero_add]
      have := do_loop (k := k) (by omega) p hw (encT p.start) (encCms p.cmds) s hs hgs (cmdAt p k1).ch (by omega) (fun x h => ⟨(hx x h).1, (hx x h).2.1, (hx x h).2.2, hf.by1 x h⟩) k 0 s (by omega) (by omega) rfl
      have h' : L180_1 k k (encW s) s.length (encChs (cmdAt p k1).ch) ((cmdAt p k1).ch.length : Int) 0 p.wide p.vars (encT p.start) (encCms p.cmds) (encW s) = _ := this
      rw [h']
      simp only [R180_r, List.drop_zero]
/-! ### Many commands -/
def playT (p : Prg) : List W → List Int → List (List W)
  | _, [] => []
  | s, k1 :: l => nx p k1 s :: playT p (nx p k1 s) l
def playD (p : Prg) : List W → List Int → List Bool
  | _, [] => []
  | s, k1 :: l => pO p k1 s :: playD p (nx p k1 s) l
theorem playT_len (p : Prg) : ∀ (l : List Int) (s : List W), (playT p s l).length = l.length ∧ (playD p s l).length = l.length
  | [], s => ⟨rfl, rfl⟩
  | k1 :: l, s => by
    have := playT_len p l (nx p k1 s)
    simp only [playT, playD, List.length_cons]
    omega
theorem playI_loop {k : Nat} (hk : 1000300 ≤ k) (p : Prg) (hp : FitP p) (hg : goodP p = true) (ks : List Int) (hks : ks.length ≤ 60) : ∀ (n i : Nat) (s : List W) (o : List (List W)) (d : List Bool), ks.length - i < n → i ≤ ks.length → o.length = i → d.length = i → stOK p s = true →
    L40_1 k n (encW s) o.length d.length (encZ ks) (ks.length : Int) (i : Int) p.wide p.vars (encT p.start) (encCms p.cmds) (encWW o) (encBo d) = r40 (encWW (o ++ playT p s (ks.drop i))) (encBo (d ++ playD p s (ks.drop i))) true
  | 0, i, s, o, d, h, hi, ho, hd, hs => by omega
  | n + 1, i, s, o, d, h, hi, ho, hdl, hs => by
    have hsl := st_len hp hs
    have hcl : ∀ t : List W, t.length ≤ 1000 → c125 k (encW t) = r125 (encW t) := by
      intro t ht
      obtain ⟨k, rfl⟩ : ∃ j, k = j + 1 := ⟨k - 1, by omega⟩
      exact n125 k _ (by simp [LIM]; omega) (by simp [LIM]; omega)
    rw [sL40_1]
    have e1 : (encWW o).take o.length = encWW o := by rw [List.take_of_length_le (by simp)]
    have e2 : (encBo d).take d.length = encBo d := by rw [List.take_of_length_le (by simp)]
    rw [e1, e2]
    by_cases hlt : i < ks.length
    · have hd : decide ((i : Int) < (ks.length : Int)) = true := by simpa using hlt
      have hnx := nx_ok hp hg hs ks[i]
      have hnl := st_len hp hnx
      rw [hd, encZ_lookup hlt, drop_cons hlt]
      simp only [cond_true, Option.bind_some, int_atInt, playT, playD]
      rw [stepA_ok (by omega) p hp _ hg s (by omega)]
      simp only [R28_r]
      have fin : (bif decide ((o.length + 1) * 24 ≤ LIM) && decide (o.length + 1 ≤ LIM) then
          bif decide ((d.length + 1) * 1 ≤ LIM) && decide (d.length + 1 ≤ LIM) then
           L40_1 k n (encW (nx p ks[i] s)) (o.length + 1) (d.length + 1) (encZ ks) (ks.length : Int) (IntKind.i64.wrap ((i : Int) + 1)) p.wide p.vars (encT p.start) (encCms p.cmds) (encWW o ++ [PV.row 0 0 ((encW (nx p ks[i] s)).take (encW (nx p ks[i] s)).length)]) (encBo d ++ [PV.bool (pO p ks[i] s)])
          else none
         else none) = r40 (encWW (o ++ nx p ks[i] s :: playT p (nx p ks[i] s) (ks.drop (i + 1)))) (encBo (d ++ pO p ks[i] s :: playD p (nx p ks[i] s) (ks.drop (i + 1)))) true := by
        rw [lim_ok (by omega) (by omega), lim_ok (by omega) (by omega), i64_id (by omega) (by omega), List.take_length, encWW_snoc, encBo_snoc]
        have e3 : o.length + 1 = (o ++ [nx p ks[i] s]).length := by simp
        have e4 : d.length + 1 = (d ++ [pO p ks[i] s]).length := by simp
        simp only [cond_true]
        rw [e3, e4, show (i : Int) + 1 = ((i + 1 : Nat) : Int) by omega, playI_loop hk p hp hg ks hks n (i + 1) _ _ _ (by omega) (by omega) (by simp; omega) (by simp; omega) hnx]
        simp
      cases hpo : pO p ks[i] s
      · have en : nx p ks[i] s = s := by unfold nx; rw [hpo]; rfl
        rw [hpo, en] at fin
        simp only [cond_false]
        rw [hcl s (by omega), en]
        simp only [R125_r]
        exact fin
      · have en : pT p ks[i] s = nx p ks[i] s := by unfold nx pT; rw [hpo]; rfl
        rw [hpo] at fin
        simp only [cond_true]
        rw [en, hcl _ (by omega)]
        simp only [R125_r]
        exact fin
    · have hd : decide ((i : Int) < (ks.length : Int)) = false := by simpa using hlt
      rw [hd, List.drop_eq_nil_of_le (by omega)]
      simp [playT, playD]
theorem playS_loop {k : Nat} (hk : 1000400 ≤ k) (p : Prg) (hp : FitP p) (hg : goodP p = true) (ks : List Int) (hks : ks.length ≤ 60) : ∀ (n i : Nat) (s : List W) (o : List (List W)) (d : List Bool), ks.length - i < n → i ≤ ks.length → o.length = i → d.length = i → stOK p s = true →
    L41_1 k n (encW s) o.length d.length (encZ ks) (ks.length : Int) (i : Int) p.wide p.vars (encT p.start) (encCms p.cmds) (encWW o) (encBo d) = r41 (encWW (o ++ playT p s (ks.drop i))) (encBo (d ++ playD p s (ks.drop i))) true
  | 0, i, s, o, d, h, hi, ho, hd, hs => by omega
  | n + 1, i, s, o, d, h, hi, ho, hdl, hs => by
    have hsl := st_len hp hs
    rw [sL41_1]
    have e1 : (encWW o).take o.length = encWW o := by rw [List.take_of_length_le (by simp)]
    have e2 : (encBo d).take d.length = encBo d := by rw [List.take_of_length_le (by simp)]
    rw [e1, e2]
    by_cases hlt : i < ks.length
    · have hd : decide ((i : Int) < (ks.length : Int)) = true := by simpa using hlt
      have hnx := nx_ok hp hg hs ks[i]
      have hnl := st_len hp hnx
      rw [hd, encZ_lookup hlt, drop_cons hlt]
      simp only [cond_true, Option.bind_some, int_atInt, playT, playD]
      rw [stepS_ok (by omega) p hp _ hg s (by omega)]
      simp only [R127_r]
      have fin : (bif decide ((0 + (encW (nx p ks[i] s)).length) * 8 ≤ LIM) && decide (0 + (encW (nx p ks[i] s)).length ≤ LIM) then
         bif decide ((o.length + 1) * 24 ≤ LIM) && decide (o.length + 1 ≤ LIM) then
          bif decide ((d.length + 1) * 1 ≤ LIM) && decide (d.length + 1 ≤ LIM) then
           L41_1 k n (encW (nx p ks[i] s)) (o.length + 1) (d.length + 1) (encZ ks) (ks.length : Int) (IntKind.i64.wrap ((i : Int) + 1)) p.wide p.vars (encT p.start) (encCms p.cmds) (encWW o ++ [PV.row 0 0 (([] ++ encW (nx p ks[i] s)).take (0 + (encW (nx p ks[i] s)).length))]) (encBo d ++ [PV.bool (pO p ks[i] s)])
          else none
         else none
        else none) = r41 (encWW (o ++ nx p ks[i] s :: playT p (nx p ks[i] s) (ks.drop (i + 1)))) (encBo (d ++ pO p ks[i] s :: playD p (nx p ks[i] s) (ks.drop (i + 1)))) true := by
        rw [lim_ok (by simp; omega) (by omega), lim_ok (by omega) (by omega), lim_ok (by omega) (by omega), i64_id (by omega) (by omega), List.nil_append, Nat.zero_add, List.take_length, encWW_snoc, encBo_snoc]
        have e3 : o.length + 1 = (o ++ [nx p ks[i] s]).length := by simp
        have e4 : d.length + 1 = (d ++ [pO p ks[i] s]).length := by simp
        simp only [cond_true]
        rw [e3, e4, show (i : Int) + 1 = ((i + 1 : Nat) : Int) by omega, playS_loop hk p hp hg ks hks n (i + 1) _ _ _ (by omega) (by omega) (by simp; omega) (by simp; omega) hnx]
        simp
      cases hpo : pO p ks[i] s
      · have en : nx p ks[i] s = s := by unfold nx; rw [hpo]; rfl
        rw [hpo, en] at fin
        simp only [cond_false]
        rw [en]
        exact fin
      · have en : pT p ks[i] s = nx p ks[i] s := by unfold nx pT; rw [hpo]; rfl
        rw [hpo] at fin
        simp only [cond_true]
        rw [en]
        exact fin
    · have hd : decide ((i : Int) < (ks.length : Int)) = false := by simpa using hlt
      rw [hd, List.drop_eq_nil_of_le (by omega)]
      simp [playT, playD]
def plOK (p : Prg) (s : List W) (ks : List Int) : Bool := goodP p && stOK p s && decide (ks.length ≤ 60)
theorem playI_ok {k : Nat} (hk : 1000400 ≤ k) (p : Prg) (hp : FitP p) (s : List W) (hsl : s.length ≤ 1000) (ks : List Int) : c40 k p.wide p.vars (encT p.start) (encCms p.cmds) (encW s) (encZ ks) = r40 (encWW (bif plOK p s ks then playT p s ks else [])) (encBo (bif plOK p s ks then playD p s ks else [])) (plOK p s ks) := by
  obtain ⟨k, rfl⟩ : ∃ j, k = j + 1 := ⟨k - 1, by omega⟩
  rw [n40, isStateOf_ok (by omega) p hp s (by omega), encZ_length]
  simp only [R106_r]
  unfold plOK
  cases h : (goodP p && stOK p s)
  · rfl
  · simp only [Bool.and_eq_true] at h
    simp only [Bool.not_true, cond_false, Bool.true_and]
    by_cases h2 : ks.length ≤ 60
    · have e1 : decide ((ks.length : Int) > 60) = false := by simp; omega
      simp only [e1, cond_false, h2, decide_true, cond_true]
      exact playI_loop (k := k) (by omega) p hp h.1 ks h2 k 0 s [] [] (by omega) (by omega) rfl rfl h.2
    · have e1 : decide ((ks.length : Int) > 60) = true := by simp; omega
      simp only [e1, cond_true, h2, decide_false, cond_false]
      rfl
theorem playS_ok {k : Nat} (hk : 1000500 ≤ k) (p : Prg) (hp : FitP p) (s : List W) (hsl : s.length ≤ 1000) (ks : List Int) : c41 k p.wide p.vars (encT p.start) (encCms p.cmds) (encW s) (encZ ks) = r41 (encWW (bif plOK p s ks then playT p s ks else [])) (encBo (bif plOK p s ks then playD p s ks else [])) (plOK p s ks) := by
  obtain ⟨k, rfl⟩ : ∃ j, k = j + 1 := ⟨k - 1, by omega⟩
  rw [n41, goodProgramS_ok (by omega) p hp, l7State_ok (by omega) p _ _ s (by omega), encZ_length]
  simp only [R45_r, R126_r]
  unfold plOK
  cases h1 : goodP p
  · rfl
  · cases h3 : stOK p s
    · rfl
    · simp only [Bool.not_true, cond_false, Bool.true_and, Bool.and_self]
      by_cases h2 : ks.length ≤ 60
      · have e1 : decide ((ks.length : Int) > 60) = false := by simp; omega
        simp only [e1, cond_false, h2, decide_true, cond_true]
        exact playS_loop (k := k) (by omega) p hp h1 ks h2 k 0 s [] [] (by omega) (by omega) rfl rfl h3
      · have e1 : decide ((ks.length : Int) > 60) = true := by simp; omega
        simp only [e1, cond_true, h2, decide_false, cond_false]
        rfl
end Go.Proofs.YtnflnpjojbkgjaaGreat
