/- FnCommute: what commands touch; independent commands commute; the law. -/
import Derived.Test.YtnflnpjojbkgjaaGreatPg
set_option linter.unusedVariables false
set_option linter.unusedSimpArgs false
set_option maxRecDepth 4000
namespace Go.Proofs.YtnflnpjojbkgjaaGreat
open Go.Dp

/-! ### What a command touches -/
def readsCh : List Chg → List Int
  | [] => []
  | x :: l => vlist x.by1 ++ readsCh l
def readsI : List Chg → List Int
  | [] => []
  | x :: l => canI (vlist x.by1) ++ readsI l
theorem readsI_mem : ∀ (l : List Chg) (v : Int), v ∈ readsI l ↔ v ∈ readsCh l
  | [], v => by simp [readsI, readsCh]
  | x :: l, v => by simp only [readsI, readsCh, List.mem_append, readsI_mem l v, (canI_spec _).2]
theorem readsI_len : ∀ (l : List Chg), (∀ x ∈ l, x.by1.length ≤ 100) → (readsI l).length ≤ 100 * l.length
  | [], h => by simp [readsI]
  | x :: l, h => by
    have h1 := readsI_len l fun y hy => h y (by simp [hy])
    have h2 := canI_len (vlist x.by1)
    have h3 := vlist_len x.by1
    have h4 := h x (by simp)
    simp only [readsI, List.length_append, List.length_cons]
    omega
theorem readsCh_len : ∀ (l : List Chg), (∀ x ∈ l, x.by1.length ≤ 100) → (readsCh l).length ≤ 100 * l.length
  | [], h => by simp [readsCh]
  | x :: l, h => by
    have h1 := readsCh_len l fun y hy => h y (by simp [hy])
    have h3 := vlist_len x.by1
    have h4 := h x (by simp)
    simp only [readsCh, List.length_append, List.length_cons]
    omega
def readsOf (c : Cmd) : List Int := putAllI [] (vlist c.wh ++ readsCh c.ch)
def writesOf (c : Cmd) : List Int := c.ch.map Chg.v
theorem reads_eq (c : Cmd) : canI (canI (vlist c.wh) ++ readsI c.ch) = readsOf c := by
  refine canI_put fun x => ?_
  simp only [List.mem_append, (canI_spec _).2, readsI_mem]
theorem touched_loop {k : Nat} (hk : 500 ≤ k) (c : Cmd) (hc : FitC 6 c) : ∀ (n i : Nat) (o w : List Int), c.ch.length - i < n → i ≤ c.ch.length → o.length ≤ 100 + 100 * i → w.length ≤ i → (∀ v, o ++ readsI (c.ch.drop i) = v → canI v = readsOf c) → w ++ (c.ch.drop i).map Chg.v = writesOf c →
    L23_1 k n o.length w.length (encChs c.ch) (c.ch.length : Int) (i : Int) (encZ o) (encZ w) = r23 (encZ (readsOf c)) (encZ (writesOf c)) true
  | 0, i, o, w, h, hi, ho, hw, h1, h2 => by omega
  | n + 1, i, o, w, h, hi, ho, hw, h1, h2 => by
    have hcl := hc.ch
    rw [sL23_1]
    have e1 : (encZ o).take o.length = encZ o := by rw [List.take_of_length_le (by simp)]
    have e2 : (encZ w).take w.length = encZ w := by rw [List.take_of_length_le (by simp)]
    rw [e1, e2]
    by_cases hlt : i < c.ch.length
    · have hd : decide ((i : Int) < (c.ch.length : Int)) = true := by simpa using hlt
      have hbi := hc.by1 _ (List.getElem_mem hlt)
      have hl1 := canI_len (vlist c.ch[i].by1)
      have hl2 := vlist_len c.ch[i].by1
      rw [hd, lookP_nat, encChs_get, List.getElem?_eq_getElem hlt]
      rw [drop_cons hlt] at h1 h2
      simp only [cond_true, Option.map_some, Option.bind_some, encCh_shp, encCh_v, encCh_by]
      rw [varsIn_ok (by omega) _ hbi]
      simp only [R98_r, List.take_length, encZ_length]
      rw [lim_ok (by omega) (by omega), lim_ok (by omega) (by omega), i64_id (by omega) (by omega)]
      simp only [cond_true]
      have e3 : encZ o ++ encZ (canI (vlist c.ch[i].by1)) = encZ (o ++ canI (vlist c.ch[i].by1)) := by simp [encZ]
      rw [e3, encZ_snoc]
      have e4 : o.length + (canI (vlist c.ch[i].by1)).length = (o ++ canI (vlist c.ch[i].by1)).length := by simp
      have e5 : w.length + 1 = (w ++ [c.ch[i].v]).length := by simp
      rw [e4, e5]
      refine touched_loop hk c hc n (i + 1) _ _ (by omega) (by omega) (by simp; omega) (by simp; omega) (fun v hv => h1 v ?_) ?_
      · rw [← hv, readsI, List.append_assoc]
      · rw [← h2, List.map_cons, List.append_assoc]; rfl
    · have hd : decide ((i : Int) < (c.ch.length : Int)) = false := by simpa using hlt
      have hlim : decide (o.length ≤ LIM) = true := by rw [decide_eq_true_eq]; unfold LIM; omega
      rw [List.drop_eq_nil_of_le (by omega)] at h1 h2
      rw [hd, hlim]
      simp only [cond_false, cond_true, intsOf_enc, Option.bind_some, sort_view, comp_view]
      have h3 := h1 o (by simp [readsI])
      have h4 : w = writesOf c := by simpa using h2
      rw [← h3, ← h4]
      rfl
theorem touchedI_ok {k : Nat} (hk : 1000300 ≤ k) (p : Prg) (hp : FitP p) (k1 : Int) : c23 k p.wide p.vars (encT p.start) (encCms p.cmds) k1 = r23 (encZ (bif goodP p && cnoOK p k1 then readsOf (cmdAt p k1) else [])) (encZ (bif goodP p && cnoOK p k1 then writesOf (cmdAt p k1) else [])) (goodP p && cnoOK p k1) := by
  obtain ⟨k, rfl⟩ : ∃ j, k = j + 1 := ⟨k - 1, by omega⟩
  rw [n23, goodProgram_ok (by omega) p hp, cno_ok (by omega)]
  simp only [R44_r, R97_r]
  cases goodP p
  · rfl
  · cases hn : cnoOK p k1
    · rfl
    · obtain ⟨hget, hm⟩ := cmdAt_get hn
      have hf := hp.c _ hm
      have hfw := hf.wh
      rw [hget]
      simp only [Bool.not_true, cond_false, Option.bind_some, encCm_shp, encCm_wh, encCm_ch, encChs_length, cond_true, Bool.true_and]
      rw [varsIn_ok (by omega) _ hfw]
      simp only [R98_r, encZ_length]
      have hl1 := canI_len (vlist (cmdAt p k1).wh)
      have hl2 := vlist_len (cmdAt p k1).wh
      exact touched_loop (k := k) (by omega) (cmdAt p k1) hf k 0 (canI (vlist (cmdAt p k1).wh)) [] (by have := hf.ch; omega) (by omega) (by omega) (by simp) (fun v hv => by rw [← hv]; exact reads_eq _) rfl
/-! ### Apart -/
def meetI (a b : List Int) : Bool := a.any fun x => b.contains x
theorem has_loop {k : Nat} (l : List Int) (hl : l.length ≤ 100000) (v : Int) : ∀ (n i : Nat), l.length - i < n → i ≤ l.length → L88_1 k n v (encZ l) (l.length : Int) (i : Int) = r88 ((l.drop i).contains v)
  | 0, i, h, hi => by omega
  | n + 1, i, h, hi => by
    rw [sL88_1]
    by_cases hlt : i < l.length
    · have hd : decide ((i : Int) < (l.length : Int)) = true := by simpa using hlt
      rw [hd, encZ_lookup hlt, drop_cons hlt]
      simp only [cond_true, Option.bind_some, int_atInt, List.contains_cons]
      rw [show (v == l[i]) = (l[i] == v) from BEq.comm]
      cases he : (l[i] == v)
      · simp only [cond_false, Bool.false_or]
        rw [i64_id (by omega) (by omega)]
        exact has_loop l hl v n (i + 1) (by omega) (by omega)
      · simp
    · have hd : decide ((i : Int) < (l.length : Int)) = false := by simpa using hlt
      rw [hd, List.drop_eq_nil_of_le (by omega)]
      simp
theorem has_ok {k : Nat} (hk : 100010 ≤ k) (l : List Int) (hl : l.length ≤ 100000) (v : Int) : c88 k (encZ l) v = r88 (l.contains v) := by
  obtain ⟨k, rfl⟩ : ∃ j, k = j + 1 := ⟨k - 1, by omega⟩
  rw [n88, encZ_length]
  have := has_loop (k := k) l hl v k 0 (by omega) (by omega)
  simpa using this
def tOK (p : Prg) (k1 : Int) : Bool := goodP p && cnoOK p k1
def apart (p : Prg) (k1 m1 : Int) : Bool := !meetI (writesOf (cmdAt p k1)) (readsOf (cmdAt p m1)) && (!meetI (writesOf (cmdAt p k1)) (writesOf (cmdAt p m1)) && !meetI (writesOf (cmdAt p m1)) (readsOf (cmdAt p k1)))
theorem reads_len {p : Prg} (hp : FitP p) {k1 : Int} (h : cnoOK p k1 = true) : (readsOf (cmdAt p k1)).length ≤ 1000 ∧ (writesOf (cmdAt p k1)).length ≤ 1000 := by
  have hf := hp.c _ (cmdAt_get h).2
  have h1 := putAllI_len (vlist (cmdAt p k1).wh ++ readsCh (cmdAt p k1).ch) []
  have h2 := readsCh_len (cmdAt p k1).ch hf.by1
  have h3 := vlist_len (cmdAt p k1).wh
  have h4 := hf.wh
  have h5 := hf.ch
  simp only [List.length_append, List.length_nil] at h1
  unfold readsOf writesOf
  exact ⟨by omega, by simp; omega⟩
theorem sameI_loop {k : Nat} (a : List Int) (ha : a.length ≤ 1000000) : ∀ (n i : Nat), a.length - i < n → i ≤ a.length → L25_1 k n (encZ a) (encZ a) (a.length : Int) (i : Int) = r25 true
  | 0, i, h, hi => by omega
  | n + 1, i, h, hi => by
    rw [sL25_1]
    by_cases hlt : i < a.length
    · have hd : decide ((i : Int) < (a.length : Int)) = true := by simpa using hlt
      rw [hd, encZ_lookup hlt]
      simp only [cond_true, Option.bind_some, int_atInt, bne_self_eq_false, cond_false]
      rw [i64_id (by omega) (by omega)]
      exact sameI_loop a ha n (i + 1) (by omega) (by omega)
    · have hd : decide ((i : Int) < (a.length : Int)) = false := by simpa using hlt
      rw [hd]
      rfl
theorem sameI_ok {k : Nat} (hk : 1000010 ≤ k) (a : List Int) (ha : a.length ≤ 1000000) : c25 k (encZ a) (encZ a) = r25 true := by
  obtain ⟨k, rfl⟩ : ∃ j, k = j + 1 := ⟨k - 1, by omega⟩
  rw [n25, encZ_length, bne_self_eq_false]
  have := sameI_loop (k := k) a ha k 0 (by omega) (by omega)
  simpa using this
end Go.Proofs.YtnflnpjojbkgjaaGreat
