/- FnBefore: what is drawn; what must hold ahead of a command. -/
import Derived.Test.YtnliglgellapdaaPc
import Derived.Test.YtnliglgellapdaaKk
set_option linter.unusedVariables false
set_option linter.unusedSimpArgs false
set_option maxRecDepth 4000
namespace Go.Proofs.Ytnliglgellapdaa
open Go.Dp

theorem prog_ok {bs : List Nat} (hc : CodeOK bs) {k : Nat} (hk : 210 ≤ k) {at' : Int} (h0 : 0 ≤ at') (h1 : at' ≤ 400000000) (s : W) :
    ∃ a2 s2 p, c98 k (encB bs) at' (wi s) = r98 (encB bs) a2 (wi s2) p.wide p.vars (encT p.start) (encCms p.cmds) ∧ at' ≤ a2 ∧ a2 ≤ at' + 20000 ∧ FitP p := by
  obtain ⟨k, rfl⟩ : ∃ j, k = j + 1 := ⟨k - 1, by omega⟩
  rw [n98]
  obtain ⟨a2, s2, b, h, h2, h3⟩ := one_ok hc (k := k) (by omega) h0 (by omega) s 2
  rw [h]
  simp only [R75_r]
  cases b
  · simp only [cond_false]
    obtain ⟨a3, s3, v, h, h4, h5, h6⟩ := among_ok hc (k := k) (by omega) (at' := a2) (by omega) (by omega) s2 [8, 32, 64] (by simp)
    rw [show ([PV.int .i64 8, PV.int .i64 32, PV.int .i64 64] : List PV) = encI [8, 32, 64] from rfl, h]
    simp only [R96_r]
    have hv : 1 ≤ v ∧ v ≤ 64 := by simp at h6; omega
    obtain ⟨a4, s4, u, h, h7, h8, h9, h10, _⟩ := pick_ok hc (k := k) (by omega) (at' := a3) (by omega) (by omega) s3 3
    have h10 := h10 (by omega)
    rw [h]
    simp only [R69_r]
    rw [i64_id (n := 1 + u) (by omega) (by omega)]
    obtain ⟨a5, s5, p, h, h11, h12, h13, h14, h15, h16, h17⟩ := progOf_ok hc (k := k) (by omega) (wide := v) (vars := 1 + u) hv (by omega) (at' := a4) (by omega) (by omega) s4
    rw [h]
    simp only [R129_r, List.take_length]
    exact ⟨a5, s5, p, rfl, by omega, by omega, h13⟩
  · simp only [cond_true]
    obtain ⟨a3, s3, p, h, h4, h5, h6⟩ := small_ok hc (k := k) (by omega) (at' := a2) (by omega) (by omega) s2
    rw [h]
    simp only [R57_r]
    exact ⟨a3, s3, p, rfl, by omega, by omega, h6⟩
def one1 (n : Int) : Int := if n < 1 then 1 else n
theorem l2One_ok {k : Nat} (hk : 1 ≤ k) (n : Int) : c74 k n = r74 (one1 n) := by
  obtain ⟨k, rfl⟩ : ∃ j, k = j + 1 := ⟨k - 1, by omega⟩
  rw [n74]
  unfold one1
  by_cases h : n < 1
  · simp [h]
  · simp [h]
theorem askedOf_ok {bs : List Nat} (hc : CodeOK bs) {k : Nat} (hk : 150 ≤ k) {wide vars : Int} (hw : wide ≤ 64) (hv : vars ≤ 100) (l1 l2 : List PV) {d : Int} (hd0 : 0 ≤ d) (hd : d ≤ 2) {at' : Int} (h0 : 0 ≤ at') (h1 : at' ≤ 500000000) (s : W) :
    ∃ a2 s2 t, c99 k wide vars l1 l2 d (encB bs) at' (wi s) = r99 (encB bs) a2 (wi s2) (encT t) ∧ at' ≤ a2 ∧ a2 ≤ at' + 1000 ∧ t.length ≤ 31 := by
  obtain ⟨k, rfl⟩ : ∃ j, k = j + 1 := ⟨k - 1, by omega⟩
  rw [n99, l2One_ok (by omega), l2One_ok (by omega)]
  simp only [R74_r]
  have ho : ∀ n : Int, 1 ≤ one1 n ∧ (n ≤ 64 → one1 n ≤ 64) ∧ (n ≤ 100 → one1 n ≤ 100) := by intro n; unfold one1; split <;> omega
  obtain ⟨a3, s3, t, h, h2, h3, h4, h5⟩ := asked_int hc (wide := one1 wide) (vars := one1 vars) (by have := ho wide; omega) ((ho wide).2.1 hw) (ho vars).1 ((ho vars).2.2 hv) hd0 hd (k := k) (by omega) (at' := at') h0 (by omega) s
  rw [h]
  simp only [R91_r]
  obtain ⟨a4, s4, b, h, h6, h7⟩ := one_ok hc (k := k) (by omega) (at' := a3) (by omega) (by omega) s3 40
  rw [h]
  simp only [R75_r, encT_length]
  rw [i64_id (n := (t.length : Int) - 1) (by omega) (by omega)]
  have e1 : (decide ((0 : Int) ≤ (t.length : Int) - 1) && decide ((t.length : Int) - 1 ≤ (t.length : Int))) = true := by simp; omega
  rw [e1]
  cases b
  · simp only [cond_false]
    have e2 : (encT t).take t.length = encT t := by rw [List.take_of_length_le (by simp)]
    rw [e2]
    exact ⟨_, _, t, rfl, by omega, by omega, by omega⟩
  · simp only [cond_true]
    rw [encT_take]
    exact ⟨_, _, _, rfl, by omega, by omega, by simp; omega⟩
theorem drawBeforeOne_ok {bs : List Nat} (hc : CodeOK bs) {k : Nat} (hk : 300 ≤ k) : ∃ p k1 t, c38 k (encB bs) = r38 p.wide p.vars (encT p.start) (encCms p.cmds) k1 (encT t) ∧ FitP p ∧ t.length ≤ 31 ∧ 0 ≤ k1 ∧ k1 ≤ 2 := by
  obtain ⟨k, rfl⟩ : ∃ j, k = j + 1 := ⟨k - 1, by omega⟩
  rw [n38]
  obtain ⟨a2, s2, p, h, h2, h3, h4⟩ := prog_ok hc (k := k) (by omega) (at' := 0) (by omega) (by omega) 0#64
  have h' : c98 k (encB bs) 0 0 = _ := h
  rw [h']
  simp only [R98_r]
  obtain ⟨a3, s3, v, h, h5, h6, h7, h8, _⟩ := pick_ok hc (k := k) (by omega) (at' := a2) (by omega) (by omega) s2 3
  have h8 := h8 (by omega)
  rw [h]
  simp only [R69_r]
  have hw := h4.w
  have hv := h4.v
  obtain ⟨a4, s4, t, h, h9, h10, h11⟩ := askedOf_ok hc (k := k) (by omega) (wide := p.wide) (vars := p.vars) (by omega) (by omega) (encT p.start) (encCms p.cmds) (d := 1) (by omega) (by omega) (at' := a3) (by omega) (by omega) s3
  rw [h]
  simp only [R99_r]
  exact ⟨p, v, t, rfl, h4, h11, h7, by omega⟩

/-! ### What is asked -/
def cnoOK (p : Prg) (k1 : Int) : Bool := decide (0 ≤ k1) && decide (k1 < (p.cmds.length : Int))
def cmdAt (p : Prg) (k1 : Int) : Cmd := (p.cmds[k1.toNat]?).getD ⟨[], []⟩
def askOK (p : Prg) (k1 : Int) (t : List Nd) : Bool := goodP p && (cnoOK p k1 && (kindT p.wide p.vars t == 2))
theorem cno_ok {k : Nat} (hk : 1 ≤ k) (p : Prg) (k1 : Int) : c106 k p.wide p.vars (encT p.start) (encCms p.cmds) k1 = r106 (cnoOK p k1) := by
  obtain ⟨k, rfl⟩ : ∃ j, k = j + 1 := ⟨k - 1, by omega⟩
  rw [n106, encCms_length]
  unfold cnoOK
  simp only [ge_iff_le]
  cases decide (0 ≤ k1) <;> rfl
theorem cmdAt_get {p : Prg} {k1 : Int} (h : cnoOK p k1 = true) : lookP (encCms p.cmds) k1 = some (encCm (cmdAt p k1)) ∧ cmdAt p k1 ∈ p.cmds := by
  simp only [cnoOK, Bool.and_eq_true, decide_eq_true_eq] at h
  have hlt : k1.toNat < p.cmds.length := by omega
  rw [lookP_int h.1, encCms_get]
  unfold cmdAt
  rw [List.getElem?_eq_getElem hlt]
  exact ⟨rfl, List.getElem_mem hlt⟩
theorem isBefore_ok {k : Nat} (hk : 1000300 ≤ k) (p : Prg) (hp : FitP p) (k1 : Int) (t : List Nd) (ht : t.length ≤ 100) : c100 k p.wide p.vars (encT p.start) (encCms p.cmds) k1 (encT t) = r100 (askOK p k1 t) := by
  obtain ⟨k, rfl⟩ : ∃ j, k = j + 1 := ⟨k - 1, by omega⟩
  rw [n100, goodProgram_ok (by omega) p hp, cno_ok (by omega), cond_ok (by omega) _ _ _ _ _ (by omega)]
  simp only [R65_r, R106_r, R132_r]
  unfold askOK
  cases goodP p
  · rfl
  · cases cnoOK p k1 <;> rfl
theorem l16Asked_ok {k : Nat} (hk : 1000300 ≤ k) (p : Prg) (hp : FitP p) (k1 : Int) (t : List Nd) (ht : t.length ≤ 100) : c102 k p.wide p.vars (encT p.start) (encCms p.cmds) k1 (encT t) = r102 (askOK p k1 t) := by
  obtain ⟨k, rfl⟩ : ∃ j, k = j + 1 := ⟨k - 1, by omega⟩
  have hcm := hp.cm
  rw [n102, goodProgramS_ok (by omega) p hp, in_ok (by omega), asks_ok (by omega) _ _ _ _ _ (by omega), encCms_length, i64_id (by omega) (by omega)]
  simp only [R66_r, R54_r, R136_r]
  have e : (decide (0 ≤ k1) && decide (k1 ≤ (p.cmds.length : Int) - 1)) = cnoOK p k1 := by
    unfold cnoOK
    congr 1
    rw [decide_eq_decide]
    omega
  rw [e]
  unfold askOK
  cases goodP p
  · rfl
  · cases cnoOK p k1 <;> rfl

/-! ### What is put for the variables -/
def varsT (n : Nat) : List (List Nd) := (List.range n).map fun v => [((2 : Int), BitVec.ofNat 64 v)]
@[simp] theorem varsT_length (n : Nat) : (varsT n).length = n := by simp [varsT]
theorem varsT_snoc (n : Nat) : varsT n ++ [[(2, BitVec.ofNat 64 n)]] = varsT (n + 1) := by simp [varsT, List.range_succ]
def setCh (by1 : List (List Nd)) (ch : List Chg) : List (List Nd) := ch.foldl (fun b x => b.set x.v.toNat x.by1) by1
theorem setCh_length : ∀ (ch : List Chg) (by1 : List (List Nd)), (setCh by1 ch).length = by1.length
  | [], by1 => rfl
  | x :: l, by1 => by
    have := setCh_length l (by1.set x.v.toNat x.by1)
    simpa [setCh] using this
theorem setCh_len : ∀ (ch : List Chg) (by1 : List (List Nd)), (∀ b ∈ by1, b.length ≤ 100) → (∀ x ∈ ch, x.by1.length ≤ 100) → ∀ b ∈ setCh by1 ch, b.length ≤ 100
  | [], by1, h1, h2 => h1
  | x :: l, by1, h1, h2 => by
    refine setCh_len l (by1.set x.v.toNat x.by1) (fun b hb => ?_) fun y hy => h2 y (by simp [hy])
    rcases List.mem_or_eq_of_mem_set hb with h | h
    · exact h1 b h
    · subst h; exact h2 x (by simp)
def byOf (p : Prg) (c : Cmd) : List (List Nd) := setCh (varsT p.vars.toNat) c.ch
theorem varsT_len (n : Nat) : ∀ b ∈ varsT n, b.length ≤ 100 := by
  intro b hb
  simp only [varsT, List.mem_map] at hb
  obtain ⟨v, _, rfl⟩ := hb
  simp
def oneOK (p : Prg) (c : Cmd) (t : List Nd) : Bool := putOK p.wide p.vars t (byOf p c) && goodT p.wide p.vars (putT (byOf p c) t)
def oneT (p : Prg) (c : Cmd) (t : List Nd) : List Nd := bif oneOK p c t then putT (byOf p c) t else []
theorem oneT_enc (p : Prg) (c : Cmd) (t : List Nd) : (bif oneOK p c t then encT (putT (byOf p c) t) else []) = encT (oneT p c t) := by
  unfold oneT
  cases oneOK p c t <;> rfl
theorem oneT_len (p : Prg) (c : Cmd) (t : List Nd) : (oneT p c t).length ≤ 48 := by
  unfold oneT
  cases h : oneOK p c t
  · simp
  · simp only [oneOK, Bool.and_eq_true] at h
    have := (goodT_iff.1 h.2).1
    simp only [sizeT, Bool.and_eq_true, decide_eq_true_eq] at this
    exact this.2
theorem goodChs_mem {wide vars : Int} : ∀ {l : List Chg} {pv : Int}, goodChs wide vars pv l = true → ∀ x ∈ l, 0 ≤ x.v ∧ x.v < vars ∧ kindT wide vars x.by1 = 1
  | [], pv, h => by simp
  | x :: l, pv, h => by
    simp only [goodChs, Bool.and_eq_true, decide_eq_true_eq, beq_iff_eq] at h
    intro y hy
    rcases List.mem_cons.1 hy with rfl | hy
    · exact ⟨h.1.1.1.1, h.1.1.1.2, h.1.2⟩
    · exact goodChs_mem h.2 y hy
theorem ask_cmd {p : Prg} (hp : FitP p) {k1 : Int} {t : List Nd} (h : askOK p k1 t = true) : isW p.wide = true ∧ isV p.vars = true ∧ cnoOK p k1 = true ∧ kindT p.wide p.vars t = 2 ∧ FitC 6 (cmdAt p k1) ∧ kindT p.wide p.vars (cmdAt p k1).wh = 2 ∧ ∀ x ∈ (cmdAt p k1).ch, 0 ≤ x.v ∧ x.v < p.vars ∧ kindT p.wide p.vars x.by1 = 1 := by
  simp only [askOK, Bool.and_eq_true, beq_iff_eq] at h
  obtain ⟨hg, hn, hk⟩ := h
  obtain ⟨h1, h2⟩ := goodP_size hg
  have hm := (cmdAt_get hn).2
  simp only [goodP, Bool.and_eq_true, List.all_eq_true] at hg
  have hc := hg.2 _ hm
  simp only [goodCmd, Bool.and_eq_true, beq_iff_eq] at hc
  exact ⟨h1, h2, hn, hk, hp.c _ hm, hc.1, goodChs_mem hc.2⟩
theorem vars_node (v : Nat) (hv : v ≤ 100) : PV.agg [.int .i64 2, .int .u64 (IntKind.u64.wrap (v : Int))] = encN (2, BitVec.ofNat 64 v) := by
  rw [wrapU]
  have : BitVec.ofInt 64 (v : Int) = BitVec.ofNat 64 v := by simp
  rw [this]
  rfl
theorem one_loop2 {k : Nat} (hk : 1000300 ≤ k) (p : Prg) (l1 l2 : List PV) (t : List Nd) (ht : t.length ≤ 100) (ch : List Chg) (hl : ch.length ≤ 100) (hb : ∀ x ∈ ch, x.by1.length ≤ 100) (hx : ∀ x ∈ ch, 0 ≤ x.v ∧ x.v < p.vars) : ∀ (n i : Nat) (by1 : List (List Nd)), ch.length - i < n → i ≤ ch.length → (by1.length : Int) = p.vars → by1.length ≤ 1000 → (∀ b ∈ by1, b.length ≤ 100) →
    L101_2 k n (encT t) by1.length (encChs ch) (ch.length : Int) (i : Int) p.wide p.vars l1 l2 (encTT by1) = r101 (bif putOK p.wide p.vars t (setCh by1 (ch.drop i)) && goodT p.wide p.vars (putT (setCh by1 (ch.drop i)) t) then encT (putT (setCh by1 (ch.drop i)) t) else []) (putOK p.wide p.vars t (setCh by1 (ch.drop i)) && goodT p.wide p.vars (putT (setCh by1 (ch.drop i)) t))
  | 0, i, by1, h, hi, hv, hv2, hb1 => by omega
  | n + 1, i, by1, h, hi, hv, hv2, hb1 => by
    rw [sL101_2]
    by_cases hlt : i < ch.length
    · have hd : decide ((i : Int) < (ch.length : Int)) = true := by simpa using hlt
      have hm := List.getElem_mem hlt
      have hxi := hx _ hm
      have hbi := hb _ hm
      rw [hd, lookP_nat, encChs_get, List.getElem?_eq_getElem hlt, drop_cons hlt]
      simp only [cond_true, Option.map_some, Option.bind_some, encCh_shp, encCh_v, encCh_by]
      have hin : (decide ((0 : Int) ≤ ch[i].v) && decide (ch[i].v < (by1.length : Int))) = true := by simp; omega
      have hget : (encTT by1)[0 + ch[i].v.toNat]? = some (PV.row 2 0 (encT (by1[ch[i].v.toNat]'(by omega)))) := by rw [Nat.zero_add, encTT_get, List.getElem?_eq_getElem (by omega)]; rfl
      rw [hin, hget]
      simp only [cond_true, Option.bind_some, Nat.zero_add]
      have hset : (encTT by1).set ch[i].v.toNat (PV.row 2 0 (encT ch[i].by1)) = encTT (by1.set ch[i].v.toNat ch[i].by1) := by simp [encTT, List.map_set]
      rw [hset, i64_id (by omega) (by omega)]
      have := one_loop2 hk p l1 l2 t ht ch hl hb hx n (i + 1) (by1.set ch[i].v.toNat ch[i].by1) (by omega) (by omega) (by simpa using hv) (by simpa using hv2) (fun b hb' => by
        rcases List.mem_or_eq_of_mem_set hb' with h | h
        · exact hb1 b h
        · subst h; exact hbi)
      rw [List.length_set] at this
      exact this
    · have hd : decide ((i : Int) < (ch.length : Int)) = false := by simpa using hlt
      rw [hd, List.drop_eq_nil_of_le (by omega)]
      have e1 : (encTT by1).take by1.length = encTT by1 := by rw [List.take_of_length_le (by simp)]
      simp only [cond_false, e1]
      rw [putAll_ok (by omega) p.wide p.vars t ht by1 hv2 hb1]
      simp only [R22_r, setCh, List.foldl_nil]
theorem one_loop1 {k : Nat} (hk : 1000300 ≤ k) (p : Prg) (hp : FitP p) (k1 : Int) (t : List Nd) (ht : t.length ≤ 100) (hn : cnoOK p k1 = true) (hx : ∀ x ∈ (cmdAt p k1).ch, 0 ≤ x.v ∧ x.v < p.vars) : ∀ (n v : Nat), (p.vars - v).toNat < n → (v : Int) ≤ p.vars →
    L101_1 k n k1 (encT t) v p.vars (v : Int) p.wide p.vars (encT p.start) (encCms p.cmds) (encTT (varsT v)) = r101 (encT (oneT p (cmdAt p k1) t)) (oneOK p (cmdAt p k1) t)
  | 0, v, h, hv => by omega
  | n + 1, v, h, hv => by
    have hpv := hp.v
    rw [sL101_1]
    by_cases hlt : (v : Int) < p.vars
    · have hd : decide ((v : Int) < p.vars) = true := by simpa using hlt
      rw [hd, lim_ok (by omega) (by omega), vars_node v (by omega), i64_id (by omega) (by omega)]
      simp only [cond_true]
      have e1 : (encTT (varsT v)).take v = encTT (varsT v) := by rw [List.take_of_length_le (by simp)]
      have e2 : PV.row 2 0 [encN (2, BitVec.ofNat 64 v)] = PV.row 2 0 (encT [(2, BitVec.ofNat 64 v)]) := rfl
      rw [e1, e2, encTT_snoc, varsT_snoc]
      exact one_loop1 hk p hp k1 t ht hn hx n (v + 1) (by omega) (by omega)
    · have hd : decide ((v : Int) < p.vars) = false := by simpa using hlt
      have hvv : v = p.vars.toNat := by omega
      obtain ⟨hget, hm⟩ := cmdAt_get hn
      have hf := hp.c _ hm
      have hfl := hf.ch
      rw [hd, hget]
      simp only [cond_false, Option.bind_some, encCm_ch, encChs_length]
      have := one_loop2 (k := k) hk p (encT p.start) (encCms p.cmds) t ht (cmdAt p k1).ch (by omega) hf.by1 hx k 0 (varsT v) (by omega) (by omega) (by simp; omega) (by simp; omega) (varsT_len v)
      rw [List.drop_zero, varsT_length] at this
      have h2 : L101_2 k k (encT t) v (encChs (cmdAt p k1).ch) ((cmdAt p k1).ch.length : Int) 0 p.wide p.vars (encT p.start) (encCms p.cmds) (encTT (varsT v)) = _ := this
      rw [h2, ← oneT_enc]
      unfold oneOK byOf
      rw [hvv]
theorem beforeOne_ok {k : Nat} (hk : 1000310 ≤ k) (p : Prg) (hp : FitP p) (k1 : Int) (t : List Nd) (ht : t.length ≤ 100) (hn : cnoOK p k1 = true) (hx : ∀ x ∈ (cmdAt p k1).ch, 0 ≤ x.v ∧ x.v < p.vars) :
    c101 k p.wide p.vars (encT p.start) (encCms p.cmds) k1 (encT t) = r101 (encT (oneT p (cmdAt p k1) t)) (oneOK p (cmdAt p k1) t) := by
  obtain ⟨k, rfl⟩ : ∃ j, k = j + 1 := ⟨k - 1, by omega⟩
  have hv := hp.v
  rw [n101]
  exact one_loop1 (k := k) (by omega) p hp k1 t ht hn hx k 0 (by omega) (by omega)
theorem oneS_loop2 {k : Nat} (hk : 1000300 ≤ k) (p : Prg) (l1 l2 : List PV) (t : List Nd) (ht : t.length ≤ 100) (ch : List Chg) (hl : ch.length ≤ 100) (hb : ∀ x ∈ ch, x.by1.length ≤ 100) (hx : ∀ x ∈ ch, 0 ≤ x.v ∧ x.v < p.vars) : ∀ (n i : Nat) (by1 : List (List Nd)), ch.length - i < n → i ≤ ch.length → (by1.length : Int) = p.vars → by1.length ≤ 1000 → (∀ b ∈ by1, b.length ≤ 100) →
    L103_2 k n (encT t) by1.length (encChs ch) (ch.length : Int) (i : Int) p.wide p.vars l1 l2 (encTT by1) = r103 (bif putOK p.wide p.vars t (setCh by1 (ch.drop i)) && goodT p.wide p.vars (putT (setCh by1 (ch.drop i)) t) then encT (putT (setCh by1 (ch.drop i)) t) else []) (putOK p.wide p.vars t (setCh by1 (ch.drop i)) && goodT p.wide p.vars (putT (setCh by1 (ch.drop i)) t))
  | 0, i, by1, h, hi, hv, hv2, hb1 => by omega
  | n + 1, i, by1, h, hi, hv, hv2, hb1 => by
    rw [sL103_2]
    by_cases hlt : i < ch.length
    · have hd : decide ((i : Int) < (ch.length : Int)) = true := by simpa using hlt
      have hm := List.getElem_mem hlt
      have hxi := hx _ hm
      have hbi := hb _ hm
      rw [hd, lookP_nat, encChs_get, List.getElem?_eq_getElem hlt, drop_cons hlt]
      simp only [cond_true, Option.map_some, Option.bind_some, encCh_shp, encCh_v, encCh_by]
      have hin : (decide ((0 : Int) ≤ ch[i].v) && decide (ch[i].v < (by1.length : Int))) = true := by simp; omega
      have hget : (encTT by1)[0 + ch[i].v.toNat]? = some (PV.row 2 0 (encT (by1[ch[i].v.toNat]'(by omega)))) := by rw [Nat.zero_add, encTT_get, List.getElem?_eq_getElem (by omega)]; rfl
      rw [hin, hget]
      simp only [cond_true, Option.bind_some, Nat.zero_add]
      have hset : (encTT by1).set ch[i].v.toNat (PV.row 2 0 (encT ch[i].by1)) = encTT (by1.set ch[i].v.toNat ch[i].by1) := by simp [encTT, List.map_set]
      rw [hset, i64_id (by omega) (by omega)]
      have := oneS_loop2 hk p l1 l2 t ht ch hl hb hx n (i + 1) (by1.set ch[i].v.toNat ch[i].by1) (by omega) (by omega) (by simpa using hv) (by simpa using hv2) (fun b hb' => by
        rcases List.mem_or_eq_of_mem_set hb' with h | h
        · exact hb1 b h
        · subst h; exact hbi)
      rw [List.length_set] at this
      exact this
    · have hd : decide ((i : Int) < (ch.length : Int)) = false := by simpa using hlt
      rw [hd, List.drop_eq_nil_of_le (by omega)]
      have e1 : (encTT by1).take by1.length = encTT by1 := by rw [List.take_of_length_le (by simp)]
      simp only [cond_false, e1]
      rw [putAllS_ok (by omega) p.wide p.vars t ht by1 hv2 hb1]
      simp only [R23_r, setCh, List.foldl_nil]
theorem oneS_loop1 {k : Nat} (hk : 1000300 ≤ k) (p : Prg) (hp : FitP p) (k1 : Int) (t : List Nd) (ht : t.length ≤ 100) (hn : cnoOK p k1 = true) (hx : ∀ x ∈ (cmdAt p k1).ch, 0 ≤ x.v ∧ x.v < p.vars) : ∀ (n v : Nat), (p.vars - v).toNat < n → (v : Int) ≤ p.vars →
    L103_1 k n k1 (encT t) v (v : Int) p.wide p.vars (encT p.start) (encCms p.cmds) (encTT (varsT v)) = r103 (encT (oneT p (cmdAt p k1) t)) (oneOK p (cmdAt p k1) t)
  | 0, v, h, hv => by omega
  | n + 1, v, h, hv => by
    have hpv := hp.v
    rw [sL103_1]
    by_cases hlt : (v : Int) < p.vars
    · have hd : decide ((v : Int) < p.vars) = true := by simpa using hlt
      rw [hd, lim_ok (by omega) (by omega), vars_node v (by omega), i64_id (by omega) (by omega)]
      simp only [cond_true]
      have e1 : (encTT (varsT v)).take v = encTT (varsT v) := by rw [List.take_of_length_le (by simp)]
      have e2 : PV.row 2 0 [encN (2, BitVec.ofNat 64 v)] = PV.row 2 0 (encT [(2, BitVec.ofNat 64 v)]) := rfl
      rw [e1, e2, encTT_snoc, varsT_snoc]
      exact oneS_loop1 hk p hp k1 t ht hn hx n (v + 1) (by omega) (by omega)
    · have hd : decide ((v : Int) < p.vars) = false := by simpa using hlt
      have hvv : v = p.vars.toNat := by omega
      obtain ⟨hget, hm⟩ := cmdAt_get hn
      have hf := hp.c _ hm
      have hfl := hf.ch
      rw [hd, hget]
      simp only [cond_false, Option.bind_some, encCm_ch, encChs_length]
      have := oneS_loop2 (k := k) hk p (encT p.start) (encCms p.cmds) t ht (cmdAt p k1).ch (by omega) hf.by1 hx k 0 (varsT v) (by omega) (by omega) (by simp; omega) (by simp; omega) (varsT_len v)
      rw [List.drop_zero, varsT_length] at this
      have h2 : L103_2 k k (encT t) v (encChs (cmdAt p k1).ch) ((cmdAt p k1).ch.length : Int) 0 p.wide p.vars (encT p.start) (encCms p.cmds) (encTT (varsT v)) = _ := this
      rw [h2, ← oneT_enc]
      unfold oneOK byOf
      rw [hvv]
theorem l16One_ok {k : Nat} (hk : 1000310 ≤ k) (p : Prg) (hp : FitP p) (k1 : Int) (t : List Nd) (ht : t.length ≤ 100) (hn : cnoOK p k1 = true) (hx : ∀ x ∈ (cmdAt p k1).ch, 0 ≤ x.v ∧ x.v < p.vars) :
    c103 k p.wide p.vars (encT p.start) (encCms p.cmds) k1 (encT t) = r103 (encT (oneT p (cmdAt p k1) t)) (oneOK p (cmdAt p k1) t) := by
  obtain ⟨k, rfl⟩ : ∃ j, k = j + 1 := ⟨k - 1, by omega⟩
  have hv := hp.v
  rw [n103]
  exact oneS_loop1 (k := k) (by omega) p hp k1 t ht hn hx k 0 (by omega) (by omega)

/-! ### The condition that a command establishes another one -/
def ifT (p : Prg) (c : Cmd) (t : List Nd) : List Nd := c.wh ++ [(19, 0#64)] ++ oneT p c t ++ [(18, 0#64)]
def ifOK (p : Prg) (c : Cmd) (t : List Nd) : Bool := oneOK p c t && goodT p.wide p.vars (ifT p c t)
def ifR (p : Prg) (c : Cmd) (t : List Nd) : List Nd := bif ifOK p c t then ifT p c t else []
theorem ifR_len {p : Prg} {c : Cmd} {t : List Nd} (hc : FitC 6 c) : (ifR p c t).length ≤ 200 := by
  unfold ifR
  have h1 := hc.wh
  have h2 := oneT_len p c t
  cases ifOK p c t
  · simp
  · simp [ifT]; omega
theorem beforeIf_ok {k : Nat} (hk : 1000320 ≤ k) (p : Prg) (hp : FitP p) (k1 : Int) (t : List Nd) (ht : t.length ≤ 100) (hn : cnoOK p k1 = true) (hx : ∀ x ∈ (cmdAt p k1).ch, 0 ≤ x.v ∧ x.v < p.vars) :
    c104 k p.wide p.vars (encT p.start) (encCms p.cmds) k1 (encT t) = r104 (encT (ifR p (cmdAt p k1) t)) (ifOK p (cmdAt p k1) t) := by
  obtain ⟨k, rfl⟩ : ∃ j, k = j + 1 := ⟨k - 1, by omega⟩
  obtain ⟨hget, hm⟩ := cmdAt_get hn
  have hf := hp.c _ hm
  have hfw := hf.wh
  have hol := oneT_len p (cmdAt p k1) t
  rw [n104, beforeOne_ok (by omega) p hp k1 t ht hn hx, hget]
  simp only [R101_r, Option.bind_some, encCm_wh]
  unfold ifR ifOK
  cases h1 : oneOK p (cmdAt p k1) t
  · rfl
  · simp only [Bool.not_true, cond_false, Bool.true_and]
    have e2 : ([PV.row 2 0 (encT (cmdAt p k1).wh), PV.row 2 0 [PV.agg [.int .i64 19, .int .u64 0]], PV.row 2 0 (encT (oneT p (cmdAt p k1) t)), PV.row 2 0 [PV.agg [.int .i64 18, .int .u64 0]]] : List PV) = rowsP [encT (cmdAt p k1).wh, encT [(19, 0#64)], encT (oneT p (cmdAt p k1) t), encT [(18, 0#64)]] := rfl
    have e3 : [encT (cmdAt p k1).wh, encT [(19, 0#64)], encT (oneT p (cmdAt p k1) t), encT [(18, 0#64)]].flatten = encT (ifT p (cmdAt p k1) t) := by simp [ifT, encT]
    rw [e2, concat_ok (by omega) _ (by simp) (by simp; omega), e3, R92p_enc, List.take_length, checked_ok (by omega) _ _ _ (by simp [ifT]; omega)]
    simp only [R79_r]
    cases goodT p.wide p.vars (ifT p (cmdAt p k1) t) <;> rfl
theorem l16If_ok {k : Nat} (hk : 1000320 ≤ k) (p : Prg) (hp : FitP p) (k1 : Int) (t : List Nd) (ht : t.length ≤ 100) (hn : cnoOK p k1 = true) (hx : ∀ x ∈ (cmdAt p k1).ch, 0 ≤ x.v ∧ x.v < p.vars) :
    c105 k p.wide p.vars (encT p.start) (encCms p.cmds) k1 (encT t) = r105 (encT (ifR p (cmdAt p k1) t)) (ifOK p (cmdAt p k1) t) := by
  obtain ⟨k, rfl⟩ : ∃ j, k = j + 1 := ⟨k - 1, by omega⟩
  obtain ⟨hget, hm⟩ := cmdAt_get hn
  have hf := hp.c _ hm
  have hfw := hf.wh
  have hol := oneT_len p (cmdAt p k1) t
  rw [n105, l16One_ok (by omega) p hp k1 t ht hn hx, hget]
  simp only [R103_r, Option.bind_some, encCm_wh, encT_length]
  unfold ifR ifOK
  cases h1 : oneOK p (cmdAt p k1) t
  · rfl
  · simp only [Bool.not_true, cond_false, Bool.true_and]
    rw [lim_ok (by omega) (by omega), lim_ok (by omega) (by omega), lim_ok (by omega) (by omega), lim_ok (by omega) (by omega)]
    have e19 : PV.agg [.int .i64 19, .int .u64 0] = encN (19, 0#64) := rfl
    have e18 : PV.agg [.int .i64 18, .int .u64 0] = encN (18, 0#64) := rfl
    have e4 : ((((((([] ++ encT (cmdAt p k1).wh).take (0 + (cmdAt p k1).wh.length)) ++ [PV.agg [.int .i64 19, .int .u64 0]]).take ((0 + (cmdAt p k1).wh.length) + 1)) ++ encT (oneT p (cmdAt p k1) t)).take (((0 + (cmdAt p k1).wh.length) + 1) + (oneT p (cmdAt p k1) t).length)) ++ [PV.agg [.int .i64 18, .int .u64 0]]).take ((((0 + (cmdAt p k1).wh.length) + 1) + (oneT p (cmdAt p k1) t).length) + 1) = encT (ifT p (cmdAt p k1) t) := by
      rw [e19, e18]
      simp only [List.nil_append, Nat.zero_add]
      rw [List.take_of_length_le (l := encT (cmdAt p k1).wh) (by (simp; try omega)), encT_snoc, List.take_of_length_le (l := encT ((cmdAt p k1).wh ++ [(19, 0#64)])) (by (simp; try omega)), encT_app, List.take_of_length_le (l := encT ((cmdAt p k1).wh ++ [(19, 0#64)] ++ oneT p (cmdAt p k1) t)) (by (simp; try omega)), encT_snoc, List.take_of_length_le (by (simp; try omega))]
      rfl
    rw [e4]
    simp only [cond_true]
    rw [made_ok (by omega) _ _ _ (by simp [ifT]; omega)]
    simp only [R81_r]
    cases goodT p.wide p.vars (ifT p (cmdAt p k1) t) <;> rfl

/-! ### The four functions -/
def b1OK (p : Prg) (k1 : Int) (t : List Nd) : Bool := askOK p k1 t && oneOK p (cmdAt p k1) t
def b1T (p : Prg) (k1 : Int) (t : List Nd) : List Nd := bif askOK p k1 t then oneT p (cmdAt p k1) t else []
def b2OK (p : Prg) (k1 : Int) (t : List Nd) : Bool := askOK p k1 t && ifOK p (cmdAt p k1) t
def b2T (p : Prg) (k1 : Int) (t : List Nd) : List Nd := bif askOK p k1 t then ifR p (cmdAt p k1) t else []
theorem BeforeOneI_ok {k : Nat} (hk : 1000400 ≤ k) (p : Prg) (hp : FitP p) (k1 : Int) (t : List Nd) (ht : t.length ≤ 100) : c39 k p.wide p.vars (encT p.start) (encCms p.cmds) k1 (encT t) = r39 (encT (b1T p k1 t)) (b1OK p k1 t) := by
  obtain ⟨k, rfl⟩ : ∃ j, k = j + 1 := ⟨k - 1, by omega⟩
  rw [n39, isBefore_ok (by omega) p hp k1 t ht]
  simp only [R100_r]
  unfold b1T b1OK
  cases h : askOK p k1 t
  · rfl
  · obtain ⟨_, _, hn, _, _, _, hx⟩ := ask_cmd hp h
    rw [beforeOne_ok (by omega) p hp k1 t ht hn (fun x h => ⟨(hx x h).1, (hx x h).2.1⟩)]
    simp only [R101_r, Bool.not_true, cond_false, cond_true, Bool.true_and]
theorem BeforeOneS_ok {k : Nat} (hk : 1000400 ≤ k) (p : Prg) (hp : FitP p) (k1 : Int) (t : List Nd) (ht : t.length ≤ 100) : c40 k p.wide p.vars (encT p.start) (encCms p.cmds) k1 (encT t) = r40 (encT (b1T p k1 t)) (b1OK p k1 t) := by
  obtain ⟨k, rfl⟩ : ∃ j, k = j + 1 := ⟨k - 1, by omega⟩
  rw [n40, l16Asked_ok (by omega) p hp k1 t ht]
  simp only [R102_r]
  unfold b1T b1OK
  cases h : askOK p k1 t
  · rfl
  · obtain ⟨_, _, hn, _, _, _, hx⟩ := ask_cmd hp h
    rw [l16One_ok (by omega) p hp k1 t ht hn (fun x h => ⟨(hx x h).1, (hx x h).2.1⟩)]
    simp only [R103_r, Bool.not_true, cond_false, cond_true, Bool.true_and]
theorem BeforeIfI_ok {k : Nat} (hk : 1000400 ≤ k) (p : Prg) (hp : FitP p) (k1 : Int) (t : List Nd) (ht : t.length ≤ 100) : c41 k p.wide p.vars (encT p.start) (encCms p.cmds) k1 (encT t) = r41 (encT (b2T p k1 t)) (b2OK p k1 t) := by
  obtain ⟨k, rfl⟩ : ∃ j, k = j + 1 := ⟨k - 1, by omega⟩
  rw [n41, isBefore_ok (by omega) p hp k1 t ht]
  simp only [R100_r]
  unfold b2T b2OK
  cases h : askOK p k1 t
  · rfl
  · obtain ⟨_, _, hn, _, _, _, hx⟩ := ask_cmd hp h
    rw [beforeIf_ok (by omega) p hp k1 t ht hn (fun x h => ⟨(hx x h).1, (hx x h).2.1⟩)]
    simp only [R104_r, Bool.not_true, cond_false, cond_true, Bool.true_and]
theorem BeforeIfS_ok {k : Nat} (hk : 1000400 ≤ k) (p : Prg) (hp : FitP p) (k1 : Int) (t : List Nd) (ht : t.length ≤ 100) : c42 k p.wide p.vars (encT p.start) (encCms p.cmds) k1 (encT t) = r42 (encT (b2T p k1 t)) (b2OK p k1 t) := by
  obtain ⟨k, rfl⟩ : ∃ j, k = j + 1 := ⟨k - 1, by omega⟩
  rw [n42, l16Asked_ok (by omega) p hp k1 t ht]
  simp only [R102_r]
  unfold b2T b2OK
  cases h : askOK p k1 t
  · rfl
  · obtain ⟨_, _, hn, _, _, _, hx⟩ := ask_cmd hp h
    rw [l16If_ok (by omega) p hp k1 t ht hn (fun x h => ⟨(hx x h).1, (hx x h).2.1⟩)]
    simp only [R105_r, Bool.not_true, cond_false, cond_true, Bool.true_and]
end Go.Proofs.Ytnliglgellapdaa
