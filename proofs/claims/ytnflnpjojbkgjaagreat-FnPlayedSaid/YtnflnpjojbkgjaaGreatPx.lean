/- FnPlayed: the law. -/
import Derived.Test.YtnflnpjojbkgjaaGreatPw
set_option linter.unusedVariables false
set_option linter.unusedSimpArgs false
set_option maxRecDepth 4000
namespace Go.Proofs.YtnflnpjojbkgjaaGreat
open Go.Dp

theorem isStartI_ok {k : Nat} (hk : 1000400 ≤ k) (p : Prg) (hp : FitP p) (s : List W) (hsl : s.length ≤ 1000) : c49 k p.wide p.vars (encT p.start) (encCms p.cmds) (encW s) = r49 (goodP p && stOK p s && holdT p p.start s) (goodP p && stOK p s) := by
  obtain ⟨k, rfl⟩ : ∃ j, k = j + 1 := ⟨k - 1, by omega⟩
  rw [n49, isStateOf_ok (by omega) p hp s (by omega)]
  simp only [R106_r]
  cases h : (goodP p && stOK p s)
  · rfl
  · simp only [Bool.and_eq_true] at h
    simp only [Bool.not_true, cond_false, Bool.true_and]
    rw [holdsI_ok (by omega) p h.1 _ _ _ hp.st (good_all h.1).1 s h.2]
    simp only [R107_r]
theorem isStartS_ok {k : Nat} (hk : 1000400 ≤ k) (p : Prg) (hp : FitP p) (s : List W) (hsl : s.length ≤ 1000) : c50 k p.wide p.vars (encT p.start) (encCms p.cmds) (encW s) = r50 (goodP p && stOK p s && holdT p p.start s) (goodP p && stOK p s) := by
  obtain ⟨k, rfl⟩ : ∃ j, k = j + 1 := ⟨k - 1, by omega⟩
  rw [n50, goodProgramS_ok (by omega) p hp, l7State_ok (by omega) p _ _ s (by omega)]
  simp only [R45_r, R126_r]
  cases h1 : goodP p
  · rfl
  · cases h2 : stOK p s
    · rfl
    · simp only [Bool.not_true, cond_false, Bool.true_and]
      rw [holdsS_ok (by omega) p h1 _ _ _ hp.st (good_all h1).1 s h2]
      simp only [R133_r]
theorem hasL_loop {k : Nat} (l : List Int) (hl : l.length ≤ 100000) (v : Int) : ∀ (n i : Nat), l.length - i < n → i ≤ l.length → L47_1 k n v (encZ l) (l.length : Int) (i : Int) = r47 ((l.drop i).contains v)
  | 0, i, h, hi => by omega
  | n + 1, i, h, hi => by
    rw [sL47_1]
    by_cases hlt : i < l.length
    · have hd : decide ((i : Int) < (l.length : Int)) = true := by simpa using hlt
      rw [hd, encZ_lookup hlt, drop_cons hlt]
      simp only [cond_true, Option.bind_some, int_atInt, List.contains_cons]
      rw [show (v == l[i]) = (l[i] == v) from BEq.comm]
      cases he : (l[i] == v)
      · simp only [cond_false, Bool.false_or]
        rw [i64_id (by omega) (by omega)]
        exact hasL_loop l hl v n (i + 1) (by omega) (by omega)
      · simp
    · have hd : decide ((i : Int) < (l.length : Int)) = false := by simpa using hlt
      rw [hd, List.drop_eq_nil_of_le (by omega)]
      simp
theorem hasL_ok {k : Nat} (hk : 100010 ≤ k) (l : List Int) (hl : l.length ≤ 100000) (v : Int) : c47 k (encZ l) v = r47 (l.contains v) := by
  obtain ⟨k, rfl⟩ : ∃ j, k = j + 1 := ⟨k - 1, by omega⟩
  rw [n47, encZ_length]
  have := hasL_loop (k := k) l hl v k 0 (by omega) (by omega)
  simpa using this
theorem sameSt_loop {k : Nat} (hk : 1000010 ≤ k) (a : List (List W)) (ha : a.length ≤ 1000000) (hl : ∀ s ∈ a, s.length ≤ 1000) : ∀ (n i : Nat), a.length - i < n → i ≤ a.length → L42_1 k n (encWW a) (encWW a) (a.length : Int) (i : Int) = r42 true
  | 0, i, h, hi => by omega
  | n + 1, i, h, hi => by
    rw [sL42_1]
    by_cases hlt : i < a.length
    · have hd : decide ((i : Int) < (a.length : Int)) = true := by simpa using hlt
      have hli := hl _ (List.getElem_mem hlt)
      rw [hd, lookP_nat, encWW_get, List.getElem?_eq_getElem hlt]
      simp only [cond_true, Option.map_some, Option.bind_some, row_atRow]
      rw [sameWords_ok (by omega) _ _ (by omega)]
      simp only [R29_r, decide_true, Bool.not_true, cond_false]
      rw [i64_id (by omega) (by omega)]
      exact sameSt_loop hk a ha hl n (i + 1) (by omega) (by omega)
    · have hd : decide ((i : Int) < (a.length : Int)) = false := by simpa using hlt
      rw [hd]
      rfl
theorem sameSt_ok {k : Nat} (hk : 1000100 ≤ k) (a : List (List W)) (ha : a.length ≤ 1000) (hl : ∀ s ∈ a, s.length ≤ 1000) : c42 k (encWW a) (encWW a) = r42 true := by
  obtain ⟨k, rfl⟩ : ∃ j, k = j + 1 := ⟨k - 1, by omega⟩
  rw [n42, encWW_length, bne_self_eq_false]
  have := sameSt_loop (k := k) (by omega) a (by omega) hl k 0 (by omega) (by omega)
  simpa using this
theorem sameBo_loop {k : Nat} (a : List Bool) (ha : a.length ≤ 1000) : ∀ (n i : Nat), a.length - i < n → i ≤ a.length → L43_1 k n (encBo a) (encBo a) (a.length : Int) (i : Int) = r43 true
  | 0, i, h, hi => by omega
  | n + 1, i, h, hi => by
    rw [sL43_1]
    by_cases hlt : i < a.length
    · have hd : decide ((i : Int) < (a.length : Int)) = true := by simpa using hlt
      have hb : ∀ b : Bool, (PV.bool b).atBool 0 = some b := fun b => rfl
      rw [hd, lookP_nat, encBo_get, List.getElem?_eq_getElem hlt]
      simp only [cond_true, Option.map_some, Option.bind_some, hb, beq_self_eq_true, Bool.not_true, cond_false]
      rw [i64_id (by omega) (by omega)]
      exact sameBo_loop a ha n (i + 1) (by omega) (by omega)
    · have hd : decide ((i : Int) < (a.length : Int)) = false := by simpa using hlt
      rw [hd]
      rfl
theorem sameBo_ok {k : Nat} (hk : 1100 ≤ k) (a : List Bool) (ha : a.length ≤ 1000) : c43 k (encBo a) (encBo a) = r43 true := by
  obtain ⟨k, rfl⟩ : ∃ j, k = j + 1 := ⟨k - 1, by omega⟩
  rw [n43, encBo_length, bne_self_eq_false]
  have := sameBo_loop (k := k) a ha k 0 (by omega) (by omega)
  simpa using this
theorem drawPlay_loop {bs : List Nat} (hc : CodeOK bs) {k : Nat} (hk : 10 ≤ k) (qs : List PV) (n11 n12 : Int) (l l1 : List PV) (p1 p2 : Int) (l3 l4 : List PV) : ∀ (m n : Nat) (n1 : Int) (o : List Int) {at' : Int} (s : W), n1.toNat ≤ m → m < n → n1 ≤ 100 → o.length + m ≤ 1000 → 0 ≤ at' → at' + 2 * m ≤ 900000000 →
    ∃ o2, L39_1 k n qs n1 o.length n11 n12 l l1 (encB bs) at' (wi s) p1 p2 l3 l4 (encZ o) = r39 p1 p2 l3 l4 qs (encZ o2) ∧ o2.length ≤ 1000
  | m, 0, n1, o, at', s, hm, hn, h1, ho, h0, h2 => by omega
  | m, n + 1, n1, o, at', s, hm, hn, h1, ho, h0, h2 => by
    rw [sL39_1]
    have e1 : (encZ o).take o.length = encZ o := by rw [List.take_of_length_le (by simp)]
    rw [e1]
    by_cases hd : n1 > 0
    · have hd' : decide (n1 > 0) = true := by simpa using hd
      obtain ⟨a2, s2, v, h, h3, h4, _⟩ := pick_ok hc (k := k) (by omega) h0 (by omega) s 4
      rw [hd', h]
      simp only [cond_true, R91_r]
      rw [lim_ok (by omega) (by omega), i64_id (by omega) (by omega), encZ_snoc]
      have e2 : o.length + 1 = (o ++ [v]).length := by simp
      simp only [cond_true]
      rw [e2]
      cases m with
      | zero => omega
      | succ m => exact drawPlay_loop hc hk qs n11 n12 l l1 p1 p2 l3 l4 m n (n1 - 1) (o ++ [v]) (at' := a2) s2 (by omega) (by omega) (by omega) (by simp; omega) (by omega) (by omega)
    · have hd' : decide (n1 > 0) = false := by simpa using hd
      rw [hd']
      exact ⟨o, rfl, by omega⟩
theorem drawPlay_ok {bs : List Nat} (hc : CodeOK bs) {k : Nat} (hk : 400 ≤ k) : ∃ p s ks, c39 k (encB bs) = r39 p.wide p.vars (encT p.start) (encCms p.cmds) (encW s) (encZ ks) ∧ FitP p ∧ s.length ≤ 101 ∧ ks.length ≤ 1000 := by
  obtain ⟨k, rfl⟩ : ∃ j, k = j + 1 := ⟨k - 1, by omega⟩
  rw [n39]
  obtain ⟨a2, s2, p, h, h2, h3, h4⟩ := prog_ok hc (k := k) (by omega) (at' := 0) (by omega) (by omega) 0#64
  have h' : c90 k (encB bs) 0 0 = _ := h
  rw [h']
  simp only [R90_r]
  have hw := h4.w
  have hv := h4.v
  obtain ⟨a3, s3, st, h, h5, h6, h7⟩ := stateFor_ok hc (k := k) (by omega) (wide := p.wide) (vars := p.vars) (by omega) (by omega) (by omega) (encT p.start) (encCms p.cmds) (at' := a2) (by omega) (by omega) s2
  rw [h]
  simp only [R124_r]
  obtain ⟨a4, s4, v, h, h8, h9, h10, h11, _⟩ := pick_ok hc (k := k) (by omega) (at' := a3) (by omega) (by omega) s3 12
  have h11 := h11 (by omega)
  rw [h]
  simp only [R91_r]
  obtain ⟨a5, s5, b, h, h12, h13⟩ := one_ok hc (k := k) (by omega) (at' := a4) (by omega) (by omega) s4 30
  rw [h]
  simp only [R85_r]
  cases b
  · simp only [cond_false]
    obtain ⟨o2, h14, h15⟩ := drawPlay_loop hc (k := k) (by omega) (encW st) 0 0 [] [] p.wide p.vars (encT p.start) (encCms p.cmds) 100 k v [] (at' := a5) s5 (by omega) (by omega) (by omega) (by simp) (by omega) (by omega)
    exact ⟨p, st, o2, h14, h4, h7, h15⟩
  · simp only [cond_true]
    obtain ⟨a6, s6, u, h, h16, h17, h18, h19, _⟩ := pick_ok hc (k := k) (by omega) (at' := a5) (by omega) (by omega) s5 2
    have h19 := h19 (by omega)
    rw [h]
    simp only [R91_r]
    rw [i64_id (n := 60 + u) (by omega) (by omega)]
    obtain ⟨o2, h14, h15⟩ := drawPlay_loop hc (k := k) (by omega) (encW st) 0 0 [] [] p.wide p.vars (encT p.start) (encCms p.cmds) 100 k (60 + u) [] (at' := a6) s6 (by omega) (by omega) (by omega) (by simp) (by omega) (by omega)
    exact ⟨p, st, o2, h14, h4, h7, h15⟩
theorem drawStart_ok {bs : List Nat} (hc : CodeOK bs) {k : Nat} (hk : 400 ≤ k) : ∃ p s, c48 k (encB bs) = r48 p.wide p.vars (encT p.start) (encCms p.cmds) (encW s) ∧ FitP p ∧ s.length ≤ 101 := by
  obtain ⟨k, rfl⟩ : ∃ j, k = j + 1 := ⟨k - 1, by omega⟩
  rw [n48]
  obtain ⟨a2, s2, p, h, h2, h3, h4⟩ := prog_ok hc (k := k) (by omega) (at' := 0) (by omega) (by omega) 0#64
  have h' : c90 k (encB bs) 0 0 = _ := h
  rw [h']
  simp only [R90_r]
  have hw := h4.w
  have hv := h4.v
  obtain ⟨a3, s3, st, h, h5, h6, h7⟩ := stateFor_ok hc (k := k) (by omega) (wide := p.wide) (vars := p.vars) (by omega) (by omega) (by omega) (encT p.start) (encCms p.cmds) (at' := a2) (by omega) (by omega) s2
  rw [h]
  simp only [R124_r]
  exact ⟨p, st, rfl, h4, h7⟩
/-! ### The law -/
theorem played_end {k : Nat} (hk : 1001000 ≤ k) {more : List Nat} (hm : CodeOK more) : (R48 (c48 k (encB more)) fun v1 v2 l8 l9 l10 =>
   R49 (c49 k v1 v2 l8 l9 l10) fun b7 b8 =>
   R50 (c50 k v1 v2 l8 l9 l10) fun b9 b10 =>
   R46 (c46 k v1 v2 l8 l9 l10) fun l11 b11 =>
   R51 (c51 k v1 v2 l8 l9 l10) fun l12 b12 =>
   bif (b8 == b10) then
    bif (b7 == b9) then
     bif (b11 == b12) then
      R25 (c25 k l11 l12) fun b13 =>
      r6 b13
     else r6 false
    else r6 false
   else r6 false) = r6 true := by
  obtain ⟨p, s, h, hp, hs⟩ := drawStart_ok hm (k := k) (by omega)
  have hcm := hp.cm
  have hel := enL_len p s p.cmds 0
  rw [h]
  simp only [R48_r]
  rw [isStartI_ok (by omega) p hp s (by omega), isStartS_ok (by omega) p hp s (by omega), enabledI_ok (by omega) p hp s (by omega), enabledS_ok (by omega) p hp s (by omega)]
  simp only [R49_r, R50_r, R46_r, R51_r, beq_self_eq_true, cond_true]
  rw [sameI_ok (by omega) _ (by cases (goodP p && stOK p s) <;> simp <;> omega)]
  simp only [R25_r]
theorem played_vars {k n1 : Nat} (hk : 1000500 ≤ k) (more ks : List PV) (l : List (List W)) (did : List PV) (p : Prg) (at1 x : List W) (i : Nat) (hil : i < l.length) (hil2 : i ≤ 1000) (hx : l[i]? = some x) (writes : List Int) (hwl : writes.length ≤ 1000) (hlen : x.length = at1.length) (hxl : x.length ≤ 1000) (hsame : ∀ v : Nat, (v : Int) ∉ writes → x[v]? = at1[v]?) (l1 l2 : List PV) : ∀ (n v : Nat), x.length - v < n → v ≤ x.length →
    L6_2 k n1 n more ks (encWW l) did true (encW at1) (i : Int) (encW x) (encZ writes) true (x.length : Int) (v : Int) p.wide p.vars l1 l2 = L6_1 k n1 more ks (encWW l) did true (encW x) (IntKind.i64.wrap ((i : Int) + 1)) p.wide p.vars l1 l2
  | 0, v, h, hv => by omega
  | n + 1, v, h, hv => by
    rw [sL6_2]
    by_cases hlt : v < x.length
    · have hd : decide ((v : Int) < (x.length : Int)) = true := by simpa using hlt
      rw [hd, hasL_ok (by omega) _ (by omega)]
      simp only [cond_true, R47_r, Bool.not_true, cond_false]
      rw [i64_id (n := (v : Int) + 1) (by omega) (by omega), show (v : Int) + 1 = ((v + 1 : Nat) : Int) by omega]
      have ih := played_vars (n1 := n1) hk more ks l did p at1 x i hil hil2 hx writes hwl hlen hxl hsame l1 l2 n (v + 1) (by omega) (by omega)
      cases hc : writes.contains (v : Int)
      · simp only [Bool.not_false, cond_true]
        have h1 := hsame v (by simpa using hc)
        have h2 : v < at1.length := by omega
        rw [List.getElem?_eq_getElem hlt, List.getElem?_eq_getElem h2] at h1
        injection h1 with h1
        rw [lookP_nat, lookP_nat, encW_get, encW_get, List.getElem?_eq_getElem hlt, List.getElem?_eq_getElem h2]
        simp only [Option.map_some, Option.bind_some, int_atInt, h1, bne_self_eq_false, cond_false]
        exact ih
      · simp only [Bool.not_true, cond_false]
        exact ih
    · have hd : decide ((v : Int) < (x.length : Int)) = false := by simpa using hlt
      rw [hd, lookP_nat (encWW l) i, encWW_get, hx]
      simp only [cond_false, Option.map_some, Option.bind_some, row_atRow]
      rw [sameWords_ok (by omega) _ _ (by omega)]
      simp only [R29_r, decide_true, Bool.not_true, cond_false]
theorem played_loop {k : Nat} (hk : 1002000 ≤ k) {more : List Nat} (hm : CodeOK more) (p : Prg) (hp : FitP p) (hg : goodP p = true) (ks : List Int) (hks : ks.length ≤ 60) (l : List (List W)) (d : List Bool) (hll : l.length = ks.length) (hdl : d.length = ks.length) : ∀ (n i : Nat) (s : List W), ks.length - i < n → i ≤ ks.length → stOK p s = true → l.drop i = playT p s (ks.drop i) → d.drop i = playD p s (ks.drop i) →
    L6_1 k n (encB more) (encZ ks) (encWW l) (encBo d) true (encW s) (i : Int) p.wide p.vars (encT p.start) (encCms p.cmds) = r6 true
  | 0, i, s, h, hi, hs, h1, h2 => by omega
  | n + 1, i, s, h, hi, hs, h1, h2 => by
    have hsl := st_len hp hs
    have hcm := hp.cm
    have hel := enL_len p s p.cmds 0
    rw [sL6_1, encZ_length]
    simp only [cond_true]
    by_cases hlt : i < ks.length
    · have hd : decide ((i : Int) < (ks.length : Int)) = true := by simpa using hlt
      have hb : ∀ b : Bool, (PV.bool b).atBool 0 = some b := fun b => rfl
      rw [drop_cons hlt] at h1 h2
      rw [drop_cons (show i < l.length by omega)] at h1
      rw [drop_cons (show i < d.length by omega)] at h2
      simp only [playT, playD] at h1 h2
      injection h1 with g1 g2
      injection h2 with g3 g4
      have hnx := nx_ok hp hg hs ks[i]
      have hnl := st_len hp hnx
      have hgl : l[i]? = some (nx p ks[i] s) := by rw [List.getElem?_eq_getElem (by omega), g1]
      have hgd : d[i]? = some (pO p ks[i] s) := by rw [List.getElem?_eq_getElem (by omega), g3]
      rw [hd, encZ_lookup hlt, enabledI_ok (by omega) p hp s (by omega), hg, hs]
      simp only [cond_true, Option.bind_some, int_atInt, Bool.and_self, R46_r]
      rw [stepA_ok (by omega) p hp _ hg s (by omega)]
      simp only [R28_r]
      rw [touchedI_ok (by omega) p hp, hg]
      simp only [R23_r, Bool.true_and, Bool.not_true, cond_false]
      rw [lookP_nat, encBo_get, hgd]
      simp only [Option.map_some, Option.bind_some, hb, beq_self_eq_true, Bool.not_true, cond_false]
      rw [hasL_ok (by omega) _ (by omega), enL_has]
      simp only [R47_r]
      have epo : pO p ks[i] s = (cnoOK p ks[i] && holdC p (cmdAt p ks[i]) s) := by rw [pO, hs, Bool.true_and]
      rw [← epo, beq_self_eq_true]
      simp only [Bool.not_true, cond_false]
      have hnext : IntKind.i64.wrap ((i : Int) + 1) = ((i + 1 : Nat) : Int) := by rw [i64_id (by omega) (by omega)]; omega
      have ih := played_loop hk hm p hp hg ks hks l d hll hdl n (i + 1) (nx p ks[i] s) (by omega) (by omega) hnx g2 g4
      cases hpo : pO p ks[i] s
      · have en : nx p ks[i] s = s := by unfold nx; rw [hpo]; rfl
        rw [en] at hgl ih
        simp only [cond_false]
        rw [lookP_nat, encWW_get, hgl]
        simp only [Option.map_some, Option.bind_some, row_atRow]
        rw [sameWords_ok (by omega) _ _ (by omega)]
        simp only [R29_r, decide_true, Bool.not_true, cond_false]
        rw [hnext]
        exact ih
      · obtain ⟨_, hn, _⟩ := pO_get hpo
        have en : pT p ks[i] s = nx p ks[i] s := by unfold nx pT; rw [hpo]; rfl
        have ea : nx p ks[i] s = afterS p.wide s (cmdAt p ks[i]).ch s := by unfold nx; rw [hpo]; rfl
        obtain ⟨_, _, _, _, _, _, hx⟩ := good_cmd hp (k1 := ks[i]) (by simp [tOK, hg, hn])
        have hlen : (nx p ks[i] s).length = s.length := by rw [ea, afterS_length]
        have hwl := (reads_len hp hn).2
        rw [en, hn]
        simp only [cond_true, encW_length, hlen, bne_self_eq_false, cond_false]
        have hv := played_vars (k := k) (n1 := n) (by omega) (encB more) (encZ ks) l (encBo d) p s (nx p ks[i] s) i (by omega) (by omega) hgl (writesOf (cmdAt p ks[i])) (by omega) hlen (by omega) (fun v hv => by
          rw [ea]
          refine afterS_get p.wide s v _ _ fun x hxm e => hv ?_
          have := (hx x hxm).1
          have e2 : x.v = (v : Int) := by omega
          rw [← e2]
          exact List.mem_map.2 ⟨x, hxm, rfl⟩) (encT p.start) (encCms p.cmds) k 0 (by omega) (by omega)
        rw [hlen] at hv
        have hv' : L6_2 k n k (encB more) (encZ ks) (encWW l) (encBo d) true (encW s) (i : Int) (encW (nx p ks[i] s)) (encZ (writesOf (cmdAt p ks[i]))) true (s.length : Int) 0 p.wide p.vars (encT p.start) (encCms p.cmds) = _ := hv
        rw [hv', hnext]
        exact ih
    · have hd : decide ((i : Int) < (ks.length : Int)) = false := by simpa using hlt
      rw [hd]
      simp only [cond_false]
      exact played_end (by omega) hm
theorem played_true {k : Nat} (hk : 1048700 ≤ k) (code more : List Nat) (hc : ∀ b ∈ code, b < 256) (hm : ∀ b ∈ more, b < 256) : c6 k (encB code) (encB more) = r6 true := by
  obtain ⟨k, rfl⟩ : ∃ j, k = j + 1 := ⟨k - 1, by omega⟩
  rw [n6, big_ok (by omega)]
  simp only [R8_r]
  cases hbig : (decide (code.length > 1048576) || decide (more.length + code.length > 1048576))
  · simp only [cond_false]
    rw [Bool.or_eq_false_iff] at hbig
    have hl : code.length ≤ 1048576 ∧ more.length ≤ 1048576 := by
      have h1 := hbig.1
      have h2 := hbig.2
      simp at h1 h2
      omega
    have hcc : CodeOK code := ⟨hl.1, hc⟩
    have hmm : CodeOK more := ⟨hl.2, hm⟩
    obtain ⟨p, s, ks, h, hp, hs, hks⟩ := drawPlay_ok hcc (k := k) (by omega)
    rw [h]
    simp only [R39_r]
    rw [playI_ok (by omega) p hp s (by omega), playS_ok (by omega) p hp s (by omega)]
    simp only [R40_r, R41_r, beq_self_eq_true, Bool.not_true, cond_false]
    have hlens := playT_len p ks s
    have hall : ∀ (l : List Int) (u : List W), goodP p = true → stOK p u = true → ∀ t ∈ playT p u l, t.length ≤ 1000 := by
      intro l
      induction l with
      | nil => intro u _ _ t ht; simp [playT] at ht
      | cons k1 l ih =>
        intro u h1 h2 t ht
        have h3 := nx_ok hp h1 h2 k1
        rcases List.mem_cons.1 ht with rfl | ht
        · have := st_len hp h3; omega
        · exact ih _ h1 h3 t ht
    cases hok : plOK p s ks
    · simp only [cond_false]
      rw [sameSt_ok (by omega) [] (by simp) (by simp), sameBo_ok (by omega) [] (by simp), goodProgram_ok (by omega) p hp, goodProgramS_ok (by omega) p hp]
      simp only [R42_r, R43_r, R44_r, R45_r, beq_self_eq_true, Bool.not_true, cond_false]
      obtain ⟨k, rfl⟩ : ∃ j, k = j + 1 := ⟨k - 1, by omega⟩
      rw [sL6_1]
      simp only [cond_false]
      exact played_end (by omega) hmm
    · have hok' := hok
      simp only [plOK, Bool.and_eq_true, decide_eq_true_eq] at hok'
      obtain ⟨⟨h1, h2⟩, h3⟩ := hok'
      simp only [cond_true]
      rw [sameSt_ok (by omega) _ (by omega) (hall ks s h1 h2), sameBo_ok (by omega) _ (by omega), goodProgram_ok (by omega) p hp, goodProgramS_ok (by omega) p hp]
      simp only [R42_r, R43_r, R44_r, R45_r, beq_self_eq_true, Bool.not_true, cond_false]
      exact played_loop (k := k) (by omega) hmm p hp h1 ks h3 _ _ hlens.1 hlens.2 k 0 s (by omega) (by omega) h2 rfl rfl
  · rfl
theorem lawFnPlayed (code more : List Int) (hc : ∀ n ∈ code, (Lit.int .u8 n).wf = true) (hm : ∀ n ∈ more, (Lit.int .u8 n).wf = true) : Contract Tryz.prog 6 (([.row 0 0 (ints .u8 code), .row 0 0 (ints .u8 more)] : List PV).map .p) [] ([.c (.p (.bool true))], []) := by
  obtain ⟨e1, h1⟩ := ints_encB code hc
  obtain ⟨e2, h2⟩ := ints_encB more hm
  rw [e1, e2]
  exact evF_sound envOK pOK (T := T) hT 1048700 (played_true (k := 1048700) (Nat.le_refl _) _ _ h1 h2)
end Go.Proofs.YtnflnpjojbkgjaaGreat
