/- FnBefore: what must hold ahead of a command does; the law. -/
import Derived.Test.YtnflnpjojbkgjaaGreatPe
set_option linter.unusedVariables false
set_option linter.unusedSimpArgs false
set_option maxRecDepth 4000
namespace Go.Proofs.YtnflnpjojbkgjaaGreat
open Go.Dp

def valD (wide : Int) (s : List W) (t : List Nd) : W := match vrun wide s t [] with | some [v] => v | _ => 0#64
theorem valD_of {wide : Int} {s : List W} {t : List Nd} {v : W} (h : vrun wide s t [] = some [v]) : valD wide s t = v := by unfold valD; rw [h]
def afterS (wide : Int) (s : List W) (ch : List Chg) (o : List W) : List W := ch.foldl (fun o x => o.set x.v.toNat (valD wide s x.by1)) o
theorem kind_val {wide vars c : Int} {t : List Nd} (h : kindT wide vars t = c) (hc : c > 0) {s : List W} (hs : (s.length : Int) = vars) (hg : ∀ a ∈ s, a ≤ mk wide) : vrun wide s t [] = some [valD wide s t] ∧ okV wide c (valD wide s t) := by
  obtain ⟨v, h1, h2⟩ := good_value (kind_good (by omega : kindT wide vars t > 0)) hs hg
  rw [valD_of h1, ← h]
  exact ⟨h1, h2⟩
theorem after_loop {k : Nat} (hk : 1000000 ≤ k) (p : Prg) (hw : isW p.wide = true) (l1 l2 : List PV) (s : List W) (hs : (s.length : Int) = p.vars) (hg : ∀ a ∈ s, a ≤ mk p.wide) (ch : List Chg) (hl : ch.length ≤ 100) (hx : ∀ x ∈ ch, 0 ≤ x.v ∧ x.v < p.vars ∧ kindT p.wide p.vars x.by1 = 1 ∧ x.by1.length ≤ 100) : ∀ (n i : Nat) (o : List W), ch.length - i < n → i ≤ ch.length → o.length = s.length →
    L108_1 k n (encW s) o.length (encChs ch) (ch.length : Int) (i : Int) p.wide p.vars l1 l2 (encW o) = r108 (encW (afterS p.wide s (ch.drop i) o))
  | 0, i, o, h, hi, ho => by omega
  | n + 1, i, o, h, hi, ho => by
    rw [sL108_1]
    by_cases hlt : i < ch.length
    · have hd : decide ((i : Int) < (ch.length : Int)) = true := by simpa using hlt
      have hxi := hx _ (List.getElem_mem hlt)
      obtain ⟨hv, _⟩ := kind_val hxi.2.2.1 (by omega) hs hg
      rw [hd, lookP_nat, encChs_get, List.getElem?_eq_getElem hlt, drop_cons hlt]
      simp only [cond_true, Option.map_some, Option.bind_some, encCh_shp, encCh_v, encCh_by]
      rw [valueOf_ok (by omega) hw s _ (by omega) hv]
      simp only [R173_r]
      have hin : (decide ((0 : Int) ≤ ch[i].v) && decide (ch[i].v < (o.length : Int))) = true := by simp; omega
      have hget : (encW o)[0 + ch[i].v.toNat]? = some (PV.int .u64 (wi (o[ch[i].v.toNat]'(by omega)))) := by rw [Nat.zero_add, encW_get, List.getElem?_eq_getElem (by omega)]; rfl
      rw [hin, hget]
      simp only [cond_true, Option.bind_some, Nat.zero_add]
      have hset : (encW o).set ch[i].v.toNat (PV.int .u64 (wi (valD p.wide s ch[i].by1))) = encW (o.set ch[i].v.toNat (valD p.wide s ch[i].by1)) := by simp [encW, List.map_set]
      rw [hset, i64_id (by omega) (by omega)]
      have := after_loop hk p hw l1 l2 s hs hg ch hl hx n (i + 1) (o.set ch[i].v.toNat (valD p.wide s ch[i].by1)) (by omega) (by omega) (by simpa using ho)
      rw [List.length_set] at this
      exact this
    · have hd : decide ((i : Int) < (ch.length : Int)) = false := by simpa using hlt
      rw [hd, List.drop_eq_nil_of_le (by omega)]
      have e1 : (encW o).take o.length = encW o := by rw [List.take_of_length_le (by simp)]
      simp only [cond_false, e1]
      rfl
theorem after_ok {k : Nat} (hk : 1000010 ≤ k) (p : Prg) (hw : isW p.wide = true) (l1 l2 l3 : List PV) (s : List W) (hsl : s.length ≤ 1000) (hs : (s.length : Int) = p.vars) (hg : ∀ a ∈ s, a ≤ mk p.wide) (ch : List Chg) (hl : ch.length ≤ 100) (hx : ∀ x ∈ ch, 0 ≤ x.v ∧ x.v < p.vars ∧ kindT p.wide p.vars x.by1 = 1 ∧ x.by1.length ≤ 100) :
    c108 k p.wide p.vars l1 l2 l3 (encChs ch) (encW s) = r108 (encW (afterS p.wide s ch s)) := by
  obtain ⟨k, rfl⟩ : ∃ j, k = j + 2 := ⟨k - 2, by omega⟩
  have hcl : c125 (k + 1) (encW s) = r125 (encW s) := n125 k _ (by simp [LIM]; omega) (by simp [LIM]; omega)
  rw [n108, hcl]
  simp only [R125_r, encW_length, encChs_length]
  exact after_loop (k := k + 1) (by omega) p hw l1 l2 s hs hg ch hl hx (k + 1) 0 s (by omega) (by omega) rfl
def holdC (p : Prg) (c : Cmd) (s : List W) : Bool := valD p.wide s c.wh == 1#64
theorem stepBy_ok {k : Nat} (hk : 1000300 ≤ k) (p : Prg) (hp : FitP p) (k1 : Int) (t : List Nd) (ha : askOK p k1 t = true) (s : List W) (hs : (s.length : Int) = p.vars) (hg : ∀ a ∈ s, a ≤ mk p.wide) :
    c28 k p.wide p.vars (encT p.start) (encCms p.cmds) (encW s) k1 = r28 (encW (bif holdC p (cmdAt p k1) s then afterS p.wide s (cmdAt p k1).ch s else [])) (holdC p (cmdAt p k1) s) := by
  obtain ⟨k, rfl⟩ : ∃ j, k = j + 2 := ⟨k - 2, by omega⟩
  obtain ⟨hw, hv, hn, hkt, hf, hkw, hx⟩ := ask_cmd hp ha
  have hv' := isV_iff.1 hv
  obtain ⟨hget, hm⟩ := cmdAt_get hn
  have hgp : goodP p = true := by simp only [askOK, Bool.and_eq_true] at ha; exact ha.1
  have hst : stOK p s = true := by
    simp only [stOK, Bool.and_eq_true, decide_eq_true_eq, List.all_eq_true]
    exact ⟨hs, fun a h => goodW_iff.2 ⟨hw, hg a h⟩⟩
  have hfw := hf.wh
  have hfc := hf.ch
  obtain ⟨hval, _⟩ := kind_val hkw (by omega) hs hg
  have hh : c107 (k + 1) p.wide p.vars (encT p.start) (encCms p.cmds) (encT (cmdAt p k1).wh) (encW s) = r107 (holdC p (cmdAt p k1) s) := by
    rw [n107, valueOf_ok (by omega) hw s _ (by omega) hval]
    simp only [R173_r]
    have e : (1 : Int) = wi 1#64 := rfl
    rw [e, wi_beq]
    rfl
  rw [n28, isStateOf_ok (by omega) p hp s (by omega), hgp, hst, cno_ok (by omega), hn, hget]
  simp only [R106_r, R97_r, Bool.and_self, Bool.not_true, cond_false, Option.bind_some, encCm_wh, encCm_ch, encCm_shp, cond_true]
  rw [hh]
  simp only [R107_r]
  cases holdC p (cmdAt p k1) s
  · rfl
  · simp only [Bool.not_true, cond_false, cond_true]
    rw [after_ok (by omega) p hw _ _ _ s (by omega) hs hg _ (by omega) (fun x h => ⟨(hx x h).1, (hx x h).2.1, (hx x h).2.2, hf.by1 x h⟩)]
    simp only [R108_r]

/-! ### The plain law -/
structure InvV (wide : Int) (s : List W) (b : List (List Nd)) (v : List W) : Prop where
  l : v.length = b.length
  q : ∀ (i : Nat) (t : List Nd) (w : W), b[i]? = some t → v[i]? = some w → vrun wide s t [] = some [w]
  m : ∀ a ∈ v, a ≤ mk wide
theorem inv_set {wide vars : Int} {s : List W} (hs : (s.length : Int) = vars) (hg : ∀ a ∈ s, a ≤ mk wide) : ∀ (ch : List Chg) (b : List (List Nd)) (v : List W), (∀ x ∈ ch, kindT wide vars x.by1 = 1) → InvV wide s b v → InvV wide s (setCh b ch) (afterS wide s ch v)
  | [], b, v, hx, h => h
  | x :: l, b, v, hx, h => by
    obtain ⟨h1, h2⟩ := kind_val (hx x (by simp)) (by omega) hs hg
    have h3 : valD wide s x.by1 ≤ mk wide := by rcases h2 with h | h; exact h.2; exact absurd h.1 (by omega)
    refine inv_set hs hg l (b.set x.v.toNat x.by1) (v.set x.v.toNat (valD wide s x.by1)) (fun y hy => hx y (by simp [hy])) ⟨by simp [h.l], ?_, ?_⟩
    · intro i t w ht hw
      rw [List.getElem?_set] at ht hw
      by_cases he : x.v.toNat = i
      · rw [if_pos he] at ht hw
        split at ht
        · split at hw
          · injection ht with ht
            injection hw with hw
            rw [← ht, ← hw]
            exact h1
          · cases hw
        · cases ht
      · rw [if_neg he] at ht hw
        exact h.q i t w ht hw
    · intro a ha
      rcases List.mem_or_eq_of_mem_set ha with h4 | h4
      · exact h.m a h4
      · rw [h4]; exact h3
theorem inv_vars {wide : Int} {s : List W} (hl : s.length ≤ 100) (hg : ∀ a ∈ s, a ≤ mk wide) : InvV wide s (varsT s.length) s := by
  refine ⟨by simp, ?_, hg⟩
  intro i t w ht hw
  have hi := (List.getElem?_eq_some_iff.1 hw).1
  have e1 : (varsT s.length)[i]? = some [((2 : Int), BitVec.ofNat 64 i)] := by simp [varsT, hi]
  rw [e1] at ht
  injection ht with ht
  subst ht
  have e2 : (BitVec.ofNat 64 i).toNat = i := by rw [BitVec.toNat_ofNat, Nat.mod_eq_of_lt (by omega)]
  simp only [vrun]
  rw [if_neg (by omega), if_pos trivial, e2, hw]
  rfl
theorem one_mk {wide : Int} (hw : isW wide = true) : 1#64 &&& mk wide = 1#64 := by
  have h := isW_iff.1 hw
  unfold mk
  rw [cut_eq_iff (by omega), BitVec.le_def, maskB_toNat (by omega)]
  have : 2 ^ 1 ≤ 2 ^ wide.toNat := Nat.pow_le_pow_right (by omega) (by omega)
  have h1 : (1#64).toNat = 1 := rfl
  omega
theorem or_if {wide : Int} (hw : isW wide = true) {w v : W} (h1 : w ≤ 1#64) (h2 : v ≤ 1#64) : apW wide 18 (1#64 - w) v = bif w == 1#64 then v else 1#64 := by
  have e : apW wide 18 (1#64 - w) v = ((1#64 - w) ||| v) &&& mk wide := rfl
  have hm := one_mk hw
  have h0 : 0#64 &&& mk wide = 0#64 := by simp
  rw [e]
  rcases le_one_cases h1 with rfl | rfl <;> rcases le_one_cases h2 with rfl | rfl
  · exact hm
  · exact hm
  · exact h0
  · exact hm
theorem okV_two {wide : Int} {v : W} (h : okV wide 2 v) : v ≤ 1#64 := by rcases h with h | h; exact absurd h.1 (by omega); exact h.2
/-- What the one holds of: the state after. -/
theorem one_law {p : Prg} (hp : FitP p) {k1 : Int} {t : List Nd} (ha : askOK p k1 t = true) (ho : oneOK p (cmdAt p k1) t = true) {s : List W} (hs : (s.length : Int) = p.vars) (hg : ∀ a ∈ s, a ≤ mk p.wide) :
    ∃ v, vrun p.wide s (putT (byOf p (cmdAt p k1)) t) [] = some [v] ∧ vrun p.wide (afterS p.wide s (cmdAt p k1).ch s) t [] = some [v] ∧ v ≤ 1#64 ∧ ((afterS p.wide s (cmdAt p k1).ch s).length : Int) = p.vars ∧ ∀ a ∈ afterS p.wide s (cmdAt p k1).ch s, a ≤ mk p.wide := by
  obtain ⟨hw, hv, hn, hkt, hf, hkw, hx⟩ := ask_cmd hp ha
  have hv' := isV_iff.1 hv
  have hn2 : s.length = p.vars.toNat := by omega
  have hi := inv_vars (wide := p.wide) (s := s) (by omega) hg
  rw [hn2] at hi
  have hi2 := inv_set hs hg (cmdAt p k1).ch _ _ (fun x h => (hx x h).2.2) hi
  simp only [oneOK, putOK, Bool.and_eq_true, decide_eq_true_eq] at ho
  obtain ⟨⟨⟨hgt, hbl⟩, _⟩, hgp⟩ := ho
  have hl2 : ((afterS p.wide s (cmdAt p k1).ch s).length : Int) = p.vars := by rw [hi2.l]; exact hbl
  obtain ⟨x, h1, _⟩ := good_value hgp hs hg
  obtain ⟨y, h2, h3⟩ := good_value hgt hl2 hi2.m
  have hxy := vrun_put (wide := p.wide) (state := s) (by1 := byOf p (cmdAt p k1)) hi2.l hi2.q t [] (fun z hz h => by have := goodT_vars hgt z hz h; omega)
  rw [h1, h2] at hxy
  injection hxy with hxy
  injection hxy with hxy
  rw [hkt] at h3
  refine ⟨x, h1, by rw [hxy]; exact h2, by rw [hxy]; exact okV_two h3, hl2, hi2.m⟩
theorem if_law {p : Prg} (hp : FitP p) {k1 : Int} {t : List Nd} (ha : askOK p k1 t = true) (ho : oneOK p (cmdAt p k1) t = true) {s : List W} (hs : (s.length : Int) = p.vars) (hg : ∀ a ∈ s, a ≤ mk p.wide) {v : W} (h1 : vrun p.wide s (putT (byOf p (cmdAt p k1)) t) [] = some [v]) (h2 : v ≤ 1#64) :
    vrun p.wide s (ifT p (cmdAt p k1) t) [] = some [bif holdC p (cmdAt p k1) s then v else 1#64] := by
  obtain ⟨hw, hv, hn, hkt, hf, hkw, hx⟩ := ask_cmd hp ha
  obtain ⟨h3, h4⟩ := kind_val hkw (by omega) hs hg
  have e : oneT p (cmdAt p k1) t = putT (byOf p (cmdAt p k1)) t := by unfold oneT; rw [ho]; rfl
  have h5 := vrun_frame [1#64 - valD p.wide s (cmdAt p k1).wh] h1
  rw [List.nil_append] at h5
  have e19 : ∀ a : W, vrun p.wide s [(19, 0#64)] [a] = some [1#64 - a] := fun a => rfl
  have e18 : ∀ a b : W, vrun p.wide s [(18, 0#64)] [b, a] = some [apW p.wide 18 a b] := fun a b => rfl
  unfold ifT
  rw [e, vrun_app, vrun_app, vrun_app, h3]
  simp only [Option.bind_some, e19, h5, List.cons_append, List.nil_append, e18]
  rw [or_if hw (okV_two h4) h2]
  rfl

/-! ### The law -/
end Go.Proofs.YtnflnpjojbkgjaaGreat
