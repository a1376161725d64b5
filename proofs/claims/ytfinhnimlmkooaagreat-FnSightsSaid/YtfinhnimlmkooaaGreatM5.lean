/- The law FnSights of the program: for all arguments it returns true, and its arguments read as they did. -/
import Derived.Test.YtfinhnimlmkooaaGreatM4
import Derived.Test.YtfinhnimlmkooaaGreatRows
import Derived.Test.YtfinhnimlmkooaaGreatM2
import Derived.WalkKit
import Derived.ProofKit
import Derived.OpenShut
import Derived.ShutString
import Derived.ChangeOld
import Derived.Below
import Derived.SizedLaws
/- FnSights: splits and meets are finer. -/
set_option linter.unusedVariables false
set_option linter.unusedSimpArgs false
set_option linter.unusedSectionVars false
set_option maxRecDepth 4000
namespace Go.Proofs.YtfinhnimlmkooaaGreat
open Go.Dp

/-! ### Plain laws of classes -/
section
variable {α β γ : Type} [BEq β] [LawfulBEq β] [BEq γ] [LawfulBEq γ]
theorem cls_same (z : List α) (f : α → β) (g : α → γ) (h : ∀ q ∈ z, ∀ r ∈ z, f q = f r ↔ g q = g r) : cls (z.map f) [] = cls (z.map g) [] := by
  have hb : Bij (z.map fun q => (f q, g q)) := by
    intro x hx y hy
    obtain ⟨q, hq, rfl⟩ := List.mem_map.1 hx
    obtain ⟨r, hr, rfl⟩ := List.mem_map.1 hy
    exact h q hq r hr
  have := cls_eq hb
  simpa [Function.comp_def] using this
theorem cls_rep (z : List α) (f : α → β) : ∃ g : α → Int, cls (z.map f) [] = z.map g ∧ ∀ q ∈ z, ∀ r ∈ z, g q = g r ↔ f q = f r := by
  refine ⟨fun q => ((dis (z.map f) []).idxOf (f q) : Int), ?_, ?_⟩
  · rw [cls_map _ _ (by simp), List.map_map]
    rfl
  · intro q hq r hr
    constructor
    · intro h
      have h' : (dis (z.map f) []).idxOf (f q) = (dis (z.map f) []).idxOf (f r) := by
        have h2 : (((dis (z.map f) []).idxOf (f q) : Nat) : Int) = (((dis (z.map f) []).idxOf (f r) : Nat) : Int) := h
        omega
      exact idx_inj ((dis_sub _ [] _).2 (.inr (List.mem_map_of_mem hq))) ((dis_sub _ [] _).2 (.inr (List.mem_map_of_mem hr))) h'
    · intro h
      simp only [h]
end
theorem zip_fst {a b : List Int} (hl : a.length = b.length) : (a.zip b).map (·.1) = a := List.map_fst_zip (by omega)
theorem zip_snd {a b : List Int} (hl : a.length = b.length) : (a.zip b).map (·.2) = b := List.map_snd_zip (by omega)
theorem zip_maps {α β γ : Type} (z : List α) (f : α → β) (g : α → γ) : (z.map f).zip (z.map g) = z.map fun q => (f q, g q) := List.zip_map'
theorem finA_all : ∀ (l kn : List (Int × Int)), finA l kn = true ↔ (∀ q ∈ l, ∀ r ∈ kn, q.1 = r.1 → q.2 = r.2) ∧ ∀ q ∈ l, ∀ r ∈ l, q.1 = r.1 → q.2 = r.2
  | [], kn => by simp [finA]
  | x :: l, kn => by
    have hx : finI x kn = true ↔ ∀ r ∈ kn, x.1 = r.1 → x.2 = r.2 := by
      unfold finI
      rw [List.all_eq_true]
      refine forall_congr' fun q => forall_congr' fun _ => ?_
      by_cases h1 : x.1 = q.1 <;> by_cases h2 : x.2 = q.2 <;> simp [h1, h2]
    rw [finA, Bool.and_eq_true, hx, finA_all l]
    constructor
    · rintro ⟨h1, h2, h3⟩
      refine ⟨fun q hq r hr => ?_, fun q hq r hr => ?_⟩
      · rcases List.mem_cons.1 hq with rfl | hq
        · exact h1 r hr
        · exact h2 q hq r (by simp [hr])
      · rcases List.mem_cons.1 hq with rfl | hq <;> rcases List.mem_cons.1 hr with rfl | hr
        · exact fun _ => rfl
        · exact fun h => (h2 r hr q (by simp) h.symm).symm
        · exact h2 q (by assumption) _ (by simp)
        · exact h3 q hq r hr
    · rintro ⟨h1, h2⟩
      refine ⟨fun r hr => h1 x (by simp) r hr, fun q hq r hr => ?_, fun q hq r hr => h2 q (by simp [hq]) r (by simp [hr])⟩
      rcases List.mem_append.1 hr with hr | hr
      · exact h1 q (by simp [hq]) r hr
      · rw [List.mem_singleton.1 hr]
        exact h2 q (by simp [hq]) x (by simp)
theorem finer_same {a b : List Int} (hl : a.length = b.length) (hg : goodF a 0 = true) : decide (cls (a.zip b) [] = a) = finA (a.zip b) [] := by
  have hid : cls (a.zip b) [] = cls ((a.zip b).map id) [] := by rw [List.map_id]
  rw [Bool.eq_iff_iff, decide_eq_true_eq, finA_all]
  constructor
  · intro h
    refine ⟨by simp, fun q hq r hr hqr => ?_⟩
    obtain ⟨g, h1, h2⟩ := cls_rep (a.zip b) id
    rw [← hid, h] at h1
    have h3 := h1
    rw [← zip_fst hl] at h3
    rw [zip_fst hl] at h3
    have h4 : (a.zip b).map (·.1) = (a.zip b).map g := by rw [zip_fst hl]; exact h1
    have h5 := List.map_inj_left.1 h4
    have h6 : q = r := (h2 q hq r hr).1 (by rw [← h5 q hq, ← h5 r hr]; exact hqr)
    rw [h6]
  · rintro ⟨_, h⟩
    have : cls ((a.zip b).map id) [] = cls ((a.zip b).map (·.1)) [] := cls_same _ _ _ fun q hq r hr => by
      constructor
      · intro e
        have e' : q = r := e
        rw [e']
      · intro e
        have e2 := h q hq r hr e
        exact Prod.ext e e2
    rw [hid, this, zip_fst hl]
    exact (cls_self hg).1
theorem meet_finer {a b : List Int} (hl : a.length = b.length) : cls ((cls (a.zip b) []).zip a) [] = cls (a.zip b) [] ∧ cls ((cls (a.zip b) []).zip b) [] = cls (a.zip b) [] := by
  have hid : cls (a.zip b) [] = cls ((a.zip b).map id) [] := by rw [List.map_id]
  obtain ⟨g, h1, h2⟩ := cls_rep (a.zip b) id
  have ha : a = (a.zip b).map (·.1) := (zip_fst hl).symm
  have hb : b = (a.zip b).map (·.2) := (zip_snd hl).symm
  constructor
  · have e : (cls (a.zip b) []).zip a = (a.zip b).map fun q => (g q, q.1) := by
      conv => lhs; rw [hid, h1]; arg 2; rw [ha]
      exact zip_maps _ _ _
    rw [e, hid]
    refine cls_same _ _ _ fun q hq r hr => ?_
    rw [Prod.mk.injEq, h2 q hq r hr]
    constructor
    · exact fun h => h.1
    · intro h
      have h' : q = r := h
      exact ⟨h, by rw [h']⟩
  · have e : (cls (a.zip b) []).zip b = (a.zip b).map fun q => (g q, q.2) := by
      conv => lhs; rw [hid, h1]; arg 2; rw [hb]
      exact zip_maps _ _ _
    rw [e, hid]
    refine cls_same _ _ _ fun q hq r hr => ?_
    rw [Prod.mk.injEq, h2 q hq r hr]
    constructor
    · exact fun h => h.1
    · intro h
      have h' : q = r := h
      exact ⟨h, by rw [h']⟩
theorem good_small {v : List Int} (hg : goodF v 0 = true) : ∀ x ∈ v, 0 ≤ x ∧ x < (v.length : Int) := by
  intro x hx
  have h1 := good_lt v 0 hg x hx
  have h2 := (cls_self hg).2
  have h3 : (dis v []).length ≤ v.length := nodup_sub (dis_nodup v [] (by simp)) (fun x hx => by simpa using (dis_sub v [] x).1 hx)
  have h6 : ((0 : Nat) : Int) = 0 := rfl
  rw [h6] at h1
  omega
theorem meet_same {p : Prg} {a b : List Int} (h : moB p a b = true) : cls (meetK (a.zip b)) [] = cls (a.zip b) [] := by
  simp only [moB, Bool.and_eq_true] at h
  obtain ⟨h1, h2, h3⟩ := gs_small h.2
  have h4 := nS_le h1
  have hid : cls (a.zip b) [] = cls ((a.zip b).map id) [] := by rw [List.map_id]
  rw [hid, meetK]
  refine cls_same _ _ _ fun q hq r hr => ?_
  have hq2 := good_small h2 q.2 (List.of_mem_zip (a := q.1) (b := q.2) hq).2
  have hr2 := good_small h2 r.2 (List.of_mem_zip (a := r.1) (b := r.2) hr).2
  constructor
  · intro e
    have e1 : q.1 = r.1 := by omega
    have e2 : q.2 = r.2 := by omega
    exact Prod.ext e1 e2
  · intro e
    have e' : q = r := e
    rw [e']
theorem cls_gs {α : Type} [BEq α] [LawfulBEq α] {p : Prg} (hs : smallP p = true) {l : List α} (hl : l.length = nS p) : gsB p (cls l []) = true := by
  have h := (good_cls l []).1
  have h' : goodF (cls l []) 0 = true := h
  simp only [gsB, hs, h', cls_len, hl, Bool.true_and, beq_self_eq_true]
/-! ### A cut by a condition is the meet with the sight by it -/
theorem cutK_eq {p : Prg} (t : List Nd) : ∀ (l : List Int) (i : Nat), i + l.length ≤ nS p → cutK (whI p t) l i = (l.zip ((List.range' i l.length).map fun (j : Nat) => bitI p t (j : Int))).map fun q => 2 * q.1 + q.2
  | [], i, h => rfl
  | x :: l, i, h => by
    simp only [List.length_cons] at h
    have hc : (whI p t).contains (i : Int) = hN p t (i : Int) := by
      rw [Bool.eq_iff_iff, List.contains_iff_mem, whI_mem]
      constructor
      · exact fun h => h.2
      · exact fun h' => ⟨⟨by omega, by omega⟩, h'⟩
    rw [cutK, cutK_eq t l (i + 1) (by omega), hc, List.length_cons, List.range'_succ, List.map_cons, List.zip_cons_cons, List.map_cons]
    congr 1
    unfold bitI
    cases hN p t (i : Int) <;> simp
theorem bits_range (p : Prg) (t : List Nd) : bitsI p t = (List.range' 0 (nS p)).map fun (j : Nat) => bitI p t (j : Int) := by
  rw [bitsI, iota, List.map_map, List.range_eq_range']
  rfl
theorem bits_cases {p : Prg} {t : List Nd} {x : Int} (h : x ∈ bitsI p t) : x = 0 ∨ x = 1 := by
  obtain ⟨y, _, rfl⟩ := List.mem_map.1 h
  exact bitI_cases p t y
theorem bits_len (p : Prg) (t : List Nd) : (bitsI p t).length = nS p := by simp [bitsI, iota_len]
theorem split_same {p : Prg} {v : List Int} (hv : v.length = nS p) (t : List Nd) : cutV (whI p t) v = cls (v.zip (byV p t)) [] := by
  have hb := bits_len p t
  have e1 : cutK (whI p t) v 0 = (v.zip (bitsI p t)).map fun q => 2 * q.1 + q.2 := by
    rw [cutK_eq t v 0 (by omega), bits_range, hv]
  obtain ⟨g, h1, h2⟩ := cls_rep (v.zip (bitsI p t)) (·.2)
  rw [zip_snd (by omega)] at h1
  have e2 : v.zip (byV p t) = (v.zip (bitsI p t)).map fun q => (q.1, g q) := by
    have hv0 : v = (v.zip (bitsI p t)).map (·.1) := (zip_fst (by omega)).symm
    conv => lhs; rw [byV, h1]; arg 1; rw [hv0]
    exact zip_maps _ _ _
  rw [cutV, e1, e2]
  refine cls_same _ _ _ fun q hq r hr => ?_
  have hq2 := bits_cases (List.of_mem_zip (a := q.1) (b := q.2) hq).2
  have hr2 := bits_cases (List.of_mem_zip (a := r.1) (b := r.2) hr).2
  rw [Prod.mk.injEq, h2 q hq r hr]
  constructor
  · intro e
    omega
  · rintro ⟨e1, e2⟩
    rw [e1, e2]
theorem split_many {p : Prg} {v : List Int} (hg : gsB p v = true) (t : List Nd) : manyF v 0 ≤ manyF (cls (v.zip (byV p t)) []) 0 ∧ manyF (cls (v.zip (byV p t)) []) 0 ≤ 2 * manyF v 0 := by
  obtain ⟨hs, h2, h3⟩ := gs_small hg
  have hb := (bits_okV hs t).2
  have ha := (cls_self h2).2
  have hm : manyF (cls (v.zip (byV p t)) []) 0 = ((dis (v.zip (byV p t)) []).length : Int) := (good_cls (v.zip (byV p t)) []).2
  have hby : ∀ x ∈ byV p t, x = 0 ∨ x = 1 := by
    intro x hx
    have h4 := good_lt (byV p t) 0 (good_cls (bitsI p t) []).1 x hx
    have h5 : manyF (byV p t) 0 = ((dis (bitsI p t) []).length : Int) := (good_cls (bitsI p t) []).2
    have h6 : (dis (bitsI p t) []).length ≤ [(0 : Int), 1].length := nodup_sub (dis_nodup _ [] (by simp)) (fun x hx => by
      rcases bits_cases (p := p) (t := t) (by simpa using (dis_sub _ [] x).1 hx) with rfl | rfl <;> simp)
    have h7 : ((0 : Nat) : Int) = 0 := rfl
    rw [h7] at h4
    simp only [List.length_cons, List.length_nil] at h6
    omega
  have l1 : (dis v []).length ≤ ((dis (v.zip (byV p t)) []).map (·.1)).length := nodup_sub (dis_nodup _ [] (by simp)) (fun x hx => by
    have hx' : x ∈ v := by simpa using (dis_sub v [] x).1 hx
    rw [← zip_fst (a := v) (b := byV p t) (by omega)] at hx'
    obtain ⟨q, hq, rfl⟩ := List.mem_map.1 hx'
    exact List.mem_map.2 ⟨q, (dis_sub _ [] q).2 (.inr hq), rfl⟩)
  have l2 : (dis (v.zip (byV p t)) []).length ≤ ((dis v []).map (fun x => (x, (0 : Int))) ++ (dis v []).map (fun x => (x, (1 : Int)))).length := nodup_sub (dis_nodup _ [] (by simp)) (fun q hq => by
    have hq' : q ∈ v.zip (byV p t) := by simpa using (dis_sub _ [] q).1 hq
    have h5 := List.of_mem_zip (a := q.1) (b := q.2) hq'
    have h6 : q.1 ∈ dis v [] := (dis_sub v [] q.1).2 (.inr h5.1)
    rw [List.mem_append]
    rcases hby q.2 h5.2 with h7 | h7
    · exact .inl (List.mem_map.2 ⟨q.1, h6, Prod.ext rfl h7.symm⟩)
    · exact .inr (List.mem_map.2 ⟨q.1, h6, Prod.ext rfl h7.symm⟩))
  rw [List.length_map] at l1
  rw [List.length_append, List.length_map, List.length_map] at l2
  omega
/-! ### The law -/
theorem sights_end {k : Nat} (hk : 1002000 ≤ k) {more : List Nat} (hm : CodeOK more) : (R17 (c17 k (encB more)) fun v5 v6 l9 l10 l11 l12 =>
            R16 (c16 k v5 v6 l9 l10 l11 l12) fun l13 b14 =>
            R18 (c18 k v5 v6 l9 l10 l11 l12) fun l14 b15 =>
            bif (!(b14 == b15)) then
            r3 false
            else
            R10 (c10 k l13 l14) fun b16 =>
            bif !b16 then
            r3 false
            else
            bif b14 then
            R13 (c13 k v5 v6 l9 l10 l13 l11) fun b17 b18 =>
            R13 (c13 k v5 v6 l9 l10 l13 l12) fun b19 b20 =>
            R13 (c13 k v5 v6 l9 l10 l11 l12) fun b21 b22 =>
            R19 (c19 k v5 v6 l9 l10 l11 l12) fun b23 b24 =>
            bif b18 then
            bif b20 then
            bif b17 then
            bif b19 then
            bif (b22 == b24) then
            bif (b21 == b23) then
            bif !b21 then
            r3 true
            else
            R10 (c10 k l13 l11) fun b25 =>
            r3 b25
            else r3 false
            else r3 false
            else r3 false
            else r3 false
            else r3 false
            else r3 false
            else r3 true) = r3 true := by
  obtain ⟨p, a, b, h, hp, ha, hb⟩ := drawMeetOf_ok hm (k := k) (by omega)
  have hal := ha.len
  rw [h]
  simp only [R17_r]
  rw [meetOfI_ok (by omega) p hp ha hb, meetS_ok15 (by omega) p hp ha hb]
  simp only [R16_r, R18_r, beq_self_eq_true, Bool.not_true, cond_false]
  cases hmo : moB p a b
  · simp only [cond_false]
    rw [sameInts_ok (by omega) _ _ (by simp)]
    simp only [R10_r, decide_true, Bool.not_true, cond_false]
  · have hmm := hmo
    simp only [moB, Bool.and_eq_true] at hmm
    obtain ⟨s1, s2, s3⟩ := gs_small hmm.1
    obtain ⟨_, s4, s5⟩ := gs_small hmm.2
    have hle := nS_le s1
    have hl : a.length = b.length := by omega
    have hz : (a.zip b).length = nS p := by simp; omega
    have hcl : (cls (a.zip b) []).length = nS p := by rw [cls_len, hz]
    have hok : OkV (cls (a.zip b) []) := cls_okV _ (by omega)
    have hgs : gsB p (cls (a.zip b) []) = true := cls_gs s1 hz
    obtain ⟨f1, f2⟩ := meet_finer hl
    have m1 : moB p (cls (a.zip b) []) a = true := by simp only [moB, hgs, hmm.1, Bool.and_self]
    have m2 : moB p (cls (a.zip b) []) b = true := by simp only [moB, hgs, hmm.2, Bool.and_self]
    simp only [cond_true, meet_same hmo]
    rw [sameInts_ok (by omega) _ _ (by omega)]
    simp only [R10_r, decide_true, Bool.not_true, cond_false]
    rw [isFinerI_ok (by omega) p hp hok ha, isFinerI_ok (by omega) p hp hok hb, isFinerI_ok (by omega) p hp ha hb, isFinerS_ok (by omega) p hp ha hb, m1, m2, f1, f2, hmo, finer_same hl s2]
    simp only [R13_r, R19_r, decide_true, Bool.and_self, Bool.true_and, cond_true, beq_self_eq_true]
    cases hf : finA (a.zip b) []
    · rfl
    · have hc : cls (a.zip b) [] = a := by
        have := finer_same hl s2
        rw [hf] at this
        simpa using this
      simp only [Bool.not_true, cond_false]
      rw [sameInts_ok (by omega) _ _ (by omega), hc]
      simp only [R10_r, decide_true]
theorem sights_true {k : Nat} (hk : 1048700 ≤ k) (code more : List Nat) (hc : ∀ b ∈ code, b < 256) (hm : ∀ b ∈ more, b < 256) : c3 k (encB code) (encB more) = r3 true := by
  obtain ⟨k, rfl⟩ : ∃ j, k = j + 1 := ⟨k - 1, by omega⟩
  rw [n3, big_ok (by omega)]
  simp only [R6_r]
  cases hbig : (decide (code.length > 1048576) || decide (more.length + code.length > 1048576))
  · simp only [cond_false]
    rw [Bool.or_eq_false_iff] at hbig
    have hl : code.length ≤ 1048576 ∧ more.length ≤ 1048576 := by
      have h1 := hbig.1
      have h2 := hbig.2
      simp at h1 h2
      omega
    have hcc : CodeOK code := ⟨hl.1, hc⟩
    have hmm : CodeOK more := ⟨hl.2, hm⟩
    have hend := sights_end (k := k) (by omega) hmm
    obtain ⟨p, v, t, h, hp, hv, ht⟩ := drawSplitBy_ok hcc (k := k) (by omega)
    have hvl := hv.len
    rw [h]
    simp only [R7_r]
    rw [splitByI_ok (by omega) p hp hv t ht, splitByS_ok (by omega) p hp hv t ht]
    simp only [R8_r, R9_r, beq_self_eq_true, Bool.not_true, cond_false]
    rw [goodSightI_ok (by omega) p hp v (by omega), goodSightS_ok (by omega) p hp v (by omega)]
    simp only [R11_r, R12_r, beq_self_eq_true, Bool.not_true, cond_false]
    cases hss : ssB p v t
    · simp only [cond_false]
      rw [sameInts_ok (by omega) _ _ (by simp)]
      simp only [R10_r, decide_true, Bool.not_true, cond_false]
      exact hend
    · have hs2 := hss
      simp only [ssB, Bool.and_eq_true] at hs2
      obtain ⟨s1, s2, s3⟩ := gs_small hs2.1
      have hle := nS_le s1
      obtain ⟨b1, b2⟩ := bits_okV s1 t
      have hl : v.length = (byV p t).length := by omega
      have hz : (v.zip (byV p t)).length = nS p := by simp; omega
      have hcl : (cls (v.zip (byV p t)) []).length = nS p := by rw [cls_len, hz]
      have hok : OkV (cls (v.zip (byV p t)) []) := cls_okV _ (by omega)
      have hgs : gsB p (cls (v.zip (byV p t)) []) = true := cls_gs s1 hz
      have hgb : gsB p (byV p t) = true := cls_gs s1 (bits_len p t)
      obtain ⟨f1, _⟩ := meet_finer hl
      obtain ⟨q1, q2⟩ := split_many hs2.1 t
      have m1 : moB p (cls (v.zip (byV p t)) []) v = true := by simp only [moB, hgs, hs2.1, Bool.and_self]
      have m2 : moB p v (byV p t) = true := by simp only [moB, hgb, hs2.1, Bool.and_self]
      have hsp : spB p t = true := by simp only [spB, s1, hs2.2, Bool.and_self]
      have hmv : manyF v 0 ≤ 100 := by
        have h2 := (cls_self s2).2
        have h3 : (dis v []).length ≤ v.length := nodup_sub (dis_nodup v [] (by simp)) (fun x hx => by simpa using (dis_sub v [] x).1 hx)
        omega
      have hm0 : 0 ≤ manyF v 0 := by
        have h2 := (cls_self s2).2
        omega
      simp only [cond_true, split_same s3]
      rw [sameInts_ok (by omega) _ _ (by omega)]
      simp only [R10_r, decide_true, Bool.not_true, cond_false]
      rw [isFinerI_ok (by omega) p hp hok hv, classesIn_ok (by omega) p hp hv hs2.1, classesIn_ok (by omega) p hp hok hgs, m1, f1]
      simp only [R13_r, R14_r]
      rw [sightByI_ok (by omega) p hp t ht, hsp]
      simp only [R15_r, cond_true]
      rw [meetOfI_ok (by omega) p hp hv b1, m2]
      simp only [R16_r, cond_true, decide_true, Bool.and_self, Bool.not_true, cond_false]
      rw [i64_id (n := 2 * manyF v 0) (by omega) (by omega), decide_eq_false (by omega : ¬ manyF (cls (v.zip (byV p t)) []) 0 < manyF v 0), decide_eq_false (by omega : ¬ manyF (cls (v.zip (byV p t)) []) 0 > 2 * manyF v 0)]
      simp only [cond_false]
      rw [sameInts_ok (by omega) _ _ (by omega)]
      simp only [R10_r, decide_true, Bool.not_true, cond_false]
      exact hend
  · rfl
theorem lawFnSights (code more : List Int) (hc : ∀ n ∈ code, (Lit.int .u8 n).wf = true) (hm : ∀ n ∈ more, (Lit.int .u8 n).wf = true) : Contract Tryz.prog 3 (([.row 0 0 (ints .u8 code), .row 0 0 (ints .u8 more)] : List PV).map .p) [] ([.c (.p (.bool true))], []) := by
  obtain ⟨e1, h1⟩ := ints_encB code hc
  obtain ⟨e2, h2⟩ := ints_encB more hm
  rw [e1, e2]
  exact evF_sound envOK pOK (T := T) hT 1048700 (sights_true (k := 1048700) (Nat.le_refl _) _ _ h1 h2)
end Go.Proofs.YtfinhnimlmkooaaGreat
/- The law FnSights of the program: for all arguments it returns true, and its arguments read as they did. -/
namespace Go.Proofs.YtfinhnimlmkooaaGreat.fnSights
open Go.ChangeShapes Go.WideShapes Go.ChangeAt Go.RowKit Go.Dp
open Go.ChangeMaps (open_string shut_string)
set_option linter.unusedVariables false
theorem own : ownKnob Tryz.prog.godebug = none := by kernel_rfl
theorem laidOut : laidOutB Tryz.prog = true := by kernel_rfl
theorem spot_none {P : Program} {w : World} {r : Reach} {base : Nat} {t e : TypeId} {x : Addr} {len cap : Nat} (ht : P.underlying t = some (.slice e)) (h : Value.okWide P w r base t (.slice (some x) len cap)) : x.spot = none := by
  simp only [Value.okWide, ht, Cell.okWide, Cell.ok] at h
  exact h.2.2.2.1
set_option maxRecDepth 100000 in
theorem lifted (os : Os) (started : os.Started) (H : Type) (enc : TypeId × Value → H) :
    ReturnsInHanded {} Tryz.checked os 3 .any (Rows.fnSightsSpec.pre6 enc Tryz.prog Tryz.f3 Rows.fnSightsRow.domain false) (Rows.fnSightsSpec.post enc Tryz.prog Tryz.f3 false true false false) := by
  refine returnsInHanded_of_change_sized (C := Tryz.checked) own started (by kernel_rfl) Tryz.func3
    (ChangeSpec.witness6 (enc := enc) (C := Tryz.checked) false ⟨#[], #[.slice none 0 0, .slice none 0 0], []⟩ 8 (by kernel_rfl) (by kernel_rfl) (by kernel_rfl) (by kernel_rfl)) ?_
  intro W base args ds gs before hval0 hW hcnd hsz0 _
  have hval : ∀ (j : Nat) t v, Tryz.f3.params[j]? = some t → args[j]? = some v → Value.okWide Tryz.prog W .any base t v := hval0
  have hW' := hW
  obtain ⟨p, q, hA0, hV, rfl, hfz, hnd⟩ := hW
  have hA : DataW.TrodAll enc Tryz.prog W 0 (fun _ => true) true Tryz.f3.params.toList args.toList ds p := hA0
  rw [Tryz.params3] at hA hval
  obtain ⟨v0, vs0, d0, ds0, p0, q0, hargs, rfl, rfl, h0, r0⟩ := trodAll_cons hA
  obtain ⟨v1, vs1, d1, ds1, p1, q1, rfl, rfl, rfl, h1, r1⟩ := trodAll_cons r0
  obtain ⟨rfl, rfl, rfl⟩ := trodAll_nil r1
  obtain rfl : args = #[v0, v1] := by cases args; simp_all
  obtain ⟨rfl, rfl⟩ := trodVars_none hV
  have o0 := hval 0 22 v0 rfl rfl
  obtain ⟨a0, len0, cap0, rfl⟩ := okWide_slice Tryz.underlying22 o0
  have k0 := h0
  have lt0 : ∀ x ∈ p0, x.block < W.heap.size := by obtain ⟨m, hm⟩ := k0; exact DataW.trod_lt m _ _ _ hm
  obtain ⟨z0, w0⟩ : ∃ zs, IsRow .u8 W a0 len0 cap0 zs := by
    obtain ⟨fuel, hf⟩ := h0
    rcases open_ints Tryz.underlying22 Tryz.underlying5 (by kernel_rfl) hf with ⟨hcs, _⟩ | ⟨x, l, c, zs, hcs, _, hl, hm, hz, _, hcell, hwz⟩
    · simp [Value.cells] at hcs
      obtain ⟨rfl, rfl, rfl⟩ := hcs
      exact ⟨[], .inl ⟨rfl, rfl, rfl, rfl⟩⟩
    · simp [Value.cells] at hcs
      obtain ⟨rfl, rfl, rfl⟩ := hcs
      exact ⟨zs, .inr ⟨_, rfl, spot_none Tryz.underlying22 o0, hl, hm, by simpa using hz, hcell, hwz⟩⟩
  have o1 := hval 1 22 v1 rfl rfl
  obtain ⟨a1, len1, cap1, rfl⟩ := okWide_slice Tryz.underlying22 o1
  have k1 := h1
  have lt1 : ∀ x ∈ p1, x.block < W.heap.size := by obtain ⟨m, hm⟩ := k1; exact DataW.trod_lt m _ _ _ hm
  obtain ⟨z1, w1⟩ : ∃ zs, IsRow .u8 W a1 len1 cap1 zs := by
    obtain ⟨fuel, hf⟩ := h1
    rcases open_ints Tryz.underlying22 Tryz.underlying5 (by kernel_rfl) hf with ⟨hcs, _⟩ | ⟨x, l, c, zs, hcs, _, hl, hm, hz, _, hcell, hwz⟩
    · simp [Value.cells] at hcs
      obtain ⟨rfl, rfl, rfl⟩ := hcs
      exact ⟨[], .inl ⟨rfl, rfl, rfl, rfl⟩⟩
    · simp [Value.cells] at hcs
      obtain ⟨rfl, rfl, rfl⟩ := hcs
      exact ⟨zs, .inr ⟨_, rfl, spot_none Tryz.underlying22 o1, hl, hm, by simpa using hz, hcell, hwz⟩⟩
  clear hA0 hval0 hsz0
  refine (law_walk (P := Tryz.prog) (f := 3) (vs := [.row 0 0 (ints .u8 (z0.take len0)), .row 0 0 (ints .u8 (z1.take len1))]) (ys := [.slice a0 len0 cap0, .slice a1 len1 cap1]) rfl ?_ (lawFnSights (z0.take len0) (z1.take len1) (fun n hn => w0.wf n (List.mem_of_mem_take hn)) (fun n hn => w1.wf n (List.mem_of_mem_take hn)))).mono fun e W' ⟨he, bel⟩ => ?_
  · intro i a y ha hy
    cases i with
    | zero => simp at ha hy; subst ha; subst hy; exact w0.rp
    | succ i =>
      cases i with
      | zero => simp at ha hy; subst ha; subst hy; exact w1.rp
      | succ i =>
        simp at ha
  subst he
  exact ⟨_, rfl, _, _, _, [], _, [], hW', trodAll_mk1 (shut_bool Tryz.underlying4 _), (trodAll_cons_mk (Below.trod laidOut (by kernel_rfl) (of_decide_eq_true (by kernel_rfl)) k0 bel lt0) (trodAll_cons_mk (Below.trod laidOut (by kernel_rfl) (of_decide_eq_true (by kernel_rfl)) k1 bel lt1) trodAll_mk0)), rfl, bel.frame _, fun h => by cases h⟩
theorem named : Tryz.pinned.checked.prog.funcNamed Rows.fnSightsRow.func = some 3 := by kernel_rfl
theorem closed : joinedFacts Tryz.pinned.checked.prog 3 Tryz.f3 Rows.fnSightsSpec Rows.fnSightsRow = true := by kernel_rfl
theorem inst : Tryz.f3.isInstance Tryz.pinned.checked.prog Rows.fnSightsRow.origin Rows.fnSightsRow.targs := of_decide_eq_true (by kernel_rfl)
theorem wrap : Tryz.f3.isWrapper Tryz.pinned.checked.prog Rows.fnSightsRow.wrapper Rows.fnSightsRow.mainSum := by unfold Func.isWrapper; first | (rw [if_pos (by decide +kernel)]; kernel_rfl) | (rw [if_neg (by decide +kernel)]; exact ⟨rfl, rfl⟩)
theorem over : Rows.fnSightsRow.holds Tryz.pinned (OpenSpec.ofChange Rows.fnSightsSpec) :=
  OpenClaim.holds_of_wide 3 Tryz.f3 rfl rfl rfl rfl rfl rfl rfl ⟨rfl, rfl, rfl, rfl, rfl⟩ rfl rfl rfl rfl rfl named Tryz.func3 closed inst wrap
    (fun os started H enc _ => lifted os started H enc)
theorem proved : Rows.FnSightsSaid := over
end Go.Proofs.YtfinhnimlmkooaaGreat.fnSights
namespace Go.Proofs.YtfinhnimlmkooaaGreat
/-- The row, under a short name, for the claim. -/
theorem fnSights_holds : Rows.FnSightsSaid := fnSights.proved
#print axioms fnSights_holds
end Go.Proofs.YtfinhnimlmkooaaGreat
