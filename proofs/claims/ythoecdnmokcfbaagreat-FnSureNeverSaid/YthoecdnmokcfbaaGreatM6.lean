/- The law FnSureNever of the program: for all arguments it returns true, and its arguments read as they did. -/
import Derived.Test.YthoecdnmokcfbaaGreatM5
import Derived.Test.YthoecdnmokcfbaaGreatRows
import Derived.Test.YthoecdnmokcfbaaGreatM2
import Derived.WalkKit
import Derived.ProofKit
import Derived.OpenShut
import Derived.ShutString
import Derived.ChangeOld
import Derived.Below
import Derived.SizedLaws
/- FnSureNever: what is excluded from the reachable classes never holds; a finer sight excludes it too. -/
set_option linter.unusedVariables false
set_option linter.unusedSimpArgs false
set_option maxRecDepth 8000
namespace Go.Proofs.YthoecdnmokcfbaaGreat
open Go.Dp
theorem sneve_loop {k : Nat} (l0 : List PV) (f : Int -> Bool) (l : List (Int)) (hl : l.length <= 100000) (hc : ∀ x ∈ l, c73 k x l0 = r73 (f x)) : ∀ (n i : Nat), l.length - i < n -> i <= l.length -> L124f73_1 k n (encZ l) l0 (l.length : Int) (i : Int) = r124f73 (fixI f i (l.drop i))
 | 0, i, h, hi => by omega
 | n + 1, i, h, hi => by
   rw [sL124f73_1]
   by_cases hlt : i < l.length
   · have hd : decide ((i : Int) < (l.length : Int)) = true := by simpa using hlt
     have hnext : IntKind.i64.wrap ((i : Int) + 1) = ((i + 1 : Nat) : Int) := by rw [i64_id (by omega) (by omega)]; omega
     rw [hd, encZ_lookup hlt, drop_cons hlt, hnext]
     simp only [cond_true, Option.bind_some, int_atInt]
     rw [hc _ (List.getElem_mem hlt)]
     simp only [R73_r, fixI]
     cases f l[i]
     · exact sneve_loop l0 f l hl hc n (i + 1) (by omega) (by omega)
     · rfl
   · have hd : decide ((i : Int) < (l.length : Int)) = false := by simpa using hlt
     rw [hd, List.drop_eq_nil_of_le (by omega)]
     rfl
theorem sneve_idx {k : Nat} (hk : 100010 <= k) (l0 : List PV) (f : Int -> Bool) (l : List (Int)) (hl : l.length <= 100000) (hc : ∀ x ∈ l, c73 k x l0 = r73 (f x)) : c124f73 (k + 1) (encZ l) l0 = r124f73 (fixI f 0 l) := by
 rw [n124f73, encZ_length]
 exact sneve_loop (k := k) l0 f l hl hc k 0 (by omega) (by omega)
theorem sneve_ok {k : Nat} (hk : 100010 <= k) (l0 : List PV) (f : Int -> Bool) (l : List (Int)) (hl : l.length <= 100000) (hc : ∀ x ∈ l, c73 k x l0 = r73 (f x)) : c62f73 (k + 2) (encZ l) l0 = r62f73 (l.any f) := by
 rw [n62f73, sneve_idx (by omega) l0 f l hl hc]
 simp only [R124f73p_r, fixI_ge]
def badB (p : Prg) (v : List Int) (bad : List Nd) : Bool := (reachC p v).any fun c => (clV v (whI p bad)).contains c
theorem badB_iff (p : Prg) (v : List Int) (bad : List Nd) : badB p v bad = true ↔ ∃ x ∈ whI p bad, dAt v x ∈ reachC p v := by
 rw [badB, List.any_eq_true]
 constructor
 · rintro ⟨c, h1, h2⟩
   rw [List.contains_iff_mem, clV_mem] at h2
   obtain ⟨y, h3, rfl⟩ := h2
   exact ⟨y, h3, h1⟩
 · rintro ⟨x, h1, h2⟩
   exact ⟨_, h2, by rw [List.contains_iff_mem, clV_mem]; exact ⟨x, h1, rfl⟩⟩
theorem sureNeverI_ok {k : Nat} (hk : 1000900 <= k) (p : Prg) (hp : FitP p) {v : List Int} (hv : OkV v) (bad : List Nd) (hb : bad.length <= 100) : c22 k p.wide p.vars (encT p.start) (encCms p.cmds) (encZ v) (encT bad) = r22 (ssB p v bad && !badB p v bad) (ssB p v bad) := by
 obtain ⟨k, rfl⟩ : ∃ j, k = j + 4 := ⟨k - 4, by omega⟩
 have hvl := hv.len
 rw [n22, goodSightI_ok (by omega) p hp v (by omega)]
 simp only [R49_r, ssB]
 cases hgs : gsB p v
 · rfl
 obtain ⟨s1, s2, s3⟩ := gs_small hgs
 simp only [Bool.not_true, cond_false, Bool.true_and]
 rw [cond_ok (by omega) _ _ _ _ bad (by omega)]
 simp only [R72_r]
 cases hq : (kindT p.wide p.vars bad == 2)
 · rfl
 have hwl := whI_len s1 bad
 have hcl := clV_len s2 (wh_inG s3 bad)
 have hrl := reachC_len hp s1 hv s3 s2
 simp only [Bool.not_true, cond_false, Bool.true_and]
 rw [where_ok (by omega) s1 _ _ bad hb (by simpa using hq)]
 simp only [R57_r]
 rw [classesOf_ok (by omega) hv (nn_of s1 s3) s2 _ (wh_inG s3 bad) (by omega)]
 simp only [R56_r]
 rw [classReach_ok (by omega) hp s1 hv s3 s2]
 simp only [R60_r, encZ_length, encZ_tk]
 rw [sneve_ok (k := k + 1) (by omega) (encZ (clV v (whI p bad))) (fun c => (clV v (whI p bad)).contains c) (reachC p v) (by omega) (fun x hx => by
   rw [n73, contains1_ok (by omega) _ (by omega)]
   simp only [R65_r])]
 simp only [R62f73p_r]
 rfl
def stS (v cs : List Int) (i : Nat) : List Int := stF 1 (v.map fun x => bif cs.contains x then 1 else 0) i
theorem states17_loop {k : Nat} (hk : 100010 <= k) (cs v : List Int) (hc : cs.length <= 1000) (hv : v.length <= 1000) : ∀ (n i : Nat) (o : List Int), v.length - i < n -> i <= v.length -> o.length <= i ->
   L76_1 k n (encZ cs) o.length (encZ v) (v.length : Int) (i : Int) (encZ o) = r76 (encZ (o ++ stS (v.drop i) cs i))
 | 0, i, o, h, hi, ho => by omega
 | n + 1, i, o, h, hi, ho => by
   rw [sL76_1, encZ_tk]
   by_cases hlt : i < v.length
   · have hd : decide ((i : Int) < (v.length : Int)) = true := by simpa using hlt
     have hnext : IntKind.i64.wrap ((i : Int) + 1) = ((i + 1 : Nat) : Int) := by rw [i64_id (by omega) (by omega)]; omega
     have hs : stS (v.drop i) cs i = bif cs.contains v[i] then (i : Int) :: stS (v.drop (i + 1)) cs (i + 1) else stS (v.drop (i + 1)) cs (i + 1) := by
       unfold stS
       rw [drop_cons hlt, List.map_cons, stF]
       cases cs.contains v[i] <;> rfl
     rw [hd, encZ_lookup hlt, hnext, hs]
     simp only [cond_true, Option.bind_some, int_atInt]
     rw [has_ok hk cs (by omega)]
     simp only [R138_r]
     cases cs.contains v[i]
     · exact states17_loop hk cs v hc hv n (i + 1) o (by omega) (by omega) (by omega)
     · simp only [cond_true]
       rw [lim_ok (by omega) (by omega), encZ_snoc]
       have := states17_loop hk cs v hc hv n (i + 1) (o ++ [(i : Int)]) (by omega) (by omega) (by simp; omega)
       rw [List.length_append, List.append_assoc] at this
       exact this
   · have hd : decide ((i : Int) < (v.length : Int)) = false := by simpa using hlt
     rw [hd, List.drop_eq_nil_of_le (by omega)]
     simp [stS, stF]
theorem states17_ok {k : Nat} (hk : 100020 <= k) (cs v : List Int) (hc : cs.length <= 1000) (hv : v.length <= 1000) : c76 k (encZ v) (encZ cs) = r76 (encZ (stS v cs 0)) := by
 obtain ⟨k, rfl⟩ : ∃ j, k = j + 1 := ⟨k - 1, by omega⟩
 rw [n76, encZ_length]
 have := states17_loop (k := k) (by omega) cs v hc hv k 0 [] (by omega) (by omega) (by simp)
 rw [List.drop_zero, List.nil_append] at this
 exact this
theorem stS_mem (v cs : List Int) (x : Int) : x ∈ stS v cs 0 ↔ inG v.length x /\ dAt v x ∈ cs := by
 rw [stS, stF_mem]
 constructor
 · rintro ⟨j, hj, rfl, h⟩
   have hj2 : j < v.length := by simpa using hj
   refine ⟨⟨by omega, by omega⟩, ?_⟩
   rw [dAt_get (by omega)]
   simp only [List.getElem_map] at h
   have e : ((((0 + j : Nat) : Int)).toNat) = j := by omega
   simp only [e]
   cases hc : cs.contains v[j]
   · rw [hc] at h
     simp at h
   · simpa using hc
 · rintro ⟨⟨h1, h2⟩, h3⟩
   refine ⟨x.toNat, by simpa using h2, by omega, ?_⟩
   rw [dAt_get h2] at h3
   have hc : cs.contains v[x.toNat] = true := by simpa using h3
   simp only [List.getElem_map, hc]
   rfl
theorem sureNeverS_ok {k : Nat} (hk : 1000900 <= k) (p : Prg) (hp : FitP p) {v : List Int} (hv : OkV v) (bad : List Nd) (hb : bad.length <= 100) : c23 k p.wide p.vars (encT p.start) (encCms p.cmds) (encZ v) (encT bad) = r23 (ssB p v bad && !badB p v bad) (ssB p v bad) := by
 obtain ⟨k, rfl⟩ : ∃ j, k = j + 1 := ⟨k - 1, by omega⟩
 have hvl := hv.len
 rw [n23, goodSightS_ok (by omega) p hp v (by omega)]
 simp only [R51_r, ssB]
 cases hgs : gsB p v
 · rfl
 obtain ⟨s1, s2, s3⟩ := gs_small hgs
 simp only [Bool.not_true, cond_false, Bool.true_and]
 rw [asks_ok (by omega) _ _ _ _ bad (by omega)]
 simp only [R74_r]
 cases hq : (kindT p.wide p.vars bad == 2)
 · rfl
 have hwl := whI_len s1 bad
 have hrl := reachC_len hp s1 hv s3 s2
 simp only [Bool.not_true, cond_false, Bool.true_and]
 rw [reach17_ok (by omega) hp s1 hv s3 s2]
 simp only [R61_r]
 rw [states17_ok (by omega) _ _ (by omega) (by omega)]
 simp only [R76_r]
 rw [those_ok (by omega) s1 _ _ bad hb (by simpa using hq)]
 simp only [R59_r]
 have hsl : (stS v (reachC p v) 0).length <= v.length := by
   have := stF_len 1 (v.map fun x => bif (reachC p v).contains x then 1 else 0) 0
   rw [List.length_map] at this
   exact this
 have e : meetI (stS v (reachC p v) 0) (whI p bad) = badB p v bad := by
   rw [Bool.eq_iff_iff, meetI_iff, badB_iff]
   constructor
   · rintro ⟨y, h1, h2⟩
     exact ⟨y, h2, ((stS_mem v _ y).1 h1).2⟩
   · rintro ⟨x, h1, h2⟩
     exact ⟨x, (stS_mem v _ x).2 ⟨wh_inG s3 bad x h1, h2⟩, h1⟩
 rw [meetS_ok (by omega) _ _ (by omega) (by omega), e]
 simp only [R75_r]
def clB (p : Prg) (v : List Int) (c : Int) : Bool := gsB p v && (decide (0 <= c) && decide (c < manyF v 0))
theorem class17_ok {k : Nat} (hk : 1000600 <= k) (p : Prg) (hp : FitP p) {v : List Int} (hv : OkV v) (c : Int) : c86 k p.wide p.vars (encT p.start) (encCms p.cmds) (encZ v) c = r86 (clB p v c) := by
 obtain ⟨k, rfl⟩ : ∃ j, k = j + 1 := ⟨k - 1, by omega⟩
 have hvl := hv.len
 rw [n86, goodSightS_ok (by omega) p hp v (by omega)]
 simp only [R51_r, clB]
 cases hgs : gsB p v
 · rfl
 obtain ⟨s1, s2, s3⟩ := gs_small hgs
 have hml := many_le s2
 simp only [cond_true, Bool.true_and]
 rw [many15_ok (by omega) (by omega) s2]
 simp only [R117_r]
 rw [i64_id (by omega) (by omega), in_ok (by omega)]
 simp only [R52_r]
 congr 2
 rw [decide_eq_decide]
 omega
theorem SureStepsI_ok {k : Nat} (hk : 1000800 <= k) (p : Prg) (hp : FitP p) {v : List Int} (hv : OkV v) (c : Int) : c28 k p.wide p.vars (encT p.start) (encCms p.cmds) (encZ v) c = r28 (encZ (bif clB p v c then sureL p v c else [])) (clB p v c) := by
 obtain ⟨k, rfl⟩ : ∃ j, k = j + 1 := ⟨k - 1, by omega⟩
 rw [n28, isClass_ok (by omega) p hp hv, show (gsB p v && (decide (0 <= c) && decide (c < manyF v 0))) = clB p v c from rfl]
 simp only [R84_r]
 cases hc : clB p v c
 · rfl
 have hc2 := hc
 simp only [clB, Bool.and_eq_true] at hc2
 obtain ⟨s1, s2, s3⟩ := gs_small hc2.1
 simp only [Bool.not_true, cond_false, cond_true]
 rw [sureSteps_ok (by omega) hp s1 _ hv s3 s2]
 simp only [R85_r]
theorem SureStepsS_ok {k : Nat} (hk : 1000800 <= k) (p : Prg) (hp : FitP p) {v : List Int} (hv : OkV v) (c : Int) : c29 k p.wide p.vars (encT p.start) (encCms p.cmds) (encZ v) c = r29 (encZ (bif clB p v c then sureL p v c else [])) (clB p v c) := by
 obtain ⟨k, rfl⟩ : ∃ j, k = j + 1 := ⟨k - 1, by omega⟩
 rw [n29, class17_ok (by omega) p hp hv]
 simp only [R86_r]
 cases hc : clB p v c
 · rfl
 have hc2 := hc
 simp only [clB, Bool.and_eq_true] at hc2
 obtain ⟨s1, s2, s3⟩ := gs_small hc2.1
 simp only [Bool.not_true, cond_false, cond_true]
 rw [sure17_ok (by omega) hp s1 _ hv s3 s2]
 simp only [R87_r]
theorem ClassStepsI_ok {k : Nat} (hk : 1000800 <= k) (p : Prg) (hp : FitP p) {v : List Int} (hv : OkV v) (c : Int) : c30 k p.wide p.vars (encT p.start) (encCms p.cmds) (encZ v) c = r30 (encZ (bif clB p v c then stpL p v c else [])) (clB p v c) := by
 obtain ⟨k, rfl⟩ : ∃ j, k = j + 1 := ⟨k - 1, by omega⟩
 rw [n30, isClass_ok (by omega) p hp hv, show (gsB p v && (decide (0 <= c) && decide (c < manyF v 0))) = clB p v c from rfl]
 simp only [R84_r]
 cases hc : clB p v c
 · rfl
 have hc2 := hc
 simp only [clB, Bool.and_eq_true] at hc2
 obtain ⟨s1, s2, s3⟩ := gs_small hc2.1
 simp only [Bool.not_true, cond_false, cond_true]
 rw [classSteps_ok (by omega) hp s1 _ hv s3 s2]
 simp only [R88_r, encZ_length, encZ_tk]
theorem ClassStepsS_ok {k : Nat} (hk : 1000800 <= k) (p : Prg) (hp : FitP p) {v : List Int} (hv : OkV v) (c : Int) : c31 k p.wide p.vars (encT p.start) (encCms p.cmds) (encZ v) c = r31 (encZ (bif clB p v c then stpL p v c else [])) (clB p v c) := by
 obtain ⟨k, rfl⟩ : ∃ j, k = j + 1 := ⟨k - 1, by omega⟩
 rw [n31, class17_ok (by omega) p hp hv]
 simp only [R86_r]
 cases hc : clB p v c
 · rfl
 have hc2 := hc
 simp only [clB, Bool.and_eq_true] at hc2
 obtain ⟨s1, s2, s3⟩ := gs_small hc2.1
 simp only [Bool.not_true, cond_false, cond_true]
 rw [steps17_ok (by omega) hp s1 _ hv s3]
 simp only [R89_r]
theorem drawSureNever_ok {bs : List Nat} (hc : CodeOK bs) {k : Nat} (hk : 1001200 <= k) : ∃ p v t, c21 k (encB bs) = r21 p.wide p.vars (encT p.start) (encCms p.cmds) (encZ v) (encT t) /\ FitP p /\ OkV v /\ t.length <= 100 := by
 obtain ⟨k, rfl⟩ : ∃ j, k = j + 1 := ⟨k - 1, by omega⟩
 obtain ⟨p, v, t, h, hp, hv, ht⟩ := drawSplitBy_ok hc (k := k) (by omega)
 rw [n21, h]
 simp only [R71_r]
 exact ⟨p, v, t, rfl, hp, hv, ht⟩
theorem drawSureSteps_ok {bs : List Nat} (hc : CodeOK bs) {k : Nat} (hk : 1001200 <= k) : ∃ p v c, c27 k (encB bs) = r27 p.wide p.vars (encT p.start) (encCms p.cmds) (encZ v) c /\ FitP p /\ OkV v := by
 obtain ⟨k, rfl⟩ : ∃ j, k = j + 2 := ⟨k - 2, by omega⟩
 rw [n27, n83]
 obtain ⟨a2, s2, p, h, h2, h3, h4⟩ := small_ok hc (k := k) (by omega) (at' := 0) (by omega) (by omega) 0#64
 have h' : c44 k (encB bs) 0 0 = _ := h
 rw [h']
 simp only [R44_r]
 obtain ⟨a3, s3, v, h, h5, h6, h7⟩ := sight_ok hc (k := k) (by omega) h4 (at' := a2) (by omega) (by omega) s2
 rw [h]
 simp only [R45_r]
 obtain ⟨a4, s4, x, h, h8, h9, _⟩ := pick_ok hc (k := k) (by omega) (at' := a3) (by omega) (by omega) s3 6
 rw [h]
 simp only [R103_r]
 obtain ⟨a5, s5, y, h, h10, h11, _⟩ := pick_ok hc (k := k) (by omega) (at' := a4) (by omega) (by omega) s4 9
 rw [h]
 simp only [R103_r, R83_r]
 exact ⟨p, v, _, rfl, h4, h7⟩
theorem never_hN {p : Prg} (hs : smallP p = true) {bad : List Nd} (hkt : kindT p.wide p.vars bad = 2) (hg : goodT p.wide p.vars (turnT 19 bad) = true) : kindT p.wide p.vars (turnT 19 bad) = 2 /\ ∀ x, inS p x -> hN p (turnT 19 bad) x = !hN p bad x := by
 obtain ⟨hw, hv⟩ := goodP_size (small_good hs)
 obtain ⟨k1, _⟩ := good_kst (kind_good (by omega : kindT p.wide p.vars bad > 0))
 rw [hkt] at k1
 constructor
 · have hk2 : kst p.wide p.vars (turnT 19 bad) [] = some [2] := by
     unfold turnT
     rw [kst_app, k1]
     simp [kst, need, leafOK]
   have hz : sizeT p.wide p.vars (turnT 19 bad) = true := by
     simp only [goodT, Bool.and_eq_true] at hg
     exact hg.1
   unfold kindT
   rw [if_pos hz, hk2]
   rfl
 · intro x hx
   obtain ⟨h1, h2⟩ := (stOK_of hw).1 (sto_ok hs hx)
   obtain ⟨hval, hok⟩ := kind_val hkt (by omega) h1 h2
   have hc := le_one_cases (okV_two (by rw [hkt] at *; exact hok))
   have hv2 : vrun p.wide (sto p x) (turnT 19 bad) [] = some [1#64 - valD p.wide (sto p x) bad] := by
     unfold turnT
     rw [vrun_app, hval]
     rfl
   have e1 : hN p (turnT 19 bad) x = (valD p.wide (sto p x) (turnT 19 bad) == 1#64) := rfl
   have e2 : hN p bad x = (valD p.wide (sto p x) bad == 1#64) := rfl
   rw [e1, e2, valD_of hv2]
   rcases hc with h | h <;> rw [h] <;> rfl
theorem finer_reach {p : Prg} (hp : FitP p) (hs : smallP p = true) {v f : List Int} (hv : OkV v) (hn : v.length = nS p) (hg : goodF v 0 = true) (hof : OkV f) (hf : f.length = nS p) (hgf : goodF f 0 = true) (hvf : ∀ x y, inG v.length x -> inG v.length y -> dAt f x = dAt f y -> dAt v x = dAt v y) : ∀ (n : Nat) (c : Int), Way (clG p f) (starts17 p f) n c -> ∀ x, inG v.length x -> dAt f x = c -> dAt v x ∈ reachC p v := by
 intro n c h
 induction h with
 | start c hc =>
   intro x hx hxc
   obtain ⟨y, h1, h2⟩ := (clV_mem _ _ _).1 hc
   rw [hvf x y hx (wh_inG hn p.start y h1) (by rw [hxc, h2]), reachC_mem hp hs hv hn hg]
   exact ⟨0, .start _ ((clV_mem _ _ _).2 ⟨y, h1, rfl⟩)⟩
 | step n c w h hw ih =>
   intro x hx hxw
   rw [clG_at] at hw
   split at hw
   · rename_i hlt
     obtain ⟨y, h1, h2, z, h3, h4⟩ := (stpL_mem p f _ w).1 hw
     have hy : inG v.length y := by rw [hn, <- hf]; exact h1
     have hyS : inS p y := inG_in.1 (by rw [<- hn]; exact hy)
     have hz : inG v.length z := by rw [hn]; exact inG_in.2 (nxL_in hp hs hyS z h3)
     have hc0 : 0 <= c := by
       cases h with
       | start c hc => exact (starts_in hf hgf c hc).1
       | step n c' c h hw => exact ((clG_rows hp hs hof hf hgf c'.toNat).2 c hw).1
     have h2' : dAt f y = c := by rw [h2]; omega
     have hr := ih y hy h2'
     rw [hvf x z hx hz (by rw [hxw, h4])]
     obtain ⟨m, hm⟩ := (reachC_mem hp hs hv hn hg _).1 hr
     have hrg := dAt_rng hg hy.2
     rw [reachC_mem hp hs hv hn hg]
     refine ⟨m + 1, .step m _ _ hm ?_⟩
     rw [clG_at, if_pos (by omega), show (((dAt v y).toNat : Nat) : Int) = dAt v y by omega, stpL_mem]
     exact ⟨y, hy, rfl, z, h3, rfl⟩
   · simp at hw
theorem cls_zip_at {a b : List Int} (hl : a.length = b.length) {x y : Int} (hx : x.toNat < a.length) (hy : y.toNat < a.length) (h : dAt (cls (a.zip b) []) x = dAt (cls (a.zip b) []) y) : dAt a x = dAt a y := by
 have hid : cls (a.zip b) [] = cls ((a.zip b).map id) [] := by rw [List.map_id]
 obtain ⟨g, h1, h2⟩ := cls_rep (a.zip b) id
 rw [hid, h1] at h
 have hz : (a.zip b).length = a.length := by simp; omega
 rw [dAt_get (by simpa using (by omega : x.toNat < (a.zip b).length)), dAt_get (by simpa using (by omega : y.toNat < (a.zip b).length)), List.getElem_map, List.getElem_map] at h
 have h3 := (h2 _ (List.getElem_mem (by omega : x.toNat < (a.zip b).length)) _ (List.getElem_mem (by omega : y.toNat < (a.zip b).length))).1 h
 have h4 : (a.zip b)[x.toNat]'(by omega) = (a.zip b)[y.toNat]'(by omega) := h3
 rw [List.getElem_zip, List.getElem_zip] at h4
 rw [dAt_get hx, dAt_get hy]
 exact (Prod.mk.inj h4).1
theorem sn_end {k : Nat} (hk : 1002000 <= k) {more : List Nat} (hm : CodeOK more) : (R27 (c27 k (encB more)) fun v21 v22 l49 l50 l51 v23 =>
    R28 (c28 k v21 v22 l49 l50 l51 v23) fun l52 b54 =>
    R29 (c29 k v21 v22 l49 l50 l51 v23) fun l53 b55 =>
    R30 (c30 k v21 v22 l49 l50 l51 v23) fun l54 b56 =>
    R31 (c31 k v21 v22 l49 l50 l51 v23) fun l55 b57 =>
    bif (b54 == b55) then
     R16 (c16 k l52 l53) fun b58 =>
     bif b58 then
      bif (b56 == b57) then
       R16 (c16 k l54 l55) fun b59 =>
       bif b59 then
        R32 (c32 k l52 l54) fun b60 =>
        r4 b60
       else r4 false
      else r4 false
     else r4 false
    else r4 false) = r4 true := by
 obtain ⟨p, v, c, h, hp, hv⟩ := drawSureSteps_ok hm (k := k) (by omega)
 have hvl := hv.len
 rw [h]
 simp only [R27_r]
 rw [SureStepsI_ok (by omega) p hp hv, SureStepsS_ok (by omega) p hp hv]
 simp only [R28_r, R29_r]
 rw [ClassStepsI_ok (by omega) p hp hv, ClassStepsS_ok (by omega) p hp hv]
 simp only [R30_r, R31_r, beq_self_eq_true, cond_true]
 have hb : (bif clB p v c then stpL p v c else []).length <= 100 /\ (bif clB p v c then sureL p v c else []).length <= 100 /\ ∀ x ∈ (bif clB p v c then sureL p v c else []), x ∈ (bif clB p v c then stpL p v c else []) := by
   cases hc : clB p v c
   · simp
   · simp only [clB, Bool.and_eq_true] at hc
     obtain ⟨s1, s2, s3⟩ := gs_small hc.1
     have h1 := stpL_len hp s1 s3 s2 c
     have h2 : (sureL p v c).length <= (stpL p v c).length := List.length_filter_le _ _
     exact ⟨by simp only [cond_true]; omega, by simp only [cond_true]; omega, fun x hx => (List.mem_filter.1 hx).1⟩
 generalize (bif clB p v c then stpL p v c else []) = a at hb ⊢
 generalize (bif clB p v c then sureL p v c else []) = b at hb ⊢
 obtain ⟨h1, h2, h3⟩ := hb
 rw [sameInts_ok (by omega) _ _ (by omega), sameInts_ok (by omega) _ _ (by omega)]
 simp only [R16_r, decide_true, cond_true]
 have hall : (b.all fun x => a.contains x) = true := by
   rw [List.all_eq_true]
   intro x hx
   rw [List.contains_iff_mem]
   exact h3 x hx
 rw [withinL_ok (by omega) _ _ (by omega) (by omega), hall]
 simp only [R32_r]
theorem sn_true {k : Nat} (hk : 1048700 <= k) (code more : List Nat) (hc : ∀ b ∈ code, b < 256) (hm : ∀ b ∈ more, b < 256) : c4 k (encB code) (encB more) = r4 true := by
 obtain ⟨k, rfl⟩ : ∃ j, k = j + 1 := ⟨k - 1, by omega⟩
 rw [n4, big_ok (by omega)]
 simp only [R6_r]
 cases hbig : (decide (code.length > 1048576) || decide (more.length + code.length > 1048576))
 · simp only [cond_false]
   rw [Bool.or_eq_false_iff] at hbig
   have hl : code.length <= 1048576 /\ more.length <= 1048576 := by
     have h1 := hbig.1
     have h2 := hbig.2
     simp at h1 h2
     omega
   have hcc : CodeOK code := ⟨hl.1, hc⟩
   have hmm : CodeOK more := ⟨hl.2, hm⟩
   have hend := sn_end (k := k) (by omega) hmm
   obtain ⟨p, v, bad, h, hp, hv, hb⟩ := drawSureNever_ok hcc (k := k) (by omega)
   have hvl := hv.len
   rw [h]
   simp only [R21_r]
   rw [sureNeverI_ok (by omega) p hp hv bad hb, sureNeverS_ok (by omega) p hp hv bad hb]
   simp only [R22_r, R23_r, beq_self_eq_true, Bool.not_true, cond_false]
   cases hss : ssB p v bad
   · simp only [cond_false]
     exact hend
   have hs2 := hss
   simp only [ssB, Bool.and_eq_true, beq_iff_eq] at hs2
   obtain ⟨hgs, hkt⟩ := hs2
   obtain ⟨s1, s2, s3⟩ := gs_small hgs
   have hle := nS_le s1
   obtain ⟨b1, b2⟩ := bits_okV s1 bad
   have hzl : v.length = (byV p bad).length := by omega
   have hz : (v.zip (byV p bad)).length = nS p := by simp; omega
   have hfl : (cls (v.zip (byV p bad)) []).length = nS p := by rw [cls_len, hz]
   have hfo : OkV (cls (v.zip (byV p bad)) []) := cls_okV _ (by omega)
   have hfg : goodF (cls (v.zip (byV p bad)) []) 0 = true := (good_cls (v.zip (byV p bad)) []).1
   have hfs : ssB p (cls (v.zip (byV p bad)) []) bad = true := by
     simp only [ssB, gsB, s1, hfg, hfl, hkt, beq_self_eq_true, Bool.and_self]
   have hfiner := finer_reach hp s1 hv s3 s2 hfo hfl hfg (fun x y hx hy h => cls_zip_at hzl hx.2 hy.2 h)
   have fS : badB p v bad = false -> badB p (cls (v.zip (byV p bad)) []) bad = false := by
     intro h0
     cases h1 : badB p (cls (v.zip (byV p bad)) []) bad
     · rfl
     · obtain ⟨x, h2, h3⟩ := (badB_iff p _ bad).1 h1
       obtain ⟨m, h4⟩ := (reachC_mem hp s1 hfo hfl hfg _).1 h3
       have h5 := hfiner m _ h4 x (wh_inG s3 bad x h2) rfl
       have := (badB_iff p v bad).2 ⟨x, h2, h5⟩
       rw [h0] at this
       cases this
   have hte : ∀ b : Bool, (bif b then encT (turnT 19 bad) else []) = encT (bif b then turnT 19 bad else []) := by intro b; cases b <;> rfl
   simp only [cond_true, Bool.true_and]
   have hbl : bad.length <= 48 := (kind_len hkt).1
   have htl : ∀ b : Bool, (bif b then turnT 19 bad else []).length <= 100 := by intro b; cases b <;> simp [turnT]; omega
   rw [turnTerm_ok (by omega) _ _ _ bad (by omega)]
   simp only [R24_r]
   rw [hte, alwaysI_ok (by omega) p hp _ (htl _)]
   simp only [R25_r]
   rw [splitByI_ok (by omega) p hp hv bad hb, hss]
   simp only [R26_r, cond_true]
   rw [sureNeverI_ok (by omega) p hp hfo bad hb, hfs]
   simp only [R22_r, Bool.true_and, Bool.not_true, cond_false]
   have fA : turnOK p.wide p.vars 19 bad = true -> alwOK p (turnT 19 bad) = true /\ (badB p v bad = false -> alwB p (turnT 19 bad) = true) := by
     intro h0
     simp only [turnOK, Bool.and_eq_true] at h0
     obtain ⟨h1, h2⟩ := never_hN s1 hkt h0.2
     refine ⟨by simp only [alwOK, s1, h1, beq_self_eq_true, Bool.and_self], fun h3 => ?_⟩
     unfold alwB
     rw [List.all_eq_true]
     intro x hx
     have hxr := (reachL_mem hp s1 x).1 hx
     have hxi := rch_in hp s1 hxr
     rw [h2 x hxi]
     cases h4 : hN p bad x
     · rfl
     · have := (badB_iff p v bad).2 ⟨x, (whI_mem p bad x).2 ⟨hxi, h4⟩, reach_class hp s1 hv s3 s2 hxr⟩
       rw [h3] at this
       cases this
   cases hto : turnOK p.wide p.vars 19 bad
   · simp only [cond_false]
     cases hbb : badB p v bad
     · rw [fS hbb]
       simp only [Bool.not_false, cond_true, Bool.not_true, cond_false]
       exact hend
     · simp only [Bool.not_true, cond_false]
       exact hend
   · obtain ⟨a1, a2⟩ := fA hto
     simp only [cond_true, a1, Bool.not_true, cond_false, Bool.true_and]
     cases hbb : badB p v bad
     · rw [fS hbb, a2 hbb]
       simp only [Bool.not_false, cond_true, Bool.not_true, cond_false]
       exact hend
     · simp only [Bool.not_true, cond_false]
       exact hend
 · rfl
theorem lawFnSureNever (code more : List Int) (hc : ∀ n ∈ code, (Lit.int .u8 n).wf = true) (hm : ∀ n ∈ more, (Lit.int .u8 n).wf = true) : Contract Tryz.prog 4 (([.row 0 0 (ints .u8 code), .row 0 0 (ints .u8 more)] : List PV).map .p) [] ([.c (.p (.bool true))], []) := by
 obtain ⟨e1, h1⟩ := ints_encB code hc
 obtain ⟨e2, h2⟩ := ints_encB more hm
 rw [e1, e2]
 exact evF_sound envOK pOK (T := T) hT 1048700 (sn_true (k := 1048700) (Nat.le_refl _) _ _ h1 h2)
end Go.Proofs.YthoecdnmokcfbaaGreat
/- The law FnSureNever of the program: for all arguments it returns true, and its arguments read as they did. -/
namespace Go.Proofs.YthoecdnmokcfbaaGreat.fnSureNever
open Go.ChangeShapes Go.WideShapes Go.ChangeAt Go.RowKit Go.Dp
open Go.ChangeMaps (open_string shut_string)
set_option linter.unusedVariables false
theorem own : ownKnob Tryz.prog.godebug = none := by kernel_rfl
theorem laidOut : laidOutB Tryz.prog = true := by kernel_rfl
theorem spot_none {P : Program} {w : World} {r : Reach} {base : Nat} {t e : TypeId} {x : Addr} {len cap : Nat} (ht : P.underlying t = some (.slice e)) (h : Value.okWide P w r base t (.slice (some x) len cap)) : x.spot = none := by
 simp only [Value.okWide, ht, Cell.okWide, Cell.ok] at h
 exact h.2.2.2.1
set_option maxRecDepth 100000 in
theorem lifted (os : Os) (started : os.Started) (H : Type) (enc : TypeId × Value -> H) :
   ReturnsInHanded {} Tryz.checked os 4 .any (Rows.fnSureNeverSpec.pre6 enc Tryz.prog Tryz.f4 Rows.fnSureNeverRow.domain false) (Rows.fnSureNeverSpec.post enc Tryz.prog Tryz.f4 false true false false) := by
 refine returnsInHanded_of_change_sized (C := Tryz.checked) own started (by kernel_rfl) Tryz.func4
   (ChangeSpec.witness6 (enc := enc) (C := Tryz.checked) false ⟨#[], #[.slice none 0 0, .slice none 0 0], []⟩ 8 (by kernel_rfl) (by kernel_rfl) (by kernel_rfl) (by kernel_rfl)) ?_
 intro W base args ds gs before hval0 hW hcnd hsz0 _
 have hval : ∀ (j : Nat) t v, Tryz.f4.params[j]? = some t -> args[j]? = some v -> Value.okWide Tryz.prog W .any base t v := hval0
 have hW' := hW
 obtain ⟨p, q, hA0, hV, rfl, hfz, hnd⟩ := hW
 have hA : DataW.TrodAll enc Tryz.prog W 0 (fun _ => true) true Tryz.f4.params.toList args.toList ds p := hA0
 rw [Tryz.params4] at hA hval
 obtain ⟨v0, vs0, d0, ds0, p0, q0, hargs, rfl, rfl, h0, r0⟩ := trodAll_cons hA
 obtain ⟨v1, vs1, d1, ds1, p1, q1, rfl, rfl, rfl, h1, r1⟩ := trodAll_cons r0
 obtain ⟨rfl, rfl, rfl⟩ := trodAll_nil r1
 obtain rfl : args = #[v0, v1] := by cases args; simp_all
 obtain ⟨rfl, rfl⟩ := trodVars_none hV
 have o0 := hval 0 22 v0 rfl rfl
 obtain ⟨a0, len0, cap0, rfl⟩ := okWide_slice Tryz.underlying22 o0
 have k0 := h0
 have lt0 : ∀ x ∈ p0, x.block < W.heap.size := by obtain ⟨m, hm⟩ := k0; exact DataW.trod_lt m _ _ _ hm
 obtain ⟨z0, w0⟩ : ∃ zs, IsRow .u8 W a0 len0 cap0 zs := by
   obtain ⟨fuel, hf⟩ := h0
   rcases open_ints Tryz.underlying22 Tryz.underlying5 (by kernel_rfl) hf with ⟨hcs, _⟩ | ⟨x, l, c, zs, hcs, _, hl, hm, hz, _, hcell, hwz⟩
   · simp [Value.cells] at hcs
     obtain ⟨rfl, rfl, rfl⟩ := hcs
     exact ⟨[], .inl ⟨rfl, rfl, rfl, rfl⟩⟩
   · simp [Value.cells] at hcs
     obtain ⟨rfl, rfl, rfl⟩ := hcs
     exact ⟨zs, .inr ⟨_, rfl, spot_none Tryz.underlying22 o0, hl, hm, by simpa using hz, hcell, hwz⟩⟩
 have o1 := hval 1 22 v1 rfl rfl
 obtain ⟨a1, len1, cap1, rfl⟩ := okWide_slice Tryz.underlying22 o1
 have k1 := h1
 have lt1 : ∀ x ∈ p1, x.block < W.heap.size := by obtain ⟨m, hm⟩ := k1; exact DataW.trod_lt m _ _ _ hm
 obtain ⟨z1, w1⟩ : ∃ zs, IsRow .u8 W a1 len1 cap1 zs := by
   obtain ⟨fuel, hf⟩ := h1
   rcases open_ints Tryz.underlying22 Tryz.underlying5 (by kernel_rfl) hf with ⟨hcs, _⟩ | ⟨x, l, c, zs, hcs, _, hl, hm, hz, _, hcell, hwz⟩
   · simp [Value.cells] at hcs
     obtain ⟨rfl, rfl, rfl⟩ := hcs
     exact ⟨[], .inl ⟨rfl, rfl, rfl, rfl⟩⟩
   · simp [Value.cells] at hcs
     obtain ⟨rfl, rfl, rfl⟩ := hcs
     exact ⟨zs, .inr ⟨_, rfl, spot_none Tryz.underlying22 o1, hl, hm, by simpa using hz, hcell, hwz⟩⟩
 clear hA0 hval0 hsz0
 refine (law_walk (P := Tryz.prog) (f := 4) (vs := [.row 0 0 (ints .u8 (z0.take len0)), .row 0 0 (ints .u8 (z1.take len1))]) (ys := [.slice a0 len0 cap0, .slice a1 len1 cap1]) rfl ?_ (lawFnSureNever (z0.take len0) (z1.take len1) (fun n hn => w0.wf n (List.mem_of_mem_take hn)) (fun n hn => w1.wf n (List.mem_of_mem_take hn)))).mono fun e W' ⟨he, bel⟩ => ?_
 · intro i a y ha hy
   cases i with
   | zero => simp at ha hy; subst ha; subst hy; exact w0.rp
   | succ i =>
     cases i with
     | zero => simp at ha hy; subst ha; subst hy; exact w1.rp
     | succ i =>
       simp at ha
 subst he
 exact ⟨_, rfl, _, _, _, [], _, [], hW', trodAll_mk1 (shut_bool Tryz.underlying4 _), (trodAll_cons_mk (Below.trod laidOut (by kernel_rfl) (of_decide_eq_true (by kernel_rfl)) k0 bel lt0) (trodAll_cons_mk (Below.trod laidOut (by kernel_rfl) (of_decide_eq_true (by kernel_rfl)) k1 bel lt1) trodAll_mk0)), rfl, bel.frame _, fun h => by cases h⟩
theorem named : Tryz.pinned.checked.prog.funcNamed Rows.fnSureNeverRow.func = some 4 := by kernel_rfl
theorem closed : joinedFacts Tryz.pinned.checked.prog 4 Tryz.f4 Rows.fnSureNeverSpec Rows.fnSureNeverRow = true := by kernel_rfl
theorem inst : Tryz.f4.isInstance Tryz.pinned.checked.prog Rows.fnSureNeverRow.origin Rows.fnSureNeverRow.targs := of_decide_eq_true (by kernel_rfl)
theorem wrap : Tryz.f4.isWrapper Tryz.pinned.checked.prog Rows.fnSureNeverRow.wrapper Rows.fnSureNeverRow.mainSum := by unfold Func.isWrapper; first | (rw [if_pos (by decide +kernel)]; kernel_rfl) | (rw [if_neg (by decide +kernel)]; exact ⟨rfl, rfl⟩)
theorem over : Rows.fnSureNeverRow.holds Tryz.pinned (OpenSpec.ofChange Rows.fnSureNeverSpec) :=
 OpenClaim.holds_of_wide 4 Tryz.f4 rfl rfl rfl rfl rfl rfl rfl ⟨rfl, rfl, rfl, rfl, rfl⟩ rfl rfl rfl rfl rfl named Tryz.func4 closed inst wrap
   (fun os started H enc _ => lifted os started H enc)
theorem proved : Rows.FnSureNeverSaid := over
end Go.Proofs.YthoecdnmokcfbaaGreat.fnSureNever
namespace Go.Proofs.YthoecdnmokcfbaaGreat
theorem fnSureNever_holds : Rows.FnSureNeverSaid := fnSureNever.proved
#print axioms fnSureNever_holds
end Go.Proofs.YthoecdnmokcfbaaGreat
