/- The law FnCubes of the program: for all arguments it returns true, and its arguments read as they did. -/
import Derived.Test.YtfinhnimlmkooaaGreatM4
import Derived.Test.YtfinhnimlmkooaaGreatM2
import Derived.Test.YtfinhnimlmkooaaGreatRows
import Derived.WalkKit
import Derived.ProofKit
import Derived.OpenShut
import Derived.ShutString
import Derived.ChangeOld
import Derived.Below
import Derived.SizedLaws
/- The reference's sights: walked through. -/
set_option linter.unusedVariables false
set_option linter.unusedSimpArgs false
set_option maxRecDepth 4000
namespace Go.Proofs.YtfinhnimlmkooaaGreat
open Go.Dp

theorem R57p_enc (l : List Int) (K0 : List PV → R) : R57p (r57 (encZ l)) K0 = K0 (encZ l) := by
  have h : ([SV.agg [.own 3 0 (encZ l)]].all plainS && true) = true := by simp [plainS, plainC, encZ_plain]; rfl
  show (bif ([SV.agg [.own 3 0 (encZ l)]].all plainS && true) then K0 (encZ l) else none) = _
  rw [h]
  rfl
theorem R44p_enc (l : List Int) (K0 : List PV → R) : R44p (r44 (encZ l)) K0 = K0 (encZ l) := by
  have h : ([SV.agg [.own 3 0 (encZ l)]].all plainS && true) = true := by simp [plainS, plainC, encZ_plain]; rfl
  show (bif ([SV.agg [.own 3 0 (encZ l)]].all plainS && true) then K0 (encZ l) else none) = _
  rw [h]
  rfl
theorem R31p_enc (l : List Int) (b : Bool) (K0 : List PV → Bool → R) : R31p (r31 (encZ l) b) K0 = K0 (encZ l) b := by
  have h : ([SV.agg [.own 3 0 (encZ l)], SV.c (.p (.bool b))].all plainS && true) = true := by simp [plainS, plainC, plainP, encZ_plain]; rfl
  show (bif ([SV.agg [.own 3 0 (encZ l)], SV.c (.p (.bool b))].all plainS && true) then K0 (encZ l) b else none) = _
  rw [h]
  rfl
theorem encZ_tk (l : List Int) : (encZ l).take l.length = encZ l := List.take_of_length_le (by simp)
/-! ### Is it a sight? -/
theorem gsS_loop {k : Nat} (hk : 1 ≤ k) (v : List Int) (hv : v.length ≤ 1000) : ∀ (n i m : Nat), v.length - i < n → i ≤ v.length → m ≤ i →
    L12_1 k n (m : Int) (encZ v) (v.length : Int) (i : Int) = r12 (goodF (v.drop i) (m : Int))
  | 0, i, m, h, hi, hm => by omega
  | n + 1, i, m, h, hi, hm => by
    rw [sL12_1]
    by_cases hlt : i < v.length
    · have hd : decide ((i : Int) < (v.length : Int)) = true := by simpa using hlt
      have hnext : IntKind.i64.wrap ((i : Int) + 1) = ((i + 1 : Nat) : Int) := by rw [i64_id (by omega) (by omega)]; omega
      have hm2 : IntKind.i64.wrap ((m : Int) + 1) = ((m + 1 : Nat) : Int) := by rw [i64_id (by omega) (by omega)]; omega
      have hm3 : ((m : Int) + 1) = ((m + 1 : Nat) : Int) := by omega
      rw [hd, encZ_lookup hlt, drop_cons hlt, hnext]
      simp only [cond_true, Option.bind_some, int_atInt, goodF]
      rw [in_ok hk, hm2, hm3]
      simp only [R50_r]
      cases decide (0 ≤ v[i])
      · rfl
      cases decide (v[i] ≤ (m : Int))
      · rfl
      simp only [Bool.true_and, Bool.not_true, cond_false]
      cases (v[i] == (m : Int))
      · exact gsS_loop hk v hv n (i + 1) m (by omega) (by omega) (by omega)
      · exact gsS_loop hk v hv n (i + 1) (m + 1) (by omega) (by omega) (by omega)
    · have hd : decide ((i : Int) < (v.length : Int)) = false := by simpa using hlt
      rw [hd, List.drop_eq_nil_of_le (by omega)]
      rfl
theorem goodSightS_ok {k : Nat} (hk : 1000300 ≤ k) (p : Prg) (hp : FitP p) (v : List Int) (hv : v.length ≤ 1000) : c12 k p.wide p.vars (encT p.start) (encCms p.cmds) (encZ v) = r12 (gsB p v) := by
  obtain ⟨k, rfl⟩ : ∃ j, k = j + 1 := ⟨k - 1, by omega⟩
  rw [n12, l7Small_ok (by omega) p hp]
  simp only [R48_r, gsB]
  cases hs : smallP p
  · rfl
  · simp only [cond_false, Bool.not_true, Bool.true_and]
    rw [nSS_ok (by omega) hs, encZ_length]
    simp only [R49_r]
    cases hl : ((v.length : Int) == (nS p : Int))
    · have e : ((v.length : Int) != (nS p : Int)) = true := by simp only [bne, hl]; rfl
      rw [e, Bool.and_false]
      rfl
    · have e : ((v.length : Int) != (nS p : Int)) = false := by simp only [bne, hl]; rfl
      rw [e, Bool.and_true]
      exact gsS_loop (k := k) (by omega) v hv k 0 0 (by omega) (by omega) (by omega)
/-! ### Classes numbered by their least states -/
theorem of_loop2 {k : Nat} (ks : List Int) (hlen : ks.length ≤ 1000) (kn : List Int) (n1 i : Nat) (hi : i < ks.length) (hkn : ∀ x, x ∈ kn ↔ x ∈ ks.take i) (hk1 : kn.length ≤ 1000) : ∀ (n j : Nat), i - j < n → j ≤ i → (∀ x ∈ ks.take j, x ≠ ks[i]) →
    L57_2 k n1 n (encZ ks) (kn.length : Int) (i : Int) ks[i] (kn.length : Int) (j : Int) (encZ ks) (ks.length : Int) (i : Int) 0 i [] (encZ ((ks.take i).map fun x => (kn.idxOf x : Int))) =
      bif kn.contains ks[i] then L57_1 k n1 (encZ ks) (kn.length : Int) (encZ ks) (ks.length : Int) ((i + 1 : Nat) : Int) 0 (i + 1) [] (encZ (((ks.take i).map fun x => (kn.idxOf x : Int)) ++ [(kn.idxOf ks[i] : Int)]))
      else L57_1 k n1 (encZ ks) ((kn.length + 1 : Nat) : Int) (encZ ks) (ks.length : Int) ((i + 1 : Nat) : Int) 0 (i + 1) [] (encZ (((ks.take i).map fun x => (kn.idxOf x : Int)) ++ [(kn.length : Int)]))
  | 0, j, h, hj, hno => by omega
  | n + 1, j, h, hj, hno => by
    rw [sL57_2]
    have hol : ((ks.take i).map fun x => (kn.idxOf x : Int)).length = i := by simp; omega
    have hnext : IntKind.i64.wrap ((i : Int) + 1) = ((i + 1 : Nat) : Int) := by rw [i64_id (by omega) (by omega)]; omega
    have hm2 : IntKind.i64.wrap ((kn.length : Int) + 1) = ((kn.length + 1 : Nat) : Int) := by rw [i64_id (by omega) (by omega)]; omega
    have htk : (encZ ((ks.take i).map fun x => (kn.idxOf x : Int))).take i = encZ ((ks.take i).map fun x => (kn.idxOf x : Int)) := by rw [List.take_of_length_le (by simp; omega)]
    have hlim : (decide ((i + 1) * 8 ≤ LIM) && decide (i + 1 ≤ LIM)) = true := lim_ok (by omega) (by omega)
    by_cases hlt : j < i
    · have hd : decide ((j : Int) < (i : Int)) = true := by simpa using hlt
      have hnj : IntKind.i64.wrap ((j : Int) + 1) = ((j + 1 : Nat) : Int) := by rw [i64_id (by omega) (by omega)]; omega
      rw [hd, encZ_lookup (l := ks) (i := j) (by omega), hnj]
      simp only [cond_true, Option.bind_some, int_atInt]
      by_cases he : ks[j] = ks[i]
      · have e1 : (ks[j] == ks[i]) = true := by simpa using he
        have hg : (decide ((0 : Int) ≤ (j : Int)) && true) = true := by
          rw [decide_eq_true (by omega)]; rfl
        have hm : ks[i] ∈ ks.take i := by
          rw [← he]
          exact List.mem_take_iff_getElem.2 ⟨j, by omega, rfl⟩
        have hmk : ks[i] ∈ kn := (hkn _).2 hm
        have hc : kn.contains ks[i] = true := by simpa using hmk
        have hidx := List.idxOf_lt_length_of_mem hmk
        have hget : (encZ ((ks.take i).map fun x => (kn.idxOf x : Int)))[0 + (j : Int).toNat]? = some (.int .i64 (kn.idxOf ks[i] : Int)) := by
          rw [Nat.zero_add, Int.toNat_natCast, encZ_get, List.getElem?_map, List.getElem?_take_of_lt hlt, List.getElem?_eq_getElem (by omega), ← he]
          rfl
        have e2 : (((kn.idxOf ks[i] : Nat) : Int) == (kn.length : Int)) = false := by
          have : ((kn.idxOf ks[i] : Nat) : Int) ≠ (kn.length : Int) := by omega
          simpa using this
        rw [e1, hg, hget, hc]
        simp only [cond_true, Option.bind_some, int_atInt]
        rw [e2, hlim, htk, hnext, encZ_snoc]
        rfl
      · have e1 : (ks[j] == ks[i]) = false := by simpa using he
        rw [e1]
        simp only [cond_false]
        refine of_loop2 ks hlen kn n1 i hi hkn hk1 n (j + 1) (by omega) (by omega) fun x hx => ?_
        rw [List.take_succ_eq_append_getElem (by omega), List.mem_append, List.mem_singleton] at hx
        rcases hx with hx | rfl
        · exact hno x hx
        · exact he
    · have hd : decide ((j : Int) < (i : Int)) = false := by simpa using hlt
      have hji : j = i := by omega
      subst hji
      have hc : kn.contains ks[j] = false := by
        rw [← Bool.not_eq_true, List.contains_iff_mem, hkn]
        intro hm
        exact hno _ hm rfl
      have e2 : ((kn.length : Int) == (kn.length : Int)) = true := beq_self_eq_true _
      rw [hd, e2, hc, hlim, htk, hnext, hm2, encZ_snoc]
      rfl
theorem of_loop1 {k : Nat} (ks : List Int) (hlen : ks.length ≤ 1000) (hk : 1010 ≤ k) : ∀ (n i : Nat) (kn : List Int), ks.length - i < n → i ≤ ks.length → (∀ x, x ∈ kn ↔ x ∈ ks.take i) → kn.length ≤ i →
    L57_1 k n (encZ ks) (kn.length : Int) (encZ ks) (ks.length : Int) (i : Int) 0 i [] (encZ ((ks.take i).map fun x => (kn.idxOf x : Int))) = r57 (encZ (((ks.take i).map fun x => (kn.idxOf x : Int)) ++ cls (ks.drop i) kn))
  | 0, i, kn, h, hi, hkn, hk1 => by omega
  | n + 1, i, kn, h, hi, hkn, hk1 => by
    rw [sL57_1]
    by_cases hlt : i < ks.length
    · have hd : decide ((i : Int) < (ks.length : Int)) = true := by simpa using hlt
      rw [hd, encZ_lookup hlt, drop_cons hlt]
      simp only [cond_true, Option.bind_some, int_atInt, cls]
      have h2 := of_loop2 (k := k) ks hlen kn n i hlt hkn (by omega) k 0 (by omega) (by omega) (by simp)
      have h' : L57_2 k n k (encZ ks) (kn.length : Int) (i : Int) ks[i] (kn.length : Int) 0 (encZ ks) (ks.length : Int) (i : Int) 0 i [] (encZ ((ks.take i).map fun x => (kn.idxOf x : Int))) = _ := h2
      rw [h']
      cases hc : kn.contains ks[i]
      · have hp : ks[i] ∉ kn := by simpa using hc
        simp only [cond_false]
        have e : ((ks.take i).map fun x => (kn.idxOf x : Int)) ++ [(kn.length : Int)] = (ks.take (i + 1)).map fun x => ((kn ++ [ks[i]]).idxOf x : Int) := by
          rw [List.take_succ_eq_append_getElem hlt, List.map_append]
          congr 1
          · apply List.map_congr_left
            intro x hx
            rw [idx_app ((hkn x).2 hx)]
          · simp [List.idxOf_append, hp]
        have := of_loop1 ks hlen hk n (i + 1) (kn ++ [ks[i]]) (by omega) (by omega) (fun x => by
          rw [List.take_succ_eq_append_getElem hlt, List.mem_append, List.mem_append, hkn x]) (by simp; omega)
        rw [← e, List.length_append] at this
        rw [show (ks.take i).map (fun x => (kn.idxOf x : Int)) ++ (kn.length : Int) :: cls (ks.drop (i + 1)) (kn ++ [ks[i]]) = ((ks.take i).map (fun x => (kn.idxOf x : Int)) ++ [(kn.length : Int)]) ++ cls (ks.drop (i + 1)) (kn ++ [ks[i]]) by simp]
        exact this
      · have hp : ks[i] ∈ kn := by simpa using hc
        simp only [cond_true]
        have e : ((ks.take i).map fun x => (kn.idxOf x : Int)) ++ [(kn.idxOf ks[i] : Int)] = (ks.take (i + 1)).map fun x => (kn.idxOf x : Int) := by
          rw [List.take_succ_eq_append_getElem hlt, List.map_append]
          rfl
        have := of_loop1 ks hlen hk n (i + 1) kn (by omega) (by omega) (fun x => by
          rw [List.take_succ_eq_append_getElem hlt, List.mem_append, hkn x]
          constructor
          · exact .inl
          · rintro (h | h)
            · exact h
            · rw [List.mem_singleton.1 h]
              exact (hkn _).1 hp) (by omega)
        rw [← e] at this
        rw [show (ks.take i).map (fun x => (kn.idxOf x : Int)) ++ (kn.idxOf ks[i] : Int) :: cls (ks.drop (i + 1)) kn = ((ks.take i).map (fun x => (kn.idxOf x : Int)) ++ [(kn.idxOf ks[i] : Int)]) ++ cls (ks.drop (i + 1)) kn by simp]
        exact this
    · have hd : decide ((i : Int) < (ks.length : Int)) = false := by simpa using hlt
      rw [hd, List.drop_eq_nil_of_le (by omega)]
      simp only [cond_false, cls, List.append_nil]
      rw [List.take_of_length_le (by simp; omega)]
theorem of_ok {k : Nat} (hk : 1020 ≤ k) (ks : List Int) (hlen : ks.length ≤ 1000) : c57 k (encZ ks) = r57 (encZ (cls ks [])) := by
  obtain ⟨k, rfl⟩ : ∃ j, k = j + 1 := ⟨k - 1, by omega⟩
  rw [n57, encZ_length]
  have := of_loop1 (k := k) ks hlen (by omega) k 0 [] (by omega) (by omega) (by simp) (by simp)
  simp only [List.take_zero, List.map_nil, List.nil_append, List.drop_zero, List.length_nil] at this
  exact this
/-! ### Cuts -/
def cutK (some1 : List Int) : List Int → Nat → List Int
  | [], _ => []
  | x :: l, i => (bif some1.contains (i : Int) then 2 * x + 1 else 2 * x) :: cutK some1 l (i + 1)
theorem cutK_len (some1 : List Int) : ∀ (l : List Int) (i : Nat), (cutK some1 l i).length = l.length
  | [], i => rfl
  | x :: l, i => by simp [cutK, cutK_len some1 l]
def cutV (some1 v : List Int) : List Int := cls (cutK some1 v 0) []
theorem cut_loop {k : Nat} (hk : 100010 ≤ k) (some1 v : List Int) (hs : some1.length ≤ 1000) (hv : OkV v) : ∀ (n i : Nat) (o : List Int), v.length - i < n → i ≤ v.length → o.length = i →
    L77_1 k n (encZ some1) o.length (encZ v) (v.length : Int) (i : Int) [] (encZ o) = r77 (encZ (cls (o ++ cutK some1 (v.drop i) i) []))
  | 0, i, o, h, hi, ho => by omega
  | n + 1, i, o, h, hi, ho => by
    have hvl := hv.len
    rw [sL77_1, encZ_tk]
    by_cases hlt : i < v.length
    · have hd : decide ((i : Int) < (v.length : Int)) = true := by simpa using hlt
      have hnext : IntKind.i64.wrap ((i : Int) + 1) = ((i + 1 : Nat) : Int) := by rw [i64_id (by omega) (by omega)]; omega
      have hr := hv.rng _ (List.getElem_mem hlt)
      have e1 : IntKind.i64.wrap (2 * v[i]) = 2 * v[i] := i64_id (by omega) (by omega)
      have e2 : IntKind.i64.wrap (2 * v[i] + 1) = 2 * v[i] + 1 := i64_id (by omega) (by omega)
      rw [hd, encZ_lookup hlt, drop_cons hlt, hnext]
      simp only [cond_true, Option.bind_some, int_atInt, cutK]
      rw [has_ok hk some1 (by omega)]
      simp only [R107_r]
      rw [lim_ok (by omega) (by omega), e1, e2, encZ_snoc, encZ_snoc]
      cases some1.contains (i : Int)
      · have := cut_loop hk some1 v hs hv n (i + 1) (o ++ [2 * v[i]]) (by omega) (by omega) (by simp; omega)
        rw [List.length_append, List.append_assoc] at this
        exact this
      · have := cut_loop hk some1 v hs hv n (i + 1) (o ++ [2 * v[i] + 1]) (by omega) (by omega) (by simp; omega)
        rw [List.length_append, List.append_assoc] at this
        exact this
    · have hd : decide ((i : Int) < (v.length : Int)) = false := by simpa using hlt
      rw [hd, List.drop_eq_nil_of_le (by omega), of_ok (by omega) o (by omega)]
      simp only [cond_false, cutK, List.append_nil]
      rw [R57p_enc, List.take_of_length_le (by simp)]
theorem cut15_ok {k : Nat} (hk : 100020 ≤ k) (some1 v : List Int) (hs : some1.length ≤ 1000) (hv : OkV v) : c77 k (encZ v) (encZ some1) = r77 (encZ (cutV some1 v)) := by
  obtain ⟨k, rfl⟩ : ∃ j, k = j + 1 := ⟨k - 1, by omega⟩
  have := hv.len
  rw [n77, encZ_length]
  exact cut_loop (k := k) (by omega) some1 v hs hv k 0 [] (by omega) (by omega) rfl
theorem cls_okV {α : Type} [BEq α] [LawfulBEq α] (l : List α) (h : l.length ≤ 100) : OkV (cls l []) := by
  refine ⟨by rw [cls_len]; exact h, fun x hx => ?_⟩
  obtain ⟨h1, h2⟩ := good_cls l []
  have h3 := good_lt (cls l []) 0 h1 x hx
  have h4 : (dis l []).length ≤ l.length := nodup_sub (dis_nodup l [] (by simp)) (fun x hx => by simpa using (dis_sub l [] x).1 hx)
  have h5 : manyF (cls l []) 0 = ((dis l []).length : Int) := h2
  have h6 : ((0 : Nat) : Int) = 0 := rfl
  rw [h6] at h3
  omega
theorem cut_okV {some1 v : List Int} (hv : OkV v) : OkV (cutV some1 v) := cls_okV _ (by rw [cutK_len]; exact hv.len)
theorem cut_len (some1 v : List Int) : (cutV some1 v).length = v.length := by rw [cutV, cls_len, cutK_len]
theorem wh_le {p : Prg} (hs : smallP p = true) (t : List Nd) : (whI p t).length ≤ 32 := by
  have := whN_len p t (nS p) 0
  have := (nS_le hs).2
  unfold whI
  omega
theorem split_ok {k : Nat} (hk : 1000300 ≤ k) {p : Prg} (hs : smallP p = true) (l1 l2 : List PV) (t : List Nd) (ht : t.length ≤ 100) (hkt : kindT p.wide p.vars t = 2) {v : List Int} (hv : OkV v) : c44 k p.wide p.vars l1 l2 (encZ v) (encT t) = r44 (encZ (cutV (whI p t) v)) := by
  obtain ⟨k, rfl⟩ : ∃ j, k = j + 1 := ⟨k - 1, by omega⟩
  have := wh_le hs t
  rw [n44, those_ok (by omega) hs l1 l2 t ht hkt]
  simp only [R93_r]
  rw [cut15_ok (by omega) _ _ (by omega) hv]
  simp only [R77_r, encZ_length, encZ_tk]
/-! ### By conditions -/
def byL (p : Prg) : List (List Nd) → List Int → List Int
  | [], v => v
  | t :: ts, v => byL p ts (cutV (whI p t) v)
theorem byL_okV (p : Prg) : ∀ (ts : List (List Nd)) {v : List Int}, OkV v → OkV (byL p ts v)
  | [], v, h => h
  | t :: ts, v, h => byL_okV p ts (cut_okV h)
theorem byL_len (p : Prg) : ∀ (ts : List (List Nd)) (v : List Int), (byL p ts v).length = v.length
  | [], v => rfl
  | t :: ts, v => by rw [byL, byL_len p ts, cut_len]
theorem byS_loop {k : Nat} (hk : 1000300 ≤ k) {p : Prg} (hs : smallP p = true) (l1 l2 u : List PV) (ts : List (List Nd)) (hl : ts.length ≤ 1000) (ht : ∀ t ∈ ts, t.length ≤ 100) (hkt : ∀ t ∈ ts, kindT p.wide p.vars t = 2) : ∀ (n i : Nat) (v : List Int), ts.length - i < n → i ≤ ts.length → OkV v →
    L69_1 k n (encTT ts) (ts.length : Int) (i : Int) p.wide p.vars l1 l2 u v.length (encZ v) = r69 (encZ (byL p (ts.drop i) v))
  | 0, i, v, h, hi, hv => by omega
  | n + 1, i, v, h, hi, hv => by
    rw [sL69_1, encZ_tk]
    by_cases hlt : i < ts.length
    · have hd : decide ((i : Int) < (ts.length : Int)) = true := by simpa using hlt
      have hnext : IntKind.i64.wrap ((i : Int) + 1) = ((i + 1 : Nat) : Int) := by rw [i64_id (by omega) (by omega)]; omega
      have hm := List.getElem_mem hlt
      rw [hd, lookP_nat, encTT_get, List.getElem?_eq_getElem hlt, drop_cons hlt, hnext]
      simp only [cond_true, Option.map_some, Option.bind_some, row_atRow, byL]
      rw [split_ok hk hs l1 l2 _ (ht _ hm) (hkt _ hm) hv, R44p_enc, encZ_length]
      exact byS_loop hk hs l1 l2 u ts hl ht hkt n (i + 1) _ (by omega) (by omega) (cut_okV hv)
    · have hd : decide ((i : Int) < (ts.length : Int)) = false := by simpa using hlt
      rw [hd, List.drop_eq_nil_of_le (by omega)]
      rfl
def zeros (p : Prg) : List Int := List.replicate (nS p) 0
theorem zeros_okV {p : Prg} (hs : smallP p = true) : OkV (zeros p) := by
  have := (nS_le hs).2
  refine ⟨by simp [zeros]; omega, fun x hx => ?_⟩
  rw [List.eq_of_mem_replicate hx]
  omega
theorem by_ok15 {k : Nat} (hk : 1000400 ≤ k) {p : Prg} (hs : smallP p = true) (l1 l2 : List PV) (ts : List (List Nd)) (hl : ts.length ≤ 1000) (ht : ∀ t ∈ ts, t.length ≤ 100) (hkt : ∀ t ∈ ts, kindT p.wide p.vars t = 2) : c69 k p.wide p.vars l1 l2 (encTT ts) = r69 (encZ (byL p ts (zeros p))) := by
  obtain ⟨k, rfl⟩ : ∃ j, k = j + 1 := ⟨k - 1, by omega⟩
  have hle := nS_le hs
  rw [n69, nSS_ok (by omega) hs]
  simp only [R49_r, Int.toNat_natCast]
  have hg : (((nS p : Int) == (nS p : Int)) && decide ((0 : Int) ≤ (nS p : Int)) && decide (nS p * 8 ≤ LIM) && decide (nS p ≤ LIM)) = true := by
    have q1 : decide (nS p * 8 ≤ LIM) = true := decide_eq_true (by unfold LIM; omega)
    have q2 : decide (nS p ≤ LIM) = true := decide_eq_true (by unfold LIM; omega)
    rw [q1, q2]
    simp
  have hz : (zeros p).length = nS p := by simp [zeros]
  have he : List.replicate (nS p) (PV.int .i64 0) = encZ (zeros p) := by simp [zeros, encZ]
  have := byS_loop (k := k) (by omega) hs l1 l2 [] ts hl ht hkt k 0 (zeros p) (by omega) (by omega) (zeros_okV hs)
  rw [hg, he, encTT_length]
  rw [hz] at this
  exact this
def sbB (p : Prg) (ts : List (List Nd)) : Bool := smallP p && predsOK p ts
theorem sightByS_ok {k : Nat} (hk : 1000500 ≤ k) (p : Prg) (hp : FitP p) (ts : List (List Nd)) (hl : ts.length ≤ 1000) (ht : ∀ t ∈ ts, t.length ≤ 100) : c23 k p.wide p.vars (encT p.start) (encCms p.cmds) (encTT ts) = r23 (encZ (bif sbB p ts then byL p ts (zeros p) else [])) (sbB p ts) := by
  obtain ⟨k, rfl⟩ : ∃ j, k = j + 1 := ⟨k - 1, by omega⟩
  rw [n23, l7Small_ok (by omega) p hp]
  simp only [R48_r, sbB]
  cases hs : smallP p
  · rfl
  simp only [Bool.not_true, cond_false]
  rw [l15Preds_ok (by omega) p _ _ ts hl ht]
  simp only [R65_r]
  cases hq : predsOK p ts
  · rfl
  simp only [Bool.not_true, cond_false, Bool.and_self, cond_true]
  rw [by_ok15 (by omega) hs _ _ ts hl ht (by simp only [predsOK, Bool.and_eq_true] at hq; exact allC_get hq.2)]
  simp only [R69_r, encZ_length, encZ_tk]
/-! ### Cut out, split -/
def coB (p : Prg) (v some1 : List Int) : Bool := gsB p v && incG (v.length : Int) none some1
theorem cutOutS_ok {k : Nat} (hk : 1000500 ≤ k) (p : Prg) (hp : FitP p) {v some1 : List Int} (hv : OkV v) (hs : some1.length ≤ 1000) : c31 k p.wide p.vars (encT p.start) (encCms p.cmds) (encZ v) (encZ some1) = r31 (encZ (bif coB p v some1 then cutV some1 v else [])) (coB p v some1) := by
  obtain ⟨k, rfl⟩ : ∃ j, k = j + 1 := ⟨k - 1, by omega⟩
  have hvl := hv.len
  rw [n31, goodSightS_ok (by omega) p hp v (by omega), encZ_length, i64_id (by omega) (by omega)]
  simp only [R12_r, coB]
  cases hg : gsB p v
  · rfl
  simp only [Bool.not_true, cond_false]
  rw [rise_ok (by omega) some1 (by omega)]
  simp only [R76_r]
  cases hq : incG (v.length : Int) none some1
  · rfl
  simp only [Bool.not_true, cond_false, Bool.and_self, cond_true]
  rw [cut15_ok (by omega) some1 v hs hv]
  simp only [R77_r, encZ_length, encZ_tk]
theorem gs_small {p : Prg} {v : List Int} (h : gsB p v = true) : smallP p = true ∧ goodF v 0 = true ∧ v.length = nS p := by
  simp only [gsB, Bool.and_eq_true, beq_iff_eq] at h
  exact ⟨h.1, h.2.1, by have := h.2.2; omega⟩
/-! ### The meet -/
/-! ### Is one finer? -/
end Go.Proofs.YtfinhnimlmkooaaGreat
/- Sights drawn; splits and meets of the program. -/
set_option linter.unusedVariables false
set_option linter.unusedSimpArgs false
set_option maxRecDepth 4000
namespace Go.Proofs.YtfinhnimlmkooaaGreat
open Go.Dp

theorem byS_okV {p : Prg} {ts : List (List Nd)} : OkV (bif sbB p ts then byL p ts (zeros p) else []) ∧ (bif sbB p ts then byL p ts (zeros p) else []).length ≤ 32 := by
  cases h : sbB p ts
  · exact ⟨⟨by simp, by simp⟩, by simp⟩
  · simp only [sbB, Bool.and_eq_true] at h
    have := (nS_le h.1).2
    refine ⟨byL_okV p ts (zeros_okV h.1), ?_⟩
    simp only [cond_true]
    rw [byL_len]
    simpa [zeros] using this
theorem tail_okV {v : List Int} (hv : OkV v) (h32 : v.length ≤ 32) : OkV (v ++ [0]) ∧ OkV (v.set (v.length - 1) (v.length : Int)) := by
  refine ⟨⟨by simp; omega, fun x hx => ?_⟩, ⟨by simp; omega, fun x hx => ?_⟩⟩
  · rcases List.mem_append.1 hx with h | h
    · exact hv.rng x h
    · rw [List.mem_singleton.1 h]; omega
  · rcases List.mem_or_eq_of_mem_set hx with h | rfl
    · exact hv.rng x h
    · omega
theorem tail_ok {bs : List Nat} (hc : CodeOK bs) {k : Nat} (hk : 2000 ≤ k) {v : List Int} (hv : OkV v) (h32 : v.length ≤ 32) {at' : Int} (h0 : 0 ≤ at') (h1 : at' ≤ 600000000) (s : W) :
    ∃ a2 s2 w, (R89 (c89 k 40 (encB bs) at' (wi s)) fun l8 v7 v8 v9 =>
   bif (v9 == 0) then
    bif decide (((encZ v).length + 1) * 8 ≤ LIM) && decide ((encZ v).length + 1 ≤ LIM) then
     r39 l8 v7 v8 ((((encZ v).take (encZ v).length) ++ [PV.int .i64 0]).take ((encZ v).length + 1))
    else none
   else
    bif (v9 == 1) then
     bif decide (((encZ v).length : Int) > 0) then
      bif decide ((0 : Int) ≤ IntKind.i64.wrap (((encZ v).length : Int) - 1)) && decide (IntKind.i64.wrap (((encZ v).length : Int) - 1) < ((encZ v).length : Int)) then
       ((encZ v)[0 + ((IntKind.i64.wrap (((encZ v).length : Int) - 1)).toNat)]?).bind fun p4 =>
       r39 l8 v7 v8 (((encZ v).set (0 + ((IntKind.i64.wrap (((encZ v).length : Int) - 1)).toNat)) (PV.int .i64 ((encZ v).length : Int))).take (encZ v).length)
      else none
     else r39 l8 v7 v8 ((encZ v).take (encZ v).length)
    else r39 l8 v7 v8 ((encZ v).take (encZ v).length)) = r39 (encB bs) a2 (wi s2) (encZ w) ∧ at' ≤ a2 ∧ a2 ≤ at' + 2 ∧ OkV w := by
  obtain ⟨a2, s2, x, h, h2, h3, _⟩ := pick_ok hc (k := k) (by omega) h0 (by omega) s 40
  obtain ⟨t1, t2⟩ := tail_okV hv h32
  rw [h]
  simp only [R89_r, encZ_length, encZ_tk]
  cases (x == 0)
  · simp only [cond_false]
    cases (x == 1)
    · exact ⟨a2, s2, v, rfl, by omega, by omega, hv⟩
    · simp only [cond_true]
      by_cases hl : 0 < v.length
      · have e1 : decide ((v.length : Int) > 0) = true := decide_eq_true (by omega)
        have ew : IntKind.i64.wrap ((v.length : Int) - 1) = ((v.length - 1 : Nat) : Int) := by rw [i64_id (by omega) (by omega)]; omega
        have eg : (decide ((0 : Int) ≤ ((v.length - 1 : Nat) : Int)) && decide (((v.length - 1 : Nat) : Int) < (v.length : Int))) = true := by
          rw [decide_eq_true (by omega), decide_eq_true (by omega)]; rfl
        have hg : (encZ v)[0 + (((v.length - 1 : Nat) : Int)).toNat]? = some (.int .i64 (v[v.length - 1]'(by omega))) := by
          rw [Nat.zero_add, Int.toNat_natCast, encZ_get, List.getElem?_eq_getElem (by omega)]
          rfl
        rw [e1, ew, eg, hg]
        simp only [cond_true, Option.bind_some, Nat.zero_add, Int.toNat_natCast]
        rw [encZ_set, List.take_of_length_le (by simp)]
        exact ⟨a2, s2, _, rfl, by omega, by omega, t2⟩
      · have e1 : decide ((v.length : Int) > 0) = false := decide_eq_false (by omega)
        rw [e1]
        exact ⟨a2, s2, v, rfl, by omega, by omega, hv⟩
  · simp only [cond_true]
    rw [lim_ok (by omega) (by omega), encZ_snoc, List.take_of_length_le (by simp)]
    exact ⟨a2, s2, _, rfl, by omega, by omega, t1⟩
theorem sight_ok {bs : List Nat} (hc : CodeOK bs) {k : Nat} (hk : 1001000 ≤ k) {p : Prg} (hp : FitP p) {at' : Int} (h0 : 0 ≤ at') (h1 : at' ≤ 400000000) (s : W) :
    ∃ a2 s2 v, c39 k p.wide p.vars (encT p.start) (encCms p.cmds) (encB bs) at' (wi s) = r39 (encB bs) a2 (wi s2) (encZ v) ∧ at' ≤ a2 ∧ a2 ≤ at' + 50000 ∧ OkV v := by
  obtain ⟨k, rfl⟩ : ∃ j, k = j + 1 := ⟨k - 1, by omega⟩
  have hw := hp.w
  have hv := hp.v
  rw [n39]
  obtain ⟨a2, s2, ts, h, h2, h3, h4, h5⟩ := preds_ok hc (k := k) (by omega) (wide := p.wide) (vars := p.vars) (by omega) (by omega) (encT p.start) (encCms p.cmds) 3 (by omega) (by omega) h0 (by omega) s
  rw [h]
  simp only [R59_r]
  rw [sightByS_ok (by omega) p hp ts (by omega) h5]
  simp only [R23_r]
  obtain ⟨hk0, hl0⟩ := byS_okV (p := p) (ts := ts)
  generalize (bif sbB p ts then byL p ts (zeros p) else []) = v at hk0 hl0 ⊢
  obtain ⟨a3, s3, b, h, h6, h7⟩ := one_ok hc (k := k) (by omega) (at' := a2) (by omega) (by omega) s2 3
  rw [h]
  simp only [R78_r]
  cases b
  · simp only [cond_false]
    obtain ⟨a4, s4, w, h, h8, h9, h10⟩ := tail_ok hc (k := k) (by omega) hk0 hl0 (at' := a3) (by omega) (by omega) s3
    exact ⟨a4, s4, w, h, by omega, by omega, h10⟩
  · simp only [cond_true]
    obtain ⟨a4, s4, so, h, h8, h9, h10⟩ := someOf_ok hc (k := k) (by omega) 4 3 (by omega) (by omega) (at' := a3) (by omega) (by omega) s3
    rw [h]
    simp only [R73_r]
    rw [encZ_length, encZ_tk, cutOutS_ok (by omega) p hp hk0 (by omega), R31p_enc]
    cases hco : coB p v so
    · simp only [cond_false]
      obtain ⟨a5, s5, w, h, h11, h12, h13⟩ := tail_ok hc (k := k) (by omega) hk0 hl0 (at' := a4) (by omega) (by omega) s4
      rw [encZ_length, encZ_tk] at h
      exact ⟨a5, s5, w, h, by omega, by omega, h13⟩
    · simp only [cond_true]
      obtain ⟨a5, s5, w, h, h11, h12, h13⟩ := tail_ok hc (k := k) (by omega) (cut_okV (some1 := so) hk0) (by rw [cut_len]; exact hl0) (at' := a4) (by omega) (by omega) s4
      exact ⟨a5, s5, w, h, by omega, by omega, h13⟩
/-! ### The program's meets, splits and classes -/
end Go.Proofs.YtfinhnimlmkooaaGreat
/- Terms as trees. -/
set_option linter.unusedVariables false
set_option linter.unusedSimpArgs false
set_option maxRecDepth 4000
namespace Go.Proofs.YtfinhnimlmkooaaGreat
open Go.Dp

inductive Tr where
  | leaf (x : Nd)
  | un (x : Nd) (a : Tr)
  | bin (x : Nd) (a b : Tr)
def Tr.root : Tr → Nd
  | .leaf x => x
  | .un x _ => x
  | .bin x _ _ => x
def Tr.flat : Tr → List Nd
  | .leaf x => [x]
  | .un x a => a.flat ++ [x]
  | .bin x a b => a.flat ++ b.flat ++ [x]
def Tr.kind (T : Tr) : Int := (need T.root.1).2.2
def Tr.ok (wide vars : Int) : Tr → Prop
  | .leaf x => (need x.1).1 = 0 ∧ (need x.1).2.2 ≠ 0 ∧ leafOK wide vars x = true
  | .un x a => (need x.1).1 = 1 ∧ (need x.1).2.2 ≠ 0 ∧ leafOK wide vars x = true ∧ a.kind = (need x.1).2.1 ∧ a.ok wide vars
  | .bin x a b => (need x.1).1 = 2 ∧ (need x.1).2.2 ≠ 0 ∧ leafOK wide vars x = true ∧ a.kind = (need x.1).2.1 ∧ b.kind = (need x.1).2.1 ∧ a.ok wide vars ∧ b.ok wide vars
/-! ### Values -/
def Tr.val (wide : Int) (s : List W) : Tr → W
  | .leaf x => if x.1 = 2 then (s[x.2.toNat]?).getD 0#64 else x.2
  | .un x a => if x.1 = 13 then (~~~(a.val wide s) &&& mk wide) else 1#64 - a.val wide s
  | .bin x a b => apW wide x.1 (a.val wide s) (b.val wide s)
def Tr.inS (s : List W) : Tr → Prop
  | .leaf x => x.1 = 2 → x.2.toNat < s.length
  | .un _ a => a.inS s
  | .bin _ a b => a.inS s ∧ b.inS s
theorem need_leaf {op : Int} (h0 : (need op).2.2 ≠ 0) (h : (need op).1 = 0) : op = 1 ∨ op = 20 ∨ op = 2 := by
  rcases need_cases h0 with ⟨c, _⟩ | ⟨c, _⟩ | ⟨_, c⟩ | ⟨_, _, _, _, _, c⟩
  · rcases c with c | c <;> simp [c]
  · simp [c]
  · omega
  · omega
theorem need_un {op : Int} (h0 : (need op).2.2 ≠ 0) (h : (need op).1 = 1) : op = 13 ∨ op = 19 := by
  rcases need_cases h0 with ⟨_, c⟩ | ⟨_, c⟩ | ⟨c, _⟩ | ⟨_, _, _, _, _, c⟩
  · omega
  · omega
  · exact c
  · omega
theorem Tr.val_ok {wide vars : Int} (hw : isW wide = true) (hv : isV vars = true) {s : List W} (hg : ∀ a ∈ s, a ≤ mk wide) : ∀ (T : Tr), T.ok wide vars → okV wide T.kind (T.val wide s)
  | .leaf x, h => by
    obtain ⟨h1, h2, h3⟩ := h
    have hl := leaf_run hv h3
    rcases need_leaf h2 h1 with c | c | c
    · refine .inl ⟨by simp only [Tr.kind, Tr.root]; rw [c]; decide, ?_⟩
      simp only [Tr.val]
      rw [if_neg (by omega)]
      exact hl.1 c
    · refine .inr ⟨by simp only [Tr.kind, Tr.root]; rw [c]; decide, ?_⟩
      simp only [Tr.val]
      rw [if_neg (by omega)]
      exact hl.2.1 c
    · refine .inl ⟨by simp only [Tr.kind, Tr.root]; rw [c]; decide, ?_⟩
      simp only [Tr.val]
      rw [if_pos c]
      cases hq : s[x.2.toNat]? with
      | none => rw [Option.getD_none, BitVec.le_def]; exact Nat.zero_le _
      | some a => exact hg a (List.mem_of_getElem? hq)
  | .un x a, h => by
    obtain ⟨h1, h2, h3, h4, h5⟩ := h
    have ih := Tr.val_ok hw hv hg a h5
    rcases need_un h2 h1 with c | c
    · refine .inl ⟨by simp only [Tr.kind, Tr.root]; rw [c]; decide, ?_⟩
      simp only [Tr.val]
      rw [if_pos c]
      exact and_le_right' _ _
    · refine .inr ⟨by simp only [Tr.kind, Tr.root]; rw [c]; decide, ?_⟩
      simp only [Tr.val]
      rw [if_neg (by omega)]
      have hk : a.kind = 2 := by rw [h4, c]; decide
      rw [hk] at ih
      rcases le_one_cases (okV_two ih) with e | e <;> rw [e] <;> decide
  | .bin x a b, h => by
    obtain ⟨h1, h2, h3, h4, h5, h6, h7⟩ := h
    have ia := Tr.val_ok hw hv hg a h6
    have ib := Tr.val_ok hw hv hg b h7
    rw [h4] at ia
    rw [h5] at ib
    exact apW_ok hw h1 ia ib
end Go.Proofs.YtfinhnimlmkooaaGreat
/- Folding: the plain laws. -/
set_option linter.unusedVariables false
set_option linter.unusedSimpArgs false
set_option maxRecDepth 4000
namespace Go.Proofs.YtfinhnimlmkooaaGreat
open Go.Dp

end Go.Proofs.YtfinhnimlmkooaaGreat
/- Folding: the functions. -/
set_option linter.unusedVariables false
set_option linter.unusedSimpArgs false
set_option maxRecDepth 4000
namespace Go.Proofs.YtfinhnimlmkooaaGreat
open Go.Dp

theorem w1 : IntKind.i64.wrap ((1 : Int) - 1) = 0 := (i64_id (by omega) (by omega)).trans (by omega)
end Go.Proofs.YtfinhnimlmkooaaGreat
/- FnFolded: folding's functions and the law. -/
set_option linter.unusedVariables false
set_option linter.unusedSimpArgs false
set_option maxRecDepth 4000
namespace Go.Proofs.YtfinhnimlmkooaaGreat
open Go.Dp

end Go.Proofs.YtfinhnimlmkooaaGreat
/- FnFolded: the law. -/
set_option linter.unusedVariables false
set_option linter.unusedSimpArgs false
set_option maxRecDepth 4000
namespace Go.Proofs.YtfinhnimlmkooaaGreat
open Go.Dp

end Go.Proofs.YtfinhnimlmkooaaGreat
/- Steps between numbered states. -/
set_option linter.unusedVariables false
set_option linter.unusedSimpArgs false
set_option maxRecDepth 4000
namespace Go.Proofs.YtfinhnimlmkooaaGreat
open Go.Dp

/-! ### Where a command leads -/
def aft (p : Prg) (c : Cmd) (no : Int) : List W := afterS p.wide (sto p no) c.ch (sto p no)
def toN (p : Prg) (c : Cmd) (no : Int) : Int := (noOf (pw p) (aft p c no) : Nat)
theorem toN_ok {p : Prg} (hp : FitP p) (hs : smallP p = true) {k1 : Int} (hn : cnoOK p k1 = true) {no : Int} (hi : inS p no) : stOK p (aft p (cmdAt p k1) no) = true ∧ inS p (toN p (cmdAt p k1) no) ∧ sto p (toN p (cmdAt p k1) no) = aft p (cmdAt p k1) no := by
  obtain ⟨hw, hv, _, _, _, _, hx⟩ := good_cmd hp (k1 := k1) (by simp [tOK, small_good hs, hn])
  obtain ⟨h1, h2⟩ := (stOK_of hw).1 (sto_ok hs hi)
  have h3 : stOK p (aft p (cmdAt p k1) no) = true := (stOK_of hw).2 ⟨by rw [aft, afterS_length]; exact h1, afterS_all h1 h2 _ _ (fun x h => (hx x h).2.2) h2⟩
  exact ⟨h3, no_inS hs h3⟩
theorem doN_ok {k : Nat} (hk : 1000020 ≤ k) {p : Prg} (hp : FitP p) (hs : smallP p = true) {k1 : Int} (hn : cnoOK p k1 = true) (l1 : List PV) {no : Int} (hi : inS p no) : c155 k p.wide p.vars l1 (encCms p.cmds) (encW (sto p no)) k1 = r155 (encW (aft p (cmdAt p k1) no)) := by
  obtain ⟨k, rfl⟩ : ∃ j, k = j + 1 := ⟨k - 1, by omega⟩
  obtain ⟨hw, hv, _, _, hf, _, hx⟩ := good_cmd hp (k1 := k1) (by simp [tOK, small_good hs, hn])
  have hso := sto_ok hs hi
  obtain ⟨h1, h2⟩ := (stOK_of hw).1 hso
  have hsl := st_len hp hso
  have hfc := hf.ch
  obtain ⟨hget, hm⟩ := cmdAt_get hn
  rw [n155, hget, encW_length, lim_ok (by omega) (by omega)]
  simp only [cond_true, Option.bind_some, encCm_ch, encChs_length, List.nil_append, Nat.zero_add]
  have := do_loop (k := k) (by omega) p hw l1 (encCms p.cmds) _ h1 h2 (cmdAt p k1).ch (by omega) (fun x h => ⟨(hx x h).1, (hx x h).2.1, (hx x h).2.2, hf.by1 x h⟩) k 0 _ (by omega) (by omega) rfl
  exact this
end Go.Proofs.YtfinhnimlmkooaaGreat
/- The states that one step reaches: both sides; those of many states, the reference's reachable ones. -/
set_option linter.unusedVariables false
set_option linter.unusedSimpArgs false
set_option maxRecDepth 4000
namespace Go.Proofs.YtfinhnimlmkooaaGreat
open Go.Dp

/-! ### Successors -/
def sucL (p : Prg) (no : Int) : List Cmd → List Int
  | [] => []
  | c :: l => (bif hN p c.wh no then [toN p c no] else []) ++ sucL p no l
theorem sucL_len (p : Prg) (no : Int) : ∀ l : List Cmd, (sucL p no l).length ≤ l.length
  | [] => by simp [sucL]
  | c :: l => by
    have := sucL_len p no l
    simp only [sucL, List.length_append, List.length_cons]
    cases hN p c.wh no <;> simp <;> omega
theorem sucL_mem (p : Prg) (no : Int) : ∀ (l : List Cmd) (y : Int), y ∈ sucL p no l ↔ ∃ c ∈ l, hN p c.wh no = true ∧ y = toN p c no
  | [], y => by simp [sucL]
  | c :: l, y => by
    simp only [sucL, List.mem_append, sucL_mem p no l y]
    cases hh : hN p c.wh no <;> simp [hh]
def nxL (p : Prg) (no : Int) : List Int := bif (sucL p no p.cmds).isEmpty then [no] else canI (sucL p no p.cmds)
theorem canI_nil' {l : List Int} (h : l ≠ []) : canI l ≠ [] := by
  intro h2
  obtain ⟨x, hx⟩ := List.exists_mem_of_ne_nil _ h
  have := ((canI_spec l).2 x).2 hx
  rw [h2] at this
  cases this
theorem cmd_at {p : Prg} {i : Nat} (h : i < p.cmds.length) : cmdAt p (i : Int) = p.cmds[i] ∧ cnoOK p (i : Int) = true := by
  refine ⟨?_, by simp [cnoOK, h]⟩
  unfold cmdAt
  rw [Int.toNat_natCast, List.getElem?_eq_getElem h]
  rfl
theorem nxL_mem {p : Prg} {no y : Int} : y ∈ nxL p no ↔ (∃ c ∈ p.cmds, hN p c.wh no = true ∧ y = toN p c no) ∨ ((∀ c ∈ p.cmds, hN p c.wh no = false) ∧ y = no) := by
  unfold nxL
  cases he : (sucL p no p.cmds).isEmpty
  · have hne : sucL p no p.cmds ≠ [] := by intro h; rw [h] at he; cases he
    simp only [cond_false]
    rw [(canI_spec _).2 y, sucL_mem]
    constructor
    · exact .inl
    · rintro (h | ⟨h, _⟩)
      · exact h
      · obtain ⟨x, hx⟩ := List.exists_mem_of_ne_nil _ hne
        obtain ⟨c, hc, h2, _⟩ := (sucL_mem p no p.cmds x).1 hx
        rw [h c hc] at h2
        cases h2
  · have hnil : sucL p no p.cmds = [] := by simpa using he
    simp only [cond_true, List.mem_singleton]
    have hno : ∀ c ∈ p.cmds, hN p c.wh no = false := by
      intro c hc
      cases hh : hN p c.wh no
      · rfl
      · have : toN p c no ∈ sucL p no p.cmds := (sucL_mem p no p.cmds _).2 ⟨c, hc, hh, rfl⟩
        rw [hnil] at this
        cases this
    constructor
    · exact fun h => .inr ⟨hno, h⟩
    · rintro (⟨c, hc, h2, _⟩ | ⟨_, h⟩)
      · rw [hno c hc] at h2; cases h2
      · exact h
theorem nxL_len {p : Prg} (hp : FitP p) (no : Int) : (nxL p no).length ≤ 6 := by
  have hcm := hp.cm
  unfold nxL
  cases (sucL p no p.cmds).isEmpty
  · have h1 := canI_len (sucL p no p.cmds)
    have h2 := sucL_len p no p.cmds
    simp only [cond_false]; omega
  · simp
theorem nxL_in {p : Prg} (hp : FitP p) (hs : smallP p = true) {no : Int} (hi : inS p no) : ∀ y ∈ nxL p no, inS p y := by
  intro y hy
  rcases nxL_mem.1 hy with ⟨c, hc, _, rfl⟩ | ⟨_, rfl⟩
  · obtain ⟨i, hil, rfl⟩ := List.getElem_of_mem hc
    obtain ⟨e, hn⟩ := cmd_at hil
    rw [← e]
    exact (toN_ok hp hs hn hi).2.1
  · exact hi
theorem sucE (p : Prg) (no : Int) : ∀ (i : Nat), i ≤ p.cmds.length → (enL p (sto p no) i (p.cmds.drop i)).map (fun j => toN p (cmdAt p j) no) = sucL p no (p.cmds.drop i) := by
  intro i hi
  generalize hm : p.cmds.length - i = m
  induction m generalizing i with
  | zero => rw [List.drop_eq_nil_of_le (by omega)]; rfl
  | succ m ih =>
    have hlt : i < p.cmds.length := by omega
    rw [drop_cons hlt]
    simp only [enL, sucL, List.map_append, ih (i + 1) (by omega) (by omega)]
    congr 1
    obtain ⟨e, _⟩ := cmd_at hlt
    change (bif hN p p.cmds[i].wh no then [(i : Int)] else []).map _ = _
    cases hN p p.cmds[i].wh no
    · rfl
    · simp [e]
theorem nextS_loop {k : Nat} (hk : 1000100 ≤ k) {p : Prg} (hp : FitP p) (hs : smallP p = true) {no : Int} (hi : inS p no) (l1 : List PV) (en : List Int) (hen : en.length ≤ 100) (hin : ∀ j ∈ en, cnoOK p j = true) : ∀ (n i : Nat) (o : List Int), en.length - i < n → i ≤ en.length → o.length ≤ i →
    L115_1 k n no (encW (sto p no)) o.length (encZ en) (en.length : Int) (i : Int) p.wide p.vars l1 (encCms p.cmds) (encZ o) = r115 (encZ (bif (putAllI o ((en.drop i).map fun j => toN p (cmdAt p j) no)).isEmpty then [no] else putAllI o ((en.drop i).map fun j => toN p (cmdAt p j) no)))
  | 0, i, o, h, hj, ho => by omega
  | n + 1, i, o, h, hj, ho => by
    have etk : (encZ o).take o.length = encZ o := by rw [List.take_of_length_le (by simp)]
    rw [sL115_1, etk]
    by_cases hlt : i < en.length
    · have hd : decide ((i : Int) < (en.length : Int)) = true := by simpa using hlt
      have hnext : IntKind.i64.wrap ((i : Int) + 1) = ((i + 1 : Nat) : Int) := by rw [i64_id (by omega) (by omega)]; omega
      have hn := hin _ (List.getElem_mem hlt)
      rw [hd, encZ_lookup hlt, drop_cons hlt, hnext]
      simp only [cond_true, Option.bind_some, int_atInt, List.map_cons]
      rw [doN_ok (by omega) hp hs hn _ hi]
      simp only [R155_r]
      rw [noS_ok (by omega) hs _ _ (toN_ok hp hs hn hi).1]
      simp only [R154_r]
      rw [l1Put_ok (by omega) o (by omega)]
      simp only [R106_r, encZ_length]
      have hpl := putI_len o (toN p (cmdAt p en[i]) no)
      exact nextS_loop hk hp hs hi l1 en hen hin n (i + 1) (putI o (toN p (cmdAt p en[i]) no)) (by omega) (by omega) (by omega)
    · have hd : decide ((i : Int) < (en.length : Int)) = false := by simpa using hlt
      have ed : en.drop i = [] := List.drop_eq_nil_of_le (by omega)
      rw [hd, ed]
      cases o with
      | nil => rfl
      | cons x o =>
        have e0 : (((x :: o).length : Int) == 0) = false := by simp; omega
        rw [e0]
        rfl
theorem nextS_ok {k : Nat} (hk : 1000200 ≤ k) {p : Prg} (hp : FitP p) (hs : smallP p = true) {no : Int} (hi : inS p no) (l1 : List PV) : c115 k p.wide p.vars l1 (encCms p.cmds) no = r115 (encZ (nxL p no)) := by
  obtain ⟨k, rfl⟩ : ∃ j, k = j + 2 := ⟨k - 2, by omega⟩
  have hcm := hp.cm
  rw [n115, stoS_ok (by omega) hs _ _ hi]
  simp only [R67_r]
  have hen := enabledS_loop (k := k) (by omega) p hp (small_good hs) (sto p no) (sto_ok hs hi) l1 (encCms p.cmds) k 0 [] (by omega) (by omega) (by simp)
  rw [n153, encCms_length]
  have hen' : L153_1 k k (encW (sto p no)) 0 (encCms p.cmds) (p.cmds.length : Int) 0 p.wide p.vars l1 (encCms p.cmds) [] = _ := hen
  rw [hen']
  simp only [R153_r, List.nil_append, encZ_length]
  have hmem : ∀ j ∈ enL p (sto p no) 0 p.cmds, cnoOK p j = true := by
    intro j hj
    obtain ⟨q, c, hq, _, rfl⟩ := (enL_mem p (sto p no) p.cmds 0 j).1 hj
    have := (List.getElem?_eq_some_iff.1 hq).1
    simp [cnoOK, this]
  have hsl := sucL_len p no p.cmds
  have he := sucE p no 0 (by omega)
  rw [List.drop_zero] at he
  have hel : (enL p (sto p no) 0 p.cmds).length ≤ 100 := by
    have := congrArg List.length he
    rw [List.length_map] at this
    omega
  have := nextS_loop (k := k + 1) (by omega) hp hs hi l1 _ hel hmem (k + 1) 0 [] (by omega) (by omega) (by simp)
  rw [List.drop_zero, he] at this
  have h' : L115_1 (k + 1) (k + 1) no (encW (sto p no)) 0 (encZ (enL p (sto p no) 0 (p.cmds.drop 0))) ((enL p (sto p no) 0 (p.cmds.drop 0)).length : Int) 0 p.wide p.vars l1 (encCms p.cmds) [] = _ := this
  rw [h', ← canI_put (l := sucL p no p.cmds) (m := sucL p no p.cmds) (fun x => Iff.rfl)]
  congr 2
  unfold nxL
  cases hq : (sucL p no p.cmds).isEmpty
  · have hne : sucL p no p.cmds ≠ [] := by intro h; rw [h] at hq; cases hq
    have : (canI (sucL p no p.cmds)).isEmpty = false := by
      cases hc : canI (sucL p no p.cmds) with
      | nil => exact absurd hc (canI_nil' hne)
      | cons => rfl
    rw [this]
  · have hnil : sucL p no p.cmds = [] := by simpa using hq
    rw [hnil, show canI ([] : List Int) = [] from List.eq_nil_of_length_eq_zero (Nat.le_zero.1 (canI_len []))]
    rfl
end Go.Proofs.YtfinhnimlmkooaaGreat
/- The reference's reachable states. -/
set_option linter.unusedVariables false
set_option linter.unusedSimpArgs false
set_option maxRecDepth 4000
namespace Go.Proofs.YtfinhnimlmkooaaGreat
open Go.Dp

/-! ### Increasing lists -/
theorem lt_room : ∀ (l : List Int) (lo hi : Int), l.Pairwise (· < ·) → (∀ x ∈ l, lo ≤ x ∧ x < hi) → (l.length : Int) ≤ max 0 (hi - lo)
  | [], lo, hi, _, _ => by simp; omega
  | x :: l, lo, hi, h, hb => by
    have hx := hb x (by simp)
    have h1 := List.pairwise_cons.1 h
    have := lt_room l (x + 1) hi h1.2 fun y hy => ⟨by have := h1.1 y hy; omega, (hb y (by simp [hy])).2⟩
    simp only [List.length_cons]
    omega
theorem in_room {p : Prg} (hs : smallP p = true) {l : List Int} (hl : l.Pairwise (· < ·)) (hi : ∀ x ∈ l, inS p x) : l.length ≤ 32 := by
  have h1 := lt_room l 0 (nS p : Int) hl fun x hx => hi x hx
  have h2 := (nS_le hs).2
  omega
theorem lt_sub : ∀ {a b : List Int}, a.Pairwise (· < ·) → b.Pairwise (· < ·) → (∀ x ∈ a, x ∈ b) → a.Sublist b
  | [], b, _, _, _ => List.nil_sublist b
  | x :: a, [], _, _, h => by have := h x (by simp); cases this
  | x :: a, y :: b, ha, hb, h => by
    have h1 := List.pairwise_cons.1 ha
    have h2 := List.pairwise_cons.1 hb
    by_cases he : x = y
    · subst he
      refine (lt_sub h1.2 h2.2 fun z hz => ?_).cons_cons x
      rcases List.mem_cons.1 (h z (by simp [hz])) with rfl | h3
      · have := h1.1 z hz; omega
      · exact h3
    · have hxy : x ∈ b := by
        rcases List.mem_cons.1 (h x (by simp)) with h3 | h3
        · exact absurd h3 he
        · exact h3
      have hlt := h2.1 x hxy
      refine (lt_sub ha h2.2 fun z hz => ?_).cons y
      rcases List.mem_cons.1 (h z hz) with rfl | h3
      · rcases List.mem_cons.1 hz with h4 | h4
        · omega
        · have := h1.1 _ h4; omega
      · exact h3
theorem lt_same {a b : List Int} (ha : a.Pairwise (· < ·)) (hb : b.Pairwise (· < ·)) (h : ∀ x ∈ a, x ∈ b) (hl : b.length = a.length) : a = b :=
  (lt_sub ha hb h).eq_of_length hl.symm
/-! ### Many states' successors -/
def aftAll (p : Prg) : List Int → List Int
  | [] => []
  | x :: l => nxL p x ++ aftAll p l
theorem aftAll_mem (p : Prg) : ∀ (l : List Int) (y : Int), y ∈ aftAll p l ↔ ∃ x ∈ l, y ∈ nxL p x
  | [], y => by simp [aftAll]
  | x :: l, y => by simp [aftAll, aftAll_mem p l y]
theorem aftAll_len {p : Prg} (hp : FitP p) : ∀ l : List Int, (aftAll p l).length ≤ 6 * l.length
  | [] => by simp [aftAll]
  | x :: l => by
    have h1 := aftAll_len hp l
    have h2 := nxL_len hp x
    simp only [aftAll, List.length_append, List.length_cons]
    omega
theorem after_loop2 {k : Nat} (hk : 1000100 ≤ k) (p : Prg) (l1 l2 : List PV) (n1 : Nat) (t10 : List PV) (t11 : Int) (i : Nat) (l : List Int) (hl : l.length ≤ 100) : ∀ (n j : Nat) (o : List Int), l.length - j < n → j ≤ l.length → o.length ≤ 700 + j →
    L116_2 k n1 n o.length t10 t11 (i : Int) (encZ l) (l.length : Int) (j : Int) p.wide p.vars l1 l2 (encZ o) = L116_1 k n1 (putAllI o (l.drop j)).length t10 t11 (IntKind.i64.wrap ((i : Int) + 1)) p.wide p.vars l1 l2 (encZ (putAllI o (l.drop j)))
  | 0, j, o, hn, hj, ho => by omega
  | n + 1, j, o, hn, hj, ho => by
    have etk : (encZ o).take o.length = encZ o := by rw [List.take_of_length_le (by simp)]
    rw [sL116_2]
    by_cases hlt : j < l.length
    · have hd : decide ((j : Int) < (l.length : Int)) = true := by simpa using hlt
      have hnext : IntKind.i64.wrap ((j : Int) + 1) = ((j + 1 : Nat) : Int) := by rw [i64_id (by omega) (by omega)]; omega
      rw [hd, encZ_lookup hlt, drop_cons hlt, hnext, etk]
      simp only [cond_true, Option.bind_some, int_atInt]
      rw [l1Put_ok (by omega) o (by omega)]
      simp only [R106_r, encZ_length]
      have hpl := putI_len o l[j]
      exact after_loop2 hk p l1 l2 n1 t10 t11 i l hl n (j + 1) (putI o l[j]) (by omega) (by omega) (by omega)
    · have hd : decide ((j : Int) < (l.length : Int)) = false := by simpa using hlt
      rw [hd, List.drop_eq_nil_of_le (by omega)]
      rfl
theorem after_loop1 {k : Nat} (hk : 1000300 ≤ k) {p : Prg} (hp : FitP p) (hs : smallP p = true) (l1 : List PV) (l : List Int) (hl : l.length ≤ 100) (hin : ∀ x ∈ l, inS p x) : ∀ (n i : Nat) (o : List Int), l.length - i < n → i ≤ l.length → o.length ≤ 6 * i →
    L116_1 k n o.length (encZ l) (l.length : Int) (i : Int) p.wide p.vars l1 (encCms p.cmds) (encZ o) = r116 (encZ (putAllI o (aftAll p (l.drop i))))
  | 0, i, o, hn, hi, ho => by omega
  | n + 1, i, o, hn, hi, ho => by
    have etk : (encZ o).take o.length = encZ o := by rw [List.take_of_length_le (by simp)]
    rw [sL116_1]
    by_cases hlt : i < l.length
    · have hd : decide ((i : Int) < (l.length : Int)) = true := by simpa using hlt
      have hnext : IntKind.i64.wrap ((i : Int) + 1) = ((i + 1 : Nat) : Int) := by rw [i64_id (by omega) (by omega)]; omega
      have hx := hin _ (List.getElem_mem hlt)
      rw [hd, encZ_lookup hlt, drop_cons hlt]
      simp only [cond_true, Option.bind_some, int_atInt]
      rw [nextS_ok (by omega) hp hs hx]
      simp only [R115_r, encZ_length]
      have hnl := nxL_len hp l[i]
      have h2 := after_loop2 (k := k) (by omega) p l1 (encCms p.cmds) n (encZ l) (l.length : Int) i (nxL p l[i]) (by omega) k 0 o (by omega) (by omega) (by omega)
      have h' : L116_2 k n k o.length (encZ l) (l.length : Int) (i : Int) (encZ (nxL p l[i])) ((nxL p l[i]).length : Int) 0 p.wide p.vars l1 (encCms p.cmds) (encZ o) = _ := h2
      rw [h', hnext, List.drop_zero, aftAll, putAllI_app]
      have hpl := putAllI_len (nxL p l[i]) o
      exact after_loop1 hk hp hs l1 l hl hin n (i + 1) _ (by omega) (by omega) (by omega)
    · have hd : decide ((i : Int) < (l.length : Int)) = false := by simpa using hlt
      rw [hd, List.drop_eq_nil_of_le (by omega), etk]
      rfl
theorem l8After_ok {k : Nat} (hk : 1000400 ≤ k) {p : Prg} (hp : FitP p) (hs : smallP p = true) (l1 : List PV) (l : List Int) (hl : l.length ≤ 100) (hin : ∀ x ∈ l, inS p x) : c116 k p.wide p.vars l1 (encCms p.cmds) (encZ l) = r116 (encZ (putAllI [] (aftAll p l))) := by
  obtain ⟨k, rfl⟩ : ∃ j, k = j + 1 := ⟨k - 1, by omega⟩
  rw [n116, encZ_length]
  exact after_loop1 (k := k) (by omega) hp hs l1 l hl hin k 0 [] (by omega) (by omega) (by simp)
theorem own_ok {k : Nat} (hk : 1 ≤ k) (l : List Int) (hl : l.length ≤ 1000) : c173 k (encZ l) = r173 (encZ l) := by
  obtain ⟨k, rfl⟩ : ∃ j, k = j + 1 := ⟨k - 1, by omega⟩
  rw [n173, encZ_length, Nat.zero_add, lim_ok (by omega) (by omega), List.nil_append, List.take_of_length_le (by simp)]
  rfl
theorem union_loop {k : Nat} (hk : 1000100 ≤ k) (b : List Int) (hb : b.length ≤ 400) : ∀ (n i : Nat) (o : List Int), b.length - i < n → i ≤ b.length → o.length ≤ 400 + i →
    L161_1 k n o.length (encZ b) (b.length : Int) (i : Int) (encZ o) = r161 (encZ (putAllI o (b.drop i)))
  | 0, i, o, hn, hi, ho => by omega
  | n + 1, i, o, hn, hi, ho => by
    have etk : (encZ o).take o.length = encZ o := by rw [List.take_of_length_le (by simp)]
    rw [sL161_1, etk]
    by_cases hlt : i < b.length
    · have hd : decide ((i : Int) < (b.length : Int)) = true := by simpa using hlt
      have hnext : IntKind.i64.wrap ((i : Int) + 1) = ((i + 1 : Nat) : Int) := by rw [i64_id (by omega) (by omega)]; omega
      rw [hd, encZ_lookup hlt, drop_cons hlt, hnext]
      simp only [cond_true, Option.bind_some, int_atInt]
      rw [l1Put_ok (by omega) o (by omega)]
      simp only [R106_r, encZ_length]
      have hpl := putI_len o b[i]
      exact union_loop hk b hb n (i + 1) (putI o b[i]) (by omega) (by omega) (by omega)
    · have hd : decide ((i : Int) < (b.length : Int)) = false := by simpa using hlt
      rw [hd, List.drop_eq_nil_of_le (by omega)]
      rfl
theorem union_ok {k : Nat} (hk : 1000200 ≤ k) (a b : List Int) (ha : a.length ≤ 400) (hb : b.length ≤ 400) : c161 k (encZ a) (encZ b) = r161 (encZ (putAllI a b)) := by
  obtain ⟨k, rfl⟩ : ∃ j, k = j + 1 := ⟨k - 1, by omega⟩
  rw [n161, own_ok (by omega) a (by omega)]
  simp only [R173_r, encZ_length]
  exact union_loop (k := k) (by omega) b hb k 0 a (by omega) (by omega) (by omega)
/-! ### The reachable states -/
def grow (p : Prg) (o : List Int) : List Int := putAllI o (putAllI [] (aftAll p o))
theorem grow_spec {p : Prg} {o : List Int} (ho : o.Pairwise (· < ·)) : (grow p o).Pairwise (· < ·) ∧ ∀ x, x ∈ grow p o ↔ x ∈ o ∨ ∃ y ∈ o, x ∈ nxL p y := by
  obtain ⟨h1, h2⟩ := putAllI_spec (putAllI [] (aftAll p o)) o ho
  obtain ⟨_, h4⟩ := putAllI_spec (aftAll p o) [] List.Pairwise.nil
  refine ⟨h1, fun x => ?_⟩
  unfold grow
  rw [h2, h4, aftAll_mem]
  simp
def reachF (p : Prg) : Nat → List Int → List Int
  | 0, o => o
  | m + 1, o => bif (grow p o).length == o.length then o else reachF p m (grow p o)
theorem grow_in {p : Prg} (hp : FitP p) (hs : smallP p = true) {o : List Int} (ho : o.Pairwise (· < ·)) (hi : ∀ x ∈ o, inS p x) : ∀ x ∈ grow p o, inS p x := by
  intro x hx
  rcases ((grow_spec ho).2 x).1 hx with h | ⟨y, hy, h⟩
  · exact hi x h
  · exact nxL_in hp hs (hi y hy) x h
theorem reachS_loop {k : Nat} (hk : 1000500 ≤ k) {p : Prg} (hp : FitP p) (hs : smallP p = true) (l1 : List PV) : ∀ (m n : Nat) (o : List Int), m < n → 33 ≤ m + o.length → o.Pairwise (· < ·) → (∀ x ∈ o, inS p x) →
    L138_1 k n (encZ o) p.wide p.vars l1 (encCms p.cmds) = r138 (encZ (reachF p m o))
  | m, 0, o, hn, hm, ho, hi => by omega
  | 0, n + 1, o, hn, hm, ho, hi => by
    have := in_room hs ho hi
    omega
  | m + 1, n + 1, o, hn, hm, ho, hi => by
    have hr := in_room hs ho hi
    obtain ⟨g1, g2⟩ := grow_spec (p := p) ho
    have g3 := grow_in hp hs ho hi
    have hr2 := in_room hs g1 g3
    have hal := aftAll_len hp o
    have hpl := putAllI_len (aftAll p o) []
    rw [List.length_nil] at hpl
    rw [sL138_1, l8After_ok (by omega) hp hs l1 o (by omega) hi]
    simp only [R116_r]
    rw [union_ok (by omega) o _ (by omega) (by omega)]
    simp only [R161_r, encZ_length]
    change (bif (((grow p o).length : Int) == (o.length : Int)) then _ else _) = _
    have e : (((grow p o).length : Int) == (o.length : Int)) = ((grow p o).length == o.length) := by rw [Bool.eq_iff_iff]; simp only [beq_iff_eq]; omega
    rw [e, reachF]
    cases hq : ((grow p o).length == o.length)
    · have hne : (grow p o).length ≠ o.length := by simpa using hq
      have hge := (lt_sub ho g1 fun x hx => (g2 x).2 (.inl hx)).length_le
      exact reachS_loop hk hp hs l1 m n (grow p o) (by omega) (by omega) g1 g3
    · rfl
theorem reachF_spec {p : Prg} (hp : FitP p) (hs : smallP p = true) : ∀ (m : Nat) (o : List Int), 33 ≤ m + o.length → o.Pairwise (· < ·) → (∀ x ∈ o, inS p x) →
    (reachF p m o).Pairwise (· < ·) ∧ (∀ x ∈ reachF p m o, inS p x) ∧ (∀ x ∈ o, x ∈ reachF p m o) ∧ (∀ x ∈ reachF p m o, ∀ y ∈ nxL p x, y ∈ reachF p m o) ∧ ∀ S : Int → Prop, (∀ x ∈ o, S x) → (∀ x, S x → ∀ y ∈ nxL p x, S y) → ∀ x ∈ reachF p m o, S x
  | 0, o, hm, ho, hi => by
    have := in_room hs ho hi
    omega
  | m + 1, o, hm, ho, hi => by
    obtain ⟨g1, g2⟩ := grow_spec (p := p) ho
    have g3 := grow_in hp hs ho hi
    rw [reachF]
    cases hq : ((grow p o).length == o.length)
    · have hne : (grow p o).length ≠ o.length := by simpa using hq
      have hge := (lt_sub ho g1 fun x hx => (g2 x).2 (.inl hx)).length_le
      obtain ⟨r1, r2, r3, r4, r5⟩ := reachF_spec hp hs m (grow p o) (by omega) g1 g3
      refine ⟨r1, r2, fun x hx => r3 x ((g2 x).2 (.inl hx)), r4, fun S h1 h2 => r5 S (fun x hx => ?_) h2⟩
      rcases (g2 x).1 hx with h | ⟨y, hy, h⟩
      · exact h1 x h
      · exact h2 y (h1 y hy) x h
    · have heq : o = grow p o := lt_same ho g1 (fun x hx => (g2 x).2 (.inl hx)) (by simpa using hq)
      refine ⟨ho, hi, fun x hx => hx, fun x hx y hy => ?_, fun S h1 _ => h1⟩
      rw [heq]
      exact (g2 y).2 (.inr ⟨x, hx, hy⟩)
def reachL (p : Prg) : List Int := reachF p 33 (whI p p.start)
theorem l8Reach_ok {k : Nat} (hk : 1000600 ≤ k) {p : Prg} (hp : FitP p) (hs : smallP p = true) : c138 k p.wide p.vars (encT p.start) (encCms p.cmds) = r138 (encZ (reachL p)) := by
  obtain ⟨k, rfl⟩ : ∃ j, k = j + 1 := ⟨k - 1, by omega⟩
  have hst := hp.st
  have hks : kindT p.wide p.vars p.start = 2 := by
    have := small_good hs
    simp only [goodP, Bool.and_eq_true, beq_iff_eq] at this
    exact this.1.1.1
  rw [n138, those_ok (by omega) hs _ _ p.start (by omega) hks]
  simp only [R93_r]
  exact reachS_loop (k := k) (by omega) hp hs (encT p.start) 33 k (whI p p.start) (by omega) (by omega) (whN_lt p p.start _ _) (fun x hx => ((whI_mem p p.start x).1 hx).1)
inductive Rch (p : Prg) : Int → Prop
  | start {x : Int} : inS p x → hN p p.start x = true → Rch p x
  | step {x y : Int} : Rch p x → y ∈ nxL p x → Rch p y
theorem reachL_mem {p : Prg} (hp : FitP p) (hs : smallP p = true) (x : Int) : x ∈ reachL p ↔ Rch p x := by
  obtain ⟨r1, r2, r3, r4, r5⟩ := reachF_spec hp hs 33 (whI p p.start) (by omega) (whN_lt p p.start _ _) (fun x hx => ((whI_mem p p.start x).1 hx).1)
  constructor
  · exact r5 (Rch p) (fun x hx => .start ((whI_mem p p.start x).1 hx).1 ((whI_mem p p.start x).1 hx).2) (fun x hx y hy => .step hx hy) x
  · intro h
    induction h with
    | start h1 h2 => exact r3 _ ((whI_mem p p.start _).2 ⟨h1, h2⟩)
    | step _ h2 ih => exact r4 _ ih _ h2
end Go.Proofs.YtfinhnimlmkooaaGreat
/- The reference's way back. -/
set_option linter.unusedVariables false
set_option linter.unusedSimpArgs false
set_option maxRecDepth 4000
namespace Go.Proofs.YtfinhnimlmkooaaGreat
open Go.Dp

theorem rch_in {p : Prg} (hp : FitP p) (hs : smallP p = true) {x : Int} (h : Rch p x) : inS p x := by
  induction h with
  | start h1 _ => exact h1
  | step _ h2 ih => exact nxL_in hp hs ih _ h2
end Go.Proofs.YtfinhnimlmkooaaGreat
/- What is asked of reachable states: the reference's answers, the draws. -/
set_option linter.unusedVariables false
set_option linter.unusedSimpArgs false
set_option maxRecDepth 4000
namespace Go.Proofs.YtfinhnimlmkooaaGreat
open Go.Dp

theorem no_in {p : Prg} {no : Int} (h : noOK p no = true) : smallP p = true ∧ inS p no := by
  simp only [noOK, Bool.and_eq_true, decide_eq_true_eq] at h
  exact ⟨h.1.1, h.1.2, h.2⟩
theorem is8_ok {k : Nat} (hk : 1000300 ≤ k) (p : Prg) (hp : FitP p) (no : Int) : c64 k p.wide p.vars (encT p.start) (encCms p.cmds) no = r64 (noOK p no) := by
  obtain ⟨k, rfl⟩ : ∃ j, k = j + 1 := ⟨k - 1, by omega⟩
  rw [n64, l7Small_ok (by omega) p hp]
  simp only [R48_r]
  cases hs : smallP p
  · simp [noOK, hs]
  · have hle := nS_le hs
    simp only [cond_true]
    rw [nSS_ok (by omega) hs]
    simp only [R49_r]
    rw [i64_id (by omega) (by omega), in_ok (by omega)]
    simp only [R50_r]
    congr 1
    unfold noOK
    rw [hs, Bool.true_and, Bool.eq_iff_iff]
    simp only [Bool.and_eq_true, decide_eq_true_eq]
    have : ((2 ^ (pw p * pv p) : Nat) : Int) = (nS p : Int) := rfl
    omega
def hinOK (p : Prg) (t : List Nd) (no : Int) : Bool := noOK p no && (kindT p.wide p.vars t == 2)
theorem HoldsInI_ok {k : Nat} (hk : 1000400 ≤ k) (p : Prg) (hp : FitP p) (t : List Nd) (ht : t.length ≤ 100) (no : Int) : c27 k p.wide p.vars (encT p.start) (encCms p.cmds) (encT t) no = r27 (hinOK p t no && hN p t no) (hinOK p t no) := by
  obtain ⟨k, rfl⟩ : ∃ j, k = j + 1 := ⟨k - 1, by omega⟩
  rw [n27, isNo_ok (by omega) p hp]
  simp only [R61_r, hinOK]
  cases h : noOK p no
  · rfl
  · obtain ⟨hs, hi⟩ := no_in h
    simp only [Bool.not_true, cond_false, Bool.true_and]
    rw [cond_ok (by omega) _ _ _ _ t (by omega)]
    simp only [R72_r]
    cases hk2 : (kindT p.wide p.vars t == 2)
    · rfl
    · simp only [Bool.not_true, cond_false, Bool.true_and]
      rw [stoI_ok (by omega) hs _ _ hi]
      simp only [R54_r]
      rw [holdsI_ok (by omega) p (small_good hs) _ _ t ht (by simpa using hk2) _ (sto_ok hs hi)]
      simp only [R62_r]
      rfl
def reachR (p : Prg) : List Int := bif smallP p then reachL p else []
theorem reachS_ok {k : Nat} (hk : 1000700 ≤ k) (p : Prg) (hp : FitP p) : c101 k p.wide p.vars (encT p.start) (encCms p.cmds) = r101 (encZ (reachR p)) (smallP p) := by
  obtain ⟨k, rfl⟩ : ∃ j, k = j + 1 := ⟨k - 1, by omega⟩
  rw [n101, l7Small_ok (by omega) p hp]
  simp only [R48_r, reachR]
  cases hs : smallP p
  · rfl
  · simp only [Bool.not_true, cond_false, cond_true]
    rw [l8Reach_ok (by omega) hp hs]
    simp only [R138_r]
/-! ### What is drawn -/
theorem stateNoD_ok {bs : List Nat} (hc : CodeOK bs) {k : Nat} (hk : 1000800 ≤ k) (p : Prg) (hp : FitP p) {at' : Int} (h0 : 0 ≤ at') (h1 : at' ≤ 600000000) (s : W) :
    ∃ a2 s2 no, c60 k p.wide p.vars (encT p.start) (encCms p.cmds) (encB bs) at' (wi s) = r60 (encB bs) a2 (wi s2) no ∧ at' ≤ a2 ∧ a2 ≤ at' + 100 := by
  obtain ⟨k, rfl⟩ : ∃ j, k = j + 1 := ⟨k - 1, by omega⟩
  rw [n60]
  obtain ⟨a2, s2, b, h, h2, h3⟩ := one_ok hc (k := k) (by omega) h0 (by omega) s 30
  rw [h]
  simp only [R78_r]
  obtain ⟨a3, s3, v, hv, h4, h5, _⟩ := pick_ok hc (k := k) (by omega) (at' := a2) (by omega) (by omega) s2 32
  cases b
  · simp only [cond_false]
    rw [reachS_ok (by omega) p hp]
    simp only [R101_r, encZ_length]
    cases hs : smallP p
    · simp only [cond_false]
      rw [hv]
      simp only [R89_r]
      exact ⟨_, _, _, rfl, by omega, by omega⟩
    · have hin : ∀ x ∈ reachL p, inS p x := fun x hx => rch_in hp hs ((reachL_mem hp hs x).1 hx)
      obtain ⟨r1, _⟩ := reachF_spec hp hs 33 (whI p p.start) (by omega) (whN_lt p p.start _ _) (fun x hx => ((whI_mem p p.start x).1 hx).1)
      have hr : (reachL p).length ≤ 32 := in_room hs r1 hin
      have e : reachR p = reachL p := by unfold reachR; rw [hs]; rfl
      rw [e]
      simp only [cond_true]
      by_cases hpos : (reachL p).length > 0
      · have d : decide (((reachL p).length : Int) > 0) = true := decide_eq_true (by omega)
        obtain ⟨a4, s4, q, hq, h6, h7⟩ := one_ok hc (k := k) (by omega) (at' := a2) (by omega) (by omega) s2 4
        rw [d, hq]
        simp only [cond_true, R78_r]
        cases q
        · obtain ⟨a5, s5, u, hu, h8, h9, h10, h11, _⟩ := pick_ok hc (k := k) (by omega) (at' := a4) (by omega) (by omega) s4 ((reachL p).length : Int)
          have h11 := h11 (by omega)
          simp only [Bool.not_false, cond_true]
          rw [hu]
          simp only [R89_r]
          have hl : u.toNat < (reachL p).length := by omega
          have hlk : lookP (encZ (reachL p)) u = some (.int .i64 (reachL p)[u.toNat]) := by
            have := encZ_lookup hl
            rwa [Int.toNat_of_nonneg h10] at this
          rw [hlk]
          exact ⟨_, _, _, rfl, by omega, by omega⟩
        · obtain ⟨a5, s5, u, hu, h8, h9, _⟩ := pick_ok hc (k := k) (by omega) (at' := a4) (by omega) (by omega) s4 32
          simp only [Bool.not_true, cond_false]
          rw [hu]
          simp only [R89_r]
          exact ⟨_, _, _, rfl, by omega, by omega⟩
      · have d : decide (((reachL p).length : Int) > 0) = false := decide_eq_false (by omega)
        rw [d]
        simp only [cond_false]
        rw [hv]
        simp only [R89_r]
        exact ⟨_, _, _, rfl, by omega, by omega⟩
  · obtain ⟨a4, s4, m, hm, h6, h7, _⟩ := among_ok hc (k := k) (by omega) (at' := a2) (by omega) (by omega) s2 [-1, 32, 16] (by simp)
    have h' : c88 k [PV.int .i64 (-1), PV.int .i64 32, PV.int .i64 16] (encB bs) a2 (wi s2) = _ := hm
    simp only [cond_true]
    rw [h']
    simp only [R88_r]
    exact ⟨_, _, _, rfl, by omega, by omega⟩
end Go.Proofs.YtfinhnimlmkooaaGreat
/- FnPlayed: the law. -/
set_option linter.unusedVariables false
set_option linter.unusedSimpArgs false
set_option maxRecDepth 4000
namespace Go.Proofs.YtfinhnimlmkooaaGreat
open Go.Dp

theorem hasL_loop {k : Nat} (l : List Int) (hl : l.length ≤ 100000) (v : Int) : ∀ (n i : Nat), l.length - i < n → i ≤ l.length → L28_1 k n v (encZ l) (l.length : Int) (i : Int) = r28 ((l.drop i).contains v)
  | 0, i, h, hi => by omega
  | n + 1, i, h, hi => by
    rw [sL28_1]
    by_cases hlt : i < l.length
    · have hd : decide ((i : Int) < (l.length : Int)) = true := by simpa using hlt
      rw [hd, encZ_lookup hlt, drop_cons hlt]
      simp only [cond_true, Option.bind_some, int_atInt, List.contains_cons]
      rw [show (v == l[i]) = (l[i] == v) from BEq.comm]
      cases he : (l[i] == v)
      · simp only [cond_false, Bool.false_or]
        rw [i64_id (by omega) (by omega)]
        exact hasL_loop l hl v n (i + 1) (by omega) (by omega)
      · simp
    · have hd : decide ((i : Int) < (l.length : Int)) = false := by simpa using hlt
      rw [hd, List.drop_eq_nil_of_le (by omega)]
      simp
theorem hasL_ok {k : Nat} (hk : 100010 ≤ k) (l : List Int) (hl : l.length ≤ 100000) (v : Int) : c28 k (encZ l) v = r28 (l.contains v) := by
  obtain ⟨k, rfl⟩ : ∃ j, k = j + 1 := ⟨k - 1, by omega⟩
  rw [n28, encZ_length]
  have := hasL_loop (k := k) l hl v k 0 (by omega) (by omega)
  simpa using this
/-! ### The law -/
end Go.Proofs.YtfinhnimlmkooaaGreat
/- Sights by several conditions; cubes; cuts of the program. -/
set_option linter.unusedVariables false
set_option linter.unusedSimpArgs false
set_option linter.unusedSectionVars false
set_option maxRecDepth 8000
namespace Go.Proofs.YtfinhnimlmkooaaGreat
open Go.Dp

theorem inS_iota {p : Prg} {x : Int} : x ∈ iota (nS p) ↔ inS p x := iota_mem _ _
theorem iota_range (m : Nat) : iota m = (List.range' 0 m).map fun (i : Nat) => (i : Int) := by rw [iota, List.range_eq_range']
theorem list_fun (v : List Int) : ∃ g : Int → Int, v = (iota v.length).map g ∧ ∀ i (h : i < v.length), g (i : Int) = v[i] := by
  refine ⟨fun x => v.getD x.toNat 0, ?_, ?_⟩
  · apply List.ext_getElem
    · simp [iota_len]
    · intro i h1 h2
      simp [iota, h1]
  · intro i h
    simp [h]
/-! ### Cuts, once more -/
def hasI (some1 : List Int) (j : Int) : Int := bif some1.contains j then 1 else 0
theorem hasI_cases (some1 : List Int) (j : Int) : hasI some1 j = 0 ∨ hasI some1 j = 1 := by
  unfold hasI
  cases some1.contains j
  · exact .inl rfl
  · exact .inr rfl
theorem hasI_eq {some1 : List Int} {x y : Int} : hasI some1 x = hasI some1 y ↔ some1.contains x = some1.contains y := by
  unfold hasI
  cases some1.contains x <;> cases some1.contains y <;> simp
theorem cutK_gen (some1 : List Int) (g : Int → Int) : ∀ (n i : Nat), cutK some1 ((List.range' i n).map fun (j : Nat) => g (j : Int)) i = (List.range' i n).map fun (j : Nat) => 2 * g (j : Int) + hasI some1 (j : Int)
  | 0, i => rfl
  | n + 1, i => by
    rw [List.range'_succ, List.map_cons, List.map_cons, cutK, cutK_gen some1 g n (i + 1)]
    congr 1
    unfold hasI
    cases some1.contains (i : Int) <;> simp
theorem cutV_map (some1 : List Int) (g : Int → Int) (n : Nat) : cutV some1 ((iota n).map g) = cls ((iota n).map fun x => 2 * g x + hasI some1 x) [] := by
  have e1 : (iota n).map g = (List.range' 0 n).map fun (j : Nat) => g (j : Int) := by rw [iota_range, List.map_map]; rfl
  have e2 : (iota n).map (fun x => 2 * g x + hasI some1 x) = (List.range' 0 n).map fun (j : Nat) => 2 * g (j : Int) + hasI some1 (j : Int) := by rw [iota_range, List.map_map]; rfl
  rw [cutV, e1, e2, cutK_gen]
theorem cut_inj (some1 : List Int) (g : Int → Int) (x y : Int) : 2 * g x + hasI some1 x = 2 * g y + hasI some1 y ↔ g x = g y ∧ some1.contains x = some1.contains y := by
  rw [← hasI_eq]
  rcases hasI_cases some1 x with h1 | h1 <;> rcases hasI_cases some1 y with h2 | h2 <;> rw [h1, h2] <;> omega
theorem byL_norm (p : Prg) : ∀ (ts : List (List Nd)) (v : List Int), goodF v 0 = true → goodF (byL p ts v) 0 = true
  | [], v, h => h
  | t :: ts, v, h => byL_norm p ts _ (good_cls (cutK (whI p t) v 0) []).1
theorem wh_has {p : Prg} {t : List Nd} {x : Int} (h : inS p x) : (whI p t).contains x = hN p t x := by
  rw [Bool.eq_iff_iff, List.contains_iff_mem, whI_mem]
  exact ⟨fun h => h.2, fun h' => ⟨h, h'⟩⟩
theorem byL_rep {p : Prg} : ∀ (ts : List (List Nd)) (g : Int → Int), ∃ g' : Int → Int, byL p ts ((iota (nS p)).map g) = (iota (nS p)).map g' ∧ ∀ x ∈ iota (nS p), ∀ y ∈ iota (nS p), g' x = g' y ↔ g x = g y ∧ ∀ t ∈ ts, hN p t x = hN p t y
  | [], g => ⟨g, rfl, fun x _ y _ => by simp⟩
  | t :: ts, g => by
    rw [byL, cutV_map]
    obtain ⟨g1, h1, h2⟩ := cls_rep (iota (nS p)) fun x => 2 * g x + hasI (whI p t) x
    rw [h1]
    obtain ⟨g2, h3, h4⟩ := byL_rep ts g1
    refine ⟨g2, h3, fun x hx y hy => ?_⟩
    rw [h4 x hx y hy, h2 x hx y hy, cut_inj, wh_has (inS_iota.1 hx), wh_has (inS_iota.1 hy)]
    simp only [List.mem_cons, forall_eq_or_imp]
    constructor
    · rintro ⟨⟨a, b⟩, c⟩; exact ⟨a, b, c⟩
    · rintro ⟨a, b, c⟩; exact ⟨⟨a, b⟩, c⟩
theorem zeros_map (p : Prg) : zeros p = (iota (nS p)).map fun _ => (0 : Int) := by
  unfold zeros
  apply List.ext_getElem
  · simp [iota_len]
  · intro i h1 h2
    simp
theorem zeros_good : ∀ n : Nat, goodF (List.replicate n 0) 0 = true
  | 0 => rfl
  | n + 1 => by
    have h1 : ∀ n : Nat, goodF (List.replicate n 0) 1 = true := by
      intro n
      induction n with
      | zero => rfl
      | succ n ih =>
        rw [List.replicate_succ]
        simp only [goodF]
        exact ih
    rw [List.replicate_succ]
    simp only [goodF]
    exact h1 n
/-! ### The program's sight by several conditions -/
def kvB (p : Prg) (no : Int) : List (List Nd) → Int
  | [] => 0
  | t :: ts => bitI p t no + 2 * kvB p no ts
theorem kvB_rng (p : Prg) (no : Int) : ∀ ts : List (List Nd), 0 ≤ kvB p no ts ∧ kvB p no ts < ((2 ^ ts.length : Nat) : Int)
  | [] => by simp [kvB]
  | t :: ts => by
    have := kvB_rng p no ts
    rw [kvB, List.length_cons, Nat.pow_succ]
    rcases bitI_cases p t no with h | h <;> rw [h] <;> omega
theorem bitI_eq {p : Prg} {t : List Nd} {x y : Int} : bitI p t x = bitI p t y ↔ hN p t x = hN p t y := by
  unfold bitI
  cases hN p t x <;> cases hN p t y <;> simp
theorem kvB_inj {p : Prg} {x y : Int} : ∀ ts : List (List Nd), kvB p x ts = kvB p y ts ↔ ∀ t ∈ ts, hN p t x = hN p t y
  | [] => by simp [kvB]
  | t :: ts => by
    rw [kvB, kvB, List.forall_mem_cons, ← kvB_inj ts, ← bitI_eq]
    rcases bitI_cases p t x with h1 | h1 <;> rcases bitI_cases p t y with h2 | h2 <;> rw [h1, h2] <;> omega
theorem or_bitF : ∀ k : Fin 8, ∀ a : Fin 128, ∀ b : Fin 2, a.1 < 2 ^ k.1 → bitsOp .or .i64 (a.1 : Int) (shlI .i64 (IntKind.i64.wrap (b.1 : Int)) (k.1 : Int)) = ((a.1 + b.1 * 2 ^ k.1 : Nat) : Int) := by decide +kernel
theorem or_bit {k : Nat} (hk : k < 8) {a b : Int} (h0 : 0 ≤ a) (h1 : a < ((2 ^ k : Nat) : Int)) (hb : b = 0 ∨ b = 1) : bitsOp .or .i64 a (shlI .i64 (IntKind.i64.wrap b) (k : Int)) = a + b * ((2 ^ k : Nat) : Int) := by
  have h7 : 2 ^ k ≤ 2 ^ 7 := Nat.pow_le_pow_right (by omega) (by omega)
  have := or_bitF ⟨k, hk⟩ ⟨a.toNat, by omega⟩ ⟨b.toNat, by omega⟩ (by simp only; omega)
  simp only at this
  rw [Int.toNat_of_nonneg h0, Int.toNat_of_nonneg (by omega)] at this
  rw [this]
  rcases hb with rfl | rfl
  · simp; omega
  · simp; omega
def keysB (p : Prg) (ts : List (List Nd)) : List (Int × Int) := (iota (nS p)).map fun no => (kvB p no ts, 0)
theorem byG_loop2 {k : Nat} (hk : 1000010 ≤ k) {p : Prg} (hs : smallP p = true) (l1 l2 u : List PV) (ts : List (List Nd)) (ht : ∀ t ∈ ts, t.length ≤ 100) (hkt : ∀ t ∈ ts, kindT p.wide p.vars t = 2) (h8 : ts.length ≤ 8) (N n1 i : Nat) (hin : inS p (i : Int)) (hN : i < N) : ∀ (n j : Nat) (a : Int) (xs : List PV), ts.length - j < n → j ≤ ts.length → 0 ≤ a → a < ((2 ^ j : Nat) : Int) → xs[i]? = some (encPr (a, 0)) →
    L15_2 k n1 n (encTT ts) N (i : Int) (encW (sto p (i : Int))) (N : Int) (i : Int) (encTT ts) (ts.length : Int) (j : Int) p.wide p.vars l1 l2 u xs = L15_1 k n1 (encTT ts) N (N : Int) (IntKind.i64.wrap ((i : Int) + 1)) p.wide p.vars l1 l2 u (xs.set i (encPr (a + ((2 ^ j : Nat) : Int) * kvB p (i : Int) (ts.drop j), 0)))
  | 0, j, a, xs, h, hj, h0, h1, hx => by omega
  | n + 1, j, a, xs, h, hj, h0, h1, hx => by
    rw [sL15_2]
    have hil : i < xs.length := by
      rcases Nat.lt_or_ge i xs.length with h | h
      · exact h
      · rw [List.getElem?_eq_none h] at hx; cases hx
    by_cases hlt : j < ts.length
    · have hd : decide ((j : Int) < (ts.length : Int)) = true := by simpa using hlt
      have hg : (decide ((0 : Int) ≤ (i : Int)) && decide ((i : Int) < (N : Int))) = true := by
        rw [decide_eq_true (by omega), decide_eq_true (by omega)]; rfl
      have hd2 : decide ((j : Int) < 0) = false := decide_eq_false (by omega)
      have hnj : IntKind.i64.wrap ((j : Int) + 1) = ((j + 1 : Nat) : Int) := by rw [i64_id (by omega) (by omega)]; omega
      have ha : (encPr (a, 0)).atInt .i64 0 = some a := rfl
      have hm := List.getElem_mem hlt
      rw [hd, lookP_nat, encTT_get, List.getElem?_eq_getElem hlt, drop_cons hlt, hg, Nat.zero_add, Int.toNat_natCast, hx, hnj]
      simp only [cond_true, Option.map_some, Option.bind_some, row_atRow, ha]
      rw [valueB_ok hk hs _ (ht _ hm) (hkt _ hm) hin]
      simp only [R55_r, hd2, Bool.not_false, cond_true]
      rw [or_bit (by omega) h0 h1 (bitI_cases p _ _)]
      have hp : ∀ z : Int, putPart (encPr (a, 0)) 2 0 (PV.int .i64 z) 0 = some (encPr (z, 0)) := fun z => rfl
      rw [hp]
      simp only [Option.bind_some, kvB]
      have hb := bitI_cases p ts[j] (i : Int)
      have hpw : 2 ^ (j + 1) = 2 ^ j * 2 := Nat.pow_succ ..
      have hpos : 0 < 2 ^ j := Nat.pow_pos (by omega)
      rw [byG_loop2 hk hs l1 l2 u ts ht hkt h8 N n1 i hin hN n (j + 1) (a + bitI p ts[j] (i : Int) * ((2 ^ j : Nat) : Int)) _ (by omega) (by omega) (by rcases hb with h | h <;> rw [h] <;> omega) (by rw [hpw]; rcases hb with h | h <;> rw [h] <;> omega) (by rw [List.getElem?_set_self hil]), List.set_set]
      congr 4
      rw [hpw, Int.natCast_mul, Int.mul_add, Int.mul_comm (bitI p ts[j] (i : Int)), ← Int.mul_assoc, Int.add_assoc]
      rfl
    · have hd : decide ((j : Int) < (ts.length : Int)) = false := by simpa using hlt
      rw [hd, List.drop_eq_nil_of_le (by omega)]
      simp only [cond_false, kvB, Int.mul_zero, Int.add_zero]
      have : xs.set i (encPr (a, 0)) = xs := by
        apply List.ext_getElem?
        intro m
        rw [List.getElem?_set]
        split
        · rename_i e
          subst e
          rw [hx]
        · rfl
      rw [this]
theorem byG_loop1 {k : Nat} (hk : 1000010 ≤ k) {p : Prg} (hs : smallP p = true) (l1 l2 u : List PV) (ts : List (List Nd)) (ht : ∀ t ∈ ts, t.length ≤ 100) (hkt : ∀ t ∈ ts, kindT p.wide p.vars t = 2) (h8 : ts.length ≤ 8) : ∀ (n i : Nat), nS p - i < n → i ≤ nS p →
    L15_1 k n (encTT ts) (nS p) (nS p : Int) (i : Int) p.wide p.vars l1 l2 u (((keysB p ts).take i).map encPr ++ List.replicate (nS p - i) (encPr (0, 0))) = r15 (encZ (cls (keysB p ts) [])) true
  | 0, i, h, hi => by omega
  | n + 1, i, h, hi => by
    have hle := nS_le hs
    have hlen : (keysB p ts).length = nS p := by simp [keysB, iota_len]
    rw [sL15_1]
    by_cases hlt : i < nS p
    · have hd : decide ((i : Int) < (nS p : Int)) = true := by simpa using hlt
      have hnext : IntKind.i64.wrap ((i : Int) + 1) = ((i + 1 : Nat) : Int) := by rw [i64_id (by omega) (by omega)]; omega
      have hin : inS p (i : Int) := ⟨by omega, by omega⟩
      obtain ⟨m, hm⟩ : ∃ m, nS p - i = m + 1 := ⟨nS p - i - 1, by omega⟩
      have hl1 : (((keysB p ts).take i).map encPr).length = i := by simp; omega
      have hx : (((keysB p ts).take i).map encPr ++ List.replicate (nS p - i) (encPr (0, 0)))[i]? = some (encPr (0, 0)) := by
        rw [List.getElem?_append_right (by omega), hl1, hm]
        simp
      have hset : (((keysB p ts).take i).map encPr ++ List.replicate (nS p - i) (encPr (0, 0))).set i (encPr (kvB p (i : Int) ts, 0)) = ((keysB p ts).take (i + 1)).map encPr ++ List.replicate (nS p - (i + 1)) (encPr (0, 0)) := by
        rw [List.set_append_right _ _ (by omega), hl1, Nat.sub_self, hm, List.replicate_succ, List.set_cons_zero, List.take_succ_eq_append_getElem (by omega), List.map_append, show nS p - (i + 1) = m by omega, List.append_assoc]
        congr 1
        simp [keysB, iota]
      rw [hd, stoI_ok (by omega) hs l1 l2 hin, encTT_length]
      simp only [cond_true, R54_r]
      have h2 := byG_loop2 hk hs l1 l2 u ts ht hkt h8 (nS p) n i hin hlt k 0 0 (((keysB p ts).take i).map encPr ++ List.replicate (nS p - i) (encPr (0, 0))) (by omega) (by omega) (by omega) (by decide) hx
      rw [show (0 : Int) + ((2 ^ 0 : Nat) : Int) * kvB p (i : Int) (ts.drop 0) = kvB p (i : Int) ts by simp, hset] at h2
      have h' : L15_2 k n k (encTT ts) (nS p) (i : Int) (encW (sto p (i : Int))) (nS p : Int) (i : Int) (encTT ts) (ts.length : Int) 0 p.wide p.vars l1 l2 u (((keysB p ts).take i).map encPr ++ List.replicate (nS p - i) (encPr (0, 0))) = _ := h2
      rw [h', hnext]
      exact byG_loop1 hk hs l1 l2 u ts ht hkt h8 n (i + 1) (by omega) (by omega)
    · have hd : decide ((i : Int) < (nS p : Int)) = false := by simpa using hlt
      obtain ⟨k, rfl⟩ : ∃ j, k = j + 1 := ⟨k - 1, by omega⟩
      have hfull : (keysB p ts).take i = keysB p ts := List.take_of_length_le (by omega)
      have hwf : (keysB p ts).all wf2B = true := by
        rw [List.all_eq_true]
        intro q hq
        obtain ⟨y, _, rfl⟩ := List.mem_map.1 hq
        have h1 := kvB_rng p y ts
        have h2 : 2 ^ ts.length ≤ 2 ^ 8 := Nat.pow_le_pow_right (by omega) h8
        exact pr_wf ⟨h1.1, by omega⟩ ⟨by omega, by omega⟩
      have e1 : nS p - i = 0 := by omega
      rw [hd, hfull, e1, List.replicate_zero, List.append_nil, List.take_of_length_le (by simp; omega), n56 k _ (by omega) hwf, clsL_cls]
      have h' : r56 ((cls (keysB p ts) []).map (PV.int .i64)) = r56 (encZ (cls (keysB p ts) [])) := rfl
      rw [h', R56p_enc, List.take_of_length_le (by simp)]
      rfl
theorem keysB_by (p : Prg) (ts : List (List Nd)) : cls (keysB p ts) [] = byL p ts (zeros p) := by
  obtain ⟨g, h1, h2⟩ := byL_rep (p := p) ts fun _ => 0
  have hn := (cls_self (byL_norm p ts (zeros p) (zeros_good _))).1
  rw [zeros_map, h1] at hn
  rw [zeros_map, h1, ← hn, keysB]
  refine cls_same _ _ _ fun x hx y hy => ?_
  rw [h2 x hx y hy, ← kvB_inj]
  simp
theorem sightG_ok {k : Nat} (hk : 1000500 ≤ k) (p : Prg) (hp : FitP p) (ts : List (List Nd)) (hl : ts.length ≤ 1000) (ht : ∀ t ∈ ts, t.length ≤ 100) : c15 k p.wide p.vars (encT p.start) (encCms p.cmds) (encTT ts) = r15 (encZ (bif sbB p ts then byL p ts (zeros p) else [])) (sbB p ts) := by
  obtain ⟨k, rfl⟩ : ∃ j, k = j + 1 := ⟨k - 1, by omega⟩
  rw [n15, isSmall_ok (by omega) p hp]
  simp only [R45_r, sbB]
  cases hs : smallP p
  · rfl
  simp only [Bool.not_true, cond_false]
  rw [arePreds_ok (by omega) p _ _ ts hl ht]
  simp only [R53_r]
  cases hq : predsOK p ts
  · rfl
  have hq2 := hq
  simp only [predsOK, Bool.and_eq_true, decide_eq_true_eq] at hq2
  have hle := nS_le hs
  simp only [Bool.not_true, cond_false, Bool.and_self, cond_true]
  rw [nSI_ok (by omega) hs]
  simp only [R47_r, Int.toNat_natCast]
  have hg : (((nS p : Int) == (nS p : Int)) && decide ((0 : Int) ≤ (nS p : Int)) && decide (nS p * 16 ≤ LIM) && decide (nS p ≤ LIM)) = true := by
    have q1 : decide (nS p * 16 ≤ LIM) = true := decide_eq_true (by unfold LIM; omega)
    have q2 : decide (nS p ≤ LIM) = true := decide_eq_true (by unfold LIM; omega)
    rw [q1, q2]
    simp
  rw [hg]
  have := byG_loop1 (k := k) (by omega) hs (encT p.start) (encCms p.cmds) [] ts ht (allC_get hq2.2) hq2.1 k 0 (by omega) (by omega)
  simp only [List.take_zero, List.map_nil, List.nil_append, Nat.sub_zero] at this
  rw [keysB_by] at this
  exact this
/-! ### Cuts of the program -/
def inV (n : Nat) (some1 : List Int) : List Int := (iota n).map (hasI some1)
theorem inV_set (n : Nat) (l : List Int) (a : Int) (h0 : 0 ≤ a) (h1 : a < (n : Int)) : (inV n l).set a.toNat 1 = inV n (l ++ [a]) := by
  apply List.ext_getElem
  · simp [inV, iota_len]
  · intro i h2 h3
    have hi : i < n := by simpa [inV, iota_len] using h3
    rw [List.getElem_set]
    simp only [inV, iota, List.getElem_map, List.getElem_range]
    split
    · rename_i e
      have : (i : Int) = a := by omega
      rw [this]
      simp [hasI]
    · rename_i e
      have hne : (i : Int) ≠ a := by omega
      have hc : (l ++ [a]).contains (i : Int) = l.contains (i : Int) := by
        rw [Bool.eq_iff_iff, List.contains_iff_mem, List.contains_iff_mem, List.mem_append, List.mem_singleton]
        exact ⟨fun h => h.resolve_right hne, .inl⟩
      unfold hasI
      rw [hc]
theorem inV_len (n : Nat) (l : List Int) : (inV n l).length = n := by simp [inV, iota_len]
theorem inV_okV {n : Nat} (hn : n ≤ 100) (l : List Int) : OkV (inV n l) := by
  refine ⟨by rw [inV_len]; exact hn, fun x hx => ?_⟩
  obtain ⟨y, _, rfl⟩ := List.mem_map.1 hx
  rcases hasI_cases l y with h | h <;> rw [h] <;> omega
theorem cutI_loop {k : Nat} (hk : 1020 ≤ k) {v : List Int} (hv : OkV v) (u : List PV) (some1 : List Int) (hin : ∀ x ∈ some1, 0 ≤ x ∧ x < (v.length : Int)) (hs : some1.length ≤ 1000) : ∀ (n i : Nat), some1.length - i < n → i ≤ some1.length →
    L75_1 k n (encZ some1) (some1.length : Int) (i : Int) (encZ v) u v.length (encZ (inV v.length (some1.take i))) = r75 (encZ (cls (v.zip (inV v.length some1)) []))
  | 0, i, h, hi => by omega
  | n + 1, i, h, hi => by
    rw [sL75_1]
    have hvl := hv.len
    by_cases hlt : i < some1.length
    · have hd : decide ((i : Int) < (some1.length : Int)) = true := by simpa using hlt
      have hnext : IntKind.i64.wrap ((i : Int) + 1) = ((i + 1 : Nat) : Int) := by rw [i64_id (by omega) (by omega)]; omega
      have hr := hin _ (List.getElem_mem hlt)
      have hg : (decide ((0 : Int) ≤ some1[i]) && decide (some1[i] < (v.length : Int))) = true := by
        rw [decide_eq_true hr.1, decide_eq_true hr.2]; rfl
      have hx : ∃ z, (encZ (inV v.length (some1.take i)))[0 + (some1[i]).toNat]? = some z := by
        rw [Nat.zero_add]
        exact ⟨_, List.getElem?_eq_getElem (by rw [encZ_length, inV_len]; omega)⟩
      obtain ⟨z, hz⟩ := hx
      rw [hd, encZ_lookup hlt, hnext]
      simp only [cond_true, Option.bind_some, int_atInt]
      rw [hg, hz]
      simp only [cond_true, Option.bind_some, Nat.zero_add]
      rw [encZ_set, inV_set _ _ _ hr.1 hr.2, ← List.take_succ_eq_append_getElem hlt]
      exact cutI_loop hk hv u some1 hin hs n (i + 1) (by omega) (by omega)
    · have hd : decide ((i : Int) < (some1.length : Int)) = false := by simpa using hlt
      have hf : some1.take i = some1 := List.take_of_length_le (by omega)
      have htk : (encZ (inV v.length some1)).take v.length = encZ (inV v.length some1) := List.take_of_length_le (by simp [inV_len])
      rw [hd, hf, htk, meetI_ok (by omega) hv (inV_okV (by omega) some1) (inV_len _ _).symm]
      simp only [R42_r, cond_false]
theorem zip_inV (v some1 : List Int) : cls (v.zip (inV v.length some1)) [] = cutV some1 v := by
  obtain ⟨g, h1, _⟩ := list_fun v
  have e : v.zip (inV v.length some1) = (iota v.length).map fun x => (g x, hasI some1 x) := by
    conv => lhs; arg 1; rw [h1]
    exact zip_maps _ _ _
  rw [e]
  conv => rhs; rw [h1]
  rw [cutV_map]
  refine cls_same _ _ _ fun x hx y hy => ?_
  rw [Prod.mk.injEq, cut_inj, hasI_eq]
theorem cutOutI_ok {k : Nat} (hk : 1000500 ≤ k) (p : Prg) (hp : FitP p) {v some1 : List Int} (hv : OkV v) (hs : some1.length ≤ 1000) : c30 k p.wide p.vars (encT p.start) (encCms p.cmds) (encZ v) (encZ some1) = r30 (encZ (bif coB p v some1 then cutV some1 v else [])) (coB p v some1) := by
  obtain ⟨k, rfl⟩ : ∃ j, k = j + 2 := ⟨k - 2, by omega⟩
  have hvl := hv.len
  rw [n30, goodSightI_ok (by omega) p hp v (by omega)]
  simp only [R11_r, coB]
  cases hg : gsB p v
  · rfl
  obtain ⟨s1, s2, s3⟩ := gs_small hg
  simp only [Bool.not_true, cond_false]
  rw [nSI_ok (by omega) s1]
  simp only [R47_r]
  rw [inc_ok (by omega) some1 (by omega), s3]
  simp only [R74_r]
  cases hq : incG (nS p : Int) none some1
  · rfl
  simp only [Bool.not_true, cond_false, Bool.and_self, cond_true]
  have hin : ∀ x ∈ some1, 0 ≤ x ∧ x < (v.length : Int) := by rw [s3]; exact incG_mem hq
  have hl := cutI_loop (k := k) (by omega) hv [] some1 hin hs k 0 (by omega) (by omega)
  have hgd : (((v.length : Int) == (v.length : Int)) && decide ((0 : Int) ≤ (v.length : Int)) && decide (v.length * 8 ≤ LIM) && decide (v.length ≤ LIM)) = true := by
    have q1 : decide (v.length * 8 ≤ LIM) = true := decide_eq_true (by unfold LIM; omega)
    have q2 : decide (v.length ≤ LIM) = true := decide_eq_true (by unfold LIM; omega)
    rw [q1, q2]
    simp
  have he : List.replicate v.length (PV.int .i64 0) = encZ (inV v.length (some1.take 0)) := by
    simp only [List.take_zero, inV, encZ, List.map_map]
    apply List.ext_getElem
    · simp [iota_len]
    · intro i h1 h2
      simp [hasI]
  rw [n75, encZ_length, encZ_length, hgd, he]
  have hl' : L75_1 k k (encZ some1) (some1.length : Int) 0 (encZ v) [] v.length (encZ (inV v.length (some1.take 0))) = _ := hl
  simp only [cond_true]
  rw [hl', zip_inV]
  simp only [R75_r]
/-! ### The class of a state, the states of a class -/
theorem classOf_ok {k : Nat} (hk : 1000500 ≤ k) (p : Prg) (hp : FitP p) {v : List Int} (hv : OkV v) (hg : gsB p v = true) (i : Nat) (hi : i < v.length) : c25 k p.wide p.vars (encT p.start) (encCms p.cmds) (encZ v) (i : Int) = r25 v[i] true := by
  obtain ⟨k, rfl⟩ : ∃ j, k = j + 1 := ⟨k - 1, by omega⟩
  have hvl := hv.len
  obtain ⟨s1, s2, s3⟩ := gs_small hg
  have hn : noOK p (i : Int) = true := by
    have : ((2 ^ (pw p * pv p) : Nat) : Int) = (nS p : Int) := rfl
    simp only [noOK, s1, this, Bool.true_and, Bool.and_eq_true, decide_eq_true_eq]
    omega
  rw [n25, goodSightI_ok (by omega) p hp v (by omega), hg, isNo_ok (by omega) p hp, hn, encZ_lookup hi]
  simp only [R11_r, R61_r, Bool.not_true, cond_false, Option.bind_some, int_atInt]
def stF (c : Int) : List Int → Nat → List Int
  | [], _ => []
  | x :: l, i => bif x == c then (i : Int) :: stF c l (i + 1) else stF c l (i + 1)
theorem stF_mem (c : Int) : ∀ (l : List Int) (i : Nat) (x : Int), x ∈ stF c l i ↔ ∃ j, ∃ h : j < l.length, x = ((i + j : Nat) : Int) ∧ l[j] = c
  | [], i, x => by simp [stF]
  | y :: l, i, x => by
    have key : (x ∈ stF c (y :: l) i) ↔ (y = c ∧ x = (i : Int)) ∨ x ∈ stF c l (i + 1) := by
      rw [stF]
      by_cases h : y = c
      · have h1 : (y == c) = true := by simpa using h
        rw [h1, cond_true, List.mem_cons]
        constructor
        · rintro (h2 | h2)
          · exact .inl ⟨h, h2⟩
          · exact .inr h2
        · rintro (⟨_, h2⟩ | h2)
          · exact .inl h2
          · exact .inr h2
      · have h1 : (y == c) = false := by simpa using h
        rw [h1, cond_false]
        exact ⟨.inr, fun h2 => h2.resolve_left fun h3 => h h3.1⟩
    rw [key, stF_mem c l (i + 1)]
    constructor
    · rintro (⟨h1, h2⟩ | ⟨j, hj, h1, h2⟩)
      · exact ⟨0, by simp, by simpa using h2, h1⟩
      · exact ⟨j + 1, by simp; omega, by rw [h1]; congr 1; omega, h2⟩
    · rintro ⟨j, hj, h1, h2⟩
      cases j with
      | zero => exact .inl ⟨h2, by simpa using h1⟩
      | succ j => exact .inr ⟨j, by simpa using hj, by rw [h1]; congr 1; omega, h2⟩
theorem stF_len (c : Int) : ∀ (l : List Int) (i : Nat), (stF c l i).length ≤ l.length
  | [], i => by simp [stF]
  | y :: l, i => by
    have := stF_len c l (i + 1)
    rw [stF]
    cases (y == c) <;> simp <;> omega
def stV (v : List Int) (c : Int) : List Int := stF c v 0
theorem stV_mem {v : List Int} {c : Int} {i : Nat} (h : i < v.length) : (stV v c).contains (i : Int) = (v[i] == c) := by
  rw [Bool.eq_iff_iff, List.contains_iff_mem, stV, stF_mem, beq_iff_eq]
  constructor
  · rintro ⟨j, hj, h1, h2⟩
    have : i = j := by omega
    subst this
    exact h2
  · intro h2
    exact ⟨i, h, by simp, h2⟩
theorem statesIn_loop {k : Nat} (c : Int) (v : List Int) (hv : v.length ≤ 1000) : ∀ (n i : Nat) (o : List Int), v.length - i < n → i ≤ v.length → o.length ≤ i →
    L71_1 k n c o.length (encZ v) (v.length : Int) (i : Int) (encZ o) = r71 (encZ (o ++ stF c (v.drop i) i))
  | 0, i, o, h, hi, ho => by omega
  | n + 1, i, o, h, hi, ho => by
    rw [sL71_1, encZ_tk]
    by_cases hlt : i < v.length
    · have hd : decide ((i : Int) < (v.length : Int)) = true := by simpa using hlt
      have hnext : IntKind.i64.wrap ((i : Int) + 1) = ((i + 1 : Nat) : Int) := by rw [i64_id (by omega) (by omega)]; omega
      rw [hd, encZ_lookup hlt, drop_cons hlt, hnext]
      simp only [cond_true, Option.bind_some, int_atInt, stF]
      cases (v[i] == c)
      · exact statesIn_loop c v hv n (i + 1) o (by omega) (by omega) (by omega)
      · rw [lim_ok (by omega) (by omega), encZ_snoc]
        have := statesIn_loop (k := k) c v hv n (i + 1) (o ++ [(i : Int)]) (by omega) (by omega) (by simp; omega)
        rw [List.length_append, List.append_assoc] at this
        exact this
    · have hd : decide ((i : Int) < (v.length : Int)) = false := by simpa using hlt
      rw [hd, List.drop_eq_nil_of_le (by omega)]
      simp [stF]
theorem statesIn_ok {k : Nat} (hk : 1010 ≤ k) {v : List Int} (hv : v.length ≤ 1000) (c : Int) : c71 k (encZ v) c = r71 (encZ (stV v c)) := by
  obtain ⟨k, rfl⟩ : ∃ j, k = j + 1 := ⟨k - 1, by omega⟩
  rw [n71, encZ_length]
  have := statesIn_loop (k := k) c v hv k 0 [] (by omega) (by omega) (by simp)
  simpa [stV, encZ] using this
theorem isClass_ok {k : Nat} (hk : 1000600 ≤ k) (p : Prg) (hp : FitP p) {v : List Int} (hv : OkV v) (c : Int) : c70 k p.wide p.vars (encT p.start) (encCms p.cmds) (encZ v) c = r70 (gsB p v && (decide (0 ≤ c) && decide (c < manyF v 0))) := by
  obtain ⟨k, rfl⟩ : ∃ j, k = j + 1 := ⟨k - 1, by omega⟩
  have hvl := hv.len
  rw [n70, goodSightI_ok (by omega) p hp v (by omega)]
  simp only [R11_r]
  cases hg : gsB p v
  · rfl
  obtain ⟨s1, s2, s3⟩ := gs_small hg
  have := (nS_le s1).1
  simp only [cond_true, Bool.true_and, ge_iff_le]
  cases h0 : decide (0 ≤ c)
  · rfl
  simp only [cond_true, Bool.true_and]
  rw [classes_ok (by omega) (by omega) (by rintro rfl; simp at s3; omega) s2]
  simp only [R52_r]
theorem StatesInI_ok {k : Nat} (hk : 1000700 ≤ k) (p : Prg) (hp : FitP p) {v : List Int} (hv : OkV v) (c : Int) : c26 k p.wide p.vars (encT p.start) (encCms p.cmds) (encZ v) c = r26 (encZ (bif gsB p v && (decide (0 ≤ c) && decide (c < manyF v 0)) then stV v c else [])) (gsB p v && (decide (0 ≤ c) && decide (c < manyF v 0))) := by
  obtain ⟨k, rfl⟩ : ∃ j, k = j + 1 := ⟨k - 1, by omega⟩
  have hvl := hv.len
  rw [n26, isClass_ok (by omega) p hp hv]
  simp only [R70_r]
  cases (gsB p v && (decide (0 ≤ c) && decide (c < manyF v 0)))
  · rfl
  simp only [Bool.not_true, cond_false, cond_true]
  rw [statesIn_ok (by omega) (by omega)]
  simp only [R71_r]
end Go.Proofs.YtfinhnimlmkooaaGreat
/- FnCubes: the cube of a state holds exactly in its class. -/
set_option linter.unusedVariables false
set_option linter.unusedSimpArgs false
set_option maxRecDepth 8000
namespace Go.Proofs.YtfinhnimlmkooaaGreat
open Go.Dp

/-! ### Cubes -/
def cubeF (p : Prg) (no : Int) : List (List Nd) → Nat → List Nd → List Nd
  | [], _, o => o
  | t :: ts, k, o => cubeF p no ts (k + 1) (o ++ t ++ (bif hN p t no then [] else [(19, 0#64)]) ++ (bif decide (k = 0) then [] else [(17, 0#64)]))
def cubeT (p : Prg) (ts : List (List Nd)) (no : Int) : List Nd := cubeF p no ts 0 []
theorem cubeI_loop {k : Nat} (hk : 1000200 ≤ k) {p : Prg} (hs : smallP p = true) (l1 l2 : List PV) {no : Int} (hin : inS p no) (ts : List (List Nd)) (ht : ∀ t ∈ ts, t.length ≤ 100) (hkt : ∀ t ∈ ts, kindT p.wide p.vars t = 2) (h8 : ts.length ≤ 8) : ∀ (n i : Nat) (o : List Nd), ts.length - i < n → i ≤ ts.length → o.length ≤ 102 * i →
    L21_1 k n no o.length (encTT ts) (ts.length : Int) (i : Int) p.wide p.vars l1 l2 (encT o) = r21 (bif goodT p.wide p.vars (cubeF p no (ts.drop i) i o) then encT (cubeF p no (ts.drop i) i o) else []) (goodT p.wide p.vars (cubeF p no (ts.drop i) i o))
  | 0, i, o, h, hi, ho => by omega
  | n + 1, i, o, h, hi, ho => by
    rw [sL21_1]
    have etk : (encT o).take o.length = encT o := List.take_of_length_le (by simp)
    have e19 : PV.agg [.int .i64 19, .int .u64 0] = encN (19, 0#64) := rfl
    have e17 : PV.agg [.int .i64 17, .int .u64 0] = encN (17, 0#64) := rfl
    by_cases hlt : i < ts.length
    · have hd : decide ((i : Int) < (ts.length : Int)) = true := by simpa using hlt
      have hnext : IntKind.i64.wrap ((i : Int) + 1) = ((i + 1 : Nat) : Int) := by rw [i64_id (by omega) (by omega)]; omega
      have hm := List.getElem_mem hlt
      have hml := ht _ hm
      have e0 : decide ((i : Int) > 0) = !decide (i = 0) := by
        by_cases h : i = 0
        · subst h; rfl
        · rw [decide_eq_true (by omega : (i : Int) > 0), decide_eq_false h]; rfl
      have t1 : (encT (o ++ ts[i])).take (o.length + ts[i].length) = encT (o ++ ts[i]) := List.take_of_length_le (by simp)
      have t2 : (encT (o ++ ts[i] ++ [(19, 0#64)])).take (o.length + ts[i].length + 1) = encT (o ++ ts[i] ++ [(19, 0#64)]) := List.take_of_length_le (by simp; omega)
      rw [hd, lookP_nat, encTT_get, List.getElem?_eq_getElem hlt, drop_cons hlt, hnext]
      simp only [cond_true, Option.map_some, Option.bind_some, row_atRow, encT_length]
      rw [etk, encT_app, lim_ok (by omega) (by omega), lim_ok (by omega) (by omega), lim_ok (by omega) (by omega), stoI_ok (by omega) hs l1 l2 hin]
      simp only [cond_true, R54_r]
      rw [holdsI_ok (by omega) p (small_good hs) l1 l2 _ hml (hkt _ hm) _ (sto_ok hs hin)]
      simp only [R62_r, e19, e17, e0, t1, encT_snoc, t2]
      rw [cubeF]
      have ih := cubeI_loop hk hs l1 l2 hin ts ht hkt h8 n (i + 1) (o ++ ts[i] ++ (bif hN p ts[i] no then [] else [(19, 0#64)]) ++ (bif decide (i = 0) then [] else [(17, 0#64)])) (by omega) (by omega) (by
        cases hN p ts[i] no <;> cases decide (i = 0) <;> simp <;> omega)
      change (bif !hN p ts[i] no then _ else _) = _
      cases hh : hN p ts[i] no <;> cases hz : decide (i = 0) <;> (rw [hh, hz] at ih; simp only [cond_true, cond_false, List.append_nil, List.length_append, List.length_singleton, Bool.not_true, Bool.not_false] at ih ⊢; exact ih)
    · have hd : decide ((i : Int) < (ts.length : Int)) = false := by simpa using hlt
      rw [hd, List.drop_eq_nil_of_le (by omega), etk, checked_ok (by omega) _ _ _ (by omega)]
      simp only [cond_false, R63_r, cubeF]
theorem cubeS_loop {k : Nat} (hk : 1000200 ≤ k) {p : Prg} (hs : smallP p = true) (l1 l2 : List PV) {no : Int} (hin : inS p no) (ts : List (List Nd)) (ht : ∀ t ∈ ts, t.length ≤ 100) (hkt : ∀ t ∈ ts, kindT p.wide p.vars t = 2) (h8 : ts.length ≤ 8) : ∀ (n i : Nat) (o : List Nd), ts.length - i < n → i ≤ ts.length → o.length ≤ 102 * i →
    L22_1 k n no o.length (encTT ts) (ts.length : Int) (i : Int) p.wide p.vars l1 l2 (encT o) = r22 (bif goodT p.wide p.vars (cubeF p no (ts.drop i) i o) then encT (cubeF p no (ts.drop i) i o) else []) (goodT p.wide p.vars (cubeF p no (ts.drop i) i o))
  | 0, i, o, h, hi, ho => by omega
  | n + 1, i, o, h, hi, ho => by
    rw [sL22_1]
    have etk : (encT o).take o.length = encT o := List.take_of_length_le (by simp)
    have e19 : PV.agg [.int .i64 19, .int .u64 0] = encN (19, 0#64) := rfl
    have e17 : PV.agg [.int .i64 17, .int .u64 0] = encN (17, 0#64) := rfl
    by_cases hlt : i < ts.length
    · have hd : decide ((i : Int) < (ts.length : Int)) = true := by simpa using hlt
      have hnext : IntKind.i64.wrap ((i : Int) + 1) = ((i + 1 : Nat) : Int) := by rw [i64_id (by omega) (by omega)]; omega
      have hm := List.getElem_mem hlt
      have hml := ht _ hm
      have e0 : decide ((i : Int) > 0) = !decide (i = 0) := by
        by_cases h : i = 0
        · subst h; rfl
        · rw [decide_eq_true (by omega : (i : Int) > 0), decide_eq_false h]; rfl
      have t1 : (encT (o ++ ts[i])).take (o.length + ts[i].length) = encT (o ++ ts[i]) := List.take_of_length_le (by simp)
      have t2 : (encT (o ++ ts[i] ++ [(19, 0#64)])).take (o.length + ts[i].length + 1) = encT (o ++ ts[i] ++ [(19, 0#64)]) := List.take_of_length_le (by simp; omega)
      rw [hd, lookP_nat, encTT_get, List.getElem?_eq_getElem hlt, drop_cons hlt, hnext]
      simp only [cond_true, Option.map_some, Option.bind_some, row_atRow, encT_length]
      rw [etk, encT_app, lim_ok (by omega) (by omega), lim_ok (by omega) (by omega), lim_ok (by omega) (by omega), stoS_ok (by omega) hs l1 l2 hin]
      simp only [cond_true, R67_r]
      rw [holdsS_ok (by omega) p (small_good hs) l1 l2 _ hml (hkt _ hm) _ (sto_ok hs hin)]
      simp only [R66_r, e19, e17, e0, t1, encT_snoc, t2]
      rw [cubeF]
      have ih := cubeS_loop hk hs l1 l2 hin ts ht hkt h8 n (i + 1) (o ++ ts[i] ++ (bif hN p ts[i] no then [] else [(19, 0#64)]) ++ (bif decide (i = 0) then [] else [(17, 0#64)])) (by omega) (by omega) (by
        cases hN p ts[i] no <;> cases decide (i = 0) <;> simp <;> omega)
      change (bif !hN p ts[i] no then _ else _) = _
      cases hh : hN p ts[i] no <;> cases hz : decide (i = 0) <;> (rw [hh, hz] at ih; simp only [cond_true, cond_false, List.append_nil, List.length_append, List.length_singleton, Bool.not_true, Bool.not_false] at ih ⊢; exact ih)
    · have hd : decide ((i : Int) < (ts.length : Int)) = false := by simpa using hlt
      rw [hd, List.drop_eq_nil_of_le (by omega), etk, made_ok (by omega) _ _ _ (by omega)]
      simp only [cond_false, R68_r, cubeF]
def cuOK (p : Prg) (ts : List (List Nd)) (no : Int) : Bool := noOK p no && ((decide (1 ≤ ts.length) && predsOK p ts) && goodT p.wide p.vars (cubeT p ts no))
theorem arePreds1_ok {k : Nat} (hk : 1000400 ≤ k) (p : Prg) (l1 l2 : List PV) (ts : List (List Nd)) (hl : ts.length ≤ 1000) (ht : ∀ t ∈ ts, t.length ≤ 100) : c53 k p.wide p.vars l1 l2 (encTT ts) 1 = r53 (decide (1 ≤ ts.length) && predsOK p ts) := by
  have h := arePreds_ok hk p l1 l2 ts hl ht
  obtain ⟨k, rfl⟩ : ∃ j, k = j + 1 := ⟨k - 1, by omega⟩
  have e0 : decide ((ts.length : Int) ≥ 0) = true := by simp
  rw [n53, encTT_length, e0] at h
  rw [n53, encTT_length]
  by_cases h1 : 1 ≤ ts.length
  · rw [decide_eq_true (by omega : (ts.length : Int) ≥ 1), decide_eq_true h1, Bool.true_and]
    exact h
  · rw [decide_eq_false (by omega : ¬ (ts.length : Int) ≥ 1), decide_eq_false h1]
    rfl
theorem cubeI_ok {k : Nat} (hk : 1000500 ≤ k) (p : Prg) (hp : FitP p) (ts : List (List Nd)) (hl : ts.length ≤ 1000) (ht : ∀ t ∈ ts, t.length ≤ 100) (no : Int) : c21 k p.wide p.vars (encT p.start) (encCms p.cmds) (encTT ts) no = r21 (bif cuOK p ts no then encT (cubeT p ts no) else []) (cuOK p ts no) := by
  obtain ⟨k, rfl⟩ : ∃ j, k = j + 1 := ⟨k - 1, by omega⟩
  rw [n21, isNo_ok (by omega) p hp]
  simp only [R61_r, cuOK]
  cases hn : noOK p no
  · rfl
  obtain ⟨hs, hi⟩ := no_in hn
  simp only [Bool.not_true, cond_false, Bool.true_and]
  rw [arePreds1_ok (by omega) p _ _ ts hl ht]
  simp only [R53_r]
  cases hq : (decide (1 ≤ ts.length) && predsOK p ts)
  · rfl
  have hq2 := hq
  simp only [predsOK, Bool.and_eq_true, decide_eq_true_eq] at hq2
  simp only [Bool.not_true, cond_false, Bool.true_and, encTT_length]
  exact cubeI_loop (k := k) (by omega) hs _ _ hi ts ht (allC_get hq2.2.2) hq2.2.1 k 0 [] (by omega) (by omega) (by simp)
theorem cubeS_ok {k : Nat} (hk : 1000500 ≤ k) (p : Prg) (hp : FitP p) (ts : List (List Nd)) (hl : ts.length ≤ 1000) (ht : ∀ t ∈ ts, t.length ≤ 100) (no : Int) : c22 k p.wide p.vars (encT p.start) (encCms p.cmds) (encTT ts) no = r22 (bif cuOK p ts no then encT (cubeT p ts no) else []) (cuOK p ts no) := by
  obtain ⟨k, rfl⟩ : ∃ j, k = j + 1 := ⟨k - 1, by omega⟩
  rw [n22, is8_ok (by omega) p hp]
  simp only [R64_r, cuOK]
  cases hn : noOK p no
  · rfl
  obtain ⟨hs, hi⟩ := no_in hn
  simp only [Bool.not_true, cond_false, Bool.true_and]
  rw [l15Preds_ok (by omega) p _ _ ts hl ht]
  simp only [R65_r]
  cases hq : predsOK p ts
  · simp only [Bool.and_false]
    rfl
  have hq2 := hq
  simp only [predsOK, Bool.and_eq_true, decide_eq_true_eq] at hq2
  simp only [Bool.not_true, cond_false, Bool.and_true, encTT_length]
  by_cases h1 : 1 ≤ ts.length
  · have e1 : ((ts.length : Int) == 0) = false := by rw [beq_eq_false_iff_ne]; omega
    rw [e1, decide_eq_true h1]
    simp only [cond_false, Bool.true_and]
    exact cubeS_loop (k := k) (by omega) hs _ _ hi ts ht (allC_get hq2.2) hq2.1 k 0 [] (by omega) (by omega) (by simp)
  · have e1 : ((ts.length : Int) == 0) = true := by rw [beq_iff_eq]; omega
    rw [e1, decide_eq_false h1]
    rfl
/-! ### What a cube says -/
def litT1 (p : Prg) (no : Int) (t : List Nd) : List Nd := t ++ (bif hN p t no then [] else [(19, 0#64)])
theorem lit_run {p : Prg} (hs : smallP p = true) {m : Int} (hm : inS p m) (no : Int) {t : List Nd} (hkt : kindT p.wide p.vars t = 2) : vrun p.wide (sto p m) (litT1 p no t) [] = some [tr (hN p t m == hN p t no)] ∧ kst p.wide p.vars (litT1 p no t) [] = some [2] := by
  obtain ⟨hw, hv⟩ := goodP_size (small_good hs)
  obtain ⟨h1, h2⟩ := (stOK_of hw).1 (sto_ok hs hm)
  obtain ⟨hval, hok⟩ := kind_val hkt (by omega) h1 h2
  have hc := le_one_cases (okV_two (by rw [hkt] at *; exact hok))
  obtain ⟨k1, _⟩ := good_kst (kind_good (by omega : kindT p.wide p.vars t > 0))
  rw [hkt] at k1
  have hv2 : valD p.wide (sto p m) t = tr (hN p t m) := by
    unfold hN holdT
    rcases hc with h | h <;> rw [h] <;> rfl
  rw [hv2] at hval
  unfold litT1
  cases hh : hN p t no
  · constructor
    · rw [cond_false, vrun_app, hval]
      cases hN p t m <;> rfl
    · rw [cond_false, kst_app, k1]
      simp [kst, need, leafOK]
  · constructor
    · rw [cond_true, List.append_nil, hval]
      cases hN p t m <;> rfl
    · rw [cond_true, List.append_nil, k1]
theorem cube_run {p : Prg} (hs : smallP p = true) {m : Int} (hm : inS p m) (no : Int) : ∀ (ts : List (List Nd)) (k : Nat) (o : List Nd) (c : Bool), (∀ t ∈ ts, kindT p.wide p.vars t = 2) → 1 ≤ k → vrun p.wide (sto p m) o [] = some [tr c] → kst p.wide p.vars o [] = some [2] →
    vrun p.wide (sto p m) (cubeF p no ts k o) [] = some [tr (c && ts.all fun t => hN p t m == hN p t no)] ∧ kst p.wide p.vars (cubeF p no ts k o) [] = some [2]
  | [], k, o, c, hkt, hk, hr, hkk => by simpa [cubeF] using ⟨hr, hkk⟩
  | t :: ts, k, o, c, hkt, hk, hr, hkk => by
    obtain ⟨hw, hv⟩ := goodP_size (small_good hs)
    obtain ⟨h1, h2⟩ := lit_run hs hm no (hkt t (by simp))
    have hz : decide (k = 0) = false := decide_eq_false (by omega)
    have e17 : ∀ a b : W, vrun p.wide (sto p m) [(17, 0#64)] [b, a] = some [apW p.wide 17 a b] := fun a b => rfl
    have ea : ∀ a b : Bool, apW p.wide 17 (tr a) (tr b) = tr (a && b) := by
      intro a b
      have : apW p.wide 17 (tr a) (tr b) = (tr a &&& tr b) &&& mk p.wide := rfl
      rw [this, ← tr_cut hw (a && b)]
      congr 1
      cases a <;> cases b <;> rfl
    have hnew : vrun p.wide (sto p m) (o ++ litT1 p no t ++ [(17, 0#64)]) [] = some [tr (c && (hN p t m == hN p t no))] := by
      have hf := vrun_frame [tr c] h1
      simp only [List.nil_append, List.singleton_append] at hf
      rw [vrun_app, vrun_app, hr, Option.bind_some, hf, Option.bind_some, e17, ea]
    have hnk : kst p.wide p.vars (o ++ litT1 p no t ++ [(17, 0#64)]) [] = some [2] := by
      have hf := kst_frame [2] h2
      simp only [List.nil_append, List.singleton_append] at hf
      rw [kst_app, kst_app, hkk, Option.bind_some, hf, Option.bind_some]
      simp [kst, need, leafOK]
    have ih := cube_run hs hm no ts (k + 1) _ _ (fun u hu => hkt u (by simp [hu])) (by omega) hnew hnk
    rw [cubeF, hz, cond_false, List.append_assoc o t]
    rw [List.all_cons, ← Bool.and_assoc]
    exact ih
theorem cube_holds {p : Prg} (hs : smallP p = true) {ts : List (List Nd)} (h1 : 1 ≤ ts.length) (hkt : ∀ t ∈ ts, kindT p.wide p.vars t = 2) {no : Int} (hg : goodT p.wide p.vars (cubeT p ts no) = true) {m : Int} (hm : inS p m) : hN p (cubeT p ts no) m = (ts.all fun t => hN p t m == hN p t no) ∧ kindT p.wide p.vars (cubeT p ts no) = 2 := by
  cases ts with
  | nil => simp at h1
  | cons t ts =>
    obtain ⟨a1, a2⟩ := lit_run hs hm no (hkt t (by simp))
    obtain ⟨b1, b2⟩ := cube_run hs hm no ts 1 _ _ (fun u hu => hkt u (by simp [hu])) (by omega) a1 a2
    have e : cubeT p (t :: ts) no = cubeF p no ts 1 (litT1 p no t) := by
      unfold cubeT
      rw [cubeF]
      simp [litT1]
    rw [e] at hg ⊢
    constructor
    · have e2 : hN p (cubeF p no ts 1 (litT1 p no t)) m = (valD p.wide (sto p m) (cubeF p no ts 1 (litT1 p no t)) == 1#64) := rfl
      rw [e2, valD_of b1, List.all_cons]
      cases ((hN p t m == hN p t no) && ts.all fun t => hN p t m == hN p t no) <;> rfl
    · have hz : sizeT p.wide p.vars (cubeF p no ts 1 (litT1 p no t)) = true := by
        simp only [goodT, Bool.and_eq_true] at hg
        exact hg.1
      unfold kindT
      rw [if_pos hz, b2]
      rfl
/-! ### What is drawn -/
theorem drawCubeOf_ok {bs : List Nat} (hc : CodeOK bs) {k : Nat} (hk : 1001100 ≤ k) : ∃ p ts no, c20 k (encB bs) = r20 p.wide p.vars (encT p.start) (encCms p.cmds) (encTT ts) no ∧ FitP p ∧ ts.length ≤ 1000 ∧ ∀ t ∈ ts, t.length ≤ 100 := by
  obtain ⟨k, rfl⟩ : ∃ j, k = j + 1 := ⟨k - 1, by omega⟩
  rw [n20]
  obtain ⟨a2, s2, p, h, h2, h3, h4⟩ := small_ok hc (k := k) (by omega) (at' := 0) (by omega) (by omega) 0#64
  have h' : c38 k (encB bs) 0 0 = _ := h
  have hw := h4.w
  have hv := h4.v
  rw [h']
  simp only [R38_r]
  obtain ⟨a3, s3, ts, h, h5, h6, h7, h8⟩ := preds_ok hc (k := k) (by omega) (wide := p.wide) (vars := p.vars) (by omega) (by omega) (encT p.start) (encCms p.cmds) 4 (by omega) (by omega) (at' := a2) (by omega) (by omega) s2
  rw [h]
  simp only [R59_r]
  obtain ⟨a4, s4, no, h, h9, h10⟩ := stateNoD_ok hc (k := k) (by omega) p h4 (at' := a3) (by omega) (by omega) s3
  rw [h]
  simp only [R60_r]
  exact ⟨p, ts, no, rfl, h4, by omega, h8⟩
theorem drawCutOut_ok {bs : List Nat} (hc : CodeOK bs) {k : Nat} (hk : 1001100 ≤ k) : ∃ p v so, c29 k (encB bs) = r29 p.wide p.vars (encT p.start) (encCms p.cmds) (encZ v) (encZ so) ∧ FitP p ∧ OkV v ∧ so.length ≤ 1000 := by
  obtain ⟨k, rfl⟩ : ∃ j, k = j + 1 := ⟨k - 1, by omega⟩
  rw [n29]
  obtain ⟨a2, s2, p, h, h2, h3, h4⟩ := small_ok hc (k := k) (by omega) (at' := 0) (by omega) (by omega) 0#64
  have h' : c38 k (encB bs) 0 0 = _ := h
  rw [h']
  simp only [R38_r]
  obtain ⟨a3, s3, v, h, h5, h6, h7⟩ := sight_ok hc (k := k) (by omega) h4 (at' := a2) (by omega) (by omega) s2
  rw [h]
  simp only [R39_r]
  rw [l2One_ok (by omega)]
  simp only [R41_r]
  obtain ⟨a4, s4, so, h, h8, h9, h10⟩ := someOf_ok hc (k := k) (by omega) (one1 ((encZ v).length : Int)) 5 (by omega) (by omega) (at' := a3) (by omega) (by omega) s3
  rw [h]
  simp only [R73_r]
  exact ⟨p, v, so, rfl, h4, h7, by omega⟩
/-! ### The law -/
theorem cut_pairs (some1 v : List Int) {i j : Nat} (hi : i < v.length) (hj : j < v.length) : ∃ (h1 : i < (cutV some1 v).length) (h2 : j < (cutV some1 v).length), ((cutV some1 v)[i] == (cutV some1 v)[j]) = ((v[i] == v[j]) && (some1.contains (i : Int) == some1.contains (j : Int))) := by
  have hl := cut_len some1 v
  obtain ⟨g, e1, e2⟩ := list_fun v
  obtain ⟨g1, f1, f2⟩ := cls_rep (iota v.length) fun x => 2 * g x + hasI some1 x
  have e3 : cutV some1 v = (iota v.length).map g1 := by
    conv => lhs; rw [e1]
    rw [cutV_map, f1]
  refine ⟨by omega, by omega, ?_⟩
  have gi : ∀ (a : Nat) (ha : a < (cutV some1 v).length), (cutV some1 v)[a] = g1 (a : Int) := by
    intro a ha
    simp [e3, iota]
  rw [gi, gi, ← e2 i hi, ← e2 j hj, Bool.eq_iff_iff]
  simp only [beq_iff_eq, Bool.and_eq_true]
  have mi : (i : Int) ∈ iota v.length := (iota_mem _ _).2 ⟨by omega, by omega⟩
  have mj : (j : Int) ∈ iota v.length := (iota_mem _ _).2 ⟨by omega, by omega⟩
  rw [f2 _ mi _ mj, cut_inj]
theorem cubes_loop3 {k : Nat} (hk : 100010 ≤ k) (so v : List Int) (hs : so.length ≤ 1000) (hv : v.length ≤ 1000) (n1 i : Nat) (hi : i < v.length) : ∀ (n j : Nat), v.length - j < n → j ≤ v.length →
    L4_3 k n1 n (encZ so) (i : Int) (v.length : Int) (i : Int) (v.length : Int) (j : Int) (encZ v) (encZ (cutV so v)) = L4_2 k n1 (encZ so) (v.length : Int) ((i + 1 : Nat) : Int) (encZ v) (encZ (cutV so v))
  | 0, j, h, hj => by omega
  | n + 1, j, h, hj => by
    rw [sL4_3]
    have hni : IntKind.i64.wrap ((i : Int) + 1) = ((i + 1 : Nat) : Int) := by rw [i64_id (by omega) (by omega)]; omega
    by_cases hlt : j < v.length
    · have hd : decide ((j : Int) < (v.length : Int)) = true := by simpa using hlt
      have hnj : IntKind.i64.wrap ((j : Int) + 1) = ((j + 1 : Nat) : Int) := by rw [i64_id (by omega) (by omega)]; omega
      obtain ⟨h1, h2, h3⟩ := cut_pairs so v hi hlt
      rw [hd, encZ_lookup h1, encZ_lookup h2, encZ_lookup hi, encZ_lookup hlt, hnj]
      simp only [cond_true, Option.bind_some, int_atInt]
      rw [hasL_ok (by omega) so (by omega), hasL_ok (by omega) so (by omega)]
      simp only [R28_r]
      rw [h3]
      have ih := cubes_loop3 hk so v hs hv n1 i hi n (j + 1) (by omega) (by omega)
      cases (v[i] == v[j])
      · simpa using ih
      · simpa using ih
    · have hd : decide ((j : Int) < (v.length : Int)) = false := by simpa using hlt
      rw [hd, hni]
      rfl
theorem cubes_loop2 {k : Nat} (hk : 100010 ≤ k) (so v : List Int) (hs : so.length ≤ 1000) (hv : v.length ≤ 1000) : ∀ (n i : Nat), v.length - i < n → i ≤ v.length →
    L4_2 k n (encZ so) (v.length : Int) (i : Int) (encZ v) (encZ (cutV so v)) = r4 true
  | 0, i, h, hi => by omega
  | n + 1, i, h, hi => by
    rw [sL4_2]
    by_cases hlt : i < v.length
    · have hd : decide ((i : Int) < (v.length : Int)) = true := by simpa using hlt
      have hcl : ((encZ (cutV so v)).length : Int) = (v.length : Int) := by rw [encZ_length, cut_len]
      have h3 := cubes_loop3 hk so v hs hv n i hlt k 0 (by omega) (by omega)
      have h' : L4_3 k n k (encZ so) (i : Int) (v.length : Int) (i : Int) (v.length : Int) 0 (encZ v) (encZ (cutV so v)) = _ := h3
      rw [hd, hcl, h']
      exact cubes_loop2 hk so v hs hv n (i + 1) (by omega) (by omega)
    · have hd : decide ((i : Int) < (v.length : Int)) = false := by simpa using hlt
      rw [hd]
      rfl
theorem cubes_end {k : Nat} (hk : 1002000 ≤ k) {more : List Nat} (hm : CodeOK more) : (R29 (c29 k (encB more)) fun v5 v6 l9 l10 l11 l12 =>
       R30 (c30 k v5 v6 l9 l10 l11 l12) fun l13 b10 =>
       R31 (c31 k v5 v6 l9 l10 l11 l12) fun l14 b11 =>
       bif (!(b10 == b11)) then
        r4 false
       else
        R10p (c10 k l13 (l14.take l14.length)) fun b12 =>
        bif !b12 then
         r4 false
        else
         bif b10 then
          L4_2 k k l12 (l13.length : Int) 0 l11 l13
         else r4 true) = r4 true := by
  obtain ⟨p, v, so, h, hp, hv, hs⟩ := drawCutOut_ok hm (k := k) (by omega)
  have hvl := hv.len
  rw [h]
  simp only [R29_r]
  rw [cutOutI_ok (by omega) p hp hv hs, cutOutS_ok (by omega) p hp hv hs]
  simp only [R30_r, R31_r, beq_self_eq_true, Bool.not_true, cond_false, encZ_length, encZ_tk]
  cases hco : coB p v so
  · simp only [cond_false]
    rw [sameInts_ok (by omega) _ _ (by simp)]
    simp only [R10p_r, decide_true, Bool.not_true, cond_false]
  · simp only [cond_true]
    rw [sameInts_ok (by omega) _ _ (by rw [cut_len]; omega)]
    simp only [R10p_r, decide_true, Bool.not_true, cond_false, cut_len]
    exact cubes_loop2 (k := k) (by omega) so v hs (by omega) k 0 (by omega) (by omega)
theorem cubes_loop1 {k : Nat} (hk : 1002000 ≤ k) {more : List Nat} (hm : CodeOK more) (p : Prg) (hp : FitP p) (hs : smallP p = true) (t : List Nd) (ht : t.length ≤ 100) (hkt : kindT p.wide p.vars t = 2) (l : List Int) (hl : l.length ≤ 1000) (hc : ∀ i : Nat, i < nS p → hN p t (i : Int) = l.contains (i : Int)) : ∀ (n i : Nat), nS p - i < n → i ≤ nS p →
    L4_1 k n (encB more) (encT t) (encZ l) (nS p : Int) (i : Int) p.wide p.vars (encT p.start) (encCms p.cmds) = r4 true
  | 0, i, h, hi => by omega
  | n + 1, i, h, hi => by
    have hle := nS_le hs
    rw [sL4_1]
    by_cases hlt : i < nS p
    · have hd : decide ((i : Int) < (nS p : Int)) = true := by simpa using hlt
      have hnext : IntKind.i64.wrap ((i : Int) + 1) = ((i + 1 : Nat) : Int) := by rw [i64_id (by omega) (by omega)]; omega
      have hin : inS p (i : Int) := ⟨by omega, by omega⟩
      have hno : hinOK p t (i : Int) = true := by simp only [hinOK, inS_no hs hin, hkt, beq_self_eq_true, Bool.and_self]
      rw [hd, HoldsInI_ok (by omega) p hp t ht, hno]
      simp only [cond_true, R27_r, Bool.not_true, cond_false, Bool.true_and]
      rw [hasL_ok (by omega) l (by omega), hc i hlt, hnext]
      simp only [R28_r, beq_self_eq_true, Bool.not_true, cond_false]
      exact cubes_loop1 hk hm p hp hs t ht hkt l hl hc n (i + 1) (by omega) (by omega)
    · have hd : decide ((i : Int) < (nS p : Int)) = false := by simpa using hlt
      rw [hd]
      exact cubes_end hk hm
theorem cubes_true {k : Nat} (hk : 1048700 ≤ k) (code more : List Nat) (hc : ∀ b ∈ code, b < 256) (hm : ∀ b ∈ more, b < 256) : c4 k (encB code) (encB more) = r4 true := by
  obtain ⟨k, rfl⟩ : ∃ j, k = j + 1 := ⟨k - 1, by omega⟩
  rw [n4, big_ok (by omega)]
  simp only [R6_r]
  cases hbig : (decide (code.length > 1048576) || decide (more.length + code.length > 1048576))
  · simp only [cond_false]
    rw [Bool.or_eq_false_iff] at hbig
    have hl : code.length ≤ 1048576 ∧ more.length ≤ 1048576 := by
      have h1 := hbig.1
      have h2 := hbig.2
      simp at h1 h2
      omega
    have hcc : CodeOK code := ⟨hl.1, hc⟩
    have hmm : CodeOK more := ⟨hl.2, hm⟩
    have hend := cubes_end (k := k) (by omega) hmm
    obtain ⟨p, ts, no, h, hp, hts, ht⟩ := drawCubeOf_ok hcc (k := k) (by omega)
    obtain ⟨hk0, hl0⟩ := byS_okV (p := p) (ts := ts)
    rw [h]
    simp only [R20_r]
    rw [cubeI_ok (by omega) p hp ts hts ht, cubeS_ok (by omega) p hp ts hts ht]
    simp only [R21_r, R22_r]
    rw [sightG_ok (by omega) p hp ts hts ht, sightByS_ok (by omega) p hp ts hts ht]
    simp only [R15_r, R23_r, beq_self_eq_true, Bool.not_true, cond_false, encZ_length, encZ_tk]
    rw [sameInts_ok (by omega) _ _ (by omega)]
    simp only [R10p_r, decide_true, Bool.not_true, cond_false]
    cases hcu : cuOK p ts no
    · simp only [cond_false]
      have hsn : c24 k [] [] = r24 true := by
        have := sameN_ok (k := k) (by omega) [] (by simp)
        exact this
      rw [hsn]
      simp only [R24_r, Bool.not_true, cond_false]
      exact hend
    · have hq := hcu
      simp only [cuOK, predsOK, Bool.and_eq_true, decide_eq_true_eq] at hq
      obtain ⟨hn, ⟨h1, h8, hall⟩, hgd⟩ := hq
      obtain ⟨hs, hi⟩ := no_in hn
      have hkt := allC_get hall
      have hle := nS_le hs
      obtain ⟨_, hk2⟩ := cube_holds hs h1 hkt hgd hi
      have hcl : (cubeT p ts no).length ≤ 48 := (kind_len hk2).1
      have hsb : sbB p ts = true := by simp only [sbB, hs, predsOK, hall, decide_eq_true h8, Bool.and_self]
      have hbl : (byL p ts (zeros p)).length = nS p := by rw [byL_len]; simp [zeros]
      have hgs : gsB p (byL p ts (zeros p)) = true := by
        have := byL_norm p ts (zeros p) (zeros_good _)
        simp only [gsB, hs, this, hbl, Bool.true_and, beq_self_eq_true]
      have hnoN : (no.toNat : Int) = no := Int.toNat_of_nonneg hi.1
      have hnlt : no.toNat < (byL p ts (zeros p)).length := by have := hi.2; omega
      have hco := classOf_ok (k := k) (by omega) p hp (byL_okV p ts (zeros_okV hs)) hgs no.toNat hnlt
      rw [hnoN] at hco
      have hrng := good_lt _ 0 (gs_small hgs).2.1 _ (List.getElem_mem hnlt)
      have hr0 : ((0 : Nat) : Int) = 0 := rfl
      rw [hr0] at hrng
      have hsi := StatesInI_ok (k := k) (by omega) p hp (byL_okV p ts (zeros_okV hs)) (byL p ts (zeros p))[no.toNat]
      have hcc2 : (gsB p (byL p ts (zeros p)) && (decide (0 ≤ (byL p ts (zeros p))[no.toNat]) && decide ((byL p ts (zeros p))[no.toNat] < manyF (byL p ts (zeros p)) 0))) = true := by
        rw [hgs, decide_eq_true hrng.1, decide_eq_true hrng.2]; rfl
      rw [hcc2] at hsi
      simp only [cond_true, hsb]
      rw [sameN_ok (by omega) _ (by omega)]
      simp only [R24_r, Bool.not_true, cond_false]
      rw [hco]
      simp only [R25_r]
      rw [hsi]
      simp only [R26_r, Bool.not_true, cond_false, cond_true, hbl]
      have hsl := stF_len (byL p ts (zeros p))[no.toNat] (byL p ts (zeros p)) 0
      refine cubes_loop1 (k := k) (by omega) hmm p hp hs _ (by omega) hk2 _ (by unfold stV; omega) (fun i hil => ?_) k 0 (by omega) (by omega)
      have hin : inS p (i : Int) := ⟨by omega, by omega⟩
      rw [(cube_holds hs h1 hkt hgd hin).1, stV_mem (by omega)]
      obtain ⟨g, g1, g2⟩ := byL_rep (p := p) ts fun _ => 0
      have gi : ∀ (a : Nat) (ha : a < (byL p ts (zeros p)).length), (byL p ts (zeros p))[a] = g (a : Int) := by
        intro a ha
        have e : byL p ts (zeros p) = (iota (nS p)).map g := by rw [zeros_map, g1]
        simp [e, iota]
      rw [gi, gi, hnoN, Bool.eq_iff_iff, List.all_eq_true, beq_iff_eq, g2 _ (inS_iota.2 hin) _ (inS_iota.2 hi)]
      simp
  · rfl
theorem lawFnCubes (code more : List Int) (hc : ∀ n ∈ code, (Lit.int .u8 n).wf = true) (hm : ∀ n ∈ more, (Lit.int .u8 n).wf = true) : Contract Tryz.prog 4 (([.row 0 0 (ints .u8 code), .row 0 0 (ints .u8 more)] : List PV).map .p) [] ([.c (.p (.bool true))], []) := by
  obtain ⟨e1, h1⟩ := ints_encB code hc
  obtain ⟨e2, h2⟩ := ints_encB more hm
  rw [e1, e2]
  exact evF_sound envOK pOK (T := T) hT 1048700 (cubes_true (k := 1048700) (Nat.le_refl _) _ _ h1 h2)
end Go.Proofs.YtfinhnimlmkooaaGreat
/- The law FnCubes of the program: for all arguments it returns true, and its arguments read as they did. -/
namespace Go.Proofs.YtfinhnimlmkooaaGreat.fnCubes
open Go.ChangeShapes Go.WideShapes Go.ChangeAt Go.RowKit Go.Dp
open Go.ChangeMaps (open_string shut_string)
set_option linter.unusedVariables false
theorem own : ownKnob Tryz.prog.godebug = none := by kernel_rfl
theorem laidOut : laidOutB Tryz.prog = true := by kernel_rfl
theorem spot_none {P : Program} {w : World} {r : Reach} {base : Nat} {t e : TypeId} {x : Addr} {len cap : Nat} (ht : P.underlying t = some (.slice e)) (h : Value.okWide P w r base t (.slice (some x) len cap)) : x.spot = none := by
  simp only [Value.okWide, ht, Cell.okWide, Cell.ok] at h
  exact h.2.2.2.1
set_option maxRecDepth 100000 in
theorem lifted (os : Os) (started : os.Started) (H : Type) (enc : TypeId × Value → H) :
    ReturnsInHanded {} Tryz.checked os 4 .any (Rows.fnCubesSpec.pre6 enc Tryz.prog Tryz.f4 Rows.fnCubesRow.domain false) (Rows.fnCubesSpec.post enc Tryz.prog Tryz.f4 false true false false) := by
  refine returnsInHanded_of_change_sized (C := Tryz.checked) own started (by kernel_rfl) Tryz.func4
    (ChangeSpec.witness6 (enc := enc) (C := Tryz.checked) false ⟨#[], #[.slice none 0 0, .slice none 0 0], []⟩ 8 (by kernel_rfl) (by kernel_rfl) (by kernel_rfl) (by kernel_rfl)) ?_
  intro W base args ds gs before hval0 hW hcnd hsz0 _
  have hval : ∀ (j : Nat) t v, Tryz.f4.params[j]? = some t → args[j]? = some v → Value.okWide Tryz.prog W .any base t v := hval0
  have hW' := hW
  obtain ⟨p, q, hA0, hV, rfl, hfz, hnd⟩ := hW
  have hA : DataW.TrodAll enc Tryz.prog W 0 (fun _ => true) true Tryz.f4.params.toList args.toList ds p := hA0
  rw [Tryz.params4] at hA hval
  obtain ⟨v0, vs0, d0, ds0, p0, q0, hargs, rfl, rfl, h0, r0⟩ := trodAll_cons hA
  obtain ⟨v1, vs1, d1, ds1, p1, q1, rfl, rfl, rfl, h1, r1⟩ := trodAll_cons r0
  obtain ⟨rfl, rfl, rfl⟩ := trodAll_nil r1
  obtain rfl : args = #[v0, v1] := by cases args; simp_all
  obtain ⟨rfl, rfl⟩ := trodVars_none hV
  have o0 := hval 0 22 v0 rfl rfl
  obtain ⟨a0, len0, cap0, rfl⟩ := okWide_slice Tryz.underlying22 o0
  have k0 := h0
  have lt0 : ∀ x ∈ p0, x.block < W.heap.size := by obtain ⟨m, hm⟩ := k0; exact DataW.trod_lt m _ _ _ hm
  obtain ⟨z0, w0⟩ : ∃ zs, IsRow .u8 W a0 len0 cap0 zs := by
    obtain ⟨fuel, hf⟩ := h0
    rcases open_ints Tryz.underlying22 Tryz.underlying5 (by kernel_rfl) hf with ⟨hcs, _⟩ | ⟨x, l, c, zs, hcs, _, hl, hm, hz, _, hcell, hwz⟩
    · simp [Value.cells] at hcs
      obtain ⟨rfl, rfl, rfl⟩ := hcs
      exact ⟨[], .inl ⟨rfl, rfl, rfl, rfl⟩⟩
    · simp [Value.cells] at hcs
      obtain ⟨rfl, rfl, rfl⟩ := hcs
      exact ⟨zs, .inr ⟨_, rfl, spot_none Tryz.underlying22 o0, hl, hm, by simpa using hz, hcell, hwz⟩⟩
  have o1 := hval 1 22 v1 rfl rfl
  obtain ⟨a1, len1, cap1, rfl⟩ := okWide_slice Tryz.underlying22 o1
  have k1 := h1
  have lt1 : ∀ x ∈ p1, x.block < W.heap.size := by obtain ⟨m, hm⟩ := k1; exact DataW.trod_lt m _ _ _ hm
  obtain ⟨z1, w1⟩ : ∃ zs, IsRow .u8 W a1 len1 cap1 zs := by
    obtain ⟨fuel, hf⟩ := h1
    rcases open_ints Tryz.underlying22 Tryz.underlying5 (by kernel_rfl) hf with ⟨hcs, _⟩ | ⟨x, l, c, zs, hcs, _, hl, hm, hz, _, hcell, hwz⟩
    · simp [Value.cells] at hcs
      obtain ⟨rfl, rfl, rfl⟩ := hcs
      exact ⟨[], .inl ⟨rfl, rfl, rfl, rfl⟩⟩
    · simp [Value.cells] at hcs
      obtain ⟨rfl, rfl, rfl⟩ := hcs
      exact ⟨zs, .inr ⟨_, rfl, spot_none Tryz.underlying22 o1, hl, hm, by simpa using hz, hcell, hwz⟩⟩
  clear hA0 hval0 hsz0
  refine (law_walk (P := Tryz.prog) (f := 4) (vs := [.row 0 0 (ints .u8 (z0.take len0)), .row 0 0 (ints .u8 (z1.take len1))]) (ys := [.slice a0 len0 cap0, .slice a1 len1 cap1]) rfl ?_ (lawFnCubes (z0.take len0) (z1.take len1) (fun n hn => w0.wf n (List.mem_of_mem_take hn)) (fun n hn => w1.wf n (List.mem_of_mem_take hn)))).mono fun e W' ⟨he, bel⟩ => ?_
  · intro i a y ha hy
    cases i with
    | zero => simp at ha hy; subst ha; subst hy; exact w0.rp
    | succ i =>
      cases i with
      | zero => simp at ha hy; subst ha; subst hy; exact w1.rp
      | succ i =>
        simp at ha
  subst he
  exact ⟨_, rfl, _, _, _, [], _, [], hW', trodAll_mk1 (shut_bool Tryz.underlying4 _), (trodAll_cons_mk (Below.trod laidOut (by kernel_rfl) (of_decide_eq_true (by kernel_rfl)) k0 bel lt0) (trodAll_cons_mk (Below.trod laidOut (by kernel_rfl) (of_decide_eq_true (by kernel_rfl)) k1 bel lt1) trodAll_mk0)), rfl, bel.frame _, fun h => by cases h⟩
theorem named : Tryz.pinned.checked.prog.funcNamed Rows.fnCubesRow.func = some 4 := by kernel_rfl
theorem closed : joinedFacts Tryz.pinned.checked.prog 4 Tryz.f4 Rows.fnCubesSpec Rows.fnCubesRow = true := by kernel_rfl
theorem inst : Tryz.f4.isInstance Tryz.pinned.checked.prog Rows.fnCubesRow.origin Rows.fnCubesRow.targs := of_decide_eq_true (by kernel_rfl)
theorem wrap : Tryz.f4.isWrapper Tryz.pinned.checked.prog Rows.fnCubesRow.wrapper Rows.fnCubesRow.mainSum := by unfold Func.isWrapper; first | (rw [if_pos (by decide +kernel)]; kernel_rfl) | (rw [if_neg (by decide +kernel)]; exact ⟨rfl, rfl⟩)
theorem over : Rows.fnCubesRow.holds Tryz.pinned (OpenSpec.ofChange Rows.fnCubesSpec) :=
  OpenClaim.holds_of_wide 4 Tryz.f4 rfl rfl rfl rfl rfl rfl rfl ⟨rfl, rfl, rfl, rfl, rfl⟩ rfl rfl rfl rfl rfl named Tryz.func4 closed inst wrap
    (fun os started H enc _ => lifted os started H enc)
theorem proved : Rows.FnCubesSaid := over
end Go.Proofs.YtfinhnimlmkooaaGreat.fnCubes
namespace Go.Proofs.YtfinhnimlmkooaaGreat
/-- The row, under a short name, for the claim. -/
theorem fnCubes_holds : Rows.FnCubesSaid := fnCubes.proved
#print axioms fnCubes_holds
end Go.Proofs.YtfinhnimlmkooaaGreat
