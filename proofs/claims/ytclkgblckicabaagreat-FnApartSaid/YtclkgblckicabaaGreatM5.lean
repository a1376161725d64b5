/- The law FnApart of the program: for all arguments it returns true, and its arguments read as they did. -/
import Derived.Test.YtclkgblckicabaaGreatM4
import Derived.Test.YtclkgblckicabaaGreatM2
import Derived.Test.YtclkgblckicabaaGreatRows
import Derived.WalkKit
import Derived.ProofKit
import Derived.OpenShut
import Derived.ShutString
import Derived.ChangeOld
import Derived.Below
import Derived.SizedLaws
/- FnApart: conditions that separate. -/
set_option linter.unusedVariables false
set_option linter.unusedSimpArgs false
set_option maxRecDepth 4000
namespace Go.Proofs.YtclkgblckicabaaGreat
open Go.Dp

theorem l20Same_loop {k : Nat} (a b : List (Nd)) (hl : a.length = b.length) (ha : a.length ≤ 1000000) : ∀ (n i : Nat), a.length - i < n → i ≤ a.length → L318_1 k n (encT a) (encT b) (a.length : Int) (i : Int) = r318 (decide (a.drop i = b.drop i))
  | 0, i, h, hi => by omega
  | n + 1, i, h, hi => by
    rw [sL318_1]
    by_cases hlt : i < a.length
    · have hd : decide ((i : Int) < (a.length : Int)) = true := by simpa using hlt
      have hnext : IntKind.i64.wrap ((i : Int) + 1) = ((i + 1 : Nat) : Int) := by rw [i64_id (by omega) (by omega)]; omega
      rw [hd, lookT hlt, lookT (t := b) (i := i) (by omega), drop_cons hlt, drop_cons (l := b) (by omega), hnext]
      simp only [cond_true, Option.bind_some, encN_shp, encN_op, encN_n, wi_beq, Bool.and_true, prod_beq, List.cons.injEq, Bool.decide_and]
      by_cases he : a[i] = b[i]
      · have e1 : (!decide (a[i] = b[i])) = false := by simp [he]
        have e2 : decide (a[i] = b[i]) = true := by simpa using he
        rw [e1, e2]
        simp only [cond_false, Bool.true_and]
        exact l20Same_loop a b hl ha n (i + 1) (by omega) (by omega)
      · have e1 : (!decide (a[i] = b[i])) = true := by
          simpa using he
        have e2 : decide (a[i] = b[i]) = false := by simpa using he
        rw [e1, e2]; rfl
    · have hd : decide ((i : Int) < (a.length : Int)) = false := by simpa using hlt
      rw [hd, List.drop_eq_nil_of_le (by omega), List.drop_eq_nil_of_le (by omega)]
      rfl
theorem l20Same_ok {k : Nat} (hk : 1000010 ≤ k) (a b : List (Nd)) (ha : a.length ≤ 1000000) : c318 k (encT a) (encT b) = r318 (decide (a = b)) := by
  obtain ⟨k, rfl⟩ : ∃ j, k = j + 1 := ⟨k - 1, by omega⟩
  rw [n318, encT_length, encT_length]
  by_cases hl : a.length = b.length
  · have e : ((a.length : Int) != (b.length : Int)) = false := by simp [hl]
    rw [e]
    exact l20Same_loop (k := k) a b hl ha k 0 (by omega) (by omega)
  · have e : ((a.length : Int) != (b.length : Int)) = true := by simp; omega
    have e2 : decide (a = b) = false := by simp; intro h; exact hl (by rw [h])
    rw [e, e2]; rfl
theorem eqT_loop {k : Nat} (a b : List (Nd)) (hl : a.length = b.length) (ha : a.length ≤ 1000000) : ∀ (n i : Nat), a.length - i < n → i ≤ a.length → L259_1 k n (encT a) (encT b) (a.length : Int) (i : Int) = r259 (decide (a.drop i = b.drop i))
  | 0, i, h, hi => by omega
  | n + 1, i, h, hi => by
    rw [sL259_1]
    by_cases hlt : i < a.length
    · have hd : decide ((i : Int) < (a.length : Int)) = true := by simpa using hlt
      have hnext : IntKind.i64.wrap ((i : Int) + 1) = ((i + 1 : Nat) : Int) := by rw [i64_id (by omega) (by omega)]; omega
      rw [hd, lookT hlt, lookT (t := b) (i := i) (by omega), drop_cons hlt, drop_cons (l := b) (by omega), hnext]
      simp only [cond_true, Option.bind_some, encN_shp, encN_op, encN_n, wi_beq, Bool.and_true, prod_beq, List.cons.injEq, Bool.decide_and]
      by_cases he : a[i] = b[i]
      · have e1 : (!decide (a[i] = b[i])) = false := by simp [he]
        have e2 : decide (a[i] = b[i]) = true := by simpa using he
        rw [e1, e2]
        simp only [cond_false, Bool.true_and]
        exact eqT_loop a b hl ha n (i + 1) (by omega) (by omega)
      · have e1 : (!decide (a[i] = b[i])) = true := by
          simpa using he
        have e2 : decide (a[i] = b[i]) = false := by simpa using he
        rw [e1, e2]; rfl
    · have hd : decide ((i : Int) < (a.length : Int)) = false := by simpa using hlt
      rw [hd, List.drop_eq_nil_of_le (by omega), List.drop_eq_nil_of_le (by omega)]
      rfl
theorem eqT_ok {k : Nat} (hk : 1000010 ≤ k) (a b : List (Nd)) (ha : a.length ≤ 1000000) : c259 k (encT a) (encT b) = r259 (decide (a = b)) := by
  obtain ⟨k, rfl⟩ : ∃ j, k = j + 1 := ⟨k - 1, by omega⟩
  rw [n259, encT_length, encT_length]
  by_cases hl : a.length = b.length
  · have e : ((a.length : Int) != (b.length : Int)) = false := by simp [hl]
    rw [e]
    exact eqT_loop (k := k) a b hl ha k 0 (by omega) (by omega)
  · have e : ((a.length : Int) != (b.length : Int)) = true := by simp; omega
    have e2 : decide (a = b) = false := by simp; intro h; exact hl (by rw [h])
    rw [e, e2]; rfl
/-! ### The contrary of a condition -/
def notT (t : List Nd) : List Nd := t ++ [(19, 0#64)]
theorem not_val {p : Prg} (hg : goodP p = true) {t : List Nd} (hkt : kindT p.wide p.vars t = 2) {s : List W} (hs : stOK p s = true) : vrun p.wide s (notT t) [] = some [1#64 - valD p.wide s t] ∧ (1#64 - valD p.wide s t == 1#64) = !holdT p t s := by
  obtain ⟨hw, hv⟩ := goodP_size hg
  obtain ⟨h1, h2⟩ := (stOK_of hw).1 hs
  obtain ⟨h3, h4⟩ := kind_val hkt (by omega) h1 h2
  refine ⟨?_, ?_⟩
  · unfold notT
    rw [vrun_app, h3]
    rfl
  · unfold holdT
    rcases le_one_cases (okV_two (by rw [hkt] at *; exact h4)) with h | h <;> rw [h] <;> decide
theorem holdsNot_ok {k : Nat} (hk : 1000010 ≤ k) (p : Prg) (hg : goodP p = true) (l1 l2 : List PV) (t : List Nd) (ht : t.length ≤ 100) (hkt : kindT p.wide p.vars t = 2) (s : List W) (hs : stOK p s = true) : c137 k p.wide p.vars l1 l2 (encT (notT t)) (encW s) = r137 (!holdT p t s) := by
  obtain ⟨k, rfl⟩ : ∃ j, k = j + 1 := ⟨k - 1, by omega⟩
  obtain ⟨hw, hv⟩ := goodP_size hg
  obtain ⟨hn1, hn2⟩ := not_val hg hkt hs
  rw [n137, valueOf_ok (by omega) hw s _ (by simp [notT]; omega) hn1]
  simp only [R122_r]
  have e : (1 : Int) = wi 1#64 := rfl
  rw [e, wi_beq, hn2]
/-! ### A condition in all of some states -/
theorem hall_loop {k : Nat} (w1 v1 : Int) (l1 l2 t1 : List PV) (f : Int → Bool) (l : List (Int)) (hl : l.length ≤ 100000) (hc : ∀ x ∈ l, c280 k x w1 v1 l1 l2 t1 = r280 (f x)) : ∀ (n i : Nat), l.length - i < n → i ≤ l.length → L273f280_1 k n (encZ l) w1 v1 l1 l2 t1 (l.length : Int) (i : Int) = r273f280 (fixI f i (l.drop i))
  | 0, i, h, hi => by omega
  | n + 1, i, h, hi => by
    rw [sL273f280_1]
    by_cases hlt : i < l.length
    · have hd : decide ((i : Int) < (l.length : Int)) = true := by simpa using hlt
      have hnext : IntKind.i64.wrap ((i : Int) + 1) = ((i + 1 : Nat) : Int) := by rw [i64_id (by omega) (by omega)]; omega
      rw [hd, encZ_lookup hlt, drop_cons hlt, hnext]
      simp only [cond_true, Option.bind_some, int_atInt]
      rw [hc _ (List.getElem_mem hlt)]
      simp only [R280_r, fixI]
      cases f l[i]
      · exact hall_loop w1 v1 l1 l2 t1 f l hl hc n (i + 1) (by omega) (by omega)
      · rfl
    · have hd : decide ((i : Int) < (l.length : Int)) = false := by simpa using hlt
      rw [hd, List.drop_eq_nil_of_le (by omega)]
      rfl
theorem hall_idx {k : Nat} (hk : 100010 ≤ k) (w1 v1 : Int) (l1 l2 t1 : List PV) (f : Int → Bool) (l : List (Int)) (hl : l.length ≤ 100000) (hc : ∀ x ∈ l, c280 k x w1 v1 l1 l2 t1 = r280 (f x)) : c273f280 (k + 1) (encZ l) w1 v1 l1 l2 t1 = r273f280 (fixI f 0 l) := by
  rw [n273f280, encZ_length]
  exact hall_loop (k := k) w1 v1 l1 l2 t1 f l hl hc k 0 (by omega) (by omega)
theorem hall_ok {k : Nat} (hk : 100010 ≤ k) (w1 v1 : Int) (l1 l2 t1 : List PV) (f : Int → Bool) (l : List (Int)) (hl : l.length ≤ 100000) (hc : ∀ x ∈ l, c280 k x w1 v1 l1 l2 t1 = r280 (f x)) : c187f280 (k + 2) (encZ l) w1 v1 l1 l2 t1 = r187f280 (l.any f) := by
  rw [n187f280, hall_idx (by omega) w1 v1 l1 l2 t1 f l hl hc]
  simp only [R273f280p_r, fixI_ge]
theorem holdsG_ok {k : Nat} (hk : 1000200 ≤ k) {p : Prg} (hs : smallP p = true) (l1 l2 : List PV) (t : List Nd) (f : Int → Bool) (hf : ∀ k', 1000010 ≤ k' → ∀ x, inS p x → c137 k' p.wide p.vars l1 l2 (encT t) (encW (sto p x)) = r137 (f x)) (l : List Int) (hl : l.length ≤ 1000) (hin : ∀ x ∈ l, inS p x) : c204 k p.wide p.vars l1 l2 (encT t) (encZ l) = r204 (l.all f) := by
  obtain ⟨k, rfl⟩ : ∃ j, k = j + 4 := ⟨k - 4, by omega⟩
  rw [n204, hall_ok (k := k + 1) (by omega) p.wide p.vars l1 l2 (encT t) (fun x => !f x) l (by omega) (fun x hx => by
    rw [n280, stoI_ok (by omega) hs _ _ (hin x hx)]
    simp only [R121_r]
    rw [hf k (by omega) x (hin x hx)]
    simp only [R137_r])]
  simp only [R187f280p_r, List.any_eq_not_all_not, Bool.not_not]
theorem holdsAll_ok {k : Nat} (hk : 1000200 ≤ k) {p : Prg} (hs : smallP p = true) (l1 l2 : List PV) (t : List Nd) (ht : t.length ≤ 100) (hkt : kindT p.wide p.vars t = 2) (l : List Int) (hl : l.length ≤ 1000) (hin : ∀ x ∈ l, inS p x) : c204 k p.wide p.vars l1 l2 (encT t) (encZ l) = r204 (l.all (hN p t)) :=
  holdsG_ok hk hs l1 l2 t (hN p t) (fun k' hk' x hx => holdsI_ok hk' p (small_good hs) l1 l2 t ht hkt _ (sto_ok hs hx)) l hl hin
theorem holdsAllNot_ok {k : Nat} (hk : 1000200 ≤ k) {p : Prg} (hs : smallP p = true) (l1 l2 : List PV) (t : List Nd) (ht : t.length ≤ 100) (hkt : kindT p.wide p.vars t = 2) (l : List Int) (hl : l.length ≤ 1000) (hin : ∀ x ∈ l, inS p x) : c204 k p.wide p.vars l1 l2 (encT (notT t)) (encZ l) = r204 (l.all fun x => !hN p t x) :=
  holdsG_ok hk hs l1 l2 (notT t) (fun x => !hN p t x) (fun k' hk' x hx => holdsNot_ok hk' p (small_good hs) l1 l2 t ht hkt _ (sto_ok hs hx)) l hl hin
/-! ### What separates -/
def sepB (p : Prg) (t : List Nd) (a b : List Int) : Bool := (a.all (hN p t) && b.all fun x => !hN p t x) || ((a.all fun x => !hN p t x) && b.all (hN p t))
theorem sepI_ok {k : Nat} (hk : 1000300 ≤ k) {p : Prg} (hs : smallP p = true) (l1 l2 : List PV) (t : List Nd) (ht : t.length ≤ 100) (hkt : kindT p.wide p.vars t = 2) (a b : List Int) (ha : a.length ≤ 1000) (hb : b.length ≤ 1000) (hain : ∀ x ∈ a, inS p x) (hbin : ∀ x ∈ b, inS p x) :
    c157 k p.wide p.vars l1 l2 (encT t) (encZ a) (encZ b) = r157 (sepB p t a b) := by
  obtain ⟨k, rfl⟩ : ∃ j, k = j + 1 := ⟨k - 1, by omega⟩
  have e1 : [PV.row 2 0 (encT t), PV.row 2 0 [PV.agg [.int .i64 19, .int .u64 0]]] = rowsP [encT t, encT [(19, 0#64)]] := rfl
  have e2 : [encT t, encT [(19, 0#64)]].flatten = encT (notT t) := by simp [notT, encT_app]
  rw [n157, e1, concat_ok (by omega) _ (by simp) (by simp; omega), e2, R183p_enc]
  rw [List.take_length, holdsAll_ok (by omega) hs _ _ t ht hkt a ha hain, holdsAllNot_ok (by omega) hs _ _ t ht hkt b hb hbin, holdsAllNot_ok (by omega) hs _ _ t ht hkt a ha hain, holdsAll_ok (by omega) hs _ _ t ht hkt b hb hbin]
  simp only [R204_r, R204p_r]
  unfold sepB
  cases a.all (hN p t) <;> cases (b.all fun x => !hN p t x) <;> cases (a.all fun x => !hN p t x) <;> rfl
theorem meet_not {p : Prg} {t : List Nd} {l : List Int} (hl : ∀ x ∈ l, inS p x) : (!meetI l (whI p t)) = l.all fun x => !hN p t x := by
  unfold meetI
  induction l with
  | nil => rfl
  | cons x l ih =>
    have h1 : (whI p t).contains x = hN p t x := by
      rw [Bool.eq_iff_iff, List.contains_iff_mem, whI_mem]
      simp [hl x (by simp)]
    simp only [List.any_cons, List.all_cons, h1, Bool.not_or, ih fun y hy => hl y (by simp [hy])]
theorem sepS_ok {k : Nat} (hk : 1000300 ≤ k) {p : Prg} (hs : smallP p = true) (l1 l2 : List PV) (t : List Nd) (ht : t.length ≤ 100) (hkt : kindT p.wide p.vars t = 2) (a b : List Int) (ha : a.length ≤ 1000) (hb : b.length ≤ 1000) (hain : ∀ x ∈ a, inS p x) (hbin : ∀ x ∈ b, inS p x) :
    c166 k p.wide p.vars l1 l2 (encT t) (encZ a) (encZ b) = r166 (sepB p t a b) := by
  obtain ⟨k, rfl⟩ : ∃ j, k = j + 1 := ⟨k - 1, by omega⟩
  have hwl : (whI p t).length ≤ 32 := Nat.le_trans (whN_len p t _ _) (nS_le hs).2
  rw [n166, those_ok (by omega) hs _ _ t ht hkt]
  simp only [R164_r]
  rw [within_ok (by omega) a _ (by omega) (by omega), within_ok (by omega) b _ (by omega) (by omega), meetS_ok (by omega) a _ (by omega) (by omega), meetS_ok (by omega) b _ (by omega) (by omega)]
  simp only [R206_r, R266_r, all_in hain, all_in hbin, meet_not hain, meet_not hbin]
  unfold sepB
  cases a.all (hN p t) <;> cases (b.all fun x => !hN p t x) <;> cases (a.all fun x => !hN p t x) <;> rfl
theorem sep_comm (p : Prg) (t : List Nd) (a b : List Int) : sepB p t a b = sepB p t b a := by
  unfold sepB
  cases a.all (hN p t) <;> cases (b.all fun x => !hN p t x) <;> cases (a.all fun x => !hN p t x) <;> cases b.all (hN p t) <;> rfl
/-! ### What is asked -/
def twoL (p : Prg) (a b : List Int) : Bool := smallP p && (incG (nS p : Int) none a && incG (nS p : Int) none b)
theorem twoL_get {p : Prg} {a b : List Int} (h : twoL p a b = true) : smallP p = true ∧ (∀ x ∈ a, inS p x) ∧ ∀ x ∈ b, inS p x := by
  simp only [twoL, Bool.and_eq_true] at h
  exact ⟨h.1, fun x hx => incG_mem h.2.1 x hx, fun x hx => incG_mem h.2.2 x hx⟩
theorem areTwo_ok {k : Nat} (hk : 1000300 ≤ k) (p : Prg) (hp : FitP p) (a b : List Int) (ha : a.length ≤ 1000) (hb : b.length ≤ 1000) : c150 k p.wide p.vars (encT p.start) (encCms p.cmds) (encZ a) (encZ b) = r150 (twoL p a b) := by
  obtain ⟨k, rfl⟩ : ∃ j, k = j + 1 := ⟨k - 1, by omega⟩
  rw [n150, isSmall_ok (by omega) p hp]
  simp only [R112_r, twoL]
  cases hs : smallP p
  · rfl
  simp only [cond_true, Bool.true_and]
  rw [nSI_ok (by omega) hs]
  simp only [R114_r]
  rw [inc_ok (by omega) a (by omega), inc_ok (by omega) b (by omega)]
  simp only [R177_r]
  cases incG (nS p : Int) none a <;> rfl
theorem l20States_ok {k : Nat} (hk : 100100 ≤ k) {p : Prg} (hs : smallP p = true) (l1 l2 : List PV) (a : List Int) (ha : a.length ≤ 1000) : c155 k p.wide p.vars l1 l2 (encZ a) = r155 (incG (nS p : Int) none a) := by
  obtain ⟨k, rfl⟩ : ∃ j, k = j + 1 := ⟨k - 1, by omega⟩
  have hle := nS_le hs
  rw [n155, nSS_ok (by omega) hs]
  simp only [R116_r]
  rw [i64_id (by omega) (by omega), rise_ok (by omega) a (by omega)]
  simp only [R179_r]
def sepOK (p : Prg) (t : List Nd) (a b : List Int) : Bool := twoL p a b && (kindT p.wide p.vars t == 2)
theorem SepI_ok {k : Nat} (hk : 1000400 ≤ k) (p : Prg) (hp : FitP p) (t : List Nd) (ht : t.length ≤ 100) (a b : List Int) (ha : a.length ≤ 1000) (hb : b.length ≤ 1000) : c41 k p.wide p.vars (encT p.start) (encCms p.cmds) (encT t) (encZ a) (encZ b) = r41 (sepOK p t a b && sepB p t a b) (sepOK p t a b) := by
  obtain ⟨k, rfl⟩ : ∃ j, k = j + 1 := ⟨k - 1, by omega⟩
  rw [n41, areTwo_ok (by omega) p hp a b ha hb, cond_ok (by omega) _ _ _ _ t (by omega)]
  simp only [R150_r, R153_r, sepOK]
  cases h : twoL p a b
  · rfl
  cases hk2 : (kindT p.wide p.vars t == 2)
  · rfl
  obtain ⟨hs, h1, h2⟩ := twoL_get h
  simp only [Bool.not_true, cond_false]
  rw [sepI_ok (by omega) hs _ _ t ht (by simpa using hk2) a b ha hb h1 h2]
  rfl
theorem SepS_ok {k : Nat} (hk : 1000400 ≤ k) (p : Prg) (hp : FitP p) (t : List Nd) (ht : t.length ≤ 100) (a b : List Int) (ha : a.length ≤ 1000) (hb : b.length ≤ 1000) : c48 k p.wide p.vars (encT p.start) (encCms p.cmds) (encT t) (encZ a) (encZ b) = r48 (sepOK p t a b && sepB p t a b) (sepOK p t a b) := by
  obtain ⟨k, rfl⟩ : ∃ j, k = j + 1 := ⟨k - 1, by omega⟩
  rw [n48, l7Small_ok (by omega) p hp, asks_ok (by omega) _ _ _ _ t (by omega)]
  simp only [R115_r, R110_r, sepOK]
  cases hs : smallP p
  · simp only [twoL, hs]; rfl
  cases hk2 : (kindT p.wide p.vars t == 2)
  · simp only [Bool.and_false]; rfl
  simp only [Bool.not_true, cond_false, Bool.and_true]
  rw [l20States_ok (by omega) hs _ _ a ha, l20States_ok (by omega) hs _ _ b hb]
  simp only [R155_r]
  cases h1 : incG (nS p : Int) none a
  · simp only [twoL, hs, h1]; rfl
  cases h2 : incG (nS p : Int) none b
  · simp only [twoL, hs, h1, h2]; rfl
  have ht2 : twoL p a b = true := by simp [twoL, hs, h1, h2]
  obtain ⟨_, h3, h4⟩ := twoL_get ht2
  simp only [Bool.not_true, cond_false]
  rw [sepS_ok (by omega) hs _ _ t ht (by simpa using hk2) a b ha hb h3 h4, ht2]
  rfl
/-! ### The first that separates -/
def allC (p : Prg) (ts : List (List Nd)) : Bool := ts.all fun t => kindT p.wide p.vars t == 2
theorem allC_get {p : Prg} {ts : List (List Nd)} (h : allC p ts = true) : ∀ t ∈ ts, kindT p.wide p.vars t = 2 := by simpa [allC] using h
theorem notc_loop {k : Nat} (w1 v1 : Int) (l1 l2 : List PV) (f : List Nd → Bool) (l : List (List Nd)) (hl : l.length ≤ 100000) (hc : ∀ x ∈ l, c152 k (encT x) w1 v1 l1 l2 = r152 (f x)) : ∀ (n i : Nat), l.length - i < n → i ≤ l.length → L254f152_1 k n (encTT l) w1 v1 l1 l2 (l.length : Int) (i : Int) = r254f152 (fixI f i (l.drop i))
  | 0, i, h, hi => by omega
  | n + 1, i, h, hi => by
    rw [sL254f152_1]
    by_cases hlt : i < l.length
    · have hd : decide ((i : Int) < (l.length : Int)) = true := by simpa using hlt
      have hnext : IntKind.i64.wrap ((i : Int) + 1) = ((i + 1 : Nat) : Int) := by rw [i64_id (by omega) (by omega)]; omega
      rw [hd, lookP_nat, encTT_get, List.getElem?_eq_getElem hlt, drop_cons hlt, hnext]
      simp only [cond_true, Option.map_some, Option.bind_some, row_atRow]
      rw [hc _ (List.getElem_mem hlt)]
      simp only [R152_r, fixI]
      cases f l[i]
      · exact notc_loop w1 v1 l1 l2 f l hl hc n (i + 1) (by omega) (by omega)
      · rfl
    · have hd : decide ((i : Int) < (l.length : Int)) = false := by simpa using hlt
      rw [hd, List.drop_eq_nil_of_le (by omega)]
      rfl
theorem notc_idx {k : Nat} (hk : 100010 ≤ k) (w1 v1 : Int) (l1 l2 : List PV) (f : List Nd → Bool) (l : List (List Nd)) (hl : l.length ≤ 100000) (hc : ∀ x ∈ l, c152 k (encT x) w1 v1 l1 l2 = r152 (f x)) : c254f152 (k + 1) (encTT l) w1 v1 l1 l2 = r254f152 (fixI f 0 l) := by
  rw [n254f152, encTT_length]
  exact notc_loop (k := k) w1 v1 l1 l2 f l hl hc k 0 (by omega) (by omega)
theorem notc_ok {k : Nat} (hk : 100010 ≤ k) (w1 v1 : Int) (l1 l2 : List PV) (f : List Nd → Bool) (l : List (List Nd)) (hl : l.length ≤ 100000) (hc : ∀ x ∈ l, c152 k (encT x) w1 v1 l1 l2 = r152 (f x)) : c151f152 (k + 2) (encTT l) w1 v1 l1 l2 = r151f152 (l.any f) := by
  rw [n151f152, notc_idx (by omega) w1 v1 l1 l2 f l hl hc]
  simp only [R254f152p_r, fixI_ge]
theorem notp_loop {k : Nat} (w1 v1 : Int) (l1 l2 : List PV) (f : List Nd → Bool) (l : List (List Nd)) (hl : l.length ≤ 100000) (hc : ∀ x ∈ l, c233 k (encT x) w1 v1 l1 l2 = r233 (f x)) : ∀ (n i : Nat), l.length - i < n → i ≤ l.length → L254f233_1 k n (encTT l) w1 v1 l1 l2 (l.length : Int) (i : Int) = r254f233 (fixI f i (l.drop i))
  | 0, i, h, hi => by omega
  | n + 1, i, h, hi => by
    rw [sL254f233_1]
    by_cases hlt : i < l.length
    · have hd : decide ((i : Int) < (l.length : Int)) = true := by simpa using hlt
      have hnext : IntKind.i64.wrap ((i : Int) + 1) = ((i + 1 : Nat) : Int) := by rw [i64_id (by omega) (by omega)]; omega
      rw [hd, lookP_nat, encTT_get, List.getElem?_eq_getElem hlt, drop_cons hlt, hnext]
      simp only [cond_true, Option.map_some, Option.bind_some, row_atRow]
      rw [hc _ (List.getElem_mem hlt)]
      simp only [R233_r, fixI]
      cases f l[i]
      · exact notp_loop w1 v1 l1 l2 f l hl hc n (i + 1) (by omega) (by omega)
      · rfl
    · have hd : decide ((i : Int) < (l.length : Int)) = false := by simpa using hlt
      rw [hd, List.drop_eq_nil_of_le (by omega)]
      rfl
theorem notp_idx {k : Nat} (hk : 100010 ≤ k) (w1 v1 : Int) (l1 l2 : List PV) (f : List Nd → Bool) (l : List (List Nd)) (hl : l.length ≤ 100000) (hc : ∀ x ∈ l, c233 k (encT x) w1 v1 l1 l2 = r233 (f x)) : c254f233 (k + 1) (encTT l) w1 v1 l1 l2 = r254f233 (fixI f 0 l) := by
  rw [n254f233, encTT_length]
  exact notp_loop (k := k) w1 v1 l1 l2 f l hl hc k 0 (by omega) (by omega)
theorem notp_ok {k : Nat} (hk : 100010 ≤ k) (w1 v1 : Int) (l1 l2 : List PV) (f : List Nd → Bool) (l : List (List Nd)) (hl : l.length ≤ 100000) (hc : ∀ x ∈ l, c233 k (encT x) w1 v1 l1 l2 = r233 (f x)) : c151f233 (k + 2) (encTT l) w1 v1 l1 l2 = r151f233 (l.any f) := by
  rw [n151f233, notp_idx (by omega) w1 v1 l1 l2 f l hl hc]
  simp only [R254f233p_r, fixI_ge]
theorem fapart_loop {k : Nat} (w1 v1 : Int) (l1 l2 a1 b1 : List PV) (f : List Nd → Bool) (l : List (List Nd)) (hl : l.length ≤ 100000) (hc : ∀ x ∈ l, c256 k (encT x) w1 v1 l1 l2 a1 b1 = r256 (f x)) : ∀ (n i : Nat), l.length - i < n → i ≤ l.length → L254f256_1 k n (encTT l) w1 v1 l1 l2 a1 b1 (l.length : Int) (i : Int) = r254f256 (fixI f i (l.drop i))
  | 0, i, h, hi => by omega
  | n + 1, i, h, hi => by
    rw [sL254f256_1]
    by_cases hlt : i < l.length
    · have hd : decide ((i : Int) < (l.length : Int)) = true := by simpa using hlt
      have hnext : IntKind.i64.wrap ((i : Int) + 1) = ((i + 1 : Nat) : Int) := by rw [i64_id (by omega) (by omega)]; omega
      rw [hd, lookP_nat, encTT_get, List.getElem?_eq_getElem hlt, drop_cons hlt, hnext]
      simp only [cond_true, Option.map_some, Option.bind_some, row_atRow]
      rw [hc _ (List.getElem_mem hlt)]
      simp only [R256_r, fixI]
      cases f l[i]
      · exact fapart_loop w1 v1 l1 l2 a1 b1 f l hl hc n (i + 1) (by omega) (by omega)
      · rfl
    · have hd : decide ((i : Int) < (l.length : Int)) = false := by simpa using hlt
      rw [hd, List.drop_eq_nil_of_le (by omega)]
      rfl
theorem fapart_idx {k : Nat} (hk : 100010 ≤ k) (w1 v1 : Int) (l1 l2 a1 b1 : List PV) (f : List Nd → Bool) (l : List (List Nd)) (hl : l.length ≤ 100000) (hc : ∀ x ∈ l, c256 k (encT x) w1 v1 l1 l2 a1 b1 = r256 (f x)) : c254f256 (k + 1) (encTT l) w1 v1 l1 l2 a1 b1 = r254f256 (fixI f 0 l) := by
  rw [n254f256, encTT_length]
  exact fapart_loop (k := k) w1 v1 l1 l2 a1 b1 f l hl hc k 0 (by omega) (by omega)
def firstI (p : Prg) (ts : List (List Nd)) (a b : List Int) : Int := fixI (fun t => sepB p t a b) 0 ts
theorem firstI_ok {k : Nat} (hk : 1000400 ≤ k) {p : Prg} (hs : smallP p = true) (l1 l2 : List PV) (ts : List (List Nd)) (hl : ts.length ≤ 1000) (ht : ∀ t ∈ ts, t.length ≤ 100) (hc : allC p ts = true) (a b : List Int) (ha : a.length ≤ 1000) (hb : b.length ≤ 1000) (hain : ∀ x ∈ a, inS p x) (hbin : ∀ x ∈ b, inS p x) :
    c154 k p.wide p.vars l1 l2 (encTT ts) (encZ a) (encZ b) = r154 (firstI p ts a b) := by
  obtain ⟨k, rfl⟩ : ∃ j, k = j + 3 := ⟨k - 3, by omega⟩
  rw [n154, fapart_idx (k := k + 1) (by omega) p.wide p.vars l1 l2 (encZ a) (encZ b) (fun t => sepB p t a b) ts (by omega) (fun t h => by
    rw [n256, sepI_ok (by omega) hs _ _ t (ht t h) (allC_get hc t h) a b ha hb hain hbin]
    simp only [R157_r])]
  simp only [R254f256p_r, firstI]
theorem firstS_loop {k : Nat} (hk : 1000400 ≤ k) {p : Prg} (hs : smallP p = true) (l1 l2 : List PV) (ts : List (List Nd)) (hl : ts.length ≤ 1000) (ht : ∀ t ∈ ts, t.length ≤ 100) (hc : allC p ts = true) (a b : List Int) (ha : a.length ≤ 1000) (hb : b.length ≤ 1000) (hain : ∀ x ∈ a, inS p x) (hbin : ∀ x ∈ b, inS p x) : ∀ (n i : Nat), ts.length - i < n → i ≤ ts.length →
    L156_1 k n (encZ a) (encZ b) (encTT ts) (ts.length : Int) (i : Int) p.wide p.vars l1 l2 = r156 (fixI (fun t => sepB p t a b) i (ts.drop i))
  | 0, i, h, hi => by omega
  | n + 1, i, h, hi => by
    rw [sL156_1]
    by_cases hlt : i < ts.length
    · have hd : decide ((i : Int) < (ts.length : Int)) = true := by simpa using hlt
      have hnext : IntKind.i64.wrap ((i : Int) + 1) = ((i + 1 : Nat) : Int) := by rw [i64_id (by omega) (by omega)]; omega
      have hm := List.getElem_mem hlt
      rw [hd, lookP_nat, encTT_get, List.getElem?_eq_getElem hlt, drop_cons hlt, hnext]
      simp only [cond_true, Option.map_some, Option.bind_some, row_atRow]
      rw [sepS_ok (by omega) hs _ _ _ (ht _ hm) (allC_get hc _ hm) a b ha hb hain hbin]
      simp only [R166_r, fixI]
      cases sepB p ts[i] a b
      · exact firstS_loop hk hs l1 l2 ts hl ht hc a b ha hb hain hbin n (i + 1) (by omega) (by omega)
      · rfl
    · have hd : decide ((i : Int) < (ts.length : Int)) = false := by simpa using hlt
      rw [hd, List.drop_eq_nil_of_le (by omega)]
      rfl
def fOK (p : Prg) (ts : List (List Nd)) (a b : List Int) : Bool := twoL p a b && (decide (ts.length ≤ 40) && allC p ts)
def faOK (p : Prg) (ts : List (List Nd)) (a b : List Int) : Bool := fOK p ts a b && decide (firstI p ts a b ≥ 0)
def faK (p : Prg) (ts : List (List Nd)) (a b : List Int) : Int := bif faOK p ts a b then firstI p ts a b else 0
theorem any_not_all {α : Type} (f : α → Bool) : ∀ l : List α, (l.any fun x => !f x) = !l.all f
  | [] => rfl
  | x :: l => by simp [any_not_all f l]
theorem FirstI_ok {k : Nat} (hk : 1000500 ≤ k) (p : Prg) (hp : FitP p) (ts : List (List Nd)) (hl : ts.length ≤ 1000) (ht : ∀ t ∈ ts, t.length ≤ 100) (a b : List Int) (ha : a.length ≤ 1000) (hb : b.length ≤ 1000) :
    c39 k p.wide p.vars (encT p.start) (encCms p.cmds) (encTT ts) (encZ a) (encZ b) = r39 (faK p ts a b) (faOK p ts a b) := by
  obtain ⟨k, rfl⟩ : ∃ j, k = j + 4 := ⟨k - 4, by omega⟩
  rw [n39, areTwo_ok (by omega) p hp a b ha hb, encTT_length]
  simp only [R150_r]
  cases h : twoL p a b
  · simp [faK, faOK, fOK, h]
  by_cases h40 : ts.length ≤ 40
  · have e1 : decide ((ts.length : Int) > 40) = false := by simp; omega
    have e2 : decide (ts.length ≤ 40) = true := by simpa using h40
    rw [e1, notc_ok (k := k + 1) (by omega) p.wide p.vars _ _ (fun t => !(kindT p.wide p.vars t == 2)) ts (by omega) (fun t h => by
      rw [n152, cond_ok (by omega) _ _ _ _ t (by have := ht t h; omega)]
      simp only [R153_r])]
    simp only [R151f152p_r, any_not_all, Bool.not_true, cond_false]
    change (bif !allC p ts then _ else _) = _
    cases hc : allC p ts
    · simp [faK, faOK, fOK, h, hc]
    · obtain ⟨hs, h1, h2⟩ := twoL_get h
      simp only [Bool.not_true, cond_false]
      rw [firstI_ok (by omega) hs _ _ ts hl ht hc a b ha hb h1 h2]
      simp only [R154_r, faK, faOK, fOK, h, hc, e2, Bool.and_self, Bool.true_and]
      by_cases hge : firstI p ts a b ≥ 0
      · have e3 : decide (firstI p ts a b ≥ 0) = true := by simpa using hge
        have e4 : maxI 0 (firstI p ts a b) = firstI p ts a b := by
          unfold maxI
          by_cases h0 : firstI p ts a b > 0
          · simp [h0]
          · simp [h0]; omega
        rw [e3, e4]
        rfl
      · have e3 : decide (firstI p ts a b ≥ 0) = false := by simpa using hge
        have e4 : maxI 0 (firstI p ts a b) = 0 := by
          unfold maxI
          have h0 : ¬ firstI p ts a b > 0 := by omega
          simp [h0]
        rw [e3, e4]
        rfl
  · have e1 : decide ((ts.length : Int) > 40) = true := by simp; omega
    have e2 : decide (ts.length ≤ 40) = false := by simpa using h40
    rw [e1]
    simp [faK, faOK, fOK, e2]
theorem FirstS_loop {k : Nat} (hk : 1000500 ≤ k) {p : Prg} (hs : smallP p = true) (hp : FitP p) (ts : List (List Nd)) (hl : ts.length ≤ 1000) (ht : ∀ t ∈ ts, t.length ≤ 100) (a b : List Int) (ha : a.length ≤ 1000) (hb : b.length ≤ 1000) (hain : ∀ x ∈ a, inS p x) (hbin : ∀ x ∈ b, inS p x) : ∀ (n i : Nat), ts.length - i < n → i ≤ ts.length → (∀ j (h : j < ts.length), j < i → kindT p.wide p.vars ts[j] = 2) →
    L40_1 k n (encTT ts) (encZ a) (encZ b) (encTT ts) (ts.length : Int) (i : Int) p.wide p.vars (encT p.start) (encCms p.cmds) = r40 (bif allC p ts && decide (firstI p ts a b ≥ 0) then firstI p ts a b else 0) (allC p ts && decide (firstI p ts a b ≥ 0))
  | 0, i, h, hi, hj => by omega
  | n + 1, i, h, hi, hj => by
    rw [sL40_1]
    by_cases hlt : i < ts.length
    · have hd : decide ((i : Int) < (ts.length : Int)) = true := by simpa using hlt
      have hnext : IntKind.i64.wrap ((i : Int) + 1) = ((i + 1 : Nat) : Int) := by rw [i64_id (by omega) (by omega)]; omega
      have hm := List.getElem_mem hlt
      rw [hd, lookP_nat, encTT_get, List.getElem?_eq_getElem hlt, hnext]
      simp only [cond_true, Option.map_some, Option.bind_some, row_atRow]
      rw [asks_ok (by omega) _ _ _ _ _ (by have := ht _ hm; omega)]
      simp only [R110_r]
      cases hk2 : (kindT p.wide p.vars ts[i] == 2)
      · have hc : allC p ts = false := by
          cases hc : allC p ts
          · rfl
          · have := allC_get hc _ hm
            rw [this] at hk2
            cases hk2
        rw [hc]; rfl
      · refine FirstS_loop hk hs hp ts hl ht a b ha hb hain hbin n (i + 1) (by omega) (by omega) fun j h2 h3 => ?_
        by_cases he : j = i
        · subst he; simpa using hk2
        · exact hj j h2 (by omega)
    · have hd : decide ((i : Int) < (ts.length : Int)) = false := by simpa using hlt
      have hc : allC p ts = true := by
        simp only [allC, List.all_eq_true, beq_iff_eq]
        intro t h
        obtain ⟨j, hjl, rfl⟩ := List.getElem_of_mem h
        exact hj j hjl (by omega)
      obtain ⟨k, rfl⟩ : ∃ j, k = j + 1 := ⟨k - 1, by omega⟩
      rw [hd, n156, encTT_length]
      simp only [cond_false]
      have h' : L156_1 k k (encZ a) (encZ b) (encTT ts) (ts.length : Int) 0 p.wide p.vars (encT p.start) (encCms p.cmds) = r156 (firstI p ts a b) := firstS_loop (k := k) (by omega) hs _ _ ts hl ht hc a b ha hb hain hbin k 0 (by omega) (by omega)
      rw [h', hc]
      simp only [R156_r, Bool.true_and]
      by_cases hge : firstI p ts a b ≥ 0
      · have e1 : decide (firstI p ts a b < 0) = false := by simp; omega
        have e2 : decide (firstI p ts a b ≥ 0) = true := by simpa using hge
        rw [e1, e2]; rfl
      · have e1 : decide (firstI p ts a b < 0) = true := by simp; omega
        have e2 : decide (firstI p ts a b ≥ 0) = false := by simpa using hge
        rw [e1, e2]; rfl
theorem FirstS_ok {k : Nat} (hk : 1000600 ≤ k) (p : Prg) (hp : FitP p) (ts : List (List Nd)) (hl : ts.length ≤ 1000) (ht : ∀ t ∈ ts, t.length ≤ 100) (a b : List Int) (ha : a.length ≤ 1000) (hb : b.length ≤ 1000) :
    c40 k p.wide p.vars (encT p.start) (encCms p.cmds) (encTT ts) (encZ a) (encZ b) = r40 (faK p ts a b) (faOK p ts a b) := by
  obtain ⟨k, rfl⟩ : ∃ j, k = j + 1 := ⟨k - 1, by omega⟩
  rw [n40, l7Small_ok (by omega) p hp, encTT_length]
  simp only [R115_r]
  cases hs : smallP p
  · simp [faK, faOK, fOK, twoL, hs]
  by_cases h40 : ts.length ≤ 40
  · have e1 : decide ((ts.length : Int) > 40) = false := by simp; omega
    have e2 : decide (ts.length ≤ 40) = true := by simpa using h40
    rw [e1, l20States_ok (by omega) hs _ _ a ha, l20States_ok (by omega) hs _ _ b hb]
    simp only [R155_r, Bool.not_true, cond_false]
    cases h1 : incG (nS p : Int) none a
    · simp [faK, faOK, fOK, twoL, hs, h1]
    cases h2 : incG (nS p : Int) none b
    · simp [faK, faOK, fOK, twoL, hs, h1, h2]
    have ht2 : twoL p a b = true := by simp [twoL, hs, h1, h2]
    obtain ⟨_, h3, h4⟩ := twoL_get ht2
    simp only [Bool.not_true, cond_false]
    have := FirstS_loop (k := k) (by omega) hs hp ts hl ht a b ha hb h3 h4 k 0 (by omega) (by omega) (fun j h h' => by omega)
    have h' : L40_1 k k (encTT ts) (encZ a) (encZ b) (encTT ts) (ts.length : Int) 0 p.wide p.vars (encT p.start) (encCms p.cmds) = _ := this
    rw [h']
    simp only [faK, faOK, fOK, ht2, e2, Bool.true_and]
  · have e1 : decide ((ts.length : Int) > 40) = true := by simp; omega
    have e2 : decide (ts.length ≤ 40) = false := by simpa using h40
    rw [e1]
    simp [faK, faOK, fOK, e2]
end Go.Proofs.YtclkgblckicabaaGreat
/- Terms as trees. -/
set_option linter.unusedVariables false
set_option linter.unusedSimpArgs false
set_option maxRecDepth 4000
namespace Go.Proofs.YtclkgblckicabaaGreat
open Go.Dp

inductive Tr where
  | leaf (x : Nd)
  | un (x : Nd) (a : Tr)
  | bin (x : Nd) (a b : Tr)
def Tr.root : Tr → Nd
  | .leaf x => x
  | .un x _ => x
  | .bin x _ _ => x
def Tr.flat : Tr → List Nd
  | .leaf x => [x]
  | .un x a => a.flat ++ [x]
  | .bin x a b => a.flat ++ b.flat ++ [x]
def Tr.kind (T : Tr) : Int := (need T.root.1).2.2
def Tr.ok (wide vars : Int) : Tr → Prop
  | .leaf x => (need x.1).1 = 0 ∧ (need x.1).2.2 ≠ 0 ∧ leafOK wide vars x = true
  | .un x a => (need x.1).1 = 1 ∧ (need x.1).2.2 ≠ 0 ∧ leafOK wide vars x = true ∧ a.kind = (need x.1).2.1 ∧ a.ok wide vars
  | .bin x a b => (need x.1).1 = 2 ∧ (need x.1).2.2 ≠ 0 ∧ leafOK wide vars x = true ∧ a.kind = (need x.1).2.1 ∧ b.kind = (need x.1).2.1 ∧ a.ok wide vars ∧ b.ok wide vars
theorem Tr.flat_pos : ∀ T : Tr, 1 ≤ T.flat.length
  | .leaf x => by simp [Tr.flat]
  | .un x a => by simp [Tr.flat]
  | .bin x a b => by (simp [Tr.flat]; try omega)
theorem Tr.flat_last : ∀ T : Tr, ∃ r, T.flat = r ++ [T.root]
  | .leaf x => ⟨[], rfl⟩
  | .un x a => ⟨a.flat, rfl⟩
  | .bin x a b => ⟨a.flat ++ b.flat, rfl⟩
def flats : List Tr → List Nd
  | [] => []
  | T :: l => flats l ++ T.flat
theorem parse {wide vars : Int} : ∀ (t : List Nd) (l : List Tr) (ks' : List Int), kst wide vars t (l.map Tr.kind) = some ks' → (∀ T ∈ l, T.ok wide vars) → ∃ l', flats l' = flats l ++ t ∧ l'.map Tr.kind = ks' ∧ ∀ T ∈ l', T.ok wide vars
  | [], l, ks', h, hl => ⟨l, by simp, by simp only [kst] at h; injection h, hl⟩
  | x :: t, l, ks', h, hl => by
    simp only [kst] at h
    split at h
    · cases h
    · rename_i h0
      split at h
      · cases h
      · rename_i h1
        split at h
        · cases h
        · rename_i h2
          split at h
          · cases h
          · rename_i h3
            have hlf : leafOK wide vars x = true := by simpa using h1
            rcases need_cases h0 with ⟨c1, hn⟩ | ⟨c1, hn⟩ | ⟨c1, hn⟩ | ⟨_, _, _, _, _, hn⟩
            · rw [hn, List.drop_zero] at h
              obtain ⟨l', g1, g2, g3⟩ := parse t (.leaf x :: l) ks' h (fun T hT => by
                rcases List.mem_cons.1 hT with rfl | hT
                · exact ⟨hn, h0, hlf⟩
                · exact hl T hT)
              exact ⟨l', by rw [g1]; simp [flats, Tr.flat], g2, g3⟩
            · rw [hn, List.drop_zero] at h
              obtain ⟨l', g1, g2, g3⟩ := parse t (.leaf x :: l) ks' h (fun T hT => by
                rcases List.mem_cons.1 hT with rfl | hT
                · exact ⟨hn, h0, hlf⟩
                · exact hl T hT)
              exact ⟨l', by rw [g1]; simp [flats, Tr.flat], g2, g3⟩
            · rw [hn] at h h2 h3
              cases l with
              | nil => simp at h2
              | cons a l =>
                have ha : a.kind = (need x.1).2.1 := by simpa using h3
                obtain ⟨l', g1, g2, g3⟩ := parse t (.un x a :: l) ks' h (fun T hT => by
                  rcases List.mem_cons.1 hT with rfl | hT
                  · exact ⟨hn, h0, hlf, ha, hl a (by simp)⟩
                  · exact hl T (by simp [hT]))
                exact ⟨l', by rw [g1]; simp [flats, Tr.flat], g2, g3⟩
            · rw [hn] at h h2 h3
              cases l with
              | nil => simp at h2
              | cons b l =>
                cases l with
                | nil => simp at h2
                | cons a l =>
                  have hab : b.kind = (need x.1).2.1 ∧ a.kind = (need x.1).2.1 := by simpa using h3
                  obtain ⟨l', g1, g2, g3⟩ := parse t (.bin x a b :: l) ks' h (fun T hT => by
                    rcases List.mem_cons.1 hT with rfl | hT
                    · exact ⟨hn, h0, hlf, hab.2, hab.1, hl a (by simp), hl b (by simp)⟩
                    · exact hl T (by simp [hT]))
                  exact ⟨l', by rw [g1]; simp [flats, Tr.flat], g2, g3⟩
theorem good_tree {wide vars : Int} {t : List Nd} (h : goodT wide vars t = true) : ∃ T : Tr, T.flat = t ∧ T.ok wide vars ∧ T.kind = kindT wide vars t := by
  obtain ⟨hk, _⟩ := good_kst h
  obtain ⟨l, h1, h2, h3⟩ := parse t [] _ hk (by simp)
  cases l with
  | nil => simp at h2
  | cons T l =>
    cases l with
    | nil =>
      simp at h2
      exact ⟨T, by simpa [flats] using h1, h3 T (by simp), h2⟩
    | cons T2 l => simp at h2
theorem Tr.run_kinds {wide vars : Int} : ∀ (T : Tr), T.ok wide vars → ∀ ks, kst wide vars T.flat ks = some (T.kind :: ks)
  | .leaf x, h, ks => by
    obtain ⟨h1, h2, h3⟩ := h
    simp only [Tr.flat, kst]
    rw [if_neg h2, if_neg (by simp [h3]), if_neg (by omega), h1]
    simp [Tr.kind, Tr.root]
  | .un x a, h, ks => by
    obtain ⟨h1, h2, h3, h4, h5⟩ := h
    simp only [Tr.flat, kst_app, Tr.run_kinds a h5 ks, Option.bind_some, kst]
    rw [if_neg h2, if_neg (by simp [h3]), if_neg (by simp; omega), h1]
    simp [Tr.kind, Tr.root] at h4 ⊢
    simp [h4]
  | .bin x a b, h, ks => by
    obtain ⟨h1, h2, h3, h4, h5, h6, h7⟩ := h
    simp only [Tr.flat, kst_app, Tr.run_kinds a h6 ks, Option.bind_some, Tr.run_kinds b h7, kst]
    rw [if_neg h2, if_neg (by simp [h3]), if_neg (by simp; omega), h1]
    simp [Tr.kind, Tr.root] at h4 h5 ⊢
    simp [h4, h5]
theorem tree_good {wide vars : Int} {T : Tr} (h : T.ok wide vars) (hw : isW wide = true) (hv : isV vars = true) (hl : T.flat.length ≤ 48) : goodT wide vars T.flat = true ∧ kindT wide vars T.flat = T.kind := by
  have hk := T.run_kinds h []
  have hs : sizeT wide vars T.flat = true := by simp [sizeT, hw, hv, T.flat_pos, hl]
  refine ⟨?_, ?_⟩
  · simp [goodT, hs, hk, fin1]
  · simp [kindT, hs, hk, kind1]
/-! ### Values -/
def Tr.val (wide : Int) (s : List W) : Tr → W
  | .leaf x => if x.1 = 2 then (s[x.2.toNat]?).getD 0#64 else x.2
  | .un x a => if x.1 = 13 then (~~~(a.val wide s) &&& mk wide) else 1#64 - a.val wide s
  | .bin x a b => apW wide x.1 (a.val wide s) (b.val wide s)
def Tr.inS (s : List W) : Tr → Prop
  | .leaf x => x.1 = 2 → x.2.toNat < s.length
  | .un _ a => a.inS s
  | .bin _ a b => a.inS s ∧ b.inS s
theorem need_leaf {op : Int} (h0 : (need op).2.2 ≠ 0) (h : (need op).1 = 0) : op = 1 ∨ op = 20 ∨ op = 2 := by
  rcases need_cases h0 with ⟨c, _⟩ | ⟨c, _⟩ | ⟨_, c⟩ | ⟨_, _, _, _, _, c⟩
  · rcases c with c | c <;> simp [c]
  · simp [c]
  · omega
  · omega
theorem need_un {op : Int} (h0 : (need op).2.2 ≠ 0) (h : (need op).1 = 1) : op = 13 ∨ op = 19 := by
  rcases need_cases h0 with ⟨_, c⟩ | ⟨_, c⟩ | ⟨c, _⟩ | ⟨_, _, _, _, _, c⟩
  · omega
  · omega
  · exact c
  · omega
theorem need_bin {op : Int} (h0 : (need op).2.2 ≠ 0) (h : (need op).1 = 2) : op ≠ 1 ∧ op ≠ 20 ∧ op ≠ 2 ∧ op ≠ 13 ∧ op ≠ 19 := by
  rcases need_cases h0 with ⟨_, c⟩ | ⟨_, c⟩ | ⟨_, c⟩ | ⟨c1, c2, c3, c4, c5, _⟩
  · omega
  · omega
  · omega
  · exact ⟨c1, c2, c3, c4, c5⟩
theorem Tr.run_val {wide vars : Int} (s : List W) : ∀ (T : Tr), T.ok wide vars → T.inS s → ∀ vs, vrun wide s T.flat vs = some (T.val wide s :: vs)
  | .leaf x, h, hi, vs => by
    obtain ⟨h1, h2, h3⟩ := h
    simp only [Tr.flat, vrun, Tr.val]
    rcases need_leaf h2 h1 with c | c | c
    · rw [if_pos (.inl c), if_neg (by omega)]
    · rw [if_pos (.inr c), if_neg (by omega)]
    · have := hi c
      rw [if_neg (by omega), if_pos c, if_pos c, List.getElem?_eq_getElem this]
      rfl
  | .un x a, h, hi, vs => by
    obtain ⟨h1, h2, h3, h4, h5⟩ := h
    simp only [Tr.flat, vrun_app, Tr.run_val s a h5 hi vs, Option.bind_some, vrun, Tr.val]
    rcases need_un h2 h1 with c | c
    · rw [if_neg (by omega), if_neg (by omega), if_pos c, if_pos c]
    · rw [if_neg (by omega), if_neg (by omega), if_neg (by omega), if_pos c, if_neg (by omega)]
  | .bin x a b, h, hi, vs => by
    obtain ⟨h1, h2, h3, h4, h5, h6, h7⟩ := h
    obtain ⟨c1, c2, c3, c4, c5⟩ := need_bin h2 h1
    simp only [Tr.flat, vrun_app, Tr.run_val s a h6 hi.1 vs, Option.bind_some, Tr.run_val s b h7 hi.2, vrun, Tr.val]
    rw [if_neg (by omega), if_neg c3, if_neg c4, if_neg c5]
theorem Tr.val_ok {wide vars : Int} (hw : isW wide = true) (hv : isV vars = true) {s : List W} (hg : ∀ a ∈ s, a ≤ mk wide) : ∀ (T : Tr), T.ok wide vars → okV wide T.kind (T.val wide s)
  | .leaf x, h => by
    obtain ⟨h1, h2, h3⟩ := h
    have hl := leaf_run hv h3
    rcases need_leaf h2 h1 with c | c | c
    · refine .inl ⟨by simp only [Tr.kind, Tr.root]; rw [c]; decide, ?_⟩
      simp only [Tr.val]
      rw [if_neg (by omega)]
      exact hl.1 c
    · refine .inr ⟨by simp only [Tr.kind, Tr.root]; rw [c]; decide, ?_⟩
      simp only [Tr.val]
      rw [if_neg (by omega)]
      exact hl.2.1 c
    · refine .inl ⟨by simp only [Tr.kind, Tr.root]; rw [c]; decide, ?_⟩
      simp only [Tr.val]
      rw [if_pos c]
      cases hq : s[x.2.toNat]? with
      | none => rw [Option.getD_none, BitVec.le_def]; exact Nat.zero_le _
      | some a => exact hg a (List.mem_of_getElem? hq)
  | .un x a, h => by
    obtain ⟨h1, h2, h3, h4, h5⟩ := h
    have ih := Tr.val_ok hw hv hg a h5
    rcases need_un h2 h1 with c | c
    · refine .inl ⟨by simp only [Tr.kind, Tr.root]; rw [c]; decide, ?_⟩
      simp only [Tr.val]
      rw [if_pos c]
      exact and_le_right' _ _
    · refine .inr ⟨by simp only [Tr.kind, Tr.root]; rw [c]; decide, ?_⟩
      simp only [Tr.val]
      rw [if_neg (by omega)]
      have hk : a.kind = 2 := by rw [h4, c]; decide
      rw [hk] at ih
      rcases le_one_cases (okV_two ih) with e | e <;> rw [e] <;> decide
  | .bin x a b, h => by
    obtain ⟨h1, h2, h3, h4, h5, h6, h7⟩ := h
    have ia := Tr.val_ok hw hv hg a h6
    have ib := Tr.val_ok hw hv hg b h7
    rw [h4] at ia
    rw [h5] at ib
    exact apW_ok hw h1 ia ib
end Go.Proofs.YtclkgblckicabaaGreat
/- Folding: the plain laws. -/
set_option linter.unusedVariables false
set_option linter.unusedSimpArgs false
set_option maxRecDepth 4000
namespace Go.Proofs.YtclkgblckicabaaGreat
open Go.Dp

def Tr.noVars : Tr → Bool
  | .leaf x => x.1 != 2
  | .un _ a => a.noVars
  | .bin _ a b => a.noVars && b.noVars
def numT (wide : Int) (T : Tr) : Tr := .leaf (if T.kind = 2 then 20 else 1, T.val wide [])
def Tr.fold (wide : Int) : Tr → Tr
  | .leaf x => .leaf x
  | .un x a => if a.noVars then numT wide (.un x a) else .un x (a.fold wide)
  | .bin x a b => if a.noVars && b.noVars then numT wide (.bin x a b) else .bin x (a.fold wide) (b.fold wide)
theorem Tr.fold_leaf (wide : Int) (x : Nd) : (Tr.leaf x).fold wide = .leaf x := rfl
theorem Tr.fold_un (wide : Int) (x : Nd) (a : Tr) : (Tr.un x a).fold wide = if a.noVars then numT wide (.un x a) else .un x (a.fold wide) := rfl
theorem Tr.fold_bin (wide : Int) (x : Nd) (a b : Tr) : (Tr.bin x a b).fold wide = if a.noVars && b.noVars then numT wide (.bin x a b) else .bin x (a.fold wide) (b.fold wide) := rfl
theorem Tr.noVars_inS : ∀ (T : Tr) (s : List W), T.noVars = true → T.inS s
  | .leaf x, s, h => fun h2 => by simp [Tr.noVars, h2] at h
  | .un x a, s, h => Tr.noVars_inS a s h
  | .bin x a b, s, h => by
    simp only [Tr.noVars, Bool.and_eq_true] at h
    exact ⟨Tr.noVars_inS a s h.1, Tr.noVars_inS b s h.2⟩
theorem Tr.noVars_val (wide : Int) (s s' : List W) : ∀ (T : Tr), T.noVars = true → T.val wide s = T.val wide s'
  | .leaf x, h => by
    have : ¬ x.1 = 2 := by simpa [Tr.noVars] using h
    simp [Tr.val, this]
  | .un x a, h => by simp only [Tr.val, Tr.noVars_val wide s s' a h]
  | .bin x a b, h => by
    simp only [Tr.noVars, Bool.and_eq_true] at h
    simp only [Tr.val, Tr.noVars_val wide s s' a h.1, Tr.noVars_val wide s s' b h.2]
theorem numT_kind {wide vars : Int} {T : Tr} (h : T.ok wide vars) : (numT wide T).kind = T.kind := by
  have hk : T.kind = 1 ∨ T.kind = 2 := by
    have h0 : T.kind ≠ 0 := by cases T <;> exact h.2.1
    rcases need_own T.root.1 with h1 | h1 | h1
    · exact absurd h1 h0
    · exact .inl h1
    · exact .inr h1
  rcases hk with hk | hk
  · rw [hk]; unfold numT; rw [hk]; rfl
  · rw [hk]; unfold numT; rw [hk]; rfl
theorem numT_ok {wide vars : Int} (hw : isW wide = true) (hv : isV vars = true) {T : Tr} (h : T.ok wide vars) : (numT wide T).ok wide vars := by
  have hvv := T.val_ok hw hv (s := []) (by simp) h
  unfold numT Tr.ok
  by_cases hk : T.kind = 2
  · rw [hk] at hvv
    have := okV_two hvv
    simp only [hk, if_true]
    refine ⟨by decide, by decide, ?_⟩
    unfold leafOK
    simp only
    rw [if_neg (by omega), if_neg (by omega), if_pos trivial, decide_eq_true_eq]
    exact wi_le_iff.2 this
  · have hle : T.val wide [] ≤ mk wide := by rcases hvv with h | h; exact h.2; exact absurd h.1 hk
    simp only [hk, if_false]
    refine ⟨by decide, by decide, ?_⟩
    unfold leafOK
    rw [if_pos rfl]
    exact goodW_iff.2 ⟨hw, hle⟩
theorem Tr.fold_ok {wide vars : Int} (hw : isW wide = true) (hv : isV vars = true) : ∀ (T : Tr), T.ok wide vars → (T.fold wide).ok wide vars ∧ (T.fold wide).kind = T.kind
  | .leaf x, h => ⟨h, rfl⟩
  | .un x a, h => by
    obtain ⟨h1, h2, h3, h4, h5⟩ := h
    obtain ⟨g1, g2⟩ := Tr.fold_ok hw hv a h5
    rw [Tr.fold_un]
    split
    · exact ⟨numT_ok hw hv ⟨h1, h2, h3, h4, h5⟩, numT_kind (vars := vars) ⟨h1, h2, h3, h4, h5⟩⟩
    · exact ⟨⟨h1, h2, h3, by rw [g2]; exact h4, g1⟩, rfl⟩
  | .bin x a b, h => by
    obtain ⟨h1, h2, h3, h4, h5, h6, h7⟩ := h
    obtain ⟨g1, g2⟩ := Tr.fold_ok hw hv a h6
    obtain ⟨g3, g4⟩ := Tr.fold_ok hw hv b h7
    rw [Tr.fold_bin]
    split
    · exact ⟨numT_ok hw hv ⟨h1, h2, h3, h4, h5, h6, h7⟩, numT_kind (vars := vars) ⟨h1, h2, h3, h4, h5, h6, h7⟩⟩
    · exact ⟨⟨h1, h2, h3, by rw [g2]; exact h4, by rw [g4]; exact h5, g1, g3⟩, rfl⟩
theorem numT_val (wide : Int) (s : List W) (T : Tr) (h : T.noVars = true) : (numT wide T).val wide s = T.val wide s := by
  have hne : ¬ (if T.kind = 2 then (20 : Int) else 1) = 2 := by split <;> omega
  unfold numT
  simp only [Tr.val]
  rw [if_neg hne, Tr.noVars_val wide s [] T h]
theorem Tr.fold_val (wide : Int) (s : List W) : ∀ (T : Tr), (T.fold wide).val wide s = T.val wide s
  | .leaf x => rfl
  | .un x a => by
    rw [Tr.fold_un]
    split
    · rename_i h
      exact numT_val wide s (.un x a) h
    · simp only [Tr.val, Tr.fold_val wide s a]
  | .bin x a b => by
    rw [Tr.fold_bin]
    split
    · rename_i h
      exact numT_val wide s (.bin x a b) h
    · simp only [Tr.val, Tr.fold_val wide s a, Tr.fold_val wide s b]
theorem Tr.fold_len (wide : Int) : ∀ (T : Tr), (T.fold wide).flat.length ≤ T.flat.length
  | .leaf x => by simp [Tr.fold]
  | .un x a => by
    have := Tr.fold_len wide a
    rw [Tr.fold_un]
    split
    · (simp [numT, Tr.flat]; try omega)
    · (simp [Tr.flat]; try omega)
  | .bin x a b => by
    have := Tr.fold_len wide a
    have := Tr.fold_len wide b
    rw [Tr.fold_bin]
    split
    · (simp [numT, Tr.flat]; try omega)
    · (simp [Tr.flat]; try omega)
theorem numT_noVars (wide : Int) (T : Tr) : (numT wide T).noVars = true := by
  unfold numT Tr.noVars
  simp only
  split <;> decide
theorem Tr.fold_noVars (wide : Int) : ∀ (T : Tr), (T.fold wide).noVars = T.noVars
  | .leaf x => rfl
  | .un x a => by
    rw [Tr.fold_un]
    split
    · rename_i h
      rw [numT_noVars]
      exact h.symm
    · simp only [Tr.noVars, Tr.fold_noVars wide a]
  | .bin x a b => by
    rw [Tr.fold_bin]
    split
    · rename_i h
      rw [numT_noVars]
      exact h.symm
    · simp only [Tr.noVars, Tr.fold_noVars wide a, Tr.fold_noVars wide b]
theorem Tr.fold_fold (wide : Int) : ∀ (T : Tr), (T.fold wide).fold wide = T.fold wide
  | .leaf x => rfl
  | .un x a => by
    rw [Tr.fold_un]
    split
    · rfl
    · rename_i h
      rw [Tr.fold_un, Tr.fold_noVars, if_neg h, Tr.fold_fold wide a]
  | .bin x a b => by
    rw [Tr.fold_bin]
    split
    · rfl
    · rename_i h
      rw [Tr.fold_bin, Tr.fold_noVars, Tr.fold_noVars, if_neg h, Tr.fold_fold wide a, Tr.fold_fold wide b]
theorem vlist_app : ∀ (t u : List Nd), vlist (t ++ u) = vlist t ++ vlist u
  | [], u => rfl
  | x :: t, u => by simp only [List.cons_append, vlist, vlist_app t u, List.append_assoc]
theorem vlist_op {wide vars : Int} {x : Nd} (h : (need x.1).1 ≠ 0) (h0 : (need x.1).2.2 ≠ 0) : vlist [x] = [] := by
  have : ¬ x.1 = 2 := fun e => by rw [e] at h; exact h (by decide)
  simp [vlist, this]
theorem Tr.noVars_vlist {wide vars : Int} : ∀ (T : Tr), T.ok wide vars → (vlist T.flat = [] ↔ T.noVars = true)
  | .leaf x, h => by
    simp only [Tr.flat, vlist, Tr.noVars]
    by_cases h2 : x.1 = 2 <;> simp [h2]
  | .un x a, h => by
    obtain ⟨h1, h2, h3, h4, h5⟩ := h
    simp only [Tr.flat, vlist_app, vlist_op (wide := wide) (vars := vars) (x := x) (by omega) h2, List.append_nil, Tr.noVars]
    exact Tr.noVars_vlist a h5
  | .bin x a b, h => by
    obtain ⟨h1, h2, h3, h4, h5, h6, h7⟩ := h
    simp only [Tr.flat, vlist_app, vlist_op (wide := wide) (vars := vars) (x := x) (by omega) h2, List.append_nil, List.append_eq_nil_iff, Tr.noVars, Bool.and_eq_true, Tr.noVars_vlist a h6, Tr.noVars_vlist b h7]
theorem numT_vlist (wide : Int) (T : Tr) : vlist (numT wide T).flat = [] := by
  have hne : ¬ (if T.kind = 2 then (20 : Int) else 1) = 2 := by split <;> omega
  unfold numT Tr.flat vlist
  rw [if_neg hne]
  rfl
theorem Tr.fold_vlist {wide vars : Int} : ∀ (T : Tr), T.ok wide vars → vlist (T.fold wide).flat = vlist T.flat
  | .leaf x, h => rfl
  | .un x a, h => by
    have hok := h
    obtain ⟨h1, h2, h3, h4, h5⟩ := h
    have ih := Tr.fold_vlist a h5
    rw [Tr.fold_un]
    split
    · rename_i hn
      rw [numT_vlist, (Tr.noVars_vlist (.un x a) hok).2 hn]
    · simp only [Tr.flat, vlist_app, ih]
  | .bin x a b, h => by
    have hok := h
    obtain ⟨h1, h2, h3, h4, h5, h6, h7⟩ := h
    have iha := Tr.fold_vlist a h6
    have ihb := Tr.fold_vlist b h7
    rw [Tr.fold_bin]
    split
    · rename_i hn
      rw [numT_vlist, (Tr.noVars_vlist (.bin x a b) hok).2 hn]
    · simp only [Tr.flat, vlist_app, iha, ihb]
theorem canI_nil {l : List Int} : (canI l).length = 0 ↔ l = [] := by
  constructor
  · intro h
    have h1 : canI l = [] := List.eq_nil_of_length_eq_zero h
    cases l with
    | nil => rfl
    | cons x l =>
      have := ((canI_spec (x :: l)).2 x).2 (by simp)
      rw [h1] at this
      simp at this
  · intro h
    subst h
    have := canI_len []
    simpa using this
end Go.Proofs.YtclkgblckicabaaGreat
/- Folding: the functions. -/
set_option linter.unusedVariables false
set_option linter.unusedSimpArgs false
set_option maxRecDepth 4000
namespace Go.Proofs.YtclkgblckicabaaGreat
open Go.Dp

theorem w10 : IntKind.i64.wrap (((1 : Nat) : Int) - 1) = 0 := (i64_id (by omega) (by omega)).trans (by omega)
theorem w21 : IntKind.i64.wrap (((2 : Nat) : Int) - 1) = 1 := (i64_id (by omega) (by omega)).trans (by omega)
theorem w1 : IntKind.i64.wrap ((1 : Int) - 1) = 0 := (i64_id (by omega) (by omega)).trans (by omega)
theorem w01 : IntKind.i64.wrap ((0 : Int) + 1) = 1 := (i64_id (by omega) (by omega)).trans (by omega)
theorem w12 : IntKind.i64.wrap ((1 : Int) + 1) = 2 := (i64_id (by omega) (by omega)).trans (by omega)
theorem root_at {T : Tr} {t pre suf : List Nd} (h : t = pre ++ T.flat ++ suf) : lookP (encT t) ((pre.length + T.flat.length - 1 : Nat) : Int) = some (encN T.root) := by
  obtain ⟨r, hr⟩ := T.flat_last
  have hl : T.flat.length = r.length + 1 := by rw [hr]; simp
  have e : t[pre.length + r.length]? = some T.root := by
    rw [h, hr, List.append_assoc, List.getElem?_append_right (Nat.le_add_right _ _), Nat.add_sub_cancel_left, List.append_assoc, List.getElem?_append_right (Nat.le_refl _), Nat.sub_self]
    rfl
  rw [hl, show pre.length + (r.length + 1) - 1 = pre.length + r.length by omega, lookP_nat, encT_get, e]
  rfl
theorem lf0 (k n : Nat) (t : List PV) (f : Int) (hn : 1 ≤ n) : L308_1 k n t ((0 : Nat) : Int) f = r308 f := by
  obtain ⟨n, rfl⟩ : ∃ i, n = i + 1 := ⟨n - 1, by omega⟩
  rw [sL308_1]
  rfl
theorem lfS (k n : Nat) (t : List PV) (a f f2 : Nat) (hn : 1 ≤ n) (hf : 1 ≤ f) (hf2 : f ≤ 10000) (ha : a ≤ 5) (hc : c308 k t ((f - 1 : Nat) : Int) = r308 (f2 : Int)) : L308_1 k n t ((a + 1 : Nat) : Int) (f : Int) = L308_1 k (n - 1) t (a : Int) (f2 : Int) := by
  obtain ⟨n, rfl⟩ : ∃ i, n = i + 1 := ⟨n - 1, by omega⟩
  rw [sL308_1]
  have hd : decide (((a + 1 : Nat) : Int) > 0) = true := by (simp; try omega)
  rw [hd, i64_id (n := (f : Int) - 1) (by omega) (by omega), show (f : Int) - 1 = ((f - 1 : Nat) : Int) by omega, hc]
  simp only [cond_true, R308_r]
  rw [i64_id (by omega) (by omega), show ((a + 1 : Nat) : Int) - 1 = (a : Int) by omega]
  rfl
theorem lfC {k : Nat} (hk : 10 ≤ k) {T : Tr} {t pre suf : List Nd} (h : t = pre ++ T.flat ++ suf) : c308 k (encT t) ((pre.length + T.flat.length - 1 : Nat) : Int) = L308_1 (k - 1) (k - 1) (encT t) ((need T.root.1).1 : Nat) ((pre.length + T.flat.length - 1 : Nat) : Int) := by
  obtain ⟨k, rfl⟩ : ∃ i, k = i + 1 := ⟨k - 1, by omega⟩
  rw [n308, root_at h]
  simp only [Option.bind_some, encN_op]
  rw [needS_ok (by omega)]
  simp only [R281_r, Nat.add_sub_cancel]
theorem from_tree {wide vars : Int} : ∀ (T : Tr) (t pre suf : List Nd) (k : Nat), T.ok wide vars → t = pre ++ T.flat ++ suf → t.length ≤ 1000 → 300 + T.flat.length ≤ k → c308 k (encT t) ((pre.length + T.flat.length - 1 : Nat) : Int) = r308 (pre.length : Int) := by
  intro T
  induction T with
  | leaf x =>
    intro t pre suf k h ht hl hk
    rw [lfC (by omega) ht, show (need (Tr.leaf x).root.1).1 = 0 from h.1, lf0 _ _ _ _ (by omega)]
    simp [Tr.flat]
  | un x a iha0 =>
    intro t pre suf k h ht hl hk
    obtain ⟨h1, h2, h3, h4, h5⟩ := h
    have hp := a.flat_pos
    have hfl : (Tr.un x a).flat.length = a.flat.length + 1 := by simp [Tr.flat]
    have ht2 : t = pre ++ a.flat ++ ([x] ++ suf) := by rw [ht]; simp [Tr.flat]
    have htl : t.length = pre.length + a.flat.length + 1 + suf.length := by rw [ht2]; (simp; try omega)
    have ih := iha0 t pre ([x] ++ suf) (k - 1) h5 ht2 hl (by omega)
    rw [lfC (by omega) ht, show (need (Tr.un x a).root.1).1 = 0 + 1 from h1, lfS (k - 1) (k - 1) (encT t) 0 _ pre.length (by omega) (by omega) (by omega) (by omega) (by rw [show pre.length + (Tr.un x a).flat.length - 1 - 1 = pre.length + a.flat.length - 1 by omega]; exact ih)]
    exact lf0 _ _ _ _ (by omega)
  | bin x a b iha0 ihb0 =>
    intro t pre suf k h ht hl hk
    obtain ⟨h1, h2, h3, h4, h5, h6, h7⟩ := h
    have hp := a.flat_pos
    have hq := b.flat_pos
    have hfl : (Tr.bin x a b).flat.length = a.flat.length + b.flat.length + 1 := by (simp [Tr.flat]; try omega)
    have ht2 : t = (pre ++ a.flat) ++ b.flat ++ ([x] ++ suf) := by rw [ht]; simp [Tr.flat]
    have ht3 : t = pre ++ a.flat ++ (b.flat ++ [x] ++ suf) := by rw [ht]; simp [Tr.flat]
    have htl : t.length = pre.length + a.flat.length + b.flat.length + 1 + suf.length := by rw [ht2]; (simp; try omega)
    have ihb := ihb0 t (pre ++ a.flat) ([x] ++ suf) (k - 1) h7 ht2 hl (by omega)
    have iha := iha0 t pre (b.flat ++ [x] ++ suf) (k - 1) h6 ht3 hl (by omega)
    rw [List.length_append] at ihb
    rw [lfC (by omega) ht, show (need (Tr.bin x a b).root.1).1 = 1 + 1 from h1, lfS (k - 1) (k - 1) (encT t) 1 _ (pre.length + a.flat.length) (by omega) (by omega) (by omega) (by omega) (by rw [show pre.length + (Tr.bin x a b).flat.length - 1 - 1 = pre.length + a.flat.length + b.flat.length - 1 by omega]; exact ihb)]
    rw [show ((1 : Nat) : Int) = ((0 + 1 : Nat) : Int) from rfl, lfS (k - 1) (k - 1 - 1) (encT t) 0 _ pre.length (by omega) (by omega) (by omega) (by omega) iha]
    exact lf0 _ _ _ _ (by omega)
theorem okV_le {wide k : Int} (hw : isW wide = true) {v : W} (h : okV wide k v) : v ≤ mk wide := by
  rcases h with h | h
  · exact h.2
  · refine BitVec.le_trans h.2 ?_
    exact le_of_cut hw (by have := tr_cut hw true; simpa [tr] using this)
theorem value_tree {wide vars : Int} (hw : isW wide = true) (hv : isV vars = true) {s : List W} (hg : ∀ a ∈ s, a ≤ mk wide) : ∀ (T : Tr) (t pre suf : List Nd) (k : Nat), T.ok wide vars → T.inS s → t = pre ++ T.flat ++ suf → t.length ≤ 1000 → 600 + T.flat.length ≤ k → c267 k wide (encT t) ((pre.length + T.flat.length - 1 : Nat) : Int) (encW s) = r267 (wi (T.val wide s)) := by
  intro T
  induction T with
  | leaf x =>
    intro t pre suf k h hi ht hl hk
    obtain ⟨k, rfl⟩ : ∃ i, k = i + 1 := ⟨k - 1, by omega⟩
    obtain ⟨h1, h2, h3⟩ := h
    have h0' : ((((need x.1).1 : Nat) : Int) == 0) = true := by simp [h1]
    rw [n267, root_at ht]
    simp only [Option.bind_some, encN_shp, encN_op, encN_n, cond_true, Tr.root]
    rw [needS_ok (by omega)]
    simp only [R281_r, h0', cond_true, Tr.val]
    by_cases c : x.1 = 2
    · have h2' : (x.1 == 2) = true := by simpa using c
      have hlt := hi c
      have e4 : (wi x.2).toNat = x.2.toNat := by simp [wi]
      rw [h2', lookP_int (wi_nonneg _), encW_get, e4, List.getElem?_eq_getElem hlt, if_pos c]
      simp only [cond_true, Option.map_some, Option.bind_some, int_atInt, Option.getD_some]
    · have h2' : (x.1 == 2) = false := by simpa using c
      rw [h2', if_neg c]
      simp only [cond_false]
  | un x a iha0 =>
    intro t pre suf k h hi ht hl hk
    obtain ⟨h1, h2, h3, h4, h5⟩ := h
    have hp := a.flat_pos
    have hfl : (Tr.un x a).flat.length = a.flat.length + 1 := by simp [Tr.flat]
    have ht2 : t = pre ++ a.flat ++ ([x] ++ suf) := by rw [ht]; simp [Tr.flat]
    have htl : t.length = pre.length + a.flat.length + 1 + suf.length := by rw [ht2]; (simp; try omega)
    obtain ⟨k, rfl⟩ : ∃ i, k = i + 1 := ⟨k - 1, by omega⟩
    have ih := iha0 t pre ([x] ++ suf) k h5 hi ht2 hl (by omega)
    have h0' : ((((need x.1).1 : Nat) : Int) == 0) = false := by simp [h1]
    have h2' : (x.1 == 2) = false := by rcases need_un h2 h1 with c | c <;> simp [c]
    rw [n267, root_at ht]
    simp only [Option.bind_some, encN_shp, encN_op, encN_n, cond_true, Tr.root]
    rw [needS_ok (by omega), hfl, i64_id (n := ((pre.length + (a.flat.length + 1) - 1 : Nat) : Int) - 1) (by omega) (by omega), show ((pre.length + (a.flat.length + 1) - 1 : Nat) : Int) - 1 = ((pre.length + a.flat.length - 1 : Nat) : Int) by omega, ih]
    simp only [R281_r, h2', h0', cond_false, R267_r, Tr.val]
    rcases need_un h2 h1 with c | c
    · have e13 : (x.1 == 13) = true := by simpa using c
      have e2 : (18446744073709551615 : Int) = wi (BitVec.allOnes 64) := rfl
      rw [e13, e2, xor_wi, cutM_ok (by omega) hw, BitVec.allOnes_xor, if_pos c]
      simp only [cond_true, R297_r]
    · have e13 : (x.1 == 13) = false := by simp [c]
      have e19 : (x.1 == 19) = true := by simpa using c
      have e1 : (1 : Int) = wi 1#64 := rfl
      rw [e13, e19, e1, sub_wi, if_neg (by omega)]
      simp only [cond_true, cond_false]
  | bin x a b iha0 ihb0 =>
    intro t pre suf k h hi ht hl hk
    obtain ⟨h1, h2, h3, h4, h5, h6, h7⟩ := h
    obtain ⟨c1, c2, c3, c4, c5⟩ := need_bin h2 h1
    have hp := a.flat_pos
    have hq := b.flat_pos
    have hfl : (Tr.bin x a b).flat.length = a.flat.length + b.flat.length + 1 := by (simp [Tr.flat]; try omega)
    have ht2 : t = (pre ++ a.flat) ++ b.flat ++ ([x] ++ suf) := by rw [ht]; simp [Tr.flat]
    have ht3 : t = pre ++ a.flat ++ (b.flat ++ [x] ++ suf) := by rw [ht]; simp [Tr.flat]
    have htl : t.length = pre.length + a.flat.length + b.flat.length + 1 + suf.length := by rw [ht2]; (simp; try omega)
    obtain ⟨k, rfl⟩ : ∃ i, k = i + 1 := ⟨k - 1, by omega⟩
    have ihb := ihb0 t (pre ++ a.flat) ([x] ++ suf) k h7 hi.2 ht2 hl (by omega)
    have iha := iha0 t pre (b.flat ++ [x] ++ suf) k h6 hi.1 ht3 hl (by omega)
    have hfr := from_tree b t (pre ++ a.flat) ([x] ++ suf) k h7 ht2 hl (by omega)
    rw [List.length_append] at ihb hfr
    have ham := okV_le hw (a.val_ok hw hv hg h6)
    have hbm := okV_le hw (b.val_ok hw hv hg h7)
    have h0' : ((((need x.1).1 : Nat) : Int) == 0) = false := by simp [h1]
    have e2 : (x.1 == 2) = false := by simpa using c3
    have e13 : (x.1 == 13) = false := by simpa using c4
    have e19 : (x.1 == 19) = false := by simpa using c5
    rw [n267, root_at ht]
    simp only [Option.bind_some, encN_shp, encN_op, encN_n, cond_true, Tr.root]
    rw [needS_ok (by omega), hfl, i64_id (n := ((pre.length + (a.flat.length + b.flat.length + 1) - 1 : Nat) : Int) - 1) (by omega) (by omega), show ((pre.length + (a.flat.length + b.flat.length + 1) - 1 : Nat) : Int) - 1 = ((pre.length + a.flat.length + b.flat.length - 1 : Nat) : Int) by omega, ihb, hfr]
    simp only [R281_r, e2, h0', e13, e19, cond_false, R267_r, R308_r, Tr.val]
    rw [i64_id (n := ((pre.length + a.flat.length : Nat) : Int) - 1) (by omega) (by omega), show ((pre.length + a.flat.length : Nat) : Int) - 1 = ((pre.length + a.flat.length - 1 : Nat) : Int) by omega, iha]
    simp only [R267_r]
    rw [l2Do_ok (by omega) hw _ _ _ ham hbm]
    simp only [R320_r]
theorem fold_const {wide vars : Int} : ∀ (T : Tr), T.ok wide vars → T.noVars = true → T.fold wide = numT wide T
  | .leaf x, h, hn => by
    obtain ⟨h1, h2, h3⟩ := h
    have c2 : x.1 ≠ 2 := by simpa [Tr.noVars] using hn
    have hk : (Tr.leaf x).kind = (need x.1).2.2 := rfl
    rw [Tr.fold_leaf]
    unfold numT
    rw [hk]
    congr 1
    refine Prod.ext ?_ ?_
    · rcases need_leaf h2 h1 with c | c | c
      · simp only [c]; decide
      · simp only [c]; decide
      · exact absurd c c2
    · simp only [Tr.val]
      rw [if_neg c2]
  | .un x a, h, hn => by rw [Tr.fold_un]; exact if_pos hn
  | .bin x a b, h, hn => by rw [Tr.fold_bin]; exact if_pos hn
end Go.Proofs.YtclkgblckicabaaGreat
/- FnFolded: folding's functions and the law. -/
set_option linter.unusedVariables false
set_option linter.unusedSimpArgs false
set_option maxRecDepth 4000
namespace Go.Proofs.YtclkgblckicabaaGreat
open Go.Dp

theorem slice_tree {T : Tr} {t pre suf : List Nd} (h : t = pre ++ T.flat ++ suf) (e : Nat) (he : e = pre.length + T.flat.length) : ((encT t).take e).drop pre.length = encT T.flat := by
  rw [encT_take, he, h]
  have e1 : (pre ++ T.flat ++ suf).take (pre.length + T.flat.length) = pre ++ T.flat := by
    rw [List.take_append_of_le_length (by simp), List.take_of_length_le (by simp)]
  rw [e1]
  simp [encT]
theorem fold_leafvar {wide vars : Int} {x : Nd} (h : (Tr.leaf x).ok wide vars) : (Tr.leaf x).fold wide = .leaf x := rfl
theorem root_kind {wide vars : Int} {T : Tr} : T.kind = (need T.root.1).2.2 := rfl
theorem canI_beq (l : List Int) : (((canI l).length : Int) == 0) = decide (l = []) := by
  rw [Bool.eq_iff_iff, decide_eq_true_eq, ← canI_nil, beq_iff_eq]
  omega
end Go.Proofs.YtclkgblckicabaaGreat
/- FnFolded: the law. -/
set_option linter.unusedVariables false
set_option linter.unusedSimpArgs false
set_option maxRecDepth 4000
namespace Go.Proofs.YtclkgblckicabaaGreat
open Go.Dp

theorem good_len {wide vars : Int} {t : List Nd} (h : goodT wide vars t = true) : isW wide = true ∧ isV vars = true ∧ t.length ≤ 48 := by
  have hs := (goodT_iff.1 h).1
  simp only [sizeT, Bool.and_eq_true, decide_eq_true_eq] at hs
  exact ⟨hs.1.1.1, hs.1.1.2, hs.2⟩
theorem kindI_ok {k : Nat} (hk : 1000500 ≤ k) (wide vars : Int) (t : List Nd) (ht : t.length ≤ 100) : c45 k wide vars (encT t) = r45 (bif goodT wide vars t then kindT wide vars t else 0) (goodT wide vars t) := by
  obtain ⟨k, rfl⟩ : ∃ j, k = j + 1 := ⟨k - 1, by omega⟩
  rw [n45, goodTerm_ok (by omega) _ _ _ (by omega)]
  simp only [R161_r]
  cases h : goodT wide vars t
  · rfl
  · rw [kindOf_ok (by omega) wide vars t (by omega) h]
    simp only [Bool.not_true, cond_false, cond_true, R162_r]
end Go.Proofs.YtclkgblckicabaaGreat
/- FnApart: what is tried; what is drawn; the law. -/
set_option linter.unusedVariables false
set_option linter.unusedSimpArgs false
set_option maxRecDepth 4000
namespace Go.Proofs.YtclkgblckicabaaGreat
open Go.Dp

/-! ### What is tried -/
def addT (o : List (List Nd)) (t : List Nd) : List (List Nd) := bif decide (o.length < 40) && !(o.any fun x => decide (x = t)) then o ++ [t] else o
theorem addT_len (o : List (List Nd)) (t : List Nd) (h : o.length ≤ 40) : (addT o t).length ≤ 40 := by
  unfold addT
  by_cases h1 : o.length < 40
  · have e : decide (o.length < 40) = true := by simpa using h1
    rw [e]
    cases (o.any fun x => decide (x = t))
    · simp; omega
    · exact h
  · have e : decide (o.length < 40) = false := by simpa using h1
    rw [e]; exact h
theorem addT_mem {o : List (List Nd)} {t u : List Nd} (h : u ∈ addT o t) : u ∈ o ∨ u = t := by
  unfold addT at h
  cases hb : (decide (o.length < 40) && !(o.any fun x => decide (x = t)))
  · rw [hb] at h; exact .inl h
  · rw [hb] at h
    rcases List.mem_append.1 h with h | h
    · exact .inl h
    · exact .inr (List.mem_singleton.1 h)
structure OutT (p : Prg) (o : List (List Nd)) : Prop where
  len : o.length ≤ 40
  mem : ∀ t ∈ o, kindT p.wide p.vars t = 2
theorem kind_len {wide vars : Int} {t : List Nd} (h : kindT wide vars t = 2) : t.length ≤ 48 ∧ goodT wide vars t = true := by
  have hg := kind_good (by omega : kindT wide vars t > 0)
  exact ⟨(good_len hg).2.2, hg⟩
theorem OutT.add {p : Prg} {o : List (List Nd)} (h : OutT p o) {t : List Nd} (ht : kindT p.wide p.vars t = 2) : OutT p (addT o t) :=
  ⟨addT_len o t h.len, fun u hu => by rcases addT_mem hu with hu | rfl; exact h.mem u hu; exact ht⟩
theorem addc_loop {k : Nat} (t1 : List PV) (f : List Nd → Bool) (l : List (List Nd)) (hl : l.length ≤ 100000) (hc : ∀ x ∈ l, c258 k (encT x) t1 = r258 (f x)) : ∀ (n i : Nat), l.length - i < n → i ≤ l.length → L254f258_1 k n (encTT l) t1 (l.length : Int) (i : Int) = r254f258 (fixI f i (l.drop i))
  | 0, i, h, hi => by omega
  | n + 1, i, h, hi => by
    rw [sL254f258_1]
    by_cases hlt : i < l.length
    · have hd : decide ((i : Int) < (l.length : Int)) = true := by simpa using hlt
      have hnext : IntKind.i64.wrap ((i : Int) + 1) = ((i + 1 : Nat) : Int) := by rw [i64_id (by omega) (by omega)]; omega
      rw [hd, lookP_nat, encTT_get, List.getElem?_eq_getElem hlt, drop_cons hlt, hnext]
      simp only [cond_true, Option.map_some, Option.bind_some, row_atRow]
      rw [hc _ (List.getElem_mem hlt)]
      simp only [R258_r, fixI]
      cases f l[i]
      · exact addc_loop t1 f l hl hc n (i + 1) (by omega) (by omega)
      · rfl
    · have hd : decide ((i : Int) < (l.length : Int)) = false := by simpa using hlt
      rw [hd, List.drop_eq_nil_of_le (by omega)]
      rfl
theorem addc_idx {k : Nat} (hk : 100010 ≤ k) (t1 : List PV) (f : List Nd → Bool) (l : List (List Nd)) (hl : l.length ≤ 100000) (hc : ∀ x ∈ l, c258 k (encT x) t1 = r258 (f x)) : c254f258 (k + 1) (encTT l) t1 = r254f258 (fixI f 0 l) := by
  rw [n254f258, encTT_length]
  exact addc_loop (k := k) t1 f l hl hc k 0 (by omega) (by omega)
theorem addc_ok {k : Nat} (hk : 100010 ≤ k) (t1 : List PV) (f : List Nd → Bool) (l : List (List Nd)) (hl : l.length ≤ 100000) (hc : ∀ x ∈ l, c258 k (encT x) t1 = r258 (f x)) : c151f258 (k + 2) (encTT l) t1 = r151f258 (l.any f) := by
  rw [n151f258, addc_idx (by omega) t1 f l hl hc]
  simp only [R254f258p_r, fixI_ge]
theorem addI_ok {k : Nat} (hk : 1000100 ≤ k) {p : Prg} {o : List (List Nd)} (ho : OutT p o) (t : List Nd) (ht : kindT p.wide p.vars t = 2) : c257 k (encT t) (encTT o) = r257 (encTT (addT o t)) := by
  obtain ⟨k, rfl⟩ : ∃ j, k = j + 4 := ⟨k - 4, by omega⟩
  have hol := ho.len
  have htl := (kind_len ht).1
  have etk : (encTT o).take o.length = encTT o := by rw [List.take_of_length_le (by simp)]
  rw [n257, encTT_length, etk]
  unfold addT
  by_cases h40 : o.length < 40
  · have e1 : decide ((o.length : Int) < 40) = true := by simp; omega
    have e2 : decide (o.length < 40) = true := by simpa using h40
    rw [e1, e2, addc_ok (k := k + 1) (by omega) (encT t) (fun x => decide (x = t)) o (by omega) (fun x hx => by
      rw [n258, eqT_ok (by omega) x t (by have := (kind_len (ho.mem x hx)).1; omega)]
      simp only [R259_r])]
    simp only [R151f258p_r, cond_true, Bool.true_and]
    cases (o.any fun x => decide (x = t))
    · simp only [Bool.not_false, cond_true]
      rw [n189 _ _ (by simp [LIM]; omega) (by simp [LIM]; omega)]
      simp only [R189_r, encT_length]
      have e3 : (encT t).take t.length = encT t := by rw [List.take_of_length_le (by simp)]
      rw [lim_ok (by omega) (by omega), e3, encTT_snoc, encTT_take, List.take_of_length_le (by simp)]
      rfl
    · rfl
  · have e1 : decide ((o.length : Int) < 40) = false := by simp; omega
    have e2 : decide (o.length < 40) = false := by simpa using h40
    rw [e1, e2]
    rfl
theorem addS_loop {k : Nat} (hk : 1000100 ≤ k) {p : Prg} {o : List (List Nd)} (ho : OutT p o) (t : List Nd) (ht : kindT p.wide p.vars t = 2) : ∀ (n i : Nat), o.length - i < n → i ≤ o.length →
    L261_1 k n o.length (encT t) o.length (o.length : Int) (i : Int) (encTT o) = r261 (encTT (bif (o.drop i).any (fun x => decide (x = t)) then o else bif decide (o.length < 40) then o ++ [t] else o))
  | 0, i, h, hi => by omega
  | n + 1, i, h, hi => by
    have hol := ho.len
    have htl := (kind_len ht).1
    have etk : (encTT o).take o.length = encTT o := by rw [List.take_of_length_le (by simp)]
    rw [sL261_1]
    by_cases hlt : i < o.length
    · have hd : decide ((i : Int) < (o.length : Int)) = true := by simpa using hlt
      have hd0 : decide ((0 : Int) ≤ (i : Int)) = true := by simp
      have hnext : IntKind.i64.wrap ((i : Int) + 1) = ((i + 1 : Nat) : Int) := by rw [i64_id (by omega) (by omega)]; omega
      have hm := List.getElem_mem hlt
      rw [hd, hd0, Int.toNat_natCast, Nat.zero_add, encTT_get, List.getElem?_eq_getElem hlt, drop_cons hlt, hnext]
      simp only [cond_true, Bool.and_self, Option.map_some, Option.bind_some, row_atRow, List.any_cons]
      rw [l20Same_ok (by omega) _ t (by have := (kind_len (ho.mem _ hm)).1; omega)]
      simp only [R318_r, etk]
      by_cases he : o[i] = t
      · have e1 : decide (o[i] = t) = true := by simpa using he
        rw [e1]; rfl
      · have e1 : decide (o[i] = t) = false := by simpa using he
        rw [e1]
        simp only [cond_false, Bool.false_or]
        exact addS_loop hk ho t ht n (i + 1) (by omega) (by omega)
    · have hd : decide ((i : Int) < (o.length : Int)) = false := by simpa using hlt
      rw [hd, List.drop_eq_nil_of_le (by omega)]
      simp only [cond_false, List.any_nil, etk, encT_length, Nat.zero_add, List.nil_append]
      by_cases h40 : o.length < 40
      · have e1 : ((o.length : Int) == 40) = false := by simp; omega
        have e2 : decide (o.length < 40) = true := by simpa using h40
        have e3 : (encT t).take t.length = encT t := by rw [List.take_of_length_le (by simp)]
        rw [e1, e2, lim_ok (by omega) (by omega), lim_ok (by omega) (by omega), e3, encTT_snoc, encTT_take, List.take_of_length_le (by simp)]
        rfl
      · have e1 : ((o.length : Int) == 40) = true := by simp; omega
        have e2 : decide (o.length < 40) = false := by simpa using h40
        rw [e1, e2]
        rfl
theorem addS_ok {k : Nat} (hk : 1000200 ≤ k) {p : Prg} {o : List (List Nd)} (ho : OutT p o) (t : List Nd) (ht : kindT p.wide p.vars t = 2) : c261 k (encTT o) (encT t) = r261 (encTT (addT o t)) := by
  obtain ⟨k, rfl⟩ : ∃ j, k = j + 1 := ⟨k - 1, by omega⟩
  have hol := ho.len
  rw [n261, encTT_length]
  have := addS_loop (k := k) (by omega) ho t ht k 0 (by omega) (by omega)
  have h' : L261_1 k k o.length (encT t) o.length (o.length : Int) 0 (encTT o) = _ := this
  rw [h']
  unfold addT
  rw [List.drop_zero]
  cases (o.any fun x => decide (x = t)) <;> cases (decide (o.length < 40)) <;> rfl
def addW : List Cmd → List (List Nd) → List (List Nd)
  | [], o => o
  | c :: l, o => addW l (addT o c.wh)
def addB (p : Prg) (t : List Nd) : Nat → Nat → List (List Nd) → List (List Nd)
  | 0, i, o => o
  | m + 1, i, o => addB p t m (i + 1) (bif oneOK p (cmdAt p (i : Int)) t then addT o (oneT p (cmdAt p (i : Int)) t) else o)
def addP (p : Prg) : List (List Nd) → List (List Nd) → List (List Nd)
  | [], o => o
  | t :: l, o => addP p l (addB p t p.cmds.length 0 o)
def tryL (p : Prg) (ts : List (List Nd)) : List (List Nd) := addP p ts (addW p.cmds [])
theorem out_addW {p : Prg} : ∀ {l : List Cmd} {o : List (List Nd)}, OutT p o → (∀ c ∈ l, kindT p.wide p.vars c.wh = 2) → OutT p (addW l o)
  | [], o, h, _ => h
  | c :: l, o, h, hl => out_addW (l := l) (o := addT o c.wh) (h.add (hl c (by simp))) fun c' h' => hl c' (by simp [h'])
theorem put_last (by1 : List (List Nd)) : ∀ (t : List Nd) (x : Nd), x.1 ≠ 2 → putT by1 (t ++ [x]) = putT by1 t ++ [x]
  | [], x, h => by simp [putT, h]
  | y :: t, x, h => by
    simp only [List.cons_append, putT, put_last by1 t x h, List.append_assoc]
theorem one_kind {p : Prg} {c : Cmd} {t : List Nd} (hk : kindT p.wide p.vars t = 2) (ho : oneOK p c t = true) : kindT p.wide p.vars (oneT p c t) = 2 := by
  have e : oneT p c t = putT (byOf p c) t := by unfold oneT; rw [ho]; rfl
  have hg : goodT p.wide p.vars (putT (byOf p c) t) = true := by simp only [oneOK, Bool.and_eq_true] at ho; exact ho.2
  rw [e]
  have h1 := (good_kst (kind_len hk).2).1
  have h2 := (good_kst hg).1
  rcases List.eq_nil_or_concat t with rfl | ⟨u, x, rfl⟩
  · rw [hk] at h1; cases h1
  · rw [List.concat_eq_append] at h1 h2 hk ⊢
    rw [hk] at h1
    obtain ⟨s, hs⟩ := kst_last h1
    injection hs with h3 h4
    have hx : x.1 ≠ 2 := by
      intro h
      rw [h] at h3
      revert h3
      decide
    rw [put_last _ _ _ hx] at h2 ⊢
    obtain ⟨s', hs'⟩ := kst_last h2
    injection hs' with h5 h6
    rw [h5, ← h3]
theorem out_addB {p : Prg} {t : List Nd} (ht : kindT p.wide p.vars t = 2) : ∀ {m i : Nat} {o : List (List Nd)}, OutT p o → OutT p (addB p t m i o)
  | 0, i, o, h => h
  | m + 1, i, o, h => by
    refine out_addB ht (m := m) (i := i + 1) ?_
    cases hb : oneOK p (cmdAt p (i : Int)) t
    · exact h
    · exact h.add (one_kind ht hb)
theorem out_addP {p : Prg} : ∀ {l : List (List Nd)} {o : List (List Nd)}, OutT p o → (∀ t ∈ l, kindT p.wide p.vars t = 2) → OutT p (addP p l o)
  | [], o, h, _ => h
  | t :: l, o, h, hl => out_addP (l := l) (o := addB p t p.cmds.length 0 o) (out_addB (hl t (by simp)) h) fun c' h' => hl c' (by simp [h'])
theorem good_wh {p : Prg} (hg : goodP p = true) : ∀ c ∈ p.cmds, kindT p.wide p.vars c.wh = 2 ∧ ∀ x ∈ c.ch, 0 ≤ x.v ∧ x.v < p.vars := by
  intro c hc
  simp only [goodP, Bool.and_eq_true, List.all_eq_true] at hg
  have := hg.2 c hc
  simp only [goodCmd, Bool.and_eq_true, beq_iff_eq] at this
  exact ⟨this.1, fun x hx => ⟨(goodChs_mem this.2 x hx).1, (goodChs_mem this.2 x hx).2.1⟩⟩
theorem tryL_out {p : Prg} (hg : goodP p = true) {ts : List (List Nd)} (hc : ∀ t ∈ ts, kindT p.wide p.vars t = 2) : OutT p (tryL p ts) :=
  out_addP (out_addW ⟨by simp, by simp⟩ fun c h => (good_wh hg c h).1) hc
set_option linter.unusedSectionVars false
section loops
variable {k : Nat} (hk : 1000400 ≤ k) {p : Prg} (hp : FitP p) (hg : goodP p = true) (ts : List (List Nd)) (hl : ts.length ≤ 1000) (hc : ∀ t ∈ ts, kindT p.wide p.vars t = 2)
include hk hp hg hl hc
theorem tryI_loop3 (n1 i : Nat) (t : List Nd) (ht : kindT p.wide p.vars t = 2) : ∀ (n j : Nat) (o : List (List Nd)), p.cmds.length - j < n → j ≤ p.cmds.length → OutT p o →
    L158_3 k n1 n (encT t) (encTT ts) (ts.length : Int) (i : Int) (p.cmds.length : Int) (j : Int) p.wide p.vars (encT p.start) (encCms p.cmds) o.length (encTT o) = L158_2 k n1 (encTT ts) (ts.length : Int) (IntKind.i64.wrap ((i : Int) + 1)) p.wide p.vars (encT p.start) (encCms p.cmds) (addB p t (p.cmds.length - j) j o).length (encTT (addB p t (p.cmds.length - j) j o))
  | 0, j, o, h, hj, ho => by omega
  | n + 1, j, o, h, hj, ho => by
    have hcm := hp.cm
    have etk : (encTT o).take o.length = encTT o := by rw [List.take_of_length_le (by simp)]
    rw [sL158_3]
    by_cases hlt : j < p.cmds.length
    · have hd : decide ((j : Int) < (p.cmds.length : Int)) = true := by simpa using hlt
      have hnext : IntKind.i64.wrap ((j : Int) + 1) = ((j + 1 : Nat) : Int) := by rw [i64_id (by omega) (by omega)]; omega
      have hno : cnoOK p (j : Int) = true := by simp [cnoOK, hlt]
      have hm := (cmdAt_get hno).2
      have htl := (kind_len ht).1
      rw [hd, beforeOne_ok (by omega) p hp (j : Int) t (by omega) hno (good_wh hg _ hm).2, hnext, etk]
      simp only [cond_true, R260_r]
      have e : p.cmds.length - j = (p.cmds.length - (j + 1)) + 1 := by omega
      rw [e]
      simp only [addB]
      cases hb : oneOK p (cmdAt p (j : Int)) t
      · exact tryI_loop3 n1 i t ht n (j + 1) o (by omega) (by omega) ho
      · simp only [cond_true]
        rw [addI_ok (by omega) ho _ (one_kind ht hb)]
        simp only [R257_r, encTT_length]
        exact tryI_loop3 n1 i t ht n (j + 1) _ (by omega) (by omega) (ho.add (one_kind ht hb))
    · have hd : decide ((j : Int) < (p.cmds.length : Int)) = false := by simpa using hlt
      have e : p.cmds.length - j = 0 := by omega
      rw [hd, e]
      rfl
theorem tryI_loop2 : ∀ (n i : Nat) (o : List (List Nd)), ts.length - i < n → i ≤ ts.length → OutT p o →
    L158_2 k n (encTT ts) (ts.length : Int) (i : Int) p.wide p.vars (encT p.start) (encCms p.cmds) o.length (encTT o) = r158 (encTT (addP p (ts.drop i) o))
  | 0, i, o, h, hi, ho => by omega
  | n + 1, i, o, h, hi, ho => by
    have hcm := hp.cm
    rw [sL158_2]
    by_cases hlt : i < ts.length
    · have hd : decide ((i : Int) < (ts.length : Int)) = true := by simpa using hlt
      have hnext : IntKind.i64.wrap ((i : Int) + 1) = ((i + 1 : Nat) : Int) := by rw [i64_id (by omega) (by omega)]; omega
      have hm := List.getElem_mem hlt
      rw [hd, lookP_nat, encTT_get, List.getElem?_eq_getElem hlt, drop_cons hlt]
      simp only [cond_true, Option.map_some, Option.bind_some, row_atRow, encCms_length]
      have h3 := tryI_loop3 hk hp hg ts hl hc n i ts[i] (hc _ hm) k 0 o (by omega) (by omega) ho
      have h' : L158_3 k n k (encT ts[i]) (encTT ts) (ts.length : Int) (i : Int) (p.cmds.length : Int) 0 p.wide p.vars (encT p.start) (encCms p.cmds) o.length (encTT o) = _ := h3
      rw [h', hnext, Nat.sub_zero]
      exact tryI_loop2 n (i + 1) _ (by omega) (by omega) (out_addB (hc _ hm) ho)
    · have hd : decide ((i : Int) < (ts.length : Int)) = false := by simpa using hlt
      have etk : (encTT o).take o.length = encTT o := by rw [List.take_of_length_le (by simp)]
      rw [hd, List.drop_eq_nil_of_le (by omega), etk]
      rfl
theorem tryI_loop1 : ∀ (n i : Nat) (o : List (List Nd)), p.cmds.length - i < n → i ≤ p.cmds.length → OutT p o →
    L158_1 k n (encTT ts) (encCms p.cmds) (p.cmds.length : Int) (i : Int) p.wide p.vars (encT p.start) (encCms p.cmds) o.length (encTT o) = r158 (encTT (addP p ts (addW (p.cmds.drop i) o)))
  | 0, i, o, h, hi, ho => by omega
  | n + 1, i, o, h, hi, ho => by
    have hcm := hp.cm
    have etk : (encTT o).take o.length = encTT o := by rw [List.take_of_length_le (by simp)]
    rw [sL158_1]
    by_cases hlt : i < p.cmds.length
    · have hd : decide ((i : Int) < (p.cmds.length : Int)) = true := by simpa using hlt
      have hnext : IntKind.i64.wrap ((i : Int) + 1) = ((i + 1 : Nat) : Int) := by rw [i64_id (by omega) (by omega)]; omega
      have hm := List.getElem_mem hlt
      have hkw := (good_wh hg _ hm).1
      rw [hd, lookP_nat, encCms_get, List.getElem?_eq_getElem hlt, drop_cons hlt, hnext, etk]
      simp only [cond_true, Option.map_some, Option.bind_some, encCm_shp, encCm_wh, encCm_ch]
      rw [addI_ok (by omega) ho _ hkw]
      simp only [R257_r, encTT_length]
      exact tryI_loop1 n (i + 1) _ (by omega) (by omega) (ho.add hkw)
    · have hd : decide ((i : Int) < (p.cmds.length : Int)) = false := by simpa using hlt
      rw [hd, List.drop_eq_nil_of_le (by omega), encTT_length]
      simp only [cond_false]
      exact tryI_loop2 hk hp hg ts hl hc k 0 o (by omega) (by omega) ho
theorem tryS_loop3 (n1 i : Nat) (t : List Nd) (ht : kindT p.wide p.vars t = 2) : ∀ (n j : Nat) (o : List (List Nd)), p.cmds.length - j < n → j ≤ p.cmds.length → OutT p o →
    L160_3 k n1 n o.length (encT t) (encTT ts) (ts.length : Int) (i : Int) (p.cmds.length : Int) (j : Int) p.wide p.vars (encT p.start) (encCms p.cmds) (encTT o) = L160_2 k n1 (addB p t (p.cmds.length - j) j o).length (encTT ts) (ts.length : Int) (IntKind.i64.wrap ((i : Int) + 1)) p.wide p.vars (encT p.start) (encCms p.cmds) (encTT (addB p t (p.cmds.length - j) j o))
  | 0, j, o, h, hj, ho => by omega
  | n + 1, j, o, h, hj, ho => by
    have hcm := hp.cm
    have etk : (encTT o).take o.length = encTT o := by rw [List.take_of_length_le (by simp)]
    rw [sL160_3]
    by_cases hlt : j < p.cmds.length
    · have hd : decide ((j : Int) < (p.cmds.length : Int)) = true := by simpa using hlt
      have hnext : IntKind.i64.wrap ((j : Int) + 1) = ((j + 1 : Nat) : Int) := by rw [i64_id (by omega) (by omega)]; omega
      have hno : cnoOK p (j : Int) = true := by simp [cnoOK, hlt]
      have hm := (cmdAt_get hno).2
      have htl := (kind_len ht).1
      rw [hd, l16One_ok (by omega) p hp (j : Int) t (by omega) hno (good_wh hg _ hm).2, hnext, etk]
      simp only [cond_true, R262_r]
      have e : p.cmds.length - j = (p.cmds.length - (j + 1)) + 1 := by omega
      rw [e]
      simp only [addB]
      cases hb : oneOK p (cmdAt p (j : Int)) t
      · exact tryS_loop3 n1 i t ht n (j + 1) o (by omega) (by omega) ho
      · simp only [cond_true]
        rw [addS_ok (by omega) ho _ (one_kind ht hb)]
        simp only [R261_r, encTT_length]
        exact tryS_loop3 n1 i t ht n (j + 1) _ (by omega) (by omega) (ho.add (one_kind ht hb))
    · have hd : decide ((j : Int) < (p.cmds.length : Int)) = false := by simpa using hlt
      have e : p.cmds.length - j = 0 := by omega
      rw [hd, e]
      rfl
theorem tryS_loop2 : ∀ (n i : Nat) (o : List (List Nd)), ts.length - i < n → i ≤ ts.length → OutT p o →
    L160_2 k n o.length (encTT ts) (ts.length : Int) (i : Int) p.wide p.vars (encT p.start) (encCms p.cmds) (encTT o) = r160 (encTT (addP p (ts.drop i) o))
  | 0, i, o, h, hi, ho => by omega
  | n + 1, i, o, h, hi, ho => by
    have hcm := hp.cm
    rw [sL160_2]
    by_cases hlt : i < ts.length
    · have hd : decide ((i : Int) < (ts.length : Int)) = true := by simpa using hlt
      have hnext : IntKind.i64.wrap ((i : Int) + 1) = ((i + 1 : Nat) : Int) := by rw [i64_id (by omega) (by omega)]; omega
      have hm := List.getElem_mem hlt
      rw [hd, lookP_nat, encTT_get, List.getElem?_eq_getElem hlt, drop_cons hlt]
      simp only [cond_true, Option.map_some, Option.bind_some, row_atRow, encCms_length]
      have h3 := tryS_loop3 hk hp hg ts hl hc n i ts[i] (hc _ hm) k 0 o (by omega) (by omega) ho
      have h' : L160_3 k n k o.length (encT ts[i]) (encTT ts) (ts.length : Int) (i : Int) (p.cmds.length : Int) 0 p.wide p.vars (encT p.start) (encCms p.cmds) (encTT o) = _ := h3
      rw [h', hnext, Nat.sub_zero]
      exact tryS_loop2 n (i + 1) _ (by omega) (by omega) (out_addB (hc _ hm) ho)
    · have hd : decide ((i : Int) < (ts.length : Int)) = false := by simpa using hlt
      have etk : (encTT o).take o.length = encTT o := by rw [List.take_of_length_le (by simp)]
      rw [hd, List.drop_eq_nil_of_le (by omega), etk]
      rfl
theorem tryS_loop1 : ∀ (n i : Nat) (o : List (List Nd)), p.cmds.length - i < n → i ≤ p.cmds.length → OutT p o →
    L160_1 k n (encTT ts) o.length (encCms p.cmds) (p.cmds.length : Int) (i : Int) p.wide p.vars (encT p.start) (encCms p.cmds) (encTT o) = r160 (encTT (addP p ts (addW (p.cmds.drop i) o)))
  | 0, i, o, h, hi, ho => by omega
  | n + 1, i, o, h, hi, ho => by
    have hcm := hp.cm
    have etk : (encTT o).take o.length = encTT o := by rw [List.take_of_length_le (by simp)]
    rw [sL160_1]
    by_cases hlt : i < p.cmds.length
    · have hd : decide ((i : Int) < (p.cmds.length : Int)) = true := by simpa using hlt
      have hnext : IntKind.i64.wrap ((i : Int) + 1) = ((i + 1 : Nat) : Int) := by rw [i64_id (by omega) (by omega)]; omega
      have hm := List.getElem_mem hlt
      have hkw := (good_wh hg _ hm).1
      rw [hd, lookP_nat, encCms_get, List.getElem?_eq_getElem hlt, drop_cons hlt, hnext, etk]
      simp only [cond_true, Option.map_some, Option.bind_some, encCm_shp, encCm_wh, encCm_ch]
      rw [addS_ok (by omega) ho _ hkw]
      simp only [R261_r, encTT_length]
      exact tryS_loop1 n (i + 1) _ (by omega) (by omega) (ho.add hkw)
    · have hd : decide ((i : Int) < (p.cmds.length : Int)) = false := by simpa using hlt
      rw [hd, List.drop_eq_nil_of_le (by omega), encTT_length]
      simp only [cond_false]
      exact tryS_loop2 hk hp hg ts hl hc k 0 o (by omega) (by omega) ho
end loops
def predsOK (p : Prg) (ts : List (List Nd)) : Bool := decide (ts.length ≤ 8) && allC p ts
theorem arePreds_ok {k : Nat} (hk : 1000400 ≤ k) (p : Prg) (l1 l2 : List PV) (ts : List (List Nd)) (hl : ts.length ≤ 1000) (ht : ∀ t ∈ ts, t.length ≤ 100) : c120 k p.wide p.vars l1 l2 (encTT ts) 0 = r120 (predsOK p ts) := by
  obtain ⟨k, rfl⟩ : ∃ j, k = j + 4 := ⟨k - 4, by omega⟩
  have e0 : decide ((ts.length : Int) ≥ 0) = true := by simp
  rw [n120, encTT_length, e0]
  unfold predsOK
  by_cases h8 : ts.length ≤ 8
  · have e1 : decide ((ts.length : Int) ≤ 8) = true := by simp; omega
    have e2 : decide (ts.length ≤ 8) = true := by simpa using h8
    rw [e1, e2, notp_ok (k := k + 1) (by omega) p.wide p.vars _ _ (fun t => !(kindT p.wide p.vars t == 2)) ts (by omega) (fun t h => by
      rw [n233, cond_ok (by omega) _ _ _ _ t (by have := ht t h; omega)]
      simp only [R153_r])]
    simp only [R151f233p_r, any_not_all, cond_true, Bool.not_not, Bool.true_and]
    rfl
  · have e1 : decide ((ts.length : Int) ≤ 8) = false := by simp; omega
    have e2 : decide (ts.length ≤ 8) = false := by simpa using h8
    rw [e1, e2]
    rfl
theorem preds_loop {k : Nat} (hk : 1000300 ≤ k) (p : Prg) (l1 l2 : List PV) (ts : List (List Nd)) (hl : ts.length ≤ 1000) (ht : ∀ t ∈ ts, t.length ≤ 100) : ∀ (n i : Nat), ts.length - i < n → i ≤ ts.length →
    L159_1 k n (encTT ts) (ts.length : Int) (i : Int) p.wide p.vars l1 l2 = r159 (allC p (ts.drop i))
  | 0, i, h, hi => by omega
  | n + 1, i, h, hi => by
    rw [sL159_1]
    by_cases hlt : i < ts.length
    · have hd : decide ((i : Int) < (ts.length : Int)) = true := by simpa using hlt
      have hnext : IntKind.i64.wrap ((i : Int) + 1) = ((i + 1 : Nat) : Int) := by rw [i64_id (by omega) (by omega)]; omega
      have hm := List.getElem_mem hlt
      rw [hd, lookP_nat, encTT_get, List.getElem?_eq_getElem hlt, drop_cons hlt, hnext]
      simp only [cond_true, Option.map_some, Option.bind_some, row_atRow]
      rw [asks_ok (by omega) _ _ _ _ _ (by have := ht _ hm; omega)]
      simp only [R110_r, allC, List.all_cons]
      cases hk2 : (kindT p.wide p.vars ts[i] == 2)
      · rfl
      · exact preds_loop hk p l1 l2 ts hl ht n (i + 1) (by omega) (by omega)
    · have hd : decide ((i : Int) < (ts.length : Int)) = false := by simpa using hlt
      rw [hd, List.drop_eq_nil_of_le (by omega)]
      rfl
theorem l15Preds_ok {k : Nat} (hk : 1000400 ≤ k) (p : Prg) (l1 l2 : List PV) (ts : List (List Nd)) (hl : ts.length ≤ 1000) (ht : ∀ t ∈ ts, t.length ≤ 100) : c159 k p.wide p.vars l1 l2 (encTT ts) = r159 (predsOK p ts) := by
  obtain ⟨k, rfl⟩ : ∃ j, k = j + 1 := ⟨k - 1, by omega⟩
  rw [n159, encTT_length]
  unfold predsOK
  by_cases h8 : ts.length ≤ 8
  · have e1 : decide ((ts.length : Int) > 8) = false := by simp; omega
    have e2 : decide (ts.length ≤ 8) = true := by simpa using h8
    rw [e1, e2]
    simp only [cond_false, Bool.true_and]
    exact preds_loop (k := k) (by omega) p l1 l2 ts hl ht k 0 (by omega) (by omega)
  · have e1 : decide ((ts.length : Int) > 8) = true := by simp; omega
    have e2 : decide (ts.length ≤ 8) = false := by simpa using h8
    rw [e1, e2]
    rfl
def tryOK (p : Prg) (ts : List (List Nd)) : Bool := smallP p && predsOK p ts
def tryR (p : Prg) (ts : List (List Nd)) : List (List Nd) := bif tryOK p ts then tryL p ts else []
theorem tryR_out (p : Prg) (ts : List (List Nd)) : OutT p (tryR p ts) := by
  unfold tryR
  cases h : tryOK p ts
  · exact ⟨by simp, by simp⟩
  · simp only [tryOK, predsOK, Bool.and_eq_true] at h
    exact tryL_out (small_good h.1) (allC_get h.2.2)
theorem TryI_ok {k : Nat} (hk : 1000500 ≤ k) (p : Prg) (hp : FitP p) (ts : List (List Nd)) (hl : ts.length ≤ 1000) (ht : ∀ t ∈ ts, t.length ≤ 100) : c43 k p.wide p.vars (encT p.start) (encCms p.cmds) (encTT ts) = r43 (encTT (tryR p ts)) (tryOK p ts) := by
  obtain ⟨k, rfl⟩ : ∃ j, k = j + 2 := ⟨k - 2, by omega⟩
  have hcm := hp.cm
  rw [n43, isSmall_ok (by omega) p hp]
  simp only [R112_r, tryR, tryOK]
  cases hs : smallP p
  · rfl
  simp only [Bool.not_true, cond_false, Bool.true_and]
  rw [arePreds_ok (by omega) p _ _ ts hl ht]
  simp only [R120_r]
  cases hq : predsOK p ts
  · rfl
  · have hc : ∀ t ∈ ts, kindT p.wide p.vars t = 2 := by simp only [predsOK, Bool.and_eq_true] at hq; exact allC_get hq.2
    simp only [Bool.not_true, cond_false, cond_true]
    rw [n158, encCms_length]
    have := tryI_loop1 (k := k) (by omega) hp (small_good hs) ts hl hc k 0 [] (by omega) (by omega) ⟨by simp, by simp⟩
    have h' : L158_1 k k (encTT ts) (encCms p.cmds) (p.cmds.length : Int) 0 p.wide p.vars (encT p.start) (encCms p.cmds) 0 [] = _ := this
    rw [h']
    simp only [R158_r]
    rfl
theorem TryS_ok {k : Nat} (hk : 1000500 ≤ k) (p : Prg) (hp : FitP p) (ts : List (List Nd)) (hl : ts.length ≤ 1000) (ht : ∀ t ∈ ts, t.length ≤ 100) : c44 k p.wide p.vars (encT p.start) (encCms p.cmds) (encTT ts) = r44 (encTT (tryR p ts)) (tryOK p ts) := by
  obtain ⟨k, rfl⟩ : ∃ j, k = j + 2 := ⟨k - 2, by omega⟩
  have hcm := hp.cm
  rw [n44, l7Small_ok (by omega) p hp]
  simp only [R115_r, tryR, tryOK]
  cases hs : smallP p
  · rfl
  simp only [Bool.not_true, cond_false, Bool.true_and]
  rw [l15Preds_ok (by omega) p _ _ ts hl ht]
  simp only [R159_r]
  cases hq : predsOK p ts
  · rfl
  · have hc : ∀ t ∈ ts, kindT p.wide p.vars t = 2 := by simp only [predsOK, Bool.and_eq_true] at hq; exact allC_get hq.2
    simp only [Bool.not_true, cond_false, cond_true]
    rw [n160, encCms_length]
    have := tryS_loop1 (k := k) (by omega) hp (small_good hs) ts hl hc k 0 [] (by omega) (by omega) ⟨by simp, by simp⟩
    have h' : L160_1 k k (encTT ts) 0 (encCms p.cmds) (p.cmds.length : Int) 0 p.wide p.vars (encT p.start) (encCms p.cmds) [] = _ := this
    rw [h']
    simp only [R160_r]
    rfl
/-! ### What is drawn -/
theorem predsD_loop {bs : List Nat} (hc : CodeOK bs) {k : Nat} (hk : 2010 ≤ k) {wide vars : Int} (hw : wide ≤ 64) (hv : vars ≤ 100) (l1 l2 : List PV) : ∀ (m n : Nat) (q : Int) (o : List (List Nd)) {at' : Int} (s : W), q.toNat ≤ m → m < n → q ≤ 100 → o.length + m ≤ 200 → (∀ t ∈ o, t.length ≤ 100) → 0 ≤ at' → at' + 600 * m ≤ 590000000 →
    ∃ a2 s2 l, L148_1 k n o.length q (encB bs) at' (wi s) wide vars l1 l2 (encTT o) = r148 (encB bs) a2 (wi s2) (encTT l) ∧ at' ≤ a2 ∧ a2 ≤ at' + 600 * m ∧ l.length ≤ o.length + m ∧ ∀ t ∈ l, t.length ≤ 100
  | m, 0, q, o, at', s, h1, h2, _, _, _, _, _ => by omega
  | m, n + 1, q, o, at', s, h1, h2, h3, h4, ho, h5, h6 => by
    rw [sL148_1]
    have etk : (encTT o).take o.length = encTT o := by rw [List.take_of_length_le (by simp)]
    rw [etk]
    by_cases hq : q > 0
    · have e1 : decide (q > 0) = true := by simpa using hq
      have hon : ∀ n : Int, 1 ≤ one1 n ∧ (n ≤ 64 → one1 n ≤ 64) ∧ (n ≤ 100 → one1 n ≤ 100) := by intro n; unfold one1; split <;> omega
      rw [e1, l2One_ok (by omega), l2One_ok (by omega)]
      simp only [cond_true, R108_r]
      obtain ⟨a2, s2, v, h, h7, h8, h9, h10, _⟩ := pick_ok hc (k := k) (by omega) h5 (by omega) s 2
      have h10 := h10 (by omega)
      rw [h]
      simp only [R143_r]
      cases m with
      | zero => omega
      | succ m =>
        obtain ⟨a3, s3, t, h, h11, h12, h13, h14⟩ := asked_int hc (wide := one1 wide) (vars := one1 vars) (by have := hon wide; omega) ((hon wide).2.1 hw) (hon vars).1 ((hon vars).2.2 hv) (d := v) (by omega) (by omega) (k := k) (by omega) (at' := a2) (by omega) (by omega) s2
        rw [h]
        simp only [R107_r, encT_length]
        have e3 : (encT t).take t.length = encT t := by rw [List.take_of_length_le (by simp)]
        rw [lim_ok (by omega) (by omega), i64_id (by omega) (by omega), e3, encTT_snoc]
        have := predsD_loop hc hk hw hv l1 l2 m n (q - 1) (o ++ [t]) (at' := a3) s3 (by omega) (by omega) (by omega) (by simp; omega) (fun u hu => by
          rcases List.mem_append.1 hu with hu | hu
          · exact ho u hu
          · rw [List.mem_singleton.1 hu]; omega) (by omega) (by omega)
        rw [List.length_append] at this
        obtain ⟨a4, s4, l, h, h15, h16, h17, h18⟩ := this
        exact ⟨a4, s4, l, h, by omega, by omega, by simp at h17; omega, h18⟩
    · have e1 : decide (q > 0) = false := by simpa using hq
      rw [e1]
      exact ⟨at', s, o, rfl, by omega, by omega, by omega, ho⟩
theorem preds_ok {bs : List Nat} (hc : CodeOK bs) {k : Nat} (hk : 2100 ≤ k) {wide vars : Int} (hw : wide ≤ 64) (hv : vars ≤ 100) (l1 l2 : List PV) (m1 : Int) (hm0 : 0 ≤ m1) (hm : m1 ≤ 50) {at' : Int} (h0 : 0 ≤ at') (h1 : at' ≤ 500000000) (s : W) :
    ∃ a2 s2 l, c148 k wide vars l1 l2 m1 (encB bs) at' (wi s) = r148 (encB bs) a2 (wi s2) (encTT l) ∧ at' ≤ a2 ∧ a2 ≤ at' + 40000 ∧ l.length ≤ 60 ∧ ∀ t ∈ l, t.length ≤ 100 := by
  obtain ⟨k, rfl⟩ : ∃ j, k = j + 1 := ⟨k - 1, by omega⟩
  rw [n148, i64_id (by omega) (by omega)]
  obtain ⟨a2, s2, v, h, h2, h3, h4, h5, _⟩ := pick_ok hc (k := k) (by omega) h0 (by omega) s (m1 + 1)
  have h5 := h5 (by omega)
  rw [h]
  simp only [R143_r]
  obtain ⟨a3, s3, l, h, h6, h7, h8, h9⟩ := predsD_loop hc (k := k) (by omega) hw hv l1 l2 51 k v [] (at' := a2) s2 (by omega) (by omega) (by omega) (by simp) (by simp) (by omega) (by omega)
  exact ⟨a3, s3, l, h, by omega, by omega, by simp at h8; omega, h9⟩
theorem drawFirst_ok {bs : List Nat} (hc : CodeOK bs) {k : Nat} (hk : 2500 ≤ k) : ∃ p ts a b, c38 k (encB bs) = r38 p.wide p.vars (encT p.start) (encCms p.cmds) (encTT ts) (encZ a) (encZ b) ∧ FitP p ∧ ts.length ≤ 1000 ∧ (∀ t ∈ ts, t.length ≤ 100) ∧ a.length ≤ 1000 ∧ b.length ≤ 1000 := by
  obtain ⟨k, rfl⟩ : ∃ j, k = j + 1 := ⟨k - 1, by omega⟩
  rw [n38]
  obtain ⟨a2, s2, p, h, h2, h3, h4⟩ := small_ok hc (k := k) (by omega) (at' := 0) (by omega) (by omega) 0#64
  have h' : c105 k (encB bs) 0 0 = _ := h
  have hw := h4.w
  have hv := h4.v
  rw [h']
  simp only [R105_r]
  obtain ⟨a3, s3, ts, h, h5, h6, h7, h8⟩ := preds_ok hc (k := k) (by omega) (wide := p.wide) (vars := p.vars) (by omega) (by omega) (encT p.start) (encCms p.cmds) 6 (by omega) (by omega) (at' := a2) (by omega) (by omega) s2
  rw [h]
  simp only [R148_r]
  obtain ⟨a4, s4, a, h, h9, h10, h11⟩ := someOf_ok hc (k := k) (by omega) 4 2 (by omega) (by omega) (at' := a3) (by omega) (by omega) s3
  rw [h]
  simp only [R149_r]
  obtain ⟨a5, s5, b, h, h12, h13, h14⟩ := someOf_ok hc (k := k) (by omega) 4 2 (by omega) (by omega) (at' := a4) (by omega) (by omega) s4
  rw [h]
  simp only [R149_r]
  exact ⟨p, ts, a, b, rfl, h4, by omega, h8, by omega, by omega⟩
theorem drawTry_ok {bs : List Nat} (hc : CodeOK bs) {k : Nat} (hk : 2500 ≤ k) : ∃ p ts, c42 k (encB bs) = r42 p.wide p.vars (encT p.start) (encCms p.cmds) (encTT ts) ∧ FitP p ∧ ts.length ≤ 1000 ∧ (∀ t ∈ ts, t.length ≤ 100) := by
  obtain ⟨k, rfl⟩ : ∃ j, k = j + 1 := ⟨k - 1, by omega⟩
  rw [n42]
  obtain ⟨a2, s2, p, h, h2, h3, h4⟩ := small_ok hc (k := k) (by omega) (at' := 0) (by omega) (by omega) 0#64
  have h' : c105 k (encB bs) 0 0 = _ := h
  have hw := h4.w
  have hv := h4.v
  rw [h']
  simp only [R105_r]
  obtain ⟨a3, s3, ts, h, h5, h6, h7, h8⟩ := preds_ok hc (k := k) (by omega) (wide := p.wide) (vars := p.vars) (by omega) (by omega) (encT p.start) (encCms p.cmds) 3 (by omega) (by omega) (at' := a2) (by omega) (by omega) s2
  rw [h]
  simp only [R148_r]
  exact ⟨p, ts, rfl, h4, by omega, h8⟩
theorem out_loop {k : Nat} (hk : 100100 ≤ k) {p : Prg} (hs : smallP p = true) (l1 l2 : List PV) (t l : List Int) (u : List PV) (hl : l.length ≤ 1000) (n1 n2 : Int) (l3 l4 : List PV) : ∀ (n i : Nat) (o : List Int), nS p - i < n → i ≤ nS p → o.length ≤ i →
    ∃ b, L47_1 k n u (encZ l) o.length (i : Int) n1 n2 l3 l4 p.wide p.vars l1 l2 (encZ o) = r47 p.wide p.vars l1 l2 u (encZ l) (encZ b) ∧ b.length ≤ 1000
  | 0, i, o, h, hi, ho => by omega
  | n + 1, i, o, h, hi, ho => by
    have hle := (nS_le hs).2
    have etk : (encZ o).take o.length = encZ o := by rw [List.take_of_length_le (by simp)]
    rw [sL47_1, nSS_ok (by omega) hs]
    simp only [R116_r, etk]
    by_cases hlt : i < nS p
    · have hd : decide ((i : Int) < (nS p : Int)) = true := by simpa using hlt
      have hnext : IntKind.i64.wrap ((i : Int) + 1) = ((i + 1 : Nat) : Int) := by rw [i64_id (by omega) (by omega)]; omega
      rw [hd, has_ok (by omega) l (by omega), hnext]
      simp only [cond_true, R165_r]
      cases l.contains (i : Int)
      · rw [lim_ok (by omega) (by omega), encZ_snoc]
        have := out_loop hk hs l1 l2 t l u hl n1 n2 l3 l4 n (i + 1) (o ++ [(i : Int)]) (by omega) (by omega) (by simp; omega)
        rw [List.length_append] at this
        exact this
      · exact out_loop hk hs l1 l2 t l u hl n1 n2 l3 l4 n (i + 1) o (by omega) (by omega) (by omega)
    · have hd : decide ((i : Int) < (nS p : Int)) = false := by simpa using hlt
      rw [hd]
      exact ⟨o, rfl, by omega⟩
theorem drawSep_ok {bs : List Nat} (hc : CodeOK bs) {k : Nat} (hk : 1000500 ≤ k) : ∃ p t a b, c47 k (encB bs) = r47 p.wide p.vars (encT p.start) (encCms p.cmds) (encT t) (encZ a) (encZ b) ∧ FitP p ∧ t.length ≤ 100 ∧ a.length ≤ 1000 ∧ b.length ≤ 1000 := by
  obtain ⟨k, rfl⟩ : ∃ j, k = j + 1 := ⟨k - 1, by omega⟩
  rw [n47]
  obtain ⟨a2, s2, p, h, h2, h3, h4⟩ := small_ok hc (k := k) (by omega) (at' := 0) (by omega) (by omega) 0#64
  have h' : c105 k (encB bs) 0 0 = _ := h
  have hw := h4.w
  have hv := h4.v
  rw [h']
  simp only [R105_r]
  obtain ⟨a3, s3, t, h, h5, h6, h7⟩ := askedOf_ok hc (k := k) (by omega) (wide := p.wide) (vars := p.vars) (by omega) (by omega) (encT p.start) (encCms p.cmds) (d := 1) (by omega) (by omega) (at' := a2) (by omega) (by omega) s2
  rw [h]
  simp only [R163_r]
  obtain ⟨a4, s4, q, h, h8, h9⟩ := one_ok hc (k := k) (by omega) (at' := a3) (by omega) (by omega) s3 2
  rw [h]
  simp only [R145_r]
  obtain ⟨a5, s5, a, ha, h10, h11, h12⟩ := someOf_ok hc (k := k) (by omega) 4 2 (by omega) (by omega) (at' := a4) (by omega) (by omega) s4
  obtain ⟨a6, s6, b, hb, h13, h14, h15⟩ := someOf_ok hc (k := k) (by omega) 4 2 (by omega) (by omega) (at' := a5) (by omega) (by omega) s5
  cases q
  · simp only [cond_false]
    rw [ha]
    simp only [R149_r]
    rw [hb]
    simp only [R149_r]
    exact ⟨p, t, a, b, rfl, h4, by omega, by omega, by omega⟩
  · simp only [cond_true]
    rw [l7Small_ok (by omega) p h4]
    simp only [R115_r]
    cases hs : smallP p
    · simp only [cond_false]
      rw [ha]
      simp only [R149_r]
      rw [hb]
      simp only [R149_r]
      exact ⟨p, t, a, b, rfl, h4, by omega, by omega, by omega⟩
    · simp only [cond_true]
      rw [asks_ok (by omega) _ _ _ _ t (by omega)]
      simp only [R110_r]
      cases hk2 : (kindT p.wide p.vars t == 2)
      · simp only [cond_false]
        rw [ha]
        simp only [R149_r]
        rw [hb]
        simp only [R149_r]
        exact ⟨p, t, a, b, rfl, h4, by omega, by omega, by omega⟩
      · simp only [cond_true]
        rw [those_ok (by omega) hs _ _ t (by omega) (by simpa using hk2)]
        simp only [R164_r]
        have hwl : (whI p t).length ≤ 32 := Nat.le_trans (whN_len p t _ _) (nS_le hs).2
        have hle := (nS_le hs).2
        obtain ⟨b, h, h16⟩ := out_loop (k := k) (by omega) hs (encT p.start) (encCms p.cmds) [] (whI p t) (encT t) (by omega) 0 0 [] [] k 0 [] (by omega) (by omega) (by simp)
        exact ⟨p, t, whI p t, b, h, h4, by omega, by omega, h16⟩
/-! ### The law -/
theorem sameN_loop {k : Nat} (a : List Nd) (ha : a.length ≤ 1000000) : ∀ (n i : Nat), a.length - i < n → i ≤ a.length → L46_1 k n (encT a) (encT a) (a.length : Int) (i : Int) = r46 true
  | 0, i, h, hi => by omega
  | n + 1, i, h, hi => by
    rw [sL46_1]
    by_cases hlt : i < a.length
    · have hd : decide ((i : Int) < (a.length : Int)) = true := by simpa using hlt
      have hnext : IntKind.i64.wrap ((i : Int) + 1) = ((i + 1 : Nat) : Int) := by rw [i64_id (by omega) (by omega)]; omega
      rw [hd, lookT hlt, hnext]
      simp only [cond_true, Option.bind_some, encN_shp, encN_op, encN_n, beq_self_eq_true, Bool.and_self, Bool.not_true, cond_false]
      exact sameN_loop a ha n (i + 1) (by omega) (by omega)
    · have hd : decide ((i : Int) < (a.length : Int)) = false := by simpa using hlt
      rw [hd]; rfl
theorem sameN_ok {k : Nat} (hk : 1000100 ≤ k) (a : List Nd) (ha : a.length ≤ 1000) : c46 k (encT a) (encT a) = r46 true := by
  obtain ⟨k, rfl⟩ : ∃ j, k = j + 1 := ⟨k - 1, by omega⟩
  have e : ((a.length : Int) != (a.length : Int)) = false := by simp
  rw [n46, encT_length, e]
  exact sameN_loop (k := k) a (by omega) k 0 (by omega) (by omega)
theorem apart_last {k : Nat} (hk : 1001000 ≤ k) {more : List Nat} (hm : CodeOK more) (p : Prg) (l : List (List Nd)) (ho : OutT p l) (l1 l2 : List PV) : ∀ (n i : Nat), l.length - i < n → i ≤ l.length →
    L5_2 k n (encB more) (encTT l) (encTT l) (l.length : Int) (i : Int) p.wide p.vars l1 l2 = r5 true
  | 0, i, h, hi => by omega
  | n + 1, i, h, hi => by
    have hol := ho.len
    rw [sL5_2]
    by_cases hlt : i < l.length
    · have hd : decide ((i : Int) < (l.length : Int)) = true := by simpa using hlt
      have hnext : IntKind.i64.wrap ((i : Int) + 1) = ((i + 1 : Nat) : Int) := by rw [i64_id (by omega) (by omega)]; omega
      have hm' := List.getElem_mem hlt
      have hk2 := ho.mem _ hm'
      obtain ⟨hlen, hg⟩ := kind_len hk2
      rw [hd, lookP_nat, encTT_get, List.getElem?_eq_getElem hlt, hnext]
      simp only [cond_true, Option.map_some, Option.bind_some, row_atRow]
      rw [kindI_ok (by omega) _ _ _ (by omega), hg, hk2]
      simp only [R45_r, Bool.not_true, cond_false, cond_true, bne_self_eq_false]
      rw [sameN_ok (by omega) _ (by omega)]
      simp only [R46_r, Bool.not_true, cond_false]
      exact apart_last hk hm p l ho l1 l2 n (i + 1) (by omega) (by omega)
    · have hd : decide ((i : Int) < (l.length : Int)) = false := by simpa using hlt
      rw [hd]
      simp only [cond_false]
      obtain ⟨q, t, a, b, h, hq, ht, ha, hb⟩ := drawSep_ok hm (k := k) (by omega)
      rw [h]
      simp only [R47_r]
      have e1 : sepOK q t b a = sepOK q t a b := by unfold sepOK twoL; rw [Bool.and_comm (incG (nS q : Int) none b)]
      rw [SepI_ok (by omega) q hq t ht a b ha hb, SepS_ok (by omega) q hq t ht a b ha hb, SepI_ok (by omega) q hq t ht b a hb ha, e1, sep_comm q t b a]
      simp only [R41_r, R48_r, beq_self_eq_true, cond_true]
theorem apart_end {k : Nat} (hk : 1001000 ≤ k) {more : List Nat} (hm : CodeOK more) : (R42 (c42 k (encB more)) fun v1 v2 l3 l4 l5 =>
   R43 (c43 k v1 v2 l3 l4 l5) fun l6 b3 =>
   R44 (c44 k v1 v2 l3 l4 l5) fun l7 b4 =>
   bif (!(b3 == b4)) then
    r5 false
   else
    bif ((l6.length : Int) != (l7.length : Int)) then
     r5 false
    else L5_2 k k (encB more) l7 l6 (l6.length : Int) 0 v1 v2 l3 l4) = r5 true := by
  obtain ⟨p, ts, h, hp, hl, ht⟩ := drawTry_ok hm (k := k) (by omega)
  rw [h]
  simp only [R42_r]
  rw [TryI_ok (by omega) p hp ts hl ht, TryS_ok (by omega) p hp ts hl ht]
  simp only [R43_r, R44_r, beq_self_eq_true, Bool.not_true, cond_false, encTT_length, bne_self_eq_false]
  have ho := tryR_out p ts
  have hol := ho.len
  exact apart_last hk hm p (tryR p ts) ho (encT p.start) (encCms p.cmds) k 0 (by omega) (by omega)
theorem apart_loop {k : Nat} (hk : 1001000 ≤ k) {more : List Nat} (hm : CodeOK more) (p : Prg) (hp : FitP p) (ts : List (List Nd)) (hl : ts.length ≤ 1000) (ht : ∀ t ∈ ts, t.length ≤ 100) (a b : List Int) (ha : a.length ≤ 1000) (hb : b.length ≤ 1000) (j : Nat) (hj : j < ts.length) (hf : fOK p ts a b = true) (hyes : sepB p ts[j] a b = true) (hno : ∀ j' (h' : j' < j), sepB p (ts[j']'(by omega)) a b = false) : ∀ (n i : Nat), j + 1 - i < n → i ≤ j + 1 →
    L5_1 k n (encB more) (encTT ts) (encZ a) (encZ b) (j : Int) true (i : Int) p.wide p.vars (encT p.start) (encCms p.cmds) = r5 true
  | 0, i, h, hi => by omega
  | n + 1, i, h, hi => by
    rw [sL5_1]
    simp only [cond_true]
    by_cases hlt : i ≤ j
    · have hd : decide ((i : Int) ≤ (j : Int)) = true := by simpa using hlt
      have hnext : IntKind.i64.wrap ((i : Int) + 1) = ((i + 1 : Nat) : Int) := by rw [i64_id (by omega) (by omega)]; omega
      have hil : i < ts.length := by omega
      have hm' := List.getElem_mem hil
      rw [hd, lookP_nat, encTT_get, List.getElem?_eq_getElem hil, hnext]
      simp only [cond_true, Option.map_some, Option.bind_some, row_atRow]
      simp only [fOK, Bool.and_eq_true] at hf
      have hk2 := allC_get hf.2.2 _ hm'
      have e1 : sepOK p ts[i] a b = true := by simp [sepOK, hf.1, hk2]
      have e2 : sepB p ts[i] a b = ((i : Int) == (j : Int)) := by
        by_cases he : i = j
        · subst he; simpa using hyes
        · rw [hno i (by omega)]; symm; simp; omega
      rw [SepI_ok (by omega) p hp _ (ht _ hm') a b ha hb, e1, e2]
      simp only [R41_r, Bool.true_and, beq_self_eq_true, Bool.not_true, cond_false]
      exact apart_loop hk hm p hp ts hl ht a b ha hb j hj (by simp [fOK, hf.1, hf.2.1, hf.2.2]) hyes hno n (i + 1) (by omega) (by omega)
    · have hd : decide ((i : Int) ≤ (j : Int)) = false := by simpa using hlt
      rw [hd]
      simp only [cond_false]
      exact apart_end hk hm
theorem apart_true {k : Nat} (hk : 1048700 ≤ k) (code more : List Nat) (hc : ∀ b ∈ code, b < 256) (hm : ∀ b ∈ more, b < 256) : c5 k (encB code) (encB more) = r5 true := by
  obtain ⟨k, rfl⟩ : ∃ j, k = j + 2 := ⟨k - 2, by omega⟩
  rw [n5, big_ok (by omega)]
  simp only [R12_r]
  cases hbig : (decide (code.length > 1048576) || decide (more.length + code.length > 1048576))
  · simp only [cond_false]
    rw [Bool.or_eq_false_iff] at hbig
    have hl : code.length ≤ 1048576 ∧ more.length ≤ 1048576 := by
      have h1 := hbig.1
      have h2 := hbig.2
      simp at h1 h2
      omega
    have hcc : CodeOK code := ⟨hl.1, hc⟩
    have hmm : CodeOK more := ⟨hl.2, hm⟩
    obtain ⟨p, ts, a, b, h, hp, hts, ht, ha, hb⟩ := drawFirst_ok hcc (k := k + 1) (by omega)
    rw [h]
    simp only [R38_r]
    rw [FirstI_ok (by omega) p hp ts hts ht a b ha hb, FirstS_ok (by omega) p hp ts hts ht a b ha hb]
    simp only [R39_r, R40_r, beq_self_eq_true, Bool.not_true, cond_false, bne_self_eq_false]
    cases hok : faOK p ts a b
    · rw [sL5_1]
      simp only [cond_false]
      exact apart_end (by omega) hmm
    · have hf := hok
      simp only [faOK, Bool.and_eq_true, decide_eq_true_eq] at hf
      have ek : faK p ts a b = firstI p ts a b := by unfold faK; rw [hok]; rfl
      rcases fixI_spec (fun t => sepB p t a b) ts 0 with ⟨h1, _⟩ | ⟨j, hj, h1, h2, h3⟩
      · have : firstI p ts a b = -1 := h1
        omega
      · have h1' : firstI p ts a b = (j : Int) := by rw [show firstI p ts a b = _ from h1, Nat.zero_add]
        rw [ek, h1']
        exact apart_loop (by omega) hmm p hp ts hts ht a b ha hb j hj hf.1 h2 h3 (k + 1) 0 (by omega) (by omega)
  · rfl
theorem lawFnApart (code more : List Int) (hc : ∀ n ∈ code, (Lit.int .u8 n).wf = true) (hm : ∀ n ∈ more, (Lit.int .u8 n).wf = true) : Contract Tryz.prog 5 (([.row 0 0 (ints .u8 code), .row 0 0 (ints .u8 more)] : List PV).map .p) [] ([.c (.p (.bool true))], []) := by
  obtain ⟨e1, h1⟩ := ints_encB code hc
  obtain ⟨e2, h2⟩ := ints_encB more hm
  rw [e1, e2]
  exact evF_sound envOK pOK (T := T) hT 1048700 (apart_true (k := 1048700) (Nat.le_refl _) _ _ h1 h2)
end Go.Proofs.YtclkgblckicabaaGreat
/- The law FnApart of the program: for all arguments it returns true, and its arguments read as they did. -/
namespace Go.Proofs.YtclkgblckicabaaGreat.fnApart
open Go.ChangeShapes Go.WideShapes Go.ChangeAt Go.RowKit Go.Dp
open Go.ChangeMaps (open_string shut_string)
set_option linter.unusedVariables false
theorem own : ownKnob Tryz.prog.godebug = none := by kernel_rfl
theorem laidOut : laidOutB Tryz.prog = true := by kernel_rfl
theorem spot_none {P : Program} {w : World} {r : Reach} {base : Nat} {t e : TypeId} {x : Addr} {len cap : Nat} (ht : P.underlying t = some (.slice e)) (h : Value.okWide P w r base t (.slice (some x) len cap)) : x.spot = none := by
  simp only [Value.okWide, ht, Cell.okWide, Cell.ok] at h
  exact h.2.2.2.1
set_option maxRecDepth 100000 in
theorem lifted (os : Os) (started : os.Started) (H : Type) (enc : TypeId × Value → H) :
    ReturnsInHanded {} Tryz.checked os 5 .any (Rows.fnApartSpec.pre6 enc Tryz.prog Tryz.f5 Rows.fnApartRow.domain false) (Rows.fnApartSpec.post enc Tryz.prog Tryz.f5 false true false false) := by
  refine returnsInHanded_of_change_sized (C := Tryz.checked) own started (by kernel_rfl) Tryz.func5
    (ChangeSpec.witness6 (enc := enc) (C := Tryz.checked) false ⟨#[], #[.slice none 0 0, .slice none 0 0], []⟩ 8 (by kernel_rfl) (by kernel_rfl) (by kernel_rfl) (by kernel_rfl)) ?_
  intro W base args ds gs before hval0 hW hcnd hsz0 _
  have hval : ∀ (j : Nat) t v, Tryz.f5.params[j]? = some t → args[j]? = some v → Value.okWide Tryz.prog W .any base t v := hval0
  have hW' := hW
  obtain ⟨p, q, hA0, hV, rfl, hfz, hnd⟩ := hW
  have hA : DataW.TrodAll enc Tryz.prog W 0 (fun _ => true) true Tryz.f5.params.toList args.toList ds p := hA0
  rw [Tryz.params5] at hA hval
  obtain ⟨v0, vs0, d0, ds0, p0, q0, hargs, rfl, rfl, h0, r0⟩ := trodAll_cons hA
  obtain ⟨v1, vs1, d1, ds1, p1, q1, rfl, rfl, rfl, h1, r1⟩ := trodAll_cons r0
  obtain ⟨rfl, rfl, rfl⟩ := trodAll_nil r1
  obtain rfl : args = #[v0, v1] := by cases args; simp_all
  obtain ⟨rfl, rfl⟩ := trodVars_none hV
  have o0 := hval 0 22 v0 rfl rfl
  obtain ⟨a0, len0, cap0, rfl⟩ := okWide_slice Tryz.underlying22 o0
  have k0 := h0
  have lt0 : ∀ x ∈ p0, x.block < W.heap.size := by obtain ⟨m, hm⟩ := k0; exact DataW.trod_lt m _ _ _ hm
  obtain ⟨z0, w0⟩ : ∃ zs, IsRow .u8 W a0 len0 cap0 zs := by
    obtain ⟨fuel, hf⟩ := h0
    rcases open_ints Tryz.underlying22 Tryz.underlying5 (by kernel_rfl) hf with ⟨hcs, _⟩ | ⟨x, l, c, zs, hcs, _, hl, hm, hz, _, hcell, hwz⟩
    · simp [Value.cells] at hcs
      obtain ⟨rfl, rfl, rfl⟩ := hcs
      exact ⟨[], .inl ⟨rfl, rfl, rfl, rfl⟩⟩
    · simp [Value.cells] at hcs
      obtain ⟨rfl, rfl, rfl⟩ := hcs
      exact ⟨zs, .inr ⟨_, rfl, spot_none Tryz.underlying22 o0, hl, hm, by simpa using hz, hcell, hwz⟩⟩
  have o1 := hval 1 22 v1 rfl rfl
  obtain ⟨a1, len1, cap1, rfl⟩ := okWide_slice Tryz.underlying22 o1
  have k1 := h1
  have lt1 : ∀ x ∈ p1, x.block < W.heap.size := by obtain ⟨m, hm⟩ := k1; exact DataW.trod_lt m _ _ _ hm
  obtain ⟨z1, w1⟩ : ∃ zs, IsRow .u8 W a1 len1 cap1 zs := by
    obtain ⟨fuel, hf⟩ := h1
    rcases open_ints Tryz.underlying22 Tryz.underlying5 (by kernel_rfl) hf with ⟨hcs, _⟩ | ⟨x, l, c, zs, hcs, _, hl, hm, hz, _, hcell, hwz⟩
    · simp [Value.cells] at hcs
      obtain ⟨rfl, rfl, rfl⟩ := hcs
      exact ⟨[], .inl ⟨rfl, rfl, rfl, rfl⟩⟩
    · simp [Value.cells] at hcs
      obtain ⟨rfl, rfl, rfl⟩ := hcs
      exact ⟨zs, .inr ⟨_, rfl, spot_none Tryz.underlying22 o1, hl, hm, by simpa using hz, hcell, hwz⟩⟩
  clear hA0 hval0 hsz0
  refine (law_walk (P := Tryz.prog) (f := 5) (vs := [.row 0 0 (ints .u8 (z0.take len0)), .row 0 0 (ints .u8 (z1.take len1))]) (ys := [.slice a0 len0 cap0, .slice a1 len1 cap1]) rfl ?_ (lawFnApart (z0.take len0) (z1.take len1) (fun n hn => w0.wf n (List.mem_of_mem_take hn)) (fun n hn => w1.wf n (List.mem_of_mem_take hn)))).mono fun e W' ⟨he, bel⟩ => ?_
  · intro i a y ha hy
    cases i with
    | zero => simp at ha hy; subst ha; subst hy; exact w0.rp
    | succ i =>
      cases i with
      | zero => simp at ha hy; subst ha; subst hy; exact w1.rp
      | succ i =>
        simp at ha
  subst he
  exact ⟨_, rfl, _, _, _, [], _, [], hW', trodAll_mk1 (shut_bool Tryz.underlying4 _), (trodAll_cons_mk (Below.trod laidOut (by kernel_rfl) (of_decide_eq_true (by kernel_rfl)) k0 bel lt0) (trodAll_cons_mk (Below.trod laidOut (by kernel_rfl) (of_decide_eq_true (by kernel_rfl)) k1 bel lt1) trodAll_mk0)), rfl, bel.frame _, fun h => by cases h⟩
theorem named : Tryz.pinned.checked.prog.funcNamed Rows.fnApartRow.func = some 5 := by kernel_rfl
theorem closed : joinedFacts Tryz.pinned.checked.prog 5 Tryz.f5 Rows.fnApartSpec Rows.fnApartRow = true := by kernel_rfl
theorem inst : Tryz.f5.isInstance Tryz.pinned.checked.prog Rows.fnApartRow.origin Rows.fnApartRow.targs := of_decide_eq_true (by kernel_rfl)
theorem wrap : Tryz.f5.isWrapper Tryz.pinned.checked.prog Rows.fnApartRow.wrapper Rows.fnApartRow.mainSum := by unfold Func.isWrapper; first | (rw [if_pos (by decide +kernel)]; kernel_rfl) | (rw [if_neg (by decide +kernel)]; exact ⟨rfl, rfl⟩)
theorem over : Rows.fnApartRow.holds Tryz.pinned (OpenSpec.ofChange Rows.fnApartSpec) :=
  OpenClaim.holds_of_wide 5 Tryz.f5 rfl rfl rfl rfl rfl rfl rfl ⟨rfl, rfl, rfl, rfl, rfl⟩ rfl rfl rfl rfl rfl named Tryz.func5 closed inst wrap
    (fun os started H enc _ => lifted os started H enc)
theorem proved : Rows.FnApartSaid := over
end Go.Proofs.YtclkgblckicabaaGreat.fnApart
namespace Go.Proofs.YtclkgblckicabaaGreat
/-- The row, under a short name, for the claim. -/
theorem fnApart_holds : Rows.FnApartSaid := fnApart.proved
#print axioms fnApart_holds
end Go.Proofs.YtclkgblckicabaaGreat
