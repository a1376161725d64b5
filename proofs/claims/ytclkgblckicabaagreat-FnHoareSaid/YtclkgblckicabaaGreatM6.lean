/- The law FnHoare of the program: for all arguments it returns true, and its arguments read as they did. -/
import Derived.Test.YtclkgblckicabaaGreatM5
import Derived.Test.YtclkgblckicabaaGreatRows
import Derived.WalkKit
import Derived.ProofKit
import Derived.OpenShut
import Derived.ShutString
import Derived.ChangeOld
import Derived.Below
import Derived.SizedLaws
/- Small programs: states by their numbers; where a condition holds; lists of states. -/
set_option linter.unusedVariables false
set_option linter.unusedSimpArgs false
set_option maxRecDepth 4000
namespace Go.Proofs.YtclkgblckicabaaGreat
open Go.Dp

def nS (p : Prg) : Nat := 2 ^ (pw p * pv p)
def sto (p : Prg) (no : Int) : List W := digs (pw p) (pv p) no.toNat
def inS (p : Prg) (no : Int) : Prop := 0 ≤ no ∧ no < (nS p : Int)
theorem nS_le {p : Prg} (h : smallP p = true) : 2 ≤ nS p ∧ nS p ≤ 32 := by
  obtain ⟨_, _, h3, h4, _, h6, _⟩ := small_nat2 h
  refine ⟨?_, pow5 h6⟩
  have : 1 ≤ pw p * pv p := Nat.mul_pos h3 h4
  exact Nat.pow_le_pow_right (n := 2) (by omega) this
theorem inS_no {p : Prg} (h : smallP p = true) {no : Int} (hi : inS p no) : noOK p no = true := by
  simp only [noOK, h, Bool.true_and, Bool.and_eq_true, decide_eq_true_eq]
  exact hi
theorem sto_ok {p : Prg} (h : smallP p = true) {no : Int} (hi : inS p no) : stOK p (sto p no) = true := (stOK_digs (inS_no h hi)).2.1
theorem sto_no {p : Prg} (h : smallP p = true) {no : Int} (hi : inS p no) : (noOf (pw p) (sto p no) : Int) = no := (stOK_digs (inS_no h hi)).2.2
theorem no_inS {p : Prg} (h : smallP p = true) {s : List W} (hs : stOK p s = true) : inS p (noOf (pw p) s : Int) ∧ sto p (noOf (pw p) s : Int) = s := by
  obtain ⟨h1, h2⟩ := noOK_noOf h hs
  simp only [noOK, Bool.and_eq_true, decide_eq_true_eq] at h1
  exact ⟨⟨h1.1.2, h1.2⟩, h2⟩
theorem stoI_ok {k : Nat} (hk : 100 ≤ k) {p : Prg} (h : smallP p = true) (l1 l2 : List PV) {no : Int} (hi : inS p no) : c121 k p.wide p.vars l1 l2 no = r121 (encW (sto p no)) := by
  obtain ⟨h1, h2, h3, h4, h5, h6, _⟩ := small_nat2 h
  have := stateOf_ok hk (pw p) (pv p) h3 h6 h5 l1 l2 no.toNat (by have := hi.1; have := hi.2; unfold nS at this; omega)
  rw [← h1, ← h2, Int.toNat_of_nonneg hi.1] at this
  exact this
theorem stoS_ok {k : Nat} (hk : 100 ≤ k) {p : Prg} (h : smallP p = true) (l1 l2 : List PV) {no : Int} (hi : inS p no) : c172 k p.wide p.vars l1 l2 no = r172 (encW (sto p no)) := by
  obtain ⟨h1, h2, h3, h4, h5, h6, _⟩ := small_nat2 h
  have := l7Of_ok hk (pw p) (pv p) h3 h6 h5 l1 l2 no.toNat (by have := hi.1; have := hi.2; unfold nS at this; omega)
  rw [← h1, ← h2, Int.toNat_of_nonneg hi.1] at this
  exact this
theorem nSI_ok {k : Nat} (hk : 1 ≤ k) {p : Prg} (h : smallP p = true) (l1 l2 : List PV) : c114 k p.wide p.vars l1 l2 = r114 (nS p : Int) := by
  obtain ⟨h1, h2, h3, h4, h5, h6, _⟩ := small_nat2 h
  rw [h1, h2]
  exact states_ok hk (pw p) (pv p) h6 l1 l2
theorem nSS_ok {k : Nat} (hk : 1 ≤ k) {p : Prg} (h : smallP p = true) (l1 l2 : List PV) : c116 k p.wide p.vars l1 l2 = r116 (nS p : Int) := by
  obtain ⟨h1, h2, h3, h4, h5, h6, _⟩ := small_nat2 h
  rw [h1, h2]
  exact l7Many_ok hk (pw p) (pv p) h6 l1 l2
theorem noI_ok {k : Nat} (hk : 100 ≤ k) {p : Prg} (h : smallP p = true) (l1 l2 : List PV) {s : List W} (hs : stOK p s = true) : c270 k p.wide p.vars l1 l2 (encW s) = r270 (noOf (pw p) s : Int) := by
  obtain ⟨h1, h2, h3, h4, h5, h6, _⟩ := small_nat2 h
  obtain ⟨h7, h8⟩ := stOK_nat h hs
  rw [h1, h2]
  exact stateNo_ok hk (pw p) (pv p) h6 l1 l2 s h7 h5 h8
theorem noS_ok {k : Nat} (hk : 100 ≤ k) {p : Prg} (h : smallP p = true) (l1 l2 : List PV) {s : List W} (hs : stOK p s = true) : c275 k p.wide p.vars l1 l2 (encW s) = r275 (noOf (pw p) s : Int) := by
  obtain ⟨h1, h2, h3, h4, h5, h6, _⟩ := small_nat2 h
  obtain ⟨h7, h8⟩ := stOK_nat h hs
  rw [h1, h2]
  exact l7No_ok hk (pw p) (pv p) h3 h6 l1 l2 s h7 h5 h8
theorem small_good {p : Prg} (h : smallP p = true) : goodP p = true := by
  simp only [smallP, Bool.and_eq_true] at h
  exact h.1

/-! ### Where a condition holds -/
def hN (p : Prg) (t : List Nd) (no : Int) : Bool := holdT p t (sto p no)
def whN (p : Prg) (t : List Nd) : Nat → Nat → List Int
  | _, 0 => []
  | i, m + 1 => (bif hN p t (i : Int) then [(i : Int)] else []) ++ whN p t (i + 1) m
def whI (p : Prg) (t : List Nd) : List Int := whN p t 0 (nS p)
theorem whN_mem (p : Prg) (t : List Nd) : ∀ (m i : Nat) (x : Int), x ∈ whN p t i m ↔ (i : Int) ≤ x ∧ x < (i + m : Nat) ∧ hN p t x = true
  | 0, i, x => by simp [whN]; omega
  | m + 1, i, x => by
    simp only [whN, List.mem_append, whN_mem p t m (i + 1) x]
    by_cases hx : x = (i : Int)
    · subst hx
      cases hN p t (i : Int) <;> simp <;> omega
    · have : x ∉ (bif hN p t (i : Int) then [(i : Int)] else []) := by cases hN p t (i : Int) <;> simp [hx]
      simp only [this, false_or]
      constructor
      · rintro ⟨h1, h2, h3⟩; exact ⟨by omega, by omega, h3⟩
      · rintro ⟨h1, h2, h3⟩; exact ⟨by omega, by omega, h3⟩
theorem whI_mem (p : Prg) (t : List Nd) (x : Int) : x ∈ whI p t ↔ inS p x ∧ hN p t x = true := by
  rw [whI, whN_mem]
  simp [inS, and_assoc]
theorem whN_len (p : Prg) (t : List Nd) : ∀ (m i : Nat), (whN p t i m).length ≤ m
  | 0, i => by simp [whN]
  | m + 1, i => by
    have := whN_len p t m (i + 1)
    simp only [whN, List.length_append]
    cases hN p t (i : Int) <;> simp <;> omega
theorem whN_lt (p : Prg) (t : List Nd) : ∀ (m i : Nat), (whN p t i m).Pairwise (· < ·)
  | 0, i => by simp [whN]
  | m + 1, i => by
    have h := whN_lt p t m (i + 1)
    simp only [whN]
    cases hN p t (i : Int)
    · exact h
    · simp only [cond_true, List.cons_append, List.nil_append, List.pairwise_cons]
      refine ⟨fun x hx => ?_, h⟩
      have := (whN_mem p t m (i + 1) x).1 hx
      omega
theorem where_loop {k : Nat} (hk : 1000100 ≤ k) {p : Prg} (hs : smallP p = true) (l1 l2 : List PV) (t : List Nd) (ht : t.length ≤ 100) (hkt : kindT p.wide p.vars t = 2) : ∀ (n i : Nat) (o : List Int), nS p - i < n → i ≤ nS p → o.length ≤ i →
    L196_1 k n (encT t) o.length (nS p : Int) (i : Int) p.wide p.vars l1 l2 (encZ o) = r196 (encZ (o ++ whN p t i (nS p - i)))
  | 0, i, o, h, hi, ho => by omega
  | n + 1, i, o, h, hi, ho => by
    have hle := nS_le hs
    rw [sL196_1]
    have etk : (encZ o).take o.length = encZ o := by rw [List.take_of_length_le (by simp)]
    by_cases hlt : i < nS p
    · have hd : decide ((i : Int) < (nS p : Int)) = true := by simpa using hlt
      have hin : inS p (i : Int) := ⟨by omega, by omega⟩
      obtain ⟨m, hm⟩ : ∃ m, nS p - i = m + 1 := ⟨nS p - i - 1, by omega⟩
      have hm2 : nS p - (i + 1) = m := by omega
      rw [hd, stoI_ok (by omega) hs l1 l2 hin]
      simp only [cond_true, R121_r]
      rw [holdsI_ok (by omega) p (small_good hs) l1 l2 t ht hkt _ (sto_ok hs hin)]
      simp only [R137_r]
      rw [i64_id (by omega) (by omega), show (i : Int) + 1 = ((i + 1 : Nat) : Int) by omega, hm]
      simp only [whN]
      change (bif hN p t (i : Int) then _ else _) = _
      cases hh : hN p t (i : Int)
      · simp only [cond_false, List.nil_append]
        have := where_loop hk hs l1 l2 t ht hkt n (i + 1) o (by omega) (by omega) (by omega)
        rw [hm2] at this
        exact this
      · simp only [cond_true]
        rw [lim_ok (by omega) (by omega), etk, encZ_snoc]
        have := where_loop hk hs l1 l2 t ht hkt n (i + 1) (o ++ [(i : Int)]) (by omega) (by omega) (by simp; omega)
        rw [hm2, List.length_append, List.append_assoc] at this
        exact this
    · have hd : decide ((i : Int) < (nS p : Int)) = false := by simpa using hlt
      have h0 : nS p - i = 0 := by omega
      rw [hd, etk, h0]
      simp [whN]
theorem where_ok {k : Nat} (hk : 1000200 ≤ k) {p : Prg} (hs : smallP p = true) (l1 l2 : List PV) (t : List Nd) (ht : t.length ≤ 100) (hkt : kindT p.wide p.vars t = 2) : c196 k p.wide p.vars l1 l2 (encT t) = r196 (encZ (whI p t)) := by
  obtain ⟨k, rfl⟩ : ∃ j, k = j + 1 := ⟨k - 1, by omega⟩
  have hle := nS_le hs
  rw [n196, nSI_ok (by omega) hs]
  simp only [R114_r]
  have := where_loop (k := k) (by omega) hs l1 l2 t ht hkt k 0 [] (by omega) (by omega) (by simp)
  rw [show encZ ([] : List Int) = [] from rfl] at this
  simpa [whI] using this
theorem those_loop {k : Nat} (hk : 1000100 ≤ k) {p : Prg} (hs : smallP p = true) (l1 l2 : List PV) (t : List Nd) (ht : t.length ≤ 100) (hkt : kindT p.wide p.vars t = 2) : ∀ (n i : Nat) (o : List Int), nS p - i < n → i ≤ nS p → o.length ≤ i →
    L164_1 k n (encT t) o.length (i : Int) p.wide p.vars l1 l2 (encZ o) = r164 (encZ (o ++ whN p t i (nS p - i)))
  | 0, i, o, h, hi, ho => by omega
  | n + 1, i, o, h, hi, ho => by
    have hle := nS_le hs
    rw [sL164_1, nSS_ok (by omega) hs]
    simp only [R116_r]
    have etk : (encZ o).take o.length = encZ o := by rw [List.take_of_length_le (by simp)]
    by_cases hlt : i < nS p
    · have hd : decide ((i : Int) < (nS p : Int)) = true := by simpa using hlt
      have hin : inS p (i : Int) := ⟨by omega, by omega⟩
      obtain ⟨m, hm⟩ : ∃ m, nS p - i = m + 1 := ⟨nS p - i - 1, by omega⟩
      have hm2 : nS p - (i + 1) = m := by omega
      rw [hd, stoS_ok (by omega) hs l1 l2 hin]
      simp only [cond_true, R172_r]
      rw [holdsS_ok (by omega) p (small_good hs) l1 l2 t ht hkt _ (sto_ok hs hin)]
      simp only [R171_r]
      rw [i64_id (by omega) (by omega), show (i : Int) + 1 = ((i + 1 : Nat) : Int) by omega, hm]
      simp only [whN]
      change (bif hN p t (i : Int) then _ else _) = _
      cases hh : hN p t (i : Int)
      · simp only [cond_false, List.nil_append]
        have := those_loop hk hs l1 l2 t ht hkt n (i + 1) o (by omega) (by omega) (by omega)
        rw [hm2] at this
        exact this
      · simp only [cond_true]
        rw [lim_ok (by omega) (by omega), etk, encZ_snoc]
        have := those_loop hk hs l1 l2 t ht hkt n (i + 1) (o ++ [(i : Int)]) (by omega) (by omega) (by simp; omega)
        rw [hm2, List.length_append, List.append_assoc] at this
        exact this
    · have hd : decide ((i : Int) < (nS p : Int)) = false := by simpa using hlt
      have h0 : nS p - i = 0 := by omega
      rw [hd, etk, h0]
      simp [whN]
theorem those_ok {k : Nat} (hk : 1000200 ≤ k) {p : Prg} (hs : smallP p = true) (l1 l2 : List PV) (t : List Nd) (ht : t.length ≤ 100) (hkt : kindT p.wide p.vars t = 2) : c164 k p.wide p.vars l1 l2 (encT t) = r164 (encZ (whI p t)) := by
  obtain ⟨k, rfl⟩ : ∃ j, k = j + 1 := ⟨k - 1, by omega⟩
  have hle := nS_le hs
  rw [n164]
  have := those_loop (k := k) (by omega) hs l1 l2 t ht hkt k 0 [] (by omega) (by omega) (by simp)
  rw [show encZ ([] : List Int) = [] from rfl] at this
  simpa [whI] using this

/-! ### Increasing lists of states -/
def incG (b : Int) : Option Int → List Int → Bool
  | _, [] => true
  | pr, n :: l => decide (0 ≤ n) && decide (n < b) && (match pr with | none => true | some q => decide (q < n)) && incG b (some n) l
def prI (l : List Int) (i : Nat) : Option Int := if i = 0 then none else l[i - 1]?
theorem incG_mem {b : Int} : ∀ {l : List Int} {pr : Option Int}, incG b pr l = true → ∀ x ∈ l, 0 ≤ x ∧ x < b
  | [], _, _, x, hx => by simp at hx
  | n :: l, pr, h, x, hx => by
    simp only [incG, Bool.and_eq_true, decide_eq_true_eq] at h
    rcases List.mem_cons.1 hx with rfl | hx
    · exact h.1.1
    · exact incG_mem h.2 x hx
theorem incG_lt {b : Int} : ∀ {l : List Int} {pr : Option Int}, incG b pr l = true → l.Pairwise (· < ·) ∧ ∀ q, pr = some q → ∀ x ∈ l, q < x
  | [], _, _ => by simp
  | n :: l, pr, h => by
    simp only [incG, Bool.and_eq_true, decide_eq_true_eq] at h
    obtain ⟨h1, h2⟩ := incG_lt h.2
    refine ⟨List.pairwise_cons.2 ⟨fun x hx => h2 n rfl x hx, h1⟩, fun q hq x hx => ?_⟩
    subst hq
    have h3 : q < n := by simpa using h.1.2
    rcases List.mem_cons.1 hx with rfl | hx
    · exact h3
    · have := h2 n rfl x hx
      omega
theorem incG_at {b : Int} {l : List Int} {i : Nat} (h : i < l.length) : incG b (prI l i) (l.drop i) = (decide (0 ≤ l[i]) && decide (l[i] < b) && (if i = 0 then true else decide (l[i - 1]! < l[i])) && incG b (prI l (i + 1)) (l.drop (i + 1))) := by
  rw [drop_cons h]
  simp only [incG]
  have e : prI l (i + 1) = some l[i] := by simp [prI, h]
  rw [e]
  by_cases h0 : i = 0
  · subst h0; simp [prI]
  · have e2 : prI l i = some l[i - 1]! := by
      rw [prI, if_neg h0, List.getElem?_eq_getElem (by omega), getElem!_pos l (i - 1) (by omega)]
    rw [e2, if_neg h0]
theorem inc_loop {k : Nat} (l : List Int) (hl : l.length ≤ 100000) (b : Int) : ∀ (n i : Nat), l.length - i < n → i ≤ l.length → L177_1 k n (encZ l) b (encZ l) (l.length : Int) (i : Int) = r177 (incG b (prI l i) (l.drop i))
  | 0, i, h, hi => by omega
  | n + 1, i, h, hi => by
    rw [sL177_1]
    by_cases hlt : i < l.length
    · have hd : decide ((i : Int) < (l.length : Int)) = true := by simpa using hlt
      rw [hd, encZ_lookup hlt, incG_at hlt]
      simp only [cond_true, Option.bind_some, int_atInt]
      have hnext : IntKind.i64.wrap ((i : Int) + 1) = ((i + 1 : Nat) : Int) := by rw [i64_id (by omega) (by omega)]; omega
      rw [hnext]
      by_cases h1 : l[i] < 0
      · have e1 : decide (l[i] < 0) = true := by simpa using h1
        have e2 : decide (0 ≤ l[i]) = false := by simp; omega
        rw [e1, e2]; rfl
      · have e1 : decide (l[i] < 0) = false := by simpa using h1
        have e2 : decide (0 ≤ l[i]) = true := by simp; omega
        rw [e1, e2]
        by_cases h2 : l[i] ≥ b
        · have e3 : decide (l[i] ≥ b) = true := by simpa using h2
          have e4 : decide (l[i] < b) = false := by simp; omega
          rw [e3, e4]; rfl
        · have e3 : decide (l[i] ≥ b) = false := by simpa using h2
          have e4 : decide (l[i] < b) = true := by simp; omega
          rw [e3, e4]
          simp only [cond_false, Bool.true_and]
          by_cases h0 : i = 0
          · have e5 : decide ((i : Int) > 0) = false := by simp; omega
            rw [e5, if_pos h0]
            simp only [cond_false, Bool.true_and]
            exact inc_loop l hl b n (i + 1) (by omega) (by omega)
          · have e5 : decide ((i : Int) > 0) = true := by simp; omega
            have e6 : IntKind.i64.wrap ((i : Int) - 1) = ((i - 1 : Nat) : Int) := by rw [i64_id (by omega) (by omega)]; omega
            rw [e5, if_neg h0, e6, encZ_lookup (l := l) (i := i - 1) (by omega)]
            simp only [cond_true, Option.bind_some, int_atInt]
            rw [← getElem!_pos l (i - 1) (by omega)]
            by_cases h3 : l[i - 1]! ≥ l[i]
            · have e7 : decide (l[i - 1]! ≥ l[i]) = true := decide_eq_true h3
              have e8 : decide (l[i - 1]! < l[i]) = false := decide_eq_false (by omega)
              rw [e7, e8]; rfl
            · have e7 : decide (l[i - 1]! ≥ l[i]) = false := decide_eq_false h3
              have e8 : decide (l[i - 1]! < l[i]) = true := decide_eq_true (by omega)
              rw [e7, e8]
              simp only [cond_false, Bool.true_and]
              exact inc_loop l hl b n (i + 1) (by omega) (by omega)
    · have hd : decide ((i : Int) < (l.length : Int)) = false := by simpa using hlt
      rw [hd, List.drop_eq_nil_of_le (by omega)]
      rfl
theorem inc_ok {k : Nat} (hk : 100010 ≤ k) (l : List Int) (hl : l.length ≤ 100000) (b : Int) : c177 k (encZ l) b = r177 (incG b none l) := by
  obtain ⟨k, rfl⟩ : ∃ j, k = j + 1 := ⟨k - 1, by omega⟩
  rw [n177, encZ_length]
  exact inc_loop (k := k) l hl b k 0 (by omega) (by omega)
theorem rise_loop {k : Nat} (hk : 1 ≤ k) (l : List Int) (hl : l.length ≤ 100000) (b : Int) : ∀ (n i : Nat), l.length - i < n → i ≤ l.length → L179_1 k n (encZ l) 0 (b - 1) (encZ l) (l.length : Int) (i : Int) = r179 (incG b (prI l i) (l.drop i))
  | 0, i, h, hi => by omega
  | n + 1, i, h, hi => by
    rw [sL179_1]
    by_cases hlt : i < l.length
    · have hd : decide ((i : Int) < (l.length : Int)) = true := by simpa using hlt
      rw [hd, encZ_lookup hlt, incG_at hlt]
      simp only [cond_true, Option.bind_some, int_atInt]
      have hnext : IntKind.i64.wrap ((i : Int) + 1) = ((i + 1 : Nat) : Int) := by rw [i64_id (by omega) (by omega)]; omega
      have eb : decide (l[i] ≤ b - 1) = decide (l[i] < b) := by
        rw [Bool.eq_iff_iff]; simp; omega
      rw [hnext, in_ok hk, eb]
      simp only [R117_r]
      cases hc : (decide (0 ≤ l[i]) && decide (l[i] < b))
      · rfl
      · simp only [Bool.not_true, cond_false, Bool.true_and]
        by_cases h0 : i = 0
        · have e5 : decide ((i : Int) > 0) = false := by simp; omega
          rw [e5, if_pos h0]
          simp only [cond_false, Bool.true_and]
          exact rise_loop hk l hl b n (i + 1) (by omega) (by omega)
        · have e5 : decide ((i : Int) > 0) = true := by simp; omega
          have e6 : IntKind.i64.wrap ((i : Int) - 1) = ((i - 1 : Nat) : Int) := by rw [i64_id (by omega) (by omega)]; omega
          rw [e5, if_neg h0, e6, encZ_lookup (l := l) (i := i - 1) (by omega)]
          simp only [cond_true, Option.bind_some, int_atInt]
          rw [← getElem!_pos l (i - 1) (by omega)]
          by_cases h3 : l[i - 1]! ≥ l[i]
          · have e7 : decide (l[i - 1]! ≥ l[i]) = true := decide_eq_true h3
            have e8 : decide (l[i - 1]! < l[i]) = false := decide_eq_false (by omega)
            rw [e7, e8]; rfl
          · have e7 : decide (l[i - 1]! ≥ l[i]) = false := decide_eq_false h3
            have e8 : decide (l[i - 1]! < l[i]) = true := decide_eq_true (by omega)
            rw [e7, e8]
            simp only [cond_false, Bool.true_and]
            exact rise_loop hk l hl b n (i + 1) (by omega) (by omega)
    · have hd : decide ((i : Int) < (l.length : Int)) = false := by simpa using hlt
      rw [hd, List.drop_eq_nil_of_le (by omega)]
      rfl
theorem rise_ok {k : Nat} (hk : 100010 ≤ k) (l : List Int) (hl : l.length ≤ 100000) (b : Int) : c179 k (encZ l) 0 (b - 1) = r179 (incG b none l) := by
  obtain ⟨k, rfl⟩ : ∃ j, k = j + 1 := ⟨k - 1, by omega⟩
  rw [n179, encZ_length]
  exact rise_loop (k := k) (by omega) l hl b k 0 (by omega) (by omega)
theorem within_loop {k : Nat} (hk : 100010 ≤ k) (a b : List Int) (ha : a.length ≤ 100000) (hb : b.length ≤ 100000) : ∀ (n i : Nat), a.length - i < n → i ≤ a.length → L206_1 k n (encZ b) (encZ a) (a.length : Int) (i : Int) = r206 ((a.drop i).all fun x => b.contains x)
  | 0, i, h, hi => by omega
  | n + 1, i, h, hi => by
    rw [sL206_1]
    by_cases hlt : i < a.length
    · have hd : decide ((i : Int) < (a.length : Int)) = true := by simpa using hlt
      have hnext : IntKind.i64.wrap ((i : Int) + 1) = ((i + 1 : Nat) : Int) := by rw [i64_id (by omega) (by omega)]; omega
      rw [hd, encZ_lookup hlt, drop_cons hlt, hnext]
      simp only [cond_true, Option.bind_some, int_atInt]
      rw [has_ok hk b hb]
      simp only [R165_r, List.all_cons]
      cases b.contains a[i]
      · rfl
      · exact within_loop hk a b ha hb n (i + 1) (by omega) (by omega)
    · have hd : decide ((i : Int) < (a.length : Int)) = false := by simpa using hlt
      rw [hd, List.drop_eq_nil_of_le (by omega)]
      rfl
theorem within_ok {k : Nat} (hk : 100020 ≤ k) (a b : List Int) (ha : a.length ≤ 100000) (hb : b.length ≤ 100000) : c206 k (encZ a) (encZ b) = r206 (a.all fun x => b.contains x) := by
  obtain ⟨k, rfl⟩ : ∃ j, k = j + 1 := ⟨k - 1, by omega⟩
  rw [n206, encZ_length]
  exact within_loop (k := k) (by omega) a b ha hb k 0 (by omega) (by omega)
theorem all_in {p : Prg} {t : List Nd} {l : List Int} (hl : ∀ x ∈ l, inS p x) : (l.all fun x => (whI p t).contains x) = l.all (hN p t) := by
  induction l with
  | nil => rfl
  | cons x l ih =>
    have h1 : (whI p t).contains x = hN p t x := by
      rw [Bool.eq_iff_iff, List.contains_iff_mem, whI_mem]
      simp [hl x (by simp)]
    simp only [List.all_cons, h1, ih fun y hy => hl y (by simp [hy])]
/-- Two lists held against each other. -/
theorem sameIn_loop {k : Nat} (a b : List Int) (hl : a.length = b.length) (ha : a.length ≤ 1000000) : ∀ (n i : Nat), a.length - i < n → i ≤ a.length → L210_1 k n (encZ a) (encZ b) (a.length : Int) (i : Int) = r210 (decide (a.drop i = b.drop i))
  | 0, i, h, hi => by omega
  | n + 1, i, h, hi => by
    rw [sL210_1]
    by_cases hlt : i < a.length
    · have hd : decide ((i : Int) < (a.length : Int)) = true := by simpa using hlt
      have hnext : IntKind.i64.wrap ((i : Int) + 1) = ((i + 1 : Nat) : Int) := by rw [i64_id (by omega) (by omega)]; omega
      rw [hd, encZ_lookup hlt, encZ_lookup (l := b) (i := i) (by omega), drop_cons hlt, drop_cons (l := b) (by omega), hnext]
      simp only [cond_true, Option.bind_some, int_atInt, List.cons.injEq, Bool.decide_and]
      by_cases he : a[i] = b[i]
      · have e1 : (a[i] != b[i]) = false := by simpa using he
        have e2 : decide (a[i] = b[i]) = true := by simpa using he
        rw [e1, e2]
        simp only [cond_false, Bool.true_and]
        exact sameIn_loop a b hl ha n (i + 1) (by omega) (by omega)
      · have e1 : (a[i] != b[i]) = true := by simpa using he
        have e2 : decide (a[i] = b[i]) = false := by simpa using he
        rw [e1, e2]; rfl
    · have hd : decide ((i : Int) < (a.length : Int)) = false := by simpa using hlt
      rw [hd, List.drop_eq_nil_of_le (by omega), List.drop_eq_nil_of_le (by omega)]
      rfl
theorem l1Same_ok {k : Nat} (hk : 1000010 ≤ k) (a b : List Int) (ha : a.length ≤ 1000000) : c210 k (encZ a) (encZ b) = r210 (decide (a = b)) := by
  obtain ⟨k, rfl⟩ : ∃ j, k = j + 1 := ⟨k - 1, by omega⟩
  rw [n210, encZ_length, encZ_length]
  by_cases hl : a.length = b.length
  · have e : ((a.length : Int) != (b.length : Int)) = false := by simp [hl]
    rw [e]
    exact sameIn_loop (k := k) a b hl ha k 0 (by omega) (by omega)
  · have e : ((a.length : Int) != (b.length : Int)) = true := by simp; omega
    have e2 : decide (a = b) = false := by simp; intro h; exact hl (by rw [h])
    rw [e, e2]; rfl
theorem eqI_loop {k : Nat} (a b : List Int) (hl : a.length = b.length) (ha : a.length ≤ 1000000) : ∀ (n i : Nat), a.length - i < n → i ≤ a.length → L118_1 k n (encZ a) (encZ b) (a.length : Int) (i : Int) = r118 (decide (a.drop i = b.drop i))
  | 0, i, h, hi => by omega
  | n + 1, i, h, hi => by
    rw [sL118_1]
    by_cases hlt : i < a.length
    · have hd : decide ((i : Int) < (a.length : Int)) = true := by simpa using hlt
      have hnext : IntKind.i64.wrap ((i : Int) + 1) = ((i + 1 : Nat) : Int) := by rw [i64_id (by omega) (by omega)]; omega
      rw [hd, encZ_lookup hlt, encZ_lookup (l := b) (i := i) (by omega), drop_cons hlt, drop_cons (l := b) (by omega), hnext]
      simp only [cond_true, Option.bind_some, int_atInt, List.cons.injEq, Bool.decide_and]
      by_cases he : a[i] = b[i]
      · have e1 : (a[i] != b[i]) = false := by simpa using he
        have e2 : decide (a[i] = b[i]) = true := by simpa using he
        rw [e1, e2]
        simp only [cond_false, Bool.true_and]
        exact eqI_loop a b hl ha n (i + 1) (by omega) (by omega)
      · have e1 : (a[i] != b[i]) = true := by simpa using he
        have e2 : decide (a[i] = b[i]) = false := by simpa using he
        rw [e1, e2]; rfl
    · have hd : decide ((i : Int) < (a.length : Int)) = false := by simpa using hlt
      rw [hd, List.drop_eq_nil_of_le (by omega), List.drop_eq_nil_of_le (by omega)]
      rfl
theorem eqI_ok {k : Nat} (hk : 1000010 ≤ k) (a b : List Int) (ha : a.length ≤ 1000000) : c118 k (encZ a) (encZ b) = r118 (decide (a = b)) := by
  obtain ⟨k, rfl⟩ : ∃ j, k = j + 1 := ⟨k - 1, by omega⟩
  rw [n118, encZ_length, encZ_length]
  by_cases hl : a.length = b.length
  · have e : ((a.length : Int) != (b.length : Int)) = false := by simp [hl]
    rw [e]
    exact eqI_loop (k := k) a b hl ha k 0 (by omega) (by omega)
  · have e : ((a.length : Int) != (b.length : Int)) = true := by simp; omega
    have e2 : decide (a = b) = false := by simp; intro h; exact hl (by rw [h])
    rw [e, e2]; rfl
/-! ### Some states, drawn -/
theorem someOf_loop {bs : List Nat} (hc : CodeOK bs) {k : Nat} (hk : 2010 ≤ k) (n1 : Int) : ∀ (m n : Nat) (q : Int) (o : List Int) {at' : Int} (s : W), q.toNat ≤ m → m < n → q ≤ 100 → o.length + m ≤ 200 → 0 ≤ at' → at' + 2 * m ≤ 700000000 →
    ∃ a2 s2 l, L149_1 k n n1 o.length q (encB bs) at' (wi s) (encZ o) = r149 (encB bs) a2 (wi s2) (encZ l) ∧ at' ≤ a2 ∧ a2 ≤ at' + 2 * m + 2 ∧ l.length ≤ o.length + m + 1
  | m, 0, q, o, at', s, h1, h2, _, _, _, _ => by omega
  | m, n + 1, q, o, at', s, h1, h2, h3, h4, h5, h6 => by
    rw [sL149_1]
    have etk : (encZ o).take o.length = encZ o := by rw [List.take_of_length_le (by simp)]
    rw [etk]
    by_cases hq : q > 0
    · have e1 : decide (q > 0) = true := by simpa using hq
      obtain ⟨a2, s2, v, h, h7, h8, _⟩ := pick_ok hc (k := k) (by omega) h5 (by omega) s n1
      have hpl := putI_len o v
      rw [e1, h]
      simp only [cond_true, R143_r]
      rw [l1Put_ok (by omega) o (by omega)]
      simp only [R200_r, encZ_length]
      rw [i64_id (by omega) (by omega)]
      cases m with
      | zero => omega
      | succ m =>
        obtain ⟨a3, s3, l, h, h9, h10, h11⟩ := someOf_loop hc hk n1 m n (q - 1) (putI o v) (at' := a2) s2 (by omega) (by omega) (by omega) (by omega) (by omega) (by omega)
        exact ⟨a3, s3, l, h, by omega, by omega, by omega⟩
    · have e1 : decide (q > 0) = false := by simpa using hq
      obtain ⟨a2, s2, b, h, h7, h8⟩ := one_ok hc (k := k) (by omega) h5 (by omega) s 40
      rw [e1, h]
      simp only [cond_false, R145_r]
      cases b
      · exact ⟨a2, s2, o, rfl, by omega, by omega, by omega⟩
      · rw [lim_ok (by omega) (by omega), encZ_snoc, List.take_of_length_le (by simp)]
        exact ⟨a2, s2, o ++ [n1], rfl, by omega, by omega, by simp⟩
theorem someOf_ok {bs : List Nat} (hc : CodeOK bs) {k : Nat} (hk : 2100 ≤ k) (n1 m1 : Int) (hm0 : 0 ≤ m1) (hm : m1 ≤ 50) {at' : Int} (h0 : 0 ≤ at') (h1 : at' ≤ 600000000) (s : W) :
    ∃ a2 s2 l, c149 k n1 m1 (encB bs) at' (wi s) = r149 (encB bs) a2 (wi s2) (encZ l) ∧ at' ≤ a2 ∧ a2 ≤ at' + 200 ∧ l.length ≤ 60 := by
  obtain ⟨k, rfl⟩ : ∃ j, k = j + 1 := ⟨k - 1, by omega⟩
  rw [n149, i64_id (by omega) (by omega)]
  obtain ⟨a2, s2, v, h, h2, h3, h4, h5, _⟩ := pick_ok hc (k := k) (by omega) h0 (by omega) s (m1 + 1)
  have h5 := h5 (by omega)
  rw [h]
  simp only [R143_r]
  obtain ⟨a3, s3, l, h, h6, h7, h8⟩ := someOf_loop hc (k := k) (by omega) n1 51 k v [] (at' := a2) s2 (by omega) (by omega) (by omega) (by simp) (by omega) (by omega)
  exact ⟨a3, s3, l, h, by omega, by omega, by simp at h8; omega⟩
end Go.Proofs.YtclkgblckicabaaGreat
/- Terms as trees. -/
set_option linter.unusedVariables false
set_option linter.unusedSimpArgs false
set_option maxRecDepth 4000
namespace Go.Proofs.YtclkgblckicabaaGreat
open Go.Dp

inductive Tr where
  | leaf (x : Nd)
  | un (x : Nd) (a : Tr)
  | bin (x : Nd) (a b : Tr)
def Tr.root : Tr → Nd
  | .leaf x => x
  | .un x _ => x
  | .bin x _ _ => x
def Tr.flat : Tr → List Nd
  | .leaf x => [x]
  | .un x a => a.flat ++ [x]
  | .bin x a b => a.flat ++ b.flat ++ [x]
def Tr.kind (T : Tr) : Int := (need T.root.1).2.2
def Tr.ok (wide vars : Int) : Tr → Prop
  | .leaf x => (need x.1).1 = 0 ∧ (need x.1).2.2 ≠ 0 ∧ leafOK wide vars x = true
  | .un x a => (need x.1).1 = 1 ∧ (need x.1).2.2 ≠ 0 ∧ leafOK wide vars x = true ∧ a.kind = (need x.1).2.1 ∧ a.ok wide vars
  | .bin x a b => (need x.1).1 = 2 ∧ (need x.1).2.2 ≠ 0 ∧ leafOK wide vars x = true ∧ a.kind = (need x.1).2.1 ∧ b.kind = (need x.1).2.1 ∧ a.ok wide vars ∧ b.ok wide vars
theorem Tr.flat_pos : ∀ T : Tr, 1 ≤ T.flat.length
  | .leaf x => by simp [Tr.flat]
  | .un x a => by simp [Tr.flat]
  | .bin x a b => by (simp [Tr.flat]; try omega)
theorem Tr.flat_last : ∀ T : Tr, ∃ r, T.flat = r ++ [T.root]
  | .leaf x => ⟨[], rfl⟩
  | .un x a => ⟨a.flat, rfl⟩
  | .bin x a b => ⟨a.flat ++ b.flat, rfl⟩
/-- The trees on a pile, the last one first. -/
def flats : List Tr → List Nd
  | [] => []
  | T :: l => flats l ++ T.flat
theorem parse {wide vars : Int} : ∀ (t : List Nd) (l : List Tr) (ks' : List Int), kst wide vars t (l.map Tr.kind) = some ks' → (∀ T ∈ l, T.ok wide vars) → ∃ l', flats l' = flats l ++ t ∧ l'.map Tr.kind = ks' ∧ ∀ T ∈ l', T.ok wide vars
  | [], l, ks', h, hl => ⟨l, by simp, by simp only [kst] at h; injection h, hl⟩
  | x :: t, l, ks', h, hl => by
    simp only [kst] at h
    split at h
    · cases h
    · rename_i h0
      split at h
      · cases h
      · rename_i h1
        split at h
        · cases h
        · rename_i h2
          split at h
          · cases h
          · rename_i h3
            have hlf : leafOK wide vars x = true := by simpa using h1
            rcases need_cases h0 with ⟨c1, hn⟩ | ⟨c1, hn⟩ | ⟨c1, hn⟩ | ⟨_, _, _, _, _, hn⟩
            · rw [hn, List.drop_zero] at h
              obtain ⟨l', g1, g2, g3⟩ := parse t (.leaf x :: l) ks' h (fun T hT => by
                rcases List.mem_cons.1 hT with rfl | hT
                · exact ⟨hn, h0, hlf⟩
                · exact hl T hT)
              exact ⟨l', by rw [g1]; simp [flats, Tr.flat], g2, g3⟩
            · rw [hn, List.drop_zero] at h
              obtain ⟨l', g1, g2, g3⟩ := parse t (.leaf x :: l) ks' h (fun T hT => by
                rcases List.mem_cons.1 hT with rfl | hT
                · exact ⟨hn, h0, hlf⟩
                · exact hl T hT)
              exact ⟨l', by rw [g1]; simp [flats, Tr.flat], g2, g3⟩
            · rw [hn] at h h2 h3
              cases l with
              | nil => simp at h2
              | cons a l =>
                have ha : a.kind = (need x.1).2.1 := by simpa using h3
                obtain ⟨l', g1, g2, g3⟩ := parse t (.un x a :: l) ks' h (fun T hT => by
                  rcases List.mem_cons.1 hT with rfl | hT
                  · exact ⟨hn, h0, hlf, ha, hl a (by simp)⟩
                  · exact hl T (by simp [hT]))
                exact ⟨l', by rw [g1]; simp [flats, Tr.flat], g2, g3⟩
            · rw [hn] at h h2 h3
              cases l with
              | nil => simp at h2
              | cons b l =>
                cases l with
                | nil => simp at h2
                | cons a l =>
                  have hab : b.kind = (need x.1).2.1 ∧ a.kind = (need x.1).2.1 := by simpa using h3
                  obtain ⟨l', g1, g2, g3⟩ := parse t (.bin x a b :: l) ks' h (fun T hT => by
                    rcases List.mem_cons.1 hT with rfl | hT
                    · exact ⟨hn, h0, hlf, hab.2, hab.1, hl a (by simp), hl b (by simp)⟩
                    · exact hl T (by simp [hT]))
                  exact ⟨l', by rw [g1]; simp [flats, Tr.flat], g2, g3⟩
/-- A good term is a tree. -/
theorem good_tree {wide vars : Int} {t : List Nd} (h : goodT wide vars t = true) : ∃ T : Tr, T.flat = t ∧ T.ok wide vars ∧ T.kind = kindT wide vars t := by
  obtain ⟨hk, _⟩ := good_kst h
  obtain ⟨l, h1, h2, h3⟩ := parse t [] _ hk (by simp)
  cases l with
  | nil => simp at h2
  | cons T l =>
    cases l with
    | nil =>
      simp at h2
      exact ⟨T, by simpa [flats] using h1, h3 T (by simp), h2⟩
    | cons T2 l => simp at h2
theorem Tr.run_kinds {wide vars : Int} : ∀ (T : Tr), T.ok wide vars → ∀ ks, kst wide vars T.flat ks = some (T.kind :: ks)
  | .leaf x, h, ks => by
    obtain ⟨h1, h2, h3⟩ := h
    simp only [Tr.flat, kst]
    rw [if_neg h2, if_neg (by simp [h3]), if_neg (by omega), h1]
    simp [Tr.kind, Tr.root]
  | .un x a, h, ks => by
    obtain ⟨h1, h2, h3, h4, h5⟩ := h
    simp only [Tr.flat, kst_app, Tr.run_kinds a h5 ks, Option.bind_some, kst]
    rw [if_neg h2, if_neg (by simp [h3]), if_neg (by simp; omega), h1]
    simp [Tr.kind, Tr.root] at h4 ⊢
    simp [h4]
  | .bin x a b, h, ks => by
    obtain ⟨h1, h2, h3, h4, h5, h6, h7⟩ := h
    simp only [Tr.flat, kst_app, Tr.run_kinds a h6 ks, Option.bind_some, Tr.run_kinds b h7, kst]
    rw [if_neg h2, if_neg (by simp [h3]), if_neg (by simp; omega), h1]
    simp [Tr.kind, Tr.root] at h4 h5 ⊢
    simp [h4, h5]
theorem tree_good {wide vars : Int} {T : Tr} (h : T.ok wide vars) (hw : isW wide = true) (hv : isV vars = true) (hl : T.flat.length ≤ 48) : goodT wide vars T.flat = true ∧ kindT wide vars T.flat = T.kind := by
  have hk := T.run_kinds h []
  have hs : sizeT wide vars T.flat = true := by simp [sizeT, hw, hv, T.flat_pos, hl]
  refine ⟨?_, ?_⟩
  · simp [goodT, hs, hk, fin1]
  · simp [kindT, hs, hk, kind1]
/-! ### Values -/
def Tr.val (wide : Int) (s : List W) : Tr → W
  | .leaf x => if x.1 = 2 then (s[x.2.toNat]?).getD 0#64 else x.2
  | .un x a => if x.1 = 13 then (~~~(a.val wide s) &&& mk wide) else 1#64 - a.val wide s
  | .bin x a b => apW wide x.1 (a.val wide s) (b.val wide s)
/-- Are all variables within the state? -/
def Tr.inS (s : List W) : Tr → Prop
  | .leaf x => x.1 = 2 → x.2.toNat < s.length
  | .un _ a => a.inS s
  | .bin _ a b => a.inS s ∧ b.inS s
theorem need_leaf {op : Int} (h0 : (need op).2.2 ≠ 0) (h : (need op).1 = 0) : op = 1 ∨ op = 20 ∨ op = 2 := by
  rcases need_cases h0 with ⟨c, _⟩ | ⟨c, _⟩ | ⟨_, c⟩ | ⟨_, _, _, _, _, c⟩
  · rcases c with c | c <;> simp [c]
  · simp [c]
  · omega
  · omega
theorem need_un {op : Int} (h0 : (need op).2.2 ≠ 0) (h : (need op).1 = 1) : op = 13 ∨ op = 19 := by
  rcases need_cases h0 with ⟨_, c⟩ | ⟨_, c⟩ | ⟨c, _⟩ | ⟨_, _, _, _, _, c⟩
  · omega
  · omega
  · exact c
  · omega
theorem need_bin {op : Int} (h0 : (need op).2.2 ≠ 0) (h : (need op).1 = 2) : op ≠ 1 ∧ op ≠ 20 ∧ op ≠ 2 ∧ op ≠ 13 ∧ op ≠ 19 := by
  rcases need_cases h0 with ⟨_, c⟩ | ⟨_, c⟩ | ⟨_, c⟩ | ⟨c1, c2, c3, c4, c5, _⟩
  · omega
  · omega
  · omega
  · exact ⟨c1, c2, c3, c4, c5⟩
theorem Tr.run_val {wide vars : Int} (s : List W) : ∀ (T : Tr), T.ok wide vars → T.inS s → ∀ vs, vrun wide s T.flat vs = some (T.val wide s :: vs)
  | .leaf x, h, hi, vs => by
    obtain ⟨h1, h2, h3⟩ := h
    simp only [Tr.flat, vrun, Tr.val]
    rcases need_leaf h2 h1 with c | c | c
    · rw [if_pos (.inl c), if_neg (by omega)]
    · rw [if_pos (.inr c), if_neg (by omega)]
    · have := hi c
      rw [if_neg (by omega), if_pos c, if_pos c, List.getElem?_eq_getElem this]
      rfl
  | .un x a, h, hi, vs => by
    obtain ⟨h1, h2, h3, h4, h5⟩ := h
    simp only [Tr.flat, vrun_app, Tr.run_val s a h5 hi vs, Option.bind_some, vrun, Tr.val]
    rcases need_un h2 h1 with c | c
    · rw [if_neg (by omega), if_neg (by omega), if_pos c, if_pos c]
    · rw [if_neg (by omega), if_neg (by omega), if_neg (by omega), if_pos c, if_neg (by omega)]
  | .bin x a b, h, hi, vs => by
    obtain ⟨h1, h2, h3, h4, h5, h6, h7⟩ := h
    obtain ⟨c1, c2, c3, c4, c5⟩ := need_bin h2 h1
    simp only [Tr.flat, vrun_app, Tr.run_val s a h6 hi.1 vs, Option.bind_some, Tr.run_val s b h7 hi.2, vrun, Tr.val]
    rw [if_neg (by omega), if_neg c3, if_neg c4, if_neg c5]
theorem Tr.val_ok {wide vars : Int} (hw : isW wide = true) (hv : isV vars = true) {s : List W} (hg : ∀ a ∈ s, a ≤ mk wide) : ∀ (T : Tr), T.ok wide vars → okV wide T.kind (T.val wide s)
  | .leaf x, h => by
    obtain ⟨h1, h2, h3⟩ := h
    have hl := leaf_run hv h3
    rcases need_leaf h2 h1 with c | c | c
    · refine .inl ⟨by simp only [Tr.kind, Tr.root]; rw [c]; decide, ?_⟩
      simp only [Tr.val]
      rw [if_neg (by omega)]
      exact hl.1 c
    · refine .inr ⟨by simp only [Tr.kind, Tr.root]; rw [c]; decide, ?_⟩
      simp only [Tr.val]
      rw [if_neg (by omega)]
      exact hl.2.1 c
    · refine .inl ⟨by simp only [Tr.kind, Tr.root]; rw [c]; decide, ?_⟩
      simp only [Tr.val]
      rw [if_pos c]
      cases hq : s[x.2.toNat]? with
      | none => rw [Option.getD_none, BitVec.le_def]; exact Nat.zero_le _
      | some a => exact hg a (List.mem_of_getElem? hq)
  | .un x a, h => by
    obtain ⟨h1, h2, h3, h4, h5⟩ := h
    have ih := Tr.val_ok hw hv hg a h5
    rcases need_un h2 h1 with c | c
    · refine .inl ⟨by simp only [Tr.kind, Tr.root]; rw [c]; decide, ?_⟩
      simp only [Tr.val]
      rw [if_pos c]
      exact and_le_right' _ _
    · refine .inr ⟨by simp only [Tr.kind, Tr.root]; rw [c]; decide, ?_⟩
      simp only [Tr.val]
      rw [if_neg (by omega)]
      have hk : a.kind = 2 := by rw [h4, c]; decide
      rw [hk] at ih
      rcases le_one_cases (okV_two ih) with e | e <;> rw [e] <;> decide
  | .bin x a b, h => by
    obtain ⟨h1, h2, h3, h4, h5, h6, h7⟩ := h
    have ia := Tr.val_ok hw hv hg a h6
    have ib := Tr.val_ok hw hv hg b h7
    rw [h4] at ia
    rw [h5] at ib
    exact apW_ok hw h1 ia ib
end Go.Proofs.YtclkgblckicabaaGreat
/- Folding: the plain laws. -/
set_option linter.unusedVariables false
set_option linter.unusedSimpArgs false
set_option maxRecDepth 4000
namespace Go.Proofs.YtclkgblckicabaaGreat
open Go.Dp

def Tr.noVars : Tr → Bool
  | .leaf x => x.1 != 2
  | .un _ a => a.noVars
  | .bin _ a b => a.noVars && b.noVars
def numT (wide : Int) (T : Tr) : Tr := .leaf (if T.kind = 2 then 20 else 1, T.val wide [])
def Tr.fold (wide : Int) : Tr → Tr
  | .leaf x => .leaf x
  | .un x a => if a.noVars then numT wide (.un x a) else .un x (a.fold wide)
  | .bin x a b => if a.noVars && b.noVars then numT wide (.bin x a b) else .bin x (a.fold wide) (b.fold wide)
theorem Tr.fold_leaf (wide : Int) (x : Nd) : (Tr.leaf x).fold wide = .leaf x := rfl
theorem Tr.fold_un (wide : Int) (x : Nd) (a : Tr) : (Tr.un x a).fold wide = if a.noVars then numT wide (.un x a) else .un x (a.fold wide) := rfl
theorem Tr.fold_bin (wide : Int) (x : Nd) (a b : Tr) : (Tr.bin x a b).fold wide = if a.noVars && b.noVars then numT wide (.bin x a b) else .bin x (a.fold wide) (b.fold wide) := rfl
theorem Tr.noVars_inS : ∀ (T : Tr) (s : List W), T.noVars = true → T.inS s
  | .leaf x, s, h => fun h2 => by simp [Tr.noVars, h2] at h
  | .un x a, s, h => Tr.noVars_inS a s h
  | .bin x a b, s, h => by
    simp only [Tr.noVars, Bool.and_eq_true] at h
    exact ⟨Tr.noVars_inS a s h.1, Tr.noVars_inS b s h.2⟩
theorem Tr.noVars_val (wide : Int) (s s' : List W) : ∀ (T : Tr), T.noVars = true → T.val wide s = T.val wide s'
  | .leaf x, h => by
    have : ¬ x.1 = 2 := by simpa [Tr.noVars] using h
    simp [Tr.val, this]
  | .un x a, h => by simp only [Tr.val, Tr.noVars_val wide s s' a h]
  | .bin x a b, h => by
    simp only [Tr.noVars, Bool.and_eq_true] at h
    simp only [Tr.val, Tr.noVars_val wide s s' a h.1, Tr.noVars_val wide s s' b h.2]
theorem numT_kind {wide vars : Int} {T : Tr} (h : T.ok wide vars) : (numT wide T).kind = T.kind := by
  have hk : T.kind = 1 ∨ T.kind = 2 := by
    have h0 : T.kind ≠ 0 := by cases T <;> exact h.2.1
    rcases need_own T.root.1 with h1 | h1 | h1
    · exact absurd h1 h0
    · exact .inl h1
    · exact .inr h1
  rcases hk with hk | hk
  · rw [hk]; unfold numT; rw [hk]; rfl
  · rw [hk]; unfold numT; rw [hk]; rfl
theorem numT_ok {wide vars : Int} (hw : isW wide = true) (hv : isV vars = true) {T : Tr} (h : T.ok wide vars) : (numT wide T).ok wide vars := by
  have hvv := T.val_ok hw hv (s := []) (by simp) h
  unfold numT Tr.ok
  by_cases hk : T.kind = 2
  · rw [hk] at hvv
    have := okV_two hvv
    simp only [hk, if_true]
    refine ⟨by decide, by decide, ?_⟩
    unfold leafOK
    simp only
    rw [if_neg (by omega), if_neg (by omega), if_pos trivial, decide_eq_true_eq]
    exact wi_le_iff.2 this
  · have hle : T.val wide [] ≤ mk wide := by rcases hvv with h | h; exact h.2; exact absurd h.1 hk
    simp only [hk, if_false]
    refine ⟨by decide, by decide, ?_⟩
    unfold leafOK
    rw [if_pos rfl]
    exact goodW_iff.2 ⟨hw, hle⟩
theorem Tr.fold_ok {wide vars : Int} (hw : isW wide = true) (hv : isV vars = true) : ∀ (T : Tr), T.ok wide vars → (T.fold wide).ok wide vars ∧ (T.fold wide).kind = T.kind
  | .leaf x, h => ⟨h, rfl⟩
  | .un x a, h => by
    obtain ⟨h1, h2, h3, h4, h5⟩ := h
    obtain ⟨g1, g2⟩ := Tr.fold_ok hw hv a h5
    rw [Tr.fold_un]
    split
    · exact ⟨numT_ok hw hv ⟨h1, h2, h3, h4, h5⟩, numT_kind (vars := vars) ⟨h1, h2, h3, h4, h5⟩⟩
    · exact ⟨⟨h1, h2, h3, by rw [g2]; exact h4, g1⟩, rfl⟩
  | .bin x a b, h => by
    obtain ⟨h1, h2, h3, h4, h5, h6, h7⟩ := h
    obtain ⟨g1, g2⟩ := Tr.fold_ok hw hv a h6
    obtain ⟨g3, g4⟩ := Tr.fold_ok hw hv b h7
    rw [Tr.fold_bin]
    split
    · exact ⟨numT_ok hw hv ⟨h1, h2, h3, h4, h5, h6, h7⟩, numT_kind (vars := vars) ⟨h1, h2, h3, h4, h5, h6, h7⟩⟩
    · exact ⟨⟨h1, h2, h3, by rw [g2]; exact h4, by rw [g4]; exact h5, g1, g3⟩, rfl⟩
theorem numT_val (wide : Int) (s : List W) (T : Tr) (h : T.noVars = true) : (numT wide T).val wide s = T.val wide s := by
  have hne : ¬ (if T.kind = 2 then (20 : Int) else 1) = 2 := by split <;> omega
  unfold numT
  simp only [Tr.val]
  rw [if_neg hne, Tr.noVars_val wide s [] T h]
theorem Tr.fold_val (wide : Int) (s : List W) : ∀ (T : Tr), (T.fold wide).val wide s = T.val wide s
  | .leaf x => rfl
  | .un x a => by
    rw [Tr.fold_un]
    split
    · rename_i h
      exact numT_val wide s (.un x a) h
    · simp only [Tr.val, Tr.fold_val wide s a]
  | .bin x a b => by
    rw [Tr.fold_bin]
    split
    · rename_i h
      exact numT_val wide s (.bin x a b) h
    · simp only [Tr.val, Tr.fold_val wide s a, Tr.fold_val wide s b]
theorem Tr.fold_len (wide : Int) : ∀ (T : Tr), (T.fold wide).flat.length ≤ T.flat.length
  | .leaf x => by simp [Tr.fold]
  | .un x a => by
    have := Tr.fold_len wide a
    rw [Tr.fold_un]
    split
    · (simp [numT, Tr.flat]; try omega)
    · (simp [Tr.flat]; try omega)
  | .bin x a b => by
    have := Tr.fold_len wide a
    have := Tr.fold_len wide b
    rw [Tr.fold_bin]
    split
    · (simp [numT, Tr.flat]; try omega)
    · (simp [Tr.flat]; try omega)
theorem numT_noVars (wide : Int) (T : Tr) : (numT wide T).noVars = true := by
  unfold numT Tr.noVars
  simp only
  split <;> decide
theorem Tr.fold_noVars (wide : Int) : ∀ (T : Tr), (T.fold wide).noVars = T.noVars
  | .leaf x => rfl
  | .un x a => by
    rw [Tr.fold_un]
    split
    · rename_i h
      rw [numT_noVars]
      exact h.symm
    · simp only [Tr.noVars, Tr.fold_noVars wide a]
  | .bin x a b => by
    rw [Tr.fold_bin]
    split
    · rename_i h
      rw [numT_noVars]
      exact h.symm
    · simp only [Tr.noVars, Tr.fold_noVars wide a, Tr.fold_noVars wide b]
theorem Tr.fold_fold (wide : Int) : ∀ (T : Tr), (T.fold wide).fold wide = T.fold wide
  | .leaf x => rfl
  | .un x a => by
    rw [Tr.fold_un]
    split
    · rfl
    · rename_i h
      rw [Tr.fold_un, Tr.fold_noVars, if_neg h, Tr.fold_fold wide a]
  | .bin x a b => by
    rw [Tr.fold_bin]
    split
    · rfl
    · rename_i h
      rw [Tr.fold_bin, Tr.fold_noVars, Tr.fold_noVars, if_neg h, Tr.fold_fold wide a, Tr.fold_fold wide b]
theorem vlist_app : ∀ (t u : List Nd), vlist (t ++ u) = vlist t ++ vlist u
  | [], u => rfl
  | x :: t, u => by simp only [List.cons_append, vlist, vlist_app t u, List.append_assoc]
theorem vlist_op {wide vars : Int} {x : Nd} (h : (need x.1).1 ≠ 0) (h0 : (need x.1).2.2 ≠ 0) : vlist [x] = [] := by
  have : ¬ x.1 = 2 := fun e => by rw [e] at h; exact h (by decide)
  simp [vlist, this]
theorem Tr.noVars_vlist {wide vars : Int} : ∀ (T : Tr), T.ok wide vars → (vlist T.flat = [] ↔ T.noVars = true)
  | .leaf x, h => by
    simp only [Tr.flat, vlist, Tr.noVars]
    by_cases h2 : x.1 = 2 <;> simp [h2]
  | .un x a, h => by
    obtain ⟨h1, h2, h3, h4, h5⟩ := h
    simp only [Tr.flat, vlist_app, vlist_op (wide := wide) (vars := vars) (x := x) (by omega) h2, List.append_nil, Tr.noVars]
    exact Tr.noVars_vlist a h5
  | .bin x a b, h => by
    obtain ⟨h1, h2, h3, h4, h5, h6, h7⟩ := h
    simp only [Tr.flat, vlist_app, vlist_op (wide := wide) (vars := vars) (x := x) (by omega) h2, List.append_nil, List.append_eq_nil_iff, Tr.noVars, Bool.and_eq_true, Tr.noVars_vlist a h6, Tr.noVars_vlist b h7]
theorem numT_vlist (wide : Int) (T : Tr) : vlist (numT wide T).flat = [] := by
  have hne : ¬ (if T.kind = 2 then (20 : Int) else 1) = 2 := by split <;> omega
  unfold numT Tr.flat vlist
  rw [if_neg hne]
  rfl
theorem Tr.fold_vlist {wide vars : Int} : ∀ (T : Tr), T.ok wide vars → vlist (T.fold wide).flat = vlist T.flat
  | .leaf x, h => rfl
  | .un x a, h => by
    have hok := h
    obtain ⟨h1, h2, h3, h4, h5⟩ := h
    have ih := Tr.fold_vlist a h5
    rw [Tr.fold_un]
    split
    · rename_i hn
      rw [numT_vlist, (Tr.noVars_vlist (.un x a) hok).2 hn]
    · simp only [Tr.flat, vlist_app, ih]
  | .bin x a b, h => by
    have hok := h
    obtain ⟨h1, h2, h3, h4, h5, h6, h7⟩ := h
    have iha := Tr.fold_vlist a h6
    have ihb := Tr.fold_vlist b h7
    rw [Tr.fold_bin]
    split
    · rename_i hn
      rw [numT_vlist, (Tr.noVars_vlist (.bin x a b) hok).2 hn]
    · simp only [Tr.flat, vlist_app, iha, ihb]
theorem canI_nil {l : List Int} : (canI l).length = 0 ↔ l = [] := by
  constructor
  · intro h
    have h1 : canI l = [] := List.eq_nil_of_length_eq_zero h
    cases l with
    | nil => rfl
    | cons x l =>
      have := ((canI_spec (x :: l)).2 x).2 (by simp)
      rw [h1] at this
      simp at this
  · intro h
    subst h
    have := canI_len []
    simpa using this
end Go.Proofs.YtclkgblckicabaaGreat
/- Folding: the functions. -/
set_option linter.unusedVariables false
set_option linter.unusedSimpArgs false
set_option maxRecDepth 4000
namespace Go.Proofs.YtclkgblckicabaaGreat
open Go.Dp

theorem w10 : IntKind.i64.wrap (((1 : Nat) : Int) - 1) = 0 := (i64_id (by omega) (by omega)).trans (by omega)
theorem w21 : IntKind.i64.wrap (((2 : Nat) : Int) - 1) = 1 := (i64_id (by omega) (by omega)).trans (by omega)
theorem w1 : IntKind.i64.wrap ((1 : Int) - 1) = 0 := (i64_id (by omega) (by omega)).trans (by omega)
theorem w01 : IntKind.i64.wrap ((0 : Int) + 1) = 1 := (i64_id (by omega) (by omega)).trans (by omega)
theorem w12 : IntKind.i64.wrap ((1 : Int) + 1) = 2 := (i64_id (by omega) (by omega)).trans (by omega)
theorem root_at {T : Tr} {t pre suf : List Nd} (h : t = pre ++ T.flat ++ suf) : lookP (encT t) ((pre.length + T.flat.length - 1 : Nat) : Int) = some (encN T.root) := by
  obtain ⟨r, hr⟩ := T.flat_last
  have hl : T.flat.length = r.length + 1 := by rw [hr]; simp
  have e : t[pre.length + r.length]? = some T.root := by
    rw [h, hr, List.append_assoc, List.getElem?_append_right (Nat.le_add_right _ _), Nat.add_sub_cancel_left, List.append_assoc, List.getElem?_append_right (Nat.le_refl _), Nat.sub_self]
    rfl
  rw [hl, show pre.length + (r.length + 1) - 1 = pre.length + r.length by omega, lookP_nat, encT_get, e]
  rfl
theorem lf0 (k n : Nat) (t : List PV) (f : Int) (hn : 1 ≤ n) : L308_1 k n t ((0 : Nat) : Int) f = r308 f := by
  obtain ⟨n, rfl⟩ : ∃ i, n = i + 1 := ⟨n - 1, by omega⟩
  rw [sL308_1]
  rfl
theorem lfS (k n : Nat) (t : List PV) (a f f2 : Nat) (hn : 1 ≤ n) (hf : 1 ≤ f) (hf2 : f ≤ 10000) (ha : a ≤ 5) (hc : c308 k t ((f - 1 : Nat) : Int) = r308 (f2 : Int)) : L308_1 k n t ((a + 1 : Nat) : Int) (f : Int) = L308_1 k (n - 1) t (a : Int) (f2 : Int) := by
  obtain ⟨n, rfl⟩ : ∃ i, n = i + 1 := ⟨n - 1, by omega⟩
  rw [sL308_1]
  have hd : decide (((a + 1 : Nat) : Int) > 0) = true := by (simp; try omega)
  rw [hd, i64_id (n := (f : Int) - 1) (by omega) (by omega), show (f : Int) - 1 = ((f - 1 : Nat) : Int) by omega, hc]
  simp only [cond_true, R308_r]
  rw [i64_id (by omega) (by omega), show ((a + 1 : Nat) : Int) - 1 = (a : Int) by omega]
  rfl
theorem lfC {k : Nat} (hk : 10 ≤ k) {T : Tr} {t pre suf : List Nd} (h : t = pre ++ T.flat ++ suf) : c308 k (encT t) ((pre.length + T.flat.length - 1 : Nat) : Int) = L308_1 (k - 1) (k - 1) (encT t) ((need T.root.1).1 : Nat) ((pre.length + T.flat.length - 1 : Nat) : Int) := by
  obtain ⟨k, rfl⟩ : ∃ i, k = i + 1 := ⟨k - 1, by omega⟩
  rw [n308, root_at h]
  simp only [Option.bind_some, encN_op]
  rw [needS_ok (by omega)]
  simp only [R281_r, Nat.add_sub_cancel]
theorem from_tree {wide vars : Int} : ∀ (T : Tr) (t pre suf : List Nd) (k : Nat), T.ok wide vars → t = pre ++ T.flat ++ suf → t.length ≤ 1000 → 300 + T.flat.length ≤ k → c308 k (encT t) ((pre.length + T.flat.length - 1 : Nat) : Int) = r308 (pre.length : Int) := by
  intro T
  induction T with
  | leaf x =>
    intro t pre suf k h ht hl hk
    rw [lfC (by omega) ht, show (need (Tr.leaf x).root.1).1 = 0 from h.1, lf0 _ _ _ _ (by omega)]
    simp [Tr.flat]
  | un x a iha0 =>
    intro t pre suf k h ht hl hk
    obtain ⟨h1, h2, h3, h4, h5⟩ := h
    have hp := a.flat_pos
    have hfl : (Tr.un x a).flat.length = a.flat.length + 1 := by simp [Tr.flat]
    have ht2 : t = pre ++ a.flat ++ ([x] ++ suf) := by rw [ht]; simp [Tr.flat]
    have htl : t.length = pre.length + a.flat.length + 1 + suf.length := by rw [ht2]; (simp; try omega)
    have ih := iha0 t pre ([x] ++ suf) (k - 1) h5 ht2 hl (by omega)
    rw [lfC (by omega) ht, show (need (Tr.un x a).root.1).1 = 0 + 1 from h1, lfS (k - 1) (k - 1) (encT t) 0 _ pre.length (by omega) (by omega) (by omega) (by omega) (by rw [show pre.length + (Tr.un x a).flat.length - 1 - 1 = pre.length + a.flat.length - 1 by omega]; exact ih)]
    exact lf0 _ _ _ _ (by omega)
  | bin x a b iha0 ihb0 =>
    intro t pre suf k h ht hl hk
    obtain ⟨h1, h2, h3, h4, h5, h6, h7⟩ := h
    have hp := a.flat_pos
    have hq := b.flat_pos
    have hfl : (Tr.bin x a b).flat.length = a.flat.length + b.flat.length + 1 := by (simp [Tr.flat]; try omega)
    have ht2 : t = (pre ++ a.flat) ++ b.flat ++ ([x] ++ suf) := by rw [ht]; simp [Tr.flat]
    have ht3 : t = pre ++ a.flat ++ (b.flat ++ [x] ++ suf) := by rw [ht]; simp [Tr.flat]
    have htl : t.length = pre.length + a.flat.length + b.flat.length + 1 + suf.length := by rw [ht2]; (simp; try omega)
    have ihb := ihb0 t (pre ++ a.flat) ([x] ++ suf) (k - 1) h7 ht2 hl (by omega)
    have iha := iha0 t pre (b.flat ++ [x] ++ suf) (k - 1) h6 ht3 hl (by omega)
    rw [List.length_append] at ihb
    rw [lfC (by omega) ht, show (need (Tr.bin x a b).root.1).1 = 1 + 1 from h1, lfS (k - 1) (k - 1) (encT t) 1 _ (pre.length + a.flat.length) (by omega) (by omega) (by omega) (by omega) (by rw [show pre.length + (Tr.bin x a b).flat.length - 1 - 1 = pre.length + a.flat.length + b.flat.length - 1 by omega]; exact ihb)]
    rw [show ((1 : Nat) : Int) = ((0 + 1 : Nat) : Int) from rfl, lfS (k - 1) (k - 1 - 1) (encT t) 0 _ pre.length (by omega) (by omega) (by omega) (by omega) iha]
    exact lf0 _ _ _ _ (by omega)
theorem okV_le {wide k : Int} (hw : isW wide = true) {v : W} (h : okV wide k v) : v ≤ mk wide := by
  rcases h with h | h
  · exact h.2
  · refine BitVec.le_trans h.2 ?_
    exact le_of_cut hw (by have := tr_cut hw true; simpa [tr] using this)
theorem value_tree {wide vars : Int} (hw : isW wide = true) (hv : isV vars = true) {s : List W} (hg : ∀ a ∈ s, a ≤ mk wide) : ∀ (T : Tr) (t pre suf : List Nd) (k : Nat), T.ok wide vars → T.inS s → t = pre ++ T.flat ++ suf → t.length ≤ 1000 → 600 + T.flat.length ≤ k → c267 k wide (encT t) ((pre.length + T.flat.length - 1 : Nat) : Int) (encW s) = r267 (wi (T.val wide s)) := by
  intro T
  induction T with
  | leaf x =>
    intro t pre suf k h hi ht hl hk
    obtain ⟨k, rfl⟩ : ∃ i, k = i + 1 := ⟨k - 1, by omega⟩
    obtain ⟨h1, h2, h3⟩ := h
    have h0' : ((((need x.1).1 : Nat) : Int) == 0) = true := by simp [h1]
    rw [n267, root_at ht]
    simp only [Option.bind_some, encN_shp, encN_op, encN_n, cond_true, Tr.root]
    rw [needS_ok (by omega)]
    simp only [R281_r, h0', cond_true, Tr.val]
    by_cases c : x.1 = 2
    · have h2' : (x.1 == 2) = true := by simpa using c
      have hlt := hi c
      have e4 : (wi x.2).toNat = x.2.toNat := by simp [wi]
      rw [h2', lookP_int (wi_nonneg _), encW_get, e4, List.getElem?_eq_getElem hlt, if_pos c]
      simp only [cond_true, Option.map_some, Option.bind_some, int_atInt, Option.getD_some]
    · have h2' : (x.1 == 2) = false := by simpa using c
      rw [h2', if_neg c]
      simp only [cond_false]
  | un x a iha0 =>
    intro t pre suf k h hi ht hl hk
    obtain ⟨h1, h2, h3, h4, h5⟩ := h
    have hp := a.flat_pos
    have hfl : (Tr.un x a).flat.length = a.flat.length + 1 := by simp [Tr.flat]
    have ht2 : t = pre ++ a.flat ++ ([x] ++ suf) := by rw [ht]; simp [Tr.flat]
    have htl : t.length = pre.length + a.flat.length + 1 + suf.length := by rw [ht2]; (simp; try omega)
    obtain ⟨k, rfl⟩ : ∃ i, k = i + 1 := ⟨k - 1, by omega⟩
    have ih := iha0 t pre ([x] ++ suf) k h5 hi ht2 hl (by omega)
    have h0' : ((((need x.1).1 : Nat) : Int) == 0) = false := by simp [h1]
    have h2' : (x.1 == 2) = false := by rcases need_un h2 h1 with c | c <;> simp [c]
    rw [n267, root_at ht]
    simp only [Option.bind_some, encN_shp, encN_op, encN_n, cond_true, Tr.root]
    rw [needS_ok (by omega), hfl, i64_id (n := ((pre.length + (a.flat.length + 1) - 1 : Nat) : Int) - 1) (by omega) (by omega), show ((pre.length + (a.flat.length + 1) - 1 : Nat) : Int) - 1 = ((pre.length + a.flat.length - 1 : Nat) : Int) by omega, ih]
    simp only [R281_r, h2', h0', cond_false, R267_r, Tr.val]
    rcases need_un h2 h1 with c | c
    · have e13 : (x.1 == 13) = true := by simpa using c
      have e2 : (18446744073709551615 : Int) = wi (BitVec.allOnes 64) := rfl
      rw [e13, e2, xor_wi, cutM_ok (by omega) hw, BitVec.allOnes_xor, if_pos c]
      simp only [cond_true, R297_r]
    · have e13 : (x.1 == 13) = false := by simp [c]
      have e19 : (x.1 == 19) = true := by simpa using c
      have e1 : (1 : Int) = wi 1#64 := rfl
      rw [e13, e19, e1, sub_wi, if_neg (by omega)]
      simp only [cond_true, cond_false]
  | bin x a b iha0 ihb0 =>
    intro t pre suf k h hi ht hl hk
    obtain ⟨h1, h2, h3, h4, h5, h6, h7⟩ := h
    obtain ⟨c1, c2, c3, c4, c5⟩ := need_bin h2 h1
    have hp := a.flat_pos
    have hq := b.flat_pos
    have hfl : (Tr.bin x a b).flat.length = a.flat.length + b.flat.length + 1 := by (simp [Tr.flat]; try omega)
    have ht2 : t = (pre ++ a.flat) ++ b.flat ++ ([x] ++ suf) := by rw [ht]; simp [Tr.flat]
    have ht3 : t = pre ++ a.flat ++ (b.flat ++ [x] ++ suf) := by rw [ht]; simp [Tr.flat]
    have htl : t.length = pre.length + a.flat.length + b.flat.length + 1 + suf.length := by rw [ht2]; (simp; try omega)
    obtain ⟨k, rfl⟩ : ∃ i, k = i + 1 := ⟨k - 1, by omega⟩
    have ihb := ihb0 t (pre ++ a.flat) ([x] ++ suf) k h7 hi.2 ht2 hl (by omega)
    have iha := iha0 t pre (b.flat ++ [x] ++ suf) k h6 hi.1 ht3 hl (by omega)
    have hfr := from_tree b t (pre ++ a.flat) ([x] ++ suf) k h7 ht2 hl (by omega)
    rw [List.length_append] at ihb hfr
    have ham := okV_le hw (a.val_ok hw hv hg h6)
    have hbm := okV_le hw (b.val_ok hw hv hg h7)
    have h0' : ((((need x.1).1 : Nat) : Int) == 0) = false := by simp [h1]
    have e2 : (x.1 == 2) = false := by simpa using c3
    have e13 : (x.1 == 13) = false := by simpa using c4
    have e19 : (x.1 == 19) = false := by simpa using c5
    rw [n267, root_at ht]
    simp only [Option.bind_some, encN_shp, encN_op, encN_n, cond_true, Tr.root]
    rw [needS_ok (by omega), hfl, i64_id (n := ((pre.length + (a.flat.length + b.flat.length + 1) - 1 : Nat) : Int) - 1) (by omega) (by omega), show ((pre.length + (a.flat.length + b.flat.length + 1) - 1 : Nat) : Int) - 1 = ((pre.length + a.flat.length + b.flat.length - 1 : Nat) : Int) by omega, ihb, hfr]
    simp only [R281_r, e2, h0', e13, e19, cond_false, R267_r, R308_r, Tr.val]
    rw [i64_id (n := ((pre.length + a.flat.length : Nat) : Int) - 1) (by omega) (by omega), show ((pre.length + a.flat.length : Nat) : Int) - 1 = ((pre.length + a.flat.length - 1 : Nat) : Int) by omega, iha]
    simp only [R267_r]
    rw [l2Do_ok (by omega) hw _ _ _ ham hbm]
    simp only [R320_r]
theorem fold_const {wide vars : Int} : ∀ (T : Tr), T.ok wide vars → T.noVars = true → T.fold wide = numT wide T
  | .leaf x, h, hn => by
    obtain ⟨h1, h2, h3⟩ := h
    have c2 : x.1 ≠ 2 := by simpa [Tr.noVars] using hn
    have hk : (Tr.leaf x).kind = (need x.1).2.2 := rfl
    rw [Tr.fold_leaf]
    unfold numT
    rw [hk]
    congr 1
    refine Prod.ext ?_ ?_
    · rcases need_leaf h2 h1 with c | c | c
      · simp only [c]; decide
      · simp only [c]; decide
      · exact absurd c c2
    · simp only [Tr.val]
      rw [if_neg c2]
  | .un x a, h, hn => by rw [Tr.fold_un]; exact if_pos hn
  | .bin x a b, h, hn => by rw [Tr.fold_bin]; exact if_pos hn
end Go.Proofs.YtclkgblckicabaaGreat
/- FnFolded: folding's functions and the law. -/
set_option linter.unusedVariables false
set_option linter.unusedSimpArgs false
set_option maxRecDepth 4000
namespace Go.Proofs.YtclkgblckicabaaGreat
open Go.Dp

theorem slice_tree {T : Tr} {t pre suf : List Nd} (h : t = pre ++ T.flat ++ suf) (e : Nat) (he : e = pre.length + T.flat.length) : ((encT t).take e).drop pre.length = encT T.flat := by
  rw [encT_take, he, h]
  have e1 : (pre ++ T.flat ++ suf).take (pre.length + T.flat.length) = pre ++ T.flat := by
    rw [List.take_append_of_le_length (by simp), List.take_of_length_le (by simp)]
  rw [e1]
  simp [encT]
theorem fold_leafvar {wide vars : Int} {x : Nd} (h : (Tr.leaf x).ok wide vars) : (Tr.leaf x).fold wide = .leaf x := rfl
theorem root_kind {wide vars : Int} {T : Tr} : T.kind = (need T.root.1).2.2 := rfl
theorem l2Fold_tree {wide vars : Int} (hw : isW wide = true) (hv : isV vars = true) : ∀ (T : Tr) (t pre suf : List Nd) (k : Nat), T.ok wide vars → t = pre ++ T.flat ++ suf → t.length ≤ 100 → 3000 + T.flat.length ≤ k → c282 k wide (encT t) ((pre.length + T.flat.length - 1 : Nat) : Int) = r282 (encT (T.fold wide).flat) := by
  intro T
  induction T with
  | leaf x =>
    intro t pre suf k h ht hl hk
    obtain ⟨k, rfl⟩ : ∃ i, k = i + 1 := ⟨k - 1, by omega⟩
    have hfl : (Tr.leaf x).flat.length = 1 := rfl
    have htl : t.length = pre.length + 1 + suf.length := by rw [ht]; (simp [Tr.flat]; try omega)
    have hc := from_tree (Tr.leaf x) t pre suf k h ht (by omega) (by omega)
    rw [n282, hc]
    simp only [R308_r, encT_length]
    rw [i64_id (n := ((pre.length + (Tr.leaf x).flat.length - 1 : Nat) : Int) + 1) (by omega) (by omega)]
    have hcond : (decide ((0 : Int) ≤ (pre.length : Int)) && decide ((pre.length : Int) ≤ ((pre.length + (Tr.leaf x).flat.length - 1 : Nat) : Int) + 1) && decide (((pre.length + (Tr.leaf x).flat.length - 1 : Nat) : Int) + 1 ≤ (t.length : Int))) = true := by simp; omega
    rw [hcond, Int.toNat_natCast, slice_tree ht _ (by omega), l2Vars_ok (by omega) _ (by rw [hfl]; omega)]
    simp only [cond_true, R323_r, encZ_length]
    rw [root_at ht]
    simp only [Option.bind_some, encN_shp, encN_op, encN_n, cond_true, Tr.root]
    rw [needS_ok (by omega)]
    simp only [R281_r]
    have hpl := putAllI_spec (vlist (Tr.leaf x).flat) [] List.Pairwise.nil
    cases hn : (Tr.leaf x).noVars
    · have hne : ¬ vlist (Tr.leaf x).flat = [] := fun e => by rw [(Tr.noVars_vlist _ h).1 e] at hn; cases hn
      have h0 : (((putAllI [] (vlist (Tr.leaf x).flat)).length : Int) == 0) = false := by
        rw [beq_eq_false_iff_ne]
        intro e
        have : putAllI [] (vlist (Tr.leaf x).flat) = [] := List.eq_nil_of_length_eq_zero (by omega)
        obtain ⟨y, hy⟩ := List.exists_mem_of_ne_nil _ hne
        have := (hpl.2 y).2 (.inr hy)
        simp_all
      have h1 : ((((need x.1).1 : Nat) : Int) == 0) = true := by simp [h.1]
      rw [h0, h1]
      rfl
    · have he := (Tr.noVars_vlist _ h).2 hn
      have h0 : (((putAllI [] (vlist (Tr.leaf x).flat)).length : Int) == 0) = true := by rw [he]; rfl
      have hval := value_tree hw hv (s := []) (by simp) (Tr.leaf x) t pre suf k h (Tr.noVars_inS _ _ hn) ht (by omega) (by omega)
      have hval' : c267 k wide (encT t) ((pre.length + (Tr.leaf x).flat.length - 1 : Nat) : Int) [] = _ := hval
      rw [h0, hval', fold_const _ h hn]
      simp only [cond_true, R267_r]
      unfold numT
      rw [show (Tr.leaf x).kind = (need x.1).2.2 from rfl]
      by_cases hk2 : (need x.1).2.2 = 2
      · simp [hk2]; rfl
      · have : ((need x.1).2.2 == 2) = false := by simpa using hk2
        rw [this, if_neg hk2]; rfl
  | un x a iha0 =>
    intro t pre suf k h ht hl hk
    have hok := h
    obtain ⟨h1, h2, h3, h4, h5⟩ := h
    have hp := a.flat_pos
    have hfl : (Tr.un x a).flat.length = a.flat.length + 1 := by simp [Tr.flat]
    have ht2 : t = pre ++ a.flat ++ ([x] ++ suf) := by rw [ht]; simp [Tr.flat]
    have htl : t.length = pre.length + a.flat.length + 1 + suf.length := by rw [ht2]; (simp; try omega)
    obtain ⟨k, rfl⟩ : ∃ i, k = i + 1 := ⟨k - 1, by omega⟩
    have ih := iha0 t pre ([x] ++ suf) k h5 ht2 hl (by omega)
    have hc := from_tree (Tr.un x a) t pre suf k hok ht (by omega) (by omega)
    have hfa := Tr.fold_len wide a
    rw [n282, hc]
    simp only [R308_r, encT_length]
    rw [i64_id (n := ((pre.length + (Tr.un x a).flat.length - 1 : Nat) : Int) + 1) (by omega) (by omega)]
    have hcond : (decide ((0 : Int) ≤ (pre.length : Int)) && decide ((pre.length : Int) ≤ ((pre.length + (Tr.un x a).flat.length - 1 : Nat) : Int) + 1) && decide (((pre.length + (Tr.un x a).flat.length - 1 : Nat) : Int) + 1 ≤ (t.length : Int))) = true := by simp; omega
    rw [hcond, Int.toNat_natCast, slice_tree ht _ (by omega), l2Vars_ok (by omega) _ (by omega)]
    simp only [cond_true, R323_r, encZ_length]
    rw [root_at ht]
    simp only [Option.bind_some, encN_shp, encN_op, encN_n, cond_true, Tr.root]
    rw [needS_ok (by omega)]
    simp only [R281_r]
    have hpl := putAllI_spec (vlist (Tr.un x a).flat) [] List.Pairwise.nil
    cases hn : (Tr.un x a).noVars
    · have hne : ¬ vlist (Tr.un x a).flat = [] := fun e => by rw [(Tr.noVars_vlist _ hok).1 e] at hn; cases hn
      have h0 : (((putAllI [] (vlist (Tr.un x a).flat)).length : Int) == 0) = false := by
        rw [beq_eq_false_iff_ne]
        intro e
        have : putAllI [] (vlist (Tr.un x a).flat) = [] := List.eq_nil_of_length_eq_zero (by omega)
        obtain ⟨y, hy⟩ := List.exists_mem_of_ne_nil _ hne
        have := (hpl.2 y).2 (.inr hy)
        simp_all
      have h1' : ((((need x.1).1 : Nat) : Int) == 0) = false := by simp [h1]
      have h2' : ((((need x.1).1 : Nat) : Int) == 2) = false := by simp [h1]
      rw [h0, h1', h2', i64_id (n := ((pre.length + (Tr.un x a).flat.length - 1 : Nat) : Int) - 1) (by omega) (by omega), show ((pre.length + (Tr.un x a).flat.length - 1 : Nat) : Int) - 1 = ((pre.length + a.flat.length - 1 : Nat) : Int) by omega, ih]
      simp only [cond_false, R282_r, encT_length, List.take_length]
      rw [lim_ok (by omega) (by omega)]
      have e5 : PV.agg [.int .i64 x.1, .int .u64 (wi x.2)] = encN x := rfl
      have hn' : ¬ a.noVars = true := by simpa [Tr.noVars] using hn
      rw [e5, Tr.fold_un, if_neg hn']
      simp only [cond_true, Tr.flat]
      rw [encT_snoc, List.take_of_length_le (by simp)]
    · have he := (Tr.noVars_vlist _ hok).2 hn
      have h0 : (((putAllI [] (vlist (Tr.un x a).flat)).length : Int) == 0) = true := by rw [he]; rfl
      have hval := value_tree hw hv (s := []) (by simp) (Tr.un x a) t pre suf k hok (Tr.noVars_inS _ _ hn) ht (by omega) (by omega)
      have hval' : c267 k wide (encT t) ((pre.length + (Tr.un x a).flat.length - 1 : Nat) : Int) [] = _ := hval
      rw [h0, hval', fold_const _ hok hn]
      simp only [cond_true, R267_r]
      unfold numT
      rw [show (Tr.un x a).kind = (need x.1).2.2 from rfl]
      by_cases hk2 : (need x.1).2.2 = 2
      · simp [hk2]; rfl
      · have : ((need x.1).2.2 == 2) = false := by simpa using hk2
        rw [this, if_neg hk2]; rfl
  | bin x a b iha0 ihb0 =>
    intro t pre suf k h ht hl hk
    have hok := h
    obtain ⟨h1, h2, h3, h4, h5, h6, h7⟩ := h
    have hp := a.flat_pos
    have hq := b.flat_pos
    have hfl : (Tr.bin x a b).flat.length = a.flat.length + b.flat.length + 1 := by (simp [Tr.flat]; try omega)
    have ht2 : t = (pre ++ a.flat) ++ b.flat ++ ([x] ++ suf) := by rw [ht]; simp [Tr.flat]
    have ht3 : t = pre ++ a.flat ++ (b.flat ++ [x] ++ suf) := by rw [ht]; simp [Tr.flat]
    have htl : t.length = pre.length + a.flat.length + b.flat.length + 1 + suf.length := by rw [ht2]; (simp; try omega)
    obtain ⟨k, rfl⟩ : ∃ i, k = i + 1 := ⟨k - 1, by omega⟩
    have ihb := ihb0 t (pre ++ a.flat) ([x] ++ suf) k h7 ht2 hl (by omega)
    have iha := iha0 t pre (b.flat ++ [x] ++ suf) k h6 ht3 hl (by omega)
    have hfr := from_tree b t (pre ++ a.flat) ([x] ++ suf) k h7 ht2 (by omega) (by omega)
    rw [List.length_append] at ihb hfr
    have hc := from_tree (Tr.bin x a b) t pre suf k hok ht (by omega) (by omega)
    have hfa := Tr.fold_len wide a
    have hfb := Tr.fold_len wide b
    rw [n282, hc]
    simp only [R308_r, encT_length]
    rw [i64_id (n := ((pre.length + (Tr.bin x a b).flat.length - 1 : Nat) : Int) + 1) (by omega) (by omega)]
    have hcond : (decide ((0 : Int) ≤ (pre.length : Int)) && decide ((pre.length : Int) ≤ ((pre.length + (Tr.bin x a b).flat.length - 1 : Nat) : Int) + 1) && decide (((pre.length + (Tr.bin x a b).flat.length - 1 : Nat) : Int) + 1 ≤ (t.length : Int))) = true := by simp; omega
    rw [hcond, Int.toNat_natCast, slice_tree ht _ (by omega), l2Vars_ok (by omega) _ (by omega)]
    simp only [cond_true, R323_r, encZ_length]
    rw [root_at ht]
    simp only [Option.bind_some, encN_shp, encN_op, encN_n, cond_true, Tr.root]
    rw [needS_ok (by omega)]
    simp only [R281_r]
    have hpl := putAllI_spec (vlist (Tr.bin x a b).flat) [] List.Pairwise.nil
    cases hn : (Tr.bin x a b).noVars
    · have hne : ¬ vlist (Tr.bin x a b).flat = [] := fun e => by rw [(Tr.noVars_vlist _ hok).1 e] at hn; cases hn
      have h0 : (((putAllI [] (vlist (Tr.bin x a b).flat)).length : Int) == 0) = false := by
        rw [beq_eq_false_iff_ne]
        intro e
        have : putAllI [] (vlist (Tr.bin x a b).flat) = [] := List.eq_nil_of_length_eq_zero (by omega)
        obtain ⟨y, hy⟩ := List.exists_mem_of_ne_nil _ hne
        have := (hpl.2 y).2 (.inr hy)
        simp_all
      have h1' : ((((need x.1).1 : Nat) : Int) == 0) = false := by simp [h1]
      have h2' : ((((need x.1).1 : Nat) : Int) == 2) = true := by simp [h1]
      rw [h0, h1', h2', i64_id (n := ((pre.length + (Tr.bin x a b).flat.length - 1 : Nat) : Int) - 1) (by omega) (by omega), show ((pre.length + (Tr.bin x a b).flat.length - 1 : Nat) : Int) - 1 = ((pre.length + a.flat.length + b.flat.length - 1 : Nat) : Int) by omega, ihb, hfr]
      simp only [cond_false, cond_true, R282_r, R308_r]
      rw [i64_id (n := ((pre.length + a.flat.length : Nat) : Int) - 1) (by omega) (by omega), show ((pre.length + a.flat.length : Nat) : Int) - 1 = ((pre.length + a.flat.length - 1 : Nat) : Int) by omega, iha]
      simp only [R282_r, encT_length, List.take_length]
      have e5 : PV.agg [.int .i64 x.1, .int .u64 (wi x.2)] = encN x := rfl
      have hn' : ¬ (a.noVars && b.noVars) = true := by simpa [Tr.noVars] using hn
      rw [e5, Tr.fold_bin, if_neg hn']
      have hta : (encT (b.fold wide).flat).take (b.fold wide).flat.length = encT (b.fold wide).flat := by rw [List.take_of_length_le (by simp)]
      rw [hta, encT_length, lim_ok (by omega) (by omega), lim_ok (by omega) (by omega), encT_app]
      simp only [cond_true, Tr.flat]
      rw [List.take_of_length_le (l := encT ((a.fold wide).flat ++ (b.fold wide).flat)) (by simp), encT_snoc, List.take_of_length_le (by (simp; try omega))]
    · have he := (Tr.noVars_vlist _ hok).2 hn
      have h0 : (((putAllI [] (vlist (Tr.bin x a b).flat)).length : Int) == 0) = true := by rw [he]; rfl
      have hval := value_tree hw hv (s := []) (by simp) (Tr.bin x a b) t pre suf k hok (Tr.noVars_inS _ _ hn) ht (by omega) (by omega)
      have hval' : c267 k wide (encT t) ((pre.length + (Tr.bin x a b).flat.length - 1 : Nat) : Int) [] = _ := hval
      rw [h0, hval', fold_const _ hok hn]
      simp only [cond_true, R267_r]
      unfold numT
      rw [show (Tr.bin x a b).kind = (need x.1).2.2 from rfl]
      by_cases hk2 : (need x.1).2.2 = 2
      · simp [hk2]; rfl
      · have : ((need x.1).2.2 == 2) = false := by simpa using hk2
        rw [this, if_neg hk2]; rfl
theorem canI_beq (l : List Int) : (((canI l).length : Int) == 0) = decide (l = []) := by
  rw [Bool.eq_iff_iff, decide_eq_true_eq, ← canI_nil, beq_iff_eq]
  omega
end Go.Proofs.YtclkgblckicabaaGreat
/- FnFolded: the law. -/
set_option linter.unusedVariables false
set_option linter.unusedSimpArgs false
set_option maxRecDepth 4000
namespace Go.Proofs.YtclkgblckicabaaGreat
open Go.Dp

theorem good_len {wide vars : Int} {t : List Nd} (h : goodT wide vars t = true) : isW wide = true ∧ isV vars = true ∧ t.length ≤ 48 := by
  have hs := (goodT_iff.1 h).1
  simp only [sizeT, Bool.and_eq_true, decide_eq_true_eq] at hs
  exact ⟨hs.1.1.1, hs.1.1.2, hs.2⟩
/-- What folding makes of a term. -/
theorem foldS_ok {k : Nat} (hk : 1000500 ≤ k) {wide vars : Int} {t u : List Nd} (ht : t.length ≤ 100) (hu : goodT wide vars t = true → ∀ k, 500000 ≤ k → c282 k wide (encT t) (IntKind.i64.wrap ((t.length : Int) - 1)) = r282 (encT u)) : c209 k wide vars (encT t) = r209 (encT (bif goodT wide vars t then u else [])) (goodT wide vars t) := by
  obtain ⟨k, rfl⟩ : ∃ j, k = j + 1 := ⟨k - 1, by omega⟩
  rw [n209, goodTermS_ok (by omega) _ _ _ (by omega), encT_length]
  simp only [R268_r]
  cases h : goodT wide vars t
  · rfl
  · rw [hu h k (by omega)]
    simp only [Bool.not_true, cond_false, cond_true, R282_r, List.take_length]
end Go.Proofs.YtclkgblckicabaaGreat
/- FnHoare: a command leads from one condition to another. -/
set_option linter.unusedVariables false
set_option linter.unusedSimpArgs false
set_option maxRecDepth 4000
namespace Go.Proofs.YtclkgblckicabaaGreat
open Go.Dp

/-! ### Where a command leads -/
def aft (p : Prg) (c : Cmd) (no : Int) : List W := afterS p.wide (sto p no) c.ch (sto p no)
def toN (p : Prg) (c : Cmd) (no : Int) : Int := (noOf (pw p) (aft p c no) : Nat)
theorem toN_ok {p : Prg} (hp : FitP p) (hs : smallP p = true) {k1 : Int} (hn : cnoOK p k1 = true) {no : Int} (hi : inS p no) : stOK p (aft p (cmdAt p k1) no) = true ∧ inS p (toN p (cmdAt p k1) no) ∧ sto p (toN p (cmdAt p k1) no) = aft p (cmdAt p k1) no := by
  obtain ⟨hw, hv, _, _, _, _, hx⟩ := good_cmd hp (k1 := k1) (by simp [tOK, small_good hs, hn])
  obtain ⟨h1, h2⟩ := (stOK_of hw).1 (sto_ok hs hi)
  have h3 : stOK p (aft p (cmdAt p k1) no) = true := (stOK_of hw).2 ⟨by rw [aft, afterS_length]; exact h1, afterS_all h1 h2 _ _ (fun x h => (hx x h).2.2) h2⟩
  exact ⟨h3, no_inS hs h3⟩
def afL (p : Prg) (c : Cmd) : List Int → List Int
  | [] => []
  | x :: l => (bif hN p c.wh x then [toN p c x] else []) ++ afL p c l
theorem afL_mem (p : Prg) (c : Cmd) : ∀ (l : List Int) (y : Int), y ∈ afL p c l ↔ ∃ x ∈ l, hN p c.wh x = true ∧ y = toN p c x
  | [], y => by simp [afL]
  | x :: l, y => by
    simp only [afL, List.mem_append, afL_mem p c l y]
    cases hh : hN p c.wh x <;> simp [hh]
theorem afL_len (p : Prg) (c : Cmd) : ∀ (l : List Int), (afL p c l).length ≤ l.length
  | [] => by simp [afL]
  | x :: l => by
    have := afL_len p c l
    simp only [afL, List.length_append, List.length_cons]
    cases hN p c.wh x <;> simp <;> omega
theorem afterN_ok {k : Nat} (hk : 1000020 ≤ k) {p : Prg} (hp : FitP p) (hs : smallP p = true) {k1 : Int} (hn : cnoOK p k1 = true) (l1 l2 l3 : List PV) {no : Int} (hi : inS p no) : c138 k p.wide p.vars l1 l2 l3 (encChs (cmdAt p k1).ch) (encW (sto p no)) = r138 (encW (aft p (cmdAt p k1) no)) := by
  obtain ⟨hw, hv, _, _, hf, _, hx⟩ := good_cmd hp (k1 := k1) (by simp [tOK, small_good hs, hn])
  have hso := sto_ok hs hi
  obtain ⟨h1, h2⟩ := (stOK_of hw).1 hso
  have hsl := st_len hp hso
  have hfc := hf.ch
  exact after_ok (by omega) p hw l1 l2 l3 _ (by omega) h1 h2 _ (by omega) (fun x h => ⟨(hx x h).1, (hx x h).2.1, (hx x h).2.2, hf.by1 x h⟩)
theorem doN_ok {k : Nat} (hk : 1000020 ≤ k) {p : Prg} (hp : FitP p) (hs : smallP p = true) {k1 : Int} (hn : cnoOK p k1 = true) (l1 : List PV) {no : Int} (hi : inS p no) : c276 k p.wide p.vars l1 (encCms p.cmds) (encW (sto p no)) k1 = r276 (encW (aft p (cmdAt p k1) no)) := by
  obtain ⟨k, rfl⟩ : ∃ j, k = j + 1 := ⟨k - 1, by omega⟩
  obtain ⟨hw, hv, _, _, hf, _, hx⟩ := good_cmd hp (k1 := k1) (by simp [tOK, small_good hs, hn])
  have hso := sto_ok hs hi
  obtain ⟨h1, h2⟩ := (stOK_of hw).1 hso
  have hsl := st_len hp hso
  have hfc := hf.ch
  obtain ⟨hget, hm⟩ := cmdAt_get hn
  rw [n276, hget, encW_length, lim_ok (by omega) (by omega)]
  simp only [cond_true, Option.bind_some, encCm_ch, encChs_length, List.nil_append, Nat.zero_add]
  have := do_loop (k := k) (by omega) p hw l1 (encCms p.cmds) _ h1 h2 (cmdAt p k1).ch (by omega) (fun x h => ⟨(hx x h).1, (hx x h).2.1, (hx x h).2.2, hf.by1 x h⟩) k 0 _ (by omega) (by omega) rfl
  exact this
theorem cmd_kind {p : Prg} (hp : FitP p) (hs : smallP p = true) {k1 : Int} (hn : cnoOK p k1 = true) : (cmdAt p k1).wh.length ≤ 100 ∧ kindT p.wide p.vars (cmdAt p k1).wh = 2 := by
  obtain ⟨hw, hv, _, _, hf, h1, hx⟩ := good_cmd hp (k1 := k1) (by simp [tOK, small_good hs, hn])
  exact ⟨hf.wh, h1⟩
theorem afterI_loop {k : Nat} (hk : 1000100 ≤ k) {p : Prg} (hp : FitP p) (hs : smallP p = true) {k1 : Int} (hn : cnoOK p k1 = true) (l1 : List PV) (l : List Int) (hl : l.length ≤ 1000) (hin : ∀ x ∈ l, inS p x) : ∀ (n i : Nat) (o : List Int), l.length - i < n → i ≤ l.length → o.length ≤ i →
    L205_1 k n k1 o.length (encZ l) (l.length : Int) (i : Int) p.wide p.vars l1 (encCms p.cmds) (encZ o) = r205 (encZ (canI (o ++ afL p (cmdAt p k1) (l.drop i))))
  | 0, i, o, h, hi, ho => by omega
  | n + 1, i, o, h, hi, ho => by
    obtain ⟨hwl, hwk⟩ := cmd_kind hp hs hn
    obtain ⟨hget, hm⟩ := cmdAt_get hn
    rw [sL205_1]
    have etk : (encZ o).take o.length = encZ o := by rw [List.take_of_length_le (by simp)]
    by_cases hlt : i < l.length
    · have hd : decide ((i : Int) < (l.length : Int)) = true := by simpa using hlt
      have hnext : IntKind.i64.wrap ((i : Int) + 1) = ((i + 1 : Nat) : Int) := by rw [i64_id (by omega) (by omega)]; omega
      have hx := hin _ (List.getElem_mem hlt)
      rw [hd, encZ_lookup hlt, drop_cons hlt, hnext, hget]
      simp only [cond_true, Option.bind_some, int_atInt]
      rw [stoI_ok (by omega) hs _ _ hx]
      simp only [R121_r, encCm_wh, encCm_ch, encCm_shp, Option.bind_some, cond_true]
      rw [holdsI_ok (by omega) p (small_good hs) _ _ _ hwl hwk _ (sto_ok hs hx)]
      simp only [R137_r, afL]
      change (bif hN p (cmdAt p k1).wh l[i] then _ else _) = _
      cases hh : hN p (cmdAt p k1).wh l[i]
      · simp only [cond_false, List.nil_append]
        exact afterI_loop hk hp hs hn l1 l hl hin n (i + 1) o (by omega) (by omega) (by omega)
      · simp only [cond_true]
        rw [afterN_ok (by omega) hp hs hn _ _ _ hx]
        simp only [R138_r]
        rw [noI_ok (by omega) hs _ _ (toN_ok hp hs hn hx).1]
        simp only [R270_r]
        rw [lim_ok (by omega) (by omega), etk, encZ_snoc]
        simp only [cond_true]
        have := afterI_loop hk hp hs hn l1 l hl hin n (i + 1) (o ++ [toN p (cmdAt p k1) l[i]]) (by omega) (by omega) (by simp; omega)
        rw [List.length_append, List.append_assoc] at this
        exact this
    · have hd : decide ((i : Int) < (l.length : Int)) = false := by simpa using hlt
      have hol : decide (o.length ≤ LIM) = true := decide_eq_true (by unfold LIM; omega)
      have e0 : l.drop i = [] := List.drop_eq_nil_of_le (by omega)
      rw [hd, etk, intsOf_enc, hol, e0]
      simp only [cond_false, cond_true, Option.bind_some]
      rw [sort_view, intsOf_enc]
      simp only [Option.bind_some, afL, List.append_nil]
      rw [comp_view]
      rfl
theorem afterOfI_ok {k : Nat} (hk : 1000200 ≤ k) {p : Prg} (hp : FitP p) (hs : smallP p = true) {k1 : Int} (hn : cnoOK p k1 = true) (l1 : List PV) (l : List Int) (hl : l.length ≤ 1000) (hin : ∀ x ∈ l, inS p x) : c205 k p.wide p.vars l1 (encCms p.cmds) k1 (encZ l) = r205 (encZ (canI (afL p (cmdAt p k1) l))) := by
  obtain ⟨k, rfl⟩ : ∃ j, k = j + 1 := ⟨k - 1, by omega⟩
  rw [n205, encZ_length]
  exact afterI_loop (k := k) (by omega) hp hs hn l1 l hl hin k 0 [] (by omega) (by omega) (by simp)
theorem afterS_loop {k : Nat} (hk : 1000100 ≤ k) {p : Prg} (hp : FitP p) (hs : smallP p = true) {k1 : Int} (hn : cnoOK p k1 = true) (l1 : List PV) (l : List Int) (hl : l.length ≤ 500) (hin : ∀ x ∈ l, inS p x) : ∀ (n i : Nat) (o : List Int), l.length - i < n → i ≤ l.length → o.length ≤ i →
    L207_1 k n k1 o.length (encZ l) (l.length : Int) (i : Int) p.wide p.vars l1 (encCms p.cmds) (encZ o) = r207 (encZ (putAllI o (afL p (cmdAt p k1) (l.drop i))))
  | 0, i, o, h, hi, ho => by omega
  | n + 1, i, o, h, hi, ho => by
    obtain ⟨hwl, hwk⟩ := cmd_kind hp hs hn
    obtain ⟨hget, hm⟩ := cmdAt_get hn
    rw [sL207_1]
    have etk : (encZ o).take o.length = encZ o := by rw [List.take_of_length_le (by simp)]
    rw [etk]
    by_cases hlt : i < l.length
    · have hd : decide ((i : Int) < (l.length : Int)) = true := by simpa using hlt
      have hnext : IntKind.i64.wrap ((i : Int) + 1) = ((i + 1 : Nat) : Int) := by rw [i64_id (by omega) (by omega)]; omega
      have hx := hin _ (List.getElem_mem hlt)
      rw [hd, encZ_lookup hlt, drop_cons hlt, hnext, hget]
      simp only [cond_true, Option.bind_some, int_atInt]
      rw [stoS_ok (by omega) hs _ _ hx]
      simp only [R172_r, encCm_wh, encCm_ch, encCm_shp, Option.bind_some, cond_true]
      rw [holdsS_ok (by omega) p (small_good hs) _ _ _ hwl hwk _ (sto_ok hs hx)]
      simp only [R171_r, afL]
      change (bif hN p (cmdAt p k1).wh l[i] then _ else _) = _
      cases hh : hN p (cmdAt p k1).wh l[i]
      · simp only [cond_false, List.nil_append]
        exact afterS_loop hk hp hs hn l1 l hl hin n (i + 1) o (by omega) (by omega) (by omega)
      · simp only [cond_true]
        rw [doN_ok (by omega) hp hs hn _ hx]
        simp only [R276_r]
        rw [noS_ok (by omega) hs _ _ (toN_ok hp hs hn hx).1]
        simp only [R275_r]
        rw [l1Put_ok (by omega) o (by omega)]
        simp only [R200_r, encZ_length]
        have hpl := putI_len o (toN p (cmdAt p k1) l[i])
        have := afterS_loop hk hp hs hn l1 l hl hin n (i + 1) (putI o (toN p (cmdAt p k1) l[i])) (by omega) (by omega) (by omega)
        exact this
    · have hd : decide ((i : Int) < (l.length : Int)) = false := by simpa using hlt
      rw [hd, List.drop_eq_nil_of_le (by omega)]
      rfl
theorem afterOfS_ok {k : Nat} (hk : 1000200 ≤ k) {p : Prg} (hp : FitP p) (hs : smallP p = true) {k1 : Int} (hn : cnoOK p k1 = true) (l1 : List PV) (l : List Int) (hl : l.length ≤ 500) (hin : ∀ x ∈ l, inS p x) : c207 k p.wide p.vars l1 (encCms p.cmds) k1 (encZ l) = r207 (encZ (canI (afL p (cmdAt p k1) l))) := by
  obtain ⟨k, rfl⟩ : ∃ j, k = j + 1 := ⟨k - 1, by omega⟩
  rw [n207, encZ_length, canI_put (l := afL p (cmdAt p k1) l) (m := afL p (cmdAt p k1) l) (fun x => Iff.rfl)]
  exact afterS_loop (k := k) (by omega) hp hs hn l1 l hl hin k 0 [] (by omega) (by omega) (by simp)
/-! ### A condition in all of some states -/
theorem hall_loop {k : Nat} (hk : 1000100 ≤ k) {p : Prg} (hs : smallP p = true) (l1 l2 : List PV) (t : List Nd) (ht : t.length ≤ 100) (hkt : kindT p.wide p.vars t = 2) (l : List Int) (hl : l.length ≤ 1000) (hin : ∀ x ∈ l, inS p x) : ∀ (n i : Nat), l.length - i < n → i ≤ l.length →
    ∃ v, L273_1 k n (encZ l) (l.length : Int) (i : Int) p.wide p.vars l1 l2 (encT t) = r273 (.int .i64 p.wide) (.int .i64 p.vars) (.row 2 0 l1) (.row 2 0 l2) (.row 2 0 (encT t)) v ∧ decide (v ≥ 0) = !(l.drop i).all (hN p t)
  | 0, i, h, hi => by omega
  | n + 1, i, h, hi => by
    rw [sL273_1]
    by_cases hlt : i < l.length
    · have hd : decide ((i : Int) < (l.length : Int)) = true := by simpa using hlt
      have hnext : IntKind.i64.wrap ((i : Int) + 1) = ((i + 1 : Nat) : Int) := by rw [i64_id (by omega) (by omega)]; omega
      have hx := hin _ (List.getElem_mem hlt)
      obtain ⟨k', rfl⟩ : ∃ j, k = j + 1 := ⟨k - 1, by omega⟩
      rw [hd, encZ_lookup hlt, drop_cons hlt, hnext]
      simp only [cond_true, Option.bind_some, int_atInt]
      rw [n280, stoI_ok (by omega) hs _ _ hx]
      simp only [R121_r]
      rw [holdsI_ok (by omega) p (small_good hs) _ _ _ ht hkt _ (sto_ok hs hx)]
      simp only [R137_r, R280_r, List.all_cons]
      change ∃ v, (bif !hN p t l[i] then _ else _) = _ ∧ _
      cases hh : hN p t l[i]
      · exact ⟨(i : Int), rfl, by simp⟩
      · simp only [Bool.not_true, cond_false, Bool.true_and]
        exact hall_loop hk hs l1 l2 t ht hkt l hl hin n (i + 1) (by omega) (by omega)
    · have hd : decide ((i : Int) < (l.length : Int)) = false := by simpa using hlt
      rw [hd, List.drop_eq_nil_of_le (by omega)]
      exact ⟨-1, rfl, by simp⟩
theorem holdsAll_ok {k : Nat} (hk : 1000200 ≤ k) {p : Prg} (hs : smallP p = true) (l1 l2 : List PV) (t : List Nd) (ht : t.length ≤ 100) (hkt : kindT p.wide p.vars t = 2) (l : List Int) (hl : l.length ≤ 1000) (hin : ∀ x ∈ l, inS p x) : c204 k p.wide p.vars l1 l2 (encT t) (encZ l) = r204 (l.all (hN p t)) := by
  obtain ⟨k, rfl⟩ : ∃ j, k = j + 3 := ⟨k - 3, by omega⟩
  obtain ⟨v, h1, h2⟩ := hall_loop (k := k) (by omega) hs l1 l2 t ht hkt l hl hin k 0 (by omega) (by omega)
  rw [n204, n187, n273, encZ_length]
  have h' : L273_1 k k (encZ l) (l.length : Int) 0 p.wide p.vars l1 l2 (encT t) = _ := h1
  rw [h']
  simp only [R273_r, R187_r, h2, List.drop_zero, Bool.not_not]
/-! ### What is asked -/
def twoC (p : Prg) (a b : List Nd) : Bool := smallP p && ((kindT p.wide p.vars a == 2) && (kindT p.wide p.vars b == 2))
theorem areC_ok {k : Nat} (hk : 1000300 ≤ k) (p : Prg) (hp : FitP p) (a b : List Nd) (ha : a.length ≤ 100) (hb : b.length ≤ 100) : c203 k p.wide p.vars (encT p.start) (encCms p.cmds) (encT a) (encT b) = r203 (twoC p a b) := by
  obtain ⟨k, rfl⟩ : ∃ j, k = j + 1 := ⟨k - 1, by omega⟩
  rw [n203, isSmall_ok (by omega) p hp]
  simp only [R112_r, twoC]
  cases smallP p
  · rfl
  · simp only [cond_true, Bool.true_and]
    rw [cond_ok (by omega) _ _ _ _ a (by omega), cond_ok (by omega) _ _ _ _ b (by omega)]
    simp only [R153_r]
    cases (kindT p.wide p.vars a == 2) <;> rfl
theorem twoC_get {p : Prg} {a b : List Nd} (h : twoC p a b = true) : smallP p = true ∧ kindT p.wide p.vars a = 2 ∧ kindT p.wide p.vars b = 2 := by
  simpa [twoC] using h
theorem whI_in {p : Prg} (t : List Nd) : ∀ x ∈ whI p t, inS p x := fun x hx => ((whI_mem p t x).1 hx).1
theorem whI_len {p : Prg} (hs : smallP p = true) (t : List Nd) : (whI p t).length ≤ 32 := Nat.le_trans (whN_len p t _ _) (nS_le hs).2
def impB (p : Prg) (a b : List Nd) : Bool := (whI p a).all (hN p b)
theorem impI_ok {k : Nat} (hk : 1000400 ≤ k) (p : Prg) (hp : FitP p) (a b : List Nd) (ha : a.length ≤ 100) (hb : b.length ≤ 100) : c82 k p.wide p.vars (encT p.start) (encCms p.cmds) (encT a) (encT b) = r82 (twoC p a b && impB p a b) (twoC p a b) := by
  obtain ⟨k, rfl⟩ : ∃ j, k = j + 1 := ⟨k - 1, by omega⟩
  rw [n82, areC_ok (by omega) p hp a b ha hb]
  simp only [R203_r]
  cases h : twoC p a b
  · rfl
  · obtain ⟨hs, h1, h2⟩ := twoC_get h
    have hwl := whI_len hs a
    simp only [Bool.not_true, cond_false]
    rw [where_ok (by omega) hs _ _ a ha h1]
    simp only [R196_r]
    rw [holdsAll_ok (by omega) hs _ _ b hb h2 _ (by omega) (whI_in a)]
    rfl
theorem impS_ok {k : Nat} (hk : 1000400 ≤ k) (p : Prg) (hp : FitP p) (a b : List Nd) (ha : a.length ≤ 100) (hb : b.length ≤ 100) : c88 k p.wide p.vars (encT p.start) (encCms p.cmds) (encT a) (encT b) = r88 (twoC p a b && impB p a b) (twoC p a b) := by
  obtain ⟨k, rfl⟩ : ∃ j, k = j + 1 := ⟨k - 1, by omega⟩
  rw [n88, l7Small_ok (by omega) p hp, asks_ok (by omega) _ _ _ _ a (by omega), asks_ok (by omega) _ _ _ _ b (by omega)]
  simp only [R115_r, R110_r, twoC]
  cases hs : smallP p
  · rfl
  cases h1 : (kindT p.wide p.vars a == 2)
  · rfl
  cases h2 : (kindT p.wide p.vars b == 2)
  · rfl
  have hwl := whI_len hs a
  have hwl2 := whI_len hs b
  simp only [Bool.not_true, cond_false]
  rw [those_ok (by omega) hs _ _ a ha (by simpa using h1), those_ok (by omega) hs _ _ b hb (by simpa using h2)]
  simp only [R164_r]
  rw [within_ok (by omega) _ _ (by omega) (by omega), all_in (whI_in a)]
  rfl
def sameB (p : Prg) (a b : List Nd) : Bool := decide (whI p a = whI p b)
theorem sameInI_ok {k : Nat} (hk : 1000400 ≤ k) (p : Prg) (hp : FitP p) (a b : List Nd) (ha : a.length ≤ 100) (hb : b.length ≤ 100) : c83 k p.wide p.vars (encT p.start) (encCms p.cmds) (encT a) (encT b) = r83 (twoC p a b && sameB p a b) (twoC p a b) := by
  obtain ⟨k, rfl⟩ : ∃ j, k = j + 1 := ⟨k - 1, by omega⟩
  rw [n83, areC_ok (by omega) p hp a b ha hb]
  simp only [R203_r]
  cases h : twoC p a b
  · rfl
  · obtain ⟨hs, h1, h2⟩ := twoC_get h
    have hwl := whI_len hs a
    simp only [Bool.not_true, cond_false]
    rw [where_ok (by omega) hs _ _ a ha h1, where_ok (by omega) hs _ _ b hb h2]
    simp only [R196_r]
    rw [eqI_ok (by omega) _ _ (by omega)]
    rfl
theorem sameInS_ok {k : Nat} (hk : 1000400 ≤ k) (p : Prg) (hp : FitP p) (a b : List Nd) (ha : a.length ≤ 100) (hb : b.length ≤ 100) : c90 k p.wide p.vars (encT p.start) (encCms p.cmds) (encT a) (encT b) = r90 (twoC p a b && sameB p a b) (twoC p a b) := by
  obtain ⟨k, rfl⟩ : ∃ j, k = j + 1 := ⟨k - 1, by omega⟩
  rw [n90, l7Small_ok (by omega) p hp, asks_ok (by omega) _ _ _ _ a (by omega), asks_ok (by omega) _ _ _ _ b (by omega)]
  simp only [R115_r, R110_r, twoC]
  cases hs : smallP p
  · rfl
  cases h1 : (kindT p.wide p.vars a == 2)
  · rfl
  cases h2 : (kindT p.wide p.vars b == 2)
  · rfl
  have hwl := whI_len hs a
  simp only [Bool.not_true, cond_false]
  rw [those_ok (by omega) hs _ _ a ha (by simpa using h1), those_ok (by omega) hs _ _ b hb (by simpa using h2)]
  simp only [R164_r]
  rw [l1Same_ok (by omega) _ _ (by omega)]
  rfl
def leadsB (p : Prg) (c : Cmd) (a b : List Nd) : Bool := (canI (afL p c (whI p a))).all (hN p b)
def leadsOK (p : Prg) (k1 : Int) (a b : List Nd) : Bool := twoC p a b && cnoOK p k1
theorem canI_all {l : List Int} (f : Int → Bool) : (canI l).all f = l.all f := by
  rw [Bool.eq_iff_iff]
  simp only [List.all_eq_true]
  exact ⟨fun h x hx => h x ((canI_spec l).2 x |>.2 hx), fun h x hx => h x ((canI_spec l).2 x |>.1 hx)⟩
theorem afL_in {p : Prg} (hp : FitP p) (hs : smallP p = true) {k1 : Int} (hn : cnoOK p k1 = true) {l : List Int} (hl : ∀ x ∈ l, inS p x) : ∀ y ∈ canI (afL p (cmdAt p k1) l), inS p y := by
  intro y hy
  obtain ⟨x, hx, _, rfl⟩ := (afL_mem p _ l y).1 (((canI_spec _).2 y).1 hy)
  exact (toN_ok hp hs hn (hl x hx)).2.1
theorem leadsI_ok {k : Nat} (hk : 1000400 ≤ k) (p : Prg) (hp : FitP p) (k1 : Int) (a b : List Nd) (ha : a.length ≤ 100) (hb : b.length ≤ 100) : c80 k p.wide p.vars (encT p.start) (encCms p.cmds) k1 (encT a) (encT b) = r80 (leadsOK p k1 a b && leadsB p (cmdAt p k1) a b) (leadsOK p k1 a b) := by
  obtain ⟨k, rfl⟩ : ∃ j, k = j + 1 := ⟨k - 1, by omega⟩
  rw [n80, areC_ok (by omega) p hp a b ha hb, cno_ok (by omega)]
  simp only [R203_r, R136_r, leadsOK]
  cases h : twoC p a b
  · rfl
  cases hn : cnoOK p k1
  · rfl
  obtain ⟨hs, h1, h2⟩ := twoC_get h
  have hwl := whI_len hs a
  have hcl := canI_len (afL p (cmdAt p k1) (whI p a))
  have hal := afL_len p (cmdAt p k1) (whI p a)
  simp only [Bool.not_true, cond_false]
  rw [where_ok (by omega) hs _ _ a ha h1]
  simp only [R196_r]
  rw [afterOfI_ok (by omega) hp hs hn _ _ (by omega) (whI_in a)]
  simp only [R205_r]
  rw [holdsAll_ok (by omega) hs _ _ b hb h2 _ (by omega) (afL_in hp hs hn (whI_in a))]
  rfl
theorem leadsS_ok {k : Nat} (hk : 1000400 ≤ k) (p : Prg) (hp : FitP p) (k1 : Int) (a b : List Nd) (ha : a.length ≤ 100) (hb : b.length ≤ 100) : c81 k p.wide p.vars (encT p.start) (encCms p.cmds) k1 (encT a) (encT b) = r81 (leadsOK p k1 a b && leadsB p (cmdAt p k1) a b) (leadsOK p k1 a b) := by
  obtain ⟨k, rfl⟩ : ∃ j, k = j + 1 := ⟨k - 1, by omega⟩
  rw [n81, l7Small_ok (by omega) p hp, l16Asked_ok (by omega) p hp k1 a ha, asks_ok (by omega) _ _ _ _ b (by omega)]
  simp only [R115_r, R184_r, R110_r, leadsOK, twoC, askOK]
  cases hs : smallP p
  · rfl
  have hg := small_good hs
  rw [hg]
  cases h1 : (kindT p.wide p.vars a == 2)
  · cases cnoOK p k1 <;> rfl
  cases h2 : (kindT p.wide p.vars b == 2)
  · cases cnoOK p k1 <;> rfl
  cases hn : cnoOK p k1
  · rfl
  have hwl := whI_len hs a
  have hwl2 := whI_len hs b
  have hcl := canI_len (afL p (cmdAt p k1) (whI p a))
  have hal := afL_len p (cmdAt p k1) (whI p a)
  simp only [Bool.not_true, cond_false, Bool.and_self]
  rw [those_ok (by omega) hs _ _ a ha (by simpa using h1), those_ok (by omega) hs _ _ b hb (by simpa using h2)]
  simp only [R164_r]
  rw [afterOfS_ok (by omega) hp hs hn _ _ (by omega) (whI_in a)]
  simp only [R207_r]
  rw [within_ok (by omega) _ _ (by omega) (by omega), all_in (afL_in hp hs hn (whI_in a))]
  rfl
def aftOK (p : Prg) (k1 : Int) (l : List Int) : Bool := smallP p && (cnoOK p k1 && incG (nS p : Int) none l)
def aftT (p : Prg) (k1 : Int) (l : List Int) : List Int := bif aftOK p k1 l then canI (afL p (cmdAt p k1) l) else []
theorem aftI_ok {k : Nat} (hk : 1000400 ≤ k) (p : Prg) (hp : FitP p) (k1 : Int) (l : List Int) (hl : l.length ≤ 100) : c85 k p.wide p.vars (encT p.start) (encCms p.cmds) k1 (encZ l) = r85 (encZ (aftT p k1 l)) (aftOK p k1 l) := by
  obtain ⟨k, rfl⟩ : ∃ j, k = j + 1 := ⟨k - 1, by omega⟩
  rw [n85, isSmall_ok (by omega) p hp, cno_ok (by omega)]
  simp only [R112_r, R136_r, aftT, aftOK]
  cases hs : smallP p
  · rfl
  cases hn : cnoOK p k1
  · rfl
  simp only [Bool.not_true, cond_false]
  rw [nSI_ok (by omega) hs]
  simp only [R114_r]
  rw [inc_ok (by omega) l (by omega)]
  simp only [R177_r, Bool.true_and]
  cases hg : incG (nS p : Int) none l
  · rfl
  simp only [Bool.not_true, cond_false, cond_true]
  rw [afterOfI_ok (by omega) hp hs hn _ _ (by omega) (fun x hx => incG_mem hg x hx)]
  simp only [R205_r]
theorem aftS_ok {k : Nat} (hk : 1000400 ≤ k) (p : Prg) (hp : FitP p) (k1 : Int) (l : List Int) (hl : l.length ≤ 100) : c86 k p.wide p.vars (encT p.start) (encCms p.cmds) k1 (encZ l) = r86 (encZ (aftT p k1 l)) (aftOK p k1 l) := by
  obtain ⟨k, rfl⟩ : ∃ j, k = j + 1 := ⟨k - 1, by omega⟩
  have hcm := hp.cm
  have e1 : (decide ((0 : Int) ≤ k1) && decide (k1 ≤ IntKind.i64.wrap (((encCms p.cmds).length : Int) - 1))) = cnoOK p k1 := by
    rw [encCms_length, i64_id (by omega) (by omega), Bool.eq_iff_iff]
    simp [cnoOK]
    omega
  rw [n86, l7Small_ok (by omega) p hp, in_ok (by omega), e1]
  simp only [R115_r, R117_r, aftT, aftOK]
  cases hs : smallP p
  · rfl
  cases hn : cnoOK p k1
  · rfl
  have hle := nS_le hs
  simp only [Bool.not_true, cond_false]
  rw [nSS_ok (by omega) hs]
  simp only [R116_r]
  rw [i64_id (by omega) (by omega), rise_ok (by omega) l (by omega)]
  simp only [R179_r, Bool.true_and]
  cases hg : incG (nS p : Int) none l
  · rfl
  simp only [Bool.not_true, cond_false, cond_true]
  rw [afterOfS_ok (by omega) hp hs hn _ _ (by omega) (fun x hx => incG_mem hg x hx)]
  simp only [R207_r]
end Go.Proofs.YtclkgblckicabaaGreat
/- FnHoare: what is drawn; the law. -/
set_option linter.unusedVariables false
set_option linter.unusedSimpArgs false
set_option maxRecDepth 4000
namespace Go.Proofs.YtclkgblckicabaaGreat
open Go.Dp

/-! ### What is drawn -/
theorem beforeOneS_len (p : Prg) (k1 : Int) (t : List Nd) : (b1T p k1 t).length ≤ 48 := by
  unfold b1T
  cases askOK p k1 t
  · simp
  · simp only [cond_true]; exact oneT_len p _ t
theorem drawLeads_ok {bs : List Nat} (hc : CodeOK bs) {k : Nat} (hk : 1000500 ≤ k) : ∃ p k1 a b, c79 k (encB bs) = r79 p.wide p.vars (encT p.start) (encCms p.cmds) k1 (encT a) (encT b) ∧ FitP p ∧ a.length ≤ 48 ∧ b.length ≤ 48 := by
  obtain ⟨k, rfl⟩ : ∃ j, k = j + 1 := ⟨k - 1, by omega⟩
  rw [n79]
  obtain ⟨a2, s2, p, h, h2, h3, h4⟩ := small_ok hc (k := k) (by omega) (at' := 0) (by omega) (by omega) 0#64
  have h' : c105 k (encB bs) 0 0 = _ := h
  rw [h']
  simp only [R105_r]
  obtain ⟨a3, s3, k1, h, h5, h6, h7, _⟩ := pick_ok hc (k := k) (by omega) (at' := a2) (by omega) (by omega) s2 3
  rw [h]
  simp only [R143_r]
  have hw := h4.w
  have hv := h4.v
  obtain ⟨a4, s4, b, h, h9, h10, h11⟩ := askedOf_ok hc (k := k) (by omega) (wide := p.wide) (vars := p.vars) (by omega) (by omega) (encT p.start) (encCms p.cmds) (d := 1) (by omega) (by omega) (at' := a3) (by omega) (by omega) s3
  rw [h]
  simp only [R163_r]
  rw [BeforeOneS_ok (by omega) p h4 k1 b (by omega)]
  simp only [R202_r]
  have hb1 := beforeOneS_len p k1 b
  cases b1OK p k1 b
  · obtain ⟨a5, s5, a, h, h12, h13, h14⟩ := askedOf_ok hc (k := k) (by omega) (wide := p.wide) (vars := p.vars) (by omega) (by omega) (encT p.start) (encCms p.cmds) (d := 1) (by omega) (by omega) (at' := a4) (by omega) (by omega) s4
    simp only [cond_false]
    rw [h]
    simp only [R163_r]
    exact ⟨p, k1, a, b, rfl, h4, by omega, by omega⟩
  · obtain ⟨a5, s5, q, h, h12, h13⟩ := one_ok hc (k := k) (by omega) (at' := a4) (by omega) (by omega) s4 2
    simp only [cond_true]
    rw [h]
    simp only [R145_r]
    cases q
    · obtain ⟨a6, s6, a, h, h14, h15, h16⟩ := askedOf_ok hc (k := k) (by omega) (wide := p.wide) (vars := p.vars) (by omega) (by omega) (encT p.start) (encCms p.cmds) (d := 1) (by omega) (by omega) (at' := a5) (by omega) (by omega) s5
      simp only [cond_false]
      rw [h]
      simp only [R163_r]
      exact ⟨p, k1, a, b, rfl, h4, by omega, by omega⟩
    · exact ⟨p, k1, b1T p k1 b, b, rfl, h4, hb1, by omega⟩
theorem drawAfter_ok {bs : List Nat} (hc : CodeOK bs) {k : Nat} (hk : 2500 ≤ k) : ∃ p k1 l, c84 k (encB bs) = r84 p.wide p.vars (encT p.start) (encCms p.cmds) k1 (encZ l) ∧ FitP p ∧ l.length ≤ 60 := by
  obtain ⟨k, rfl⟩ : ∃ j, k = j + 1 := ⟨k - 1, by omega⟩
  rw [n84]
  obtain ⟨a2, s2, p, h, h2, h3, h4⟩ := small_ok hc (k := k) (by omega) (at' := 0) (by omega) (by omega) 0#64
  have h' : c105 k (encB bs) 0 0 = _ := h
  rw [h']
  simp only [R105_r]
  obtain ⟨a3, s3, k1, h, h5, h6, h7, _⟩ := pick_ok hc (k := k) (by omega) (at' := a2) (by omega) (by omega) s2 4
  rw [h]
  simp only [R143_r]
  obtain ⟨a4, s4, l, h, h8, h9, h10⟩ := someOf_ok hc (k := k) (by omega) 4 4 (by omega) (by omega) (at' := a3) (by omega) (by omega) s3
  rw [h]
  simp only [R149_r]
  exact ⟨p, k1, l, rfl, h4, h10⟩
theorem joinR_len (wide vars op : Int) (a b : List Nd) : (bif joinOK wide vars op a b then encT (joinT op a b) else []) = encT (bif joinOK wide vars op a b then joinT op a b else []) ∧ (bif joinOK wide vars op a b then joinT op a b else []).length ≤ 48 := by
  cases h : joinOK wide vars op a b
  · exact ⟨rfl, by simp⟩
  · simp only [joinOK, Bool.and_eq_true] at h
    exact ⟨rfl, (good_len h.2).2.2⟩
theorem drawImp_ok {bs : List Nat} (hc : CodeOK bs) {k : Nat} (hk : 1000500 ≤ k) : ∃ p a b, c87 k (encB bs) = r87 p.wide p.vars (encT p.start) (encCms p.cmds) (encT a) (encT b) ∧ FitP p ∧ a.length ≤ 48 ∧ b.length ≤ 48 := by
  obtain ⟨k, rfl⟩ : ∃ j, k = j + 1 := ⟨k - 1, by omega⟩
  rw [n87]
  obtain ⟨a2, s2, p, h, h2, h3, h4⟩ := small_ok hc (k := k) (by omega) (at' := 0) (by omega) (by omega) 0#64
  have h' : c105 k (encB bs) 0 0 = _ := h
  rw [h']
  simp only [R105_r]
  have hw := h4.w
  have hv := h4.v
  obtain ⟨a3, s3, a, h, h5, h6, h7⟩ := askedOf_ok hc (k := k) (by omega) (wide := p.wide) (vars := p.vars) (by omega) (by omega) (encT p.start) (encCms p.cmds) (d := 1) (by omega) (by omega) (at' := a2) (by omega) (by omega) s2
  rw [h]
  simp only [R163_r]
  obtain ⟨a4, s4, b, h, h9, h10, h11⟩ := askedOf_ok hc (k := k) (by omega) (wide := p.wide) (vars := p.vars) (by omega) (by omega) (encT p.start) (encCms p.cmds) (d := 1) (by omega) (by omega) (at' := a3) (by omega) (by omega) s3
  rw [h]
  simp only [R163_r]
  obtain ⟨hj, hjl⟩ := joinR_len p.wide p.vars 17 a b
  rw [joinTermsS_ok (by omega) _ _ _ a b (by omega) (by omega), hj]
  simp only [R208_r]
  cases hq : joinOK p.wide p.vars 17 a b
  · exact ⟨p, a, b, rfl, h4, by omega, by omega⟩
  · obtain ⟨a5, s5, q, h, h12, h13⟩ := one_ok hc (k := k) (by omega) (at' := a4) (by omega) (by omega) s4 3
    rw [hq] at hjl
    simp only [cond_true] at hjl ⊢
    rw [h]
    simp only [R145_r]
    cases q
    · exact ⟨p, a, b, rfl, h4, by omega, by omega⟩
    · exact ⟨p, joinT 17 a b, a, rfl, h4, hjl, by omega⟩
theorem foldS_some {wide vars : Int} {t : List Nd} (ht : t.length ≤ 100) : ∃ u q, u.length ≤ 48 ∧ ∀ k, 1000500 ≤ k → c209 k wide vars (encT t) = r209 (encT u) q := by
  cases hg : goodT wide vars t
  · refine ⟨[], false, by simp, fun k hk => ?_⟩
    have := foldS_ok (k := k) hk (wide := wide) (vars := vars) (t := t) (u := []) ht (fun h => by rw [hg] at h; cases h)
    rw [hg] at this
    exact this
  · obtain ⟨hw, hv, hl⟩ := good_len hg
    obtain ⟨T, hT, hok, hkd⟩ := good_tree hg
    have hp := T.flat_pos
    have hTl : T.flat.length = t.length := by rw [hT]
    have flen := Tr.fold_len wide T
    refine ⟨(T.fold wide).flat, true, by omega, fun k hk => ?_⟩
    have := foldS_ok (k := k) hk (wide := wide) (vars := vars) (t := t) (u := (T.fold wide).flat) ht (fun _ k hk => by
      have := l2Fold_tree hw hv T t [] [] k hok (by simp [hT]) (by omega) (by omega)
      rw [i64_id (by omega) (by omega), show (t.length : Int) - 1 = ((([] : List Nd).length + T.flat.length - 1 : Nat) : Int) by simp; omega]
      exact this)
    rw [hg] at this
    exact this
theorem drawSame_ok {bs : List Nat} (hc : CodeOK bs) {k : Nat} (hk : 1000600 ≤ k) : ∃ p a b, c89 k (encB bs) = r89 p.wide p.vars (encT p.start) (encCms p.cmds) (encT a) (encT b) ∧ FitP p ∧ a.length ≤ 48 ∧ b.length ≤ 48 := by
  obtain ⟨k, rfl⟩ : ∃ j, k = j + 1 := ⟨k - 1, by omega⟩
  rw [n89]
  obtain ⟨a2, s2, p, h, h2, h3, h4⟩ := small_ok hc (k := k) (by omega) (at' := 0) (by omega) (by omega) 0#64
  have h' : c105 k (encB bs) 0 0 = _ := h
  rw [h']
  simp only [R105_r]
  have hw := h4.w
  have hv := h4.v
  obtain ⟨a3, s3, a, h, h5, h6, h7⟩ := askedOf_ok hc (k := k) (by omega) (wide := p.wide) (vars := p.vars) (by omega) (by omega) (encT p.start) (encCms p.cmds) (d := 1) (by omega) (by omega) (at' := a2) (by omega) (by omega) s2
  rw [h]
  simp only [R163_r]
  obtain ⟨u, q, hul, hu⟩ := foldS_some (wide := p.wide) (vars := p.vars) (t := a) (by omega)
  rw [hu k (by omega)]
  simp only [R209_r]
  have more : ∀ (at1 : Int) (s1 : W), 0 ≤ at1 → at1 ≤ 400000000 → ∃ a4 s4 b, c163 k p.wide p.vars (encT p.start) (encCms p.cmds) 1 (encB bs) at1 (wi s1) = r163 (encB bs) a4 (wi s4) (encT b) ∧ b.length ≤ 31 := by
    intro at1 s1 h0 h1
    obtain ⟨a4, s4, b, h, _, _, h11⟩ := askedOf_ok hc (k := k) (by omega) (wide := p.wide) (vars := p.vars) (by omega) (by omega) (encT p.start) (encCms p.cmds) (d := 1) (by omega) (by omega) (at' := at1) (by omega) (by omega) s1
    exact ⟨a4, s4, b, h, h11⟩
  cases q
  · obtain ⟨a4, s4, b, h, h11⟩ := more a3 s3 (by omega) (by omega)
    simp only [cond_false]
    rw [h]
    simp only [R163_r]
    exact ⟨p, a, b, rfl, h4, by omega, by omega⟩
  · obtain ⟨a5, s5, q, h, h12, h13⟩ := one_ok hc (k := k) (by omega) (at' := a3) (by omega) (by omega) s3 2
    simp only [cond_true]
    rw [h]
    simp only [R145_r]
    cases q
    · obtain ⟨a4, s4, b, h, h11⟩ := more a5 s5 (by omega) (by omega)
      simp only [cond_false]
      rw [h]
      simp only [R163_r]
      exact ⟨p, a, b, rfl, h4, by omega, by omega⟩
    · exact ⟨p, a, u, rfl, h4, by omega, hul⟩

/-! ### The plain law -/
theorem if_hold {p : Prg} (hp : FitP p) (hs : smallP p = true) {k1 : Int} {t : List Nd} (ha : askOK p k1 t = true) (ho : ifOK p (cmdAt p k1) t = true) {no : Int} (hi : inS p no) :
    hN p (ifT p (cmdAt p k1) t) no = (!hN p (cmdAt p k1).wh no || hN p t (toN p (cmdAt p k1) no)) := by
  obtain ⟨hw, hv, hn, hkt, hf, hkw, hx⟩ := ask_cmd hp ha
  obtain ⟨h1, h2⟩ := (stOK_of hw).1 (sto_ok hs hi)
  have ho1 : oneOK p (cmdAt p k1) t = true := by simp only [ifOK, Bool.and_eq_true] at ho; exact ho.1
  obtain ⟨v, h3, h4, h5, _, _⟩ := one_law hp ha ho1 h1 h2
  have h6 := if_law hp ha ho1 h1 h2 h3 h5
  have e1 : hN p (ifT p (cmdAt p k1) t) no = ((bif holdC p (cmdAt p k1) (sto p no) then v else 1#64) == 1#64) := by
    unfold hN holdT
    rw [valD_of h6]
  have e2 : hN p t (toN p (cmdAt p k1) no) = (v == 1#64) := by
    unfold hN holdT
    rw [(toN_ok hp hs hn hi).2.2]
    unfold aft
    rw [valD_of h4]
  have e3 : hN p (cmdAt p k1).wh no = holdC p (cmdAt p k1) (sto p no) := rfl
  rw [e1, e2, e3]
  cases holdC p (cmdAt p k1) (sto p no) <;> simp
theorem all_afL (p : Prg) (c : Cmd) (f : Int → Bool) : ∀ (l : List Int), (afL p c l).all f = l.all fun x => !hN p c.wh x || f (toN p c x)
  | [] => rfl
  | x :: l => by
    simp only [afL, List.all_append, List.all_cons, all_afL p c f l]
    cases hN p c.wh x <;> simp
theorem leads_imp {p : Prg} (hp : FitP p) (hs : smallP p = true) {k1 : Int} {a b : List Nd} (ha : askOK p k1 b = true) (ho : ifOK p (cmdAt p k1) b = true) : impB p a (ifT p (cmdAt p k1) b) = leadsB p (cmdAt p k1) a b := by
  unfold impB leadsB
  rw [canI_all, all_afL]
  rw [Bool.eq_iff_iff]
  simp only [List.all_eq_true]
  constructor
  · intro h x hx
    rw [← if_hold hp hs ha ho (whI_in a x hx)]
    exact h x hx
  · intro h x hx
    rw [if_hold hp hs ha ho (whI_in a x hx)]
    exact h x hx
theorem same_both {p : Prg} {a b : List Nd} : sameB p a b = (impB p a b && impB p b a) := by
  rw [Bool.eq_iff_iff]
  simp only [sameB, impB, decide_eq_true_eq, Bool.and_eq_true, List.all_eq_true]
  constructor
  · intro h
    refine ⟨fun x hx => ?_, fun x hx => ?_⟩
    · rw [h] at hx; exact ((whI_mem p b x).1 hx).2
    · rw [← h] at hx; exact ((whI_mem p a x).1 hx).2
  · rintro ⟨h1, h2⟩
    refine lt_ext (whN_lt p a _ _) (whN_lt p b _ _) fun x => ?_
    constructor
    · intro hx; exact (whI_mem p b x).2 ⟨whI_in a x hx, h1 x hx⟩
    · intro hx; exact (whI_mem p a x).2 ⟨whI_in b x hx, h2 x hx⟩
/-! ### The law -/
theorem hoare_end {k : Nat} (hk : 1001000 ≤ k) {more : List Nat} (hm : CodeOK more) : (R84 (c84 k (encB more)) fun v4 v5 l6 l7 v6 l8 =>
            R85 (c85 k v4 v5 l6 l7 v6 l8) fun l9 b15 =>
            R86 (c86 k v4 v5 l6 l7 v6 l8) fun l10 b16 =>
            R87 (c87 k (encB more)) fun v7 v8 l11 l12 l13 l14 =>
            R82 (c82 k v7 v8 l11 l12 l13 l14) fun b17 b18 =>
            R88 (c88 k v7 v8 l11 l12 l13 l14) fun b19 b20 =>
            R89 (c89 k (encB more)) fun v9 v10 l15 l16 l17 l18 =>
            R83 (c83 k v9 v10 l15 l16 l17 l18) fun b21 b22 =>
            R90 (c90 k v9 v10 l15 l16 l17 l18) fun b23 b24 =>
            bif (b15 == b16) then
            R16 (c16 k l9 l10) fun b25 =>
            bif b25 then
            bif (b18 == b20) then
            bif (b17 == b19) then
            bif (b22 == b24) then
            r9 (b21 == b23)
            else r9 false
            else r9 false
            else r9 false
            else r9 false
            else r9 false) = r9 true := by
  obtain ⟨p, k1, l, h, hp, hl⟩ := drawAfter_ok hm (k := k) (by omega)
  rw [h]
  simp only [R84_r]
  rw [aftI_ok (by omega) p hp k1 l (by omega), aftS_ok (by omega) p hp k1 l (by omega)]
  simp only [R85_r, R86_r]
  obtain ⟨q, a, b, h, hq, ha, hb⟩ := drawImp_ok hm (k := k) (by omega)
  rw [h]
  simp only [R87_r]
  rw [impI_ok (by omega) q hq a b (by omega) (by omega), impS_ok (by omega) q hq a b (by omega) (by omega)]
  simp only [R82_r, R88_r]
  obtain ⟨u, c, d, h, hu, hc, hd⟩ := drawSame_ok hm (k := k) (by omega)
  rw [h]
  simp only [R89_r]
  rw [sameInI_ok (by omega) u hu c d (by omega) (by omega), sameInS_ok (by omega) u hu c d (by omega) (by omega)]
  simp only [R83_r, R90_r, beq_self_eq_true, cond_true]
  have hlen : (aftT p k1 l).length ≤ 1000 := by
    unfold aftT
    have h1 := canI_len (afL p (cmdAt p k1) l)
    have h2 := afL_len p (cmdAt p k1) l
    cases aftOK p k1 l
    · simp
    · simp only [cond_true]; omega
  rw [sameI_ok (by omega) _ (by omega)]
  simp only [R16_r, cond_true]
theorem twoC_ask {p : Prg} {k1 : Int} {a b : List Nd} (h : leadsOK p k1 a b = true) : askOK p k1 b = true ∧ smallP p = true ∧ cnoOK p k1 = true ∧ twoC p a b = true ∧ twoC p b a = true := by
  simp only [leadsOK, Bool.and_eq_true] at h
  obtain ⟨hs, h1, h2⟩ := twoC_get h.1
  refine ⟨?_, hs, h.2, h.1, ?_⟩
  · simp [askOK, small_good hs, h.2, h2]
  · simp [twoC, hs, h1, h2]
theorem hoare_true {k : Nat} (hk : 1048700 ≤ k) (code more : List Nat) (hc : ∀ b ∈ code, b < 256) (hm : ∀ b ∈ more, b < 256) : c9 k (encB code) (encB more) = r9 true := by
  obtain ⟨k, rfl⟩ : ∃ j, k = j + 1 := ⟨k - 1, by omega⟩
  rw [n9, big_ok (by omega)]
  simp only [R12_r]
  cases hbig : (decide (code.length > 1048576) || decide (more.length + code.length > 1048576))
  · simp only [cond_false]
    rw [Bool.or_eq_false_iff] at hbig
    have hl : code.length ≤ 1048576 ∧ more.length ≤ 1048576 := by
      have h1 := hbig.1
      have h2 := hbig.2
      simp at h1 h2
      omega
    have hcc : CodeOK code := ⟨hl.1, hc⟩
    have hmm : CodeOK more := ⟨hl.2, hm⟩
    have hend := hoare_end (k := k) (by omega) hmm
    generalize (R84 (c84 k (encB more)) fun v4 v5 l6 l7 v6 l8 =>
            R85 (c85 k v4 v5 l6 l7 v6 l8) fun l9 b15 =>
            R86 (c86 k v4 v5 l6 l7 v6 l8) fun l10 b16 =>
            R87 (c87 k (encB more)) fun v7 v8 l11 l12 l13 l14 =>
            R82 (c82 k v7 v8 l11 l12 l13 l14) fun b17 b18 =>
            R88 (c88 k v7 v8 l11 l12 l13 l14) fun b19 b20 =>
            R89 (c89 k (encB more)) fun v9 v10 l15 l16 l17 l18 =>
            R83 (c83 k v9 v10 l15 l16 l17 l18) fun b21 b22 =>
            R90 (c90 k v9 v10 l15 l16 l17 l18) fun b23 b24 =>
            bif (b15 == b16) then
            R16 (c16 k l9 l10) fun b25 =>
            bif b25 then
            bif (b18 == b20) then
            bif (b17 == b19) then
            bif (b22 == b24) then
            r9 (b21 == b23)
            else r9 false
            else r9 false
            else r9 false
            else r9 false
            else r9 false) = E at hend ⊢
    subst hend
    obtain ⟨p, k1, a, b, h, hp, ha, hb⟩ := drawLeads_ok hcc (k := k) (by omega)
    rw [h]
    simp only [R79_r]
    rw [leadsI_ok (by omega) p hp k1 a b (by omega) (by omega), leadsS_ok (by omega) p hp k1 a b (by omega) (by omega)]
    simp only [R80_r, R81_r, beq_self_eq_true, Bool.not_true, cond_false]
    cases hlo : leadsOK p k1 a b
    · rfl
    · obtain ⟨hask, hs, hn, ht1, ht2⟩ := twoC_ask hlo
      simp only [cond_true, Bool.true_and]
      rw [BeforeIfI_ok (by omega) p hp k1 b (by omega)]
      simp only [R67_r]
      rw [impI_ok (by omega) p hp a b (by omega) (by omega), impI_ok (by omega) p hp b a (by omega) (by omega), sameInI_ok (by omega) p hp a b (by omega) (by omega)]
      simp only [R82_r, R83_r, ht1, ht2, Bool.true_and, Bool.not_true, cond_false, same_both]
      have e2 : b2OK p k1 b = ifOK p (cmdAt p k1) b := by simp [b2OK, hask]
      have e3 : b2T p k1 b = ifR p (cmdAt p k1) b := by simp [b2T, hask]
      rw [e2, e3]
      cases hif : ifOK p (cmdAt p k1) b
      · have hle : ∃ z, c82 k p.wide p.vars (encT p.start) (encCms p.cmds) (encT a) (encT (ifR p (cmdAt p k1) b)) = z := ⟨_, rfl⟩
        have e4 : ifR p (cmdAt p k1) b = [] := by unfold ifR; rw [hif]; rfl
        rw [e4, impI_ok (by omega) p hp a [] (by omega) (by simp)]
        simp only [R82_r, cond_false]
        cases impB p a b <;> cases impB p b a <;> rfl
      · have e4 : ifR p (cmdAt p k1) b = ifT p (cmdAt p k1) b := by unfold ifR; rw [hif]; rfl
        have hgt : goodT p.wide p.vars (ifT p (cmdAt p k1) b) = true := by simp only [ifOK, Bool.and_eq_true] at hif; exact hif.2
        have hln := (good_len hgt).2.2
        have hkd : kindT p.wide p.vars (ifT p (cmdAt p k1) b) = 2 := by
          have h1 := good_kst hgt
          obtain ⟨s, hs'⟩ := kst_last (x := (18, 0#64)) (t := (cmdAt p k1).wh ++ [(19, 0#64)] ++ oneT p (cmdAt p k1) b) h1.1
          injection hs' with h3 h4
        have htw : twoC p a (ifT p (cmdAt p k1) b) = true := by
          obtain ⟨_, h1, _⟩ := twoC_get ht1
          simp [twoC, hs, h1, hkd]
        rw [e4, impI_ok (by omega) p hp a _ (by omega) (by omega), htw, leads_imp hp hs hask hif]
        simp only [R82_r, cond_true, Bool.true_and, Bool.not_true, cond_false, beq_self_eq_true]
        cases impB p a b <;> cases impB p b a <;> rfl
  · rfl
theorem lawFnHoare (code more : List Int) (hc : ∀ n ∈ code, (Lit.int .u8 n).wf = true) (hm : ∀ n ∈ more, (Lit.int .u8 n).wf = true) : Contract Tryz.prog 9 (([.row 0 0 (ints .u8 code), .row 0 0 (ints .u8 more)] : List PV).map .p) [] ([.c (.p (.bool true))], []) := by
  obtain ⟨e1, h1⟩ := ints_encB code hc
  obtain ⟨e2, h2⟩ := ints_encB more hm
  rw [e1, e2]
  exact evF_sound envOK pOK (T := T) hT 1048700 (hoare_true (k := 1048700) (Nat.le_refl _) _ _ h1 h2)
end Go.Proofs.YtclkgblckicabaaGreat
/- The law FnHoare of the program: for all arguments it returns true, and its arguments read as they did. -/
namespace Go.Proofs.YtclkgblckicabaaGreat.fnHoare
open Go.ChangeShapes Go.WideShapes Go.ChangeAt Go.RowKit Go.Dp
open Go.ChangeMaps (open_string shut_string)
set_option linter.unusedVariables false
theorem own : ownKnob Tryz.prog.godebug = none := by kernel_rfl
theorem laidOut : laidOutB Tryz.prog = true := by kernel_rfl
theorem spot_none {P : Program} {w : World} {r : Reach} {base : Nat} {t e : TypeId} {x : Addr} {len cap : Nat} (ht : P.underlying t = some (.slice e)) (h : Value.okWide P w r base t (.slice (some x) len cap)) : x.spot = none := by
  simp only [Value.okWide, ht, Cell.okWide, Cell.ok] at h
  exact h.2.2.2.1
set_option maxRecDepth 100000 in
theorem lifted (os : Os) (started : os.Started) (H : Type) (enc : TypeId × Value → H) :
    ReturnsInHanded {} Tryz.checked os 9 .any (Rows.fnHoareSpec.pre6 enc Tryz.prog Tryz.f9 Rows.fnHoareRow.domain false) (Rows.fnHoareSpec.post enc Tryz.prog Tryz.f9 false true false false) := by
  refine returnsInHanded_of_change_sized (C := Tryz.checked) own started (by kernel_rfl) Tryz.func9
    (ChangeSpec.witness6 (enc := enc) (C := Tryz.checked) false ⟨#[], #[.slice none 0 0, .slice none 0 0], []⟩ 8 (by kernel_rfl) (by kernel_rfl) (by kernel_rfl) (by kernel_rfl)) ?_
  intro W base args ds gs before hval0 hW hcnd hsz0 _
  have hval : ∀ (j : Nat) t v, Tryz.f9.params[j]? = some t → args[j]? = some v → Value.okWide Tryz.prog W .any base t v := hval0
  have hW' := hW
  obtain ⟨p, q, hA0, hV, rfl, hfz, hnd⟩ := hW
  have hA : DataW.TrodAll enc Tryz.prog W 0 (fun _ => true) true Tryz.f9.params.toList args.toList ds p := hA0
  rw [Tryz.params9] at hA hval
  obtain ⟨v0, vs0, d0, ds0, p0, q0, hargs, rfl, rfl, h0, r0⟩ := trodAll_cons hA
  obtain ⟨v1, vs1, d1, ds1, p1, q1, rfl, rfl, rfl, h1, r1⟩ := trodAll_cons r0
  obtain ⟨rfl, rfl, rfl⟩ := trodAll_nil r1
  obtain rfl : args = #[v0, v1] := by cases args; simp_all
  obtain ⟨rfl, rfl⟩ := trodVars_none hV
  have o0 := hval 0 22 v0 rfl rfl
  obtain ⟨a0, len0, cap0, rfl⟩ := okWide_slice Tryz.underlying22 o0
  have k0 := h0
  have lt0 : ∀ x ∈ p0, x.block < W.heap.size := by obtain ⟨m, hm⟩ := k0; exact DataW.trod_lt m _ _ _ hm
  obtain ⟨z0, w0⟩ : ∃ zs, IsRow .u8 W a0 len0 cap0 zs := by
    obtain ⟨fuel, hf⟩ := h0
    rcases open_ints Tryz.underlying22 Tryz.underlying5 (by kernel_rfl) hf with ⟨hcs, _⟩ | ⟨x, l, c, zs, hcs, _, hl, hm, hz, _, hcell, hwz⟩
    · simp [Value.cells] at hcs
      obtain ⟨rfl, rfl, rfl⟩ := hcs
      exact ⟨[], .inl ⟨rfl, rfl, rfl, rfl⟩⟩
    · simp [Value.cells] at hcs
      obtain ⟨rfl, rfl, rfl⟩ := hcs
      exact ⟨zs, .inr ⟨_, rfl, spot_none Tryz.underlying22 o0, hl, hm, by simpa using hz, hcell, hwz⟩⟩
  have o1 := hval 1 22 v1 rfl rfl
  obtain ⟨a1, len1, cap1, rfl⟩ := okWide_slice Tryz.underlying22 o1
  have k1 := h1
  have lt1 : ∀ x ∈ p1, x.block < W.heap.size := by obtain ⟨m, hm⟩ := k1; exact DataW.trod_lt m _ _ _ hm
  obtain ⟨z1, w1⟩ : ∃ zs, IsRow .u8 W a1 len1 cap1 zs := by
    obtain ⟨fuel, hf⟩ := h1
    rcases open_ints Tryz.underlying22 Tryz.underlying5 (by kernel_rfl) hf with ⟨hcs, _⟩ | ⟨x, l, c, zs, hcs, _, hl, hm, hz, _, hcell, hwz⟩
    · simp [Value.cells] at hcs
      obtain ⟨rfl, rfl, rfl⟩ := hcs
      exact ⟨[], .inl ⟨rfl, rfl, rfl, rfl⟩⟩
    · simp [Value.cells] at hcs
      obtain ⟨rfl, rfl, rfl⟩ := hcs
      exact ⟨zs, .inr ⟨_, rfl, spot_none Tryz.underlying22 o1, hl, hm, by simpa using hz, hcell, hwz⟩⟩
  clear hA0 hval0 hsz0
  refine (law_walk (P := Tryz.prog) (f := 9) (vs := [.row 0 0 (ints .u8 (z0.take len0)), .row 0 0 (ints .u8 (z1.take len1))]) (ys := [.slice a0 len0 cap0, .slice a1 len1 cap1]) rfl ?_ (lawFnHoare (z0.take len0) (z1.take len1) (fun n hn => w0.wf n (List.mem_of_mem_take hn)) (fun n hn => w1.wf n (List.mem_of_mem_take hn)))).mono fun e W' ⟨he, bel⟩ => ?_
  · intro i a y ha hy
    cases i with
    | zero => simp at ha hy; subst ha; subst hy; exact w0.rp
    | succ i =>
      cases i with
      | zero => simp at ha hy; subst ha; subst hy; exact w1.rp
      | succ i =>
        simp at ha
  subst he
  exact ⟨_, rfl, _, _, _, [], _, [], hW', trodAll_mk1 (shut_bool Tryz.underlying4 _), (trodAll_cons_mk (Below.trod laidOut (by kernel_rfl) (of_decide_eq_true (by kernel_rfl)) k0 bel lt0) (trodAll_cons_mk (Below.trod laidOut (by kernel_rfl) (of_decide_eq_true (by kernel_rfl)) k1 bel lt1) trodAll_mk0)), rfl, bel.frame _, fun h => by cases h⟩
theorem named : Tryz.pinned.checked.prog.funcNamed Rows.fnHoareRow.func = some 9 := by kernel_rfl
theorem closed : joinedFacts Tryz.pinned.checked.prog 9 Tryz.f9 Rows.fnHoareSpec Rows.fnHoareRow = true := by kernel_rfl
theorem inst : Tryz.f9.isInstance Tryz.pinned.checked.prog Rows.fnHoareRow.origin Rows.fnHoareRow.targs := of_decide_eq_true (by kernel_rfl)
theorem wrap : Tryz.f9.isWrapper Tryz.pinned.checked.prog Rows.fnHoareRow.wrapper Rows.fnHoareRow.mainSum := by unfold Func.isWrapper; first | (rw [if_pos (by decide +kernel)]; kernel_rfl) | (rw [if_neg (by decide +kernel)]; exact ⟨rfl, rfl⟩)
theorem over : Rows.fnHoareRow.holds Tryz.pinned (OpenSpec.ofChange Rows.fnHoareSpec) :=
  OpenClaim.holds_of_wide 9 Tryz.f9 rfl rfl rfl rfl rfl rfl rfl ⟨rfl, rfl, rfl, rfl, rfl⟩ rfl rfl rfl rfl rfl named Tryz.func9 closed inst wrap
    (fun os started H enc _ => lifted os started H enc)
theorem proved : Rows.FnHoareSaid := over
end Go.Proofs.YtclkgblckicabaaGreat.fnHoare
namespace Go.Proofs.YtclkgblckicabaaGreat
/-- The row, under a short name, for the claim. -/
theorem fnHoare_holds : Rows.FnHoareSaid := fnHoare.proved
#print axioms fnHoare_holds
end Go.Proofs.YtclkgblckicabaaGreat
