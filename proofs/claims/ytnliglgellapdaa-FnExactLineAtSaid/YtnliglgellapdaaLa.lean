/- The line of a place in a text: what is counted, and what the reference counts. -/
import Derived.Test.YtnliglgellapdaaNf0
import Derived.Test.YtnliglgellapdaaRow0
set_option linter.unusedVariables false
set_option linter.unusedSimpArgs false
set_option maxRecDepth 4000
namespace Go.Proofs.Ytnliglgellapdaa
open Go.Dp

theorem wid {n : Int} (h1 : -9223372036854775808 ≤ n) (h2 : n ≤ 9223372036854775807) : IntKind.i64.wrap n = n := Go.IntWalk.i64_in n ⟨h1, h2⟩
def lstR (c : UInt8) : List UInt8 → Int
  | [] => -1
  | b :: r => if b = c then (r.length : Int) else lstR c r
def lst (c : UInt8) (l : List UInt8) : Int := lstR c l.reverse
theorem lst_snoc (c : UInt8) (l : List UInt8) (b : UInt8) : lst c (l ++ [b]) = if b = c then (l.length : Int) else lst c l := by simp [lst, lstR]
theorem lstR_le (c : UInt8) : ∀ l : List UInt8, -1 ≤ lstR c l ∧ lstR c l < l.length
  | [] => by simp [lstR]
  | b :: r => by
    have := lstR_le c r
    simp only [lstR, List.length_cons]
    split <;> omega
theorem lst_le (c : UInt8) (l : List UInt8) : -1 ≤ lst c l ∧ lst c l < l.length := by
  have := lstR_le c l.reverse
  simpa [lst] using this
def cnt (l : List UInt8) (c : UInt8) : Nat := Lib.countByte l c
theorem cnt_snoc (c : UInt8) (l : List UInt8) (b : UInt8) : cnt (l ++ [b]) c = cnt l c + if b = c then 1 else 0 := by
  simp only [cnt, Lib.countByte, List.count_append, List.count_singleton]
  by_cases h : b = c <;> simp [h]
theorem cnt_le (c : UInt8) (l : List UInt8) : cnt l c ≤ l.length := List.count_le_length
theorem byteAt_ok {s : ByteArray} {i : Nat} (h : i < s.data.toList.length) : byteAt s (i : Int) = some (s.data.toList[i].toNat : Int) := by
  have h1 : decide ((0 : Int) ≤ (i : Int)) = true := by simp
  unfold byteAt
  rw [h1, Int.toNat_natCast, List.getElem?_eq_getElem h]
  rfl
theorem u8_beq (a b : UInt8) : ((a.toNat : Int) == (b.toNat : Int)) = decide (a = b) := by
  rw [Bool.eq_iff_iff]
  simp only [beq_iff_eq, decide_eq_true_eq, ← UInt8.toNat_inj]
  omega
theorem last_loop {k : Nat} (s : ByteArray) (hs : s.data.toList.length ≤ 1048576) (c : UInt8) : ∀ (j n : Nat), j < n → j ≤ s.data.toList.length → L127_1 k n s (c.toNat : Int) ((j : Int) - 1) = r127 (lst c (s.data.toList.take j))
  | j, 0, h, hj => by omega
  | 0, n + 1, h, hj => by
    rw [sL127_1]
    rfl
  | j + 1, n + 1, h, hj => by
    rw [sL127_1]
    have e : ((j + 1 : Nat) : Int) - 1 = (j : Int) := by omega
    have hd : decide ((j : Int) ≥ 0) = true := by simp
    rw [e, hd, byteAt_ok (by omega), ← List.take_append_getElem (by omega), lst_snoc]
    simp only [cond_true, Option.bind_some, u8_beq]
    by_cases hb : s.data.toList[j] = c
    · have hl : (s.data.toList.take j).length = j := by rw [List.length_take]; omega
      simp only [hb, decide_true, cond_true, if_true, hl]
    · simp only [hb, decide_false, cond_false, if_false]
      rw [wid (by omega) (by omega)]
      exact last_loop s hs c j n (by omega) (by omega)
theorem lastIndex_ok {k : Nat} (hk : 1048600 ≤ k) (s : ByteArray) (hs : s.data.toList.length ≤ 1048576) : c56 k s ⟨#[10]⟩ = r56 (lst 10 s.data.toList) := by
  obtain ⟨k, rfl⟩ : ∃ j, k = j + 2 := ⟨k - 2, by omega⟩
  have e0 : (((⟨#[10]⟩ : ByteArray).size : Int) == 0) = false := rfl
  have e1 : (((⟨#[10]⟩ : ByteArray).size : Int) == 1) = true := rfl
  have e2 : byteAt ⟨#[10]⟩ 0 = some (((10 : UInt8).toNat : Nat) : Int) := rfl
  have hz : (s.size : Int) = (s.data.toList.length : Int) := rfl
  rw [n56, e0, e1, e2]
  simp only [cond_true, cond_false, Option.bind_some]
  rw [n127, hz, wid (by omega) (by omega)]
  have h := last_loop (k := k) s hs 10 s.data.toList.length k (by omega) (Nat.le_refl _)
  rw [h, List.take_length]
  simp only [R127_r]
theorem count_ok {k : Nat} (hk : 1 ≤ k) (s : ByteArray) : c55 k s ⟨#[10]⟩ = r55 (cnt s.data.toList 10 : Nat) := by
  obtain ⟨k, rfl⟩ : ∃ j, k = j + 1 := ⟨k - 1, by omega⟩
  exact n55 k s 10
theorem line_loop {k : Nat} (s : ByteArray) (hs : s.data.toList.length ≤ 1048576) (a : Nat) (ha : a ≤ s.data.toList.length) : ∀ (n i : Nat), a - i < n → i ≤ a →
    L9_1 k n s (a : Int) (1 + (cnt (s.data.toList.take i) 10 : Nat)) ((i : Int) - 1 - lst 10 (s.data.toList.take i)) (i : Int) = r9 (1 + (cnt (s.data.toList.take a) 10 : Nat)) ((a : Int) - 1 - lst 10 (s.data.toList.take a)) true
  | 0, i, h, hi => by omega
  | n + 1, i, h, hi => by
    rw [sL9_1]
    by_cases hlt : i < a
    · have hd : decide ((i : Int) < (a : Int)) = true := by simpa using hlt
      rw [hd, byteAt_ok (by omega)]
      have h1 := lst_le 10 (s.data.toList.take i)
      have h2 := cnt_le 10 (s.data.toList.take i)
      have hl : (s.data.toList.take i).length = i := by rw [List.length_take]; omega
      rw [hl] at h1 h2
      have ih := line_loop (k := k) s hs a ha n (i + 1) (by omega) (by omega)
      rw [← List.take_append_getElem (i := i) (by omega), lst_snoc, cnt_snoc, hl] at ih
      have hb10 : ((s.data.toList[i].toNat : Int) == 10) = decide (s.data.toList[i] = 10) := u8_beq _ 10
      simp only [cond_true, Option.bind_some]
      rw [hb10, wid (n := (i : Int) + 1) (by omega) (by omega)]
      by_cases hb : s.data.toList[i] = 10
      · simp only [hb, if_true] at ih
        simp only [hb, decide_true, cond_true]
        rw [wid (by omega) (by omega), ← ih]
        congr 1 <;> omega
      · simp only [hb, if_false] at ih
        simp only [hb, decide_false, cond_false]
        rw [wid (by omega) (by omega), ← ih]
        congr 1 <;> omega
    · have hd : decide ((i : Int) < (a : Int)) = false := by simpa using hlt
      obtain rfl : i = a := by omega
      rw [hd]
      rfl
def inL (s : ByteArray) (a : Int) : Bool := decide (0 ≤ a) && decide (a ≤ (s.data.toList.length : Int))
def lineV (s : ByteArray) (a : Int) : Int := 1 + (cnt (s.data.toList.take a.toNat) 10 : Nat)
def aheadV (s : ByteArray) (a : Int) : Int := a - 1 - lst 10 (s.data.toList.take a.toNat)
theorem spec_ok {k : Nat} (hk : 1048700 ≤ k) (s : ByteArray) (a : Int) : c9 k s a = bif decide ((s.data.toList.length : Int) > 6000) then r9 0 0 false else bif inL s a then r9 (lineV s a) (aheadV s a) true else r9 0 0 false := by
  obtain ⟨k, rfl⟩ : ∃ j, k = j + 2 := ⟨k - 2, by omega⟩
  have hz : (s.size : Int) = (s.data.toList.length : Int) := rfl
  rw [n9, n54, hz]
  cases h0 : decide ((s.data.toList.length : Int) > 6000)
  · simp only [cond_false]
    have h0 : s.data.toList.length ≤ 6000 := by simp at h0; omega
    unfold inL
    cases h1 : decide (0 ≤ a)
    · rfl
    · simp only [cond_true, R54_r, Bool.true_and]
      cases h2 : decide (a ≤ (s.data.toList.length : Int))
      · rfl
      · simp only [Bool.not_true, cond_false, cond_true]
        have h1 : 0 ≤ a := by simpa using h1
        have h2 : a ≤ (s.data.toList.length : Int) := by simpa using h2
        have h3 := line_loop (k := k + 1) s (by omega) a.toNat (by omega) (k + 1) 0 (by omega) (by omega)
        have e : ((a.toNat : Nat) : Int) = a := by omega
        rw [e] at h3
        exact h3
  · rfl
theorem impl_ok {k : Nat} (hk : 1048700 ≤ k) (s : ByteArray) (a : Int) : c10 k s a = bif decide ((s.data.toList.length : Int) > 6000) then r10 0 0 false else bif inL s a then r10 (lineV s a) (aheadV s a) true else r10 0 0 false := by
  obtain ⟨k, rfl⟩ : ∃ j, k = j + 1 := ⟨k - 1, by omega⟩
  have hz : (s.size : Int) = (s.data.toList.length : Int) := rfl
  rw [n10, hz]
  cases h0 : decide ((s.data.toList.length : Int) > 6000)
  · simp only [cond_false]
    have h0 : s.data.toList.length ≤ 6000 := by simp at h0; omega
    unfold inL
    by_cases h1 : 0 ≤ a
    · have d1 : decide (a < 0) = false := by simpa using h1
      have d1' : decide (0 ≤ a) = true := by simpa using h1
      by_cases h2 : a ≤ (s.data.toList.length : Int)
      · have d2 : decide (a > (s.data.toList.length : Int)) = false := by simpa using h2
        have d2' : decide (a ≤ (s.data.toList.length : Int)) = true := by simpa using h2
        rw [d1, d2, d1', d2']
        simp only [cond_false, Bool.and_self, cond_true]
        have e : (s.extract 0 a.toNat).data.toList = s.data.toList.take a.toNat := by simp
        have hl : (s.data.toList.take a.toNat).length = a.toNat := by rw [List.length_take]; omega
        rw [count_ok (by omega), lastIndex_ok (by omega) _ (by rw [e, hl]; omega), e]
        simp only [R55_r, R56_r]
        have h3 := lst_le 10 (s.data.toList.take a.toNat)
        have h4 := cnt_le 10 (s.data.toList.take a.toNat)
        rw [hl] at h3 h4
        rw [wid (by omega) (by omega), wid (n := a - lst 10 (s.data.toList.take a.toNat)) (by omega) (by omega), wid (by omega) (by omega)]
        unfold lineV aheadV
        congr 1 <;> omega
      · have d2 : decide (a > (s.data.toList.length : Int)) = true := by simp at h2 ⊢; omega
        have d2' : decide (a ≤ (s.data.toList.length : Int)) = false := by simp at h2 ⊢; omega
        rw [d1, d2, d2']
        simp
    · have d1 : decide (a < 0) = true := by simp; omega
      have d1' : decide (0 ≤ a) = false := by simp; omega
      rw [d1, d1']
      rfl
  · rfl
theorem lineAt_true {k : Nat} (hk : 1048800 ≤ k) (s : ByteArray) (a : Int) : c3 k s a = r3 true := by
  obtain ⟨k, rfl⟩ : ∃ j, k = j + 1 := ⟨k - 1, by omega⟩
  rw [n3, spec_ok (by omega), impl_ok (by omega)]
  cases decide ((s.size : Int) > 1048576)
  · simp only [cond_false]
    cases decide ((s.data.toList.length : Int) > 6000)
    · cases inL s a
      · simp
      · simp
    · simp
  · rfl
theorem lawFnExactLineAt (s : ByteArray) (a : Int) : Contract Try.prog 3 (([.str s, .int .i64 a] : List PV).map .p) [] ([.c (.p (.bool true))], []) :=
  evF_sound envOK pOK (T := T) hT 1048900 (lineAt_true (k := 1048900) (by omega) s a)
end Go.Proofs.Ytnliglgellapdaa
