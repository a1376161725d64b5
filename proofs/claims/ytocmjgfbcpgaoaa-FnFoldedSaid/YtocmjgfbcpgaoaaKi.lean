/- States, values, what is put for variables: the functions. -/
import Derived.Test.YtocmjgfbcpgaoaaKh
set_option linter.unusedVariables false
set_option linter.unusedSimpArgs false
set_option maxRecDepth 4000
namespace Go.Proofs.Ytocmjgfbcpgaoaa
open Go.Dp

def stateOK (wide vars : Int) (s : List W) : Bool := isW wide && isV vars && decide ((s.length : Int) = vars) && s.all (goodW wide)
theorem words_loop {k : Nat} (hk : 10 ≤ k) (l : List W) (hl : l.length ≤ 1000000) (wide : Int) : ∀ (n i : Nat), l.length - i < n → i ≤ l.length → ∃ v, L59_1 k n (encW l) (l.length : Int) (i : Int) wide = r59 wide v ∧ decide (v ≥ 0) = (l.drop i).any (fun a => !goodW wide a)
  | 0, i, h, hi => by omega
  | n + 1, i, h, hi => by
    obtain ⟨k, rfl⟩ : ∃ j, k = j + 1 := ⟨k - 1, by omega⟩
    rw [sL59_1]
    by_cases hlt : i < l.length
    · have hd : decide ((i : Int) < (l.length : Int)) = true := by simpa using hlt
      rw [hd, lookP_nat, encW_get, List.getElem?_eq_getElem hlt]
      simp only [cond_true, Option.map_some, Option.bind_some, int_atInt, n39, goodWord_ok (show 2 ≤ k by omega), R40_r, R39_r]
      rw [drop_cons hlt, List.any_cons]
      cases hne : goodW wide l[i]
      · simp only [Bool.not_false, cond_true, Bool.true_or]
        exact ⟨_, rfl, by simp⟩
      · simp only [Bool.not_true, cond_false, Bool.false_or]
        rw [i64_id (by omega) (by omega)]
        exact words_loop (k := k + 1) (by omega) l hl wide n (i + 1) (by omega) (by omega)
    · have hd : decide ((i : Int) < (l.length : Int)) = false := by simpa using hlt
      rw [hd, List.drop_eq_nil_of_le (by omega)]
      exact ⟨_, rfl, by simp⟩
theorem isState_ok {k : Nat} (hk : 1000020 ≤ k) (wide vars : Int) (s : List W) (hs : s.length ≤ 1000000) : c18 k wide vars (encW s) = r18 (stateOK wide vars s) := by
  obtain ⟨k, rfl⟩ : ∃ j, k = j + 3 := ⟨k - 3, by omega⟩
  rw [n18, isWide_ok (by omega), isVars_ok (by omega), n38, n59]
  simp only [R36_r, R37_r, encW_length]
  unfold stateOK
  cases h1 : isW wide
  · simp
  · cases h2 : isV vars
    · simp
    · simp only [cond_true, Bool.true_and]
      by_cases h3 : (s.length : Int) = vars
      · have h3' : ((s.length : Int) == vars) = true := by simpa using h3
        obtain ⟨v, h, hv⟩ := words_loop (k := k) (by omega) s hs wide k 0 (by omega) (by omega)
        have h' : L59_1 k k (encW s) (s.length : Int) 0 wide = r59 wide v := h
        rw [h3', h']
        simp only [cond_true, R59_r, R38_r, hv, List.drop_zero, h3, decide_true, Bool.true_and]
        congr 1
        rw [List.all_eq_not_any_not]
      · have h3' : ((s.length : Int) == vars) = false := by simpa using h3
        simp [h3', h3]
theorem valueOf_full {k : Nat} (hk : 1000200 ≤ k) (wide : Int) (t : List Nd) (ht : t.length ≤ 100000) (s : List W) (hs : s.length ≤ 1000000) (h1 : stateOK wide s.length s = true) (h2 : goodT wide s.length t = true) {v : W} (hv : vrun wide s t [] = some [v]) :
    c6 k wide (encT t) (encW s) = r6 (wi v) true := by
  obtain ⟨k, rfl⟩ : ∃ j, k = j + 1 := ⟨k - 1, by omega⟩
  have hw : isW wide = true := by simp only [stateOK, Bool.and_eq_true] at h1; exact h1.1.1.1
  rw [n6, encW_length, isState_ok (by omega) _ _ _ hs, goodTerm_ok (by omega) _ _ _ ht, h1, h2]
  simp only [R18_r, R19_r, Bool.not_true, cond_false]
  rw [valueOf_ok (by omega) hw s t ht hv]
  simp only [R20_r]
theorem same_loop {k : Nat} (a b : List Nd) (hl : a.length = b.length) (ha : a.length ≤ 1000000) : ∀ (n i : Nat), a.length - i < n → i ≤ a.length → L10_1 k n (encT a) (encT b) (a.length : Int) (i : Int) = r10 (decide (a.drop i = b.drop i))
  | 0, i, h, hi => by omega
  | n + 1, i, h, hi => by
    rw [sL10_1]
    by_cases hlt : i < a.length
    · have hd : decide ((i : Int) < (a.length : Int)) = true := by simpa using hlt
      have hltb : i < b.length := by omega
      rw [hd, lookT hlt, lookT hltb, drop_cons hlt, drop_cons hltb]
      simp only [cond_true, Option.bind_some, encN_shp, encN_op, encN_n, wi_beq, Bool.and_true]
      by_cases he : a[i] = b[i]
      · have e1 : (a[i].1 == b[i].1) = true := by simp [he]
        have e2 : (a[i].2 == b[i].2) = true := by simp [he]
        simp only [e1, e2, Bool.and_self, Bool.not_true, cond_false]
        rw [i64_id (by omega) (by omega)]
        rw [show (i : Int) + 1 = ((i + 1 : Nat) : Int) by omega, same_loop a b hl ha n (i + 1) (by omega) (by omega)]
        congr 1
        rw [decide_eq_decide, he]
        exact (List.cons_inj_right _).symm
      · have e1 : ((a[i].1 == b[i].1) && (a[i].2 == b[i].2)) = false := by
          rw [Bool.and_eq_false_iff]
          by_cases h1 : a[i].1 = b[i].1
          · right
            simp
            intro h2
            exact he (Prod.ext h1 h2)
          · left; simpa using h1
        rw [e1]
        have hn : ¬ (a[i] :: a.drop (i + 1) = b[i] :: b.drop (i + 1)) := fun h => he (List.cons.inj h).1
        simp only [Bool.not_false, cond_true, decide_eq_false hn]
    · have hd : decide ((i : Int) < (a.length : Int)) = false := by simpa using hlt
      rw [hd, List.drop_eq_nil_of_le (by omega), List.drop_eq_nil_of_le (by omega)]
      simp
theorem sameNodes_ok {k : Nat} (hk : 1000010 ≤ k) (a b : List Nd) (ha : a.length ≤ 1000000) : c10 k (encT a) (encT b) = r10 (decide (a = b)) := by
  obtain ⟨k, rfl⟩ : ∃ j, k = j + 1 := ⟨k - 1, by omega⟩
  rw [n10, encT_length, encT_length]
  by_cases h : a.length = b.length
  · have h' : ((a.length : Int) != (b.length : Int)) = false := by simp [h]
    rw [h']
    have := same_loop (k := k) a b h ha k 0 (by omega) (by omega)
    simpa using this
  · have h' : ((a.length : Int) != (b.length : Int)) = true := by simp; omega
    rw [h']
    have : a ≠ b := fun e => h (by rw [e])
    simp [this]

/-! ### Putting -/
def putT (by1 : List (List Nd)) : List Nd → List Nd
  | [] => []
  | x :: t => (if x.1 = 2 then (by1[x.2.toNat]?).getD [] else [x]) ++ putT by1 t
def byOK (wide vars : Int) (by1 : List (List Nd)) : Bool := by1.all fun b => kindT wide vars b == 1
def putOK (wide vars : Int) (t : List Nd) (by1 : List (List Nd)) : Bool := goodT wide vars t && decide ((by1.length : Int) = vars) && byOK wide vars by1
theorem putT_len {by1 : List (List Nd)} (hb : ∀ b ∈ by1, b.length ≤ 100) : ∀ t : List Nd, (putT by1 t).length ≤ 100 * t.length
  | [] => by simp [putT]
  | x :: t => by
    have ih := putT_len hb t
    simp only [putT, List.length_append, List.length_cons]
    split
    · cases h : by1[x.2.toNat]? with
      | none => simp; omega
      | some b => have := hb b (List.mem_of_getElem? h); simp; omega
    · simp; omega
theorem kst_leaf {wide vars : Int} : ∀ {t : List Nd} {st st' : List Int}, kst wide vars t st = some st' → ∀ x ∈ t, leafOK wide vars x = true
  | [], st, st', h => by simp
  | x :: t, st, st', h => by
    simp only [kst] at h
    split at h
    · cases h
    · split at h
      · cases h
      · rename_i h2
        split at h
        · cases h
        · split at h
          · cases h
          · intro y hy
            rcases List.mem_cons.1 hy with rfl | hy
            · simpa using h2
            · exact kst_leaf h y hy
theorem goodT_vars {wide vars : Int} {t : List Nd} (h : goodT wide vars t = true) : ∀ x ∈ t, x.1 = 2 → (x.2.toNat : Int) < vars := by
  obtain ⟨hs, c, hk, _⟩ := goodT_iff.1 h
  have hv : isV vars = true := by simp only [sizeT, Bool.and_eq_true] at hs; exact hs.1.1.2
  have hv' := isV_iff.1 hv
  intro x hx h2
  have := kst_leaf hk x hx
  simp [leafOK, h2] at this
  rw [u64_id (by omega) (by omega)] at this
  exact this
end Go.Proofs.Ytocmjgfbcpgaoaa
