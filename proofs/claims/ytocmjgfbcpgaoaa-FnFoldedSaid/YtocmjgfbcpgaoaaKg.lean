/- Kinds of terms, by the reference's text; kinds of good terms. -/
import Derived.Test.YtocmjgfbcpgaoaaKf
set_option linter.unusedVariables false
set_option linter.unusedSimpArgs false
set_option maxRecDepth 4000
namespace Go.Proofs.Ytocmjgfbcpgaoaa
open Go.Dp

def Pile (xs : List PV) (st : List Int) : Prop := xs.take st.length = encZ st.reverse
theorem Pile.nil (xs : List PV) : Pile xs [] := by simp [Pile, encZ]
theorem Pile.top {xs : List PV} {a : Int} {st : List Int} (h : Pile xs (a :: st)) : xs[st.length]? = some (.int .i64 a) ∧ Pile xs st := by
  unfold Pile at h ⊢
  have e : (a :: st).length = st.length + 1 := rfl
  rw [e] at h
  constructor
  · have h1 : (xs.take (st.length + 1))[st.length]? = xs[st.length]? := List.getElem?_take_of_lt (by omega)
    rw [← h1, h, encZ_get]
    simp
  · have h2 : (xs.take (st.length + 1)).take st.length = xs.take st.length := by rw [List.take_take]; congr 1; omega
    rw [← h2, h, encZ_take]
    simp
theorem Pile.push {xs : List PV} {st : List Int} (h : Pile xs st) (b : Int) : Pile (xs.take st.length ++ [PV.int .i64 b]) (b :: st) := by
  unfold Pile at h ⊢
  rw [h, encZ_snoc, encZ_take]
  rw [List.take_of_length_le (by simp)]
  simp
theorem pop_loop {k : Nat} (hk : 1000000 ≤ k) (wide vars : Int) (n1 : Nat) (t27 : List PV) (t28 : Int) (i : Nat) (hi : i ≤ 100000) (part own : Int) (xs : List PV) : ∀ (m n : Nat) (st : List Int), m < n → m ≤ st.length → st.length ≤ 100000 → Pile xs st →
    L47_2 k n1 n wide vars st.length (m : Int) part own t27 t28 (i : Int) xs = if (st.take m).any (· != part) then r47 0 else L47_1 k n1 wide vars (own :: st.drop m).length t27 t28 ((i + 1 : Nat) : Int) (xs.take (st.drop m).length ++ [PV.int .i64 own])
  | m, 0, st, hm, hs, hl, hp => by omega
  | 0, n + 1, st, hm, hs, hl, hp => by
    rw [sL47_2]
    have hd : decide (((0 : Nat) : Int) > 0) = false := rfl
    rw [hd]
    simp only [cond_false, List.take_zero, List.any_nil, Bool.false_eq_true, if_false, List.drop_zero]
    rw [lim_ok (by omega) (by omega), i64_id (by omega) (by omega)]
    simp only [cond_true]
    rfl
  | m + 1, n + 1, st, hm, hs, hl, hp => by
    rw [sL47_2]
    have hd : decide (((m + 1 : Nat) : Int) > 0) = true := by (simp; try omega)
    rw [hd]
    cases st with
    | nil => simp at hs
    | cons a st =>
      obtain ⟨hg, hp'⟩ := hp.top
      have e1 : IntKind.i64.wrap (((a :: st).length : Int) - 1) = (st.length : Int) := by
        simp only [List.length_cons] at hl ⊢
        rw [i64_id (by omega) (by omega)]; omega
      have e2 : IntKind.i64.wrap (((m + 1 : Nat) : Int) - 1) = (m : Int) := by rw [i64_id (by omega) (by simp at hs hl; omega)]; omega
      have e3 : (decide ((0 : Int) ≤ (st.length : Int)) && decide ((st.length : Int) < ((a :: st).length : Int))) = true := by simp; omega
      have e4 : (decide ((0 : Int) ≤ (st.length : Int)) && decide ((st.length : Int) ≤ ((a :: st).length : Int))) = true := by simp; omega
      rw [e1, e2, e3, e4]
      simp only [cond_true, Int.toNat_natCast, Nat.zero_add, hg, Option.bind_some, int_atInt, List.take_succ_cons, List.any_cons, List.drop_succ_cons]
      cases hne : (a != part)
      · simp only [cond_false, Bool.false_or]
        exact pop_loop hk wide vars n1 t27 t28 i hi part own xs m n st (by omega) (by simpa using hs) (by simp at hl; omega) hp'
      · simp
theorem kind_loop {k : Nat} (hk : 1000020 ≤ k) (wide vars : Int) (t : List Nd) (ht : t.length ≤ 100000) : ∀ (n i : Nat) (st : List Int) (xs : List PV), t.length - i < n → i ≤ t.length → st.length ≤ i → Pile xs st →
    L47_1 k n wide vars st.length (encT t) (t.length : Int) (i : Int) xs = r47 (kind1 (kst wide vars (t.drop i) st))
  | 0, i, st, xs, h, hi, hs, hp => by omega
  | n + 1, i, st, xs, h, hi, hs, hp => by
    rw [sL47_1]
    by_cases hlt : i < t.length
    · have hd : decide ((i : Int) < (t.length : Int)) = true := by simpa using hlt
      rw [hd, lookT hlt, drop_cons hlt]
      simp only [cond_true, Option.bind_some, encN_shp, encN_op, encN_n]
      rw [needS_ok (by omega), l2N_ok (by omega) wide vars t[i]]
      simp only [R49_r, kst]
      have hn2 := need_le t[i].1
      by_cases h1 : (need t[i].1).2.2 = 0
      · simp [h1, kind1]
      · have h1' : ((need t[i].1).2.2 == 0) = false := by simpa using h1
        simp only [h1', cond_false, h1, if_false, R67_r]
        cases h2 : leafOK wide vars t[i]
        · simp [kind1]
        · simp only [Bool.not_true, cond_false, Bool.true_eq_false, if_false]
          by_cases h3 : st.length < (need t[i].1).1
          · have h3' : decide ((st.length : Int) < ((need t[i].1).1 : Nat)) = true := by simpa using h3
            simp [h3', h3, kind1]
          · have h3' : decide ((st.length : Int) < ((need t[i].1).1 : Nat)) = false := by simp; omega
            rw [h3']
            simp only [cond_false, h3, if_false]
            rw [pop_loop (by omega) wide vars n _ _ i (by omega) _ _ xs _ k st (by omega) (by omega) (by omega) hp]
            cases h6 : (st.take (need t[i].1).1).any (· != (need t[i].1).2.1)
            · simp only [Bool.false_eq_true, if_false]
              have hpd : ∀ (m : Nat) (st : List Int), Pile xs st → Pile xs (st.drop m) := by
                intro m
                induction m with
                | zero => intro st h; simpa using h
                | succ m ih =>
                  intro st h
                  cases st with
                  | nil => simpa using h
                  | cons a st => simpa using ih st h.top.2
              refine kind_loop hk wide vars t ht n (i + 1) _ _ (by omega) (by omega) ?_ ((hpd _ st hp).push _)
              simp
              omega
            · simp [kind1]
    · have hd : decide ((i : Int) < (t.length : Int)) = false := by simpa using hlt
      rw [hd, List.drop_eq_nil_of_le (by omega)]
      simp only [cond_false, kst]
      rcases st with _ | ⟨a, _ | ⟨b, st⟩⟩
      · simp [kind1]
      · have := hp.top.1
        simp at this
        simp [kind1, this]
      · have : (((a :: b :: st).length : Int) != 1) = true := by simp; omega
        rw [this]
        simp [kind1]
theorem l2Kind_ok {k : Nat} (hk : 1000100 ≤ k) (wide vars : Int) (t : List Nd) (ht : t.length ≤ 100000) : c47 k wide vars (encT t) = r47 (kindT wide vars t) := by
  obtain ⟨k, rfl⟩ : ∃ j, k = j + 1 := ⟨k - 1, by omega⟩
  rw [n47, wideS_ok (by omega), in_ok (by omega), in_ok (by omega)]
  simp only [R65_r, R66_r, encT_length]
  unfold kindT sizeT
  cases h1 : isW wide
  · simp
  · have e : (decide (1 ≤ vars) && decide (vars ≤ 4)) = isV vars := rfl
    rw [e]
    cases h2 : isV vars
    · simp
    · have e2 : (decide ((1 : Int) ≤ (t.length : Int)) && decide ((t.length : Int) ≤ 48)) = (decide (1 ≤ t.length) && decide (t.length ≤ 48)) := by
        rw [Bool.eq_iff_iff]; simp; omega
      rw [e2]
      cases h3 : (decide (1 ≤ t.length) && decide (t.length ≤ 48))
      · rw [Bool.and_eq_false_iff] at h3
        rcases h3 with h3 | h3 <;> simp [h3]
      · rw [Bool.and_eq_true] at h3
        simp only [Bool.not_true, cond_false, h3.1, h3.2, Bool.and_self, if_true]
        have := kind_loop (k := k) (by omega) wide vars t ht k 0 [] [] (by omega) (by omega) (by simp) (Pile.nil _)
        simpa using this

/-! ### What the kinds are -/
theorem need_own (op : Int) : (need op).2.2 = 0 ∨ (need op).2.2 = 1 ∨ (need op).2.2 = 2 := by
  unfold need
  repeat' split
  all_goals simp
theorem kst_pos {wide vars : Int} : ∀ {t : List Nd} {st st' : List Int}, kst wide vars t st = some st' → (∀ a ∈ st, a = 1 ∨ a = 2) → ∀ a ∈ st', a = 1 ∨ a = 2
  | [], st, st', h, hs => by simp [kst] at h; subst h; exact hs
  | x :: t, st, st', h, hs => by
    simp only [kst] at h
    split at h
    · cases h
    · split at h
      · cases h
      · split at h
        · cases h
        · split at h
          · cases h
          · rename_i h1 _ _ _
            refine kst_pos h ?_
            intro a ha
            rcases List.mem_cons.1 ha with rfl | ha
            · rcases need_own x.1 with h | h | h
              · exact absurd h h1
              · exact .inl h
              · exact .inr h
            · exact hs a (List.mem_of_mem_drop ha)
theorem kst_app {wide vars : Int} : ∀ (t u : List Nd) (st : List Int), kst wide vars (t ++ u) st = (kst wide vars t st).bind (kst wide vars u)
  | [], u, st => rfl
  | x :: t, u, st => by
    simp only [List.cons_append, kst]
    split
    · rfl
    · split
      · rfl
      · split
        · rfl
        · split
          · rfl
          · exact kst_app t u _
theorem kst_last {wide vars : Int} {t : List Nd} {x : Nd} {st st' : List Int} (h : kst wide vars (t ++ [x]) st = some st') : ∃ s, st' = (need x.1).2.2 :: s := by
  rw [kst_app] at h
  obtain ⟨s, _, h⟩ := Option.bind_eq_some_iff.1 h
  simp only [kst] at h
  split at h
  · cases h
  · split at h
    · cases h
    · split at h
      · cases h
      · split at h
        · cases h
        · exact ⟨_, (Option.some.inj h).symm⟩
theorem goodT_iff {wide vars : Int} {t : List Nd} : goodT wide vars t = true ↔ sizeT wide vars t = true ∧ ∃ c, kst wide vars t [] = some [c] ∧ (c = 1 ∨ c = 2) := by
  unfold goodT
  rw [Bool.and_eq_true]
  constructor
  · rintro ⟨h1, h2⟩
    refine ⟨h1, ?_⟩
    cases h : kst wide vars t [] with
    | none => rw [h] at h2; cases h2
    | some st =>
      rw [h] at h2
      rcases st with _ | ⟨a, _ | ⟨b, st⟩⟩
      · cases h2
      · exact ⟨a, rfl, kst_pos h (by simp) a (by simp)⟩
      · cases h2
  · rintro ⟨h1, c, h2, _⟩
    exact ⟨h1, by rw [h2]; rfl⟩
theorem kindT_pos {wide vars : Int} {t : List Nd} : decide (kindT wide vars t > 0) = goodT wide vars t := by
  rw [Bool.eq_iff_iff, goodT_iff]
  unfold kindT
  constructor
  · intro h
    simp only [decide_eq_true_eq] at h
    split at h
    · rename_i hs
      refine ⟨hs, ?_⟩
      cases hk : kst wide vars t [] with
      | none => rw [hk] at h; simp [kind1] at h
      | some st =>
        rw [hk] at h
        rcases st with _ | ⟨a, _ | ⟨b, st⟩⟩
        · simp [kind1] at h
        · exact ⟨a, rfl, kst_pos hk (by simp) a (by simp)⟩
        · simp [kind1] at h
    · simp at h
  · rintro ⟨hs, c, hk, hc⟩
    simp [hs, hk, kind1]
    omega
theorem goodTermS_ok {k : Nat} (hk : 1000101 ≤ k) (wide vars : Int) (t : List Nd) (ht : t.length ≤ 100000) : c21 k wide vars (encT t) = r21 (goodT wide vars t) := by
  obtain ⟨k, rfl⟩ : ∃ j, k = j + 1 := ⟨k - 1, by omega⟩
  rw [n21, l2Kind_ok (by omega) _ _ _ ht]
  simp only [R47_r, kindT_pos]
theorem kindOf_ok {k : Nat} (hk : 2 ≤ k) (wide vars : Int) (t : List Nd) (ht : t.length ≤ 100000) (h : goodT wide vars t = true) : c27 k (encT t) = r27 (kindT wide vars t) := by
  obtain ⟨k, rfl⟩ : ∃ j, k = j + 1 := ⟨k - 1, by omega⟩
  obtain ⟨hs, c, hk', hc⟩ := goodT_iff.1 h
  have hl : 1 ≤ t.length := by simp [sizeT] at hs; omega
  have hlt : t.length - 1 < t.length := by omega
  rw [n27, encT_length, i64_id (by omega) (by omega)]
  have e : (t.length : Int) - 1 = ((t.length - 1 : Nat) : Int) := by omega
  rw [e, lookT hlt]
  simp only [Option.bind_some, encN_op]
  rw [operandsOf_ok (by omega)]
  simp only [R41_r]
  congr 1
  have e2 : t = t.take (t.length - 1) ++ [t[t.length - 1]] := by
    conv => lhs; rw [← List.take_append_drop (t.length - 1) t]
    rw [drop_cons hlt, List.drop_eq_nil_of_le (by omega)]
  rw [e2] at hk'
  obtain ⟨s, h3⟩ := kst_last hk'
  rw [← e2] at hk'
  injection h3 with h3 _
  simp [kindT, hs, hk', kind1, h3]
end Go.Proofs.Ytocmjgfbcpgaoaa
