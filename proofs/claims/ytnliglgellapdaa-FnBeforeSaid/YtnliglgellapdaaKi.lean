/- States, values, what is put for variables: the functions. -/
import Derived.Test.YtnliglgellapdaaKh
set_option linter.unusedVariables false
set_option linter.unusedSimpArgs false
set_option maxRecDepth 4000
namespace Go.Proofs.Ytnliglgellapdaa
open Go.Dp

def stateOK (wide vars : Int) (s : List W) : Bool := isW wide && isV vars && decide ((s.length : Int) = vars) && s.all (goodW wide)
theorem words_loop {k : Nat} (hk : 10 ≤ k) (l : List W) (hl : l.length ≤ 1000000) (wide : Int) : ∀ (n i : Nat), l.length - i < n → i ≤ l.length → ∃ v, L164_1 k n (encW l) (l.length : Int) (i : Int) wide = r164 wide v ∧ decide (v ≥ 0) = (l.drop i).any (fun a => !goodW wide a)
  | 0, i, h, hi => by omega
  | n + 1, i, h, hi => by
    obtain ⟨k, rfl⟩ : ∃ j, k = j + 1 := ⟨k - 1, by omega⟩
    rw [sL164_1]
    by_cases hlt : i < l.length
    · have hd : decide ((i : Int) < (l.length : Int)) = true := by simpa using hlt
      rw [hd, lookP_nat, encW_get, List.getElem?_eq_getElem hlt]
      simp only [cond_true, Option.map_some, Option.bind_some, int_atInt, n147, goodWord_ok (show 2 ≤ k by omega), R114_r, R147_r]
      rw [drop_cons hlt, List.any_cons]
      cases hne : goodW wide l[i]
      · simp only [Bool.not_false, cond_true, Bool.true_or]
        exact ⟨_, rfl, by simp⟩
      · simp only [Bool.not_true, cond_false, Bool.false_or]
        rw [i64_id (by omega) (by omega)]
        exact words_loop (k := k + 1) (by omega) l hl wide n (i + 1) (by omega) (by omega)
    · have hd : decide ((i : Int) < (l.length : Int)) = false := by simpa using hlt
      rw [hd, List.drop_eq_nil_of_le (by omega)]
      exact ⟨_, rfl, by simp⟩
theorem isState_ok {k : Nat} (hk : 1000020 ≤ k) (wide vars : Int) (s : List W) (hs : s.length ≤ 1000000) : c89 k wide vars (encW s) = r89 (stateOK wide vars s) := by
  obtain ⟨k, rfl⟩ : ∃ j, k = j + 3 := ⟨k - 3, by omega⟩
  rw [n89, isWide_ok (by omega), isVars_ok (by omega), n146, n164]
  simp only [R82_r, R83_r, encW_length]
  unfold stateOK
  cases h1 : isW wide
  · simp
  · cases h2 : isV vars
    · simp
    · simp only [cond_true, Bool.true_and]
      by_cases h3 : (s.length : Int) = vars
      · have h3' : ((s.length : Int) == vars) = true := by simpa using h3
        obtain ⟨v, h, hv⟩ := words_loop (k := k) (by omega) s hs wide k 0 (by omega) (by omega)
        have h' : L164_1 k k (encW s) (s.length : Int) 0 wide = r164 wide v := h
        rw [h3', h']
        simp only [cond_true, R164_r, R146_r, hv, List.drop_zero, h3, decide_true, Bool.true_and]
        congr 1
        rw [List.all_eq_not_any_not]
      · have h3' : ((s.length : Int) == vars) = false := by simpa using h3
        simp [h3', h3]
theorem valueOf_full {k : Nat} (hk : 1000200 ≤ k) (wide : Int) (t : List Nd) (ht : t.length ≤ 100000) (s : List W) (hs : s.length ≤ 1000000) (h1 : stateOK wide s.length s = true) (h2 : goodT wide s.length t = true) {v : W} (hv : vrun wide s t [] = some [v]) :
    c29 k wide (encT t) (encW s) = r29 (wi v) true := by
  obtain ⟨k, rfl⟩ : ∃ j, k = j + 1 := ⟨k - 1, by omega⟩
  have hw : isW wide = true := by simp only [stateOK, Bool.and_eq_true] at h1; exact h1.1.1.1
  rw [n29, encW_length, isState_ok (by omega) _ _ _ hs, goodTerm_ok (by omega) _ _ _ ht, h1, h2]
  simp only [R89_r, R25_r, Bool.not_true, cond_false]
  rw [valueOf_ok (by omega) hw s t ht hv]
  simp only [R90_r]
theorem cutTo_ok {k : Nat} (hk : 2 ≤ k) (wide : Int) (a : W) (h : isW wide = true) : c27 k wide (wi a) = r27 (wi (a &&& mk wide)) true := by
  obtain ⟨k, rfl⟩ : ∃ j, k = j + 1 := ⟨k - 1, by omega⟩
  rw [n27, isWide_ok (by omega), h]
  simp only [R82_r, Bool.not_true, cond_false]
  rw [mk_ok (by omega) h]
  simp only [R88_r, and_wi]
theorem number_loop {k : Nat} (hk : 1 ≤ k) {bs : List Nat} (hc : CodeOK bs) : ∀ (n i : Nat) (v : Int), bs.length - i < n → i ≤ bs.length → 0 ≤ v → v < 1000003 → ∃ r, L28_1 k n v (encB bs) (bs.length : Int) (i : Int) = r28 r ∧ 0 ≤ r ∧ r < 1000003
  | 0, i, v, h, hi, h0, h1 => by omega
  | n + 1, i, v, h, hi, h0, h1 => by
    have hl := hc.len
    rw [sL28_1]
    by_cases hlt : i < bs.length
    · have hd : decide ((i : Int) < (bs.length : Int)) = true := by simpa using hlt
      rw [hd, lookP_nat, encB_get, List.getElem?_eq_getElem hlt]
      have hb := hc.lt bs[i] (List.getElem_mem hlt)
      simp only [cond_true, Option.map_some, Option.bind_some, int_atInt]
      rw [i64_id (n := 31 * v) (by omega) (by omega), i64_id (n := (bs[i] : Int)) (by omega) (by omega), i64_id (n := 31 * v + (bs[i] : Int)) (by omega) (by omega), i64_id (n := (i : Int) + 1) (by omega) (by omega)]
      have h6 := Int.tmod_nonneg 1000003 (a := 31 * v + (bs[i] : Int)) (by omega)
      have h7 := Int.tmod_lt_of_pos (31 * v + (bs[i] : Int)) (b := 1000003) (by omega)
      exact number_loop hk hc n (i + 1) _ (by omega) (by omega) h6 h7
    · have hd : decide ((i : Int) < (bs.length : Int)) = false := by simpa using hlt
      rw [hd]
      exact ⟨v, rfl, h0, h1⟩
theorem numberOf_ok {k : Nat} (hk : 1048580 ≤ k) {bs : List Nat} (hc : CodeOK bs) : ∃ r, c28 k (encB bs) = r28 r ∧ 0 ≤ r ∧ r < 1000003 := by
  have hl := hc.len
  obtain ⟨k, rfl⟩ : ∃ j, k = j + 1 := ⟨k - 1, by omega⟩
  rw [n28, encB_length]
  exact number_loop (by omega) hc k 0 0 (by omega) (by omega) (by omega) (by omega)
theorem same_loop {k : Nat} (a b : List Nd) (hl : a.length = b.length) (ha : a.length ≤ 1000000) : ∀ (n i : Nat), a.length - i < n → i ≤ a.length → L24_1 k n (encT a) (encT b) (a.length : Int) (i : Int) = r24 (decide (a.drop i = b.drop i))
  | 0, i, h, hi => by omega
  | n + 1, i, h, hi => by
    rw [sL24_1]
    by_cases hlt : i < a.length
    · have hd : decide ((i : Int) < (a.length : Int)) = true := by simpa using hlt
      have hltb : i < b.length := by omega
      rw [hd, lookT hlt, lookT hltb, drop_cons hlt, drop_cons hltb]
      simp only [cond_true, Option.bind_some, encN_shp, encN_op, encN_n, wi_beq, Bool.and_true]
      by_cases he : a[i] = b[i]
      · have e1 : (a[i].1 == b[i].1) = true := by simp [he]
        have e2 : (a[i].2 == b[i].2) = true := by simp [he]
        simp only [e1, e2, Bool.and_self, Bool.not_true, cond_false]
        rw [i64_id (by omega) (by omega)]
        rw [show (i : Int) + 1 = ((i + 1 : Nat) : Int) by omega, same_loop a b hl ha n (i + 1) (by omega) (by omega)]
        congr 1
        rw [decide_eq_decide, he]
        exact (List.cons_inj_right _).symm
      · have e1 : ((a[i].1 == b[i].1) && (a[i].2 == b[i].2)) = false := by
          rw [Bool.and_eq_false_iff]
          by_cases h1 : a[i].1 = b[i].1
          · right
            simp
            intro h2
            exact he (Prod.ext h1 h2)
          · left; simpa using h1
        rw [e1]
        have hn : ¬ (a[i] :: a.drop (i + 1) = b[i] :: b.drop (i + 1)) := fun h => he (List.cons.inj h).1
        simp only [Bool.not_false, cond_true, decide_eq_false hn]
    · have hd : decide ((i : Int) < (a.length : Int)) = false := by simpa using hlt
      rw [hd, List.drop_eq_nil_of_le (by omega), List.drop_eq_nil_of_le (by omega)]
      simp
theorem sameNodes_ok {k : Nat} (hk : 1000010 ≤ k) (a b : List Nd) (ha : a.length ≤ 1000000) : c24 k (encT a) (encT b) = r24 (decide (a = b)) := by
  obtain ⟨k, rfl⟩ : ∃ j, k = j + 1 := ⟨k - 1, by omega⟩
  rw [n24, encT_length, encT_length]
  by_cases h : a.length = b.length
  · have h' : ((a.length : Int) != (b.length : Int)) = false := by simp [h]
    rw [h']
    have := same_loop (k := k) a b h ha k 0 (by omega) (by omega)
    simpa using this
  · have h' : ((a.length : Int) != (b.length : Int)) = true := by simp; omega
    rw [h']
    have : a ≠ b := fun e => h (by rw [e])
    simp [this]

/-! ### Putting -/
def putT (by1 : List (List Nd)) : List Nd → List Nd
  | [] => []
  | x :: t => (if x.1 = 2 then (by1[x.2.toNat]?).getD [] else [x]) ++ putT by1 t
def byOK (wide vars : Int) (by1 : List (List Nd)) : Bool := by1.all fun b => kindT wide vars b == 1
def putOK (wide vars : Int) (t : List Nd) (by1 : List (List Nd)) : Bool := goodT wide vars t && decide ((by1.length : Int) = vars) && byOK wide vars by1
theorem by_loop {k : Nat} (hk : 1000150 ≤ k) (wide vars : Int) (l : List (List Nd)) (hl : l.length ≤ 1000) (hb : ∀ b ∈ l, b.length ≤ 100) : ∀ (n i : Nat), l.length - i < n → i ≤ l.length → ∃ v, L141_1 k n (encTT l) (l.length : Int) (i : Int) wide vars = r141 wide vars v ∧ decide (v ≥ 0) = (l.drop i).any (fun b => !(kindT wide vars b == 1))
  | 0, i, h, hi => by omega
  | n + 1, i, h, hi => by
    obtain ⟨k, rfl⟩ : ∃ j, k = j + 1 := ⟨k - 1, by omega⟩
    rw [sL141_1]
    by_cases hlt : i < l.length
    · have hd : decide ((i : Int) < (l.length : Int)) = true := by simpa using hlt
      have h2 := hb l[i] (List.getElem_mem hlt)
      rw [hd, lookP_nat, encTT_get, List.getElem?_eq_getElem hlt]
      simp only [cond_true, Option.map_some, Option.bind_some, row_atRow, n77]
      rw [isTermOf_ok (by omega) wide vars l[i] (by omega) 1 (by omega)]
      simp only [R78_r, R77_r]
      rw [drop_cons hlt, List.any_cons]
      cases hne : (kindT wide vars l[i] == 1)
      · simp only [Bool.not_false, cond_true, Bool.true_or]
        exact ⟨_, rfl, by simp⟩
      · simp only [Bool.not_true, cond_false, Bool.false_or]
        rw [i64_id (by omega) (by omega)]
        exact by_loop (k := k + 1) (by omega) wide vars l hl hb n (i + 1) (by omega) (by omega)
    · have hd : decide ((i : Int) < (l.length : Int)) = false := by simpa using hlt
      rw [hd, List.drop_eq_nil_of_le (by omega)]
      exact ⟨_, rfl, by simp⟩
theorem by_ok {k : Nat} (hk : 1000200 ≤ k) (wide vars : Int) (l : List (List Nd)) (hl : l.length ≤ 1000) (hb : ∀ b ∈ l, b.length ≤ 100) : c76 k (encTT l) wide vars = r76 wide vars (!byOK wide vars l) := by
  obtain ⟨k, rfl⟩ : ∃ j, k = j + 2 := ⟨k - 2, by omega⟩
  rw [n76, n141, encTT_length]
  obtain ⟨v, h, h2⟩ := by_loop (k := k) (by omega) wide vars l hl hb k 0 (by omega) (by omega)
  have h' : L141_1 k k (encTT l) (l.length : Int) 0 wide vars = r141 wide vars v := h
  rw [h']
  simp only [R141_r, h2, List.drop_zero, byOK]
  congr 1
  rw [List.all_eq_not_any_not, Bool.not_not]
theorem checked_ok {k : Nat} (hk : 1000101 ≤ k) (wide vars : Int) (t : List Nd) (ht : t.length ≤ 100000) : c79 k wide vars (encT t) = r79 (bif goodT wide vars t then encT t else []) (goodT wide vars t) := by
  obtain ⟨k, rfl⟩ : ∃ j, k = j + 1 := ⟨k - 1, by omega⟩
  rw [n79, goodTerm_ok (by omega) _ _ _ ht]
  simp only [R25_r]
  cases goodT wide vars t <;> rfl
theorem made_ok {k : Nat} (hk : 1000102 ≤ k) (wide vars : Int) (t : List Nd) (ht : t.length ≤ 100000) : c81 k wide vars (encT t) = r81 (bif goodT wide vars t then encT t else []) (goodT wide vars t) := by
  obtain ⟨k, rfl⟩ : ∃ j, k = j + 1 := ⟨k - 1, by omega⟩
  rw [n81, goodTermS_ok (by omega) _ _ _ ht]
  simp only [R26_r]
  cases goodT wide vars t <;> rfl
theorem putT_len {by1 : List (List Nd)} (hb : ∀ b ∈ by1, b.length ≤ 100) : ∀ t : List Nd, (putT by1 t).length ≤ 100 * t.length
  | [] => by simp [putT]
  | x :: t => by
    have ih := putT_len hb t
    simp only [putT, List.length_append, List.length_cons]
    split
    · cases h : by1[x.2.toNat]? with
      | none => simp; omega
      | some b => have := hb b (List.mem_of_getElem? h); simp; omega
    · simp; omega
theorem put_loop {k : Nat} (hk : 1000150 ≤ k) (wide vars : Int) (t : List Nd) (ht : t.length ≤ 100) (by1 : List (List Nd)) (hb : ∀ b ∈ by1, b.length ≤ 100) : ∀ (n i : Nat) (o : List Nd), t.length - i < n → i ≤ t.length → o.length ≤ 100 * i → (∀ x ∈ t.drop i, x.1 = 2 → x.2.toNat < by1.length) →
    L22_1 k n (encTT by1) o.length (encT t) (t.length : Int) (i : Int) wide vars (encT o) = r22 (bif goodT wide vars (o ++ putT by1 (t.drop i)) then encT (o ++ putT by1 (t.drop i)) else []) (goodT wide vars (o ++ putT by1 (t.drop i)))
  | 0, i, o, h, hi, ho, hv => by omega
  | n + 1, i, o, h, hi, ho, hv => by
    rw [sL22_1]
    have htk : (encT o).take o.length = encT o := by rw [List.take_of_length_le (by simp)]
    rw [htk]
    by_cases hlt : i < t.length
    · have hd : decide ((i : Int) < (t.length : Int)) = true := by simpa using hlt
      have hx := hv t[i] (by rw [drop_cons hlt]; exact List.mem_cons_self)
      have hv' : ∀ x ∈ t.drop (i + 1), x.1 = 2 → x.2.toNat < by1.length := fun x hx => hv x (by rw [drop_cons hlt]; exact List.mem_cons_of_mem _ hx)
      rw [hd, lookT hlt, drop_cons hlt]
      simp only [cond_true, Option.bind_some, encN_shp, encN_op, encN_n, putT]
      have hnext : IntKind.i64.wrap ((i : Int) + 1) = ((i + 1 : Nat) : Int) := by rw [i64_id (by omega) (by omega)]; omega
      rw [hnext]
      by_cases h2 : t[i].1 = 2
      · have h2' : (t[i].1 == 2) = true := by simpa using h2
        have hxl := hx h2
        have e4 : (wi t[i].2).toNat = t[i].2.toNat := by simp [wi]
        have hbl := hb _ (List.getElem_mem hxl)
        rw [h2', lookP_int (wi_nonneg _), encTT_get, e4, List.getElem?_eq_getElem hxl]
        simp only [cond_true, Option.map_some, Option.bind_some, row_atRow, h2, if_true, Option.getD_some, encT_length]
        rw [lim_ok (by omega) (by omega), encT_app, ← List.length_append]
        simp only [cond_true]
        rw [put_loop hk wide vars t ht by1 hb n (i + 1) (o ++ by1[t[i].2.toNat]) (by omega) (by omega) (by simp; omega) hv', List.append_assoc]
      · have h2' : (t[i].1 == 2) = false := by simpa using h2
        rw [h2', lim_ok (by omega) (by omega)]
        have e5 : PV.agg [.int .i64 t[i].1, .int .u64 (wi t[i].2)] = encN t[i] := rfl
        have e6 : o.length + 1 = (o ++ [t[i]]).length := by simp
        simp only [cond_true, cond_false, h2, if_false]
        rw [e5, encT_snoc, e6]
        rw [put_loop hk wide vars t ht by1 hb n (i + 1) (o ++ [t[i]]) (by omega) (by omega) (by simp; omega) hv', List.append_assoc]
    · have hd : decide ((i : Int) < (t.length : Int)) = false := by simpa using hlt
      rw [hd, List.drop_eq_nil_of_le (by omega), checked_ok (by omega) _ _ _ (by omega)]
      simp only [cond_false, R79_r, putT, List.append_nil]
theorem putS_loop {k : Nat} (hk : 1000150 ≤ k) (wide vars : Int) (t : List Nd) (ht : t.length ≤ 100) (by1 : List (List Nd)) (hb : ∀ b ∈ by1, b.length ≤ 100) : ∀ (n i : Nat) (o : List Nd), t.length - i < n → i ≤ t.length → o.length ≤ 100 * i → (∀ x ∈ t.drop i, x.1 = 2 → x.2.toNat < by1.length) →
    L23_2 k n wide vars (encTT by1) o.length (encT t) (t.length : Int) (i : Int) (encT o) = r23 (bif goodT wide vars (o ++ putT by1 (t.drop i)) then encT (o ++ putT by1 (t.drop i)) else []) (goodT wide vars (o ++ putT by1 (t.drop i)))
  | 0, i, o, h, hi, ho, hv => by omega
  | n + 1, i, o, h, hi, ho, hv => by
    rw [sL23_2]
    have htk : (encT o).take o.length = encT o := by rw [List.take_of_length_le (by simp)]
    rw [htk]
    by_cases hlt : i < t.length
    · have hd : decide ((i : Int) < (t.length : Int)) = true := by simpa using hlt
      have hx := hv t[i] (by rw [drop_cons hlt]; exact List.mem_cons_self)
      have hv' : ∀ x ∈ t.drop (i + 1), x.1 = 2 → x.2.toNat < by1.length := fun x hx => hv x (by rw [drop_cons hlt]; exact List.mem_cons_of_mem _ hx)
      rw [hd, lookT hlt, drop_cons hlt]
      simp only [cond_true, Option.bind_some, encN_shp, encN_op, encN_n, putT]
      have hnext : IntKind.i64.wrap ((i : Int) + 1) = ((i + 1 : Nat) : Int) := by rw [i64_id (by omega) (by omega)]; omega
      rw [hnext]
      by_cases h2 : t[i].1 = 2
      · have h2' : (t[i].1 == 2) = true := by simpa using h2
        have hxl := hx h2
        have e4 : (wi t[i].2).toNat = t[i].2.toNat := by simp [wi]
        have hbl := hb _ (List.getElem_mem hxl)
        rw [h2', lookP_int (wi_nonneg _), encTT_get, e4, List.getElem?_eq_getElem hxl]
        simp only [cond_true, Option.map_some, Option.bind_some, row_atRow, h2, if_true, Option.getD_some, encT_length]
        rw [lim_ok (by omega) (by omega), encT_app, ← List.length_append]
        simp only [cond_true]
        rw [putS_loop hk wide vars t ht by1 hb n (i + 1) (o ++ by1[t[i].2.toNat]) (by omega) (by omega) (by simp; omega) hv', List.append_assoc]
      · have h2' : (t[i].1 == 2) = false := by simpa using h2
        rw [h2', lim_ok (by omega) (by omega)]
        have e5 : PV.agg [.int .i64 t[i].1, .int .u64 (wi t[i].2)] = encN t[i] := rfl
        have e6 : o.length + 1 = (o ++ [t[i]]).length := by simp
        simp only [cond_true, cond_false, h2, if_false]
        rw [e5, encT_snoc, e6]
        rw [putS_loop hk wide vars t ht by1 hb n (i + 1) (o ++ [t[i]]) (by omega) (by omega) (by simp; omega) hv', List.append_assoc]
    · have hd : decide ((i : Int) < (t.length : Int)) = false := by simpa using hlt
      rw [hd, List.drop_eq_nil_of_le (by omega), made_ok (by omega) _ _ _ (by omega)]
      simp only [cond_false, R81_r, putT, List.append_nil]
theorem kst_leaf {wide vars : Int} : ∀ {t : List Nd} {st st' : List Int}, kst wide vars t st = some st' → ∀ x ∈ t, leafOK wide vars x = true
  | [], st, st', h => by simp
  | x :: t, st, st', h => by
    simp only [kst] at h
    split at h
    · cases h
    · split at h
      · cases h
      · rename_i h2
        split at h
        · cases h
        · split at h
          · cases h
          · intro y hy
            rcases List.mem_cons.1 hy with rfl | hy
            · simpa using h2
            · exact kst_leaf h y hy
theorem goodT_vars {wide vars : Int} {t : List Nd} (h : goodT wide vars t = true) : ∀ x ∈ t, x.1 = 2 → (x.2.toNat : Int) < vars := by
  obtain ⟨hs, c, hk, _⟩ := goodT_iff.1 h
  have hv : isV vars = true := by simp only [sizeT, Bool.and_eq_true] at hs; exact hs.1.1.2
  have hv' := isV_iff.1 hv
  intro x hx h2
  have := kst_leaf hk x hx
  simp [leafOK, h2] at this
  rw [u64_id (by omega) (by omega)] at this
  exact this
theorem putAll_ok {k : Nat} (hk : 1000300 ≤ k) (wide vars : Int) (t : List Nd) (ht : t.length ≤ 100) (by1 : List (List Nd)) (hl : by1.length ≤ 1000) (hb : ∀ b ∈ by1, b.length ≤ 100) :
    c22 k wide vars (encT t) (encTT by1) = r22 (bif putOK wide vars t by1 && goodT wide vars (putT by1 t) then encT (putT by1 t) else []) (putOK wide vars t by1 && goodT wide vars (putT by1 t)) := by
  obtain ⟨k, rfl⟩ : ∃ j, k = j + 1 := ⟨k - 1, by omega⟩
  rw [n22, goodTerm_ok (by omega) _ _ _ (by omega), encTT_length, by_ok (by omega) wide vars by1 hl hb]
  simp only [R25_r, R76_r]
  unfold putOK
  cases h1 : goodT wide vars t
  · simp
  · simp only [Bool.not_true, cond_false, Bool.true_and]
    by_cases h2 : (by1.length : Int) = vars
    · have h2' : ((by1.length : Int) != vars) = false := by simpa using h2
      simp only [h2', cond_false, h2, decide_true, Bool.true_and]
      cases h3 : byOK wide vars by1
      · simp
      · simp only [Bool.not_true, cond_false, Bool.true_and, encT_length]
        have := put_loop (k := k) (by omega) wide vars t ht by1 hb k 0 [] (by omega) (by omega) (by simp) (fun x hx h4 => by have := goodT_vars h1 x (by simpa using hx) h4; omega)
        simpa [encT] using this
    · have h2' : ((by1.length : Int) != vars) = true := by simpa using h2
      simp [h2', h2]
theorem kinds_loop {k : Nat} (hk : 1000150 ≤ k) (wide vars : Int) (t : List Nd) (l : List (List Nd)) (hl : l.length ≤ 1000) (hb : ∀ b ∈ l, b.length ≤ 100) : ∀ (n i : Nat), l.length - i < n → i ≤ l.length →
    L23_1 k n wide vars (encT t) (encTT l) (encTT l) (l.length : Int) (i : Int) = bif byOK wide vars (l.drop i) then L23_2 k k wide vars (encTT l) 0 (encT t) (t.length : Int) 0 [] else r23 [] false
  | 0, i, h, hi => by omega
  | n + 1, i, h, hi => by
    rw [sL23_1]
    by_cases hlt : i < l.length
    · have hd : decide ((i : Int) < (l.length : Int)) = true := by simpa using hlt
      have h2 := hb l[i] (List.getElem_mem hlt)
      rw [hd, lookP_nat, encTT_get, List.getElem?_eq_getElem hlt]
      simp only [cond_true, Option.map_some, Option.bind_some, row_atRow]
      rw [l2Kind_ok (by omega) wide vars l[i] (by omega), drop_cons hlt]
      simp only [R80_r, byOK, List.all_cons]
      cases hne : (kindT wide vars l[i] == 1)
      · have : (kindT wide vars l[i] != 1) = true := by simpa using hne
        simp [this]
      · have : (kindT wide vars l[i] != 1) = false := by simpa using hne
        simp only [this, cond_false, Bool.true_and]
        rw [i64_id (by omega) (by omega)]
        exact kinds_loop hk wide vars t l hl hb n (i + 1) (by omega) (by omega)
    · have hd : decide ((i : Int) < (l.length : Int)) = false := by simpa using hlt
      rw [hd, List.drop_eq_nil_of_le (by omega), encT_length]
      simp [byOK]
theorem putAllS_ok {k : Nat} (hk : 1000300 ≤ k) (wide vars : Int) (t : List Nd) (ht : t.length ≤ 100) (by1 : List (List Nd)) (hl : by1.length ≤ 1000) (hb : ∀ b ∈ by1, b.length ≤ 100) :
    c23 k wide vars (encT t) (encTT by1) = r23 (bif putOK wide vars t by1 && goodT wide vars (putT by1 t) then encT (putT by1 t) else []) (putOK wide vars t by1 && goodT wide vars (putT by1 t)) := by
  obtain ⟨k, rfl⟩ : ∃ j, k = j + 1 := ⟨k - 1, by omega⟩
  rw [n23, goodTermS_ok (by omega) _ _ _ (by omega), encTT_length]
  simp only [R26_r]
  unfold putOK
  cases h1 : goodT wide vars t
  · simp
  · simp only [Bool.not_true, cond_false, Bool.true_and]
    by_cases h2 : (by1.length : Int) = vars
    · have h2' : ((by1.length : Int) != vars) = false := by simpa using h2
      simp only [h2', cond_false, h2, decide_true, Bool.true_and]
      have hq := kinds_loop (k := k) (by omega) wide vars t by1 hl hb k 0 (by omega) (by omega)
      have hq' : L23_1 k k wide vars (encT t) (encTT by1) (encTT by1) (by1.length : Int) 0 = _ := hq
      rw [← h2]
      rw [← h2] at hq'
      rw [hq', List.drop_zero, h2]
      cases h3 : byOK wide vars by1
      · simp
      · simp only [cond_true, Bool.true_and]
        have := putS_loop (k := k) (by omega) wide vars t ht by1 hb k 0 [] (by omega) (by omega) (by simp) (fun x hx h4 => by have := goodT_vars h1 x (by simpa using hx) h4; omega)
        simpa [encT] using this
    · have h2' : ((by1.length : Int) != vars) = true := by simpa using h2
      simp [h2', h2]
end Go.Proofs.Ytnliglgellapdaa
