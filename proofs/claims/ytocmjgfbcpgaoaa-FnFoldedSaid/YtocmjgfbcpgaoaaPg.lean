/- Sorted lists; the variables that a command reads and changes. -/
import Derived.Test.YtocmjgfbcpgaoaaPf
set_option linter.unusedVariables false
set_option linter.unusedSimpArgs false
set_option maxRecDepth 4000
namespace Go.Dp
/-! ### Sorted lists -/
theorem lt_ext : ∀ {a b : List Int}, a.Pairwise (· < ·) → b.Pairwise (· < ·) → (∀ x, x ∈ a ↔ x ∈ b) → a = b
  | [], [], _, _, _ => rfl
  | [], y :: b, _, _, h => by have := (h y).2 (by simp); simp at this
  | x :: a, [], _, _, h => by have := (h x).1 (by simp); simp at this
  | x :: a, y :: b, ha, hb, h => by
    rw [List.pairwise_cons] at ha hb
    have exy : x = y := by
      have h1 := (h x).1 (by simp)
      have h2 := (h y).2 (by simp)
      rcases List.mem_cons.1 h1 with h1 | h1
      · exact h1
      · rcases List.mem_cons.1 h2 with h2 | h2
        · exact h2.symm
        · have := ha.1 y h2
          have := hb.1 x h1
          omega
    subst exy
    rw [lt_ext ha.2 hb.2 fun z => ?_]
    constructor
    · intro hz
      rcases List.mem_cons.1 ((h z).1 (List.mem_cons_of_mem _ hz)) with h1 | h1
      · have := ha.1 z hz; omega
      · exact h1
    · intro hz
      rcases List.mem_cons.1 ((h z).2 (List.mem_cons_of_mem _ hz)) with h1 | h1
      · have := hb.1 z hz; omega
      · exact h1
theorem comp_up (z : List Int) (hs : ∀ i j, i ≤ j → j < z.length → z.toArray[i]! ≤ z.toArray[j]!) : ∀ m, m ≤ z.length → (Lib.compactUpTo z.toArray m).Pairwise (· < ·) ∧ ∀ x, x ∈ Lib.compactUpTo z.toArray m ↔ ∃ j, j < m ∧ z.toArray[j]! = x
  | 0, _ => by simp [Lib.compactUpTo]
  | m + 1, h => by
    obtain ⟨h1, h2⟩ := comp_up z hs m (by omega)
    rw [Lib.compactUpTo_succ]
    by_cases hk : Lib.keeps z.toArray m = true
    · rw [if_pos hk]
      refine ⟨List.pairwise_append.2 ⟨h1, by simp, fun a ha b hb => ?_⟩, fun x => ?_⟩
      · rw [List.mem_singleton] at hb
        subst hb
        obtain ⟨j, hj, rfl⟩ := (h2 a).1 ha
        have l1 := hs j (m - 1) (by omega) (by omega)
        have l2 := hs (m - 1) m (by omega) (by omega)
        have hne : z.toArray[m]! ≠ z.toArray[m - 1]! := by
          unfold Lib.keeps at hk
          rw [decide_eq_true_eq] at hk
          rcases hk with hk | hk
          · omega
          · exact hk
        omega
      · rw [List.mem_append, h2, List.mem_singleton]
        constructor
        · rintro (⟨j, hj, hx⟩ | hx)
          · exact ⟨j, by omega, hx⟩
          · exact ⟨m, by omega, hx.symm⟩
        · rintro ⟨j, hj, hx⟩
          by_cases e : j = m
          · subst e; exact .inr hx.symm
          · exact .inl ⟨j, by omega, hx⟩
    · rw [if_neg hk, List.append_nil]
      refine ⟨h1, fun x => ?_⟩
      have hm : m ≠ 0 ∧ z.toArray[m]! = z.toArray[m - 1]! := by
        unfold Lib.keeps at hk
        rw [decide_eq_true_eq] at hk
        exact ⟨fun e => hk (.inl e), Decidable.byContradiction fun e => hk (.inr e)⟩
      rw [h2]
      constructor
      · rintro ⟨j, hj, hx⟩; exact ⟨j, by omega, hx⟩
      · rintro ⟨j, hj, hx⟩
        by_cases e : j = m
        · subst e; exact ⟨j - 1, by omega, by rw [← hm.2]; exact hx⟩
        · exact ⟨j, by omega, hx⟩
def canI (l : List Int) : List Int := compI (sortI l)
theorem mem_bang {z : List Int} {x : Int} : (∃ j, j < z.length ∧ z.toArray[j]! = x) ↔ x ∈ z := by
  constructor
  · rintro ⟨j, hj, rfl⟩
    rw [getElem!_pos z.toArray j (by simpa using hj)]
    simp
  · intro h
    obtain ⟨j, hj, rfl⟩ := List.getElem_of_mem h
    exact ⟨j, hj, by rw [getElem!_pos z.toArray j (by simpa using hj)]; simp⟩
theorem canI_spec (l : List Int) : (canI l).Pairwise (· < ·) ∧ ∀ x, x ∈ canI l ↔ x ∈ l := by
  have hp : (sortI l).Pairwise fun a b => decide (a ≤ b) = true := List.pairwise_mergeSort (fun a b c h1 h2 => by simp at h1 h2 ⊢; omega) (fun a b => by simp; omega) l
  have hs : ∀ i j, i ≤ j → j < (sortI l).length → (sortI l).toArray[i]! ≤ (sortI l).toArray[j]! := by
    intro i j hij hj
    rw [getElem!_pos (sortI l).toArray i (by simp; omega), getElem!_pos (sortI l).toArray j (by simpa using hj)]
    by_cases e : i = j
    · subst e; omega
    · have := List.pairwise_iff_getElem.1 hp i j (by omega) hj (by omega)
      simpa using this
  obtain ⟨h1, h2⟩ := comp_up (sortI l) hs (sortI l).length (Nat.le_refl _)
  refine ⟨h1, fun x => (h2 x).trans (mem_bang.trans ?_)⟩
  unfold sortI
  exact List.mem_mergeSort
theorem canI_len (l : List Int) : (canI l).length ≤ l.length := by
  have := compI_le (sortI l)
  unfold canI
  have : (sortI l).length = l.length := by simp [sortI]
  omega
def putI : List Int → Int → List Int
  | [], n => [n]
  | x :: l, n => if x < n then x :: putI l n else if x = n then x :: l else n :: x :: l
theorem putI_cons (x : Int) (l : List Int) (n : Int) : putI (x :: l) n = if x < n then x :: putI l n else if x = n then x :: l else n :: x :: l := rfl
theorem putI_mem : ∀ (l : List Int) (n x : Int), x ∈ putI l n ↔ x = n ∨ x ∈ l
  | [], n, x => by simp [putI]
  | y :: l, n, x => by
    unfold putI
    split
    · simp only [List.mem_cons, putI_mem l n x]
      constructor
      · rintro (h | h | h) <;> simp [h]
      · rintro (h | h | h) <;> simp [h]
    · split
      · rename_i h
        subst h
        simp
      · simp
theorem putI_lt : ∀ (l : List Int) (n : Int), l.Pairwise (· < ·) → (putI l n).Pairwise (· < ·)
  | [], n, h => by simp [putI]
  | y :: l, n, h => by
    rw [List.pairwise_cons] at h
    unfold putI
    split
    · rename_i h1
      rw [List.pairwise_cons]
      refine ⟨fun x hx => ?_, putI_lt l n h.2⟩
      rcases (putI_mem l n x).1 hx with hx | hx
      · omega
      · exact h.1 x hx
    · split
      · exact List.pairwise_cons.2 h
      · rw [List.pairwise_cons]
        refine ⟨fun x hx => ?_, List.pairwise_cons.2 h⟩
        rcases List.mem_cons.1 hx with hx | hx
        · omega
        · have := h.1 x hx; omega
theorem putI_len : ∀ (l : List Int) (n : Int), (putI l n).length ≤ l.length + 1
  | [], n => by simp [putI]
  | y :: l, n => by
    have := putI_len l n
    unfold putI
    split
    · simp; omega
    · split <;> simp
def putAllI (l m : List Int) : List Int := m.foldl putI l
theorem putAllI_spec : ∀ (m l : List Int), l.Pairwise (· < ·) → (putAllI l m).Pairwise (· < ·) ∧ ∀ x, x ∈ putAllI l m ↔ x ∈ l ∨ x ∈ m
  | [], l, h => ⟨h, fun x => by simp [putAllI]⟩
  | n :: m, l, h => by
    obtain ⟨h1, h2⟩ := putAllI_spec m (putI l n) (putI_lt l n h)
    refine ⟨h1, fun x => (h2 x).trans ?_⟩
    rw [putI_mem, List.mem_cons]
    constructor
    · rintro ((h | h) | h) <;> simp [h]
    · rintro (h | h | h) <;> simp [h]
theorem putAllI_len : ∀ (m l : List Int), (putAllI l m).length ≤ l.length + m.length
  | [], l => by simp [putAllI]
  | n :: m, l => by
    have h1 := putAllI_len m (putI l n)
    have h2 := putI_len l n
    simp only [putAllI, List.foldl_cons, List.length_cons] at h1 ⊢
    omega
theorem putAllI_app (l m m2 : List Int) : putAllI l (m ++ m2) = putAllI (putAllI l m) m2 := by simp [putAllI]
theorem canI_put {l m : List Int} (h : ∀ x, x ∈ l ↔ x ∈ m) : canI l = putAllI [] m := by
  obtain ⟨h1, h2⟩ := canI_spec l
  obtain ⟨h3, h4⟩ := putAllI_spec m [] List.Pairwise.nil
  exact lt_ext h1 h3 fun x => by rw [h2, h4]; simp [h]
end Go.Dp
namespace Go.Proofs.Ytocmjgfbcpgaoaa
open Go.Dp

theorem encZ_lookup {l : List Int} {i : Nat} (h : i < l.length) : lookP (encZ l) (i : Int) = some (.int .i64 l[i]) := by rw [lookP_nat, encZ_get, List.getElem?_eq_getElem h]; rfl
theorem intsOf_enc : ∀ l : List Int, intsOf (encZ l) = some l
  | [] => rfl
  | x :: l => by
    have := intsOf_enc l
    simp only [encZ, List.map_cons] at this ⊢
    simp only [intsOf, this]
    rfl
theorem sort_view (o : List Int) : ((((sortI o).map (PV.int .i64)) ++ ((encZ o).drop o.length)).take o.length) = encZ (sortI o) := by
  have hl : (sortI o).length = o.length := by simp [sortI]
  have : (encZ o).drop o.length = [] := List.drop_eq_nil_of_le (by simp)
  rw [this, List.append_nil, List.take_of_length_le (by simp [hl])]
  rfl
theorem comp_view (z : List Int) (r tl : List PV) : (((((compI z).map (PV.int .i64)) ++ r) ++ tl).take ((compI z).length)) = encZ (compI z) := by
  rw [List.append_assoc, List.take_append_of_le_length (by simp), List.take_of_length_le (by simp)]
  rfl
/-! ### Variables of a term -/
def vlist : List Nd → List Int
  | [] => []
  | x :: t => (if x.1 = 2 then [IntKind.i64.wrap (wi x.2)] else []) ++ vlist t
theorem vlist_len : ∀ t : List Nd, (vlist t).length ≤ t.length
  | [] => by simp [vlist]
  | x :: t => by
    have := vlist_len t
    unfold vlist
    split <;> simp <;> omega
theorem varsIn_loop {k : Nat} (t : List Nd) (ht : t.length ≤ 100) : ∀ (n i : Nat) (o : List Int), t.length - i < n → i ≤ t.length → o.length ≤ i →
    L26_1 k n o.length (encT t) (t.length : Int) (i : Int) (encZ o) = r26 (encZ (canI (o ++ vlist (t.drop i))))
  | 0, i, o, h, hi, ho => by omega
  | n + 1, i, o, h, hi, ho => by
    rw [sL26_1]
    have htk : (encZ o).take o.length = encZ o := by rw [List.take_of_length_le (by simp)]
    rw [htk]
    by_cases hlt : i < t.length
    · have hd : decide ((i : Int) < (t.length : Int)) = true := by simpa using hlt
      rw [hd, lookT hlt, drop_cons hlt]
      simp only [cond_true, Option.bind_some, encN_shp, encN_op, encN_n, vlist]
      have hnext : IntKind.i64.wrap ((i : Int) + 1) = ((i + 1 : Nat) : Int) := by rw [i64_id (by omega) (by omega)]; omega
      rw [hnext]
      by_cases h2 : t[i].1 = 2
      · have h2' : (t[i].1 == 2) = true := by simpa using h2
        rw [h2', lim_ok (by omega) (by omega), encZ_snoc]
        have e6 : o.length + 1 = (o ++ [IntKind.i64.wrap (wi t[i].2)]).length := by simp
        simp only [cond_true, h2, if_true]
        rw [e6, varsIn_loop t ht n (i + 1) _ (by omega) (by omega) (by simp; omega), List.append_assoc]
      · have h2' : (t[i].1 == 2) = false := by simpa using h2
        rw [h2']
        simp only [cond_false, h2, if_false, List.nil_append]
        exact varsIn_loop t ht n (i + 1) o (by omega) (by omega) (by omega)
    · have hd : decide ((i : Int) < (t.length : Int)) = false := by simpa using hlt
      have hlim : decide (o.length ≤ LIM) = true := by rw [decide_eq_true_eq]; unfold LIM; omega
      have e0 : t.drop i = [] := List.drop_eq_nil_of_le (by omega)
      rw [hd, e0, hlim]
      simp only [cond_false, cond_true, intsOf_enc, Option.bind_some, sort_view, comp_view, vlist, List.append_nil]
      rfl
theorem varsIn_ok {k : Nat} (hk : 200 ≤ k) (t : List Nd) (ht : t.length ≤ 100) : c26 k (encT t) = r26 (encZ (canI (vlist t))) := by
  obtain ⟨k, rfl⟩ : ∃ j, k = j + 1 := ⟨k - 1, by omega⟩
  rw [n26, encT_length]
  exact varsIn_loop (k := k) t ht k 0 [] (by omega) (by omega) (by simp)
theorem put_loop1 {k : Nat} (l : List Int) (hl : l.length ≤ 1000) (m : Int) : ∀ (n i : Nat), l.length - i < n → i ≤ l.length →
    L56_1 k n (encZ l) m (i : Int) = r56 (encZ (l.take i ++ putI (l.drop i) m))
  | 0, i, h, hi => by omega
  | n + 1, i, h, hi => by
    have key : (i < l.length → l[i]! = m → False) → (l.drop i = [] ∨ ∃ x r, l.drop i = x :: r ∧ ¬ x < m ∧ x ≠ m) → (bif decide ((0 : Int) ≤ (i : Int)) && decide ((i : Int) ≤ ((encZ l).length : Int)) then
      bif decide ((0 + (((encZ l).take (i : Int).toNat).length)) * 8 ≤ LIM) && decide (0 + (((encZ l).take (i : Int).toNat).length) ≤ LIM) then
       bif decide (((0 + (((encZ l).take (i : Int).toNat).length)) + 1) * 8 ≤ LIM) && decide ((0 + (((encZ l).take (i : Int).toNat).length)) + 1 ≤ LIM) then
        bif decide ((0 : Int) ≤ (i : Int)) && decide ((i : Int) ≤ ((encZ l).length : Int)) && decide (((encZ l).length : Int) ≤ ((encZ l).length : Int)) then
         bif decide ((((0 + (((encZ l).take (i : Int).toNat).length)) + 1) + ((((encZ l).take (encZ l).length).drop (i : Int).toNat).length)) * 8 ≤ LIM) && decide (((0 + (((encZ l).take (i : Int).toNat).length)) + 1) + ((((encZ l).take (encZ l).length).drop (i : Int).toNat).length) ≤ LIM) then
          r56 (((((([] ++ ((encZ l).take (i : Int).toNat)).take (0 + (((encZ l).take (i : Int).toNat).length))) ++ [PV.int .i64 m]).take ((0 + (((encZ l).take (i : Int).toNat).length)) + 1)) ++ (((encZ l).take (encZ l).length).drop (i : Int).toNat)).take (((0 + (((encZ l).take (i : Int).toNat).length)) + 1) + ((((encZ l).take (encZ l).length).drop (i : Int).toNat).length)))
         else none
        else none
       else none
      else none
     else none) = r56 (encZ (l.take i ++ putI (l.drop i) m)) := by
      intro _ hc
      have e1 : (decide ((0 : Int) ≤ (i : Int)) && decide ((i : Int) ≤ ((encZ l).length : Int))) = true := by simp; omega
      have e2 : (encZ l).take (i : Int).toNat = encZ (l.take i) := by rw [Int.toNat_natCast, encZ_take]
      have e3 : ((encZ l).take (encZ l).length).drop (i : Int).toNat = encZ (l.drop i) := by rw [List.take_length, Int.toNat_natCast, encZ_drop]
      have e4 : (encZ (l.take i)).length = i := by simp; omega
      have e5 : (encZ (l.drop i)).length = l.length - i := by simp
      rw [e2, e3, e4, e5, e1, lim_ok (by omega) (by omega), lim_ok (by omega) (by omega), lim_ok (by omega) (by omega)]
      have e6 : decide (((encZ l).length : Int) ≤ ((encZ l).length : Int)) = true := by simp
      rw [e6]
      simp only [cond_true, Bool.and_self, List.nil_append, Nat.zero_add]
      rw [List.take_of_length_le (l := encZ (l.take i)) (by simp; omega), encZ_snoc, List.take_of_length_le (l := encZ (l.take i ++ [m])) (by (simp; try omega))]
      have e7 : putI (l.drop i) m = m :: l.drop i := by
        rcases hc with hc | ⟨x, r, hc, h1, h2⟩
        · rw [hc]; rfl
        · rw [hc, putI_cons, if_neg h1, if_neg h2]
      have e8 : encZ (l.take i ++ [m]) ++ encZ (l.drop i) = encZ (l.take i ++ putI (l.drop i) m) := by rw [e7]; simp [encZ]
      rw [e8, List.take_of_length_le]
      rw [e7]
      simp
      omega
    rw [sL56_1]
    by_cases hlt : i < l.length
    · have hd : decide ((i : Int) < ((encZ l).length : Int)) = true := by simpa using hlt
      rw [hd, encZ_lookup hlt]
      simp only [cond_true, Option.bind_some, int_atInt]
      by_cases h1 : l[i] < m
      · have h1' : decide (l[i] < m) = true := by simpa using h1
        rw [h1']
        simp only [cond_true]
        rw [i64_id (by omega) (by omega), show (i : Int) + 1 = ((i + 1 : Nat) : Int) by omega, put_loop1 l hl m n (i + 1) (by omega) (by omega)]
        rw [drop_cons hlt, List.take_succ_eq_append_getElem hlt]
        rw [putI_cons, if_pos h1, List.append_assoc]
        rfl
      · have h1' : decide (l[i] < m) = false := by simpa using h1
        rw [h1']
        simp only [cond_false]
        by_cases h2 : l[i] = m
        · have h2' : (l[i] == m) = true := by simpa using h2
          rw [h2']
          simp only [cond_true]
          congr 2
          rw [drop_cons hlt]
          rw [putI_cons, if_neg h1, if_pos h2, ← drop_cons hlt, List.take_append_drop]
        · have h2' : (l[i] == m) = false := by simpa using h2
          rw [h2']
          simp only [cond_false]
          exact key (fun _ h => h2 (by rw [getElem!_pos l i hlt] at h; exact h)) (.inr ⟨_, _, drop_cons hlt, h1, h2⟩)
    · have hd : decide ((i : Int) < ((encZ l).length : Int)) = false := by simpa using hlt
      rw [hd]
      simp only [cond_false]
      exact key (fun h => absurd h hlt) (.inl (List.drop_eq_nil_of_le (by omega)))
theorem l1Put_ok {k : Nat} (hk : 2000 ≤ k) (l : List Int) (hl : l.length ≤ 1000) (m : Int) : c56 k (encZ l) m = r56 (encZ (putI l m)) := by
  obtain ⟨k, rfl⟩ : ∃ j, k = j + 1 := ⟨k - 1, by omega⟩
  rw [n56]
  have := put_loop1 (k := k) l hl m k 0 (by omega) (by omega)
  simpa using this
theorem l2Vars_loop2 {k : Nat} (hk : 2000 ≤ k) (t : List Nd) (ht : t.length ≤ 100) : ∀ (n i : Nat) (o : List Int), t.length - i < n → i ≤ t.length → o.length ≤ i →
    L29_2 k n (encZ o) (encT t) (t.length : Int) (i : Int) = r29 (encZ (putAllI o (vlist (t.drop i))))
  | 0, i, o, h, hi, ho => by omega
  | n + 1, i, o, h, hi, ho => by
    rw [sL29_2]
    by_cases hlt : i < t.length
    · have hd : decide ((i : Int) < (t.length : Int)) = true := by simpa using hlt
      rw [hd, lookT hlt, drop_cons hlt]
      simp only [cond_true, Option.bind_some, encN_shp, encN_op, encN_n, vlist]
      have hnext : IntKind.i64.wrap ((i : Int) + 1) = ((i + 1 : Nat) : Int) := by rw [i64_id (by omega) (by omega)]; omega
      rw [hnext]
      by_cases h2 : t[i].1 = 2
      · have h2' : (t[i].1 == 2) = true := by simpa using h2
        have hpl := putI_len o (IntKind.i64.wrap (wi t[i].2))
        rw [h2', l1Put_ok hk o (by omega)]
        simp only [cond_true, h2, if_true, R56_r]
        rw [l2Vars_loop2 hk t ht n (i + 1) _ (by omega) (by omega) (by omega), putAllI_app]
        rfl
      · have h2' : (t[i].1 == 2) = false := by simpa using h2
        rw [h2']
        simp only [cond_false, h2, if_false, List.nil_append]
        exact l2Vars_loop2 hk t ht n (i + 1) o (by omega) (by omega) (by omega)
    · have hd : decide ((i : Int) < (t.length : Int)) = false := by simpa using hlt
      rw [hd, List.drop_eq_nil_of_le (by omega)]
      rfl
theorem l2Vars_loop1 {k : Nat} (hk : 2000 ≤ k) (t : List Nd) (ht : t.length ≤ 100) : ∀ (n i : Nat), t.length - i < n → i ≤ t.length →
    L29_1 k n 0 (encT t) (t.length : Int) (i : Int) [] = r29 (encZ (putAllI [] (vlist (t.drop i))))
  | 0, i, h, hi => by omega
  | n + 1, i, h, hi => by
    rw [sL29_1]
    by_cases hlt : i < t.length
    · have hd : decide ((i : Int) < (t.length : Int)) = true := by simpa using hlt
      rw [hd, lookT hlt, drop_cons hlt]
      simp only [cond_true, Option.bind_some, encN_shp, encN_op, encN_n, vlist]
      have hnext : IntKind.i64.wrap ((i : Int) + 1) = ((i + 1 : Nat) : Int) := by rw [i64_id (by omega) (by omega)]; omega
      rw [hnext]
      by_cases h2 : t[i].1 = 2
      · have h2' : (t[i].1 == 2) = true := by simpa using h2
        have e0 : ([] : List PV).take 0 = encZ [] := rfl
        rw [h2', e0, l1Put_ok hk [] (by simp)]
        simp only [cond_true, h2, if_true, R56_r]
        by_cases hi0 : 1 ≤ i + 1
        · rw [l2Vars_loop2 hk t ht n (i + 1) _ (by omega) (by omega) (by simp [putI]), putAllI_app]
          rfl
        · omega
      · have h2' : (t[i].1 == 2) = false := by simpa using h2
        rw [h2']
        simp only [cond_false, h2, if_false, List.nil_append]
        exact l2Vars_loop1 hk t ht n (i + 1) (by omega) (by omega)
    · have hd : decide ((i : Int) < (t.length : Int)) = false := by simpa using hlt
      rw [hd, List.drop_eq_nil_of_le (by omega)]
      rfl
theorem l2Vars_ok {k : Nat} (hk : 2200 ≤ k) (t : List Nd) (ht : t.length ≤ 100) : c29 k (encT t) = r29 (encZ (putAllI [] (vlist t))) := by
  obtain ⟨k, rfl⟩ : ∃ j, k = j + 1 := ⟨k - 1, by omega⟩
  rw [n29, encT_length]
  exact l2Vars_loop1 (k := k) (by omega) t ht k 0 (by omega) (by omega)
end Go.Proofs.Ytocmjgfbcpgaoaa
