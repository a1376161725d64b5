/- The law of joined terms. -/
import Derived.Test.YtnliglgellapdaaKk
set_option linter.unusedVariables false
set_option linter.unusedSimpArgs false
set_option maxRecDepth 4000
namespace Go.Proofs.Ytnliglgellapdaa
open Go.Dp

/-! ### What joined and turned terms say -/
theorem need_two {op : Int} (h : (need op).1 = 2) : 3 ≤ op ∧ op ≤ 12 ∨ 14 ≤ op ∧ op ≤ 16 ∨ op = 17 ∨ op = 18 := by
  unfold need at h
  split at h
  · simp at h
  · split at h
    · simp at h
    · split at h
      · simp at h
      · split at h
        · simp at h
        · split at h
          · omega
          · split at h
            · omega
            · split at h
              · omega
              · simp at h
theorem join_run {wide op : Int} (hm : (need op).1 = 2) {s : List W} {a b : List Nd} {x y : W} (ha : vrun wide s a [] = some [x]) (hb : vrun wide s b [] = some [y]) : vrun wide s (joinT op a b) [] = some [apW wide op x y] := by
  have ho := need_two hm
  have hb' := vrun_frame [x] hb
  rw [List.nil_append] at hb'
  rw [joinT, vrun_app, vrun_app, ha, Option.bind_some, hb', Option.bind_some]
  show vrun wide s [(op, 0#64)] [y, x] = _
  simp only [vrun]
  rw [if_neg (by omega), if_neg (by omega), if_neg (by omega), if_neg (by omega)]
def turnV (wide op : Int) (x : W) : W := if op = 13 then ~~~x &&& mk wide else 1#64 - x
theorem turn_run {wide op : Int} (hm : op = 13 ∨ op = 19) {s : List W} {a : List Nd} {x : W} (ha : vrun wide s a [] = some [x]) : vrun wide s (turnT op a) [] = some [turnV wide op x] := by
  rw [turnT, vrun_app, ha, Option.bind_some]
  rcases hm with h | h <;> subst h <;> rfl
theorem one_le_mk {wide : Int} (hw : isW wide = true) : 1#64 ≤ mk wide := by
  have h := isW_iff.1 hw
  rw [BitVec.le_def]
  show 1 ≤ (maskB wide.toNat).toNat
  rw [maskB_toNat (by omega)]
  have : 2 ^ 1 ≤ 2 ^ wide.toNat := Nat.pow_le_pow_right (by omega) (by omega)
  omega
theorem fit_mk {wide c : Int} (hw : isW wide = true) {v : W} (h : okV wide c v) : v ≤ mk wide := by
  rcases h with h | h
  · exact h.2
  · have h1 := one_le_mk hw
    have h2 := h.2
    rw [BitVec.le_def] at *
    omega
theorem le_mk_iff {wide : Int} (hw : isW wide = true) {v : W} : v ≤ mk wide ↔ v &&& mk wide = v := by
  have h := isW_iff.1 hw
  exact (cut_eq_iff (by omega) v).symm
theorem turn_twice {wide op : Int} (hw : isW wide = true) (hm : op = 13 ∨ op = 19) {x : W} (h : x ≤ mk wide) : turnV wide op (turnV wide op x) = x := by
  rcases hm with hm | hm
  · subst hm
    have h1 := (le_mk_iff hw).1 h
    simp only [turnV, if_true]
    have h2 : ∀ v m : W, ~~~(~~~v &&& m) &&& m = v &&& m := by
      intro v m
      apply BitVec.eq_of_getLsbD_eq
      intro i hi
      simp only [BitVec.getLsbD_and, BitVec.getLsbD_not, hi, decide_true, Bool.true_and]
      cases v.getLsbD i <;> cases m.getLsbD i <;> rfl
    rw [h2, h1]
  · subst hm
    have h1 : ∀ v : W, 1#64 - (1#64 - v) = v := by intro v; bv_omega
    show 1#64 - (1#64 - x) = x
    exact h1 x
theorem xor_fit {wide : Int} (hw : isW wide = true) {x y : W} (hx : x ≤ mk wide) (hy : y ≤ mk wide) : (x ^^^ y) &&& mk wide = x ^^^ y := by
  have h1 := (le_mk_iff hw).1 hx
  have h2 := (le_mk_iff hw).1 hy
  have h3 : ∀ a b m : W, (a ^^^ b) &&& m = (a &&& m) ^^^ (b &&& m) := by
    intro a b m
    apply BitVec.eq_of_getLsbD_eq
    intro i hi
    simp only [BitVec.getLsbD_and, BitVec.getLsbD_xor]
    cases a.getLsbD i <;> cases b.getLsbD i <;> cases m.getLsbD i <;> rfl
  rw [h3, h1, h2]
theorem or_fit {wide : Int} (hw : isW wide = true) {x y : W} (hx : x ≤ mk wide) (hy : y ≤ mk wide) : (x ||| y) &&& mk wide = x ||| y := by
  have h1 := (le_mk_iff hw).1 hx
  have h2 := (le_mk_iff hw).1 hy
  have h3 : ∀ a b m : W, (a ||| b) &&& m = (a &&& m) ||| (b &&& m) := by
    intro a b m
    apply BitVec.eq_of_getLsbD_eq
    intro i hi
    simp only [BitVec.getLsbD_and, BitVec.getLsbD_or]
    cases a.getLsbD i <;> cases b.getLsbD i <;> cases m.getLsbD i <;> rfl
  rw [h3, h1, h2]
theorem tr_fit {wide : Int} (hw : isW wide = true) (b : Bool) : tr b &&& mk wide = tr b := by
  refine (le_mk_iff hw).1 ?_
  have h1 := one_le_mk hw
  have h2 := tr_le b
  rw [BitVec.le_def] at *
  omega
theorem tr_one (b : Bool) : (wi (tr b) == 1) = b := by cases b <;> decide
/-! ### The draws -/
theorem drawJoin_ok {bs : List Nat} (hc : CodeOK bs) {k : Nat} (hk : 150 ≤ k) : ∃ wide vars op a b, c30 k (encB bs) = r30 wide vars op (encT a) (encT b) ∧ a.length ≤ 100 ∧ b.length ≤ 100 := by
  obtain ⟨k, rfl⟩ : ∃ j, k = j + 1 := ⟨k - 1, by omega⟩
  rw [n30]
  obtain ⟨a1, s1, w, h, b1, b2, b3, b4, _⟩ := pick_ok hc (k := k) (by omega) (at' := 0) (by omega) (by omega) 0#64 8
  have h' : c69 k 8 (encB bs) 0 0 = _ := h
  rw [h']
  simp only [R69_r]
  have hw : IntKind.i64.wrap (1 + w) = 1 + w := i64_id (by omega) (by omega)
  obtain ⟨a2, s2, v, h, b5, b6, b7, b8, _⟩ := pick_ok hc (k := k) (by omega) (at' := a1) (by omega) (by omega) s1 3
  rw [h]
  simp only [R69_r]
  have hv : IntKind.i64.wrap (1 + v) = 1 + v := i64_id (by omega) (by omega)
  rw [hw, hv]
  obtain ⟨a3, s3, b, h, b9, b10⟩ := one_ok hc (k := k) (by omega) (at' := a2) (by omega) (by omega) s2 3
  rw [h]
  simp only [R75_r]
  cases b
  · simp only [cond_false]
    obtain ⟨a4, s4, op, h, c1, c2, _⟩ := pick_ok hc (k := k) (by omega) (at' := a3) (by omega) (by omega) s3 18
    rw [h]
    simp only [R69_r]
    obtain ⟨a5, s5, t, h, c3, c4, c5, c6, _⟩ := number_int hc (wide := 1 + w) (vars := 1 + v) (by omega) (by omega) (by omega) (by omega) (d := 2) (by omega) (by omega) (k := k) (by omega) (at' := a4) (by omega) (by omega) s4
    rw [h]
    simp only [R73_r]
    obtain ⟨a6, s6, u, h, c7, c8, c9, c10, _⟩ := number_int hc (wide := 1 + w) (vars := 1 + v) (by omega) (by omega) (by omega) (by omega) (d := 3) (by omega) (by omega) (k := k) (by omega) (at' := a5) (by omega) (by omega) s5
    rw [h]
    simp only [R73_r, List.take_length]
    exact ⟨_, _, _, t, u, rfl, by omega, by omega⟩
  · simp only [cond_true]
    obtain ⟨a4, s4, op, h, c1, c2, _⟩ := pick_ok hc (k := k) (by omega) (at' := a3) (by omega) (by omega) s3 21
    rw [h]
    simp only [R69_r]
    obtain ⟨a5, s5, t, h, c3, c4, c5, c6⟩ := asked_ok hc (wide := 1 + w) (vars := 1 + v) (by omega) (by omega) (by omega) (by omega) 1 (k := k) (by omega) (by omega) (at' := a4) (by omega) (by omega) s4
    have h1 : c91 k (1 + w) (1 + v) 1 (encB bs) a4 (wi s4) = r91 (encB bs) a5 (wi s5) (encT t) := h
    rw [h1]
    simp only [R91_r]
    obtain ⟨a6, s6, u, h, c7, c8, c9, c10⟩ := asked_ok hc (wide := 1 + w) (vars := 1 + v) (by omega) (by omega) (by omega) (by omega) 2 (k := k) (by omega) (by omega) (at' := a5) (by omega) (by omega) s5
    have h2 : c91 k (1 + w) (1 + v) 2 (encB bs) a5 (wi s5) = r91 (encB bs) a6 (wi s6) (encT u) := h
    rw [h2]
    simp only [R91_r, List.take_length]
    exact ⟨_, _, _, t, u, rfl, by omega, by omega⟩
theorem drawTurn_ok {bs : List Nat} (hc : CodeOK bs) {k : Nat} (hk : 150 ≤ k) : ∃ wide vars op a, c35 k (encB bs) = r35 wide vars op (encT a) ∧ a.length ≤ 100 := by
  obtain ⟨k, rfl⟩ : ∃ j, k = j + 1 := ⟨k - 1, by omega⟩
  rw [n35]
  obtain ⟨a2, s2, wide, vars, t, h, h2, h3, h4, h5, h6, h7, h8⟩ := term_ok hc (k := k) (by omega) (at' := 0) (by omega) (by omega) 0#64
  have h' : c72 k (encB bs) 0 0 = r72 (encB bs) a2 (wi s2) wide vars (encT t) := h
  rw [h']
  simp only [R72_r]
  obtain ⟨a4, s4, w, h, h8', h9, h10⟩ := among_ok hc (k := k) (by omega) (at' := a2) (by omega) (by omega) s2 [13, 19, 19, 3] (by simp)
  rw [show ([PV.int .i64 13, PV.int .i64 19, PV.int .i64 19, PV.int .i64 3] : List PV) = encI [13, 19, 19, 3] from rfl, h]
  simp only [R96_r]
  exact ⟨_, _, _, t, rfl, h8⟩
/-! ### Words -/
theorem addWord_ok {k : Nat} (hk : 5 ≤ k) {wide : Int} (hw : isW wide = true) {x y : W} (hx : x ≤ mk wide) (hy : y ≤ mk wide) : c33 k wide (wi x) (wi y) = r33 (wi ((x + y) &&& mk wide)) true := by
  obtain ⟨k, rfl⟩ : ∃ j, k = j + 1 := ⟨k - 1, by omega⟩
  rw [n33, areWords_ok (by omega), goodW_iff.2 ⟨hw, hx⟩, goodW_iff.2 ⟨hw, hy⟩]
  simp only [R94_r, Bool.and_self, Bool.not_true, cond_false]
  rw [mk_ok (by omega) hw]
  simp only [R88_r, add_wi, and_wi]
theorem lessSigned_ok {k : Nat} (hk : 5 ≤ k) {wide : Int} (hw : isW wide = true) {x y : W} (hx : x ≤ mk wide) (hy : y ≤ mk wide) : c34 k wide (wi x) (wi y) = r34 (decide (sgn wide x < sgn wide y)) true := by
  obtain ⟨k, rfl⟩ : ∃ j, k = j + 1 := ⟨k - 1, by omega⟩
  rw [n34, areWords_ok (by omega), goodW_iff.2 ⟨hw, hx⟩, goodW_iff.2 ⟨hw, hy⟩]
  simp only [R94_r, Bool.and_self, Bool.not_true, cond_false]
  rw [signed_ok (by omega) hw, R95_r, signed_ok (by omega) hw, R95_r]
/-! ### The loops of the law -/
theorem cut_number {k : Nat} (hk : 1048600 ≤ k) {more : List Nat} (hm : CodeOK more) (wide : Int) (hw : isW wide = true) {α : Type} {j : Nat} (hj : j ≤ 10) : ∃ x : W, x ≤ mk wide ∧ ∀ (F : Int → Bool → R) , (R28 (c28 k (encB more)) fun v1 =>
   bif !decide (IntKind.u64.wrap (IntKind.i64.wrap (3 * (j : Int))) < 0) then
    R27 (c27 k wide (IntKind.u64.wrap (shrI .i64 v1 (IntKind.u64.wrap (IntKind.i64.wrap (3 * (j : Int))))))) F
   else none) = F (wi x) true := by
  obtain ⟨r, hr, hr0, hr1⟩ := numberOf_ok (k := k) (by omega) hm
  refine ⟨BitVec.ofInt 64 (shrI .i64 r (3 * (j : Int))) &&& mk wide, and_le_right' _ _, fun F => ?_⟩
  have e1 : IntKind.u64.wrap (IntKind.i64.wrap (3 * (j : Int))) = 3 * (j : Int) := by rw [i64_id (by omega) (by omega), u64_id (by omega) (by omega)]
  have hd2 : decide (3 * (j : Int) < 0) = false := by simp; omega
  rw [hr, R28_r, e1, hd2, wrapU]
  simp only [Bool.not_false, cond_true]
  rw [cutTo_ok (by omega) wide _ hw, R27_r]
theorem join_state {k : Nat} (hk : 1048600 ≤ k) {more : List Nat} (hm : CodeOK more) (code : List PV) (wide vars op : Int) (hw : isW wide = true) (hv : isV vars = true) (a b t : List PV) : ∀ (m n : Nat) (st : List W), (vars - st.length).toNat ≤ m → m < n → (st.length : Int) ≤ vars → (∀ a ∈ st, a ≤ mk wide) →
    ∃ (s2 : List W) (n2 : Nat), L6_1 k n code (encB more) wide vars op a b t true st.length (st.length : Int) (encW st) = L6_1 k (n2 + 1) code (encB more) wide vars op a b t true s2.length (s2.length : Int) (encW s2) ∧ (s2.length : Int) = vars ∧ ∀ a ∈ s2, a ≤ mk wide
  | m, 0, st, h1, h2, h3, h4 => by omega
  | m, n + 1, st, h1, h2, h3, h4 => by
    have hv' := isV_iff.1 hv
    by_cases hlt : (st.length : Int) < vars
    · have hd : decide ((st.length : Int) < vars) = true := by simpa using hlt
      obtain ⟨x, hx, hF⟩ := cut_number (k := k) hk hm wide hw (α := Nat) (j := st.length) (by omega)
      rw [sL6_1, hd]
      simp only [cond_true]
      rw [hF]
      simp only [Bool.not_true, cond_false]
      rw [lim_ok (by omega) (by omega), i64_id (by omega) (by omega)]
      simp only [cond_true]
      have e2 : (encW st).take st.length = encW st := by rw [List.take_of_length_le (by simp)]
      rw [e2, encW_snoc]
      have e3 : st.length + 1 = (st ++ [x]).length := by simp
      have e4 : (st.length : Int) + 1 = ((st ++ [x]).length : Int) := by simp
      rw [e3, e4]
      cases m with
      | zero => omega
      | succ m =>
        refine join_state hk hm code wide vars op hw hv a b t m n (st ++ [x]) (by simp; omega) (by omega) (by simp; omega) ?_
        intro b hb
        rcases List.mem_append.1 hb with hb | hb
        · exact h4 b hb
        · simp at hb; subst hb; exact hx
    · exact ⟨st, n, rfl, by omega, h4⟩
theorem turn_state {k : Nat} (hk : 1048600 ≤ k) {code : List Nat} (hm : CodeOK code) (wide vars : Int) (hw : isW wide = true) (hv : isV vars = true) (t twice : List PV) (one : Bool) : ∀ (m n : Nat) (st : List W), (vars - st.length).toNat ≤ m → m < n → (st.length : Int) ≤ vars → (∀ a ∈ st, a ≤ mk wide) →
    ∃ (s2 : List W) (n2 : Nat), L6_3 k n (encB code) wide vars t one twice true st.length (st.length : Int) (encW st) = L6_3 k (n2 + 1) (encB code) wide vars t one twice true s2.length (s2.length : Int) (encW s2) ∧ (s2.length : Int) = vars ∧ ∀ a ∈ s2, a ≤ mk wide
  | m, 0, st, h1, h2, h3, h4 => by omega
  | m, n + 1, st, h1, h2, h3, h4 => by
    have hv' := isV_iff.1 hv
    by_cases hlt : (st.length : Int) < vars
    · have hd : decide ((st.length : Int) < vars) = true := by simpa using hlt
      obtain ⟨x, hx, hF⟩ := cut_number (k := k) hk hm wide hw (α := Nat) (j := st.length) (by omega)
      rw [sL6_3, hd]
      simp only [cond_true]
      rw [hF]
      simp only [Bool.not_true, cond_false]
      rw [lim_ok (by omega) (by omega), i64_id (by omega) (by omega)]
      simp only [cond_true]
      have e2 : (encW st).take st.length = encW st := by rw [List.take_of_length_le (by simp)]
      rw [e2, encW_snoc]
      have e3 : st.length + 1 = (st ++ [x]).length := by simp
      have e4 : (st.length : Int) + 1 = ((st ++ [x]).length : Int) := by simp
      rw [e3, e4]
      cases m with
      | zero => omega
      | succ m =>
        refine turn_state hk hm wide vars hw hv t twice one m n (st ++ [x]) (by simp; omega) (by omega) (by simp; omega) ?_
        intro b hb
        rcases List.mem_append.1 hb with hb | hb
        · exact h4 b hb
        · simp at hb; subst hb; exact hx
    · exact ⟨st, n, rfl, by omega, h4⟩
theorem good_size {wide vars : Int} {t : List Nd} (h : goodT wide vars t = true) : isW wide = true ∧ isV vars = true := by
  have hsz := (goodT_iff.1 h).1
  simp only [sizeT, Bool.and_eq_true] at hsz
  exact ⟨hsz.1.1.1, hsz.1.1.2⟩
theorem turn_parts {wide vars op : Int} {t : List Nd} (h : turnOK wide vars op t = true) : (op = 13 ∨ op = 19) ∧ goodT wide vars t = true ∧ goodT wide vars (turnT op t) = true := by
  simp only [turnOK, Bool.and_eq_true, decide_eq_true_eq] at h
  exact ⟨h.1.1, h.1.2, h.2⟩
theorem join_none (k n : Nat) (code more : List PV) (wide vars op : Int) (a b j : List PV) (sl : Nat) (k1 : Int) (xs : List PV) : L6_1 k (n + 1) code more wide vars op a b j false sl k1 xs = J6_2 k code more := by
  rw [sL6_1]
  simp only [cond_false]
theorem turn_end {k : Nat} (hk : 1048650 ≤ k) {code more : List Nat} (hc : CodeOK code) (hm : CodeOK more) : J6_2 k (encB code) (encB more) = r6 true := by
  obtain ⟨k, rfl⟩ : ∃ j, k = j + 1 := ⟨k - 1, by omega⟩
  rw [sJ6_2]
  obtain ⟨wide, vars, op, t, h, ht⟩ := drawTurn_ok hm (k := k + 1) (by omega)
  rw [h]
  simp only [R35_r]
  rw [turnTerm_ok (by omega) _ _ _ _ (by omega), turnTermS_ok (by omega) _ _ _ _ (by omega)]
  simp only [R36_r, R37_r, beq_self_eq_true, Bool.not_true, cond_false]
  have e1 : (bif turnOK wide vars op t then encT (turnT op t) else []) = encT (bif turnOK wide vars op t then turnT op t else []) := by cases turnOK wide vars op t <;> rfl
  have hlen : (bif turnOK wide vars op t then turnT op t else []).length ≤ 101 := by cases turnOK wide vars op t <;> simp [turnT]; omega
  rw [e1, sameNodes_ok (by omega) _ _ (by omega)]
  simp only [R24_r, decide_true, Bool.not_true, cond_false]
  rw [turnTerm_ok (by omega) _ _ _ _ (by omega)]
  simp only [R36_r]
  cases h3 : turnOK wide vars op (bif turnOK wide vars op t then turnT op t else [])
  · rw [sL6_3]
    cases turnOK wide vars op t <;> rfl
  · obtain ⟨hop, hg1, hg2⟩ := turn_parts h3
    obtain ⟨hw, hv⟩ := good_size hg1
    simp only [cond_true]
    have hv' := isV_iff.1 hv
    obtain ⟨s2, n2, h4, h5, h6⟩ := turn_state (k := k + 1) (by omega) hc wide vars hw hv (encT t) (encT (turnT op (bif turnOK wide vars op t then turnT op t else []))) (turnOK wide vars op t) 5 (k + 1) [] (by simp; omega) (by omega) (by simp; omega) (by simp)
    have h4' : L6_3 (k + 1) (k + 1) (encB code) wide vars (encT t) (turnOK wide vars op t) (encT (turnT op (bif turnOK wide vars op t then turnT op t else []))) true 0 0 [] = _ := h4
    rw [h4', sL6_3]
    have hd : decide ((s2.length : Int) < vars) = false := by simp; omega
    rw [hd]
    cases h1 : turnOK wide vars op t
    · rfl
    · simp only [cond_true, cond_false]
      rw [h1] at hg1 hg2
      simp only [cond_true] at hg1 hg2
      have hg0 := (turn_parts h1).2.1
      obtain ⟨x, hx, hxo⟩ := good_value hg0 h5 h6
      have hy := turn_run hop hx
      have hz := turn_run hop hy
      have hsok := stateOK_of hw hv h5 h6
      have e2 : (encW s2).take s2.length = encW s2 := by rw [List.take_of_length_le (by simp)]
      rw [turn_twice hw hop (fit_mk hw hxo)] at hz
      rw [e2, valueOf_full (by omega) wide (turnT op (turnT op t)) (by simp [turnT]; omega) s2 (by omega) hsok (by rw [h5]; exact hg2) hz]
      simp only [R29p_r]
      rw [valueOf_full (by omega) wide t (by omega) s2 (by omega) hsok (by rw [h5]; exact hg0) hx]
      simp only [R29p_r, cond_true, beq_self_eq_true]
theorem join_end {k : Nat} (hk : 1048650 ≤ k) {code more : List Nat} (hc : CodeOK code) (hm : CodeOK more) (wide vars op : Int) (a b : List Nd) (ha : a.length ≤ 100) (hb : b.length ≤ 100) (hok : joinOK wide vars op a b = true) (st : List W) (hst : (st.length : Int) = vars) (hsg : ∀ x ∈ st, x ≤ mk wide) (n : Nat) :
    L6_1 k (n + 1) (encB code) (encB more) wide vars op (encT a) (encT b) (encT (joinT op a b)) true st.length (st.length : Int) (encW st) = r6 true := by
  have hok' := hok
  simp only [joinOK, Bool.and_eq_true, decide_eq_true_eq] at hok'
  obtain ⟨⟨⟨hn, hga⟩, hgb⟩, hgj⟩ := hok'
  obtain ⟨hw, hv⟩ := good_size hga
  have hv' := isV_iff.1 hv
  obtain ⟨x, hx, hxo⟩ := good_value hga hst hsg
  obtain ⟨y, hy, hyo⟩ := good_value hgb hst hsg
  have hz := join_run hn hx hy
  have hxm := fit_mk hw hxo
  have hym := fit_mk hw hyo
  have hsok := stateOK_of hw hv hst hsg
  have e2 : (encW st).take st.length = encW st := by rw [List.take_of_length_le (by simp)]
  have hd : decide ((st.length : Int) < vars) = false := by simp; omega
  have hJ := turn_end hk hc hm
  have vj := valueOf_full (k := k) (by omega) wide (joinT op a b) (by simp [joinT]; omega) st (by omega) hsok (by rw [hst]; exact hgj) hz
  have va := valueOf_full (k := k) (by omega) wide a (by omega) st (by omega) hsok (by rw [hst]; exact hga) hx
  have vb := valueOf_full (k := k) (by omega) wide b (by omega) st (by omega) hsok (by rw [hst]; exact hgb) hy
  have hadd := addWord_ok (k := k) (by omega) hw hxm hym
  have hless := lessSigned_ok (k := k) (by omega) hw hxm hym
  rw [sL6_1, hd, e2]
  simp only [cond_true, cond_false]
  rw [vj, R29p_r, va, R29p_r, vb, R29p_r, hadd, R33_r, hless, R34_r, hJ]
  simp only [Bool.not_true, cond_false, xor_wi, or_wi, wi_bne]
  by_cases h3 : op = 3
  · subst h3
    simp [apW, apRaw]
  · by_cases h10 : op = 10
    · subst h10
      simp [apW, apRaw, xor_fit hw hxm hym]
    · by_cases h16 : op = 16
      · subst h16
        simp [apW, apRaw, tr_fit hw, tr_one]
      · by_cases h18 : op = 18
        · subst h18
          simp [apW, apRaw, or_fit hw hxm hym]
        · have e3 : (op == 3) = false := by simpa using h3
          have e10 : (op == 10) = false := by simpa using h10
          have e16 : (op == 16) = false := by simpa using h16
          have e18 : (op == 18) = false := by simpa using h18
          simp only [e3, e10, e16, e18, cond_false]
theorem joined_true {k : Nat} (hk : 1048700 ≤ k) (code more : List Nat) (hc : ∀ b ∈ code, b < 256) (hm : ∀ b ∈ more, b < 256) : c6 k (encB code) (encB more) = r6 true := by
  obtain ⟨k, rfl⟩ : ∃ j, k = j + 1 := ⟨k - 1, by omega⟩
  rw [n6, big_ok (by omega)]
  simp only [R11_r]
  cases hbig : (decide (code.length > 1048576) || decide (more.length + code.length > 1048576))
  · simp only [cond_false]
    rw [Bool.or_eq_false_iff] at hbig
    have hl : code.length ≤ 1048576 ∧ more.length ≤ 1048576 := by
      have h1 := hbig.1
      have h2 := hbig.2
      simp at h1 h2
      omega
    have hcc : CodeOK code := ⟨hl.1, hc⟩
    have hmm : CodeOK more := ⟨hl.2, hm⟩
    obtain ⟨wide, vars, op, a, b, h, ha, hb⟩ := drawJoin_ok hcc (k := k) (by omega)
    rw [h]
    simp only [R30_r]
    rw [joinTerms_ok (by omega) _ _ _ _ _ (by omega) (by omega), joinTermsS_ok (by omega) _ _ _ _ _ (by omega) (by omega)]
    simp only [R31_r, R32_r, beq_self_eq_true, Bool.not_true, cond_false]
    have e1 : (bif joinOK wide vars op a b then encT (joinT op a b) else []) = encT (bif joinOK wide vars op a b then joinT op a b else []) := by cases joinOK wide vars op a b <;> rfl
    have hlen : (bif joinOK wide vars op a b then joinT op a b else []).length ≤ 201 := by cases joinOK wide vars op a b <;> simp [joinT]; omega
    rw [e1, sameNodes_ok (by omega) _ _ (by omega)]
    simp only [R24_r, decide_true, Bool.not_true, cond_false]
    cases hok : joinOK wide vars op a b
    · have hj := join_none k (k - 1) (encB code) (encB more) wide vars op (encT a) (encT b) (encT (bif false then joinT op a b else [])) 0 0 []
      rw [Nat.sub_add_cancel (by omega)] at hj
      rw [hj]
      exact turn_end (by omega) hcc hmm
    · have hok' := hok
      simp only [joinOK, Bool.and_eq_true, decide_eq_true_eq] at hok'
      obtain ⟨hw, hv⟩ := good_size hok'.1.1.2
      have hv' := isV_iff.1 hv
      simp only [cond_true]
      obtain ⟨s2, n2, h4, h5, h6⟩ := join_state (k := k) (by omega) hmm (encB code) wide vars op hw hv (encT a) (encT b) (encT (joinT op a b)) 5 k [] (by simp; omega) (by omega) (by simp; omega) (by simp)
      have h4' : L6_1 k k (encB code) (encB more) wide vars op (encT a) (encT b) (encT (joinT op a b)) true 0 0 [] = _ := h4
      rw [h4']
      exact join_end (by omega) hcc hmm wide vars op a b ha hb hok s2 h5 h6 n2
  · rfl
theorem lawFnJoined (code more : List Int) (hc : ∀ n ∈ code, (Lit.int .u8 n).wf = true) (hm : ∀ n ∈ more, (Lit.int .u8 n).wf = true) : Contract Try.prog 6 (([.row 0 0 (ints .u8 code), .row 0 0 (ints .u8 more)] : List PV).map .p) [] ([.c (.p (.bool true))], []) := by
  obtain ⟨e1, h1⟩ := ints_encB code hc
  obtain ⟨e2, h2⟩ := ints_encB more hm
  rw [e1, e2]
  exact evF_sound envOK pOK (T := T) hT 1048700 (joined_true (k := 1048700) (Nat.le_refl _) _ _ h1 h2)
end Go.Proofs.Ytnliglgellapdaa
