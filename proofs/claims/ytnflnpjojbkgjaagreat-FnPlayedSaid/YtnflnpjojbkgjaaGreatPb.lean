/- Good programs. -/
import Derived.Test.YtnflnpjojbkgjaaGreatPa
import Derived.Test.YtnflnpjojbkgjaaGreatKi
set_option linter.unusedVariables false
set_option linter.unusedSimpArgs false
set_option maxRecDepth 4000
namespace Go.Proofs.YtnflnpjojbkgjaaGreat
open Go.Dp

theorem kindT_size {wide vars : Int} {t : List Nd} (h : kindT wide vars t ≠ 0) : isW wide = true ∧ isV vars = true := by
  unfold kindT at h
  split at h
  · rename_i hs
    simp only [sizeT, Bool.and_eq_true] at hs
    exact hs.1.1
  · exact absurd rfl h
def goodChs (wide vars : Int) : Int → List Chg → Bool
  | _, [] => true
  | pv, x :: l => decide (0 ≤ x.v) && decide (x.v < vars) && decide (pv < x.v) && (kindT wide vars x.by1 == 1) && goodChs wide vars x.v l
def goodCmd (wide vars : Int) (c : Cmd) : Bool := (kindT wide vars c.wh == 2) && goodChs wide vars (-1) c.ch
def goodP (p : Prg) : Bool := (kindT p.wide p.vars p.start == 2) && decide (1 ≤ p.cmds.length) && decide (p.cmds.length ≤ 6) && p.cmds.all (goodCmd p.wide p.vars)
theorem goodChs_len {wide vars : Int} : ∀ {l : List Chg} {pv : Int}, -1 ≤ pv → goodChs wide vars pv l = true → l = [] ∨ (l.length : Int) ≤ vars - 1 - pv
  | [], pv, hp, h => .inl rfl
  | x :: l, pv, hp, h => by
    simp only [goodChs, Bool.and_eq_true, decide_eq_true_eq] at h
    obtain ⟨⟨⟨⟨h1, h2⟩, h3⟩, _⟩, h5⟩ := h
    right
    rcases goodChs_len (by omega) h5 with rfl | h6
    · simp; omega
    · simp; omega
def prevV (l : List Chg) (i : Nat) : Int := if i = 0 then -1 else match l[i - 1]? with | some x => x.v | none => -1
theorem cond_ok {k : Nat} (hk : 1000110 ≤ k) (wide vars : Int) (l1 l2 : List PV) (t : List Nd) (ht : t.length ≤ 100000) : c70 k wide vars l1 l2 (encT t) = r70 (kindT wide vars t == 2) := by
  obtain ⟨k, rfl⟩ : ∃ j, k = j + 1 := ⟨k - 1, by omega⟩
  rw [n70, isTermOf_ok (by omega) _ _ _ ht _ (by decide)]
  simp only [R153_r]
theorem asks_ok {k : Nat} (hk : 1000110 ≤ k) (wide vars : Int) (l1 l2 : List PV) (t : List Nd) (ht : t.length ≤ 100000) : c74 k wide vars l1 l2 (encT t) = r74 (kindT wide vars t == 2) := by
  obtain ⟨k, rfl⟩ : ∃ j, k = j + 1 := ⟨k - 1, by omega⟩
  rw [n74, l2Kind_ok (by omega) _ _ _ ht]
  simp only [R155_r]
theorem goodChs_at {wide vars : Int} {l : List Chg} {i : Nat} (h : i < l.length) : goodChs wide vars (prevV l i) (l.drop i) = (decide (0 ≤ l[i].v) && decide (l[i].v < vars) && decide (prevV l i < l[i].v) && (kindT wide vars l[i].by1 == 1) && goodChs wide vars (prevV l (i + 1)) (l.drop (i + 1))) := by
  rw [drop_cons h]
  have e : prevV l (i + 1) = l[i].v := by simp [prevV, h]
  rw [e]
  rfl
theorem isCommand_loop {k : Nat} (hk : 1000110 ≤ k) (wide vars : Int) (hv : vars ≤ 100) (l1 l2 : List PV) (qw : List PV) (l : List Chg) (hl : l.length ≤ 1000) (hb : ∀ x ∈ l, x.by1.length ≤ 100000) : ∀ (n i : Nat), l.length - i < n → i ≤ l.length →
    L131_1 k n (encChs l) (l.length : Int) (i : Int) wide vars l1 l2 qw (encChs l) = r131 (goodChs wide vars (prevV l i) (l.drop i))
  | 0, i, h, hi => by omega
  | n + 1, i, h, hi => by
    rw [sL131_1]
    by_cases hlt : i < l.length
    · have hd : decide ((i : Int) < (l.length : Int)) = true := by simpa using hlt
      rw [hd, lookP_nat, encChs_get, List.getElem?_eq_getElem hlt, goodChs_at hlt]
      simp only [cond_true, Option.map_some, Option.bind_some, encCh_shp, encCh_v, encCh_by]
      have hbi := hb l[i] (List.getElem_mem hlt)
      by_cases h0 : l[i].v < 0
      · have e1 : decide (l[i].v < 0) = true := by simpa using h0
        have e2 : decide (0 ≤ l[i].v) = false := by simp; omega
        simp only [e1, e2, cond_true, Bool.false_and]
      · have e1 : decide (l[i].v < 0) = false := by simpa using h0
        have e2 : decide (0 ≤ l[i].v) = true := by simp; omega
        simp only [e1, e2, cond_false, Bool.true_and]
        by_cases h1 : l[i].v ≥ vars
        · have e3 : decide (l[i].v ≥ vars) = true := by simpa using h1
          have e4 : decide (l[i].v < vars) = false := by simp; omega
          simp only [e3, e4, cond_true, Bool.false_and]
        · have e3 : decide (l[i].v ≥ vars) = false := by simpa using h1
          have e4 : decide (l[i].v < vars) = true := by simp; omega
          simp only [e3, e4, cond_false, Bool.true_and]
          have fin : (R153 (c153 k wide vars (encT l[i].by1) 1) fun b2 => bif !b2 then r131 false else L131_1 k n (encChs l) (l.length : Int) (IntKind.i64.wrap ((i : Int) + 1)) wide vars l1 l2 qw (encChs l)) = r131 ((kindT wide vars l[i].by1 == 1) && goodChs wide vars (prevV l (i + 1)) (l.drop (i + 1))) := by
            rw [isTermOf_ok (by omega) _ _ _ hbi _ (by decide)]
            simp only [R153_r]
            cases kindT wide vars l[i].by1 == 1
            · rfl
            · simp only [Bool.not_true, cond_false, Bool.true_and]
              rw [i64_id (by omega) (by omega)]
              exact isCommand_loop hk wide vars hv l1 l2 qw l hl hb n (i + 1) (by omega) (by omega)
          by_cases hi0 : i = 0
          · have e5 : decide ((i : Int) > 0) = false := by simp; omega
            have e6 : decide (prevV l i < l[i].v) = true := by
              have h9 : prevV l i = -1 := by simp [prevV, hi0]
              rw [h9]; simp; omega
            simp only [e5, e6, cond_false, Bool.true_and]
            exact fin
          · have e5 : decide ((i : Int) > 0) = true := by simp; omega
            have hlt1 : i - 1 < l.length := by omega
            rw [e5, i64_id (n := (i : Int) - 1) (by omega) (by omega), show (i : Int) - 1 = ((i - 1 : Nat) : Int) by omega, lookP_nat, encChs_get, List.getElem?_eq_getElem hlt1]
            simp only [cond_true, Option.map_some, Option.bind_some, encCh_v]
            have e6 : prevV l i = l[i - 1].v := by simp [prevV, hi0, hlt1]
            rw [e6]
            by_cases h2 : l[i - 1].v ≥ l[i].v
            · have e7 : decide (l[i - 1].v ≥ l[i].v) = true := by simpa using h2
              have e8 : decide (l[i - 1].v < l[i].v) = false := by simp; omega
              simp only [e7, e8, cond_true, Bool.false_and]
            · have e7 : decide (l[i - 1].v ≥ l[i].v) = false := by simpa using h2
              have e8 : decide (l[i - 1].v < l[i].v) = true := by simp; omega
              simp only [e7, e8, cond_false, Bool.true_and]
              exact fin
    · have hd : decide ((i : Int) < (l.length : Int)) = false := by simpa using hlt
      rw [hd, List.drop_eq_nil_of_le (by omega)]
      rfl
theorem isCommand_ok {k : Nat} (hk : 1000120 ≤ k) (wide vars : Int) (hv : vars ≤ 100) (l1 l2 : List PV) (c : Cmd) (hw : c.wh.length ≤ 100000) (hl : c.ch.length ≤ 1000) (hb : ∀ x ∈ c.ch, x.by1.length ≤ 100000) :
    c131 k wide vars l1 l2 (encT c.wh) (encChs c.ch) = r131 (goodCmd wide vars c) := by
  obtain ⟨k, rfl⟩ : ∃ j, k = j + 1 := ⟨k - 1, by omega⟩
  rw [n131, cond_ok (by omega) _ _ _ _ _ hw, encChs_length]
  simp only [R70_r]
  unfold goodCmd
  cases kindT wide vars c.wh == 2
  · rfl
  · simp only [Bool.not_true, cond_false, Bool.true_and]
    exact isCommand_loop (by omega) wide vars hv l1 l2 (encT c.wh) c.ch hl hb k 0 (by omega) (by omega)
theorem l7Command_loop {k : Nat} (hk : 1000110 ≤ k) (wide vars : Int) (hv : 0 ≤ vars ∧ vars ≤ 100) (l1 l2 : List PV) (qw : List PV) (l : List Chg) (hl : l.length ≤ 1000) (hb : ∀ x ∈ l, x.by1.length ≤ 100000) : ∀ (n i : Nat), l.length - i < n → i ≤ l.length →
    L132_1 k n (encChs l) (l.length : Int) (i : Int) wide vars l1 l2 qw (encChs l) = r132 (goodChs wide vars (prevV l i) (l.drop i))
  | 0, i, h, hi => by omega
  | n + 1, i, h, hi => by
    rw [sL132_1]
    by_cases hlt : i < l.length
    · have hd : decide ((i : Int) < (l.length : Int)) = true := by simpa using hlt
      rw [hd, lookP_nat, encChs_get, List.getElem?_eq_getElem hlt, goodChs_at hlt]
      simp only [cond_true, Option.map_some, Option.bind_some, encCh_shp, encCh_v, encCh_by]
      have hbi := hb l[i] (List.getElem_mem hlt)
      rw [in_ok (by omega), i64_id (n := vars - 1) (by omega) (by omega)]
      simp only [R101_r]
      have ein : (decide (0 ≤ l[i].v) && decide (l[i].v ≤ vars - 1)) = (decide (0 ≤ l[i].v) && decide (l[i].v < vars)) := by
        congr 1
        rw [decide_eq_decide]
        omega
      rw [ein]
      cases hin : (decide (0 ≤ l[i].v) && decide (l[i].v < vars))
      · simp only [Bool.not_false, cond_true, Bool.false_and]
      · simp only [Bool.not_true, cond_false, Bool.true_and]
        have fin : (R155 (c155 k wide vars (encT l[i].by1)) fun v2 => bif (v2 != 1) then r132 false else L132_1 k n (encChs l) (l.length : Int) (IntKind.i64.wrap ((i : Int) + 1)) wide vars l1 l2 qw (encChs l)) = r132 ((kindT wide vars l[i].by1 == 1) && goodChs wide vars (prevV l (i + 1)) (l.drop (i + 1))) := by
          rw [l2Kind_ok (by omega) _ _ _ hbi]
          simp only [R155_r, bne]
          cases kindT wide vars l[i].by1 == 1
          · rfl
          · simp only [Bool.not_true, cond_false, Bool.true_and]
            rw [i64_id (by omega) (by omega)]
            exact l7Command_loop hk wide vars hv l1 l2 qw l hl hb n (i + 1) (by omega) (by omega)
        by_cases hi0 : i = 0
        · have e5 : decide ((i : Int) > 0) = false := by simp; omega
          have e6 : decide (prevV l i < l[i].v) = true := by
            have h9 : prevV l i = -1 := by simp [prevV, hi0]
            simp at hin
            rw [h9]; simp; omega
          simp only [e5, e6, cond_false, Bool.true_and]
          exact fin
        · have e5 : decide ((i : Int) > 0) = true := by simp; omega
          have hlt1 : i - 1 < l.length := by omega
          rw [e5, i64_id (n := (i : Int) - 1) (by omega) (by omega), show (i : Int) - 1 = ((i - 1 : Nat) : Int) by omega, lookP_nat, encChs_get, List.getElem?_eq_getElem hlt1]
          simp only [cond_true, Option.map_some, Option.bind_some, encCh_v]
          have e6 : prevV l i = l[i - 1].v := by simp [prevV, hi0, hlt1]
          rw [e6]
          by_cases h2 : l[i - 1].v ≥ l[i].v
          · have e7 : decide (l[i - 1].v ≥ l[i].v) = true := by simpa using h2
            have e8 : decide (l[i - 1].v < l[i].v) = false := by simp; omega
            simp only [e7, e8, cond_true, Bool.false_and]
          · have e7 : decide (l[i - 1].v ≥ l[i].v) = false := by simpa using h2
            have e8 : decide (l[i - 1].v < l[i].v) = true := by simp; omega
            simp only [e7, e8, cond_false, Bool.true_and]
            exact fin
    · have hd : decide ((i : Int) < (l.length : Int)) = false := by simpa using hlt
      rw [hd, List.drop_eq_nil_of_le (by omega)]
      rfl
theorem l7Command_ok {k : Nat} (hk : 1000120 ≤ k) (wide vars : Int) (hv : vars ≤ 100) (l1 l2 : List PV) (c : Cmd) (hw : c.wh.length ≤ 100000) (hl : c.ch.length ≤ 1000) (hb : ∀ x ∈ c.ch, x.by1.length ≤ 100000) :
    c132 k wide vars l1 l2 (encT c.wh) (encChs c.ch) = r132 (goodCmd wide vars c) := by
  obtain ⟨k, rfl⟩ : ∃ j, k = j + 1 := ⟨k - 1, by omega⟩
  rw [n132, asks_ok (by omega) _ _ _ _ _ hw, encChs_length]
  simp only [R74_r]
  unfold goodCmd
  cases hkd : kindT wide vars c.wh == 2
  · rfl
  · simp only [Bool.not_true, cond_false, Bool.true_and]
    have hvv := isV_iff.1 (kindT_size (wide := wide) (vars := vars) (t := c.wh) (by rw [beq_iff_eq] at hkd; rw [hkd]; decide)).2
    by_cases hln : (c.ch.length : Int) > vars
    · have e1 : decide ((c.ch.length : Int) > vars) = true := by simpa using hln
      rw [e1]
      simp only [cond_true]
      congr 1
      cases hg : goodChs wide vars (-1) c.ch
      · rfl
      · rcases goodChs_len (by omega) hg with h | h
        · rw [h] at hln; simp at hln; omega
        · omega
    · have e1 : decide ((c.ch.length : Int) > vars) = false := by simpa using hln
      rw [e1]
      simp only [cond_false]
      exact l7Command_loop (by omega) wide vars (by omega) l1 l2 (encT c.wh) c.ch hl hb k 0 (by omega) (by omega)
theorem cmds_loop {k : Nat} (hk : 1000130 ≤ k) (wide vars : Int) (hv : vars ≤ 100) (l1 l2 : List PV) (l : List Cmd) (hl : l.length ≤ 1000) (hf : ∀ c ∈ l, FitC 6 c) : ∀ (n i : Nat), l.length - i < n → i ≤ l.length →
    ∃ v, L181_1 k n (encCms l) (l.length : Int) (i : Int) wide vars l1 l2 = r181 wide vars l1 l2 v ∧ decide (v ≥ 0) = (l.drop i).any (fun c => !goodCmd wide vars c)
  | 0, i, h, hi => by omega
  | n + 1, i, h, hi => by
    rw [sL181_1]
    by_cases hlt : i < l.length
    · have hd : decide ((i : Int) < (l.length : Int)) = true := by simpa using hlt
      obtain ⟨k, rfl⟩ : ∃ j, k = j + 1 := ⟨k - 1, by omega⟩
      have hfi := hf l[i] (List.getElem_mem hlt)
      rw [hd, lookP_nat, encCms_get, List.getElem?_eq_getElem hlt]
      simp only [cond_true, Option.map_some, Option.bind_some, encCm_shp, encCm_wh, encCm_ch]
      rw [n130, isCommand_ok (by omega) wide vars hv l1 l2 l[i] (by have := hfi.wh; omega) (by have := hfi.ch; omega) (fun x hx => by have := hfi.by1 x hx; omega)]
      simp only [R131_r, R130_r]
      rw [drop_cons hlt, List.any_cons]
      cases hne : goodCmd wide vars l[i]
      · simp only [Bool.not_false, cond_true, Bool.true_or]
        exact ⟨_, rfl, by simp⟩
      · simp only [Bool.not_true, cond_false, Bool.false_or]
        rw [i64_id (by omega) (by omega)]
        exact cmds_loop (k := k + 1) (by omega) wide vars hv l1 l2 l hl hf n (i + 1) (by omega) (by omega)
    · have hd : decide ((i : Int) < (l.length : Int)) = false := by simpa using hlt
      rw [hd, List.drop_eq_nil_of_le (by omega)]
      exact ⟨_, rfl, by simp⟩
theorem goodProgram_ok {k : Nat} (hk : 1000200 ≤ k) (p : Prg) (hp : FitP p) : c44 k p.wide p.vars (encT p.start) (encCms p.cmds) = r44 (goodP p) := by
  obtain ⟨k, rfl⟩ : ∃ j, k = j + 3 := ⟨k - 3, by omega⟩
  have hst := hp.st
  have hcm := hp.cm
  rw [n44, isWide_ok (by omega), isVars_ok (by omega), cond_ok (by omega) _ _ _ _ _ (by omega)]
  simp only [R104_r, R128_r, R70_r, encCms_length]
  unfold goodP
  cases hkd : kindT p.wide p.vars p.start == 2
  · simp only [Bool.not_false, cond_true, Bool.false_and]
    cases isW p.wide <;> cases isV p.vars <;> rfl
  · obtain ⟨hw, hv⟩ := kindT_size (wide := p.wide) (vars := p.vars) (t := p.start) (by rw [beq_iff_eq] at hkd; rw [hkd]; decide)
    rw [hw, hv]
    simp only [Bool.not_true, cond_false, Bool.true_and]
    by_cases h1 : (p.cmds.length : Int) < 1
    · have e1 : decide ((p.cmds.length : Int) < 1) = true := by simpa using h1
      have e2 : decide (1 ≤ p.cmds.length) = false := by rw [decide_eq_false_iff_not]; omega
      simp only [e1, e2, cond_true, Bool.false_and]
    · have e1 : decide ((p.cmds.length : Int) < 1) = false := by simpa using h1
      have e2 : decide (1 ≤ p.cmds.length) = true := by rw [decide_eq_true_eq]; omega
      have e3 : decide ((p.cmds.length : Int) > 6) = false := by simp; omega
      have e4 : decide (p.cmds.length ≤ 6) = true := by simp; omega
      simp only [e1, e2, e3, e4, cond_false, Bool.true_and]
      obtain ⟨v, h, hv2⟩ := cmds_loop (k := k) (by omega) p.wide p.vars (by have := hp.v; omega) (encT p.start) (encCms p.cmds) p.cmds (by omega) hp.c k 0 (by omega) (by omega)
      have h' : L181_1 k k (encCms p.cmds) (p.cmds.length : Int) 0 p.wide p.vars (encT p.start) (encCms p.cmds) = _ := h
      rw [n129, n181, encCms_length, h']
      simp only [R181_r, R129_r, hv2, List.drop_zero]
      congr 1
      rw [List.all_eq_not_any_not]
theorem goodS_loop {k : Nat} (hk : 1000130 ≤ k) (wide vars : Int) (hv : vars ≤ 100) (l1 l2 : List PV) (l : List Cmd) (hl : l.length ≤ 1000) (hf : ∀ c ∈ l, FitC 6 c) : ∀ (n i : Nat), l.length - i < n → i ≤ l.length →
    L45_1 k n (encCms l) (l.length : Int) (i : Int) wide vars l1 l2 = r45 ((l.drop i).all (goodCmd wide vars))
  | 0, i, h, hi => by omega
  | n + 1, i, h, hi => by
    rw [sL45_1]
    by_cases hlt : i < l.length
    · have hd : decide ((i : Int) < (l.length : Int)) = true := by simpa using hlt
      have hfi := hf l[i] (List.getElem_mem hlt)
      rw [hd, lookP_nat, encCms_get, List.getElem?_eq_getElem hlt]
      simp only [cond_true, Option.map_some, Option.bind_some, encCm_shp, encCm_wh, encCm_ch]
      rw [l7Command_ok (by omega) wide vars hv l1 l2 l[i] (by have := hfi.wh; omega) (by have := hfi.ch; omega) (fun x hx => by have := hfi.by1 x hx; omega)]
      simp only [R132_r]
      rw [drop_cons hlt, List.all_cons]
      cases hne : goodCmd wide vars l[i]
      · rfl
      · simp only [Bool.not_true, cond_false, Bool.true_and]
        rw [i64_id (by omega) (by omega)]
        exact goodS_loop hk wide vars hv l1 l2 l hl hf n (i + 1) (by omega) (by omega)
    · have hd : decide ((i : Int) < (l.length : Int)) = false := by simpa using hlt
      rw [hd, List.drop_eq_nil_of_le (by omega)]
      rfl
theorem goodProgramS_ok {k : Nat} (hk : 1000200 ≤ k) (p : Prg) (hp : FitP p) : c45 k p.wide p.vars (encT p.start) (encCms p.cmds) = r45 (goodP p) := by
  obtain ⟨k, rfl⟩ : ∃ j, k = j + 1 := ⟨k - 1, by omega⟩
  have hst := hp.st
  have hcm := hp.cm
  rw [n45, asks_ok (by omega) _ _ _ _ _ (by omega)]
  simp only [R74_r, encCms_length]
  unfold goodP
  cases hkd : kindT p.wide p.vars p.start == 2
  · rfl
  · simp only [Bool.not_true, cond_false, Bool.true_and]
    rw [in_ok (by omega)]
    simp only [R101_r]
    have e1 : (decide ((1 : Int) ≤ (p.cmds.length : Int)) && decide ((p.cmds.length : Int) ≤ 6)) = (decide (1 ≤ p.cmds.length) && decide (p.cmds.length ≤ 6)) := by
      congr 1 <;> rw [decide_eq_decide] <;> omega
    rw [e1]
    cases decide (1 ≤ p.cmds.length) && decide (p.cmds.length ≤ 6)
    · rfl
    · simp only [Bool.not_true, cond_false, Bool.true_and]
      exact goodS_loop (by omega) p.wide p.vars (by have := hp.v; omega) (encT p.start) (encCms p.cmds) p.cmds (by omega) hp.c k 0 (by omega) (by omega)
theorem goodP_size {p : Prg} (h : goodP p = true) : isW p.wide = true ∧ isV p.vars = true := by
  simp only [goodP, Bool.and_eq_true, beq_iff_eq] at h
  exact kindT_size (t := p.start) (by omega)
end Go.Proofs.YtnflnpjojbkgjaaGreat
