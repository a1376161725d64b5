/- The law FnBackAndForth of the program: for all arguments it returns true, and its arguments read as they did. -/
import Derived.Test.YtcamhbchcjpjiaaGreatM4
import Derived.Test.YtcamhbchcjpjiaaGreatM2
import Derived.Test.YtcamhbchcjpjiaaGreatRows
import Derived.WalkKit
import Derived.ProofKit
import Derived.OpenShut
import Derived.ShutString
import Derived.ChangeOld
import Derived.Below
import Derived.SizedLaws
/- Steps between numbered states. -/
set_option linter.unusedVariables false
set_option linter.unusedSimpArgs false
set_option maxRecDepth 4000
namespace Go.Proofs.YtcamhbchcjpjiaaGreat
open Go.Dp

/-! ### Where a command leads -/
def aft (p : Prg) (c : Cmd) (no : Int) : List W := afterS p.wide (sto p no) c.ch (sto p no)
def toN (p : Prg) (c : Cmd) (no : Int) : Int := (noOf (pw p) (aft p c no) : Nat)
theorem toN_ok {p : Prg} (hp : FitP p) (hs : smallP p = true) {k1 : Int} (hn : cnoOK p k1 = true) {no : Int} (hi : inS p no) : stOK p (aft p (cmdAt p k1) no) = true ∧ inS p (toN p (cmdAt p k1) no) ∧ sto p (toN p (cmdAt p k1) no) = aft p (cmdAt p k1) no := by
  obtain ⟨hw, hv, _, _, _, _, hx⟩ := good_cmd hp (k1 := k1) (by simp [tOK, small_good hs, hn])
  obtain ⟨h1, h2⟩ := (stOK_of hw).1 (sto_ok hs hi)
  have h3 : stOK p (aft p (cmdAt p k1) no) = true := (stOK_of hw).2 ⟨by rw [aft, afterS_length]; exact h1, afterS_all h1 h2 _ _ (fun x h => (hx x h).2.2) h2⟩
  exact ⟨h3, no_inS hs h3⟩
theorem afterN_ok {k : Nat} (hk : 1000020 ≤ k) {p : Prg} (hp : FitP p) (hs : smallP p = true) {k1 : Int} (hn : cnoOK p k1 = true) (l1 l2 l3 : List PV) {no : Int} (hi : inS p no) : c110 k p.wide p.vars l1 l2 l3 (encChs (cmdAt p k1).ch) (encW (sto p no)) = r110 (encW (aft p (cmdAt p k1) no)) := by
  obtain ⟨hw, hv, _, _, hf, _, hx⟩ := good_cmd hp (k1 := k1) (by simp [tOK, small_good hs, hn])
  have hso := sto_ok hs hi
  obtain ⟨h1, h2⟩ := (stOK_of hw).1 hso
  have hsl := st_len hp hso
  have hfc := hf.ch
  exact after_ok (by omega) p hw l1 l2 l3 _ (by omega) h1 h2 _ (by omega) (fun x h => ⟨(hx x h).1, (hx x h).2.1, (hx x h).2.2, hf.by1 x h⟩)
theorem doN_ok {k : Nat} (hk : 1000020 ≤ k) {p : Prg} (hp : FitP p) (hs : smallP p = true) {k1 : Int} (hn : cnoOK p k1 = true) (l1 : List PV) {no : Int} (hi : inS p no) : c117 k p.wide p.vars l1 (encCms p.cmds) (encW (sto p no)) k1 = r117 (encW (aft p (cmdAt p k1) no)) := by
  obtain ⟨k, rfl⟩ : ∃ j, k = j + 1 := ⟨k - 1, by omega⟩
  obtain ⟨hw, hv, _, _, hf, _, hx⟩ := good_cmd hp (k1 := k1) (by simp [tOK, small_good hs, hn])
  have hso := sto_ok hs hi
  obtain ⟨h1, h2⟩ := (stOK_of hw).1 hso
  have hsl := st_len hp hso
  have hfc := hf.ch
  obtain ⟨hget, hm⟩ := cmdAt_get hn
  rw [n117, hget, encW_length, lim_ok (by omega) (by omega)]
  simp only [cond_true, Option.bind_some, encCm_ch, encChs_length, List.nil_append, Nat.zero_add]
  have := do_loop (k := k) (by omega) p hw l1 (encCms p.cmds) _ h1 h2 (cmdAt p k1).ch (by omega) (fun x h => ⟨(hx x h).1, (hx x h).2.1, (hx x h).2.2, hf.by1 x h⟩) k 0 _ (by omega) (by omega) rfl
  exact this
theorem cmd_kind {p : Prg} (hp : FitP p) (hs : smallP p = true) {k1 : Int} (hn : cnoOK p k1 = true) : (cmdAt p k1).wh.length ≤ 100 ∧ kindT p.wide p.vars (cmdAt p k1).wh = 2 := by
  obtain ⟨hw, hv, _, _, hf, h1, hx⟩ := good_cmd hp (k1 := k1) (by simp [tOK, small_good hs, hn])
  exact ⟨hf.wh, h1⟩
end Go.Proofs.YtcamhbchcjpjiaaGreat
/- The states that one step reaches: both sides; those of many states, the reference's reachable ones. -/
set_option linter.unusedVariables false
set_option linter.unusedSimpArgs false
set_option maxRecDepth 4000
namespace Go.Proofs.YtcamhbchcjpjiaaGreat
open Go.Dp

/-! ### Successors -/
def sucL (p : Prg) (no : Int) : List Cmd → List Int
  | [] => []
  | c :: l => (bif hN p c.wh no then [toN p c no] else []) ++ sucL p no l
theorem sucL_len (p : Prg) (no : Int) : ∀ l : List Cmd, (sucL p no l).length ≤ l.length
  | [] => by simp [sucL]
  | c :: l => by
    have := sucL_len p no l
    simp only [sucL, List.length_append, List.length_cons]
    cases hN p c.wh no <;> simp <;> omega
theorem sucL_mem (p : Prg) (no : Int) : ∀ (l : List Cmd) (y : Int), y ∈ sucL p no l ↔ ∃ c ∈ l, hN p c.wh no = true ∧ y = toN p c no
  | [], y => by simp [sucL]
  | c :: l, y => by
    simp only [sucL, List.mem_append, sucL_mem p no l y]
    cases hh : hN p c.wh no <;> simp [hh]
def nxL (p : Prg) (no : Int) : List Int := bif (sucL p no p.cmds).isEmpty then [no] else canI (sucL p no p.cmds)
theorem canI_nil' {l : List Int} (h : l ≠ []) : canI l ≠ [] := by
  intro h2
  obtain ⟨x, hx⟩ := List.exists_mem_of_ne_nil _ h
  have := ((canI_spec l).2 x).2 hx
  rw [h2] at this
  cases this
theorem cmd_at {p : Prg} {i : Nat} (h : i < p.cmds.length) : cmdAt p (i : Int) = p.cmds[i] ∧ cnoOK p (i : Int) = true := by
  refine ⟨?_, by simp [cnoOK, h]⟩
  unfold cmdAt
  rw [Int.toNat_natCast, List.getElem?_eq_getElem h]
  rfl
theorem nxL_mem {p : Prg} {no y : Int} : y ∈ nxL p no ↔ (∃ c ∈ p.cmds, hN p c.wh no = true ∧ y = toN p c no) ∨ ((∀ c ∈ p.cmds, hN p c.wh no = false) ∧ y = no) := by
  unfold nxL
  cases he : (sucL p no p.cmds).isEmpty
  · have hne : sucL p no p.cmds ≠ [] := by intro h; rw [h] at he; cases he
    simp only [cond_false]
    rw [(canI_spec _).2 y, sucL_mem]
    constructor
    · exact .inl
    · rintro (h | ⟨h, _⟩)
      · exact h
      · obtain ⟨x, hx⟩ := List.exists_mem_of_ne_nil _ hne
        obtain ⟨c, hc, h2, _⟩ := (sucL_mem p no p.cmds x).1 hx
        rw [h c hc] at h2
        cases h2
  · have hnil : sucL p no p.cmds = [] := by simpa using he
    simp only [cond_true, List.mem_singleton]
    have hno : ∀ c ∈ p.cmds, hN p c.wh no = false := by
      intro c hc
      cases hh : hN p c.wh no
      · rfl
      · have : toN p c no ∈ sucL p no p.cmds := (sucL_mem p no p.cmds _).2 ⟨c, hc, hh, rfl⟩
        rw [hnil] at this
        cases this
    constructor
    · exact fun h => .inr ⟨hno, h⟩
    · rintro (⟨c, hc, h2, _⟩ | ⟨_, h⟩)
      · rw [hno c hc] at h2; cases h2
      · exact h
theorem nxL_lt (p : Prg) (no : Int) : (nxL p no).Pairwise (· < ·) := by
  unfold nxL
  cases (sucL p no p.cmds).isEmpty
  · exact (canI_spec _).1
  · simp
theorem nxL_len {p : Prg} (hp : FitP p) (no : Int) : (nxL p no).length ≤ 6 := by
  have hcm := hp.cm
  unfold nxL
  cases (sucL p no p.cmds).isEmpty
  · have h1 := canI_len (sucL p no p.cmds)
    have h2 := sucL_len p no p.cmds
    simp only [cond_false]; omega
  · simp
theorem nxL_in {p : Prg} (hp : FitP p) (hs : smallP p = true) {no : Int} (hi : inS p no) : ∀ y ∈ nxL p no, inS p y := by
  intro y hy
  rcases nxL_mem.1 hy with ⟨c, hc, _, rfl⟩ | ⟨_, rfl⟩
  · obtain ⟨i, hil, rfl⟩ := List.getElem_of_mem hc
    obtain ⟨e, hn⟩ := cmd_at hil
    rw [← e]
    exact (toN_ok hp hs hn hi).2.1
  · exact hi
theorem nextI_loop {k : Nat} (hk : 1000100 ≤ k) {p : Prg} (hp : FitP p) (hs : smallP p = true) {no : Int} (hi : inS p no) (l1 : List PV) : ∀ (n i : Nat) (o : List Int), p.cmds.length - i < n → i ≤ p.cmds.length → o.length ≤ i →
    L53_1 k n no (encW (sto p no)) o.length (encCms p.cmds) (p.cmds.length : Int) (i : Int) p.wide p.vars l1 (encCms p.cmds) (encZ o) = r53 (encZ (bif (o ++ sucL p no (p.cmds.drop i)).isEmpty then [no] else canI (o ++ sucL p no (p.cmds.drop i))))
  | 0, i, o, h, hj, ho => by omega
  | n + 1, i, o, h, hj, ho => by
    have hcm := hp.cm
    have etk : (encZ o).take o.length = encZ o := by rw [List.take_of_length_le (by simp)]
    rw [sL53_1]
    by_cases hlt : i < p.cmds.length
    · have hd : decide ((i : Int) < (p.cmds.length : Int)) = true := by simpa using hlt
      have hnext : IntKind.i64.wrap ((i : Int) + 1) = ((i + 1 : Nat) : Int) := by rw [i64_id (by omega) (by omega)]; omega
      obtain ⟨e, hn⟩ := cmd_at hlt
      obtain ⟨hwl, hwk⟩ := cmd_kind hp hs hn
      rw [hd, lookP_nat, encCms_get, List.getElem?_eq_getElem hlt, drop_cons hlt, hnext, ← e]
      simp only [cond_true, Option.map_some, Option.bind_some, encCm_shp, encCm_wh, encCm_ch]
      rw [holdsI_ok (by omega) p (small_good hs) _ _ _ hwl hwk _ (sto_ok hs hi)]
      simp only [R51_r, sucL]
      change (bif hN p (cmdAt p (i : Int)).wh no then _ else _) = _
      cases hh : hN p (cmdAt p (i : Int)).wh no
      · simp only [cond_false, List.nil_append]
        exact nextI_loop hk hp hs hi l1 n (i + 1) o (by omega) (by omega) (by omega)
      · simp only [cond_true]
        rw [afterN_ok (by omega) hp hs hn _ _ _ hi]
        simp only [R110_r]
        rw [noI_ok (by omega) hs _ _ (toN_ok hp hs hn hi).1]
        simp only [R109_r]
        rw [lim_ok (by omega) (by omega), etk, encZ_snoc]
        simp only [cond_true]
        have := nextI_loop hk hp hs hi l1 n (i + 1) (o ++ [toN p (cmdAt p (i : Int)) no]) (by omega) (by omega) (by simp; omega)
        rw [List.length_append, List.append_assoc] at this
        exact this
    · have hd : decide ((i : Int) < (p.cmds.length : Int)) = false := by simpa using hlt
      have hol : decide (o.length ≤ LIM) = true := decide_eq_true (by unfold LIM; omega)
      have ed : p.cmds.drop i = [] := List.drop_eq_nil_of_le (by omega)
      rw [hd, ed]
      simp only [cond_false, sucL, List.append_nil]
      cases o with
      | nil => rfl
      | cons x o =>
        have e0 : (((x :: o).length : Int) == 0) = false := by simp; omega
        rw [e0, etk, intsOf_enc, hol]
        simp only [cond_false, cond_true, Option.bind_some]
        rw [sort_view, intsOf_enc]
        simp only [Option.bind_some]
        rw [comp_view]
        rfl
theorem nextI_ok {k : Nat} (hk : 1000200 ≤ k) {p : Prg} (hp : FitP p) (hs : smallP p = true) {no : Int} (hi : inS p no) (l1 : List PV) : c53 k p.wide p.vars l1 (encCms p.cmds) no = r53 (encZ (nxL p no)) := by
  obtain ⟨k, rfl⟩ : ∃ j, k = j + 1 := ⟨k - 1, by omega⟩
  have hcm := hp.cm
  rw [n53, stoI_ok (by omega) hs _ _ hi]
  simp only [R52_r, encCms_length]
  exact nextI_loop (k := k) (by omega) hp hs hi l1 k 0 [] (by omega) (by omega) (by simp)
theorem sucE (p : Prg) (no : Int) : ∀ (i : Nat), i ≤ p.cmds.length → (enL p (sto p no) i (p.cmds.drop i)).map (fun j => toN p (cmdAt p j) no) = sucL p no (p.cmds.drop i) := by
  intro i hi
  generalize hm : p.cmds.length - i = m
  induction m generalizing i with
  | zero => rw [List.drop_eq_nil_of_le (by omega)]; rfl
  | succ m ih =>
    have hlt : i < p.cmds.length := by omega
    rw [drop_cons hlt]
    simp only [enL, sucL, List.map_append, ih (i + 1) (by omega) (by omega)]
    congr 1
    obtain ⟨e, _⟩ := cmd_at hlt
    change (bif hN p p.cmds[i].wh no then [(i : Int)] else []).map _ = _
    cases hN p p.cmds[i].wh no
    · rfl
    · simp [e]
theorem nextS_loop {k : Nat} (hk : 1000100 ≤ k) {p : Prg} (hp : FitP p) (hs : smallP p = true) {no : Int} (hi : inS p no) (l1 : List PV) (en : List Int) (hen : en.length ≤ 100) (hin : ∀ j ∈ en, cnoOK p j = true) : ∀ (n i : Nat) (o : List Int), en.length - i < n → i ≤ en.length → o.length ≤ i →
    L65_1 k n no (encW (sto p no)) o.length (encZ en) (en.length : Int) (i : Int) p.wide p.vars l1 (encCms p.cmds) (encZ o) = r65 (encZ (bif (putAllI o ((en.drop i).map fun j => toN p (cmdAt p j) no)).isEmpty then [no] else putAllI o ((en.drop i).map fun j => toN p (cmdAt p j) no)))
  | 0, i, o, h, hj, ho => by omega
  | n + 1, i, o, h, hj, ho => by
    have etk : (encZ o).take o.length = encZ o := by rw [List.take_of_length_le (by simp)]
    rw [sL65_1, etk]
    by_cases hlt : i < en.length
    · have hd : decide ((i : Int) < (en.length : Int)) = true := by simpa using hlt
      have hnext : IntKind.i64.wrap ((i : Int) + 1) = ((i + 1 : Nat) : Int) := by rw [i64_id (by omega) (by omega)]; omega
      have hn := hin _ (List.getElem_mem hlt)
      rw [hd, encZ_lookup hlt, drop_cons hlt, hnext]
      simp only [cond_true, Option.bind_some, int_atInt, List.map_cons]
      rw [doN_ok (by omega) hp hs hn _ hi]
      simp only [R117_r]
      rw [noS_ok (by omega) hs _ _ (toN_ok hp hs hn hi).1]
      simp only [R116_r]
      rw [l1Put_ok (by omega) o (by omega)]
      simp only [R81_r, encZ_length]
      have hpl := putI_len o (toN p (cmdAt p en[i]) no)
      exact nextS_loop hk hp hs hi l1 en hen hin n (i + 1) (putI o (toN p (cmdAt p en[i]) no)) (by omega) (by omega) (by omega)
    · have hd : decide ((i : Int) < (en.length : Int)) = false := by simpa using hlt
      have ed : en.drop i = [] := List.drop_eq_nil_of_le (by omega)
      rw [hd, ed]
      cases o with
      | nil => rfl
      | cons x o =>
        have e0 : (((x :: o).length : Int) == 0) = false := by simp; omega
        rw [e0]
        rfl
theorem nextS_ok {k : Nat} (hk : 1000200 ≤ k) {p : Prg} (hp : FitP p) (hs : smallP p = true) {no : Int} (hi : inS p no) (l1 : List PV) : c65 k p.wide p.vars l1 (encCms p.cmds) no = r65 (encZ (nxL p no)) := by
  obtain ⟨k, rfl⟩ : ∃ j, k = j + 2 := ⟨k - 2, by omega⟩
  have hcm := hp.cm
  rw [n65, stoS_ok (by omega) hs _ _ hi]
  simp only [R80_r]
  have hen := enabledS_loop (k := k) (by omega) p hp (small_good hs) (sto p no) (sto_ok hs hi) l1 (encCms p.cmds) k 0 [] (by omega) (by omega) (by simp)
  rw [n89, encCms_length]
  have hen' : L89_1 k k (encW (sto p no)) 0 (encCms p.cmds) (p.cmds.length : Int) 0 p.wide p.vars l1 (encCms p.cmds) [] = _ := hen
  rw [hen']
  simp only [R89_r, List.nil_append, encZ_length]
  have hmem : ∀ j ∈ enL p (sto p no) 0 p.cmds, cnoOK p j = true := by
    intro j hj
    obtain ⟨q, c, hq, _, rfl⟩ := (enL_mem p (sto p no) p.cmds 0 j).1 hj
    have := (List.getElem?_eq_some_iff.1 hq).1
    simp [cnoOK, this]
  have hsl := sucL_len p no p.cmds
  have he := sucE p no 0 (by omega)
  rw [List.drop_zero] at he
  have hel : (enL p (sto p no) 0 p.cmds).length ≤ 100 := by
    have := congrArg List.length he
    rw [List.length_map] at this
    omega
  have := nextS_loop (k := k + 1) (by omega) hp hs hi l1 _ hel hmem (k + 1) 0 [] (by omega) (by omega) (by simp)
  rw [List.drop_zero, he] at this
  have h' : L65_1 (k + 1) (k + 1) no (encW (sto p no)) 0 (encZ (enL p (sto p no) 0 (p.cmds.drop 0))) ((enL p (sto p no) 0 (p.cmds.drop 0)).length : Int) 0 p.wide p.vars l1 (encCms p.cmds) [] = _ := this
  rw [h', ← canI_put (l := sucL p no p.cmds) (m := sucL p no p.cmds) (fun x => Iff.rfl)]
  congr 2
  unfold nxL
  cases hq : (sucL p no p.cmds).isEmpty
  · have hne : sucL p no p.cmds ≠ [] := by intro h; rw [h] at hq; cases hq
    have : (canI (sucL p no p.cmds)).isEmpty = false := by
      cases hc : canI (sucL p no p.cmds) with
      | nil => exact absurd hc (canI_nil' hne)
      | cons => rfl
    rw [this]
  · have hnil : sucL p no p.cmds = [] := by simpa using hq
    rw [hnil, show canI ([] : List Int) = [] from List.eq_nil_of_length_eq_zero (Nat.le_zero.1 (canI_len []))]
    rfl
end Go.Proofs.YtcamhbchcjpjiaaGreat
/- The reference's reachable states. -/
set_option linter.unusedVariables false
set_option linter.unusedSimpArgs false
set_option maxRecDepth 4000
namespace Go.Proofs.YtcamhbchcjpjiaaGreat
open Go.Dp

/-! ### Increasing lists -/
theorem lt_room : ∀ (l : List Int) (lo hi : Int), l.Pairwise (· < ·) → (∀ x ∈ l, lo ≤ x ∧ x < hi) → (l.length : Int) ≤ max 0 (hi - lo)
  | [], lo, hi, _, _ => by simp; omega
  | x :: l, lo, hi, h, hb => by
    have hx := hb x (by simp)
    have h1 := List.pairwise_cons.1 h
    have := lt_room l (x + 1) hi h1.2 fun y hy => ⟨by have := h1.1 y hy; omega, (hb y (by simp [hy])).2⟩
    simp only [List.length_cons]
    omega
theorem in_room {p : Prg} (hs : smallP p = true) {l : List Int} (hl : l.Pairwise (· < ·)) (hi : ∀ x ∈ l, inS p x) : l.length ≤ 32 := by
  have h1 := lt_room l 0 (nS p : Int) hl fun x hx => hi x hx
  have h2 := (nS_le hs).2
  omega
theorem lt_sub : ∀ {a b : List Int}, a.Pairwise (· < ·) → b.Pairwise (· < ·) → (∀ x ∈ a, x ∈ b) → a.Sublist b
  | [], b, _, _, _ => List.nil_sublist b
  | x :: a, [], _, _, h => by have := h x (by simp); cases this
  | x :: a, y :: b, ha, hb, h => by
    have h1 := List.pairwise_cons.1 ha
    have h2 := List.pairwise_cons.1 hb
    by_cases he : x = y
    · subst he
      refine (lt_sub h1.2 h2.2 fun z hz => ?_).cons_cons x
      rcases List.mem_cons.1 (h z (by simp [hz])) with rfl | h3
      · have := h1.1 z hz; omega
      · exact h3
    · have hxy : x ∈ b := by
        rcases List.mem_cons.1 (h x (by simp)) with h3 | h3
        · exact absurd h3 he
        · exact h3
      have hlt := h2.1 x hxy
      refine (lt_sub ha h2.2 fun z hz => ?_).cons y
      rcases List.mem_cons.1 (h z hz) with rfl | h3
      · rcases List.mem_cons.1 hz with h4 | h4
        · omega
        · have := h1.1 _ h4; omega
      · exact h3
theorem lt_same {a b : List Int} (ha : a.Pairwise (· < ·)) (hb : b.Pairwise (· < ·)) (h : ∀ x ∈ a, x ∈ b) (hl : b.length = a.length) : a = b :=
  (lt_sub ha hb h).eq_of_length hl.symm
/-! ### Many states' successors -/
def aftAll (p : Prg) : List Int → List Int
  | [] => []
  | x :: l => nxL p x ++ aftAll p l
theorem aftAll_mem (p : Prg) : ∀ (l : List Int) (y : Int), y ∈ aftAll p l ↔ ∃ x ∈ l, y ∈ nxL p x
  | [], y => by simp [aftAll]
  | x :: l, y => by simp [aftAll, aftAll_mem p l y]
theorem aftAll_len {p : Prg} (hp : FitP p) : ∀ l : List Int, (aftAll p l).length ≤ 6 * l.length
  | [] => by simp [aftAll]
  | x :: l => by
    have h1 := aftAll_len hp l
    have h2 := nxL_len hp x
    simp only [aftAll, List.length_append, List.length_cons]
    omega
theorem after_loop2 {k : Nat} (hk : 1000100 ≤ k) (p : Prg) (l1 l2 : List PV) (n1 : Nat) (t10 : List PV) (t11 : Int) (i : Nat) (l : List Int) (hl : l.length ≤ 100) : ∀ (n j : Nat) (o : List Int), l.length - j < n → j ≤ l.length → o.length ≤ 700 + j →
    L121_2 k n1 n o.length t10 t11 (i : Int) (encZ l) (l.length : Int) (j : Int) p.wide p.vars l1 l2 (encZ o) = L121_1 k n1 (putAllI o (l.drop j)).length t10 t11 (IntKind.i64.wrap ((i : Int) + 1)) p.wide p.vars l1 l2 (encZ (putAllI o (l.drop j)))
  | 0, j, o, hn, hj, ho => by omega
  | n + 1, j, o, hn, hj, ho => by
    have etk : (encZ o).take o.length = encZ o := by rw [List.take_of_length_le (by simp)]
    rw [sL121_2]
    by_cases hlt : j < l.length
    · have hd : decide ((j : Int) < (l.length : Int)) = true := by simpa using hlt
      have hnext : IntKind.i64.wrap ((j : Int) + 1) = ((j + 1 : Nat) : Int) := by rw [i64_id (by omega) (by omega)]; omega
      rw [hd, encZ_lookup hlt, drop_cons hlt, hnext, etk]
      simp only [cond_true, Option.bind_some, int_atInt]
      rw [l1Put_ok (by omega) o (by omega)]
      simp only [R81_r, encZ_length]
      have hpl := putI_len o l[j]
      exact after_loop2 hk p l1 l2 n1 t10 t11 i l hl n (j + 1) (putI o l[j]) (by omega) (by omega) (by omega)
    · have hd : decide ((j : Int) < (l.length : Int)) = false := by simpa using hlt
      rw [hd, List.drop_eq_nil_of_le (by omega)]
      rfl
theorem after_loop1 {k : Nat} (hk : 1000300 ≤ k) {p : Prg} (hp : FitP p) (hs : smallP p = true) (l1 : List PV) (l : List Int) (hl : l.length ≤ 100) (hin : ∀ x ∈ l, inS p x) : ∀ (n i : Nat) (o : List Int), l.length - i < n → i ≤ l.length → o.length ≤ 6 * i →
    L121_1 k n o.length (encZ l) (l.length : Int) (i : Int) p.wide p.vars l1 (encCms p.cmds) (encZ o) = r121 (encZ (putAllI o (aftAll p (l.drop i))))
  | 0, i, o, hn, hi, ho => by omega
  | n + 1, i, o, hn, hi, ho => by
    have etk : (encZ o).take o.length = encZ o := by rw [List.take_of_length_le (by simp)]
    rw [sL121_1]
    by_cases hlt : i < l.length
    · have hd : decide ((i : Int) < (l.length : Int)) = true := by simpa using hlt
      have hnext : IntKind.i64.wrap ((i : Int) + 1) = ((i + 1 : Nat) : Int) := by rw [i64_id (by omega) (by omega)]; omega
      have hx := hin _ (List.getElem_mem hlt)
      rw [hd, encZ_lookup hlt, drop_cons hlt]
      simp only [cond_true, Option.bind_some, int_atInt]
      rw [nextS_ok (by omega) hp hs hx]
      simp only [R65_r, encZ_length]
      have hnl := nxL_len hp l[i]
      have h2 := after_loop2 (k := k) (by omega) p l1 (encCms p.cmds) n (encZ l) (l.length : Int) i (nxL p l[i]) (by omega) k 0 o (by omega) (by omega) (by omega)
      have h' : L121_2 k n k o.length (encZ l) (l.length : Int) (i : Int) (encZ (nxL p l[i])) ((nxL p l[i]).length : Int) 0 p.wide p.vars l1 (encCms p.cmds) (encZ o) = _ := h2
      rw [h', hnext, List.drop_zero, aftAll, putAllI_app]
      have hpl := putAllI_len (nxL p l[i]) o
      exact after_loop1 hk hp hs l1 l hl hin n (i + 1) _ (by omega) (by omega) (by omega)
    · have hd : decide ((i : Int) < (l.length : Int)) = false := by simpa using hlt
      rw [hd, List.drop_eq_nil_of_le (by omega), etk]
      rfl
theorem l8After_ok {k : Nat} (hk : 1000400 ≤ k) {p : Prg} (hp : FitP p) (hs : smallP p = true) (l1 : List PV) (l : List Int) (hl : l.length ≤ 100) (hin : ∀ x ∈ l, inS p x) : c121 k p.wide p.vars l1 (encCms p.cmds) (encZ l) = r121 (encZ (putAllI [] (aftAll p l))) := by
  obtain ⟨k, rfl⟩ : ∃ j, k = j + 1 := ⟨k - 1, by omega⟩
  rw [n121, encZ_length]
  exact after_loop1 (k := k) (by omega) hp hs l1 l hl hin k 0 [] (by omega) (by omega) (by simp)
theorem own_ok {k : Nat} (hk : 1 ≤ k) (l : List Int) (hl : l.length ≤ 1000) : c123 k (encZ l) = r123 (encZ l) := by
  obtain ⟨k, rfl⟩ : ∃ j, k = j + 1 := ⟨k - 1, by omega⟩
  rw [n123, encZ_length, Nat.zero_add, lim_ok (by omega) (by omega), List.nil_append, List.take_of_length_le (by simp)]
  rfl
theorem union_loop {k : Nat} (hk : 1000100 ≤ k) (b : List Int) (hb : b.length ≤ 400) : ∀ (n i : Nat) (o : List Int), b.length - i < n → i ≤ b.length → o.length ≤ 400 + i →
    L120_1 k n o.length (encZ b) (b.length : Int) (i : Int) (encZ o) = r120 (encZ (putAllI o (b.drop i)))
  | 0, i, o, hn, hi, ho => by omega
  | n + 1, i, o, hn, hi, ho => by
    have etk : (encZ o).take o.length = encZ o := by rw [List.take_of_length_le (by simp)]
    rw [sL120_1, etk]
    by_cases hlt : i < b.length
    · have hd : decide ((i : Int) < (b.length : Int)) = true := by simpa using hlt
      have hnext : IntKind.i64.wrap ((i : Int) + 1) = ((i + 1 : Nat) : Int) := by rw [i64_id (by omega) (by omega)]; omega
      rw [hd, encZ_lookup hlt, drop_cons hlt, hnext]
      simp only [cond_true, Option.bind_some, int_atInt]
      rw [l1Put_ok (by omega) o (by omega)]
      simp only [R81_r, encZ_length]
      have hpl := putI_len o b[i]
      exact union_loop hk b hb n (i + 1) (putI o b[i]) (by omega) (by omega) (by omega)
    · have hd : decide ((i : Int) < (b.length : Int)) = false := by simpa using hlt
      rw [hd, List.drop_eq_nil_of_le (by omega)]
      rfl
theorem union_ok {k : Nat} (hk : 1000200 ≤ k) (a b : List Int) (ha : a.length ≤ 400) (hb : b.length ≤ 400) : c120 k (encZ a) (encZ b) = r120 (encZ (putAllI a b)) := by
  obtain ⟨k, rfl⟩ : ∃ j, k = j + 1 := ⟨k - 1, by omega⟩
  rw [n120, own_ok (by omega) a (by omega)]
  simp only [R123_r, encZ_length]
  exact union_loop (k := k) (by omega) b hb k 0 a (by omega) (by omega) (by omega)
/-! ### The reachable states -/
def grow (p : Prg) (o : List Int) : List Int := putAllI o (putAllI [] (aftAll p o))
theorem grow_spec {p : Prg} {o : List Int} (ho : o.Pairwise (· < ·)) : (grow p o).Pairwise (· < ·) ∧ ∀ x, x ∈ grow p o ↔ x ∈ o ∨ ∃ y ∈ o, x ∈ nxL p y := by
  obtain ⟨h1, h2⟩ := putAllI_spec (putAllI [] (aftAll p o)) o ho
  obtain ⟨_, h4⟩ := putAllI_spec (aftAll p o) [] List.Pairwise.nil
  refine ⟨h1, fun x => ?_⟩
  unfold grow
  rw [h2, h4, aftAll_mem]
  simp
def reachF (p : Prg) : Nat → List Int → List Int
  | 0, o => o
  | m + 1, o => bif (grow p o).length == o.length then o else reachF p m (grow p o)
theorem grow_in {p : Prg} (hp : FitP p) (hs : smallP p = true) {o : List Int} (ho : o.Pairwise (· < ·)) (hi : ∀ x ∈ o, inS p x) : ∀ x ∈ grow p o, inS p x := by
  intro x hx
  rcases ((grow_spec ho).2 x).1 hx with h | ⟨y, hy, h⟩
  · exact hi x h
  · exact nxL_in hp hs (hi y hy) x h
theorem reachS_loop {k : Nat} (hk : 1000500 ≤ k) {p : Prg} (hp : FitP p) (hs : smallP p = true) (l1 : List PV) : ∀ (m n : Nat) (o : List Int), m < n → 33 ≤ m + o.length → o.Pairwise (· < ·) → (∀ x ∈ o, inS p x) →
    L78_1 k n (encZ o) p.wide p.vars l1 (encCms p.cmds) = r78 (encZ (reachF p m o))
  | m, 0, o, hn, hm, ho, hi => by omega
  | 0, n + 1, o, hn, hm, ho, hi => by
    have := in_room hs ho hi
    omega
  | m + 1, n + 1, o, hn, hm, ho, hi => by
    have hr := in_room hs ho hi
    obtain ⟨g1, g2⟩ := grow_spec (p := p) ho
    have g3 := grow_in hp hs ho hi
    have hr2 := in_room hs g1 g3
    have hal := aftAll_len hp o
    have hpl := putAllI_len (aftAll p o) []
    rw [List.length_nil] at hpl
    rw [sL78_1, l8After_ok (by omega) hp hs l1 o (by omega) hi]
    simp only [R121_r]
    rw [union_ok (by omega) o _ (by omega) (by omega)]
    simp only [R120_r, encZ_length]
    change (bif (((grow p o).length : Int) == (o.length : Int)) then _ else _) = _
    have e : (((grow p o).length : Int) == (o.length : Int)) = ((grow p o).length == o.length) := by rw [Bool.eq_iff_iff]; simp only [beq_iff_eq]; omega
    rw [e, reachF]
    cases hq : ((grow p o).length == o.length)
    · have hne : (grow p o).length ≠ o.length := by simpa using hq
      have hge := (lt_sub ho g1 fun x hx => (g2 x).2 (.inl hx)).length_le
      exact reachS_loop hk hp hs l1 m n (grow p o) (by omega) (by omega) g1 g3
    · rfl
theorem reachF_spec {p : Prg} (hp : FitP p) (hs : smallP p = true) : ∀ (m : Nat) (o : List Int), 33 ≤ m + o.length → o.Pairwise (· < ·) → (∀ x ∈ o, inS p x) →
    (reachF p m o).Pairwise (· < ·) ∧ (∀ x ∈ reachF p m o, inS p x) ∧ (∀ x ∈ o, x ∈ reachF p m o) ∧ (∀ x ∈ reachF p m o, ∀ y ∈ nxL p x, y ∈ reachF p m o) ∧ ∀ S : Int → Prop, (∀ x ∈ o, S x) → (∀ x, S x → ∀ y ∈ nxL p x, S y) → ∀ x ∈ reachF p m o, S x
  | 0, o, hm, ho, hi => by
    have := in_room hs ho hi
    omega
  | m + 1, o, hm, ho, hi => by
    obtain ⟨g1, g2⟩ := grow_spec (p := p) ho
    have g3 := grow_in hp hs ho hi
    rw [reachF]
    cases hq : ((grow p o).length == o.length)
    · have hne : (grow p o).length ≠ o.length := by simpa using hq
      have hge := (lt_sub ho g1 fun x hx => (g2 x).2 (.inl hx)).length_le
      obtain ⟨r1, r2, r3, r4, r5⟩ := reachF_spec hp hs m (grow p o) (by omega) g1 g3
      refine ⟨r1, r2, fun x hx => r3 x ((g2 x).2 (.inl hx)), r4, fun S h1 h2 => r5 S (fun x hx => ?_) h2⟩
      rcases (g2 x).1 hx with h | ⟨y, hy, h⟩
      · exact h1 x h
      · exact h2 y (h1 y hy) x h
    · have heq : o = grow p o := lt_same ho g1 (fun x hx => (g2 x).2 (.inl hx)) (by simpa using hq)
      refine ⟨ho, hi, fun x hx => hx, fun x hx y hy => ?_, fun S h1 _ => h1⟩
      rw [heq]
      exact (g2 y).2 (.inr ⟨x, hx, hy⟩)
def reachL (p : Prg) : List Int := reachF p 33 (whI p p.start)
theorem l8Reach_ok {k : Nat} (hk : 1000600 ≤ k) {p : Prg} (hp : FitP p) (hs : smallP p = true) : c78 k p.wide p.vars (encT p.start) (encCms p.cmds) = r78 (encZ (reachL p)) := by
  obtain ⟨k, rfl⟩ : ∃ j, k = j + 1 := ⟨k - 1, by omega⟩
  have hst := hp.st
  have hks : kindT p.wide p.vars p.start = 2 := by
    have := small_good hs
    simp only [goodP, Bool.and_eq_true, beq_iff_eq] at this
    exact this.1.1.1
  rw [n78, those_ok (by omega) hs _ _ p.start (by omega) hks]
  simp only [R86_r]
  exact reachS_loop (k := k) (by omega) hp hs (encT p.start) 33 k (whI p p.start) (by omega) (by omega) (whN_lt p p.start _ _) (fun x hx => ((whI_mem p p.start x).1 hx).1)
inductive Rch (p : Prg) : Int → Prop
  | start {x : Int} : inS p x → hN p p.start x = true → Rch p x
  | step {x y : Int} : Rch p x → y ∈ nxL p x → Rch p y
theorem reachL_mem {p : Prg} (hp : FitP p) (hs : smallP p = true) (x : Int) : x ∈ reachL p ↔ Rch p x := by
  obtain ⟨r1, r2, r3, r4, r5⟩ := reachF_spec hp hs 33 (whI p p.start) (by omega) (whN_lt p p.start _ _) (fun x hx => ((whI_mem p p.start x).1 hx).1)
  constructor
  · exact r5 (Rch p) (fun x hx => .start ((whI_mem p p.start x).1 hx).1 ((whI_mem p p.start x).1 hx).2) (fun x hx y hy => .step hx hy) x
  · intro h
    induction h with
    | start h1 h2 => exact r3 _ ((whI_mem p p.start _).2 ⟨h1, h2⟩)
    | step _ h2 ih => exact r4 _ ih _ h2
end Go.Proofs.YtcamhbchcjpjiaaGreat
/- The reference's way back. -/
set_option linter.unusedVariables false
set_option linter.unusedSimpArgs false
set_option maxRecDepth 4000
namespace Go.Proofs.YtcamhbchcjpjiaaGreat
open Go.Dp

def scanB (p : Prg) : Nat → Nat → List Int → Bool → List Int × Bool
  | 0, i, o, q => (o, q)
  | m + 1, i, o, q => bif !o.contains (i : Int) && meetI (nxL p (i : Int)) o then scanB p m (i + 1) (putI o (i : Int)) true else scanB p m (i + 1) o q
theorem putI_new {o : List Int} {x : Int} (ho : o.Pairwise (· < ·)) (h : o.contains x = false) : (putI o x).length = o.length + 1 := by
  have h1 := putI_len o x
  have h2 := (lt_sub ho (putI_lt o x ho) fun y hy => (putI_mem o x y).2 (.inr hy)).length_le
  by_cases he : (putI o x).length = o.length
  · have := lt_same ho (putI_lt o x ho) (fun y hy => (putI_mem o x y).2 (.inr hy)) he
    have hx : x ∈ o := by rw [this]; exact (putI_mem o x x).2 (.inl rfl)
    have : o.contains x = true := by simpa using hx
    rw [this] at h; cases h
  · omega
def BackOf (p : Prg) (S : Int → Prop) : Prop := ∀ x, inS p x → (∃ y ∈ nxL p x, S y) → S x
theorem meetI_iff (a b : List Int) : meetI a b = true ↔ ∃ y ∈ a, y ∈ b := by simp [meetI]
theorem scanB_spec {p : Prg} : ∀ (m i : Nat) (o : List Int) (q : Bool), i + m = nS p → o.Pairwise (· < ·) → (∀ x ∈ o, inS p x) →
    (scanB p m i o q).1.Pairwise (· < ·) ∧ (∀ x ∈ (scanB p m i o q).1, inS p x) ∧ (∀ x ∈ o, x ∈ (scanB p m i o q).1) ∧ (∀ S : Int → Prop, (∀ x ∈ o, S x) → BackOf p S → ∀ x ∈ (scanB p m i o q).1, S x) ∧
    (q = false → (scanB p m i o q).2 = true → o.length < (scanB p m i o q).1.length) ∧ ((scanB p m i o q).2 = false → q = false ∧ (scanB p m i o q).1 = o ∧ ∀ j : Nat, i ≤ j → j < i + m → (∃ y ∈ nxL p (j : Int), y ∈ o) → (j : Int) ∈ o)
  | 0, i, o, q, hm, ho, hi => ⟨ho, hi, fun x hx => hx, fun S h1 _ => h1, fun h1 h2 => (by rw [h1] at h2; cases h2), fun h => ⟨h, rfl, fun j h1 h2 => by omega⟩⟩
  | m + 1, i, o, q, hm, ho, hi => by
    rw [scanB]
    cases hc : (!o.contains (i : Int) && meetI (nxL p (i : Int)) o)
    · simp only [cond_false]
      obtain ⟨r1, r2, r3, r4, r5, r6⟩ := scanB_spec m (i + 1) o q (by omega) ho hi
      refine ⟨r1, r2, r3, r4, r5, fun h => ?_⟩
      obtain ⟨h1, h2, h3⟩ := r6 h
      refine ⟨h1, h2, fun j hj hj2 hy => ?_⟩
      by_cases he : j = i
      · subst he
        have hmeet : meetI (nxL p (j : Int)) o = true := (meetI_iff _ _).2 hy
        rw [hmeet, Bool.and_true] at hc
        have : o.contains (j : Int) = true := by simpa using hc
        simpa using this
      · exact h3 j (by omega) (by omega) hy
    · simp only [cond_true]
      rw [Bool.and_eq_true] at hc
      have hnot : o.contains (i : Int) = false := by simpa using hc.1
      have hin : inS p (i : Int) := ⟨by omega, by omega⟩
      have hp1 : ∀ x ∈ putI o (i : Int), inS p x := by
        intro x hx
        rcases (putI_mem o _ x).1 hx with rfl | h
        · exact hin
        · exact hi x h
      obtain ⟨r1, r2, r3, r4, r5, r6⟩ := scanB_spec m (i + 1) (putI o (i : Int)) true (by omega) (putI_lt o _ ho) hp1
      have hsub : ∀ x ∈ o, x ∈ (scanB p m (i + 1) (putI o (i : Int)) true).1 := fun x hx => r3 x ((putI_mem o _ x).2 (.inr hx))
      refine ⟨r1, r2, hsub, fun S h1 h2 => r4 S (fun x hx => ?_) h2, fun _ _ => ?_, fun h => ?_⟩
      · rcases (putI_mem o _ x).1 hx with rfl | h
        · obtain ⟨y, hy, hyo⟩ := (meetI_iff _ _).1 hc.2
          exact h2 _ hin ⟨y, hy, h1 y hyo⟩
        · exact h1 x h
      · have := (lt_sub (putI_lt o (i : Int) ho) r1 r3).length_le
        have := putI_new ho hnot
        omega
      · obtain ⟨h1, _⟩ := r6 h
        cases h1
def backF (p : Prg) : Nat → List Int → List Int
  | 0, o => o
  | m + 1, o => bif (scanB p (nS p) 0 o false).2 then backF p m (scanB p (nS p) 0 o false).1 else (scanB p (nS p) 0 o false).1
theorem backF_spec {p : Prg} (hs : smallP p = true) : ∀ (m : Nat) (o : List Int), 33 ≤ m + o.length → o.Pairwise (· < ·) → (∀ x ∈ o, inS p x) →
    (backF p m o).Pairwise (· < ·) ∧ (∀ x ∈ backF p m o, inS p x) ∧ (∀ x ∈ o, x ∈ backF p m o) ∧ BackOf p (· ∈ backF p m o) ∧ ∀ S : Int → Prop, (∀ x ∈ o, S x) → BackOf p S → ∀ x ∈ backF p m o, S x
  | 0, o, hm, ho, hi => by
    have := in_room hs ho hi
    omega
  | m + 1, o, hm, ho, hi => by
    obtain ⟨r1, r2, r3, r4, r5, r6⟩ := scanB_spec (nS p) 0 o false (by omega) ho hi
    rw [backF]
    cases hq : (scanB p (nS p) 0 o false).2
    · obtain ⟨_, h2, h3⟩ := r6 hq
      simp only [cond_false]
      rw [h2]
      refine ⟨ho, hi, fun x hx => hx, fun x hx hy => ?_, fun S h1 _ => h1⟩
      obtain ⟨h4, h5⟩ := hx
      have := h3 x.toNat (by omega) (by omega)
      rw [Int.toNat_of_nonneg h4] at this
      exact this hy
    · have hlt := r5 rfl hq
      simp only [cond_true]
      obtain ⟨q1, q2, q3, q4, q5⟩ := backF_spec hs m _ (by omega) r1 r2
      exact ⟨q1, q2, fun x hx => q3 x (r3 x hx), q4, fun S h1 h2 => q5 S (r4 S h1 h2) h2⟩
theorem back_loop2 {k : Nat} (hk : 1000300 ≤ k) {p : Prg} (hp : FitP p) (hs : smallP p = true) (l1 : List PV) (n1 : Nat) : ∀ (m n i : Nat) (o : List Int) (q : Bool), m < n → i + m = nS p → o.Pairwise (· < ·) → (∀ x ∈ o, inS p x) →
    L84_2 k n1 n o.length q (i : Int) p.wide p.vars l1 (encCms p.cmds) (encZ o) = L84_1 k n1 (scanB p m i o q).1.length (scanB p m i o q).2 p.wide p.vars l1 (encCms p.cmds) (encZ (scanB p m i o q).1)
  | m, 0, i, o, q, hn, hm, ho, hi => by omega
  | 0, n + 1, i, o, q, hn, hm, ho, hi => by
    have hd : decide ((i : Int) < (nS p : Int)) = false := by simp; omega
    rw [sL84_2, nSS_ok (by omega) hs]
    simp only [R83_r]
    rw [hd]
    rfl
  | m + 1, n + 1, i, o, q, hn, hm, ho, hi => by
    have hr := in_room hs ho hi
    have hle := (nS_le hs).2
    have etk : (encZ o).take o.length = encZ o := by rw [List.take_of_length_le (by simp)]
    have hin : inS p (i : Int) := ⟨by omega, by omega⟩
    have hd : decide ((i : Int) < (nS p : Int)) = true := by simp; omega
    have hnext : IntKind.i64.wrap ((i : Int) + 1) = ((i + 1 : Nat) : Int) := by rw [i64_id (by omega) (by omega)]; omega
    rw [sL84_2, nSS_ok (by omega) hs]
    simp only [R83_r]
    rw [hd, etk, has_ok (by omega) o (by omega), hnext]
    simp only [cond_true, R96p_r]
    rw [scanB]
    cases hc : o.contains (i : Int)
    · have hnl := nxL_len hp (i : Int)
      simp only [Bool.not_false, cond_true, Bool.true_and]
      rw [nextS_ok (by omega) hp hs hin]
      simp only [R65_r]
      rw [meetS_ok (by omega) (nxL p (i : Int)) o (by omega) (by omega)]
      simp only [R124p_r]
      cases hmt : meetI (nxL p (i : Int)) o
      · exact back_loop2 hk hp hs l1 n1 m n (i + 1) o q (by omega) (by omega) ho hi
      · simp only [cond_true]
        rw [l1Put_ok (by omega) o (by omega)]
        simp only [R81_r, encZ_length]
        exact back_loop2 hk hp hs l1 n1 m n (i + 1) (putI o (i : Int)) true (by omega) (by omega) (putI_lt o _ ho) (fun x hx => by
          rcases (putI_mem o _ x).1 hx with rfl | h
          · exact hin
          · exact hi x h)
    · simp only [Bool.not_true, cond_false, Bool.false_and]
      exact back_loop2 hk hp hs l1 n1 m n (i + 1) o q (by omega) (by omega) ho hi
theorem back_loop1 {k : Nat} (hk : 1000300 ≤ k) {p : Prg} (hp : FitP p) (hs : smallP p = true) (l1 : List PV) : ∀ (m n : Nat) (o : List Int), m + 1 < n → 33 ≤ m + o.length → o.Pairwise (· < ·) → (∀ x ∈ o, inS p x) →
    L84_1 k n o.length true p.wide p.vars l1 (encCms p.cmds) (encZ o) = r84 (encZ (backF p m o))
  | m, 0, o, hn, hm, ho, hi => by omega
  | 0, n + 1, o, hn, hm, ho, hi => by
    have := in_room hs ho hi
    omega
  | m + 1, n + 1, o, hn, hm, ho, hi => by
    have hle := (nS_le hs).2
    obtain ⟨r1, r2, r3, r4, r5, r6⟩ := scanB_spec (nS p) 0 o false (by omega) ho hi
    have hr2 := in_room hs r1 r2
    rw [sL84_1]
    simp only [cond_true]
    have h2 := back_loop2 (k := k) hk hp hs l1 n (nS p) k 0 o false (by omega) (by omega) ho hi
    have h' : L84_2 k n k o.length false 0 p.wide p.vars l1 (encCms p.cmds) (encZ o) = _ := h2
    rw [h', backF]
    cases hq : (scanB p (nS p) 0 o false).2
    · obtain ⟨n, rfl⟩ : ∃ j, n = j + 1 := ⟨n - 1, by omega⟩
      have etk : (encZ (scanB p (nS p) 0 o false).1).take (scanB p (nS p) 0 o false).1.length = encZ (scanB p (nS p) 0 o false).1 := by rw [List.take_of_length_le (by simp)]
      rw [sL84_1, etk]
      rfl
    · have hlt := r5 rfl hq
      exact back_loop1 hk hp hs l1 m n _ (by omega) (by omega) r1 r2
def backL (p : Prg) (o : List Int) : List Int := backF p 33 o
theorem l8Back_ok {k : Nat} (hk : 1000400 ≤ k) {p : Prg} (hp : FitP p) (hs : smallP p = true) (l1 : List PV) {o : List Int} (ho : o.Pairwise (· < ·)) (hi : ∀ x ∈ o, inS p x) : c84 k p.wide p.vars l1 (encCms p.cmds) (encZ o) = r84 (encZ (backL p o)) := by
  obtain ⟨k, rfl⟩ : ∃ j, k = j + 1 := ⟨k - 1, by omega⟩
  have hr := in_room hs ho hi
  rw [n84, own_ok (by omega) o (by omega)]
  simp only [R123_r, encZ_length]
  exact back_loop1 (k := k) (by omega) hp hs l1 33 k o (by omega) (by omega) ho hi
inductive Into (p : Prg) (o : List Int) : Int → Prop
  | here {x : Int} : x ∈ o → Into p o x
  | step {x y : Int} : inS p x → y ∈ nxL p x → Into p o y → Into p o x
theorem backL_mem {p : Prg} (hs : smallP p = true) {o : List Int} (ho : o.Pairwise (· < ·)) (hi : ∀ x ∈ o, inS p x) (x : Int) : x ∈ backL p o ↔ Into p o x := by
  obtain ⟨r1, r2, r3, r4, r5⟩ := backF_spec hs 33 o (by omega) ho hi
  constructor
  · exact r5 (Into p o) (fun x hx => .here hx) (fun x hx ⟨y, hy, h⟩ => .step hx hy h) x
  · intro h
    induction h with
    | here h => exact r3 _ h
    | step h1 h2 _ ih => exact r4 _ h1 ⟨_, h2, ih⟩
theorem rch_in {p : Prg} (hp : FitP p) (hs : smallP p = true) {x : Int} (h : Rch p x) : inS p x := by
  induction h with
  | start h1 _ => exact h1
  | step _ h2 ih => exact nxL_in hp hs ih _ h2
theorem back_forth {p : Prg} (hp : FitP p) (hs : smallP p = true) {z : Int} : Rch p z ↔ ∃ x, inS p x ∧ hN p p.start x = true ∧ Into p [z] x := by
  constructor
  · intro h
    have key : ∀ y, Rch p y → ∀ z, Into p [z] y → ∃ x, inS p x ∧ hN p p.start x = true ∧ Into p [z] x := by
      intro y hy
      induction hy with
      | start h1 h2 => exact fun z hz => ⟨_, h1, h2, hz⟩
      | step h1 h2 ih =>
        intro z hz
        exact ih z (.step (rch_in hp hs h1) h2 hz)
    exact key z h z (.here (by simp))
  · rintro ⟨x, h1, h2, h3⟩
    have key : ∀ x, Into p [z] x → Rch p x → Rch p z := by
      intro x hx
      induction hx with
      | here h => intro hr; rw [List.mem_singleton.1 h] at hr; exact hr
      | step h1 h2 _ ih => exact fun hr => ih (.step hr h2)
    exact key x h3 (.start h1 h2)
end Go.Proofs.YtcamhbchcjpjiaaGreat
/- What is asked of reachable states: the reference's answers, the draws. -/
set_option linter.unusedVariables false
set_option linter.unusedSimpArgs false
set_option maxRecDepth 4000
namespace Go.Proofs.YtcamhbchcjpjiaaGreat
open Go.Dp

theorem no_in {p : Prg} {no : Int} (h : noOK p no = true) : smallP p = true ∧ inS p no := by
  simp only [noOK, Bool.and_eq_true, decide_eq_true_eq] at h
  exact ⟨h.1.1, h.1.2, h.2⟩
theorem is8_ok {k : Nat} (hk : 1000300 ≤ k) (p : Prg) (hp : FitP p) (no : Int) : c64 k p.wide p.vars (encT p.start) (encCms p.cmds) no = r64 (noOK p no) := by
  obtain ⟨k, rfl⟩ : ∃ j, k = j + 1 := ⟨k - 1, by omega⟩
  rw [n64, l7Small_ok (by omega) p hp]
  simp only [R76_r]
  cases hs : smallP p
  · simp [noOK, hs]
  · have hle := nS_le hs
    simp only [cond_true]
    rw [nSS_ok (by omega) hs]
    simp only [R83_r]
    rw [i64_id (by omega) (by omega), in_ok (by omega)]
    simp only [R95_r]
    congr 1
    unfold noOK
    rw [hs, Bool.true_and, Bool.eq_iff_iff]
    simp only [Bool.and_eq_true, decide_eq_true_eq]
    have : ((2 ^ (pw p * pv p) : Nat) : Int) = (nS p : Int) := rfl
    omega
def nextR (p : Prg) (no : Int) : List Int := bif noOK p no then nxL p no else []
theorem NextI_ok {k : Nat} (hk : 1000400 ≤ k) (p : Prg) (hp : FitP p) (no : Int) : c12 k p.wide p.vars (encT p.start) (encCms p.cmds) no = r12 (encZ (nextR p no)) (noOK p no) := by
  obtain ⟨k, rfl⟩ : ∃ j, k = j + 1 := ⟨k - 1, by omega⟩
  rw [n12, isNo_ok (by omega) p hp]
  simp only [R49_r, nextR]
  cases h : noOK p no
  · rfl
  · obtain ⟨hs, hi⟩ := no_in h
    simp only [Bool.not_true, cond_false, cond_true]
    rw [nextI_ok (by omega) hp hs hi]
    simp only [R53_r]
theorem NextS_ok {k : Nat} (hk : 1000400 ≤ k) (p : Prg) (hp : FitP p) (no : Int) : c18 k p.wide p.vars (encT p.start) (encCms p.cmds) no = r18 (encZ (nextR p no)) (noOK p no) := by
  obtain ⟨k, rfl⟩ : ∃ j, k = j + 1 := ⟨k - 1, by omega⟩
  rw [n18, is8_ok (by omega) p hp]
  simp only [R64_r, nextR]
  cases h : noOK p no
  · rfl
  · obtain ⟨hs, hi⟩ := no_in h
    simp only [Bool.not_true, cond_false, cond_true]
    rw [nextS_ok (by omega) hp hs hi]
    simp only [R65_r]
def hinOK (p : Prg) (t : List Nd) (no : Int) : Bool := noOK p no && (kindT p.wide p.vars t == 2)
theorem HoldsInI_ok {k : Nat} (hk : 1000400 ≤ k) (p : Prg) (hp : FitP p) (t : List Nd) (ht : t.length ≤ 100) (no : Int) : c11 k p.wide p.vars (encT p.start) (encCms p.cmds) (encT t) no = r11 (hinOK p t no && hN p t no) (hinOK p t no) := by
  obtain ⟨k, rfl⟩ : ∃ j, k = j + 1 := ⟨k - 1, by omega⟩
  rw [n11, isNo_ok (by omega) p hp]
  simp only [R49_r, hinOK]
  cases h : noOK p no
  · rfl
  · obtain ⟨hs, hi⟩ := no_in h
    simp only [Bool.not_true, cond_false, Bool.true_and]
    rw [cond_ok (by omega) _ _ _ _ t (by omega)]
    simp only [R50_r]
    cases hk2 : (kindT p.wide p.vars t == 2)
    · rfl
    · simp only [Bool.not_true, cond_false, Bool.true_and]
      rw [stoI_ok (by omega) hs _ _ hi]
      simp only [R52_r]
      rw [holdsI_ok (by omega) p (small_good hs) _ _ t ht (by simpa using hk2) _ (sto_ok hs hi)]
      simp only [R51_r]
      rfl
theorem startK {p : Prg} (hs : smallP p = true) : kindT p.wide p.vars p.start = 2 := by
  have := small_good hs
  simp only [goodP, Bool.and_eq_true, beq_iff_eq] at this
  exact this.1.1.1
def startR (p : Prg) : List Int := bif smallP p then whI p p.start else []
theorem startsI_ok {k : Nat} (hk : 1000400 ≤ k) (p : Prg) (hp : FitP p) : c21 k p.wide p.vars (encT p.start) (encCms p.cmds) = r21 (encZ (startR p)) (smallP p) := by
  obtain ⟨k, rfl⟩ : ∃ j, k = j + 1 := ⟨k - 1, by omega⟩
  have hst := hp.st
  rw [n21, isSmall_ok (by omega) p hp]
  simp only [R66_r, startR]
  cases hs : smallP p
  · rfl
  · simp only [Bool.not_true, cond_false, cond_true]
    rw [where_ok (by omega) hs _ _ p.start (by omega) (startK hs)]
    simp only [R72_r]
def reachR (p : Prg) : List Int := bif smallP p then reachL p else []
theorem reachS_ok {k : Nat} (hk : 1000700 ≤ k) (p : Prg) (hp : FitP p) : c31 k p.wide p.vars (encT p.start) (encCms p.cmds) = r31 (encZ (reachR p)) (smallP p) := by
  obtain ⟨k, rfl⟩ : ∃ j, k = j + 1 := ⟨k - 1, by omega⟩
  rw [n31, l7Small_ok (by omega) p hp]
  simp only [R76_r, reachR]
  cases hs : smallP p
  · rfl
  · simp only [Bool.not_true, cond_false, cond_true]
    rw [l8Reach_ok (by omega) hp hs]
    simp only [R78_r]
def backOK (p : Prg) (l : List Int) : Bool := smallP p && incG (nS p : Int) none l
def backR (p : Prg) (l : List Int) : List Int := bif backOK p l then backL p l else []
theorem backS_ok {k : Nat} (hk : 1000700 ≤ k) (p : Prg) (hp : FitP p) (l : List Int) (hl : l.length ≤ 1000) : c28 k p.wide p.vars (encT p.start) (encCms p.cmds) (encZ l) = r28 (encZ (backR p l)) (backOK p l) := by
  obtain ⟨k, rfl⟩ : ∃ j, k = j + 1 := ⟨k - 1, by omega⟩
  rw [n28, l7Small_ok (by omega) p hp]
  simp only [R76_r, backR, backOK]
  cases hs : smallP p
  · rfl
  · have hle := nS_le hs
    simp only [Bool.not_true, cond_false, Bool.true_and]
    rw [nSS_ok (by omega) hs]
    simp only [R83_r]
    rw [i64_id (by omega) (by omega), rise_ok (by omega) l (by omega)]
    simp only [R82_r]
    cases hb : incG (nS p : Int) none l
    · rfl
    · simp only [Bool.not_true, cond_false, cond_true]
      rw [l8Back_ok (by omega) hp hs _ (incG_lt hb).1 (fun x hx => incG_mem hb x hx)]
      simp only [R84_r]
def alwB (p : Prg) (t : List Nd) : Bool := (reachL p).all (hN p t)
theorem alw_loop {k : Nat} (hk : 1000100 ≤ k) {p : Prg} (hs : smallP p = true) (l1 l2 : List PV) (t : List Nd) (ht : t.length ≤ 100) (hkt : kindT p.wide p.vars t = 2) (l : List Int) (hl : l.length ≤ 1000) (hin : ∀ x ∈ l, inS p x) : ∀ (n i : Nat), l.length - i < n → i ≤ l.length →
    L26_1 k n (encT t) (encZ l) (l.length : Int) (i : Int) p.wide p.vars l1 l2 = r26 ((l.drop i).all (hN p t)) true
  | 0, i, h, hi => by omega
  | n + 1, i, h, hi => by
    rw [sL26_1]
    by_cases hlt : i < l.length
    · have hd : decide ((i : Int) < (l.length : Int)) = true := by simpa using hlt
      have hnext : IntKind.i64.wrap ((i : Int) + 1) = ((i + 1 : Nat) : Int) := by rw [i64_id (by omega) (by omega)]; omega
      have hx := hin _ (List.getElem_mem hlt)
      rw [hd, encZ_lookup hlt, drop_cons hlt, hnext]
      simp only [cond_true, Option.bind_some, int_atInt]
      rw [stoS_ok (by omega) hs _ _ hx]
      simp only [R80_r]
      rw [holdsS_ok (by omega) p (small_good hs) _ _ t ht hkt _ (sto_ok hs hx)]
      simp only [R79_r, List.all_cons]
      change (bif !hN p t l[i] then _ else _) = _
      cases hN p t l[i]
      · rfl
      · exact alw_loop hk hs l1 l2 t ht hkt l hl hin n (i + 1) (by omega) (by omega)
    · have hd : decide ((i : Int) < (l.length : Int)) = false := by simpa using hlt
      rw [hd, List.drop_eq_nil_of_le (by omega)]
      rfl
def alwOK (p : Prg) (t : List Nd) : Bool := smallP p && (kindT p.wide p.vars t == 2)
theorem alwaysS_ok {k : Nat} (hk : 1000700 ≤ k) (p : Prg) (hp : FitP p) (t : List Nd) (ht : t.length ≤ 100) : c26 k p.wide p.vars (encT p.start) (encCms p.cmds) (encT t) = r26 (alwOK p t && alwB p t) (alwOK p t) := by
  obtain ⟨k, rfl⟩ : ∃ j, k = j + 1 := ⟨k - 1, by omega⟩
  rw [n26, l7Small_ok (by omega) p hp]
  simp only [R76_r, alwOK]
  cases hs : smallP p
  · rfl
  · simp only [Bool.not_true, cond_false, Bool.true_and]
    rw [asks_ok (by omega) _ _ _ _ t (by omega)]
    simp only [R77_r]
    cases hk2 : (kindT p.wide p.vars t == 2)
    · rfl
    · simp only [Bool.not_true, cond_false, Bool.true_and]
      rw [l8Reach_ok (by omega) hp hs]
      simp only [R78_r, encZ_length]
      have hin : ∀ x ∈ reachL p, inS p x := fun x hx => rch_in hp hs ((reachL_mem hp hs x).1 hx)
      obtain ⟨r1, _⟩ := reachF_spec hp hs 33 (whI p p.start) (by omega) (whN_lt p p.start _ _) (fun x hx => ((whI_mem p p.start x).1 hx).1)
      have hr := in_room hs r1 hin
      exact alw_loop (k := k) (by omega) hs _ _ t ht (by simpa using hk2) (reachL p) (by unfold reachL at *; omega) hin k 0 (by unfold reachL at *; omega) (by omega)
/-! ### What is drawn -/
theorem stateNoD_ok {bs : List Nat} (hc : CodeOK bs) {k : Nat} (hk : 1000800 ≤ k) (p : Prg) (hp : FitP p) {at' : Int} (h0 : 0 ≤ at') (h1 : at' ≤ 600000000) (s : W) :
    ∃ a2 s2 no, c63 k p.wide p.vars (encT p.start) (encCms p.cmds) (encB bs) at' (wi s) = r63 (encB bs) a2 (wi s2) no ∧ at' ≤ a2 ∧ a2 ≤ at' + 100 := by
  obtain ⟨k, rfl⟩ : ∃ j, k = j + 1 := ⟨k - 1, by omega⟩
  rw [n63]
  obtain ⟨a2, s2, b, h, h2, h3⟩ := one_ok hc (k := k) (by omega) h0 (by omega) s 30
  rw [h]
  simp only [R55_r]
  obtain ⟨a3, s3, v, hv, h4, h5, _⟩ := pick_ok hc (k := k) (by omega) (at' := a2) (by omega) (by omega) s2 32
  cases b
  · simp only [cond_false]
    rw [reachS_ok (by omega) p hp]
    simp only [R31_r, encZ_length]
    cases hs : smallP p
    · simp only [cond_false]
      rw [hv]
      simp only [R54_r]
      exact ⟨_, _, _, rfl, by omega, by omega⟩
    · have hin : ∀ x ∈ reachL p, inS p x := fun x hx => rch_in hp hs ((reachL_mem hp hs x).1 hx)
      obtain ⟨r1, _⟩ := reachF_spec hp hs 33 (whI p p.start) (by omega) (whN_lt p p.start _ _) (fun x hx => ((whI_mem p p.start x).1 hx).1)
      have hr : (reachL p).length ≤ 32 := in_room hs r1 hin
      have e : reachR p = reachL p := by unfold reachR; rw [hs]; rfl
      rw [e]
      simp only [cond_true]
      by_cases hpos : (reachL p).length > 0
      · have d : decide (((reachL p).length : Int) > 0) = true := decide_eq_true (by omega)
        obtain ⟨a4, s4, q, hq, h6, h7⟩ := one_ok hc (k := k) (by omega) (at' := a2) (by omega) (by omega) s2 4
        rw [d, hq]
        simp only [cond_true, R55_r]
        cases q
        · obtain ⟨a5, s5, u, hu, h8, h9, h10, h11, _⟩ := pick_ok hc (k := k) (by omega) (at' := a4) (by omega) (by omega) s4 ((reachL p).length : Int)
          have h11 := h11 (by omega)
          simp only [Bool.not_false, cond_true]
          rw [hu]
          simp only [R54_r]
          have hl : u.toNat < (reachL p).length := by omega
          have hlk : lookP (encZ (reachL p)) u = some (.int .i64 (reachL p)[u.toNat]) := by
            have := encZ_lookup hl
            rwa [Int.toNat_of_nonneg h10] at this
          rw [hlk]
          exact ⟨_, _, _, rfl, by omega, by omega⟩
        · obtain ⟨a5, s5, u, hu, h8, h9, _⟩ := pick_ok hc (k := k) (by omega) (at' := a4) (by omega) (by omega) s4 32
          simp only [Bool.not_true, cond_false]
          rw [hu]
          simp only [R54_r]
          exact ⟨_, _, _, rfl, by omega, by omega⟩
      · have d : decide (((reachL p).length : Int) > 0) = false := decide_eq_false (by omega)
        rw [d]
        simp only [cond_false]
        rw [hv]
        simp only [R54_r]
        exact ⟨_, _, _, rfl, by omega, by omega⟩
  · obtain ⟨a4, s4, m, hm, h6, h7, _⟩ := among_ok hc (k := k) (by omega) (at' := a2) (by omega) (by omega) s2 [-1, 32, 16] (by simp)
    have h' : c97 k [PV.int .i64 (-1), PV.int .i64 32, PV.int .i64 16] (encB bs) a2 (wi s2) = _ := hm
    simp only [cond_true]
    rw [h']
    simp only [R97_r]
    exact ⟨_, _, _, rfl, by omega, by omega⟩
theorem drawNext_ok {bs : List Nat} (hc : CodeOK bs) {k : Nat} (hk : 1000900 ≤ k) : ∃ p no, c17 k (encB bs) = r17 p.wide p.vars (encT p.start) (encCms p.cmds) no ∧ FitP p := by
  obtain ⟨k, rfl⟩ : ∃ j, k = j + 1 := ⟨k - 1, by omega⟩
  rw [n17]
  obtain ⟨a2, s2, p, h, h2, h3, h4⟩ := small_ok hc (k := k) (by omega) (at' := 0) (by omega) (by omega) 0#64
  have h' : c40 k (encB bs) 0 0 = _ := h
  rw [h']
  simp only [R40_r]
  obtain ⟨a3, s3, no, h, h5, h6⟩ := stateNoD_ok hc (k := k) (by omega) p h4 (at' := a2) (by omega) (by omega) s2
  rw [h]
  simp only [R63_r]
  exact ⟨p, no, rfl, h4⟩
theorem drawAlways_ok {bs : List Nat} (hc : CodeOK bs) {k : Nat} (hk : 2500 ≤ k) : ∃ p t, c24 k (encB bs) = r24 p.wide p.vars (encT p.start) (encCms p.cmds) (encT t) ∧ FitP p ∧ t.length ≤ 100 := by
  obtain ⟨k, rfl⟩ : ∃ j, k = j + 1 := ⟨k - 1, by omega⟩
  rw [n24]
  obtain ⟨a2, s2, p, h, h2, h3, h4⟩ := small_ok hc (k := k) (by omega) (at' := 0) (by omega) (by omega) 0#64
  have h' : c40 k (encB bs) 0 0 = _ := h
  have hw := h4.w
  have hv := h4.v
  have hon : ∀ n : Int, 1 ≤ one1 n ∧ (n ≤ 64 → one1 n ≤ 64) ∧ (n ≤ 100 → one1 n ≤ 100) := by intro n; unfold one1; split <;> omega
  rw [h']
  simp only [R40_r]
  rw [l2One_ok (by omega), l2One_ok (by omega)]
  simp only [R56_r]
  obtain ⟨a3, s3, t, h, h5, h6, h7, h8⟩ := asked_int hc (wide := one1 p.wide) (vars := one1 p.vars) (by have := hon p.wide; omega) ((hon p.wide).2.1 (by omega)) (hon p.vars).1 ((hon p.vars).2.2 (by omega)) (d := 2) (by omega) (by omega) (k := k) (by omega) (at' := a2) (by omega) (by omega) s2
  rw [h]
  simp only [R74_r, encT_length]
  have e : (encT t).take t.length = encT t := by rw [List.take_of_length_le (by simp)]
  rw [e]
  exact ⟨p, t, rfl, h4, by omega⟩
theorem drawBack_loop {bs : List Nat} (hc : CodeOK bs) {k : Nat} (hk : 2010 ≤ k) (n11 n12 : Int) (l l1 : List PV) (w v : Int) (l3 l4 : List PV) : ∀ (m n : Nat) (q : Int) (o : List Int) {at' : Int} (s : W), q.toNat ≤ m → m < n → q ≤ 100 → o.length + m ≤ 200 → 0 ≤ at' → at' + 2 * m ≤ 700000000 →
    ∃ r, L27_1 k n o.length q n11 n12 l l1 (encB bs) at' (wi s) w v l3 l4 (encZ o) = r27 w v l3 l4 (encZ r) ∧ r.length ≤ o.length + m + 1
  | m, 0, q, o, at', s, h1, h2, _, _, _, _ => by omega
  | m, n + 1, q, o, at', s, h1, h2, h3, h4, h5, h6 => by
    rw [sL27_1]
    have etk : (encZ o).take o.length = encZ o := by rw [List.take_of_length_le (by simp)]
    rw [etk]
    by_cases hq : q > 0
    · have e1 : decide (q > 0) = true := by simpa using hq
      obtain ⟨a2, s2, u, h, h7, h8, _⟩ := pick_ok hc (k := k) (by omega) h5 (by omega) s 16
      have hpl := putI_len o u
      rw [e1, h]
      simp only [cond_true, R54_r]
      rw [l1Put_ok (by omega) o (by omega)]
      simp only [R81_r, encZ_length]
      rw [i64_id (by omega) (by omega)]
      cases m with
      | zero => omega
      | succ m =>
        obtain ⟨r, h, h10⟩ := drawBack_loop hc hk n11 n12 l l1 w v l3 l4 m n (q - 1) (putI o u) (at' := a2) s2 (by omega) (by omega) (by omega) (by omega) (by omega) (by omega)
        exact ⟨r, h, by omega⟩
    · have e1 : decide (q > 0) = false := by simpa using hq
      obtain ⟨a2, s2, b, h, h7, h8⟩ := one_ok hc (k := k) (by omega) h5 (by omega) s 30
      rw [e1, h]
      simp only [cond_false, R55_r]
      cases b
      · exact ⟨o, rfl, by omega⟩
      · rw [lim_ok (by omega) (by omega)]
        have e2 : encZ o ++ [PV.int .i64 32] = encZ (o ++ [32]) := encZ_snoc o 32
        rw [e2, List.take_of_length_le (by simp)]
        exact ⟨o ++ [32], rfl, by simp⟩
theorem drawBack_ok {bs : List Nat} (hc : CodeOK bs) {k : Nat} (hk : 2500 ≤ k) : ∃ p l, c27 k (encB bs) = r27 p.wide p.vars (encT p.start) (encCms p.cmds) (encZ l) ∧ FitP p ∧ l.length ≤ 60 := by
  obtain ⟨k, rfl⟩ : ∃ j, k = j + 1 := ⟨k - 1, by omega⟩
  rw [n27]
  obtain ⟨a2, s2, p, h, h2, h3, h4⟩ := small_ok hc (k := k) (by omega) (at' := 0) (by omega) (by omega) 0#64
  have h' : c40 k (encB bs) 0 0 = _ := h
  rw [h']
  simp only [R40_r]
  obtain ⟨a3, s3, v, h, h5, h6, h7, h8, _⟩ := pick_ok hc (k := k) (by omega) (at' := a2) (by omega) (by omega) s2 4
  have h8 := h8 (by omega)
  rw [h]
  simp only [R54_r]
  obtain ⟨r, h, h9⟩ := drawBack_loop hc (k := k) (by omega) 0 0 [] [] p.wide p.vars (encT p.start) (encCms p.cmds) 51 k v [] (at' := a3) s3 (by omega) (by omega) (by omega) (by simp) (by omega) (by omega)
  exact ⟨p, r, h, h4, by simp at h9; omega⟩
end Go.Proofs.YtcamhbchcjpjiaaGreat
/- Graphs of small programs. -/
set_option linter.unusedVariables false
set_option linter.unusedSimpArgs false
set_option maxRecDepth 4000
namespace Go.Proofs.YtcamhbchcjpjiaaGreat
open Go.Dp

def encZZ (l : List (List Int)) : List PV := l.map fun z => .row 0 0 (encZ z)
@[simp] theorem encZZ_length (l : List (List Int)) : (encZZ l).length = l.length := by simp [encZZ]
theorem encZZ_get (l : List (List Int)) (i : Nat) : (encZZ l)[i]? = (l[i]?).map fun z => .row 0 0 (encZ z) := by simp [encZZ]
theorem encZZ_snoc (l : List (List Int)) (x : List Int) : encZZ l ++ [.row 0 0 (encZ x)] = encZZ (l ++ [x]) := by simp [encZZ]
def graphF (p : Prg) : Nat → Nat → List (List Int)
  | 0, i => []
  | m + 1, i => nxL p (i : Int) :: graphF p m (i + 1)
def graphL (p : Prg) : List (List Int) := graphF p (nS p) 0
theorem graphF_len (p : Prg) : ∀ (m i : Nat), (graphF p m i).length = m
  | 0, i => rfl
  | m + 1, i => by simp [graphF, graphF_len p m]
theorem graphF_get (p : Prg) : ∀ (m i j : Nat), j < m → (graphF p m i)[j]? = some (nxL p ((i + j : Nat) : Int))
  | 0, i, j, h => by omega
  | m + 1, i, 0, h => by simp [graphF]
  | m + 1, i, j + 1, h => by
    rw [graphF, List.getElem?_cons_succ, graphF_get p m (i + 1) j (by omega)]
    congr 3
    omega
theorem graph_loop {k : Nat} (hk : 1000300 ≤ k) {p : Prg} (hp : FitP p) (hs : smallP p = true) (l1 : List PV) : ∀ (m n i : Nat) (o : List (List Int)), m < n → i + m = nS p → o.length = i →
    L71_1 k n o.length (nS p : Int) (i : Int) p.wide p.vars l1 (encCms p.cmds) (encZZ o) = r71 (encZZ (o ++ graphF p m i))
  | m, 0, i, o, hn, hm, ho => by omega
  | 0, n + 1, i, o, hn, hm, ho => by
    have hd : decide ((i : Int) < (nS p : Int)) = false := by simp; omega
    have etk : (encZZ o).take o.length = encZZ o := by rw [List.take_of_length_le (by simp)]
    rw [sL71_1, hd, etk, graphF, List.append_nil]
    rfl
  | m + 1, n + 1, i, o, hn, hm, ho => by
    have hle := (nS_le hs).2
    have hd : decide ((i : Int) < (nS p : Int)) = true := by simp; omega
    have hnext : IntKind.i64.wrap ((i : Int) + 1) = ((i + 1 : Nat) : Int) := by rw [i64_id (by omega) (by omega)]; omega
    have etk : (encZZ o).take o.length = encZZ o := by rw [List.take_of_length_le (by simp)]
    rw [sL71_1, hd, nextI_ok (by omega) hp hs ⟨by omega, by omega⟩, hnext, etk]
    simp only [cond_true, R53_r]
    rw [lim_ok (by omega) (by omega), encZZ_snoc]
    simp only [cond_true]
    have := graph_loop hk hp hs l1 m n (i + 1) (o ++ [nxL p (i : Int)]) (by omega) (by omega) (by simp; omega)
    rw [List.length_append, List.append_assoc] at this
    exact this
theorem graph_ok {k : Nat} (hk : 1000400 ≤ k) {p : Prg} (hp : FitP p) (hs : smallP p = true) (l1 : List PV) : c71 k p.wide p.vars l1 (encCms p.cmds) = r71 (encZZ (graphL p)) := by
  obtain ⟨k, rfl⟩ : ∃ j, k = j + 1 := ⟨k - 1, by omega⟩
  have hle := (nS_le hs).2
  rw [n71, nSI_ok (by omega) hs]
  simp only [R68_r]
  exact graph_loop (k := k) (by omega) hp hs l1 (nS p) k 0 [] (by omega) (by omega) rfl
end Go.Proofs.YtcamhbchcjpjiaaGreat
/- Graphs turned around. -/
set_option linter.unusedVariables false
set_option linter.unusedSimpArgs false
set_option maxRecDepth 4000
namespace Go.Proofs.YtcamhbchcjpjiaaGreat
open Go.Dp

def encN0 (z : List Int) : PV := bif z.isEmpty then .row 0 2 [] else .row 0 0 (encZ z)
def encF (l : List (List Int)) : List PV := l.map encN0
@[simp] theorem encF_length (l : List (List Int)) : (encF l).length = l.length := by simp [encF]
theorem encF_get (l : List (List Int)) (i : Nat) : (encF l)[i]? = (l[i]?).map encN0 := by simp [encF]
theorem encN0_row (z : List Int) : (encN0 z).atRow 0 0 = some (encZ z) := by
  unfold encN0
  cases z with
  | nil => rfl
  | cons x z => rfl
theorem encF_set (l : List (List Int)) (i : Nat) (z : List Int) (hz : z ≠ []) : (encF l).set i (.row 0 0 (encZ z)) = encF (l.set i z) := by
  have e : PV.row 0 0 (encZ z) = encN0 z := by
    unfold encN0
    cases z with
    | nil => exact absurd rfl hz
    | cons x z => rfl
  rw [e, encF, encF, List.map_set]
def pushAll (v : Int) : List Int → List (List Int) → List (List Int)
  | [], o => o
  | w :: l, o => pushAll v l (o.set w.toNat ((o[w.toNat]?).getD [] ++ [v]))
def turnF : Nat → List (List Int) → List (List Int) → List (List Int)
  | _, [], o => o
  | i, z :: l, o => turnF (i + 1) l (pushAll (i : Int) z o)
def turnL (g : List (List Int)) : List (List Int) := turnF 0 g (List.replicate g.length [])
theorem pushAll_len (v : Int) : ∀ (l : List Int) (o : List (List Int)), (pushAll v l o).length = o.length
  | [], o => rfl
  | w :: l, o => by rw [pushAll, pushAll_len v l, List.length_set]
theorem turnF_len : ∀ (l : List (List Int)) (i : Nat) (o : List (List Int)), (turnF i l o).length = o.length
  | [], i, o => rfl
  | z :: l, i, o => by rw [turnF, turnF_len l, pushAll_len]
def atL (o : List (List Int)) (w : Nat) : List Int := (o[w]?).getD []
theorem pushAll_mem (v : Int) : ∀ (l : List Int) (o : List (List Int)), (∀ x ∈ l, 0 ≤ x ∧ x.toNat < o.length) → ∀ (w : Nat) (y : Int), y ∈ atL (pushAll v l o) w ↔ y ∈ atL o w ∨ (y = v ∧ (w : Int) ∈ l)
  | [], o, hl, w, y => by simp [pushAll]
  | x :: l, o, hl, w, y => by
    obtain ⟨h0, h1⟩ := hl x (by simp)
    rw [pushAll, pushAll_mem v l _ (fun z hz => by rw [List.length_set]; exact hl z (by simp [hz])) w y]
    have e : atL (o.set x.toNat ((o[x.toNat]?).getD [] ++ [v])) w = if x.toNat = w then atL o w ++ [v] else atL o w := by
      unfold atL
      rw [List.getElem?_set]
      by_cases he : x.toNat = w
      · subst he; simp [h1]
      · simp [he]
    rw [e]
    have hw : (w : Int) = x ↔ x.toNat = w := by omega
    by_cases he : x.toNat = w
    · rw [if_pos he]
      have hwx := hw.2 he
      rw [List.mem_append, List.mem_singleton, hwx, List.mem_cons]
      constructor
      · rintro ((h | h) | ⟨h, _⟩)
        · exact .inl h
        · exact .inr ⟨h, .inl rfl⟩
        · exact .inr ⟨h, .inl rfl⟩
      · rintro (h | ⟨h, _⟩)
        · exact .inl (.inl h)
        · exact .inl (.inr h)
    · rw [if_neg he]
      have hne : ¬ (w : Int) = x := fun h => he (hw.1 h)
      simp [hne]
theorem turnF_mem : ∀ (l : List (List Int)) (i : Nat) (o : List (List Int)), (∀ z ∈ l, ∀ x ∈ z, 0 ≤ x ∧ x.toNat < o.length) → ∀ (w : Nat) (y : Int), y ∈ atL (turnF i l o) w ↔ y ∈ atL o w ∨ ∃ j z, l[j]? = some z ∧ y = ((i + j : Nat) : Int) ∧ (w : Int) ∈ z
  | [], i, o, hl, w, y => by simp [turnF]
  | z :: l, i, o, hl, w, y => by
    rw [turnF, turnF_mem l (i + 1) _ (fun u hu => by rw [pushAll_len]; exact hl u (by simp [hu])) w y, pushAll_mem (i : Int) z o (hl z (by simp)) w y]
    constructor
    · rintro ((h | ⟨h1, h2⟩) | ⟨j, u, h1, h2, h3⟩)
      · exact .inl h
      · exact .inr ⟨0, z, rfl, by simpa using h1, h2⟩
      · exact .inr ⟨j + 1, u, by simpa using h1, by rw [h2]; congr 1; omega, h3⟩
    · rintro (h | ⟨j, u, h1, h2, h3⟩)
      · exact .inl (.inl h)
      · cases j with
        | zero =>
          simp at h1
          subst h1
          exact .inl (.inr ⟨by simpa using h2, h3⟩)
        | succ j => exact .inr ⟨j, u, by simpa using h1, by rw [h2]; congr 1; omega, h3⟩
theorem turnL_mem {g : List (List Int)} (hg : ∀ z ∈ g, ∀ x ∈ z, 0 ≤ x ∧ x.toNat < g.length) (w : Nat) (y : Int) : y ∈ atL (turnL g) w ↔ ∃ (j : Nat) (z : List Int), g[j]? = some z ∧ y = (j : Int) ∧ (w : Int) ∈ z := by
  unfold turnL
  rw [turnF_mem g 0 _ (by simpa using hg) w y]
  have e : atL (List.replicate g.length ([] : List Int)) w = [] := by
    unfold atL
    rw [List.getElem?_replicate]
    split <;> rfl
  rw [e]
  simp
theorem pushAll_bound (v : Int) (b : Nat) : ∀ (l : List Int) (o : List (List Int)), (∀ z ∈ o, z.length ≤ b) → ∀ z ∈ pushAll v l o, z.length ≤ b + l.length
  | [], o, h => by simpa [pushAll] using h
  | x :: l, o, h => by
    intro z hz
    rw [pushAll] at hz
    have := pushAll_bound v (b + 1) l _ (fun u hu => by
      rcases List.mem_or_eq_of_mem_set hu with hu | rfl
      · have := h u hu; omega
      · cases ho : o[x.toNat]? with
        | none => simp
        | some t =>
          have := h t (List.mem_of_getElem? ho)
          simp; omega) z hz
    simp only [List.length_cons]
    omega
theorem turn_loop2 {k : Nat} (n1 i : Nat) (g : List PV) (t12 : Int) (l : List Int) (hl : l.length ≤ 6) : ∀ (n j : Nat) (o : List (List Int)), l.length - j < n → j ≤ l.length → (∀ x ∈ l, 0 ≤ x ∧ x.toNat < o.length) → (∀ z ∈ o, z.length ≤ 1000 + j) →
    L70_2 k n1 n o.length (i : Int) g t12 (i : Int) (encZ l) (l.length : Int) (j : Int) (encF o) = L70_1 k n1 (pushAll (i : Int) (l.drop j) o).length g t12 (IntKind.i64.wrap ((i : Int) + 1)) (encF (pushAll (i : Int) (l.drop j) o))
  | 0, j, o, hn, hj, ho, hb => by omega
  | n + 1, j, o, hn, hj, ho, hb => by
    rw [sL70_2]
    by_cases hlt : j < l.length
    · have hd : decide ((j : Int) < (l.length : Int)) = true := by simpa using hlt
      have hnext : IntKind.i64.wrap ((j : Int) + 1) = ((j + 1 : Nat) : Int) := by rw [i64_id (by omega) (by omega)]; omega
      obtain ⟨h0, h1⟩ := ho _ (List.getElem_mem hlt)
      have hin : (decide ((0 : Int) ≤ l[j]) && decide (l[j] < (o.length : Int))) = true := by simp; omega
      have hget : (encF o)[0 + l[j].toNat]? = some (encN0 o[l[j].toNat]) := by rw [Nat.zero_add, encF_get, List.getElem?_eq_getElem h1]; rfl
      have hz := hb _ (List.getElem_mem h1)
      rw [hd, encZ_lookup hlt, drop_cons hlt, hnext]
      simp only [cond_true, Option.bind_some, int_atInt]
      rw [hin, hget]
      simp only [cond_true, Option.bind_some, encN0_row, encZ_length]
      rw [lim_ok (by omega) (by omega), encZ_snoc]
      have e1 : ((some (0 + l[j].toNat) : Option Nat) == some (0 + l[j].toNat)) = true := by simp
      have e2 : decide (o[l[j].toNat].length + 1 ≤ (encZ (o[l[j].toNat] ++ [(i : Int)])).length) = true := by simp
      have e3 : (encZ (o[l[j].toNat] ++ [(i : Int)])).take (o[l[j].toNat].length + 1) = encZ (o[l[j].toNat] ++ [(i : Int)]) := by rw [List.take_of_length_le (by simp)]
      rw [e1, e2, e3, Nat.zero_add, encF_set _ _ _ (by simp), pushAll, List.getElem?_eq_getElem h1]
      simp only [cond_true, Bool.and_self, Option.getD_some]
      have := turn_loop2 (k := k) n1 i g t12 l hl n (j + 1) (o.set l[j].toNat (o[l[j].toNat] ++ [(i : Int)])) (by omega) (by omega) (fun x hx => by rw [List.length_set]; exact ho x hx) (fun z hz => by
        rcases List.mem_or_eq_of_mem_set hz with hz | rfl
        · have := hb z hz; omega
        · simp; omega)
      rw [List.length_set] at this
      exact this
    · have hd : decide ((j : Int) < (l.length : Int)) = false := by simpa using hlt
      rw [hd, List.drop_eq_nil_of_le (by omega)]
      rfl
theorem turn_loop1 {k : Nat} (hk : 100 ≤ k) (g : List (List Int)) (hgl : g.length ≤ 100) (hg : ∀ z ∈ g, z.length ≤ 6 ∧ ∀ x ∈ z, 0 ≤ x ∧ x.toNat < g.length) : ∀ (n i : Nat) (o : List (List Int)), g.length - i < n → i ≤ g.length → o.length = g.length → (∀ z ∈ o, z.length ≤ 6 * i) →
    L70_1 k n o.length (encZZ g) (g.length : Int) (i : Int) (encF o) = r70 (encF (turnF i (g.drop i) o))
  | 0, i, o, hn, hi, ho, hb => by omega
  | n + 1, i, o, hn, hi, ho, hb => by
    rw [sL70_1]
    by_cases hlt : i < g.length
    · have hd : decide ((i : Int) < (g.length : Int)) = true := by simpa using hlt
      have hnext : IntKind.i64.wrap ((i : Int) + 1) = ((i + 1 : Nat) : Int) := by rw [i64_id (by omega) (by omega)]; omega
      obtain ⟨h1, h2⟩ := hg _ (List.getElem_mem hlt)
      rw [hd, lookP_nat, encZZ_get, List.getElem?_eq_getElem hlt, drop_cons hlt]
      simp only [cond_true, Option.map_some, Option.bind_some, row_atRow, encZ_length]
      have h3 := turn_loop2 (k := k) n i (encZZ g) (g.length : Int) g[i] h1 k 0 o (by omega) (by omega) (fun x hx => by rw [ho]; exact h2 x hx) (fun z hz => by have := hb z hz; omega)
      have h' : L70_2 k n k o.length (i : Int) (encZZ g) (g.length : Int) (i : Int) (encZ g[i]) (g[i].length : Int) 0 (encF o) = _ := h3
      rw [h', hnext, List.drop_zero, turnF]
      exact turn_loop1 hk g hgl hg n (i + 1) _ (by omega) (by omega) (by rw [pushAll_len]; exact ho) (fun z hz => by
        have := pushAll_bound (i : Int) (6 * i) g[i] o hb z hz
        omega)
    · have hd : decide ((i : Int) < (g.length : Int)) = false := by simpa using hlt
      have etk : (encF o).take o.length = encF o := by rw [List.take_of_length_le (by simp)]
      rw [hd, List.drop_eq_nil_of_le (by omega), etk]
      rfl
theorem turned_ok {k : Nat} (hk : 200 ≤ k) (g : List (List Int)) (hgl : g.length ≤ 100) (hg : ∀ z ∈ g, z.length ≤ 6 ∧ ∀ x ∈ z, 0 ≤ x ∧ x.toNat < g.length) : c70 k (encZZ g) = r70 (encF (turnL g)) := by
  obtain ⟨k, rfl⟩ : ∃ j, k = j + 1 := ⟨k - 1, by omega⟩
  rw [n70, encZZ_length]
  have e : (((g.length : Int) == (g.length : Int)) && decide ((0 : Int) ≤ (g.length : Int)) && decide (g.length * 24 ≤ LIM) && decide (g.length ≤ LIM)) = true := by
    have h1 : decide (g.length * 24 ≤ LIM) = true := decide_eq_true (by unfold LIM; omega)
    have h2 : decide (g.length ≤ LIM) = true := decide_eq_true (by unfold LIM; omega)
    rw [h1, h2]
    simp
  have e2 : List.replicate g.length (PV.row 0 2 []) = encF (List.replicate g.length []) := by simp [encF, encN0]
  rw [e, e2]
  have := turn_loop1 (k := k) (by omega) g hgl hg k 0 (List.replicate g.length []) (by omega) (by omega) (by simp) (fun z hz => by rw [(List.mem_replicate.1 hz).2]; simp)
  rw [List.length_replicate, List.drop_zero] at this
  exact this
end Go.Proofs.YtcamhbchcjpjiaaGreat
/- Breadth first: the least numbers of steps. -/
set_option linter.unusedVariables false
set_option linter.unusedSimpArgs false
namespace Go.Proofs.YtcamhbchcjpjiaaGreat
open Go.Dp

def dAt (d : List Int) (v : Int) : Int := (d[v.toNat]?).getD (-1)
def inG (N : Nat) (v : Int) : Prop := 0 ≤ v ∧ v.toNat < N
inductive Way (g : List (List Int)) (some : List Int) : Nat → Int → Prop
  | start (v : Int) (h : v ∈ some) : Way g some 0 v
  | step (n : Nat) (v w : Int) (h : Way g some n v) (hw : w ∈ atL g v.toNat) : Way g some (n + 1) w
def bIn (h : Int) : List Int → List Int → List Int → List Int × List Int
  | [], d, q => (d, q)
  | w :: l, d, q => bif decide (dAt d w < 0) then bIn h l (d.set w.toNat (dAt d h + 1)) (q ++ [w]) else bIn h l d q
def bOut (g : List (List Int)) : Nat → List Int → List Int → List Int
  | _, d, [] => d
  | 0, d, _ => d
  | m + 1, d, h :: t => bOut g m (bIn h (atL g h.toNat) d (h :: t)).1 ((bIn h (atL g h.toNat) d (h :: t)).2.drop 1)
def bSt : List Int → List Int → List Int
  | [], d => d
  | v :: l, d => bSt l (d.set v.toNat 0)
def stepsL (g : List (List Int)) (some : List Int) : List Int := bOut g (some.length + g.length) (bSt some (List.replicate g.length (-1))) some
theorem dAt_set {d : List Int} {w : Int} (hw : inG d.length w) (x : Int) {v : Int} (hv : 0 ≤ v) : dAt (d.set w.toNat x) v = if v = w then x else dAt d v := by
  obtain ⟨h0, h1⟩ := hw
  unfold dAt
  by_cases e : v = w
  · subst e; rw [List.getElem?_set_self h1, if_pos rfl]; rfl
  · rw [List.getElem?_set_ne (by omega), if_neg e]
def negs (d : List Int) : Nat := d.countP fun x => decide (x < 0)
theorem negs_set : ∀ {d : List Int} {i : Nat} (x : Int), i < d.length → (d[i]?).getD (-1) < 0 → 0 ≤ x → negs (d.set i x) + 1 = negs d
  | [], i, x, h, _, _ => by simp at h
  | a :: d, 0, x, h, h1, h2 => by
    simp at h1
    simp only [List.set_cons_zero, negs, List.countP_cons]
    rw [if_neg (by simp; omega), if_pos (by simpa using h1)]
  | a :: d, i + 1, x, h, h1, h2 => by
    have := negs_set (d := d) (i := i) x (by simpa using h) (by simpa using h1) h2
    simp only [List.set_cons_succ, negs, List.countP_cons] at this ⊢
    omega
structure BfsI (g : List (List Int)) (some d q : List Int) : Prop where
  len : d.length = g.length
  rng : ∀ v ∈ q, inG g.length v
  snd : ∀ v, inG g.length v → dAt d v = -1 ∨ (0 ≤ dAt d v ∧ Way g some (dAt d v).toNat v)
  st : ∀ v ∈ some, dAt d v = 0
  vis : ∀ v ∈ q, 0 ≤ dAt d v
  srt : q.Pairwise (fun a b => dAt d a ≤ dAt d b)
  bnd : ∀ h t, q = h :: t → ∀ v, inG g.length v → dAt d v ≤ dAt d h + 1
  don : ∀ v, inG g.length v → 0 ≤ dAt d v → v ∉ q → ∀ w ∈ atL g v.toNat, 0 ≤ dAt d w ∧ dAt d w ≤ dAt d v + 1
theorem bIn_spec {g : List (List Int)} {some : List Int} (hg : ∀ (i : Nat) (x : Int), x ∈ atL g i → inG g.length x) (hs : ∀ x ∈ some, inG g.length x) (h : Int) : ∀ (l d t : List Int), BfsI g some d (h :: t) → (∀ w ∈ l, w ∈ atL g h.toNat) →
    ∃ t', (bIn h l d (h :: t)).2 = h :: t' ∧ BfsI g some (bIn h l d (h :: t)).1 (h :: t') ∧ (∀ v, inG g.length v → 0 ≤ dAt d v → dAt (bIn h l d (h :: t)).1 v = dAt d v) ∧ (∀ w ∈ l, 0 ≤ dAt (bIn h l d (h :: t)).1 w) ∧ negs (bIn h l d (h :: t)).1 + t'.length = negs d + t.length
  | [], d, t, hI, hl => ⟨t, rfl, hI, fun _ _ _ => rfl, by simp, rfl⟩
  | w :: l, d, t, hI, hl => by
    have hh := hI.vis h (by simp)
    have hhr := hI.rng h (by simp)
    have hwr : inG g.length w := hg _ _ (hl w (by simp))
    have hwd : inG d.length w := by rw [hI.len]; exact hwr
    rw [bIn]
    by_cases hc : dAt d w < 0
    · have e : decide (dAt d w < 0) = true := by simpa using hc
      rw [e]
      simp only [cond_true]
      have key : ∀ v, inG g.length v → dAt (d.set w.toNat (dAt d h + 1)) v = if v = w then dAt d h + 1 else dAt d v := fun v hv => dAt_set hwd _ hv.1
      have old : ∀ v, inG g.length v → 0 ≤ dAt d v → dAt (d.set w.toNat (dAt d h + 1)) v = dAt d v := by
        intro v hv h0
        rw [key v hv, if_neg (by rintro rfl; omega)]
      have hI2 : BfsI g some (d.set w.toNat (dAt d h + 1)) (h :: (t ++ [w])) := by
        refine ⟨by rw [List.length_set]; exact hI.len, ?_, ?_, ?_, ?_, ?_, ?_, ?_⟩
        · intro v hv
          rcases List.mem_cons.1 hv with rfl | hv
          · exact hhr
          · rcases List.mem_append.1 hv with hv | hv
            · exact hI.rng v (by simp [hv])
            · rw [List.mem_singleton.1 hv]; exact hwr
        · intro v hv
          rw [key v hv]
          by_cases e1 : v = w
          · subst e1
            rw [if_pos rfl]
            right
            refine ⟨by omega, ?_⟩
            rcases hI.snd h hhr with h1 | ⟨_, h1⟩
            · omega
            · have := Way.step _ _ v h1 (hl v (by simp))
              rwa [show (dAt d h).toNat + 1 = (dAt d h + 1).toNat by omega] at this
          · rw [if_neg e1]; exact hI.snd v hv
        · intro v hv
          rw [old v (hs v hv) (by rw [hI.st v hv]; omega)]
          exact hI.st v hv
        · intro v hv
          rcases List.mem_cons.1 hv with rfl | hv
          · rw [old v hhr hh]; exact hh
          · rcases List.mem_append.1 hv with hv | hv
            · have h1 := hI.vis v (by simp [hv])
              rw [old v (hI.rng v (by simp [hv])) h1]; exact h1
            · rw [List.mem_singleton.1 hv, key w hwr, if_pos rfl]; omega
        · rw [← List.cons_append, List.pairwise_append]
          refine ⟨?_, by simp, ?_⟩
          · refine hI.srt.imp_of_mem ?_
            intro a b ha hb hab
            rw [old a (hI.rng a ha) (hI.vis a ha), old b (hI.rng b hb) (hI.vis b hb)]
            exact hab
          · intro a ha b hb
            rw [List.mem_singleton.1 hb, key w hwr, if_pos rfl, old a (hI.rng a ha) (hI.vis a ha)]
            exact hI.bnd h t rfl a (hI.rng a ha)
        · intro h' t' he v hv
          injection he with he _
          subst he
          rw [old h hhr hh, key v hv]
          by_cases e1 : v = w
          · rw [if_pos e1]; omega
          · rw [if_neg e1]; exact hI.bnd h t rfl v hv
        · intro v hv h0 hn x hx
          have hvw : v ≠ w := by rintro rfl; exact hn (by simp)
          have hvq : v ∉ h :: t := by
            intro hm
            rcases List.mem_cons.1 hm with rfl | hm
            · exact hn (by simp)
            · exact hn (by simp [hm])
          rw [key v hv, if_neg hvw] at h0 ⊢
          obtain ⟨h1, h2⟩ := hI.don v hv h0 hvq x hx
          rw [old x (hg _ _ hx) h1]
          exact ⟨h1, h2⟩
      obtain ⟨t', r1, r2, r3, r4, r5⟩ := bIn_spec hg hs h l _ (t ++ [w]) hI2 (fun x hx => hl x (by simp [hx]))
      have hq : (h :: t) ++ [w] = h :: (t ++ [w]) := rfl
      rw [hq]
      refine ⟨t', r1, r2, fun v hv h0 => ?_, fun x hx => ?_, ?_⟩
      · rw [r3 v hv (by rw [old v hv h0]; exact h0), old v hv h0]
      · rcases List.mem_cons.1 hx with rfl | hx
        · rw [r3 x hwr (by rw [key x hwr, if_pos rfl]; omega), key x hwr, if_pos rfl]; omega
        · exact r4 x hx
      · have := negs_set (d := d) (i := w.toNat) (dAt d h + 1) hwd.2 hc (by omega)
        rw [r5, List.length_append, List.length_singleton]
        omega
    · have e : decide (dAt d w < 0) = false := by simpa using hc
      rw [e]
      simp only [cond_false]
      obtain ⟨t', r1, r2, r3, r4, r5⟩ := bIn_spec hg hs h l d t hI (fun x hx => hl x (by simp [hx]))
      refine ⟨t', r1, r2, r3, fun x hx => ?_, r5⟩
      rcases List.mem_cons.1 hx with rfl | hx
      · rw [r3 x hwr (by omega)]; omega
      · exact r4 x hx
theorem bPop {g : List (List Int)} {some : List Int} {h : Int} {d t : List Int} (hg : ∀ (i : Nat) (x : Int), x ∈ atL g i → inG g.length x) (hI : BfsI g some d (h :: t)) (hd : ∀ w ∈ atL g h.toNat, 0 ≤ dAt d w) : BfsI g some d t := by
  have hs := List.pairwise_cons.1 hI.srt
  refine ⟨hI.len, fun v hv => hI.rng v (by simp [hv]), hI.snd, hI.st, fun v hv => hI.vis v (by simp [hv]), hs.2, ?_, ?_⟩
  · rintro h' t' rfl v hv
    have h1 := hI.bnd h _ rfl v hv
    have h2 := hs.1 h' (by simp)
    omega
  · intro v hv h0 hn w hw
    by_cases e : v = h
    · subst e
      exact ⟨hd w hw, hI.bnd v t rfl w (hg _ _ hw)⟩
    · exact hI.don v hv h0 (by simp [e, hn]) w hw
theorem bOut_spec {g : List (List Int)} {some : List Int} (hg : ∀ (i : Nat) (x : Int), x ∈ atL g i → inG g.length x) (hs : ∀ x ∈ some, inG g.length x) : ∀ (m : Nat) (d q : List Int), BfsI g some d q → negs d + q.length ≤ m → BfsI g some (bOut g m d q) []
  | m, d, [], hI, hm => by unfold bOut; exact hI
  | 0, d, h :: t, hI, hm => by simp at hm
  | m + 1, d, h :: t, hI, hm => by
    obtain ⟨t', r1, r2, r3, r4, r5⟩ := bIn_spec hg hs h (atL g h.toNat) d t hI (fun x hx => hx)
    rw [bOut, r1]
    simp only [List.length_cons] at hm
    exact bOut_spec hg hs m _ t' (bPop hg r2 r4) (by omega)
theorem bSt_spec : ∀ (l d : List Int), (∀ v ∈ l, inG d.length v) → (bSt l d).length = d.length ∧ ∀ v, 0 ≤ v → dAt (bSt l d) v = if v ∈ l then 0 else dAt d v
  | [], d, h => ⟨rfl, fun v _ => by simp [bSt]⟩
  | x :: l, d, h => by
    have hx := h x (by simp)
    obtain ⟨h1, h2⟩ := bSt_spec l (d.set x.toNat 0) (fun v hv => by rw [List.length_set]; exact h v (by simp [hv]))
    rw [bSt]
    refine ⟨by rw [h1, List.length_set], fun v hv => ?_⟩
    rw [h2 v hv, dAt_set hx 0 hv]
    by_cases e1 : v ∈ l
    · simp [e1]
    · by_cases e2 : v = x <;> simp [e1, e2]
theorem dAt_rep (N : Nat) (v : Int) : dAt (List.replicate N (-1)) v = -1 := by
  unfold dAt
  by_cases h : v.toNat < N
  · simp [h]
  · rw [List.getElem?_eq_none (by simp; omega)]; rfl
theorem negs_le (d : List Int) : negs d ≤ d.length := List.countP_le_length
theorem bfs_start {g : List (List Int)} {some : List Int} (hs : ∀ x ∈ some, inG g.length x) : BfsI g some (bSt some (List.replicate g.length (-1))) some := by
  obtain ⟨h1, h2⟩ := bSt_spec some (List.replicate g.length (-1)) (fun v hv => by simpa using hs v hv)
  have hd : ∀ v, 0 ≤ v → dAt (bSt some (List.replicate g.length (-1))) v = if v ∈ some then 0 else -1 := fun v hv => by rw [h2 v hv, dAt_rep]
  refine ⟨by simpa using h1, hs, ?_, ?_, ?_, ?_, ?_, ?_⟩
  · intro v hv
    rw [hd v hv.1]
    by_cases e : v ∈ some
    · rw [if_pos e]; exact .inr ⟨by omega, .start v e⟩
    · rw [if_neg e]; exact .inl rfl
  · intro v hv; rw [hd v (hs v hv).1, if_pos hv]
  · intro v hv; rw [hd v (hs v hv).1, if_pos hv]; omega
  · refine (List.pairwise_of_forall (R := fun _ _ => True) (fun _ _ => trivial)).imp_of_mem ?_
    intro a b ha hb _
    rw [hd a (hs a ha).1, hd b (hs b hb).1, if_pos ha, if_pos hb]
    omega
  · rintro h t rfl v hv
    rw [hd v hv.1, hd h (hs h (by simp)).1, if_pos (show h ∈ h :: t by simp)]
    split <;> omega
  · intro v hv h0 hn
    rw [hd v hv.1, if_neg hn] at h0
    omega
theorem stepsL_spec {g : List (List Int)} {some : List Int} (hg : ∀ (i : Nat) (x : Int), x ∈ atL g i → inG g.length x) (hs : ∀ x ∈ some, inG g.length x) : (stepsL g some).length = g.length ∧
    ∀ v, inG g.length v → (dAt (stepsL g some) v = -1 ∧ ∀ n, ¬ Way g some n v) ∨ (0 ≤ dAt (stepsL g some) v ∧ Way g some (dAt (stepsL g some) v).toNat v ∧ ∀ n, Way g some n v → dAt (stepsL g some) v ≤ n) := by
  have hI := bOut_spec hg hs (some.length + g.length) _ some (bfs_start hs) (by
    have h1 := negs_le (bSt some (List.replicate g.length (-1)))
    have h2 := (bfs_start hs).len
    omega)
  have hI' : BfsI g some (stepsL g some) [] := hI
  have low : ∀ n v, Way g some n v → 0 ≤ dAt (stepsL g some) v ∧ dAt (stepsL g some) v ≤ n ∧ inG g.length v := by
    intro n v hw
    induction hw with
    | start v h => rw [hI'.st v h]; exact ⟨by omega, by omega, hs v h⟩
    | step n v w _ hw ih =>
      obtain ⟨h1, h2⟩ := hI'.don v ih.2.2 ih.1 (by simp) w hw
      exact ⟨h1, by omega, hg _ _ hw⟩
  refine ⟨hI'.len, fun v hv => ?_⟩
  rcases hI'.snd v hv with h | ⟨h1, h2⟩
  · exact .inl ⟨h, fun n hn => by have := (low n v hn).1; omega⟩
  · exact .inr ⟨h1, h2, fun n hn => (low n v hn).2.1⟩
end Go.Proofs.YtcamhbchcjpjiaaGreat
/- A row made of one value, many times over. -/
set_option linter.unusedVariables false
set_option linter.unusedSimpArgs false
set_option maxRecDepth 8000
namespace Go.Proofs.YtcamhbchcjpjiaaGreat
open Go.Dp

theorem lo32B (a : W) : (a &&& 4294967295#64).toNat = a.toNat % 4294967296 := by
  rw [BitVec.toNat_and]
  exact Nat.and_two_pow_sub_one_eq_mod a.toNat 32
theorem hi32B (a : W) : (a >>> (32 : Int).toNat).toNat = a.toNat / 4294967296 := by
  rw [BitVec.toNat_ushiftRight, Nat.shiftRight_eq_div_pow]
  rfl
theorem mulB64_ok {k : Nat} (hk : 1 ≤ k) (a b : W) : ∃ h : W, c179 k (wi a) (wi b) = r179 (wi h) (wi (a * b)) ∧ h.toNat = a.toNat * b.toNat / 18446744073709551616 := by
  obtain ⟨k, rfl⟩ : ∃ j, k = j + 1 := ⟨k - 1, by omega⟩
  rw [n179]
  have e : (4294967295 : Int) = wi 4294967295#64 := rfl
  have hs : ∀ x : W, shrI .u64 (wi x) 32 = wi (x >>> (32 : Int).toNat) := fun x => shr_wi x (by omega)
  rw [e]
  simp only [hs, and_wi, mul_wi, add_wi]
  refine ⟨_, rfl, ?_⟩
  simp only [BitVec.toNat_add, BitVec.toNat_mul, lo32B, hi32B]
  have ha := a.isLt
  have hb := b.isLt
  generalize a.toNat = x at *
  generalize b.toNat = y at *
  have hx : x = x / 4294967296 * 4294967296 + x % 4294967296 := by omega
  have hy : y = y / 4294967296 * 4294967296 + y % 4294967296 := by omega
  have b1 : x / 4294967296 ≤ 4294967295 := by omega
  have b2 : x % 4294967296 ≤ 4294967295 := by omega
  have b3 : y / 4294967296 ≤ 4294967295 := by omega
  have b4 : y % 4294967296 ≤ 4294967295 := by omega
  have e1 : x * y = x / 4294967296 * (y / 4294967296) * 18446744073709551616 + (x / 4294967296 * (y % 4294967296) + x % 4294967296 * (y / 4294967296)) * 4294967296 + x % 4294967296 * (y % 4294967296) := by
    generalize x / 4294967296 = p at *
    generalize x % 4294967296 = q at *
    generalize y / 4294967296 = u at *
    generalize y % 4294967296 = v at *
    subst hx hy
    simp only [Nat.add_mul, Nat.mul_add]
    have t1 : p * 4294967296 * (u * 4294967296) = p * u * 18446744073709551616 := by rw [Nat.mul_mul_mul_comm]
    have t2 : p * 4294967296 * v = p * v * 4294967296 := by rw [Nat.mul_right_comm]
    have t3 : q * (u * 4294967296) = q * u * 4294967296 := by rw [Nat.mul_assoc]
    rw [t1, t2, t3]
    omega
  rw [e1]
  have m1 := Nat.mul_le_mul b1 b3
  have m2 := Nat.mul_le_mul b1 b4
  have m3 := Nat.mul_le_mul b2 b3
  have m4 := Nat.mul_le_mul b2 b4
  generalize x / 4294967296 * (y / 4294967296) = A at *
  generalize x / 4294967296 * (y % 4294967296) = B at *
  generalize x % 4294967296 * (y / 4294967296) = C at *
  generalize x % 4294967296 * (y % 4294967296) = D at *
  clear e1 hx hy
  omega
theorem u64_small {n : Int} (h0 : 0 ≤ n) (h1 : n ≤ 1000000) : IntKind.u64.wrap n = n := by
  show n % 18446744073709551616 = n
  omega
theorem repeat_loop {k : Nat} (N : Nat) (hN : N ≤ 1000) (a : Int) : ∀ (n c : Nat), 1 ≤ c → c ≤ N → N - c < n →
    L127_1 k n N (c : Int) (encZ (List.replicate c a ++ List.replicate (N - c) 0)) = r127 (encZ (List.replicate N a))
  | 0, c, h1, h2, h => by omega
  | n + 1, c, h1, h2, h => by
    rw [sL127_1]
    have ln : (encZ (List.replicate c a ++ List.replicate (N - c) 0)).length = N := by simp; omega
    by_cases hlt : c < N
    · have hd : decide ((c : Int) < (N : Int)) = true := by simpa using hlt
      have ht : (encZ (List.replicate c a ++ List.replicate (N - c) 0)).take c = encZ (List.replicate c a) := by rw [encZ_take, List.take_left' (by simp)]
      have hl : ((encZ (List.replicate c a)).length) = c := by simp
      have hm : min c (N - c) ≤ c := Nat.min_le_left _ _
      have hm2 : min c (N - c) ≤ N - c := Nat.min_le_right _ _
      have hm3 : 1 ≤ min c (N - c) := by omega
      rw [hd]
      simp only [Int.toNat_natCast, Nat.zero_add, ht, hl]
      have hg1 : (decide ((0 : Int) ≤ (c : Int)) && decide ((c : Int) ≤ (N : Int)) && decide ((N : Int) ≤ (N : Int))) = true := by simp; omega
      have hg2 : (decide ((0 : Int) ≤ (c : Int)) && decide ((c : Int) ≤ (N : Int))) = true := by simp; omega
      have ht2 : (encZ (List.replicate c a)).take (min c (N - c)) = encZ (List.replicate (min c (N - c)) a) := by rw [encZ_take, List.take_replicate, Nat.min_eq_left hm]
      have ht3 : (encZ (List.replicate c a ++ List.replicate (N - c) 0)).drop (c + min c (N - c)) = encZ (List.replicate (N - (c + min c (N - c))) 0) := by
        rw [show encZ (List.replicate c a ++ List.replicate (N - c) 0) = encZ (List.replicate c a) ++ encZ (List.replicate (N - c) 0) by simp [encZ], ← List.drop_drop, List.drop_left' (by simp)]
        simp only [encZ, ← List.map_drop, List.drop_replicate]
        congr 2
        omega
      have hnext : IntKind.i64.wrap ((c : Int) + ((min c (N - c) : Nat) : Int)) = ((c + min c (N - c) : Nat) : Int) := by rw [i64_id (by omega) (by omega)]; omega
      have he : encZ (List.replicate c a) ++ encZ (List.replicate (min c (N - c)) a) ++ encZ (List.replicate (N - (c + min c (N - c))) 0) = encZ (List.replicate (c + min c (N - c)) a ++ List.replicate (N - (c + min c (N - c))) 0) := by
        simp [encZ, ← List.replicate_append_replicate]
      rw [hg1, hg2, ht2, encZ_length, List.length_replicate, ht3, hnext, he]
      simp only [cond_true]
      exact repeat_loop N hN a n _ (by omega) (by omega) (by omega)
    · have hd : decide ((c : Int) < (N : Int)) = false := by simpa using hlt
      have hc : c = N := by omega
      subst hc
      have et : (encZ (List.replicate c a)).take c = encZ (List.replicate c a) := by rw [List.take_of_length_le (by simp)]
      rw [hd, Nat.sub_self, List.replicate_zero, List.append_nil, et]
      rfl
theorem repeat_ok {k : Nat} (hk : 1010 ≤ k) (N : Nat) (hN : N ≤ 1000) (a : Int) : c127 k [PV.int .i64 a] (N : Int) = r127 (encZ (List.replicate N a)) := by
  obtain ⟨k, rfl⟩ : ∃ j, k = j + 1 := ⟨k - 1, by omega⟩
  rw [n127]
  have hd : decide ((N : Int) < 0) = false := by simp
  have hw1 : IntKind.u64.wrap (([PV.int .i64 a] : List PV).length : Int) = wi 1#64 := rfl
  have hw2 : IntKind.u64.wrap (N : Int) = wi (BitVec.ofNat 64 N) := by
    rw [u64_small (by omega) (by omega)]
    show (N : Int) = ((BitVec.ofNat 64 N).toNat : Int)
    rw [BitVec.toNat_ofNat, Nat.mod_eq_of_lt (by omega)]
  obtain ⟨k, rfl⟩ : ∃ j, k = j + 1 := ⟨k - 1, by omega⟩
  rw [hd, hw1, hw2, n154]
  obtain ⟨h, h1, h2⟩ := mulB64_ok (k := k) (by omega) 1#64 (BitVec.ofNat 64 N)
  rw [h1]
  simp only [R179_r, R154_r, cond_false]
  have hh : h = 0#64 := by
    apply BitVec.eq_of_toNat_eq
    rw [h2, BitVec.toNat_ofNat, BitVec.toNat_ofNat, Nat.mod_eq_of_lt (a := N) (by omega)]
    simp
    omega
  have hv : wi (1#64 * BitVec.ofNat 64 N) = (N : Int) := by
    rw [BitVec.one_mul, ← hw2, u64_small (by omega) (by omega)]
  subst hh
  have h0 : decide (wi 0#64 > 0) = false := rfl
  have h3 : decide ((N : Int) > 9223372036854775807) = false := by simp; omega
  have h4 : IntKind.i64.wrap (N : Int) = (N : Int) := i64_id (by omega) (by omega)
  have h5 : (((N : Int) == (N : Int)) && decide ((0 : Int) ≤ (N : Int)) && decide (N * 8 ≤ LIM) && decide (N ≤ LIM)) = true := by
    have q1 : decide (N * 8 ≤ LIM) = true := decide_eq_true (by unfold LIM; omega)
    have q2 : decide (N ≤ LIM) = true := decide_eq_true (by unfold LIM; omega)
    rw [q1, q2]
    simp
  rw [hv, h0, h3, h4]
  simp only [cond_false, Int.toNat_natCast]
  rw [h5]
  simp only [cond_true, List.length_singleton]
  rcases Nat.eq_zero_or_pos N with hN0 | hN0
  · subst hN0
    obtain ⟨k, rfl⟩ : ∃ j, k = j + 1 := ⟨k - 1, by omega⟩
    rw [sL127_1]
    rfl
  · have e1 : min 1 N = 1 := by omega
    rw [e1]
    have e2 : (List.replicate N (PV.int .i64 0)).take 0 ++ [PV.int .i64 a].take 1 ++ (List.replicate N (PV.int .i64 0)).drop (0 + ([PV.int .i64 a].take 1).length) = encZ (List.replicate 1 a ++ List.replicate (N - 1) 0) := by
      simp [encZ]
    rw [e2]
    exact repeat_loop (k := k + 1) N hN a (k + 1) 1 (by omega) (by omega) (by omega)
end Go.Proofs.YtcamhbchcjpjiaaGreat
/- The program's numbers of steps: breadth first. -/
set_option linter.unusedVariables false
set_option linter.unusedSimpArgs false
set_option maxRecDepth 8000
namespace Go.Proofs.YtcamhbchcjpjiaaGreat
open Go.Dp

theorem encZ_set (l : List Int) (i : Nat) (x : Int) : (encZ l).set i (.int .i64 x) = encZ (l.set i x) := by simp [encZ, List.map_set]
theorem encZ_drop (l : List Int) (i : Nat) : (encZ l).drop i = encZ (l.drop i) := by simp [encZ, List.map_drop]
theorem encZ_at {d : List Int} {v : Int} (h : inG d.length v) : (encZ d)[0 + v.toNat]? = some (.int .i64 (dAt d v)) := by
  rw [Nat.zero_add, encZ_get, List.getElem?_eq_getElem h.2]
  simp [dAt, h.2]
theorem inG_dec {N : Nat} {v : Int} (h : inG N v) : (decide ((0 : Int) ≤ v) && decide (v < (N : Int))) = true := by
  obtain ⟨h0, h1⟩ := h
  rw [decide_eq_true h0, decide_eq_true (by omega)]
  rfl
theorem encZ_plain (l : List Int) : (encZ l).all plainP = true := by
  simp only [encZ, List.all_eq_true, List.mem_map]
  rintro _ ⟨x, _, rfl⟩
  rfl
theorem R127p_enc (l : List Int) (K0 : List PV → R) : R127p (r127 (encZ l)) K0 = K0 (encZ l) := by
  have h : ([SV.c (.own 3 0 (encZ l))].all plainS && true) = true := by simp [plainS, plainC, encZ_plain]; rfl
  show (bif ([SV.c (.own 3 0 (encZ l))].all plainS && true) then K0 (encZ l) else none) = _
  rw [h]
  rfl
structure GrF (G : List PV) (g : List (List Int)) : Prop where
  len : G.length = g.length
  row : ∀ i, i < g.length → ∃ p, G[i]? = some p ∧ p.atRow 0 0 = some (encZ (atL g i))
theorem GrF.at {G : List PV} {g : List (List Int)} (h : GrF G g) {v : Int} (hv : inG g.length v) : (lookP G v).bind (fun p => p.atRow 0 0) = some (encZ (atL g v.toNat)) := by
  obtain ⟨p, h1, h2⟩ := h.row v.toNat hv.2
  have : v = ((v.toNat : Nat) : Int) := by have := hv.1; omega
  rw [this, lookP_nat, Int.toNat_natCast, h1]
  exact h2
theorem GrF.bind {G : List PV} {g : List (List Int)} (h : GrF G g) {v : Int} (hv : inG g.length v) {α : Type} (K : List PV → Option α) : ((lookP G v).bind fun p => (p.atRow 0 0).bind fun l => K l) = K (encZ (atL g v.toNat)) := by
  have := h.at hv
  cases hl : lookP G v with
  | none => rw [hl] at this; cases this
  | some p =>
    rw [hl] at this
    simp only [Option.bind_some] at this ⊢
    rw [this]
    rfl
theorem bIn_len (h : Int) : ∀ (l d q : List Int), (bIn h l d q).1.length = d.length
  | [], d, q => rfl
  | w :: l, d, q => by
    rw [bIn]
    cases hc : decide (dAt d w < 0)
    · exact bIn_len h l d q
    · exact (bIn_len h l _ _).trans (List.length_set)
theorem bIn_que (h : Int) : ∀ (l d q : List Int), ∃ t, (bIn h l d q).2 = q ++ t ∧ t.length ≤ l.length
  | [], d, q => ⟨[], by simp [bIn], by simp⟩
  | w :: l, d, q => by
    rw [bIn]
    cases hc : decide (dAt d w < 0)
    · obtain ⟨t, h1, h2⟩ := bIn_que h l d q
      exact ⟨t, h1, by simp; omega⟩
    · obtain ⟨t, h1, h2⟩ := bIn_que h l (d.set w.toNat (dAt d h + 1)) (q ++ [w])
      exact ⟨w :: t, by simp only [cond_true]; rw [h1]; simp, by simp; omega⟩
section
variable {k : Nat} {G : List PV} (h : Int)
theorem in3 (n1 : Nat) (N : Nat) (l : List Int) (hll : l.length ≤ 1000) (hl : ∀ w ∈ l, inG N w) (hN : N ≤ 1000) : ∀ (n j : Nat) (d t : List Int), l.length - j < n → j ≤ l.length → d.length = N → inG N h → (h :: t).length + (l.length - j) ≤ 100000 → 0 ≤ dAt d h → dAt d h ≤ 100000 →
    L91_3 k n1 n G N (h :: t).length (encZ l) (l.length : Int) (j : Int) (encZ d) (encZ (h :: t)) =
      L91_4 k n1 G N 1 ((bIn h (l.drop j) d (h :: t)).2.length - 1) (encZ (bIn h (l.drop j) d (h :: t)).1) (encZ (bIn h (l.drop j) d (h :: t)).2)
  | 0, j, d, t, hn, hj, hd, hh, hq, h0, h1 => by omega
  | n + 1, j, d, t, hn, hj, hd, hh, hq, h0, h1 => by
    rw [sL91_3]
    by_cases hlt : j < l.length
    · have hdj : decide ((j : Int) < (l.length : Int)) = true := by simpa using hlt
      have hnext : IntKind.i64.wrap ((j : Int) + 1) = ((j + 1 : Nat) : Int) := by rw [i64_id (by omega) (by omega)]; omega
      have hw := hl _ (List.getElem_mem hlt)
      rw [hdj, encZ_lookup hlt, hnext]
      simp only [cond_true, Option.bind_some, int_atInt]
      rw [inG_dec hw, encZ_at (d := d) (v := l[j]) (by rw [hd]; exact hw)]
      simp only [cond_true, Option.bind_some, int_atInt]
      rw [drop_cons hlt, bIn]
      cases hc : decide (dAt d l[j] < 0)
      · exact in3 n1 N l hll hl hN n (j + 1) d t (by omega) (by omega) hd hh (by omega) h0 h1
      · have hp : decide ((0 : Int) < (((h :: t).length : Nat) : Int)) = true := decide_eq_true (by rw [List.length_cons]; omega)
        have hget : (encZ (h :: t))[0]? = some (PV.int .i64 h) := rfl
        have hwr : IntKind.i64.wrap (dAt d h + 1) = dAt d h + 1 := i64_id (by omega) (by omega)
        have hlm : (decide (((h :: t).length + 1) * 8 ≤ LIM) && decide ((h :: t).length + 1 ≤ LIM)) = true := lim_ok (by omega) (by omega)
        simp only [cond_true]
        rw [hp, hget]
        simp only [cond_true, Option.bind_some, int_atInt]
        rw [inG_dec hh, encZ_at (d := d) (v := h) (by rw [hd]; exact hh), hlm]
        simp only [cond_true, Option.bind_some, int_atInt]
        rw [hwr, Nat.zero_add, encZ_set, List.take_of_length_le (by simp), encZ_snoc]
        have hwh : l[j] ≠ h := by
          intro e
          have := of_decide_eq_true hc
          rw [e] at this
          omega
        have hdh : dAt (d.set l[j].toNat (dAt d h + 1)) h = dAt d h := by
          rw [dAt_set (by rw [hd]; exact hw) _ hh.1, if_neg (Ne.symm hwh)]
        have := in3 n1 N l hll hl hN n (j + 1) (d.set l[j].toNat (dAt d h + 1)) (t ++ [l[j]]) (by omega) (by omega) (by rw [List.length_set]; exact hd) hh (by simp at hq ⊢; omega) (by rw [hdh]; exact h0) (by rw [hdh]; exact h1)
        have e1 : (h :: (t ++ [l[j]])).length = (h :: t).length + 1 := by simp
        rw [e1] at this
        exact this
    · have hdj : decide ((j : Int) < (l.length : Int)) = false := by simpa using hlt
      have hp : (decide ((1 : Int) ≤ (((h :: t).length : Nat) : Int)) && decide ((((h :: t).length : Nat) : Int) ≤ (((h :: t).length : Nat) : Int))) = true := by
        rw [decide_eq_true (by rw [List.length_cons]; omega), decide_eq_true (by omega)]
        rfl
      have ed : l.drop j = [] := List.drop_eq_nil_of_le (by omega)
      rw [hdj, ed, hp]
      rfl
theorem in5 (n1 : Nat) (N : Nat) (l : List Int) (hll : l.length ≤ 1000) (hl : ∀ w ∈ l, inG N w) (hN : N ≤ 1000) : ∀ (n j : Nat) (d pre t : List Int), l.length - j < n → j ≤ l.length → d.length = N → inG N h → (h :: t).length + (l.length - j) ≤ 100000 → 0 ≤ dAt d h → dAt d h ≤ 100000 →
    ∃ pre' : List Int, L91_5 k n1 n G N pre.length (h :: t).length (encZ l) (l.length : Int) (j : Int) (encZ d) (encZ (pre ++ (h :: t))) =
      L91_4 k n1 G N (pre'.length + 1) ((bIn h (l.drop j) d (h :: t)).2.length - 1) (encZ (bIn h (l.drop j) d (h :: t)).1) (encZ (pre' ++ (bIn h (l.drop j) d (h :: t)).2))
  | 0, j, d, pre, t, hn, hj, hd, hh, hq, h0, h1 => by omega
  | n + 1, j, d, pre, t, hn, hj, hd, hh, hq, h0, h1 => by
    rw [sL91_5]
    by_cases hlt : j < l.length
    · have hdj : decide ((j : Int) < (l.length : Int)) = true := by simpa using hlt
      have hnext : IntKind.i64.wrap ((j : Int) + 1) = ((j + 1 : Nat) : Int) := by rw [i64_id (by omega) (by omega)]; omega
      have hw := hl _ (List.getElem_mem hlt)
      rw [hdj, encZ_lookup hlt, hnext]
      simp only [cond_true, Option.bind_some, int_atInt]
      rw [inG_dec hw, encZ_at (d := d) (v := l[j]) (by rw [hd]; exact hw)]
      simp only [cond_true, Option.bind_some, int_atInt]
      rw [drop_cons hlt, bIn]
      cases hc : decide (dAt d l[j] < 0)
      · exact in5 n1 N l hll hl hN n (j + 1) d pre t (by omega) (by omega) hd hh (by omega) h0 h1
      · have hp : decide ((0 : Int) < (((h :: t).length : Nat) : Int)) = true := decide_eq_true (by rw [List.length_cons]; omega)
        have hget : (encZ (pre ++ (h :: t)))[pre.length]? = some (PV.int .i64 h) := by rw [encZ_get]; simp
        have hwr : IntKind.i64.wrap (dAt d h + 1) = dAt d h + 1 := i64_id (by omega) (by omega)
        have hlm : (decide (((h :: t).length + 1) * 8 ≤ LIM) && decide ((h :: t).length + 1 ≤ LIM)) = true := lim_ok (by omega) (by omega)
        simp only [cond_true]
        rw [hp, hget]
        simp only [cond_true, Option.bind_some, int_atInt]
        rw [inG_dec hh, encZ_at (d := d) (v := h) (by rw [hd]; exact hh), hlm]
        simp only [cond_true, Option.bind_some, int_atInt]
        rw [hwr, Nat.zero_add, encZ_set, encZ_drop, List.drop_left, List.take_of_length_le (by simp), encZ_snoc]
        have hwh : l[j] ≠ h := by
          intro e
          have := of_decide_eq_true hc
          rw [e] at this
          omega
        have hdh : dAt (d.set l[j].toNat (dAt d h + 1)) h = dAt d h := by
          rw [dAt_set (by rw [hd]; exact hw) _ hh.1, if_neg (Ne.symm hwh)]
        have := in3 (k := k) (G := G) h n1 N l hll hl hN n (j + 1) (d.set l[j].toNat (dAt d h + 1)) (t ++ [l[j]]) (by omega) (by omega) (by rw [List.length_set]; exact hd) hh (by simp at hq ⊢; omega) (by rw [hdh]; exact h0) (by rw [hdh]; exact h1)
        have e1 : (h :: (t ++ [l[j]])).length = (h :: t).length + 1 := by simp
        rw [e1] at this
        exact ⟨[], this⟩
    · have hdj : decide ((j : Int) < (l.length : Int)) = false := by simpa using hlt
      have hp : (decide ((1 : Int) ≤ (((h :: t).length : Nat) : Int)) && decide ((((h :: t).length : Nat) : Int) ≤ (((h :: t).length : Nat) : Int))) = true := by
        rw [decide_eq_true (by rw [List.length_cons]; omega), decide_eq_true (by omega)]
        rfl
      have ed : l.drop j = [] := List.drop_eq_nil_of_le (by omega)
      rw [hdj, ed, hp]
      exact ⟨pre, rfl⟩
end
theorem out4 {k : Nat} (hk : 2000 ≤ k) {G : List PV} {g : List (List Int)} (hG : GrF G g) (hN : g.length ≤ 1000) (hgl : ∀ i, (atL g i).length ≤ 1000) {some' : List Int} (hg : ∀ (i : Nat) (x : Int), x ∈ atL g i → inG g.length x) (hs : ∀ x ∈ some', inG g.length x) : ∀ (m n : Nat) (d q pre : List Int), BfsI g some' d q → negs d + q.length ≤ m → m < n → (b : Int) → (∀ v, inG g.length v → dAt d v ≤ b) → b + m ≤ 50000 → m ≤ 50000 →
    L91_4 k n G g.length pre.length q.length (encZ d) (encZ (pre ++ q)) = r91 (encZ (bOut g m d q))
  | m, 0, d, q, pre, hI, hm, hn, b, hb, hbm, hm5 => by omega
  | m, n + 1, d, [], pre, hI, hm, hn, b, hb, hbm, hm5 => by
    rw [sL91_4]
    have e : bOut g m d [] = d := by unfold bOut; rfl
    have e2 : (encZ d).take g.length = encZ d := by rw [List.take_of_length_le (by simp [hI.len])]
    rw [e2, e]
    rfl
  | 0, n + 1, d, h :: t, pre, hI, hm, hn, b, hb, hbm, hm5 => by simp at hm
  | m + 1, n + 1, d, h :: t, pre, hI, hm, hn, b, hb, hbm, hm5 => by
    have hh := hI.rng h (by simp)
    have hp : decide ((((h :: t).length : Nat) : Int) > 0) = true := decide_eq_true (by rw [List.length_cons]; omega)
    have hp2 : decide ((0 : Int) < (((h :: t).length : Nat) : Int)) = true := hp
    have hget : (encZ (pre ++ (h :: t)))[pre.length]? = some (PV.int .i64 h) := by rw [encZ_get]; simp
    obtain ⟨t', r1, r2, r3, r4, r5⟩ := bIn_spec hg hs h (atL g h.toNat) d t hI (fun x hx => hx)
    have hlen := hgl h.toNat
    have hml : (h :: t).length ≤ m + 1 := by omega
    obtain ⟨pre', h5⟩ := in5 (k := k) (G := G) h n g.length (atL g h.toNat) hlen (fun w hw => hg _ w hw) hN k 0 d pre t (by omega) (by omega) hI.len hh (by omega) (hI.vis h (by simp)) (by have := hb h hh; omega)
    rw [sL91_4, hp, hget]
    simp only [cond_true, Option.bind_some, int_atInt]
    rw [hG.bind hh]
    rw [List.drop_zero, r1] at h5
    have h5' : L91_5 k n k G g.length pre.length (h :: t).length (encZ (atL g h.toNat)) ((atL g h.toNat).length : Int) 0 (encZ d) (encZ (pre ++ (h :: t))) = _ := h5
    rw [encZ_length, h5', bOut, r1]
    simp only [List.length_cons, Nat.add_sub_cancel, List.drop_succ_cons, List.drop_zero] at hm ⊢
    have hbd := hb h hh
    have e1 : pre' ++ h :: t' = (pre' ++ [h]) ++ t' := by simp
    have e2 : pre'.length + 1 = (pre' ++ [h]).length := by simp
    rw [e1, e2]
    refine out4 hk hG hN hgl hg hs m n _ t' (pre' ++ [h]) (bPop hg r2 r4) (by omega) (by omega) (b + 1) (fun v hv => ?_) (by omega) (by omega)
    have h1 := r2.bnd h t' rfl v hv
    rw [r3 h hh (hI.vis h (by simp))] at h1
    omega
theorem out2 {k : Nat} (hk : 2000 ≤ k) {G : List PV} {g : List (List Int)} (hG : GrF G g) (hN : g.length ≤ 1000) (hgl : ∀ i, (atL g i).length ≤ 1000) {some' : List Int} (hg : ∀ (i : Nat) (x : Int), x ∈ atL g i → inG g.length x) (hs : ∀ x ∈ some', inG g.length x) : ∀ (m n : Nat) (d q : List Int), BfsI g some' d q → negs d + q.length ≤ m → m < n → (b : Int) → (∀ v, inG g.length v → dAt d v ≤ b) → b + m ≤ 50000 → m ≤ 50000 →
    L91_2 k n G g.length q.length (encZ d) (encZ q) = r91 (encZ (bOut g m d q))
  | m, 0, d, q, hI, hm, hn, b, hb, hbm, hm5 => by omega
  | m, n + 1, d, [], hI, hm, hn, b, hb, hbm, hm5 => by
    rw [sL91_2]
    have e : bOut g m d [] = d := by unfold bOut; rfl
    have e2 : (encZ d).take g.length = encZ d := by rw [List.take_of_length_le (by simp [hI.len])]
    rw [e2, e]
    rfl
  | 0, n + 1, d, h :: t, hI, hm, hn, b, hb, hbm, hm5 => by simp at hm
  | m + 1, n + 1, d, h :: t, hI, hm, hn, b, hb, hbm, hm5 => by
    have hh := hI.rng h (by simp)
    have hp : decide ((((h :: t).length : Nat) : Int) > 0) = true := decide_eq_true (by rw [List.length_cons]; omega)
    have hp2 : decide ((0 : Int) < (((h :: t).length : Nat) : Int)) = true := hp
    have hget : (encZ (h :: t))[0]? = some (PV.int .i64 h) := rfl
    obtain ⟨t', r1, r2, r3, r4, r5⟩ := bIn_spec hg hs h (atL g h.toNat) d t hI (fun x hx => hx)
    have hlen := hgl h.toNat
    have hml : (h :: t).length ≤ m + 1 := by omega
    have h5 := in3 (k := k) (G := G) h n g.length (atL g h.toNat) hlen (fun w hw => hg _ w hw) hN k 0 d t (by omega) (by omega) hI.len hh (by omega) (hI.vis h (by simp)) (by have := hb h hh; omega)
    rw [sL91_2, hp, hget]
    simp only [cond_true, Option.bind_some, int_atInt]
    rw [hG.bind hh]
    rw [List.drop_zero, r1] at h5
    have h5' : L91_3 k n k G g.length (h :: t).length (encZ (atL g h.toNat)) ((atL g h.toNat).length : Int) 0 (encZ d) (encZ (h :: t)) = _ := h5
    rw [encZ_length, h5', bOut, r1]
    simp only [List.length_cons, Nat.add_sub_cancel, List.drop_succ_cons, List.drop_zero] at hm ⊢
    have hbd := hb h hh
    have e1 : h :: t' = [h] ++ t' := by simp
    rw [e1]
    refine out4 hk hG hN hgl hg hs m n _ t' [h] (bPop hg r2 r4) (by omega) (by omega) (b + 1) (fun v hv => ?_) (by omega) (by omega)
    have h1 := r2.bnd h t' rfl v hv
    rw [r3 h hh (hI.vis h (by simp))] at h1
    omega
theorem st1 {k : Nat} {G : List PV} {N : Nat} (hN : N ≤ 1000) (oL : Nat) (l : List Int) (hll : l.length ≤ 1000) (hl : ∀ w ∈ l, inG N w) (q : List PV) : ∀ (n j : Nat) (d : List Int), l.length - j < n → j ≤ l.length → d.length = N →
    L91_1 k n G N oL (encZ l) (l.length : Int) (j : Int) (encZ d) q = L91_2 k k G N oL (encZ (bSt (l.drop j) d)) q
  | 0, j, d, hn, hj, hd => by omega
  | n + 1, j, d, hn, hj, hd => by
    rw [sL91_1]
    by_cases hlt : j < l.length
    · have hdj : decide ((j : Int) < (l.length : Int)) = true := by simpa using hlt
      have hnext : IntKind.i64.wrap ((j : Int) + 1) = ((j + 1 : Nat) : Int) := by rw [i64_id (by omega) (by omega)]; omega
      have hw := hl _ (List.getElem_mem hlt)
      rw [hdj, encZ_lookup hlt, hnext, drop_cons hlt, bSt]
      simp only [cond_true, Option.bind_some, int_atInt]
      rw [inG_dec hw, encZ_at (d := d) (v := l[j]) (by rw [hd]; exact hw)]
      simp only [cond_true, Option.bind_some]
      rw [Nat.zero_add, encZ_set]
      exact st1 hN oL l hll hl q n (j + 1) _ (by omega) (by omega) (by rw [List.length_set]; exact hd)
    · have hdj : decide ((j : Int) < (l.length : Int)) = false := by simpa using hlt
      rw [hdj, List.drop_eq_nil_of_le (by omega)]
      rfl
theorem stepsFrom_ok {k : Nat} (hk : 3000 ≤ k) {G : List PV} {g : List (List Int)} (hG : GrF G g) (hN : g.length ≤ 1000) (hgl : ∀ i, (atL g i).length ≤ 1000) {l : List Int} (hll : l.length ≤ 500) (hg : ∀ (i : Nat) (x : Int), x ∈ atL g i → inG g.length x) (hs : ∀ x ∈ l, inG g.length x) :
    c91 k G (encZ l) = r91 (encZ (stepsL g l)) := by
  obtain ⟨k, rfl⟩ : ∃ j, k = j + 1 := ⟨k - 1, by omega⟩
  obtain ⟨k', rfl⟩ : ∃ j, k = j + 1 := ⟨k - 1, by omega⟩
  rw [n91, hG.len, repeat_ok (by omega) g.length hN (-1)]
  simp only [R127p_enc]
  rw [n128 _ _ (by rw [encZ_length]; unfold LIM; omega) (by rw [encZ_length]; unfold LIM; omega)]
  simp only [R128_r, encZ_length, List.length_replicate]
  have h1 := st1 (k := k' + 1) (G := G) (N := g.length) hN l.length l (by omega) hs (encZ l) (k' + 1) 0 (List.replicate g.length (-1)) (by omega) (by omega) (by simp)
  have h1' : L91_1 (k' + 1) (k' + 1) G g.length l.length (encZ l) (l.length : Int) 0 (encZ (List.replicate g.length (-1))) (encZ l) = _ := h1
  rw [h1', List.drop_zero]
  have hI := bfs_start (g := g) hs
  have hneg := negs_le (bSt l (List.replicate g.length (-1)))
  have hlen := hI.len
  refine out2 (by omega) hG hN hgl hg hs (l.length + g.length) (k' + 1) _ l hI (by omega) (by omega) 0 (fun v hv => ?_) (by omega) (by omega)
  rw [(bSt_spec l (List.replicate g.length (-1)) (fun v hv => by simpa using hs v hv)).2 v hv.1, dAt_rep]
  split <;> omega
end Go.Proofs.YtcamhbchcjpjiaaGreat
/- FnPlayed: the law. -/
set_option linter.unusedVariables false
set_option linter.unusedSimpArgs false
set_option maxRecDepth 4000
namespace Go.Proofs.YtcamhbchcjpjiaaGreat
open Go.Dp

theorem hasL_loop {k : Nat} (l : List Int) (hl : l.length ≤ 100000) (v : Int) : ∀ (n i : Nat), l.length - i < n → i ≤ l.length → L23_1 k n v (encZ l) (l.length : Int) (i : Int) = r23 ((l.drop i).contains v)
  | 0, i, h, hi => by omega
  | n + 1, i, h, hi => by
    rw [sL23_1]
    by_cases hlt : i < l.length
    · have hd : decide ((i : Int) < (l.length : Int)) = true := by simpa using hlt
      rw [hd, encZ_lookup hlt, drop_cons hlt]
      simp only [cond_true, Option.bind_some, int_atInt, List.contains_cons]
      rw [show (v == l[i]) = (l[i] == v) from BEq.comm]
      cases he : (l[i] == v)
      · simp only [cond_false, Bool.false_or]
        rw [i64_id (by omega) (by omega)]
        exact hasL_loop l hl v n (i + 1) (by omega) (by omega)
      · simp
    · have hd : decide ((i : Int) < (l.length : Int)) = false := by simpa using hlt
      rw [hd, List.drop_eq_nil_of_le (by omega)]
      simp
theorem hasL_ok {k : Nat} (hk : 100010 ≤ k) (l : List Int) (hl : l.length ≤ 100000) (v : Int) : c23 k (encZ l) v = r23 (l.contains v) := by
  obtain ⟨k, rfl⟩ : ∃ j, k = j + 1 := ⟨k - 1, by omega⟩
  rw [n23, encZ_length]
  have := hasL_loop (k := k) l hl v k 0 (by omega) (by omega)
  simpa using this
/-! ### The law -/
end Go.Proofs.YtcamhbchcjpjiaaGreat
/- What the program reaches, forth and back. -/
set_option linter.unusedVariables false
set_option linter.unusedSimpArgs false
set_option maxRecDepth 8000
namespace Go.Proofs.YtcamhbchcjpjiaaGreat
open Go.Dp

def nnF : List Int → Nat → List Int
  | [], _ => []
  | x :: d, i => bif decide (x ≥ 0) then (i : Int) :: nnF d (i + 1) else nnF d (i + 1)
theorem nnF_mem : ∀ (d : List Int) (i : Nat) (x : Int), x ∈ nnF d i ↔ ∃ (j : Nat) (y : Int), x = ((i + j : Nat) : Int) ∧ d[j]? = some y ∧ 0 ≤ y
  | [], i, x => by simp [nnF]
  | z :: d, i, x => by
    have ih := nnF_mem d (i + 1) x
    have tail : (∃ (j : Nat) (y : Int), x = ((i + j : Nat) : Int) ∧ (z :: d)[j]? = some y ∧ 0 ≤ y) ↔ (x = (i : Int) ∧ 0 ≤ z) ∨ ∃ (j : Nat) (y : Int), x = ((i + 1 + j : Nat) : Int) ∧ d[j]? = some y ∧ 0 ≤ y := by
      constructor
      · rintro ⟨j, y, h1, h2, h3⟩
        cases j with
        | zero => simp at h2; subst h2; exact .inl ⟨by simpa using h1, h3⟩
        | succ j => exact .inr ⟨j, y, by rw [h1]; omega, by simpa using h2, h3⟩
      · rintro (⟨h1, h2⟩ | ⟨j, y, h1, h2, h3⟩)
        · exact ⟨0, z, by simpa using h1, rfl, h2⟩
        · exact ⟨j + 1, y, by rw [h1]; omega, by simpa using h2, h3⟩
    rw [tail, nnF]
    by_cases hz : z ≥ 0
    · rw [decide_eq_true hz]
      simp only [cond_true, List.mem_cons, ih]
      constructor
      · rintro (h | h)
        · exact .inl ⟨h, hz⟩
        · exact .inr h
      · rintro (h | h)
        · exact .inl h.1
        · exact .inr h
    · rw [decide_eq_false hz]
      simp only [cond_false, ih]
      constructor
      · exact .inr
      · rintro (h | h)
        · exact absurd h.2 hz
        · exact h
theorem nnF_lt : ∀ (d : List Int) (i : Nat), (nnF d i).Pairwise (· < ·) ∧ ∀ x ∈ nnF d i, (i : Int) ≤ x
  | [], i => by simp [nnF]
  | z :: d, i => by
    obtain ⟨h1, h2⟩ := nnF_lt d (i + 1)
    rw [nnF]
    cases decide (z ≥ 0)
    · exact ⟨h1, fun x hx => by have := h2 x hx; omega⟩
    · refine ⟨List.pairwise_cons.2 ⟨fun x hx => by have := h2 x hx; omega, h1⟩, fun x hx => ?_⟩
      rcases List.mem_cons.1 hx with rfl | hx
      · omega
      · have := h2 x hx; omega
theorem nnF_len : ∀ (d : List Int) (i : Nat), (nnF d i).length ≤ d.length
  | [], i => by simp [nnF]
  | z :: d, i => by
    have := nnF_len d (i + 1)
    rw [nnF]
    cases decide (z ≥ 0)
    · simp only [cond_false, List.length_cons]; omega
    · simp only [cond_true, List.length_cons]; omega
theorem reachFrom_loop {k : Nat} (d : List Int) (hl : d.length ≤ 1000) : ∀ (n i : Nat) (o : List Int), d.length - i < n → i ≤ d.length → o.length ≤ i →
    L69_1 k n o.length (encZ d) (d.length : Int) (i : Int) (encZ o) = r69 (encZ (o ++ nnF (d.drop i) i))
  | 0, i, o, hn, hi, ho => by omega
  | n + 1, i, o, hn, hi, ho => by
    rw [sL69_1]
    have etk : (encZ o).take o.length = encZ o := by rw [List.take_of_length_le (by simp)]
    by_cases hlt : i < d.length
    · have hd : decide ((i : Int) < (d.length : Int)) = true := by simpa using hlt
      have hnext : IntKind.i64.wrap ((i : Int) + 1) = ((i + 1 : Nat) : Int) := by rw [i64_id (by omega) (by omega)]; omega
      rw [hd, encZ_lookup hlt, drop_cons hlt, hnext, etk, nnF]
      simp only [cond_true, Option.bind_some, int_atInt]
      cases hc : decide (d[i] ≥ 0)
      · exact reachFrom_loop d hl n (i + 1) o (by omega) (by omega) (by omega)
      · simp only [cond_true]
        rw [lim_ok (by omega) (by omega), encZ_snoc]
        simp only [cond_true]
        have := reachFrom_loop (k := k) d hl n (i + 1) (o ++ [(i : Int)]) (by omega) (by omega) (by simp; omega)
        rw [List.length_append, List.append_assoc] at this
        exact this
    · have hd : decide ((i : Int) < (d.length : Int)) = false := by simpa using hlt
      rw [hd, List.drop_eq_nil_of_le (by omega), etk]
      simp only [nnF, List.append_nil]
      rfl
def rfL (g : List (List Int)) (l : List Int) : List Int := nnF (stepsL g l) 0
theorem rfL_mem {g : List (List Int)} {l : List Int} (hg : ∀ (i : Nat) (x : Int), x ∈ atL g i → inG g.length x) (hs : ∀ x ∈ l, inG g.length x) (x : Int) : x ∈ rfL g l ↔ ∃ n, Way g l n x := by
  obtain ⟨h1, h2⟩ := stepsL_spec hg hs
  have hin : ∀ n x, Way g l n x → inG g.length x := by
    intro n x h
    cases h with
    | start _ h => exact hs _ h
    | step n v w h hw => exact hg _ _ hw
  rw [rfL, nnF_mem]
  constructor
  · rintro ⟨j, y, h3, h4, h5⟩
    have hj := (List.getElem?_eq_some_iff.1 h4).1
    have hx : inG g.length x := ⟨by omega, by omega⟩
    have hd : dAt (stepsL g l) x = y := by
      unfold dAt
      rw [show x.toNat = j by omega, h4]
      rfl
    rcases h2 x hx with ⟨h6, _⟩ | ⟨_, h6, _⟩
    · omega
    · exact ⟨_, h6⟩
  · rintro ⟨n, h⟩
    have hx := hin n x h
    have hlt : x.toNat < (stepsL g l).length := by rw [h1]; exact hx.2
    refine ⟨x.toNat, dAt (stepsL g l) x, by have := hx.1; omega, by simp [dAt, hlt], ?_⟩
    rcases h2 x hx with ⟨_, h6⟩ | ⟨h6, _⟩
    · exact absurd h (h6 n)
    · exact h6
theorem reachedFrom_ok {k : Nat} (hk : 4000 ≤ k) {G : List PV} {g : List (List Int)} (hG : GrF G g) (hN : g.length ≤ 1000) (hgl : ∀ i, (atL g i).length ≤ 1000) {l : List Int} (hll : l.length ≤ 500) (hg : ∀ (i : Nat) (x : Int), x ∈ atL g i → inG g.length x) (hs : ∀ x ∈ l, inG g.length x) :
    c69 k G (encZ l) = r69 (encZ (rfL g l)) := by
  obtain ⟨k, rfl⟩ : ∃ j, k = j + 1 := ⟨k - 1, by omega⟩
  have h1 := (stepsL_spec hg hs).1
  rw [n69, stepsFrom_ok (by omega) hG hN hgl hll hg hs]
  simp only [R91_r, encZ_length]
  have := reachFrom_loop (k := k) (stepsL g l) (by omega) k 0 [] (by omega) (by omega) (by simp)
  rw [List.drop_zero, List.nil_append] at this
  exact this
/-! ### Small programs -/
theorem inG_in {p : Prg} {x : Int} : inG (nS p) x ↔ inS p x := by
  unfold inG inS
  omega
theorem graphL_len (p : Prg) : (graphL p).length = nS p := graphF_len p (nS p) 0
theorem graphL_at (p : Prg) (i : Nat) : atL (graphL p) i = if i < nS p then nxL p (i : Int) else [] := by
  unfold atL graphL
  by_cases h : i < nS p
  · rw [graphF_get p _ _ _ h, if_pos h, Nat.zero_add]; rfl
  · rw [List.getElem?_eq_none (by rw [graphF_len]; omega), if_neg h]; rfl
theorem graphL_in {p : Prg} (hp : FitP p) (hs : smallP p = true) (i : Nat) (x : Int) (h : x ∈ atL (graphL p) i) : inG (graphL p).length x := by
  rw [graphL_len]
  rw [graphL_at] at h
  split at h
  · exact inG_in.2 (nxL_in hp hs ⟨by omega, by omega⟩ x h)
  · simp at h
theorem graphL_rows {p : Prg} (hp : FitP p) (hs : smallP p = true) : ∀ z ∈ graphL p, z.length ≤ 6 ∧ ∀ x ∈ z, 0 ≤ x ∧ x.toNat < (graphL p).length := by
  intro z hz
  obtain ⟨i, hi, rfl⟩ := List.getElem_of_mem hz
  have hi2 : i < nS p := by rw [graphL_len] at hi; exact hi
  have e : (graphL p)[i] = nxL p (i : Int) := by
    have := graphL_at p i
    rw [if_pos hi2] at this
    unfold atL at this
    rw [List.getElem?_eq_getElem hi] at this
    simpa using this
  rw [e]
  refine ⟨nxL_len hp _, fun x hx => ?_⟩
  have := graphL_in hp hs i x (by rw [graphL_at, if_pos hi2]; exact hx)
  exact this
theorem graphL_fit (p : Prg) : GrF (encZZ (graphL p)) (graphL p) := by
  refine ⟨by simp, fun i hi => ⟨.row 0 0 (encZ (atL (graphL p) i)), ?_, by simp⟩⟩
  rw [encZZ_get, List.getElem?_eq_getElem hi]
  simp [atL, hi]
theorem turnF_bound (b : Nat) : ∀ (l : List (List Int)) (i : Nat) (o : List (List Int)) (c : Nat), (∀ z ∈ l, z.length ≤ c) → (∀ z ∈ o, z.length ≤ b) → ∀ z ∈ turnF i l o, z.length ≤ b + c * l.length
  | [], i, o, c, hl, ho => fun z hz => by have := ho z hz; omega
  | x :: l, i, o, c, hl, ho => by
    intro z hz
    rw [turnF] at hz
    have h1 := hl x (by simp)
    have := turnF_bound (b + c) l (i + 1) _ c (fun z hz => hl z (by simp [hz])) (fun z hz => by have := pushAll_bound (i : Int) b x o ho z hz; omega) z hz
    simp only [List.length_cons, Nat.mul_add]
    omega
theorem turnL_len (g : List (List Int)) : (turnL g).length = g.length := by unfold turnL; rw [turnF_len]; simp
theorem turnL_fit (g : List (List Int)) : GrF (encF (turnL g)) (turnL g) := by
  refine ⟨by simp, fun i hi => ⟨encN0 (atL (turnL g) i), ?_, encN0_row _⟩⟩
  rw [encF_get, List.getElem?_eq_getElem hi]
  simp [atL, hi]
theorem turnL_short {p : Prg} (hp : FitP p) (hs : smallP p = true) (i : Nat) : (atL (turnL (graphL p)) i).length ≤ 1000 := by
  have hle := (nS_le hs).2
  have hb := turnF_bound 0 (graphL p) 0 (List.replicate (graphL p).length []) 6 (fun z hz => (graphL_rows hp hs z hz).1) (fun z hz => by rw [(List.mem_replicate.1 hz).2]; simp)
  unfold atL
  cases h : (turnL (graphL p))[i]? with
  | none => simp
  | some z =>
    have := hb z (List.mem_of_getElem? h)
    rw [graphL_len] at this
    simp only [Option.getD_some]
    omega
theorem turnL_in {p : Prg} (hp : FitP p) (hs : smallP p = true) (i : Nat) (x : Int) (h : x ∈ atL (turnL (graphL p)) i) : inG (turnL (graphL p)).length x := by
  rw [turnL_len]
  obtain ⟨j, z, h1, h2, _⟩ := (turnL_mem (fun z hz => (graphL_rows hp hs z hz).2) i x).1 h
  have := (List.getElem?_eq_some_iff.1 h1).1
  exact ⟨by omega, by omega⟩
theorem way_rch {p : Prg} (hp : FitP p) (hs : smallP p = true) (x : Int) : (∃ n, Way (graphL p) (whI p p.start) n x) ↔ Rch p x := by
  constructor
  · rintro ⟨n, h⟩
    induction h with
    | start v h => exact .start ((whI_mem p p.start v).1 h).1 ((whI_mem p p.start v).1 h).2
    | step n v w _ hw ih =>
      have hv := rch_in hp hs ih
      have := hv.1
      have := hv.2
      rw [graphL_at, if_pos (by omega), show ((v.toNat : Nat) : Int) = v by omega] at hw
      exact .step ih hw
  · intro h
    induction h with
    | start h1 h2 => exact ⟨0, .start _ ((whI_mem p p.start _).2 ⟨h1, h2⟩)⟩
    | @step x y h1 h2 ih =>
      obtain ⟨n, hn⟩ := ih
      have hv := rch_in hp hs h1
      have := hv.1
      have := hv.2
      exact ⟨n + 1, .step n x y hn (by rw [graphL_at, if_pos (by omega), show ((x.toNat : Nat) : Int) = x by omega]; exact h2)⟩
theorem way_into {p : Prg} (hp : FitP p) (hs : smallP p = true) {l : List Int} (hl : ∀ x ∈ l, inS p x) (x : Int) : (∃ n, Way (turnL (graphL p)) l n x) ↔ Into p l x := by
  have hr := fun (z : List Int) (hz : z ∈ graphL p) => (graphL_rows hp hs z hz).2
  have into_in : ∀ x, Into p l x → inS p x := by
    intro x h
    cases h with
    | here h => exact hl _ h
    | step h _ _ => exact h
  constructor
  · rintro ⟨n, h⟩
    induction h with
    | start v h => exact .here h
    | step n v w _ hw ih =>
      have hv := into_in v ih
      have := hv.1
      have := hv.2
      obtain ⟨j, z, h1, h2, h3⟩ := (turnL_mem hr _ _).1 hw
      have hj : j < nS p := by have := (List.getElem?_eq_some_iff.1 h1).1; rwa [graphL_len] at this
      have hz : z = nxL p (j : Int) := by
        have := graphL_at p j
        rw [if_pos hj] at this
        unfold atL at this
        rw [h1] at this
        simpa using this
      subst hz
      subst h2
      rw [show ((v.toNat : Nat) : Int) = v by omega] at h3
      exact .step ⟨by omega, by omega⟩ h3 ih
  · intro h
    induction h with
    | here h => exact ⟨0, .start _ h⟩
    | @step x y h1 h2 h3 ih =>
      obtain ⟨n, hn⟩ := ih
      have hv := into_in y h3
      have := hv.1
      have := hv.2
      have := h1.1
      have := h1.2
      refine ⟨n + 1, .step n y x hn ((turnL_mem hr _ _).2 ⟨x.toNat, nxL p x, ?_, by omega, by rw [show ((y.toNat : Nat) : Int) = y by omega]; exact h2⟩)⟩
      have hg := graphL_at p x.toNat
      rw [if_pos (by omega), show ((x.toNat : Nat) : Int) = x by omega] at hg
      unfold atL at hg
      rw [List.getElem?_eq_getElem (by rw [graphL_len]; omega)] at hg ⊢
      simpa using hg
theorem whI_len {p : Prg} (hs : smallP p = true) (t : List Nd) : (whI p t).length ≤ 32 := in_room hs (whN_lt p t _ _) fun x hx => ((whI_mem p t x).1 hx).1
theorem reachL_lt {p : Prg} (hp : FitP p) (hs : smallP p = true) : (reachL p).Pairwise (· < ·) := (reachF_spec hp hs 33 (whI p p.start) (by omega) (whN_lt p p.start _ _) (fun x hx => ((whI_mem p p.start x).1 hx).1)).1
theorem reachL_in {p : Prg} (hp : FitP p) (hs : smallP p = true) : ∀ x ∈ reachL p, inS p x := fun x hx => rch_in hp hs ((reachL_mem hp hs x).1 hx)
theorem reachL_len {p : Prg} (hp : FitP p) (hs : smallP p = true) : (reachL p).length ≤ 32 := in_room hs (reachL_lt hp hs) (reachL_in hp hs)
theorem reach_ok {k : Nat} (hk : 1000500 ≤ k) {p : Prg} (hp : FitP p) (hs : smallP p = true) : c73 k p.wide p.vars (encT p.start) (encCms p.cmds) = r73 (encZ (reachL p)) := by
  obtain ⟨k, rfl⟩ : ∃ j, k = j + 1 := ⟨k - 1, by omega⟩
  have hst := hp.st
  have hle := (nS_le hs).2
  have hwl := whI_len hs p.start
  have hsin : ∀ x ∈ whI p p.start, inG (graphL p).length x := fun x hx => by rw [graphL_len]; exact inG_in.2 ((whI_mem p p.start x).1 hx).1
  rw [n73, graph_ok (by omega) hp hs]
  simp only [R71_r]
  rw [where_ok (by omega) hs _ _ p.start (by omega) (startK hs)]
  simp only [R72_r]
  rw [reachedFrom_ok (by omega) (graphL_fit p) (by rw [graphL_len]; omega) (fun i => by
    rw [graphL_at]
    split
    · have := nxL_len hp (i : Int); omega
    · simp) (by omega) (graphL_in hp hs) hsin]
  simp only [R69_r]
  have e : rfL (graphL p) (whI p p.start) = reachL p := lt_ext (nnF_lt _ 0).1 (reachL_lt hp hs) fun x => by
    rw [rfL_mem (graphL_in hp hs) hsin x, way_rch hp hs x, reachL_mem hp hs x]
  rw [e]
theorem reachI_ok {k : Nat} (hk : 1000700 ≤ k) (p : Prg) (hp : FitP p) : c22 k p.wide p.vars (encT p.start) (encCms p.cmds) = r22 (encZ (reachR p)) (smallP p) := by
  obtain ⟨k, rfl⟩ : ∃ j, k = j + 1 := ⟨k - 1, by omega⟩
  rw [n22, isSmall_ok (by omega) p hp]
  simp only [R66_r, reachR]
  cases hs : smallP p
  · rfl
  · simp only [Bool.not_true, cond_false, cond_true]
    rw [reach_ok (by omega) hp hs]
    simp only [R73_r]
theorem backI_ok {k : Nat} (hk : 1000700 ≤ k) (p : Prg) (hp : FitP p) (l : List Int) (hl : l.length ≤ 500) : c20 k p.wide p.vars (encT p.start) (encCms p.cmds) (encZ l) = r20 (encZ (backR p l)) (backOK p l) := by
  obtain ⟨k, rfl⟩ : ∃ j, k = j + 1 := ⟨k - 1, by omega⟩
  rw [n20, isSmall_ok (by omega) p hp]
  simp only [R66_r, backR, backOK]
  cases hs : smallP p
  · rfl
  · have hle := (nS_le hs).2
    simp only [Bool.not_true, cond_false, Bool.true_and]
    rw [nSI_ok (by omega) hs]
    simp only [R68_r]
    rw [inc_ok (by omega) l (by omega)]
    simp only [R67_r]
    cases hb : incG (nS p : Int) none l
    · rfl
    · have hlin : ∀ x ∈ l, inS p x := fun x hx => incG_mem hb x hx
      have hsin : ∀ x ∈ l, inG (turnL (graphL p)).length x := fun x hx => by rw [turnL_len, graphL_len]; exact inG_in.2 (hlin x hx)
      have hlt := (incG_lt hb).1
      simp only [Bool.not_true, cond_false, cond_true]
      rw [graph_ok (by omega) hp hs]
      simp only [R71_r]
      rw [turned_ok (by omega) (graphL p) (by rw [graphL_len]; omega) (graphL_rows hp hs)]
      simp only [R70_r]
      rw [reachedFrom_ok (by omega) (turnL_fit _) (by rw [turnL_len, graphL_len]; omega) (turnL_short hp hs) (by omega) (turnL_in hp hs) hsin]
      simp only [R69_r]
      obtain ⟨b1, _⟩ := backF_spec hs 33 l (by omega) hlt hlin
      have e : rfL (turnL (graphL p)) l = backL p l := lt_ext (nnF_lt _ 0).1 b1 fun x => by
        rw [rfL_mem (turnL_in hp hs) hsin x, way_into hp hs hlin x, backL_mem hs hlt hlin x]
      rw [e]
theorem alwN_loop {k : Nat} (w1 v1 : Int) (l1 l2 t1 : List PV) (f : Int → Bool) (l : List (Int)) (hl : l.length ≤ 100000) (hc : ∀ x ∈ l, c75 k x w1 v1 l1 l2 t1 = r75 (f x)) : ∀ (n i : Nat), l.length - i < n → i ≤ l.length → L114f75_1 k n (encZ l) w1 v1 l1 l2 t1 (l.length : Int) (i : Int) = r114f75 (fixI f i (l.drop i))
  | 0, i, h, hi => by omega
  | n + 1, i, h, hi => by
    rw [sL114f75_1]
    by_cases hlt : i < l.length
    · have hd : decide ((i : Int) < (l.length : Int)) = true := by simpa using hlt
      have hnext : IntKind.i64.wrap ((i : Int) + 1) = ((i + 1 : Nat) : Int) := by rw [i64_id (by omega) (by omega)]; omega
      rw [hd, encZ_lookup hlt, drop_cons hlt, hnext]
      simp only [cond_true, Option.bind_some, int_atInt]
      rw [hc _ (List.getElem_mem hlt)]
      simp only [R75_r, fixI]
      cases f l[i]
      · exact alwN_loop w1 v1 l1 l2 t1 f l hl hc n (i + 1) (by omega) (by omega)
      · rfl
    · have hd : decide ((i : Int) < (l.length : Int)) = false := by simpa using hlt
      rw [hd, List.drop_eq_nil_of_le (by omega)]
      rfl
theorem alwN_idx {k : Nat} (hk : 100010 ≤ k) (w1 v1 : Int) (l1 l2 t1 : List PV) (f : Int → Bool) (l : List (Int)) (hl : l.length ≤ 100000) (hc : ∀ x ∈ l, c75 k x w1 v1 l1 l2 t1 = r75 (f x)) : c114f75 (k + 1) (encZ l) w1 v1 l1 l2 t1 = r114f75 (fixI f 0 l) := by
  rw [n114f75, encZ_length]
  exact alwN_loop (k := k) w1 v1 l1 l2 t1 f l hl hc k 0 (by omega) (by omega)
theorem alwN_ok {k : Nat} (hk : 100010 ≤ k) (w1 v1 : Int) (l1 l2 t1 : List PV) (f : Int → Bool) (l : List (Int)) (hl : l.length ≤ 100000) (hc : ∀ x ∈ l, c75 k x w1 v1 l1 l2 t1 = r75 (f x)) : c57f75 (k + 2) (encZ l) w1 v1 l1 l2 t1 = r57f75 (l.any f) := by
  rw [n57f75, alwN_idx (by omega) w1 v1 l1 l2 t1 f l hl hc]
  simp only [R114f75p_r, fixI_ge]
theorem alwaysI_ok {k : Nat} (hk : 1000700 ≤ k) (p : Prg) (hp : FitP p) (t : List Nd) (ht : t.length ≤ 100) : c25 k p.wide p.vars (encT p.start) (encCms p.cmds) (encT t) = r25 (alwOK p t && alwB p t) (alwOK p t) := by
  obtain ⟨k, rfl⟩ : ∃ j, k = j + 4 := ⟨k - 4, by omega⟩
  rw [n25, isSmall_ok (by omega) p hp]
  simp only [R66_r, alwOK]
  cases hs : smallP p
  · rfl
  · simp only [Bool.not_true, cond_false, Bool.true_and]
    rw [cond_ok (by omega) _ _ _ _ t (by omega)]
    simp only [R50_r]
    cases hk2 : (kindT p.wide p.vars t == 2)
    · rfl
    · have hkt : kindT p.wide p.vars t = 2 := by simpa using hk2
      have hrl := reachL_len hp hs
      simp only [Bool.not_true, cond_false, Bool.true_and]
      rw [reach_ok (by omega) hp hs]
      simp only [R73_r]
      rw [alwN_ok (k := k + 1) (by omega) p.wide p.vars (encT p.start) (encCms p.cmds) (encT t) (fun x => !hN p t x) (reachL p) (by omega) (fun x hx => by
        have hx := reachL_in hp hs x hx
        rw [n75, stoI_ok (by omega) hs _ _ hx]
        simp only [R52_r]
        rw [holdsI_ok (by omega) p (small_good hs) _ _ t ht hkt _ (sto_ok hs hx)]
        simp only [R51_r]
        rfl)]
      simp only [R57f75p_r, alwB, List.any_eq_not_all_not, Bool.not_not]
end Go.Proofs.YtcamhbchcjpjiaaGreat
/- FnBackAndForth: the law. -/
set_option linter.unusedVariables false
set_option linter.unusedSimpArgs false
set_option maxRecDepth 8000
namespace Go.Proofs.YtcamhbchcjpjiaaGreat
open Go.Dp

theorem withinL_loop {k : Nat} (hk : 100010 ≤ k) (a b : List Int) (ha : a.length ≤ 100000) (hb : b.length ≤ 100000) : ∀ (n i : Nat), a.length - i < n → i ≤ a.length → L29_1 k n (encZ b) (encZ a) (a.length : Int) (i : Int) = r29 ((a.drop i).all fun x => b.contains x)
  | 0, i, h, hi => by omega
  | n + 1, i, h, hi => by
    rw [sL29_1]
    by_cases hlt : i < a.length
    · have hd : decide ((i : Int) < (a.length : Int)) = true := by simpa using hlt
      have hnext : IntKind.i64.wrap ((i : Int) + 1) = ((i + 1 : Nat) : Int) := by rw [i64_id (by omega) (by omega)]; omega
      rw [hd, encZ_lookup hlt, drop_cons hlt, hnext]
      simp only [cond_true, Option.bind_some, int_atInt]
      rw [hasL_ok hk b hb]
      simp only [R23_r, List.all_cons]
      cases b.contains a[i]
      · rfl
      · exact withinL_loop hk a b ha hb n (i + 1) (by omega) (by omega)
    · have hd : decide ((i : Int) < (a.length : Int)) = false := by simpa using hlt
      rw [hd, List.drop_eq_nil_of_le (by omega)]
      rfl
theorem withinL_ok {k : Nat} (hk : 100020 ≤ k) (a b : List Int) (ha : a.length ≤ 100000) (hb : b.length ≤ 100000) : c29 k (encZ a) (encZ b) = r29 (a.all fun x => b.contains x) := by
  obtain ⟨k, rfl⟩ : ∃ j, k = j + 1 := ⟨k - 1, by omega⟩
  rw [n29, encZ_length]
  exact withinL_loop (k := k) (by omega) a b ha hb k 0 (by omega) (by omega)
theorem backR_len {p : Prg} {l : List Int} : (backR p l).length ≤ 32 := by
  unfold backR
  cases hb : backOK p l
  · simp
  · simp only [backOK, Bool.and_eq_true] at hb
    obtain ⟨hs, hi⟩ := hb
    have hlin : ∀ x ∈ l, inS p x := fun x hx => incG_mem hi x hx
    obtain ⟨r1, r2, _⟩ := backF_spec hs 33 l (by omega) (incG_lt hi).1 hlin
    exact in_room hs r1 r2
theorem nextR_len {p : Prg} (hp : FitP p) (no : Int) : (nextR p no).length ≤ 6 := by
  unfold nextR
  cases noOK p no
  · simp
  · exact nxL_len hp no
theorem bf_end {k : Nat} (hk : 1001000 ≤ k) {more : List Nat} (hm : CodeOK more) : (R27 (c27 k (encB more)) fun v6 v7 l12 l13 l14 =>
        R20 (c20 k v6 v7 l12 l13 l14) fun l15 b13 =>
        R28 (c28 k v6 v7 l12 l13 l14) fun l16 b14 =>
        bif (b13 == b14) then
         R19 (c19 k l15 l16) fun b15 =>
         bif b15 then
          bif !b13 then
           r4 true
          else
           R29 (c29 k l14 l15) fun b16 =>
           r4 b16
         else r4 false
        else r4 false) = r4 true := by
  obtain ⟨p, l, h, hp, hl⟩ := drawBack_ok hm (k := k) (by omega)
  have hbl := backR_len (p := p) (l := l)
  rw [h]
  simp only [R27_r]
  rw [backI_ok (by omega) p hp l (by omega), backS_ok (by omega) p hp l (by omega)]
  simp only [R20_r, R28_r, beq_self_eq_true, cond_true]
  rw [sameI_ok (by omega) _ (by omega)]
  simp only [R19_r, cond_true]
  cases hb : backOK p l
  · rfl
  · simp only [Bool.not_true, cond_false]
    rw [withinL_ok (by omega) l _ (by omega) (by omega)]
    simp only [R29_r]
    congr 1
    have hb2 := hb
    simp only [backOK, Bool.and_eq_true] at hb2
    obtain ⟨hs, hi⟩ := hb2
    have hlin : ∀ x ∈ l, inS p x := fun x hx => incG_mem hi x hx
    rw [List.all_eq_true]
    intro x hx
    have : x ∈ backR p l := by
      unfold backR
      rw [hb]
      exact (backL_mem hs (incG_lt hi).1 hlin x).2 (.here hx)
    simpa using this
theorem bf_loop2 {k : Nat} (hk : 1001000 ≤ k) {more : List Nat} (hm : CodeOK more) {p : Prg} (hp : FitP p) (hs : smallP p = true) (t : List Nd) (ht : t.length ≤ 100) (hkt : kindT p.wide p.vars t = 2) : ∀ (n i : Nat), (reachL p).length - i < n → i ≤ (reachL p).length →
    L4_2 k n (encB more) (encT t) (alwB p t) true (((reachL p).take i).all (hN p t)) (encZ (reachL p)) ((reachL p).length : Int) (i : Int) p.wide p.vars (encT p.start) (encCms p.cmds) = r4 true
  | 0, i, h, hi => by omega
  | n + 1, i, h, hi => by
    have hrl := reachL_len hp hs
    rw [sL4_2]
    by_cases hlt : i < (reachL p).length
    · have hd : decide ((i : Int) < ((reachL p).length : Int)) = true := by simpa using hlt
      have hnext : IntKind.i64.wrap ((i : Int) + 1) = ((i + 1 : Nat) : Int) := by rw [i64_id (by omega) (by omega)]; omega
      have hx := reachL_in hp hs _ (List.getElem_mem hlt)
      have hno : noOK p (reachL p)[i] = true := by
        simp only [noOK, hs, Bool.true_and, Bool.and_eq_true, decide_eq_true_eq]
        exact hx
      have hh : hinOK p t (reachL p)[i] = true := by
        unfold hinOK
        rw [hno, hkt]
        rfl
      have ih := bf_loop2 hk hm hp hs t ht hkt n (i + 1) (by omega) (by omega)
      rw [List.take_add_one, List.getElem?_eq_getElem hlt] at ih
      simp only [Option.toList_some, List.all_append, List.all_cons, List.all_nil, Bool.and_true] at ih
      rw [hd, encZ_lookup hlt, hnext]
      simp only [cond_true, Option.bind_some, int_atInt]
      rw [HoldsInI_ok (by omega) p hp t ht]
      simp only [R11_r, hh, Bool.not_true, cond_false, Bool.true_and]
      cases ha : ((reachL p).take i).all (hN p t)
      · rw [ha] at ih
        exact ih
      · rw [ha] at ih
        exact ih
    · have hd : decide ((i : Int) < ((reachL p).length : Int)) = false := by simpa using hlt
      rw [hd, List.take_of_length_le (by omega)]
      have e : (!((reachL p).all (hN p t) == alwB p t)) = false := by unfold alwB; simp
      simp only [Bool.not_true, cond_false]
      rw [e]
      exact bf_end (by omega) hm
theorem bf_mid {k : Nat} (hk : 1001000 ≤ k) {more : List Nat} (hm : CodeOK more) : (R24 (c24 k (encB more)) fun v4 v5 l8 l9 l10 =>
     R25 (c25 k v4 v5 l8 l9 l10) fun b8 b9 =>
     R26 (c26 k v4 v5 l8 l9 l10) fun b10 b11 =>
     bif (!(b9 == b11)) then
      r4 false
     else
      bif (!(b8 == b10)) then
       r4 false
      else
       bif b9 then
        R22 (c22 k v4 v5 l8 l9) fun l11 b12 =>
        L4_2 k k (encB more) l10 b8 b12 true l11 (l11.length : Int) 0 v4 v5 l8 l9
       else
        R27 (c27 k (encB more)) fun v6 v7 l12 l13 l14 =>
        R20 (c20 k v6 v7 l12 l13 l14) fun l15 b13 =>
        R28 (c28 k v6 v7 l12 l13 l14) fun l16 b14 =>
        bif (b13 == b14) then
         R19 (c19 k l15 l16) fun b15 =>
         bif b15 then
          bif !b13 then
           r4 true
          else
           R29 (c29 k l14 l15) fun b16 =>
           r4 b16
         else r4 false
        else r4 false) = r4 true := by
  obtain ⟨p, t, h, hp, ht⟩ := drawAlways_ok hm (k := k) (by omega)
  rw [h]
  simp only [R24_r]
  rw [alwaysI_ok (by omega) p hp t ht, alwaysS_ok (by omega) p hp t ht]
  simp only [R25_r, R26_r, beq_self_eq_true, Bool.not_true, cond_false]
  cases ha : alwOK p t
  · exact bf_end (by omega) hm
  · simp only [alwOK, Bool.and_eq_true, beq_iff_eq] at ha
    obtain ⟨hs, hkt⟩ := ha
    simp only [cond_true, Bool.true_and]
    rw [reachI_ok (by omega) p hp]
    simp only [R22_r, hs, reachR, cond_true, encZ_length]
    have := bf_loop2 (k := k) hk hm hp hs t ht hkt k 0 (by have := reachL_len hp hs; omega) (by omega)
    exact this
theorem bf_loop1 {k : Nat} (hk : 1001000 ≤ k) {more : List Nat} (hm : CodeOK more) (no : Int) (b r s : List Int) (hb : b.length ≤ 1000) (hr : r.length ≤ 1000) (hsl : s.length ≤ 1000) (heq : (s.any fun x => b.contains x) = r.contains no) : ∀ (n i : Nat), s.length - i < n → i ≤ s.length →
    L4_1 k n (encB more) no (encZ b) true true (encZ r) true ((s.take i).any fun x => b.contains x) (encZ s) (s.length : Int) (i : Int) = r4 true
  | 0, i, h, hi => by omega
  | n + 1, i, h, hi => by
    rw [sL4_1]
    by_cases hlt : i < s.length
    · have hd : decide ((i : Int) < (s.length : Int)) = true := by simpa using hlt
      have hnext : IntKind.i64.wrap ((i : Int) + 1) = ((i + 1 : Nat) : Int) := by rw [i64_id (by omega) (by omega)]; omega
      have ih := bf_loop1 hk hm no b r s hb hr hsl heq n (i + 1) (by omega) (by omega)
      rw [List.take_add_one, List.getElem?_eq_getElem hlt] at ih
      simp only [Option.toList_some, List.any_append, List.any_cons, List.any_nil, Bool.or_false] at ih
      rw [hd, encZ_lookup hlt, hnext]
      simp only [cond_true, Option.bind_some, int_atInt]
      cases ha : ((s.take i).any fun x => b.contains x)
      · rw [ha] at ih
        simp only [cond_false]
        rw [hasL_ok (by omega) b (by omega)]
        simp only [R23_r]
        exact ih
      · rw [ha] at ih
        exact ih
    · have hd : decide ((i : Int) < (s.length : Int)) = false := by simpa using hlt
      rw [hd, List.take_of_length_le (by omega), heq]
      simp only [Bool.not_true, cond_false]
      rw [hasL_ok (by omega) r (by omega)]
      simp only [R23_r, beq_self_eq_true, Bool.not_true, cond_false]
      exact bf_mid hk hm
theorem backforth_true {k : Nat} (hk : 1048700 ≤ k) (code more : List Nat) (hc : ∀ b ∈ code, b < 256) (hm : ∀ b ∈ more, b < 256) : c4 k (encB code) (encB more) = r4 true := by
  obtain ⟨k, rfl⟩ : ∃ j, k = j + 1 := ⟨k - 1, by omega⟩
  rw [n4, big_ok (by omega)]
  simp only [R6_r]
  cases hbig : (decide (code.length > 1048576) || decide (more.length + code.length > 1048576))
  · simp only [cond_false]
    rw [Bool.or_eq_false_iff] at hbig
    have hl : code.length ≤ 1048576 ∧ more.length ≤ 1048576 := by
      have h1 := hbig.1
      have h2 := hbig.2
      simp at h1 h2
      omega
    have hcc : CodeOK code := ⟨hl.1, hc⟩
    have hmm : CodeOK more := ⟨hl.2, hm⟩
    obtain ⟨p, no, h, hp⟩ := drawNext_ok hcc (k := k) (by omega)
    have hnl := nextR_len hp no
    rw [h]
    simp only [R17_r]
    rw [NextI_ok (by omega) p hp no, NextS_ok (by omega) p hp no]
    simp only [R12_r, R18_r, beq_self_eq_true, Bool.not_true, cond_false]
    rw [sameI_ok (by omega) _ (by omega)]
    simp only [R19_r, Bool.not_true, cond_false]
    cases hno : noOK p no
    · exact bf_mid (by omega) hmm
    · obtain ⟨hs, hi⟩ := no_in hno
      have hi' := hi
      unfold inS at hi'
      have hone : backOK p [no] = true := by
        unfold backOK
        rw [hs]
        simp only [incG, Bool.true_and, Bool.and_true]
        rw [decide_eq_true hi'.1, decide_eq_true hi'.2]
        rfl
      have hoi := hone
      simp only [backOK, Bool.and_eq_true] at hoi
      have hoin : ∀ x ∈ [no], inS p x := fun x hx => by rw [List.mem_singleton.1 hx]; exact hi
      have e0 : [PV.int .i64 no] = encZ [no] := rfl
      simp only [cond_true]
      rw [e0, backI_ok (by omega) p hp [no] (by simp), startsI_ok (by omega) p hp, reachI_ok (by omega) p hp]
      simp only [R20_r, R21_r, R22_r, hone, hs, encZ_length]
      have e1 : backR p [no] = backL p [no] := by unfold backR; rw [hone]; rfl
      have e2 : startR p = whI p p.start := by unfold startR; rw [hs]; rfl
      have e3 : reachR p = reachL p := by unfold reachR; rw [hs]; rfl
      have hbl := backR_len (p := p) (l := [no])
      have hrl := reachL_len hp hs
      have hwl := whI_len hs p.start
      rw [e1] at hbl
      rw [e1, e2, e3]
      have heq : ((whI p p.start).any fun x => (backL p [no]).contains x) = (reachL p).contains no := by
        rw [Bool.eq_iff_iff]
        simp only [List.any_eq_true, List.contains_iff_mem]
        rw [reachL_mem hp hs no, back_forth hp hs]
        constructor
        · rintro ⟨x, h1, h2⟩
          obtain ⟨h3, h4⟩ := (whI_mem p p.start x).1 h1
          exact ⟨x, h3, h4, (backL_mem hs (incG_lt hoi.2).1 hoin x).1 h2⟩
        · rintro ⟨x, h1, h2, h3⟩
          exact ⟨x, (whI_mem p p.start x).2 ⟨h1, h2⟩, (backL_mem hs (incG_lt hoi.2).1 hoin x).2 h3⟩
      exact bf_loop1 (k := k) (by omega) hmm no _ _ (whI p p.start) (by omega) (by omega) (by omega) heq k 0 (by omega) (by omega)
  · rfl
theorem lawFnBackAndForth (code more : List Int) (hc : ∀ n ∈ code, (Lit.int .u8 n).wf = true) (hm : ∀ n ∈ more, (Lit.int .u8 n).wf = true) : Contract Tryz.prog 4 (([.row 0 0 (ints .u8 code), .row 0 0 (ints .u8 more)] : List PV).map .p) [] ([.c (.p (.bool true))], []) := by
  obtain ⟨e1, h1⟩ := ints_encB code hc
  obtain ⟨e2, h2⟩ := ints_encB more hm
  rw [e1, e2]
  exact evF_sound envOK pOK (T := T) hT 1048700 (backforth_true (k := 1048700) (Nat.le_refl _) _ _ h1 h2)
end Go.Proofs.YtcamhbchcjpjiaaGreat
/- The law FnBackAndForth of the program: for all arguments it returns true, and its arguments read as they did. -/
namespace Go.Proofs.YtcamhbchcjpjiaaGreat.fnBackAndForth
open Go.ChangeShapes Go.WideShapes Go.ChangeAt Go.RowKit Go.Dp
open Go.ChangeMaps (open_string shut_string)
set_option linter.unusedVariables false
theorem own : ownKnob Tryz.prog.godebug = none := by kernel_rfl
theorem laidOut : laidOutB Tryz.prog = true := by kernel_rfl
theorem spot_none {P : Program} {w : World} {r : Reach} {base : Nat} {t e : TypeId} {x : Addr} {len cap : Nat} (ht : P.underlying t = some (.slice e)) (h : Value.okWide P w r base t (.slice (some x) len cap)) : x.spot = none := by
  simp only [Value.okWide, ht, Cell.okWide, Cell.ok] at h
  exact h.2.2.2.1
set_option maxRecDepth 100000 in
theorem lifted (os : Os) (started : os.Started) (H : Type) (enc : TypeId × Value → H) :
    ReturnsInHanded {} Tryz.checked os 4 .any (Rows.fnBackAndForthSpec.pre6 enc Tryz.prog Tryz.f4 Rows.fnBackAndForthRow.domain false) (Rows.fnBackAndForthSpec.post enc Tryz.prog Tryz.f4 false true false false) := by
  refine returnsInHanded_of_change_sized (C := Tryz.checked) own started (by kernel_rfl) Tryz.func4
    (ChangeSpec.witness6 (enc := enc) (C := Tryz.checked) false ⟨#[], #[.slice none 0 0, .slice none 0 0], []⟩ 8 (by kernel_rfl) (by kernel_rfl) (by kernel_rfl) (by kernel_rfl)) ?_
  intro W base args ds gs before hval0 hW hcnd hsz0 _
  have hval : ∀ (j : Nat) t v, Tryz.f4.params[j]? = some t → args[j]? = some v → Value.okWide Tryz.prog W .any base t v := hval0
  have hW' := hW
  obtain ⟨p, q, hA0, hV, rfl, hfz, hnd⟩ := hW
  have hA : DataW.TrodAll enc Tryz.prog W 0 (fun _ => true) true Tryz.f4.params.toList args.toList ds p := hA0
  rw [Tryz.params4] at hA hval
  obtain ⟨v0, vs0, d0, ds0, p0, q0, hargs, rfl, rfl, h0, r0⟩ := trodAll_cons hA
  obtain ⟨v1, vs1, d1, ds1, p1, q1, rfl, rfl, rfl, h1, r1⟩ := trodAll_cons r0
  obtain ⟨rfl, rfl, rfl⟩ := trodAll_nil r1
  obtain rfl : args = #[v0, v1] := by cases args; simp_all
  obtain ⟨rfl, rfl⟩ := trodVars_none hV
  have o0 := hval 0 22 v0 rfl rfl
  obtain ⟨a0, len0, cap0, rfl⟩ := okWide_slice Tryz.underlying22 o0
  have k0 := h0
  have lt0 : ∀ x ∈ p0, x.block < W.heap.size := by obtain ⟨m, hm⟩ := k0; exact DataW.trod_lt m _ _ _ hm
  obtain ⟨z0, w0⟩ : ∃ zs, IsRow .u8 W a0 len0 cap0 zs := by
    obtain ⟨fuel, hf⟩ := h0
    rcases open_ints Tryz.underlying22 Tryz.underlying5 (by kernel_rfl) hf with ⟨hcs, _⟩ | ⟨x, l, c, zs, hcs, _, hl, hm, hz, _, hcell, hwz⟩
    · simp [Value.cells] at hcs
      obtain ⟨rfl, rfl, rfl⟩ := hcs
      exact ⟨[], .inl ⟨rfl, rfl, rfl, rfl⟩⟩
    · simp [Value.cells] at hcs
      obtain ⟨rfl, rfl, rfl⟩ := hcs
      exact ⟨zs, .inr ⟨_, rfl, spot_none Tryz.underlying22 o0, hl, hm, by simpa using hz, hcell, hwz⟩⟩
  have o1 := hval 1 22 v1 rfl rfl
  obtain ⟨a1, len1, cap1, rfl⟩ := okWide_slice Tryz.underlying22 o1
  have k1 := h1
  have lt1 : ∀ x ∈ p1, x.block < W.heap.size := by obtain ⟨m, hm⟩ := k1; exact DataW.trod_lt m _ _ _ hm
  obtain ⟨z1, w1⟩ : ∃ zs, IsRow .u8 W a1 len1 cap1 zs := by
    obtain ⟨fuel, hf⟩ := h1
    rcases open_ints Tryz.underlying22 Tryz.underlying5 (by kernel_rfl) hf with ⟨hcs, _⟩ | ⟨x, l, c, zs, hcs, _, hl, hm, hz, _, hcell, hwz⟩
    · simp [Value.cells] at hcs
      obtain ⟨rfl, rfl, rfl⟩ := hcs
      exact ⟨[], .inl ⟨rfl, rfl, rfl, rfl⟩⟩
    · simp [Value.cells] at hcs
      obtain ⟨rfl, rfl, rfl⟩ := hcs
      exact ⟨zs, .inr ⟨_, rfl, spot_none Tryz.underlying22 o1, hl, hm, by simpa using hz, hcell, hwz⟩⟩
  clear hA0 hval0 hsz0
  refine (law_walk (P := Tryz.prog) (f := 4) (vs := [.row 0 0 (ints .u8 (z0.take len0)), .row 0 0 (ints .u8 (z1.take len1))]) (ys := [.slice a0 len0 cap0, .slice a1 len1 cap1]) rfl ?_ (lawFnBackAndForth (z0.take len0) (z1.take len1) (fun n hn => w0.wf n (List.mem_of_mem_take hn)) (fun n hn => w1.wf n (List.mem_of_mem_take hn)))).mono fun e W' ⟨he, bel⟩ => ?_
  · intro i a y ha hy
    cases i with
    | zero => simp at ha hy; subst ha; subst hy; exact w0.rp
    | succ i =>
      cases i with
      | zero => simp at ha hy; subst ha; subst hy; exact w1.rp
      | succ i =>
        simp at ha
  subst he
  exact ⟨_, rfl, _, _, _, [], _, [], hW', trodAll_mk1 (shut_bool Tryz.underlying4 _), (trodAll_cons_mk (Below.trod laidOut (by kernel_rfl) (of_decide_eq_true (by kernel_rfl)) k0 bel lt0) (trodAll_cons_mk (Below.trod laidOut (by kernel_rfl) (of_decide_eq_true (by kernel_rfl)) k1 bel lt1) trodAll_mk0)), rfl, bel.frame _, fun h => by cases h⟩
theorem named : Tryz.pinned.checked.prog.funcNamed Rows.fnBackAndForthRow.func = some 4 := by kernel_rfl
theorem closed : joinedFacts Tryz.pinned.checked.prog 4 Tryz.f4 Rows.fnBackAndForthSpec Rows.fnBackAndForthRow = true := by kernel_rfl
theorem inst : Tryz.f4.isInstance Tryz.pinned.checked.prog Rows.fnBackAndForthRow.origin Rows.fnBackAndForthRow.targs := of_decide_eq_true (by kernel_rfl)
theorem wrap : Tryz.f4.isWrapper Tryz.pinned.checked.prog Rows.fnBackAndForthRow.wrapper Rows.fnBackAndForthRow.mainSum := by unfold Func.isWrapper; first | (rw [if_pos (by decide +kernel)]; kernel_rfl) | (rw [if_neg (by decide +kernel)]; exact ⟨rfl, rfl⟩)
theorem over : Rows.fnBackAndForthRow.holds Tryz.pinned (OpenSpec.ofChange Rows.fnBackAndForthSpec) :=
  OpenClaim.holds_of_wide 4 Tryz.f4 rfl rfl rfl rfl rfl rfl rfl ⟨rfl, rfl, rfl, rfl, rfl⟩ rfl rfl rfl rfl rfl named Tryz.func4 closed inst wrap
    (fun os started H enc _ => lifted os started H enc)
theorem proved : Rows.FnBackAndForthSaid := over
end Go.Proofs.YtcamhbchcjpjiaaGreat.fnBackAndForth
namespace Go.Proofs.YtcamhbchcjpjiaaGreat
/-- The row, under a short name, for the claim. -/
theorem fnBackAndForth_holds : Rows.FnBackAndForthSaid := fnBackAndForth.proved
#print axioms fnBackAndForth_holds
end Go.Proofs.YtcamhbchcjpjiaaGreat
