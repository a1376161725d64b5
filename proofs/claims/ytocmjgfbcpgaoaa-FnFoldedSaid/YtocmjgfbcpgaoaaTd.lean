/- FnFolded: folding's functions and the law. -/
import Derived.Test.YtocmjgfbcpgaoaaTc
set_option linter.unusedVariables false
set_option linter.unusedSimpArgs false
set_option maxRecDepth 4000
namespace Go.Proofs.Ytocmjgfbcpgaoaa
open Go.Dp

theorem slice_tree {T : Tr} {t pre suf : List Nd} (h : t = pre ++ T.flat ++ suf) (e : Nat) (he : e = pre.length + T.flat.length) : ((encT t).take e).drop pre.length = encT T.flat := by
  rw [encT_take, he, h]
  have e1 : (pre ++ T.flat ++ suf).take (pre.length + T.flat.length) = pre ++ T.flat := by
    rw [List.take_append_of_le_length (by simp), List.take_of_length_le (by simp)]
  rw [e1]
  simp [encT]
theorem fold_leafvar {wide vars : Int} {x : Nd} (h : (Tr.leaf x).ok wide vars) : (Tr.leaf x).fold wide = .leaf x := rfl
theorem root_kind {wide vars : Int} {T : Tr} : T.kind = (need T.root.1).2.2 := rfl
theorem l2Fold_tree {wide vars : Int} (hw : isW wide = true) (hv : isV vars = true) : ∀ (T : Tr) (t pre suf : List Nd) (k : Nat), T.ok wide vars → t = pre ++ T.flat ++ suf → t.length ≤ 100 → 3000 + T.flat.length ≤ k → c25 k wide (encT t) ((pre.length + T.flat.length - 1 : Nat) : Int) = r25 (encT (T.fold wide).flat) := by
  intro T
  induction T with
  | leaf x =>
    intro t pre suf k h ht hl hk
    obtain ⟨k, rfl⟩ : ∃ i, k = i + 1 := ⟨k - 1, by omega⟩
    have hfl : (Tr.leaf x).flat.length = 1 := rfl
    have htl : t.length = pre.length + 1 + suf.length := by rw [ht]; (simp [Tr.flat]; try omega)
    have hc := from_tree (Tr.leaf x) t pre suf k h ht (by omega) (by omega)
    rw [n25, hc]
    simp only [R52_r, encT_length]
    rw [i64_id (n := ((pre.length + (Tr.leaf x).flat.length - 1 : Nat) : Int) + 1) (by omega) (by omega)]
    have hcond : (decide ((0 : Int) ≤ (pre.length : Int)) && decide ((pre.length : Int) ≤ ((pre.length + (Tr.leaf x).flat.length - 1 : Nat) : Int) + 1) && decide (((pre.length + (Tr.leaf x).flat.length - 1 : Nat) : Int) + 1 ≤ (t.length : Int))) = true := by simp; omega
    rw [hcond, Int.toNat_natCast, slice_tree ht _ (by omega), l2Vars_ok (by omega) _ (by rw [hfl]; omega)]
    simp only [cond_true, R29_r, encZ_length]
    rw [root_at ht]
    simp only [Option.bind_some, encN_shp, encN_op, encN_n, cond_true, Tr.root]
    rw [needS_ok (by omega)]
    simp only [R49_r]
    have hpl := putAllI_spec (vlist (Tr.leaf x).flat) [] List.Pairwise.nil
    cases hn : (Tr.leaf x).noVars
    · have hne : ¬ vlist (Tr.leaf x).flat = [] := fun e => by rw [(Tr.noVars_vlist _ h).1 e] at hn; cases hn
      have h0 : (((putAllI [] (vlist (Tr.leaf x).flat)).length : Int) == 0) = false := by
        rw [beq_eq_false_iff_ne]
        intro e
        have : putAllI [] (vlist (Tr.leaf x).flat) = [] := List.eq_nil_of_length_eq_zero (by omega)
        obtain ⟨y, hy⟩ := List.exists_mem_of_ne_nil _ hne
        have := (hpl.2 y).2 (.inr hy)
        simp_all
      have h1 : ((((need x.1).1 : Nat) : Int) == 0) = true := by simp [h.1]
      rw [h0, h1]
      rfl
    · have he := (Tr.noVars_vlist _ h).2 hn
      have h0 : (((putAllI [] (vlist (Tr.leaf x).flat)).length : Int) == 0) = true := by rw [he]; rfl
      have hval := value_tree hw hv (s := []) (by simp) (Tr.leaf x) t pre suf k h (Tr.noVars_inS _ _ hn) ht (by omega) (by omega)
      have hval' : c23 k wide (encT t) ((pre.length + (Tr.leaf x).flat.length - 1 : Nat) : Int) [] = _ := hval
      rw [h0, hval', fold_const _ h hn]
      simp only [cond_true, R23_r]
      unfold numT
      rw [show (Tr.leaf x).kind = (need x.1).2.2 from rfl]
      by_cases hk2 : (need x.1).2.2 = 2
      · simp [hk2]; rfl
      · have : ((need x.1).2.2 == 2) = false := by simpa using hk2
        rw [this, if_neg hk2]; rfl
  | un x a iha0 =>
    intro t pre suf k h ht hl hk
    have hok := h
    obtain ⟨h1, h2, h3, h4, h5⟩ := h
    have hp := a.flat_pos
    have hfl : (Tr.un x a).flat.length = a.flat.length + 1 := by simp [Tr.flat]
    have ht2 : t = pre ++ a.flat ++ ([x] ++ suf) := by rw [ht]; simp [Tr.flat]
    have htl : t.length = pre.length + a.flat.length + 1 + suf.length := by rw [ht2]; (simp; try omega)
    obtain ⟨k, rfl⟩ : ∃ i, k = i + 1 := ⟨k - 1, by omega⟩
    have ih := iha0 t pre ([x] ++ suf) k h5 ht2 hl (by omega)
    have hc := from_tree (Tr.un x a) t pre suf k hok ht (by omega) (by omega)
    have hfa := Tr.fold_len wide a
    rw [n25, hc]
    simp only [R52_r, encT_length]
    rw [i64_id (n := ((pre.length + (Tr.un x a).flat.length - 1 : Nat) : Int) + 1) (by omega) (by omega)]
    have hcond : (decide ((0 : Int) ≤ (pre.length : Int)) && decide ((pre.length : Int) ≤ ((pre.length + (Tr.un x a).flat.length - 1 : Nat) : Int) + 1) && decide (((pre.length + (Tr.un x a).flat.length - 1 : Nat) : Int) + 1 ≤ (t.length : Int))) = true := by simp; omega
    rw [hcond, Int.toNat_natCast, slice_tree ht _ (by omega), l2Vars_ok (by omega) _ (by omega)]
    simp only [cond_true, R29_r, encZ_length]
    rw [root_at ht]
    simp only [Option.bind_some, encN_shp, encN_op, encN_n, cond_true, Tr.root]
    rw [needS_ok (by omega)]
    simp only [R49_r]
    have hpl := putAllI_spec (vlist (Tr.un x a).flat) [] List.Pairwise.nil
    cases hn : (Tr.un x a).noVars
    · have hne : ¬ vlist (Tr.un x a).flat = [] := fun e => by rw [(Tr.noVars_vlist _ hok).1 e] at hn; cases hn
      have h0 : (((putAllI [] (vlist (Tr.un x a).flat)).length : Int) == 0) = false := by
        rw [beq_eq_false_iff_ne]
        intro e
        have : putAllI [] (vlist (Tr.un x a).flat) = [] := List.eq_nil_of_length_eq_zero (by omega)
        obtain ⟨y, hy⟩ := List.exists_mem_of_ne_nil _ hne
        have := (hpl.2 y).2 (.inr hy)
        simp_all
      have h1' : ((((need x.1).1 : Nat) : Int) == 0) = false := by simp [h1]
      have h2' : ((((need x.1).1 : Nat) : Int) == 2) = false := by simp [h1]
      rw [h0, h1', h2', i64_id (n := ((pre.length + (Tr.un x a).flat.length - 1 : Nat) : Int) - 1) (by omega) (by omega), show ((pre.length + (Tr.un x a).flat.length - 1 : Nat) : Int) - 1 = ((pre.length + a.flat.length - 1 : Nat) : Int) by omega, ih]
      simp only [cond_false, R25_r, encT_length, List.take_length]
      rw [lim_ok (by omega) (by omega)]
      have e5 : PV.agg [.int .i64 x.1, .int .u64 (wi x.2)] = encN x := rfl
      have hn' : ¬ a.noVars = true := by simpa [Tr.noVars] using hn
      rw [e5, Tr.fold_un, if_neg hn']
      simp only [cond_true, Tr.flat]
      rw [encT_snoc, List.take_of_length_le (by simp)]
    · have he := (Tr.noVars_vlist _ hok).2 hn
      have h0 : (((putAllI [] (vlist (Tr.un x a).flat)).length : Int) == 0) = true := by rw [he]; rfl
      have hval := value_tree hw hv (s := []) (by simp) (Tr.un x a) t pre suf k hok (Tr.noVars_inS _ _ hn) ht (by omega) (by omega)
      have hval' : c23 k wide (encT t) ((pre.length + (Tr.un x a).flat.length - 1 : Nat) : Int) [] = _ := hval
      rw [h0, hval', fold_const _ hok hn]
      simp only [cond_true, R23_r]
      unfold numT
      rw [show (Tr.un x a).kind = (need x.1).2.2 from rfl]
      by_cases hk2 : (need x.1).2.2 = 2
      · simp [hk2]; rfl
      · have : ((need x.1).2.2 == 2) = false := by simpa using hk2
        rw [this, if_neg hk2]; rfl
  | bin x a b iha0 ihb0 =>
    intro t pre suf k h ht hl hk
    have hok := h
    obtain ⟨h1, h2, h3, h4, h5, h6, h7⟩ := h
    have hp := a.flat_pos
    have hq := b.flat_pos
    have hfl : (Tr.bin x a b).flat.length = a.flat.length + b.flat.length + 1 := by (simp [Tr.flat]; try omega)
    have ht2 : t = (pre ++ a.flat) ++ b.flat ++ ([x] ++ suf) := by rw [ht]; simp [Tr.flat]
    have ht3 : t = pre ++ a.flat ++ (b.flat ++ [x] ++ suf) := by rw [ht]; simp [Tr.flat]
    have htl : t.length = pre.length + a.flat.length + b.flat.length + 1 + suf.length := by rw [ht2]; (simp; try omega)
    obtain ⟨k, rfl⟩ : ∃ i, k = i + 1 := ⟨k - 1, by omega⟩
    have ihb := ihb0 t (pre ++ a.flat) ([x] ++ suf) k h7 ht2 hl (by omega)
    have iha := iha0 t pre (b.flat ++ [x] ++ suf) k h6 ht3 hl (by omega)
    have hfr := from_tree b t (pre ++ a.flat) ([x] ++ suf) k h7 ht2 (by omega) (by omega)
    rw [List.length_append] at ihb hfr
    have hc := from_tree (Tr.bin x a b) t pre suf k hok ht (by omega) (by omega)
    have hfa := Tr.fold_len wide a
    have hfb := Tr.fold_len wide b
    rw [n25, hc]
    simp only [R52_r, encT_length]
    rw [i64_id (n := ((pre.length + (Tr.bin x a b).flat.length - 1 : Nat) : Int) + 1) (by omega) (by omega)]
    have hcond : (decide ((0 : Int) ≤ (pre.length : Int)) && decide ((pre.length : Int) ≤ ((pre.length + (Tr.bin x a b).flat.length - 1 : Nat) : Int) + 1) && decide (((pre.length + (Tr.bin x a b).flat.length - 1 : Nat) : Int) + 1 ≤ (t.length : Int))) = true := by simp; omega
    rw [hcond, Int.toNat_natCast, slice_tree ht _ (by omega), l2Vars_ok (by omega) _ (by omega)]
    simp only [cond_true, R29_r, encZ_length]
    rw [root_at ht]
    simp only [Option.bind_some, encN_shp, encN_op, encN_n, cond_true, Tr.root]
    rw [needS_ok (by omega)]
    simp only [R49_r]
    have hpl := putAllI_spec (vlist (Tr.bin x a b).flat) [] List.Pairwise.nil
    cases hn : (Tr.bin x a b).noVars
    · have hne : ¬ vlist (Tr.bin x a b).flat = [] := fun e => by rw [(Tr.noVars_vlist _ hok).1 e] at hn; cases hn
      have h0 : (((putAllI [] (vlist (Tr.bin x a b).flat)).length : Int) == 0) = false := by
        rw [beq_eq_false_iff_ne]
        intro e
        have : putAllI [] (vlist (Tr.bin x a b).flat) = [] := List.eq_nil_of_length_eq_zero (by omega)
        obtain ⟨y, hy⟩ := List.exists_mem_of_ne_nil _ hne
        have := (hpl.2 y).2 (.inr hy)
        simp_all
      have h1' : ((((need x.1).1 : Nat) : Int) == 0) = false := by simp [h1]
      have h2' : ((((need x.1).1 : Nat) : Int) == 2) = true := by simp [h1]
      rw [h0, h1', h2', i64_id (n := ((pre.length + (Tr.bin x a b).flat.length - 1 : Nat) : Int) - 1) (by omega) (by omega), show ((pre.length + (Tr.bin x a b).flat.length - 1 : Nat) : Int) - 1 = ((pre.length + a.flat.length + b.flat.length - 1 : Nat) : Int) by omega, ihb, hfr]
      simp only [cond_false, cond_true, R25_r, R52_r]
      rw [i64_id (n := ((pre.length + a.flat.length : Nat) : Int) - 1) (by omega) (by omega), show ((pre.length + a.flat.length : Nat) : Int) - 1 = ((pre.length + a.flat.length - 1 : Nat) : Int) by omega, iha]
      simp only [R25_r, encT_length, List.take_length]
      have e5 : PV.agg [.int .i64 x.1, .int .u64 (wi x.2)] = encN x := rfl
      have hn' : ¬ (a.noVars && b.noVars) = true := by simpa [Tr.noVars] using hn
      rw [e5, Tr.fold_bin, if_neg hn']
      have hta : (encT (b.fold wide).flat).take (b.fold wide).flat.length = encT (b.fold wide).flat := by rw [List.take_of_length_le (by simp)]
      rw [hta, encT_length, lim_ok (by omega) (by omega), lim_ok (by omega) (by omega), encT_app]
      simp only [cond_true, Tr.flat]
      rw [List.take_of_length_le (l := encT ((a.fold wide).flat ++ (b.fold wide).flat)) (by simp), encT_snoc, List.take_of_length_le (by (simp; try omega))]
    · have he := (Tr.noVars_vlist _ hok).2 hn
      have h0 : (((putAllI [] (vlist (Tr.bin x a b).flat)).length : Int) == 0) = true := by rw [he]; rfl
      have hval := value_tree hw hv (s := []) (by simp) (Tr.bin x a b) t pre suf k hok (Tr.noVars_inS _ _ hn) ht (by omega) (by omega)
      have hval' : c23 k wide (encT t) ((pre.length + (Tr.bin x a b).flat.length - 1 : Nat) : Int) [] = _ := hval
      rw [h0, hval', fold_const _ hok hn]
      simp only [cond_true, R23_r]
      unfold numT
      rw [show (Tr.bin x a b).kind = (need x.1).2.2 from rfl]
      by_cases hk2 : (need x.1).2.2 = 2
      · simp [hk2]; rfl
      · have : ((need x.1).2.2 == 2) = false := by simpa using hk2
        rw [this, if_neg hk2]; rfl
theorem canI_beq (l : List Int) : (((canI l).length : Int) == 0) = decide (l = []) := by
  rw [Bool.eq_iff_iff, decide_eq_true_eq, ← canI_nil, beq_iff_eq]
  omega
theorem fold_tree {wide vars : Int} (hw : isW wide = true) (hv : isV vars = true) : ∀ (T : Tr) (k : Nat), T.ok wide vars → T.flat.length ≤ 100 → 400000 + T.flat.length ≤ k → c24 k wide (encT T.flat) = r24 (encT (T.fold wide).flat) := by
  have const : ∀ (T : Tr) (k : Nat), T.ok wide vars → T.flat.length ≤ 100 → 300000 ≤ k → T.noVars = true → c24 (k + 1) wide (encT T.flat) = r24 (encT (T.fold wide).flat) := by
    intro T k h hl hk hn
    have hp := T.flat_pos
    have hroot := root_at (T := T) (t := T.flat) (pre := []) (suf := []) (by simp)
    simp only [List.length_nil, Nat.zero_add] at hroot
    have hkind : c27 k (encT T.flat) = r27 T.kind := by
      obtain ⟨k, rfl⟩ : ∃ i, k = i + 1 := ⟨k - 1, by omega⟩
      rw [n27, encT_length, i64_id (by omega) (by omega), show (T.flat.length : Int) - 1 = ((T.flat.length - 1 : Nat) : Int) by omega, hroot]
      simp only [Option.bind_some, encN_op]
      rw [operandsOf_ok (by omega)]
      simp only [R41_r]
      rfl
    have hrun := T.run_val (vars := vars) [] h (T.noVars_inS [] hn) []
    have hval : c20 k wide (encT T.flat) (encW []) = r20 (wi (T.val wide [])) := valueOf_ok (by omega) hw [] _ (by omega) hrun
    have hval' : c20 k wide (encT T.flat) [] = _ := hval
    have he := (Tr.noVars_vlist T h).2 hn
    rw [n24, varsIn_ok (by omega) _ hl]
    simp only [R26_r, encZ_length]
    rw [canI_beq, he, hkind, hval', fold_const T h hn]
    simp only [decide_true, cond_true, R27_r, R20_r]
    unfold numT
    by_cases hk2 : T.kind = 2
    · simp [hk2]; rfl
    · have : (T.kind == 2) = false := by simpa using hk2
      rw [this, if_neg hk2]; rfl
  intro T
  induction T with
  | leaf x =>
    intro k h hl hk
    obtain ⟨k, rfl⟩ : ∃ i, k = i + 2 := ⟨k - 2, by omega⟩
    cases hn : (Tr.leaf x).noVars
    · have hne : ¬ vlist (Tr.leaf x).flat = [] := fun e => by rw [(Tr.noVars_vlist _ h).1 e] at hn; cases hn
      have hlk : lookP (encT (Tr.leaf x).flat) 0 = some (encN x) := rfl
      rw [n24, varsIn_ok (by omega) _ hl]
      simp only [R26_r, encZ_length]
      rw [canI_beq, decide_eq_false hne, encT_length]
      have e0 : IntKind.i64.wrap (((Tr.leaf x).flat.length : Int) - 1) = 0 := (i64_id (by simp [Tr.flat]) (by simp [Tr.flat])).trans (by simp [Tr.flat])
      rw [e0, hlk]
      simp only [cond_false, Option.bind_some, encN_shp, encN_op, encN_n, cond_true]
      rw [sL24_1]
      rfl
    · exact const _ (k + 1) h hl (by omega) hn
  | un x a iha0 =>
    intro k h hl hk
    have hok := h
    obtain ⟨h1, h2, h3, h4, h5⟩ := h
    have hp := a.flat_pos
    have hfl : (Tr.un x a).flat.length = a.flat.length + 1 := by simp [Tr.flat]
    have hfa := Tr.fold_len wide a
    obtain ⟨k, rfl⟩ : ∃ i, k = i + 1 := ⟨k - 1, by omega⟩
    cases hn : (Tr.un x a).noVars
    · have hne : ¬ vlist (Tr.un x a).flat = [] := fun e => by rw [(Tr.noVars_vlist _ hok).1 e] at hn; cases hn
      have hroot := root_at (T := Tr.un x a) (t := (Tr.un x a).flat) (pre := []) (suf := []) (by simp)
      simp only [List.length_nil, Nat.zero_add] at hroot
      have hst := start_tree a (Tr.un x a).flat [] [x] k h5 (by simp [Tr.flat]) (by omega) (by omega)
      simp only [List.length_nil, Nat.zero_add] at hst
      have hsl := slice_tree (T := a) (t := (Tr.un x a).flat) (pre := []) (suf := [x]) (by simp [Tr.flat]) a.flat.length (by simp)
      simp only [List.length_nil] at hsl
      have ih := iha0 k h5 (by omega) (by omega)
      have hn' : ¬ a.noVars = true := by simpa [Tr.noVars] using hn
      rw [n24, varsIn_ok (by omega) _ hl]
      simp only [R26_r, encZ_length]
      rw [canI_beq, decide_eq_false hne, encT_length, i64_id (by omega) (by omega), show ((Tr.un x a).flat.length : Int) - 1 = (((Tr.un x a).flat.length - 1 : Nat) : Int) by omega, hroot]
      simp only [cond_false, Option.bind_some, encN_shp, encN_op, encN_n, cond_true, Tr.root]
      obtain ⟨k', hk'⟩ : ∃ i, k = i + 1 := ⟨k - 1, by omega⟩
      have hd : decide ((((Tr.un x a).flat.length - 1 : Nat) : Int) > 0) = true := by (simp; omega)
      have step : ∀ n, L24_1 k (n + 1) wide (encT (Tr.un x a).flat) 1 (((Tr.un x a).flat.length - 1 : Nat) : Int) [PV.agg [.int .i64 x.1, .int .u64 (wi x.2)]] = L24_1 k n wide (encT (Tr.un x a).flat) ((a.fold wide).flat.length + 1) ((0 : Nat) : Int) (encT ((a.fold wide).flat ++ [x])) := by
        intro n
        rw [sL24_1, hd, i64_id (by omega) (by omega), show (((Tr.un x a).flat.length - 1 : Nat) : Int) - 1 = ((a.flat.length - 1 : Nat) : Int) by omega, hst]
        simp only [cond_true, R53_r, encT_length]
        have hcond : (decide ((0 : Int) ≤ ((0 : Nat) : Int)) && decide (((0 : Nat) : Int) ≤ (((Tr.un x a).flat.length - 1 : Nat) : Int)) && decide ((((Tr.un x a).flat.length - 1 : Nat) : Int) ≤ ((Tr.un x a).flat.length : Int))) = true := by (simp; try omega)
        rw [hcond, Int.toNat_natCast, Int.toNat_natCast, show (Tr.un x a).flat.length - 1 = a.flat.length by omega, hsl, ih]
        simp only [cond_true, R24_r, encT_length, List.take_length]
        have e5 : PV.agg [.int .i64 x.1, .int .u64 (wi x.2)] = encN x := rfl
        rw [e5, show ([encN x] : List PV).take 1 = encT [x] from rfl, encT_length, lim_ok (by (simp; try omega)) (by omega), encT_app]
        rfl
      have e1 := step k'
      rw [← hk'] at e1
      rw [e1]
      obtain ⟨k'', hk''⟩ : ∃ i, k' = i + 1 := ⟨k' - 1, by omega⟩
      rw [hk'', sL24_1]
      have hd0 : decide (((0 : Nat) : Int) > 0) = false := rfl
      simp only [hd0, cond_false]
      rw [List.take_of_length_le (by simp), Tr.fold_un, if_neg hn']
      rfl
    · exact const _ k hok hl (by omega) hn
  | bin x a b iha0 ihb0 =>
    intro k h hl hk
    have hok := h
    obtain ⟨h1, h2, h3, h4, h5, h6, h7⟩ := h
    have hp := a.flat_pos
    have hq := b.flat_pos
    have hfl : (Tr.bin x a b).flat.length = a.flat.length + b.flat.length + 1 := by (simp [Tr.flat]; try omega)
    have hfa := Tr.fold_len wide a
    have hfb := Tr.fold_len wide b
    obtain ⟨k, rfl⟩ : ∃ i, k = i + 1 := ⟨k - 1, by omega⟩
    cases hn : (Tr.bin x a b).noVars
    · have hne : ¬ vlist (Tr.bin x a b).flat = [] := fun e => by rw [(Tr.noVars_vlist _ hok).1 e] at hn; cases hn
      have hroot := root_at (T := Tr.bin x a b) (t := (Tr.bin x a b).flat) (pre := []) (suf := []) (by simp)
      simp only [List.length_nil, Nat.zero_add] at hroot
      have hstb := start_tree b (Tr.bin x a b).flat a.flat [x] k h7 (by simp [Tr.flat]) (by omega) (by omega)
      have hsta := start_tree a (Tr.bin x a b).flat [] (b.flat ++ [x]) k h6 (by simp [Tr.flat]) (by omega) (by omega)
      simp only [List.length_nil, Nat.zero_add] at hsta
      have hslb := slice_tree (T := b) (t := (Tr.bin x a b).flat) (pre := a.flat) (suf := [x]) (by simp [Tr.flat]) (a.flat.length + b.flat.length) rfl
      have hsla := slice_tree (T := a) (t := (Tr.bin x a b).flat) (pre := []) (suf := b.flat ++ [x]) (by simp [Tr.flat]) a.flat.length (by simp)
      simp only [List.length_nil] at hsla
      have iha := iha0 k h6 (by omega) (by omega)
      have ihb := ihb0 k h7 (by omega) (by omega)
      have hn' : ¬ (a.noVars && b.noVars) = true := by simpa [Tr.noVars] using hn
      rw [n24, varsIn_ok (by omega) _ hl]
      simp only [R26_r, encZ_length]
      rw [canI_beq, decide_eq_false hne, encT_length, i64_id (by omega) (by omega), show ((Tr.bin x a b).flat.length : Int) - 1 = (((Tr.bin x a b).flat.length - 1 : Nat) : Int) by omega, hroot]
      simp only [cond_false, Option.bind_some, encN_shp, encN_op, encN_n, cond_true, Tr.root]
      obtain ⟨k', hk'⟩ : ∃ i, k = i + 1 := ⟨k - 1, by omega⟩
      have hd : decide ((((Tr.bin x a b).flat.length - 1 : Nat) : Int) > 0) = true := by (simp; omega)
      have hd1 : decide ((a.flat.length : Int) > 0) = true := by (simp; omega)
      have step : ∀ n, L24_1 k (n + 1) wide (encT (Tr.bin x a b).flat) 1 (((Tr.bin x a b).flat.length - 1 : Nat) : Int) [PV.agg [.int .i64 x.1, .int .u64 (wi x.2)]] = L24_1 k n wide (encT (Tr.bin x a b).flat) ((b.fold wide).flat.length + 1) (a.flat.length : Int) (encT ((b.fold wide).flat ++ [x])) := by
        intro n
        rw [sL24_1, hd, i64_id (by omega) (by omega), show (((Tr.bin x a b).flat.length - 1 : Nat) : Int) - 1 = ((a.flat.length + b.flat.length - 1 : Nat) : Int) by omega, hstb]
        simp only [cond_true, R53_r, encT_length]
        have hcond : (decide ((0 : Int) ≤ (a.flat.length : Int)) && decide ((a.flat.length : Int) ≤ (((Tr.bin x a b).flat.length - 1 : Nat) : Int)) && decide ((((Tr.bin x a b).flat.length - 1 : Nat) : Int) ≤ ((Tr.bin x a b).flat.length : Int))) = true := by (simp; try omega)
        rw [hcond, Int.toNat_natCast, Int.toNat_natCast, show (Tr.bin x a b).flat.length - 1 = a.flat.length + b.flat.length by omega, hslb, ihb]
        simp only [cond_true, R24_r, encT_length, List.take_length]
        have e5 : PV.agg [.int .i64 x.1, .int .u64 (wi x.2)] = encN x := rfl
        rw [e5, show ([encN x] : List PV).take 1 = encT [x] from rfl, encT_length, lim_ok (by (simp; try omega)) (by omega), encT_app]
        rfl
      have step2 : ∀ n, L24_1 k (n + 1) wide (encT (Tr.bin x a b).flat) ((b.fold wide).flat.length + 1) (a.flat.length : Int) (encT ((b.fold wide).flat ++ [x])) = L24_1 k n wide (encT (Tr.bin x a b).flat) ((a.fold wide).flat.length + ((b.fold wide).flat.length + 1)) ((0 : Nat) : Int) (encT ((a.fold wide).flat ++ ((b.fold wide).flat ++ [x]))) := by
        intro n
        rw [sL24_1, hd1, i64_id (by omega) (by omega), show (a.flat.length : Int) - 1 = ((a.flat.length - 1 : Nat) : Int) by omega, hsta]
        simp only [cond_true, R53_r, encT_length]
        have hcond : (decide ((0 : Int) ≤ ((0 : Nat) : Int)) && decide (((0 : Nat) : Int) ≤ (a.flat.length : Int)) && decide ((a.flat.length : Int) ≤ ((Tr.bin x a b).flat.length : Int))) = true := by (simp; try omega)
        rw [hcond, Int.toNat_natCast, Int.toNat_natCast, hsla, iha]
        simp only [cond_true, R24_r, encT_length, List.take_length]
        have e6 : (encT ((b.fold wide).flat ++ [x])).take ((b.fold wide).flat.length + 1) = encT ((b.fold wide).flat ++ [x]) := by rw [List.take_of_length_le (by simp)]
        rw [e6, encT_length, List.length_append, List.length_singleton, lim_ok (by omega) (by omega), encT_app]
        rfl
      have e1 := step k'
      rw [← hk'] at e1
      rw [e1]
      obtain ⟨k'', hk''⟩ : ∃ i, k' = i + 1 := ⟨k' - 1, by omega⟩
      have e2 := step2 k''
      rw [← hk''] at e2
      rw [e2]
      obtain ⟨k3, hk3⟩ : ∃ i, k'' = i + 1 := ⟨k'' - 1, by omega⟩
      rw [hk3, sL24_1]
      have hd0 : decide (((0 : Nat) : Int) > 0) = false := rfl
      simp only [hd0, cond_false]
      rw [List.take_of_length_le (by simp), Tr.fold_bin, if_neg hn']
      simp only [Tr.flat, List.append_assoc]
    · exact const _ k hok hl (by omega) hn
end Go.Proofs.Ytocmjgfbcpgaoaa
