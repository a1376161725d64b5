/- A call in the code. -/
import Derived.Test.YtnflnpjojbkgjaaGreatDp14
set_option linter.unusedVariables false
set_option linter.unusedSimpArgs false
namespace Go.Dp
section
variable {P : Program} {E : Env} {w w' : World} {Im Im' : Nat → Prop} {ρ ρ' : Nat → Option Value} {o o' : List AObj} {K : Kt} {r : List SV × List (List CV)} {t : List AV}

theorem locsC_arr {c : CV} {id : Nat} (h : id ∈ locsC o c) : ∃ e sh ver xs, o[id]? = some (AObj.arr e sh ver false xs) := by
  cases c <;> simp only [locsC] at h <;> first | (simp at h; done) | skip
  split at h
  · rename_i e sh ver' xs ho
    cases hb : (_ : Nat) == ver' <;> rw [hb] at h
    · simp at h
    · simp at h
      subst h
      exact ⟨e, sh, ver', xs, ho⟩
  · simp at h
theorem castC_some {ct : CellT} {c : CV} {K : CV → R} (h : castC ct c K = some r) : ∃ d, K d = some r ∧ ∀ (w : World) (Im : Nat → Prop) (ρ : Nat → Option Value) (o : List AObj) (y : Value), RC w Im ρ o c y → RC w Im ρ o d y := by
  unfold castC at h
  split at h
  · obtain ⟨u, h, hw⟩ := castCell_some h
    exact ⟨_, h, fun w Im ρ o y hy => hw.2 w Im y hy⟩
  · exact ⟨_, h, fun w Im ρ o y hy => hy⟩
theorem castA_some {ct : CT} {a : AV} {K : AV → R} (h : castA ct a K = some r) : ∃ b, K b = some r ∧ ∀ (w : World) (Im : Nat → Prop) (ρ : Nat → Option Value) (o : List AObj) (y : Value), RA w Im ρ o a y → RA w Im ρ o b y := by
  unfold castA at h
  split at h
  · obtain ⟨d, h, hw⟩ := castC_some h
    exact ⟨_, h, fun w Im ρ o y hy => hw w Im ρ o y hy⟩
  · obtain ⟨u, h, hw⟩ := castK_some h
    exact ⟨_, h, fun w Im ρ o y hy => hw.2 w Im y hy⟩
  · exact ⟨_, h, fun w Im ρ o y hy => hy⟩
theorem castAs_some : ∀ {cts : List CT} {as : List AV} {K : List AV → R}, castAs cts as K = some r → ∃ bs, K bs = some r ∧ bs.length = as.length ∧ ∀ (w : World) (Im : Nat → Prop) (ρ : Nat → Option Value) (o : List AObj) (i : Nat) (b : AV), bs[i]? = some b → ∃ a, as[i]? = some a ∧ ∀ y, RA w Im ρ o a y → RA w Im ρ o b y
  | [], as, K, h => ⟨as, by simpa [castAs] using h, rfl, fun w Im ρ o i b hb => ⟨b, hb, fun y hy => hy⟩⟩
  | _ :: _, [], K, h => ⟨[], by simpa [castAs] using h, rfl, fun w Im ρ o i b hb => ⟨b, hb, fun y hy => hy⟩⟩
  | ct :: cts, a :: as, K, h => by
    simp only [castAs] at h
    obtain ⟨b, h, hw⟩ := castA_some h
    obtain ⟨bs, h, hl, hr⟩ := castAs_some h
    refine ⟨b :: bs, h, by simp [hl], fun w Im ρ o i b' hb' => ?_⟩
    cases i with
    | zero => simp at hb'; subst hb'; exact ⟨a, rfl, hw w Im ρ o⟩
    | succ i => simpa using hr w Im ρ o i b' (by simpa using hb')
theorem castC_det (ct : CellT) (c : CV) : (∀ K : CV → R, castC ct c K = none) ∨ ∃ d, ∀ K : CV → R, castC ct c K = K d := by
  unfold castC
  split
  · rename_i v
    rcases castCell_det (α := List SV × List (List CV)) ct v with h | ⟨u, h⟩
    · exact .inl fun K => h _
    · exact .inr ⟨_, fun K => h _⟩
  · exact .inr ⟨_, fun K => rfl⟩
theorem castA_det (ct : CT) (a : AV) : (∀ K : AV → R, castA ct a K = none) ∨ ∃ d, ∀ K : AV → R, castA ct a K = K d := by
  unfold castA
  split
  · rename_i ct c
    rcases castC_det ct c with h | ⟨u, h⟩
    · exact .inl fun K => h _
    · exact .inr ⟨_, fun K => h _⟩
  · rename_i cts v
    rcases castK_det (α := List SV × List (List CV)) (.agg cts) v with h | ⟨u, h⟩
    · exact .inl fun K => h _
    · exact .inr ⟨_, fun K => h _⟩
  · exact .inr ⟨_, fun K => rfl⟩
theorem castAs_det : ∀ (cts : List CT) (as : List AV), (∀ K : List AV → R, castAs cts as K = none) ∨ ∃ d, ∀ K : List AV → R, castAs cts as K = K d
  | [], as => .inr ⟨as, fun K => by simp [castAs]⟩
  | _ :: _, [] => .inr ⟨[], fun K => by simp [castAs]⟩
  | ct :: cts, a :: as => by
    simp only [castAs]
    rcases castA_det ct a with h | ⟨b, h⟩
    · exact .inl fun K => h _
    · rcases castAs_det cts as with h2 | ⟨bs, h2⟩
      · exact .inl fun K => (h _).trans (h2 _)
      · exact .inr ⟨b :: bs, fun K => (h _).trans (h2 _)⟩
theorem intsOf_some : ∀ {l : List PV} {zs : List Int}, intsOf l = some zs → l = zs.map (PV.int .i64)
  | [], zs, h => by simp only [intsOf] at h; injection h with h; subst h; rfl
  | x :: l, zs, h => by
    unfold intsOf at h
    split at h
    · rename_i hl; cases hl
    · rename_i n l' hl
      injection hl with h1 h2
      subst h1
      subst h2
      obtain ⟨zs', h3, rfl⟩ := Option.map_eq_some_iff.1 h
      rw [intsOf_some h3]
      rfl
    · cases h
theorem compI_le (zs : List Int) : (compI zs).length ≤ zs.length := by
  simp only [compI, Lib.compact, Lib.compactUpTo, List.length_map]
  exact Nat.le_trans (List.length_filter_le _ _) (by simp)
theorem sortRes_len (n : Nat) (zs : List Int) : (sortRes n zs).length = zs.length := by
  unfold sortRes
  split
  · simp [sortI]
  · have := compI_le zs
    simp
    omega
theorem RP_intv {k : IntKind} {n : Int} {y : Value} (h : RP w Im (.int k n) y) : y = .int k n := by cases h; rfl
theorem opSort_sound {n : Nat} {g : FuncId} (hS : SortOK P n g) (hs : SR w Im ρ o) {args : List AV} {ys : List Value} (hl : ys.length = args.length)
    (hargs : ∀ (i : Nat) (a : AV) (y : Value), args[i]? = some a → ys[i]? = some y → RA w Im ρ o a y) (h : opSort n args o K = some r) :
    Calls P g ys.toArray w fun e w' => ∃ v v' o' Im' ρ', e = .returned v ∧ K v' o' = some r ∧ Step w Im ρ o w' Im' ρ' o' ∧ RA w' Im' ρ' o' v' v := by
  unfold opSort at h
  split at h
  · rename_i id ver sh lo len
    obtain ⟨y, rfl⟩ : ∃ y, ys = [y] := by
      match ys, hl with
      | [y], _ => exact ⟨y, rfl⟩
    have hy := hargs 0 _ y rfl rfl
    split at h
    · rename_i e sh' ver' xs ho
      obtain ⟨hcnd, h1⟩ := bif_some h
      clear h
      obtain ⟨zs, hz, h⟩ := bind_some h1
      clear h1
      simp only [Bool.and_eq_true, beq_iff_eq, decide_eq_true_eq, Option.isNone_iff_eq_none] at hcnd
      obtain ⟨⟨⟨⟨⟨hkd, rfl⟩, rfl⟩, rfl⟩, rfl⟩, hlim⟩ := hcnd
      simp only [RA, RS, RC, ho] at hy
      obtain ⟨_, hy⟩ := hy
      obtain ⟨hle, v, hρ, hsl⟩ := hy trivial trivial
      have hid := (List.getElem?_eq_some_iff.1 ho).1
      have hz1 := intsOf_some hz
      have hzl : zs.length = len := by
        have := congrArg List.length hz1
        simp at this
        omega
      subst hzl
      have hfin : ∃ v' x', K v' (o.set id x') = some r ∧ x' = .arr e 0 ver false ((sortRes n zs).map (PV.int .i64) ++ xs.drop zs.length) ∧ ((n = 1 ∧ v' = .tup []) ∨ (n ≠ 1 ∧ v' = .s (.c (.loc id ver 0 0 (compI zs).length)))) := by
        cases hn : n == 1
        · have hn' : n ≠ 1 := by simpa using hn
          rw [hn] at h
          simp only [cond_false] at h
          refine ⟨_, _, h, ?_, .inr ⟨hn', rfl⟩⟩
          simp [sortRes, hn']
        · have hn' : n = 1 := by simpa using hn
          rw [hn] at h
          simp only [cond_true] at h
          exact ⟨_, _, h, by simp [sortRes, hn'], .inl ⟨hn', rfl⟩⟩
      obtain ⟨v', x', hk, hx', hv'⟩ := hfin
      obtain ⟨vals, hown, hshp, hrp, hbk, hkids⟩ := hs.ob id _ _ ho hρ
      have same : zs = [] → o.set id x' = o := by
        intro h0
        have : x' = .arr e 0 ver false xs := by rw [hx', h0]; unfold sortRes; split <;> simp [sortI, compI, Lib.compact, Lib.compactUpTo]
        rw [this]
        apply List.ext_getElem?
        intro i
        by_cases e1 : i = id
        · subst e1; rw [List.getElem?_set_self hid, ho]
        · rw [List.getElem?_set_ne (Ne.symm e1)]
      by_cases h0 : zs = []
      · have hy0 : ∃ p cap, y = .slice p 0 cap := by
          subst h0
          unfold RSl at hsl
          split at hsl
          · obtain ⟨off, h1, _⟩ := hsl; exact ⟨_, _, h1⟩
          · exact ⟨_, _, hsl.2.2⟩
          · exact hsl.elim
        obtain ⟨p, cap, rfl⟩ := hy0
        refine Calls.mono (hS.empty w p cap) ?_
        rintro e' w' ⟨rfl, rfl⟩
        rw [same h0] at hk
        refine ⟨_, v', o, Im, ρ, rfl, hk, Step.refl hs, ?_⟩
        rcases hv' with ⟨hn, rfl⟩ | ⟨hn, rfl⟩
        · rw [sortRet, if_pos hn]
          exact ⟨#[], rfl, rfl, fun i c y h => by simp at h⟩
        · rw [sortRet, if_neg hn]
          subst h0
          have e0 : (compI []).length = 0 := rfl
          simp only [RA, RS, RC, ho, e0]
          exact ⟨Nat.le_refl _, fun _ _ => ⟨by omega, v, hρ, hsl⟩⟩
      · have hpos : 0 < zs.length := Nat.pos_of_ne_zero fun h => h0 (List.eq_nil_of_length_eq_zero h)
        rcases hown.2 with ⟨hbad, _⟩ | ⟨b, cap, cu, hmv, _, hh, hnc, hcm, hcs, htk⟩
        · rw [hbad] at hsl
          simp only [RSl] at hsl
          omega
        rw [hmv] at hsl
        simp only [RSl] at hsl
        obtain ⟨off, rfl, _, hoff⟩ := hsl
        have hoff : off = 0 := by have := hoff (.inl trivial); omega
        subst hoff
        have c0 : csz 0 = 1 := rfl
        rw [c0, Nat.mul_one] at hcs htk
        have hbv : Blk v b := main_Blk (by rw [hmv]; rfl)
        have hniv : ∀ b, Blk v b → ¬ Im b := fun b hb => (hbk b hb).1 rfl
        have hvl : vals.length = xs.length := by have := hown.1; rw [c0] at this; omega
        have hvt : vals.take zs.length = zs.map (Value.int .i64) := by
          apply List.ext_getElem?
          intro i
          by_cases hi : i < zs.length
          · rw [List.getElem?_take_of_lt hi, List.getElem?_map, List.getElem?_eq_getElem hi, List.getElem?_eq_getElem (by omega)]
            have hx : xs[i]? = some (.int .i64 zs[i]) := by
              have := congrArg (fun l : List PV => l[i]?) hz1
              simp only [List.getElem?_take_of_lt hi, List.getElem?_map, List.getElem?_eq_getElem hi] at this
              exact this
            have h2 := hrp i _ 0 (.int .i64 zs[i]) vals[i] hx rfl (by rw [c0]; simp)
            simp only [RPk, hkd] at h2
            rw [RP_intv h2]
            simp
          · rw [List.getElem?_take_eq_none (by omega), List.getElem?_eq_none (by simp; omega)]
        have hct : cu.toList.take zs.length = zs.map (Value.int .i64) := by
          rw [← hvt, ← htk, List.take_take, Nat.min_eq_left (by omega)]
        refine Calls.mono (hS.row w b cap zs cu _ hh hct (by omega) hlim) ?_
        rintro e' w' ⟨rfl, hwd, hoth, cu', hh', hcs', hcl'⟩
        have hrl := sortRes_len n zs
        have hidρ : upd ρ id (some v) = ρ := by
          funext i
          by_cases e1 : i = id
          · rw [e1, upd_same, hρ]
          · rw [upd_ne e1]
        have hxl : ((sortRes n zs).map (PV.int .i64) ++ xs.drop zs.length).length = xs.length := by simp [hrl]; omega
        have hcomp : Compat ρ (upd ρ id (some v)) o (o.set id x') := by
          intro q a hq
          by_cases e1 : q = id
          · subst e1
            rw [ho] at hq
            injection hq with hq
            subst hq
            exact ⟨_, by rw [List.getElem?_set_self hid], by rw [hidρ, hx']; exact Or.inr ⟨rfl, rfl, Nat.le_of_eq hxl.symm, rfl, KdC_refl' _ rfl⟩⟩
          · exact ⟨a, by rw [List.getElem?_set_ne (Ne.symm e1)]; exact hq, by rw [hidρ]; cases a <;> simp [CompatO]⟩
        have him : ∀ k, Im k → Im k ∧ w'.heap[k]? = w.heap[k]? := fun k hk => ⟨hk, hoth k (hs.im k hk) (fun e => hniv b hbv (e ▸ hk))⟩
        have hst := Step.turn (w' := w') (x' := x') (v' := v) hs hwd ho hρ (by rw [hx']; simp) (by rw [hx']; exact Or.inr ⟨rfl, rfl, Nat.le_of_eq hxl.symm, rfl, KdC_refl' _ rfl⟩)
          (fun k hk hne => hoth k hk (fun e => hne (by rw [e]; exact hbv))) hniv (fun b hb => .inl hb) (fun k hk => Nat.lt_of_lt_of_le ((hs.lt id v hρ).2 k hk) hwd.size) ?_
        · refine ⟨_, v', o.set id x', Im, _, rfl, hk, hst, ?_⟩
          rcases hv' with ⟨hn, rfl⟩ | ⟨hn, rfl⟩
          · rw [sortRet, if_pos hn]
            exact ⟨#[], rfl, rfl, fun i c y h => by simp at h⟩
          · rw [sortRet, if_neg hn]
            have hcl := compI_le zs
            simp only [RA, RS, RC, List.getElem?_set_self hid, hx']
            refine ⟨Nat.le_refl _, fun _ _ => ⟨by rw [hxl]; omega, v, upd_same, ?_⟩⟩
            rw [hmv]
            exact ⟨0, rfl, Nat.zero_le _, fun _ => by simp⟩
        · rw [hx']
          refine ⟨(sortRes n zs).map (Value.int .i64) ++ vals.drop zs.length, ⟨?_, .inr ⟨b, cap, cu', by rw [hmv, hxl], Nat.zero_le _, hh', by rw [hxl]; exact hnc, hcm, ?_, ?_⟩⟩, ?_, ?_, ?_, ?_⟩
          · rw [hxl, c0]; simp [hrl]; omega
          · rw [hcs', hcs, c0]; omega
          · rw [hxl, c0, Nat.mul_one, hcl', ← htk, List.take_append, List.drop_take]
            simp only [List.length_map, hrl]
            rw [List.take_of_length_le (by simp [hrl]; omega)]
          · intro q hq
            rcases List.mem_append.1 hq with h1 | h1
            · obtain ⟨z, _, rfl⟩ := List.mem_map.1 h1; rfl
            · exact hshp q (List.mem_of_mem_drop h1)
          · intro i x j c u hx hj hu
            rw [c0, Nat.mul_one] at hu
            by_cases hi : i < zs.length
            · rw [List.getElem?_append_left (by simp [hrl]; omega)] at hx
              obtain ⟨z, hz2, rfl⟩ := by simpa only [List.getElem?_map, Option.map_eq_some_iff] using hx
              have hj0 : j = 0 ∧ c = .int .i64 z := by
                cases j with
                | zero => simp [PV.cells] at hj; exact ⟨rfl, hj.symm⟩
                | succ j => simp [PV.cells] at hj
              obtain ⟨rfl, rfl⟩ := hj0
              rw [Nat.add_zero, List.getElem?_append_left (by simp [hrl]; omega), List.getElem?_map, hz2] at hu
              injection hu with hu
              subst hu
              simp only [RPk, hkd]
              exact .int _ _
            · rw [List.getElem?_append_right (by simp [hrl]; omega), List.length_map, hrl, List.getElem?_drop, Nat.add_sub_cancel' (by omega)] at hx
              have hjl : j < csz 0 := by rw [← PV.shp_len (hshp x (List.mem_of_getElem? hx))]; exact (List.getElem?_eq_some_iff.1 hj).1
              have hj0 : j = 0 := by omega
              subst hj0
              rw [Nat.add_zero, List.getElem?_append_right (by simp [hrl]; omega), List.length_map, hrl, List.getElem?_drop, Nat.add_sub_cancel' (by omega)] at hu
              exact (hrp i x 0 c u hx hj (by rw [c0, Nat.mul_one]; exact hu)).keep him
          · intro k hk
            exact ⟨fun _ => hniv k hk, fun hf => nomatch hf⟩
          · simp only [RKids, hkd] at hkids ⊢
            exact fun _ => hkids trivial
    · cases h
  · cases h
theorem callOp_sound {C : Ctx} (hE : EnvOK P C.E) (hC : ∀ g args bs r, C.call g args bs = some r → Contract P g args bs r) (hs : SR w Im ρ o) {f : AV} {x : Value} {args : List AV} {ys : List Value} (hf : RA w Im ρ o f x) (hl : ys.length = args.length)
    (hargs : ∀ (i : Nat) (a : AV) (y : Value), args[i]? = some a → ys[i]? = some y → RA w Im ρ o a y) (h : callOp C f args ⟨t, o⟩ K = some r) :
    ∃ g vs, x = .func (.func g) #[] vs ∧ Enters P g ∧ Calls P g (ys ++ vs.toList).toArray w fun e w' => ∃ v v' o' Im' ρ', e = .returned v ∧ K v' o' = some r ∧ Step w Im ρ o w' Im' ρ' o' ∧ RA w' Im' ρ' o' v' v := by
  unfold callOp at h
  split at h
  · rename_i g caps hc
    rw [cv_some hc] at hf
    obtain ⟨vs, rfl, hvl, hvr⟩ := hf
    refine ⟨g, vs, rfl, ?_⟩
    cases hsr : (C.E.sorts g != 0)
    rotate_left
    · rw [hsr] at h
      simp only [cond_true] at h
      obtain ⟨hcp, h⟩ := bif_some h
      have hS := hE.srt g _ rfl (by simpa using hsr)
      have hv0 : vs.toList = [] := by
        have : caps = [] := by simpa using hcp
        rw [this] at hvl
        simpa using hvl
      rw [hv0, List.append_nil]
      exact ⟨hS.enters, opSort_sound hS hs hl hargs h⟩
    rw [hsr] at h
    simp only [cond_false] at h
    obtain ⟨A, hA⟩ : ∃ A, A = args ++ caps.map fun i => (.s (.c (.bptr i 0)) : AV) := ⟨_, rfl⟩
    obtain ⟨Y, hY⟩ : ∃ Y, Y = ys ++ vs.toList := ⟨_, rfl⟩
    simp only [← hA] at h
    rw [← hY]
    have hYl : Y.length = A.length := by rw [hY, hA]; simp [hl, hvl]
    have hAY : ∀ (i : Nat) (a : AV) (y : Value), A[i]? = some a → Y[i]? = some y → RA w Im ρ o a y := by
      intro i a y ha hy
      rw [hA] at ha
      rw [hY] at hy
      rcases Nat.lt_or_ge i args.length with hi | hi
      · rw [List.getElem?_append_left hi] at ha
        rw [List.getElem?_append_left (by omega)] at hy
        exact hargs i a y ha hy
      · rw [List.getElem?_append_right hi] at ha
        rw [List.getElem?_append_right (by omega), hl] at hy
        simp only [List.getElem?_map, Option.map_eq_some_iff] at ha
        obtain ⟨id, hid, rfl⟩ := ha
        obtain ⟨y', hy', hb⟩ := hvr _ id hid
        rw [Array.getElem?_toList, hy'] at hy
        injection hy with hy
        subst hy
        exact hb
    clear hA hY hargs hl hvr hvl hc
    have hmemc : ∀ a ∈ A, ∃ y, RA w Im ρ o a y := by
      intro a ha
      obtain ⟨i, hi, rfl⟩ := List.getElem_of_mem ha
      have hi' : i < Y.length := by omega
      exact ⟨Y[i], hAY i _ _ (by simp [hi]) (by simp [hi'])⟩
    obtain ⟨roots, hroots⟩ : ∃ l, l = adds [] ((A.flatMap cellsOfA).flatMap ptrsC) := ⟨_, rfl⟩
    rw [← hroots] at h
    have hptr : ∀ id ∈ roots, ∀ c0, o[id]? = some (.box c0) → ∃ b, ρ id = some (.pointer (some ⟨b, 0, none⟩)) := by
      intro id hid c0 ho
      rw [hroots, mem_adds] at hid
      simp only [List.not_mem_nil, false_or, List.mem_flatMap] at hid
      obtain ⟨c, ⟨a, ha, hca⟩, hid⟩ := hid
      obtain ⟨y, hy⟩ := hmemc a ha
      obtain ⟨z, hz⟩ := cells_of_RA hy c hca
      exact ptr_of_RC hz hid ho
    have hnd : roots.Nodup := by rw [hroots]; exact nodup_adds List.nodup_nil
    obtain ⟨dss, o1, Im1, ρ1, vss, h, hst1, hbx, hl1, hl2, hl3, hT, hO, hbox⟩ := outBs_sound hs Toks.nil hptr h
    simp only [List.nil_append] at hT hO
    obtain ⟨lent, hlent⟩ : ∃ l, l = adds [] ((A.flatMap cellsOfA).flatMap (locsC o1)) := ⟨_, rfl⟩
    rw [← hlent] at h
    obtain ⟨as, h, hal, har⟩ := castAs_some h
    obtain ⟨q, hq, h⟩ := bind_some h
    have hcon := hC _ _ _ _ hq
    refine ⟨hcon.1, ?_⟩
    obtain ⟨ImL, hstL, hbL⟩ := freezeAll_sound (is := lent) hst1.sr
    obtain ⟨bl, hbl⟩ : ∃ bl, bl = roots.map fun id => (match ρ id with | some (.pointer (some a)) => a.block | _ => 0) := ⟨_, rfl⟩
    have hblr : ∀ (j id : Nat), roots[j]? = some id → ∃ b c0, bl[j]? = some b ∧ ρ1 id = some (.pointer (some ⟨b, 0, none⟩)) ∧ o1[id]? = some (.box c0) ∧ ρ id = some (.pointer (some ⟨b, 0, none⟩)) := by
      intro j id hj
      obtain ⟨b, vs', ds, c0, h1, h2, h3, h4, h5, h6⟩ := hbox j id hj
      have h7 := (hbx id c0).1 h6
      exact ⟨b, c0, by rw [hbl]; simp [hj, h1], h7.2.trans h1, h7.1, h1⟩
    have hbll : bl.length = roots.length := by rw [hbl]; simp
    have hbr : ∀ b ∈ bl, ∃ (j id : Nat), bl[j]? = some b ∧ roots[j]? = some id := by
      intro b hb
      obtain ⟨j, hj, rfl⟩ := List.getElem_of_mem hb
      have hj' : j < roots.length := by omega
      exact ⟨j, roots[j], by simp [hj], by simp [hj']⟩
    have hptr1 : ∀ (j b : Nat), bl[j]? = some b → ∃ id c0, roots[j]? = some id ∧ ρ1 id = some (.pointer (some ⟨b, 0, none⟩)) ∧ o1[id]? = some (.box c0) ∧ ρ id = some (.pointer (some ⟨b, 0, none⟩)) := by
      intro j b hj
      have hjl : j < roots.length := by rw [← hbll]; exact (List.getElem?_eq_some_iff.1 hj).1
      obtain ⟨b', c0, h1, h2, h3, h4⟩ := hblr j roots[j] (by simp [hjl])
      rw [hj] at h1
      injection h1 with h1
      subst h1
      exact ⟨roots[j], c0, by simp [hjl], h2, h3, h4⟩
    have hTL := hT.step hstL
    have hOw1 : ∀ b ∈ bl, Ow ρ1 b := by
      intro b hb
      obtain ⟨j, hj⟩ := List.getElem?_of_mem hb
      obtain ⟨id, c0, _, h2, _⟩ := hptr1 j b hj
      exact ⟨id, _, h2, rfl⟩
    have pre : Pre w ImL bl dss vss as Y := by
      refine ⟨hstL.sr.im, ?_, by omega, ?_, ?_, hTL.mono hOw1, by rw [hal]; simpa using hYl, ?_⟩
      · intro i j b hi hj
        obtain ⟨id, _, h1, h2, _⟩ := hptr1 i b hi
        obtain ⟨id', _, h3, h4, _⟩ := hptr1 j b hj
        have := hst1.sr.inj id id' _ _ b h2 h4 rfl rfl
        subst this
        have hi' := (List.getElem?_eq_some_iff.1 h1)
        have hj' := (List.getElem?_eq_some_iff.1 h3)
        exact (List.getElem_inj hnd).1 (hi'.2.trans hj'.2.symm)
      · apply List.ext_getElem?
        intro j
        rw [List.getElem?_map, List.getElem?_map]
        rcases Nat.lt_or_ge j roots.length with hj | hj
        · obtain ⟨b, vs', ds, c0, h1, h2, h3, h4, h5, h6⟩ := hbox j roots[j] (by simp [hj])
          rw [h3, h4]
          simp [h5]
        · rw [List.getElem?_eq_none (by omega), List.getElem?_eq_none (by omega)]
          rfl
      · intro j b vs' hj hv
        obtain ⟨id, c0, h1, h2, h3, h4⟩ := hptr1 j b hj
        obtain ⟨b2, vs2, ds, c2, h5, h6, h7, _⟩ := hbox j id h1
        rw [h4] at h5
        injection h5 with h5
        injection h5 with h5
        injection h5 with h5
        injection h5 with h5
        subst h5
        rw [hv] at h7
        injection h7 with h7
        subst h7
        obtain ⟨b3, _, _, hb3, _, _, _, _, hI⟩ := hstL.sr.ob id _ _ ((freezeAll_box c0).1 h3) h2
        obtain rfl : b = b3 := by simpa using hb3
        exact ⟨h6, hI⟩
      · intro i a0 y ha0 hy
        obtain ⟨a, ha, hweak⟩ := har w ImL (Ptrs bl) (blanks bl.length) i a0 ha0
        refine hweak y ?_
        simp only [List.getElem?_map, Option.map_eq_some_iff] at ha
        obtain ⟨a', ha', rfl⟩ := ha
        refine lendA_sound (lent := lent) hst1.sr (fun b h => (hstL.im b h).1) (hst1.keepA _ _ (hAY i a' y ha' hy)) ?_ (fun j id hj => ?_) (fun j id hj => ?_)
        · intro c hc id hid e sh ver fz xs ho hk v b hv hb
          refine hbL id ?_ e sh ver fz xs ho hk v b hv hb
          rw [hlent, mem_adds]
          right
          simp only [List.mem_flatMap]
          exact ⟨c, ⟨a', List.mem_of_getElem? ha', hc⟩, hid⟩
        · obtain ⟨b, c0, _, _, h3, _⟩ := hblr j id hj
          exact ⟨c0, h3⟩
        · obtain ⟨b, c0, h1, h2, _, _⟩ := hblr j id hj
          exact ⟨b, h1, h2⟩
    refine Calls.mono (hcon.2 w ImL bl vss Y pre) ?_
    rintro e w' ⟨v, Im', vss', zs, rfl, post⟩
    have hown : ∀ b, DD bl dss.flatten vss.flatten b → Ow ρ b := by
      rintro b (hb | hb)
      · obtain ⟨j, hj⟩ := List.getElem?_of_mem hb
        obtain ⟨id, c0, _, _, _, h4⟩ := hptr1 j b hj
        exact ⟨id, _, h4, rfl⟩
      · rcases hO b hb with ⟨i, _, _, _, _, h1, _⟩ | h1
        · simp at h1
        · exact h1
    have hnow : ∀ b, OBs dss.flatten vss.flatten b → ¬ Ow ρ1 b := fun b ⟨i, hb⟩ => hT.out i b hb
    have fin : ∀ {ImA ImR : Nat → Prop} {oA : List AObj} {ks : List (List Kind)}, Step w Im ρ o w ImA ρ1 oA → (∀ (id : Nat) (c0 : List CV), o1[id]? = some (AObj.box c0) → oA[id]? = some (AObj.box c0)) → dss.map List.length = ks.map List.length → (∀ b, ImA b → ImR b ∧ w'.heap[b]? = w.heap[b]?) →
        (∀ b, ImR b → (ImA b ∨ w.heap.size ≤ b ∨ DD bl dss.flatten vss.flatten b) ∧ b < w'.heap.size) → (∀ (j b : Nat) (vs : List Value), bl[j]? = some b → vss'[j]? = some vs → BoxAt w' b vs ∧ ¬ ImR b) →
        Toks w' ImR (q.2.flatten ++ q.1.flatMap cellsOfS) (vss'.flatten ++ zs) (· ∈ bl) →
        (bif lensB q.2 ks && lensS q.1 (C.E.rk g) then inBs q.2 ks roots 0 oA fun o3 => inSs q.1 (C.E.rk g) 0 o3 fun vs o4 => K (packS vs) o4 else none) = some r →
        ∃ v1 v' o' Im' ρ', Ending.returned v = .returned v1 ∧ K v' o' = some r ∧ Step w Im ρ o w' Im' ρ' o' ∧ RA w' Im' ρ' o' v' v1 := by
      intro ImA ImR oA ks hst hbo hks him himn hbox' htok h
      obtain ⟨hcnd, h⟩ := bif_some h
      simp only [lensB, lensS, Bool.and_eq_true, beq_iff_eq] at hcnd
      have hkl : roots.length = ks.length := by have := congrArg List.length hks; simp at this; omega
      obtain ⟨v', o', ρ', hk, hst', hra⟩ := afterCall hst hown hnow (fun j id hj => by
          obtain ⟨b, c0, h1, h2, h3, _⟩ := hblr j id hj
          exact ⟨b, c0, h1, h2, hbo id c0 h3⟩) hbr post.wd post.fr him himn post.l2 hbox' htok post.ow post.ret hcnd.1 hkl hcnd.2 h
      exact ⟨v, v', o', ImR, ρ', rfl, hk, hst', hra⟩
    unfold afterLend at h
    split at h
    · exact fin (hst1.trans hstL) (fun id c0 hh => (freezeAll_box c0).1 hh) hl3 post.im post.imn post.box post.tok h
    · cases hpl : C.E.plain g <;> rw [hpl] at h <;> simp only [cond_true, cond_false] at h
      · exact fin (hst1.trans hstL) (fun id c0 hh => (freezeAll_box c0).1 hh) hl3 post.im post.imn post.box post.tok h
      · obtain ⟨hpp, h⟩ := bif_some h
        simp only [Bool.and_eq_true, List.all_eq_true] at hpp
        have hi : ∀ b, Im1 b → Im' b := fun b hb => (post.im b (hstL.im b hb).1).1
        refine fin hst1 (fun id c0 hh => hh) hl3 (fun b hb => ⟨hb, (post.im b (hstL.im b hb).1).2⟩) (fun b hb => ⟨.inl hb, (post.imn b (hi b hb)).2⟩) (fun j b vs h1 h2 => ⟨(post.box j b vs h1 h2).1, fun hb => (post.box j b vs h1 h2).2 (hi b hb)⟩) (post.tok.plain hi ?_) h
        intro c hc
        rcases List.mem_append.1 hc with hc | hc
        · obtain ⟨cs, h1, h2⟩ := List.mem_flatten.1 hc
          exact hpp.2 cs h1 c h2
        · obtain ⟨s, h1, h2⟩ := List.mem_flatMap.1 hc
          have := hpp.1 s h1
          cases s with
          | c v => simp [cellsOfS] at h2; subst h2; exact this
          | agg cs => exact List.all_eq_true.1 this c h2
  · cases h
end
end Go.Dp
