/- A call in the code. -/
import Derived.Test.YtnliglgellapdaaDp14
set_option linter.unusedVariables false
set_option linter.unusedSimpArgs false
namespace Go.Dp
section
variable {P : Program} {E : Env} {w w' : World} {Im Im' : Nat → Prop} {ρ ρ' : Nat → Option Value} {o o' : List AObj} {K : Kt} {r : List SV × List (List CV)} {t : List AV}

theorem locsC_arr {c : CV} {id : Nat} (h : id ∈ locsC o c) : ∃ e sh ver xs, o[id]? = some (AObj.arr e sh ver false xs) := by
  cases c <;> simp only [locsC] at h <;> first | (simp at h; done) | skip
  split at h
  · rename_i e sh ver' xs ho
    cases hb : (_ : Nat) == ver' <;> rw [hb] at h
    · simp at h
    · simp at h
      subst h
      exact ⟨e, sh, ver', xs, ho⟩
  · simp at h
theorem castC_some {ct : CellT} {c : CV} {K : CV → R} (h : castC ct c K = some r) : ∃ d, K d = some r ∧ ∀ (w : World) (Im : Nat → Prop) (ρ : Nat → Option Value) (o : List AObj) (y : Value), RC w Im ρ o c y → RC w Im ρ o d y := by
  unfold castC at h
  split at h
  · obtain ⟨u, h, hw⟩ := castCell_some h
    exact ⟨_, h, fun w Im ρ o y hy => hw.2 w Im y hy⟩
  · exact ⟨_, h, fun w Im ρ o y hy => hy⟩
theorem castA_some {ct : CT} {a : AV} {K : AV → R} (h : castA ct a K = some r) : ∃ b, K b = some r ∧ ∀ (w : World) (Im : Nat → Prop) (ρ : Nat → Option Value) (o : List AObj) (y : Value), RA w Im ρ o a y → RA w Im ρ o b y := by
  unfold castA at h
  split at h
  · obtain ⟨d, h, hw⟩ := castC_some h
    exact ⟨_, h, fun w Im ρ o y hy => hw w Im ρ o y hy⟩
  · obtain ⟨u, h, hw⟩ := castK_some h
    exact ⟨_, h, fun w Im ρ o y hy => hw.2 w Im y hy⟩
  · exact ⟨_, h, fun w Im ρ o y hy => hy⟩
theorem castAs_some : ∀ {cts : List CT} {as : List AV} {K : List AV → R}, castAs cts as K = some r → ∃ bs, K bs = some r ∧ bs.length = as.length ∧ ∀ (w : World) (Im : Nat → Prop) (ρ : Nat → Option Value) (o : List AObj) (i : Nat) (b : AV), bs[i]? = some b → ∃ a, as[i]? = some a ∧ ∀ y, RA w Im ρ o a y → RA w Im ρ o b y
  | [], as, K, h => ⟨as, by simpa [castAs] using h, rfl, fun w Im ρ o i b hb => ⟨b, hb, fun y hy => hy⟩⟩
  | _ :: _, [], K, h => ⟨[], by simpa [castAs] using h, rfl, fun w Im ρ o i b hb => ⟨b, hb, fun y hy => hy⟩⟩
  | ct :: cts, a :: as, K, h => by
    simp only [castAs] at h
    obtain ⟨b, h, hw⟩ := castA_some h
    obtain ⟨bs, h, hl, hr⟩ := castAs_some h
    refine ⟨b :: bs, h, by simp [hl], fun w Im ρ o i b' hb' => ?_⟩
    cases i with
    | zero => simp at hb'; subst hb'; exact ⟨a, rfl, hw w Im ρ o⟩
    | succ i => simpa using hr w Im ρ o i b' (by simpa using hb')
theorem castC_det (ct : CellT) (c : CV) : (∀ K : CV → R, castC ct c K = none) ∨ ∃ d, ∀ K : CV → R, castC ct c K = K d := by
  unfold castC
  split
  · rename_i v
    rcases castCell_det (α := List SV × List (List CV)) ct v with h | ⟨u, h⟩
    · exact .inl fun K => h _
    · exact .inr ⟨_, fun K => h _⟩
  · exact .inr ⟨_, fun K => rfl⟩
theorem castA_det (ct : CT) (a : AV) : (∀ K : AV → R, castA ct a K = none) ∨ ∃ d, ∀ K : AV → R, castA ct a K = K d := by
  unfold castA
  split
  · rename_i ct c
    rcases castC_det ct c with h | ⟨u, h⟩
    · exact .inl fun K => h _
    · exact .inr ⟨_, fun K => h _⟩
  · rename_i cts v
    rcases castK_det (α := List SV × List (List CV)) (.agg cts) v with h | ⟨u, h⟩
    · exact .inl fun K => h _
    · exact .inr ⟨_, fun K => h _⟩
  · exact .inr ⟨_, fun K => rfl⟩
theorem castAs_det : ∀ (cts : List CT) (as : List AV), (∀ K : List AV → R, castAs cts as K = none) ∨ ∃ d, ∀ K : List AV → R, castAs cts as K = K d
  | [], as => .inr ⟨as, fun K => by simp [castAs]⟩
  | _ :: _, [] => .inr ⟨[], fun K => by simp [castAs]⟩
  | ct :: cts, a :: as => by
    simp only [castAs]
    rcases castA_det ct a with h | ⟨b, h⟩
    · exact .inl fun K => h _
    · rcases castAs_det cts as with h2 | ⟨bs, h2⟩
      · exact .inl fun K => (h _).trans (h2 _)
      · exact .inr ⟨b :: bs, fun K => (h _).trans (h2 _)⟩
theorem callOp_sound {C : Ctx} (hC : ∀ g args bs r, C.call g args bs = some r → Contract P g args bs r) (hs : SR w Im ρ o) {f : AV} {x : Value} {args : List AV} {ys : List Value} (hf : RA w Im ρ o f x) (hl : ys.length = args.length)
    (hargs : ∀ (i : Nat) (a : AV) (y : Value), args[i]? = some a → ys[i]? = some y → RA w Im ρ o a y) (h : callOp C f args ⟨t, o⟩ K = some r) :
    ∃ g vs, x = .func (.func g) #[] vs ∧ Enters P g ∧ Calls P g (ys ++ vs.toList).toArray w fun e w' => ∃ v v' o' Im' ρ', e = .returned v ∧ K v' o' = some r ∧ Step w Im ρ o w' Im' ρ' o' ∧ RA w' Im' ρ' o' v' v := by
  unfold callOp at h
  split at h
  · rename_i g caps hc
    rw [cv_some hc] at hf
    obtain ⟨vs, rfl, hvl, hvr⟩ := hf
    refine ⟨g, vs, rfl, ?_⟩
    obtain ⟨A, hA⟩ : ∃ A, A = args ++ caps.map fun i => (.s (.c (.bptr i 0)) : AV) := ⟨_, rfl⟩
    obtain ⟨Y, hY⟩ : ∃ Y, Y = ys ++ vs.toList := ⟨_, rfl⟩
    simp only [← hA] at h
    rw [← hY]
    have hYl : Y.length = A.length := by rw [hY, hA]; simp [hl, hvl]
    have hAY : ∀ (i : Nat) (a : AV) (y : Value), A[i]? = some a → Y[i]? = some y → RA w Im ρ o a y := by
      intro i a y ha hy
      rw [hA] at ha
      rw [hY] at hy
      rcases Nat.lt_or_ge i args.length with hi | hi
      · rw [List.getElem?_append_left hi] at ha
        rw [List.getElem?_append_left (by omega)] at hy
        exact hargs i a y ha hy
      · rw [List.getElem?_append_right hi] at ha
        rw [List.getElem?_append_right (by omega), hl] at hy
        simp only [List.getElem?_map, Option.map_eq_some_iff] at ha
        obtain ⟨id, hid, rfl⟩ := ha
        obtain ⟨y', hy', hb⟩ := hvr _ id hid
        rw [Array.getElem?_toList, hy'] at hy
        injection hy with hy
        subst hy
        exact hb
    clear hA hY hargs hl hvr hvl hc
    have hmemc : ∀ a ∈ A, ∃ y, RA w Im ρ o a y := by
      intro a ha
      obtain ⟨i, hi, rfl⟩ := List.getElem_of_mem ha
      have hi' : i < Y.length := by omega
      exact ⟨Y[i], hAY i _ _ (by simp [hi]) (by simp [hi'])⟩
    obtain ⟨roots, hroots⟩ : ∃ l, l = adds [] ((A.flatMap cellsOfA).flatMap ptrsC) := ⟨_, rfl⟩
    rw [← hroots] at h
    have hptr : ∀ id ∈ roots, ∀ c0, o[id]? = some (.box c0) → ∃ b, ρ id = some (.pointer (some ⟨b, 0, none⟩)) := by
      intro id hid c0 ho
      rw [hroots, mem_adds] at hid
      simp only [List.not_mem_nil, false_or, List.mem_flatMap] at hid
      obtain ⟨c, ⟨a, ha, hca⟩, hid⟩ := hid
      obtain ⟨y, hy⟩ := hmemc a ha
      obtain ⟨z, hz⟩ := cells_of_RA hy c hca
      exact ptr_of_RC hz hid ho
    have hnd : roots.Nodup := by rw [hroots]; exact nodup_adds List.nodup_nil
    obtain ⟨dss, o1, Im1, ρ1, vss, h, hst1, hbx, hl1, hl2, hl3, hT, hO, hbox⟩ := outBs_sound hs Toks.nil hptr h
    simp only [List.nil_append] at hT hO
    obtain ⟨lent, hlent⟩ : ∃ l, l = adds [] ((A.flatMap cellsOfA).flatMap (locsC o1)) := ⟨_, rfl⟩
    rw [← hlent] at h
    obtain ⟨as, h, hal, har⟩ := castAs_some h
    obtain ⟨q, hq, h⟩ := bind_some h
    have hcon := hC _ _ _ _ hq
    refine ⟨hcon.1, ?_⟩
    obtain ⟨ImL, hstL, hbL⟩ := freezeAll_sound (is := lent) hst1.sr
    obtain ⟨bl, hbl⟩ : ∃ bl, bl = roots.map fun id => (match ρ id with | some (.pointer (some a)) => a.block | _ => 0) := ⟨_, rfl⟩
    have hblr : ∀ (j id : Nat), roots[j]? = some id → ∃ b c0, bl[j]? = some b ∧ ρ1 id = some (.pointer (some ⟨b, 0, none⟩)) ∧ o1[id]? = some (.box c0) ∧ ρ id = some (.pointer (some ⟨b, 0, none⟩)) := by
      intro j id hj
      obtain ⟨b, vs', ds, c0, h1, h2, h3, h4, h5, h6⟩ := hbox j id hj
      have h7 := (hbx id c0).1 h6
      exact ⟨b, c0, by rw [hbl]; simp [hj, h1], h7.2.trans h1, h7.1, h1⟩
    have hbll : bl.length = roots.length := by rw [hbl]; simp
    have hbr : ∀ b ∈ bl, ∃ (j id : Nat), bl[j]? = some b ∧ roots[j]? = some id := by
      intro b hb
      obtain ⟨j, hj, rfl⟩ := List.getElem_of_mem hb
      have hj' : j < roots.length := by omega
      exact ⟨j, roots[j], by simp [hj], by simp [hj']⟩
    have hptr1 : ∀ (j b : Nat), bl[j]? = some b → ∃ id c0, roots[j]? = some id ∧ ρ1 id = some (.pointer (some ⟨b, 0, none⟩)) ∧ o1[id]? = some (.box c0) ∧ ρ id = some (.pointer (some ⟨b, 0, none⟩)) := by
      intro j b hj
      have hjl : j < roots.length := by rw [← hbll]; exact (List.getElem?_eq_some_iff.1 hj).1
      obtain ⟨b', c0, h1, h2, h3, h4⟩ := hblr j roots[j] (by simp [hjl])
      rw [hj] at h1
      injection h1 with h1
      subst h1
      exact ⟨roots[j], c0, by simp [hjl], h2, h3, h4⟩
    have hTL := hT.step hstL
    have hOw1 : ∀ b ∈ bl, Ow ρ1 b := by
      intro b hb
      obtain ⟨j, hj⟩ := List.getElem?_of_mem hb
      obtain ⟨id, c0, _, h2, _⟩ := hptr1 j b hj
      exact ⟨id, _, h2, rfl⟩
    have pre : Pre w ImL bl dss vss as Y := by
      refine ⟨hstL.sr.im, ?_, by omega, ?_, ?_, hTL.mono hOw1, by rw [hal]; simpa using hYl, ?_⟩
      · intro i j b hi hj
        obtain ⟨id, _, h1, h2, _⟩ := hptr1 i b hi
        obtain ⟨id', _, h3, h4, _⟩ := hptr1 j b hj
        have := hst1.sr.inj id id' _ _ b h2 h4 rfl rfl
        subst this
        have hi' := (List.getElem?_eq_some_iff.1 h1)
        have hj' := (List.getElem?_eq_some_iff.1 h3)
        exact (List.getElem_inj hnd).1 (hi'.2.trans hj'.2.symm)
      · apply List.ext_getElem?
        intro j
        rw [List.getElem?_map, List.getElem?_map]
        rcases Nat.lt_or_ge j roots.length with hj | hj
        · obtain ⟨b, vs', ds, c0, h1, h2, h3, h4, h5, h6⟩ := hbox j roots[j] (by simp [hj])
          rw [h3, h4]
          simp [h5]
        · rw [List.getElem?_eq_none (by omega), List.getElem?_eq_none (by omega)]
          rfl
      · intro j b vs' hj hv
        obtain ⟨id, c0, h1, h2, h3, h4⟩ := hptr1 j b hj
        obtain ⟨b2, vs2, ds, c2, h5, h6, h7, _⟩ := hbox j id h1
        rw [h4] at h5
        injection h5 with h5
        injection h5 with h5
        injection h5 with h5
        injection h5 with h5
        subst h5
        rw [hv] at h7
        injection h7 with h7
        subst h7
        obtain ⟨b3, _, _, hb3, _, _, _, _, hI⟩ := hstL.sr.ob id _ _ ((freezeAll_box c0).1 h3) h2
        obtain rfl : b = b3 := by simpa using hb3
        exact ⟨h6, hI⟩
      · intro i a0 y ha0 hy
        obtain ⟨a, ha, hweak⟩ := har w ImL (Ptrs bl) (blanks bl.length) i a0 ha0
        refine hweak y ?_
        simp only [List.getElem?_map, Option.map_eq_some_iff] at ha
        obtain ⟨a', ha', rfl⟩ := ha
        refine lendA_sound (lent := lent) hst1.sr (fun b h => (hstL.im b h).1) (hst1.keepA _ _ (hAY i a' y ha' hy)) ?_ (fun j id hj => ?_) (fun j id hj => ?_)
        · intro c hc id hid e sh ver fz xs ho hk v b hv hb
          refine hbL id ?_ e sh ver fz xs ho hk v b hv hb
          rw [hlent, mem_adds]
          right
          simp only [List.mem_flatMap]
          exact ⟨c, ⟨a', List.mem_of_getElem? ha', hc⟩, hid⟩
        · obtain ⟨b, c0, _, _, h3, _⟩ := hblr j id hj
          exact ⟨c0, h3⟩
        · obtain ⟨b, c0, h1, h2, _, _⟩ := hblr j id hj
          exact ⟨b, h1, h2⟩
    refine Calls.mono (hcon.2 w ImL bl vss Y pre) ?_
    rintro e w' ⟨v, Im', vss', zs, rfl, post⟩
    have hown : ∀ b, DD bl dss.flatten vss.flatten b → Ow ρ b := by
      rintro b (hb | hb)
      · obtain ⟨j, hj⟩ := List.getElem?_of_mem hb
        obtain ⟨id, c0, _, _, _, h4⟩ := hptr1 j b hj
        exact ⟨id, _, h4, rfl⟩
      · rcases hO b hb with ⟨i, _, _, _, _, h1, _⟩ | h1
        · simp at h1
        · exact h1
    have hnow : ∀ b, OBs dss.flatten vss.flatten b → ¬ Ow ρ1 b := fun b ⟨i, hb⟩ => hT.out i b hb
    have fin : ∀ {ImA ImR : Nat → Prop} {oA : List AObj} {ks : List (List Kind)}, Step w Im ρ o w ImA ρ1 oA → (∀ (id : Nat) (c0 : List CV), o1[id]? = some (AObj.box c0) → oA[id]? = some (AObj.box c0)) → dss.map List.length = ks.map List.length → (∀ b, ImA b → ImR b ∧ w'.heap[b]? = w.heap[b]?) →
        (∀ b, ImR b → (ImA b ∨ w.heap.size ≤ b ∨ DD bl dss.flatten vss.flatten b) ∧ b < w'.heap.size) → (∀ (j b : Nat) (vs : List Value), bl[j]? = some b → vss'[j]? = some vs → BoxAt w' b vs ∧ ¬ ImR b) →
        Toks w' ImR (q.2.flatten ++ q.1.flatMap cellsOfS) (vss'.flatten ++ zs) (· ∈ bl) →
        (bif lensB q.2 ks && lensS q.1 (C.E.rk g) then inBs q.2 ks roots 0 oA fun o3 => inSs q.1 (C.E.rk g) 0 o3 fun vs o4 => K (packS vs) o4 else none) = some r →
        ∃ v1 v' o' Im' ρ', Ending.returned v = .returned v1 ∧ K v' o' = some r ∧ Step w Im ρ o w' Im' ρ' o' ∧ RA w' Im' ρ' o' v' v1 := by
      intro ImA ImR oA ks hst hbo hks him himn hbox' htok h
      obtain ⟨hcnd, h⟩ := bif_some h
      simp only [lensB, lensS, Bool.and_eq_true, beq_iff_eq] at hcnd
      have hkl : roots.length = ks.length := by have := congrArg List.length hks; simp at this; omega
      obtain ⟨v', o', ρ', hk, hst', hra⟩ := afterCall hst hown hnow (fun j id hj => by
          obtain ⟨b, c0, h1, h2, h3, _⟩ := hblr j id hj
          exact ⟨b, c0, h1, h2, hbo id c0 h3⟩) hbr post.wd post.fr him himn post.l2 hbox' htok post.ow post.ret hcnd.1 hkl hcnd.2 h
      exact ⟨v, v', o', ImR, ρ', rfl, hk, hst', hra⟩
    unfold afterLend at h
    split at h
    · exact fin (hst1.trans hstL) (fun id c0 hh => (freezeAll_box c0).1 hh) hl3 post.im post.imn post.box post.tok h
    · cases hpl : C.E.plain g <;> rw [hpl] at h <;> simp only [cond_true, cond_false] at h
      · exact fin (hst1.trans hstL) (fun id c0 hh => (freezeAll_box c0).1 hh) hl3 post.im post.imn post.box post.tok h
      · obtain ⟨hpp, h⟩ := bif_some h
        simp only [Bool.and_eq_true, List.all_eq_true] at hpp
        have hi : ∀ b, Im1 b → Im' b := fun b hb => (post.im b (hstL.im b hb).1).1
        refine fin hst1 (fun id c0 hh => hh) hl3 (fun b hb => ⟨hb, (post.im b (hstL.im b hb).1).2⟩) (fun b hb => ⟨.inl hb, (post.imn b (hi b hb)).2⟩) (fun j b vs h1 h2 => ⟨(post.box j b vs h1 h2).1, fun hb => (post.box j b vs h1 h2).2 (hi b hb)⟩) (post.tok.plain hi ?_) h
        intro c hc
        rcases List.mem_append.1 hc with hc | hc
        · obtain ⟨cs, h1, h2⟩ := List.mem_flatten.1 hc
          exact hpp.2 cs h1 c h2
        · obtain ⟨s, h1, h2⟩ := List.mem_flatMap.1 hc
          have := hpp.1 s h1
          cases s with
          | c v => simp [cellsOfS] at h2; subst h2; exact this
          | agg cs => exact List.all_eq_true.1 this c h2
  · cases h
end
end Go.Dp
