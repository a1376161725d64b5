/- What operations may change. -/
import Derived.Test.YtocmjgfbcpgaoaaDp18a
set_option linter.unusedVariables false
set_option linter.unusedSimpArgs false
namespace Go.Dp

def Keeps (o : List AObj) (T : List Nat) (o' : List AObj) : Prop := o.length ≤ o'.length ∧ ∀ id, id < o.length → id ∉ T → at' o id = at' o' id
/-- It goes on with one value and one store; or not at all. -/
def ParG {β : Type} (T : List Nat) (o : List AObj) (f : (β → List AObj → R) → R) : Prop := (∀ K, f K = none) ∨ ∃ b o', (∀ K, f K = K b o') ∧ Keeps o T o'
section
variable {E : Env} {o o' o2 : List AObj} {t t' : List AV} {ids T T' : List Nat} {C : Ctx} {ops : Array Oper} {β γ : Type}
theorem Keeps.refl : Keeps o T o := ⟨Nat.le_refl _, fun _ _ _ => rfl⟩
theorem Keeps.trans (h : Keeps o T o') (k : Keeps o' T o2) : Keeps o T o2 := ⟨Nat.le_trans h.1 k.1, fun id hi ht => (h.2 id hi ht).trans (k.2 id (Nat.lt_of_lt_of_le hi h.1) ht)⟩
theorem Keeps.mono (h : Keeps o T o') (ht : ∀ id ∈ T, id ∈ T') : Keeps o T' o' := ⟨h.1, fun id hi hn => h.2 id hi fun hh => hn (ht id hh)⟩
theorem Keeps.app (x : List AObj) : Keeps o T (o ++ x) := ⟨by simp, fun id hi _ => by simp only [at', List.getElem?_append_left hi]⟩
theorem Keeps.set {id : Nat} (x : AObj) (h : id ∈ T) : Keeps o T (o.set id x) := ⟨by simp, fun i _ hn => by simp only [at']; rw [List.getElem?_set_ne (by rintro rfl; exact hn h)]⟩
theorem nest_freezeO {i id : Nat} (h : isNest (freezeO o i) id = true) : isNest o id = true := by
  unfold Dp.freezeO at h
  split at h
  · rename_i e sh ver fz xs ho
    have key : ∀ (x : AObj), (∀ e sh ver fz xs, x = .arr e sh ver fz xs → e.kd = none) → isNest (o.set i x) id = true → isNest o id = true := by
      intro x hx h
      unfold isNest at h ⊢
      by_cases e1 : id = i
      · subst e1
        rw [List.getElem?_set_self (List.getElem?_eq_some_iff.1 ho).1] at h
        split at h
        · rename_i e2 _ _ _ _ h2
          injection h2 with h2
          rw [hx _ _ _ _ _ h2] at h
          cases h
        · cases h
      · rwa [List.getElem?_set_ne (Ne.symm e1)] at h
    split at h
    · rename_i hk
      exact key _ (by rintro _ _ _ _ _ h; injection h with h; subst h; exact hk) h
    · rename_i k hk
      cases hh : k.hole.isNone <;> rw [hh] at h
      · exact h
      · exact key _ (by rintro _ _ _ _ _ h; injection h with h; subst h; rfl) h
  · exact h
theorem Keeps.freezeO (i : Nat) (hn : isNest o i = true → i ∈ T) : Keeps o T (freezeO o i) := by
  unfold Dp.freezeO
  split
  · rename_i e sh ver fz xs h
    split
    · refine ⟨by simp, fun id hi _ => ?_⟩
      simp only [at']
      by_cases e1 : id = i
      · subst e1
        rw [h, List.getElem?_set_self hi]
        rfl
      · rw [List.getElem?_set_ne (Ne.symm e1)]
    · rename_i k hk
      cases k.hole.isNone
      · exact Keeps.refl
      · exact Keeps.set _ (hn (by simp [isNest, h, hk]))
  · exact Keeps.refl
theorem nest_freezeC {c : CV} {v : PV} {o1 : List AObj} (h : freezeC o c = some (v, o1)) {id : Nat} (hn : isNest o1 id = true) : isNest o id = true := by
  cases c <;> simp [Dp.freezeC] at h
  · rw [← h.2] at hn; exact hn
  · obtain ⟨u, _, _, rfl⟩ := h; exact nest_freezeO hn
theorem nest_freezeCs : ∀ {cs : List CV} {vs : List PV} {o o1 : List AObj}, freezeCs o cs = some (vs, o1) → ∀ {id : Nat}, isNest o1 id = true → isNest o id = true
  | [], vs, o, o1, h, id, hn => by simp [Dp.freezeCs] at h; rw [← h.2] at hn; exact hn
  | c :: cs, vs, o, o1, h, id, hn => by
    simp only [Dp.freezeCs] at h
    obtain ⟨⟨v, o2⟩, hv, h⟩ := bind_some h
    obtain ⟨⟨us, o3⟩, hu, h⟩ := bind_some h
    simp at h
    obtain ⟨_, rfl⟩ := h
    exact nest_freezeC hv (nest_freezeCs hu hn)
theorem nest_freezeS {x : SV} {v : PV} {o1 : List AObj} (h : freezeS o x = some (v, o1)) {id : Nat} (hn : isNest o1 id = true) : isNest o id = true := by
  cases x with
  | c c => exact nest_freezeC h hn
  | agg cs =>
    simp only [Dp.freezeS] at h
    obtain ⟨⟨vs, o2⟩, hv, he⟩ := bind_some h
    simp at he
    rw [← he.2] at hn
    exact nest_freezeCs hv hn
theorem Keeps.freezeC {c : CV} {v : PV} {o1 : List AObj} (h : freezeC o c = some (v, o1)) (hn : ∀ id ∈ idsC c, isNest o id = true → id ∈ T) : Keeps o T o1 := by
  cases c <;> simp [Dp.freezeC] at h
  · rw [← h.2]; exact Keeps.refl
  · obtain ⟨u, _, _, rfl⟩ := h; exact Keeps.freezeO _ (hn _ (by simp [idsC]))
theorem Keeps.freezeCs : ∀ {cs : List CV} {vs : List PV} {o o1 : List AObj}, freezeCs o cs = some (vs, o1) → (∀ c ∈ cs, ∀ id ∈ idsC c, isNest o id = true → id ∈ T) → Keeps o T o1
  | [], vs, o, o1, h, hn => by simp [Dp.freezeCs] at h; rw [← h.2]; exact Keeps.refl
  | c :: cs, vs, o, o1, h, hn => by
    simp only [Dp.freezeCs] at h
    obtain ⟨⟨v, o2⟩, hv, h⟩ := bind_some h
    obtain ⟨⟨us, o3⟩, hu, h⟩ := bind_some h
    simp at h
    obtain ⟨_, rfl⟩ := h
    exact (Keeps.freezeC hv (hn c (by simp))).trans (Keeps.freezeCs hu fun c' hc' id hid h2 => hn c' (by simp [hc']) id hid (nest_freezeC hv h2))
theorem Keeps.freezeS {x : SV} {v : PV} {o1 : List AObj} (h : freezeS o x = some (v, o1)) (hn : ∀ c ∈ cellsOfS x, ∀ id ∈ idsC c, isNest o id = true → id ∈ T) : Keeps o T o1 := by
  cases x with
  | c c => exact Keeps.freezeC h (hn c (by simp [cellsOfS]))
  | agg cs =>
    simp only [Dp.freezeS] at h
    obtain ⟨⟨vs, o2⟩, hv, he⟩ := bind_some h
    simp at he
    rw [← he.2]
    exact Keeps.freezeCs hv hn
theorem Keeps.freezeAll : ∀ {is : List Nat} {o : List AObj}, (∀ i ∈ is, i ∈ T) → Keeps o T (freezeAll is o)
  | [], o, _ => Keeps.refl
  | i :: is, o, hn => (Keeps.freezeO i fun _ => hn i (by simp)).trans (Keeps.freezeAll (is := is) fun j hj => hn j (by simp [hj]))

theorem ParG.none' : ParG T o fun (_ : β → List AObj → R) => none := .inl fun _ => rfl
theorem ParG.ret (b : β) (h : Keeps o T o') : ParG T o fun K => K b o' := .inr ⟨b, o', fun _ => rfl, h⟩
theorem ParG.bind {α : Type} (x : Option α) {f : α → (β → List AObj → R) → R} (h : ∀ a, x = some a → ParG T o (f a)) : ParG T o fun K => x.bind fun a => f a K := by
  cases x with
  | none => exact .none'
  | some a => exact h a rfl
theorem ParG.bif (c : Bool) {f : (β → List AObj → R) → R} (h : c = true → ParG T o f) : ParG T o fun K => bif c then f K else Option.none := by
  cases c
  · exact .none'
  · exact h rfl
theorem ParG.seq {f : (β → List AObj → R) → R} {g : β → List AObj → (γ → List AObj → R) → R} (hf : ParG T o f) (hg : ∀ b o', (∀ K, f K = K b o') → Keeps o T o' → ParG T o' (g b o')) : ParG T o fun K => f fun b o' => g b o' K := by
  rcases hf with h | ⟨b, o', h, hk⟩
  · left; intro K; exact h _
  · rcases hg b o' h hk with h2 | ⟨c, o2, h2, hk2⟩
    · left; intro K; exact (h _).trans (h2 K)
    · right; exact ⟨c, o2, fun K => (h _).trans (h2 K), hk.trans hk2⟩
theorem ParG.seqU {f : (List AObj → R) → R} {g : List AObj → (γ → List AObj → R) → R} (hf : ParG (β := Unit) T o fun K => f (K ())) (hg : ∀ o', ParG T o' (g o')) : ParG T o fun K => f fun o' => g o' K := by
  rcases hf with h | ⟨b, o', h, hk⟩
  · left; intro K; exact h fun _ o' => g o' K
  · rcases hg o' with h2 | ⟨c, o2, h2, hk2⟩
    · left; intro K; exact (h fun _ o' => g o' K).trans (h2 K)
    · right; exact ⟨c, o2, fun K => (h fun _ o' => g o' K).trans (h2 K), hk.trans hk2⟩
theorem ParG.mono {f : (β → List AObj → R) → R} (h : ParG T o f) (ht : ∀ id ∈ T, id ∈ T') : ParG T' o f := h.imp (fun h => h) fun ⟨b, o', h1, h2⟩ => ⟨b, o', h1, h2.mono ht⟩
theorem Par.g {f : List AObj → Kt → R} (h : Par ids o f) : ParG T o (f o) := by
  rcases h with h | ⟨v, h⟩
  · exact .inl h
  · exact .inr ⟨v, o, h o fun _ _ => rfl, Keeps.refl⟩

theorem elemsIn_par (sh : Nat) (t : List AV) : ∀ (n : Nat) (ps : List (Nat × Operand)) (o : List AObj), (∀ q ∈ ps, ∀ id ∈ idsA (aval t q.2), isNest o id = true → id ∈ T) → ParG T o fun K => elemsIn sh t n ps o K
  | n, [], o, _ => ParG.ret [] Keeps.refl
  | n, (i, x) :: ps, o, hn => by
    simp only [elemsIn]
    refine ParG.bif _ fun _ => ParG.bind _ fun v hv => ParG.bind _ fun yo hyo => ?_
    obtain ⟨y, o1⟩ := yo
    refine ParG.bif _ fun _ => ?_
    have h1 := hn (i, x) (by simp)
    rw [sv_some hv] at h1
    rcases elemsIn_par sh t (n + 1) ps o1 (fun q hq id hid h2 => hn q (by simp [hq]) id hid (nest_freezeS hyo h2)) with h | ⟨ys, o2, h, hk⟩
    · left; intro K; exact h _
    · right; exact ⟨y :: ys, o2, fun K => h _, (Keeps.freezeS hyo fun c hc id hid => h1 id (by simp only [idsA, cellsOfA, List.mem_flatMap]; exact ⟨c, hc, hid⟩)).trans hk⟩
theorem nest_touched {s : St} {op : Op} {x : Operand} (hx : x ∈ op.operands.toList) {id : Nat} (hid : id ∈ idsA (aval s.t x)) (h : isNest s.o id = true) : id ∈ touched s op := by
  unfold touched
  refine List.mem_append_left _ (List.mem_filter.2 ⟨?_, h⟩)
  simp only [idsOp, List.mem_flatMap]
  exact ⟨x, hx, hid⟩
theorem evOp_keeps (s : St) (op : Op) : ParG (touched s op) s.o fun K => evOp E op s K := by
  cases hq : silent op
  · cases op with
    | alloc T => exact ParG.bind _ fun z _ => ParG.ret _ (Keeps.app _)
    | box T x =>
      simp only [evOp]
      unfold opBox
      split
      · rename_i v sh _ _
        rcases cellsK_par (o := s.o) (ids := (cellsOfS v).flatMap idsC) sh v (fun _ h => h) with h | ⟨cs, h⟩
        · left; intro K; exact h _
        · right; exact ⟨_, _, fun K => h s.o (fun _ _ => rfl) _, Keeps.app _⟩
      · exact .none'
    | buildSlice T n ps =>
      obtain ⟨TT, hTT⟩ : ∃ TT, TT = touched s (.buildSlice T n ps) := ⟨_, rfl⟩
      have hnt : ∀ q ∈ ps.toList, ∀ id ∈ idsA (aval s.t q.2), isNest s.o id = true → id ∈ TT := by
        intro q hq id hid h
        rw [hTT]
        exact nest_touched (by simp only [Op.operands]; exact List.mem_map.2 ⟨q, hq, rfl⟩) hid h
      have hag : ∀ q ∈ ps.toList, ∀ cs, aval s.t q.2 = .s (.agg cs) → ∀ c ∈ cs, ∀ id ∈ idsC c, id ∈ TT := by
        intro q hq cs hcs c hc id hid
        rw [hTT]
        refine List.mem_append_right _ (List.mem_flatMap.2 ⟨q, hq, ?_⟩)
        rw [hcs]
        exact List.mem_flatMap.2 ⟨c, hc, hid⟩
      rw [← hTT]
      clear hTT
      simp only [evOp]
      cases nestEl E T s.t ps.toList
      · simp only [cond_false]
        unfold opBuildSlice
        split
        · rename_i e sh by_ _
          exact ParG.bif _ fun _ => ParG.seq (elemsIn_par sh s.t 0 ps.toList s.o hnt) fun ys o1 _ hk => ParG.ret _ (Keeps.app _)
        · exact .none'
      · simp only [cond_true]
        unfold opBuildNest
        split
        · rename_i k e sh by_ i0 x hnest hT hps
          split
          · rename_i cs hsv
            split
            · rename_i id2 ver2 sh2 lo len hcj
              split
              · have hid2 : id2 ∈ TT := hag (i0, x) (by rw [hps]; simp) cs (sv_some hsv) _ (List.mem_of_getElem? hcj) id2 (by simp [idsC])
                exact ParG.bif _ fun _ => ParG.bind _ fun vs _ => ParG.bif _ fun _ => ParG.ret _ ((Keeps.set _ hid2).trans (Keeps.app _))
              · exact .none'
            · exact .none'
          · exact .none'
        · exact .none'
    | store T x y =>
      obtain ⟨TT, hTT⟩ : ∃ TT, TT = touched s (.store T x y) := ⟨_, rfl⟩
      have hta : ∀ id ∈ idsA (aval s.t x), id ∈ TT := by
        intro id hid
        rw [hTT]
        exact List.mem_append_right _ (List.mem_append_left _ hid)
      have htn : ∀ id ∈ idsA (aval s.t y), isNest s.o id = true → id ∈ TT := by
        intro id hid h
        rw [hTT]
        exact nest_touched (by simp [Op.operands]) hid h
      have htg : givesTo s.o (aval s.t x) (aval s.t y) = true → ∀ id ∈ idsA (aval s.t y), id ∈ TT := by
        intro hg id hid
        rw [hTT]
        refine List.mem_append_right _ (List.mem_append_right _ ?_)
        rw [hg]
        exact hid
      rw [← hTT]
      clear hTT
      simp only [evOp]
      cases hg : givesTo s.o (aval s.t x) (aval s.t y)
      rotate_left
      · simp only [cond_true]
        have htg := htg hg
        clear hg
        unfold opGive
        split
        · rename_i id ver vsh i off id2 ver2 sh2 lo len hca hT hcb
          rw [cv_some hca] at hta
          rw [cv_some hcb] at htg
          split
          · split
            · exact ParG.bind _ fun y _ => ParG.bif _ fun _ => ParG.bind _ fun z _ => ParG.ret _ ((Keeps.set _ (hta _ (mem_cells1 (by simp [idsC])))).trans (Keeps.set _ (htg _ (mem_cells1 (by simp [idsC])))))
            · exact .none'
          · exact .none'
        · exact .none'
      simp only [cond_false]
      unfold opStore
      split
      · rename_i id off sh v hc hT hv
        rw [cv_some hc] at hta
        split
        · rename_i cs ho
          rcases cellsK_par (o := s.o) (ids := (cellsOfS v).flatMap idsC) sh v (fun _ h => h) with h | ⟨ns, h⟩
          · left; intro K; exact h _
          · have h' : ∀ K : List CV → R, cellsK s.o sh v K = K ns := h s.o fun _ _ => rfl
            simp only [h']
            exact ParG.bind _ fun cs' _ => ParG.ret _ (Keeps.set _ (hta _ (mem_cells1 (by simp [idsC]))))
        · exact .none'
      · rename_i id ver vsh i off sh sv hc hT hv
        rw [cv_some hc] at hta
        refine ParG.bind _ fun vo hvo => ?_
        obtain ⟨v, o1⟩ := vo
        rw [sv_some hv] at htn
        have hk := Keeps.freezeS (T := TT) hvo fun c hc id hid => htn id (by simp only [idsA, cellsOfA, List.mem_flatMap]; exact ⟨c, hc, hid⟩)
        simp only
        split
        · refine ParG.bif _ fun _ => ParG.bind _ fun y _ => ParG.bind _ fun z _ => ParG.ret _ (hk.trans (Keeps.set _ (hta _ (mem_cells1 (by simp [idsC])))))
        · exact .none'
      · exact .none'
    | makeSlice T l c =>
      simp only [evOp]
      unfold opMakeSlice
      split
      · exact ParG.bind _ fun z _ => ParG.bind _ fun l _ => ParG.bind _ fun c _ => ParG.bif _ fun _ => ParG.bif _ fun _ => ParG.ret _ (Keeps.app _)
      · exact .none'
    | call c =>
      obtain ⟨TT, hTT⟩ : ∃ T, T = touched s (.call c) := ⟨_, rfl⟩
      rw [← hTT]
      simp only [evOp]
      split
      · rename_i x T hc ha hT
        simp [silent, hc] at hq
      · rename_i x y T T' hc ha hT
        have hTx : ∀ id ∈ idsA (aval s.t x), id ∈ TT := by
          intro id hid
          rw [hTT]
          refine List.mem_append_right _ ?_
          simpa [hc, ha] using hid
        have hTy : ∀ id ∈ idsA (aval s.t y), isNest s.o id = true → id ∈ TT := by
          intro id hid h
          rw [hTT]
          exact nest_touched (by simp [Op.operands, Call.operands, hc, ha]) hid h
        clear hTT
        cases T == T'
        · simp only [cond_false]
          unfold opAppendZ
          split
          · exact ParG.bind _ fun q _ => ParG.bind _ fun z _ => ParG.bind _ fun n _ => ParG.bif _ fun _ => ParG.ret _ (Keeps.app _)
          · exact .none'
        simp only [cond_true]
        cases hnl : nestLoc s.o (aval s.t y)
        rotate_left
        · simp only [cond_true]
          unfold opAppendNest
          split
          · rename_i e sh by_ id ver sh1 lo len id2 ver2 sh2 lo2 len2 hT' hav hbv
            rw [cv_some hav] at hTx
            rw [cv_some hbv] at hTy
            have hn2 : isNest s.o id2 = true := by simpa [nestLoc, hbv] using hnl
            split
            · split
              · exact ParG.bif _ fun _ => ParG.ret _ ((Keeps.set _ (hTx _ (mem_cells1 (by simp [idsC])))).trans (Keeps.set _ (hTy _ (mem_cells1 (by simp [idsC])) hn2)))
              · exact .none'
            · exact .none'
          · exact .none'
        simp only [cond_false]
        unfold opAppend
        split
        · rename_i e sh by_ av bv hT' hav hbv
          rw [cv_some hav] at hTx
          refine ParG.bind _ fun rv _ => ParG.bind _ fun ys _ => ?_
          split
          · unfold appendNel
            split
            · split
              · exact ParG.bif _ fun _ => ParG.bind _ fun x _ => ParG.bind _ fun zs _ => ParG.bif _ fun _ => ParG.ret _ ((Keeps.set _ (hTx _ (mem_cells1 (by simp [idsC])))).trans (Keeps.app _))
              · exact .none'
            · exact .none'
          unfold appendTo
          split
          · refine ParG.bind _ fun q _ => ?_
            cases ys.isEmpty
            · exact ParG.bif _ fun _ => ParG.ret _ (Keeps.app _)
            · exact ParG.ret _ Keeps.refl
          · rename_i id ver sh' lo len
            split
            · exact ParG.bif _ fun _ => ParG.ret _ (Keeps.set _ (hTx _ (mem_cells1 (by simp [idsC]))))
            · exact .none'
          · exact .none'
        · exact .none'
      · rename_i x T hc ha hT; simp [silent, hc] at hq
      · rename_i x y hc ha; simp [silent, hc] at hq
      · rename_i x y hc ha; simp [silent, hc] at hq
      · exact .none'
    | _ => first | (simp [silent] at hq; done) | (left; intro K; simp [evOp]; done)
  · exact (evOp_par (ids := op.operands.toList.flatMap fun x => idsA (aval s.t x)) (o := s.o) hq fun x hx id hid => List.mem_flatMap.2 ⟨x, hx, hid⟩).g

/-! ### Calls -/
def BB (o o' : List AObj) : Prop := ∀ (id : Nat) (cs : List CV), o'[id]? = some (.box cs) → o[id]? = some (.box cs)
def ParO {β : Type} (T : List Nat) (o : List AObj) (f : (β → List AObj → R) → R) : Prop := (∀ K, f K = none) ∨ ∃ b o', (∀ K, f K = K b o') ∧ Keeps o T o' ∧ BB o o'
theorem ParO.g {f : (β → List AObj → R) → R} (h : ParO T o f) : ParG T o f := h.imp (fun h => h) fun ⟨b, o', h1, h2, _⟩ => ⟨b, o', h1, h2⟩
theorem BB.refl : BB o o := fun _ _ h => h
theorem BB.of (h : Bx (fun _ => none) o (fun _ => none) o') : BB o o' := fun id cs => (h id cs).2
theorem outC_par (k : Kind) (c : CV) (o : List AObj) (hT : ∀ id ∈ idsC c, id ∈ T) : ParO T o fun K => outC k c o K := by
  unfold outC
  split
  · cases hf : freezeC o c with
    | none => left; intro K; rfl
    | some p =>
      obtain ⟨v, o1⟩ := p
      rcases castCell_det (α := List SV × List (List CV)) (by assumption : CellT) v with h | ⟨u, h⟩
      · left; intro K; exact h fun v => K (.p v) o1
      · right; exact ⟨.p u, o1, fun K => h fun v => K (.p v) o1, Keeps.freezeC hf fun id hid _ => hT id hid, BB.of (bx_freezeC hf)⟩
  · rename_i e sh
    split
    · rename_i v
      cases hq : v.row? with
      | none => left; intro K; rfl
      | some q =>
        cases hf : (q.2.1 == 2 && nilEt e sh)
        · left; intro K; simp [hf]
        · right; exact ⟨.own e sh [], o, fun K => by simp only [Option.bind_some, hf, cond_true], Keeps.refl, BB.refl⟩
    · rename_i id ver sh' lo len
      split
      · rename_i e' sh'' ver' xs ho
        cases hc : (lo == 0 && ver == ver' && sh == sh' && sh == sh'' && sameEt e e' len xs.length)
        · left; intro K; rfl
        · right; exact ⟨_, _, fun K => rfl, Keeps.set _ (hT _ (by simp [idsC])), BB.of (bx_set (by simp [ho]) (by simp))⟩
      · left; intro K; rfl
    · left; intro K; rfl
theorem outCs_par : ∀ (ks : List Kind) (cs : List CV) (o : List AObj), (∀ c ∈ cs, ∀ id ∈ idsC c, id ∈ T) → ParO T o fun K => outCs ks cs o K
  | [], [], o, _ => .inr ⟨[], o, fun _ => rfl, Keeps.refl, BB.refl⟩
  | k :: ks, c :: cs, o, hT => by
    simp only [outCs]
    rcases outC_par (T := T) k c o (hT c (by simp)) with h | ⟨d, o1, h, hk, hb⟩
    · left; intro K; exact h _
    · rcases outCs_par ks cs o1 (fun c hc => hT c (by simp [hc])) with h2 | ⟨ds, o2, h2, hk2, hb2⟩
      · left; intro K; exact (h _).trans (h2 _)
      · right; exact ⟨d :: ds, o2, fun K => (h _).trans (h2 _), hk.trans hk2, fun id cs hh => hb id cs (hb2 id cs hh)⟩
  | [], _ :: _, o, _ => .inl fun _ => rfl
  | _ :: _, [], o, _ => .inl fun _ => rfl
theorem outBs_par : ∀ (kss : List (List Kind)) (ids : List Nat) (o : List AObj), (∀ i ∈ ids, ∀ cs, o[i]? = some (.box cs) → ∀ c ∈ cs, ∀ id ∈ idsC c, id ∈ T) → ParO T o fun K => outBs kss ids o K
  | [], [], o, _ => .inr ⟨[], o, fun _ => rfl, Keeps.refl, BB.refl⟩
  | ks :: kss, i :: ids, o, hT => by
    simp only [outBs]
    cases ho : o[i]? with
    | none => left; intro K; rfl
    | some x =>
      cases x with
      | box cs =>
        simp only
        rcases outCs_par (T := T) ks cs o (hT i (by simp) cs ho) with h | ⟨d, o1, h, hk, hb⟩
        · left; intro K; exact h _
        · rcases outBs_par kss ids o1 (fun j hj cs' hc' => hT j (by simp [hj]) cs' (hb j cs' hc')) with h2 | ⟨ds, o2, h2, hk2, hb2⟩
          · left; intro K; exact (h _).trans (h2 _)
          · right; exact ⟨d :: ds, o2, fun K => (h _).trans (h2 _), hk.trans hk2, fun id cs hh => hb id cs (hb2 id cs hh)⟩
      | _ => left; intro K; rfl
  | [], _ :: _, o, _ => .inl fun _ => rfl
  | _ :: _, [], o, _ => .inl fun _ => rfl
theorem inC_par (k : Kind) (c : Option CV) (o : List AObj) : ParG T o fun K => inC k c o K := by
  unfold inC
  split
  · simp only [inP_eq]
    refine ParG.bind _ fun v _ => ?_
    rcases castCell_det (α := List SV × List (List CV)) (by assumption : CellT) v with h | ⟨u, h⟩
    · left; intro K; exact h _
    · right; exact ⟨.p u, o, fun K => h _, Keeps.refl⟩
  · exact ParG.bind _ fun xs _ => ParG.ret _ (Keeps.app _)
theorem inCs_par (get : Nat → Option CV) : ∀ (ks : List Kind) (i : Nat) (o : List AObj), ParG T o fun K => inCs get ks i o K
  | [], i, o => ParG.ret [] Keeps.refl
  | k :: ks, i, o => by
    simp only [inCs]
    rcases inC_par (T := T) k (get i) o with h | ⟨d, o1, h, hk⟩
    · left; intro K; exact h _
    · rcases inCs_par get ks (i + 1) o1 with h2 | ⟨ds, o2, h2, hk2⟩
      · left; intro K; exact (h _).trans (h2 _)
      · right; exact ⟨d :: ds, o2, fun K => (h _).trans (h2 _), hk.trans hk2⟩
theorem inBs_par (bs : List (List CV)) : ∀ (kss : List (List Kind)) (is : List Nat) (j : Nat) (o : List AObj), (∀ i ∈ is, i ∈ T) → ParG (β := Unit) T o fun K => inBs bs kss is j o (K ())
  | [], [], j, o, _ => ParG.ret () Keeps.refl
  | ks :: kss, i :: is, j, o, hT => by
    simp only [inBs]
    rcases inCs_par (T := T) (cellAt bs j) ks 0 o with h | ⟨d, o1, h, hk⟩
    · left; intro K; exact h _
    · rcases inBs_par bs kss is (j + 1) (o1.set i (.box d)) (fun i hi => hT i (by simp [hi])) with h2 | ⟨_, o2, h2, hk2⟩
      · left; intro K; exact (h _).trans (h2 _)
      · right; exact ⟨(), o2, fun K => (h _).trans (h2 _), (hk.trans (Keeps.set _ (hT i (by simp)))).trans hk2⟩
  | [], _ :: _, _, o, _ => .inl fun _ => rfl
  | _ :: _, [], _, o, _ => .inl fun _ => rfl
theorem inSs_par (vs : List SV) : ∀ (ks : List RK) (j : Nat) (o : List AObj), ParG T o fun K => inSs vs ks j o K
  | [], j, o => ParG.ret [] Keeps.refl
  | .c k :: ks, j, o => by
    simp only [inSs]
    rcases inC_par (T := T) k (resAt vs j) o with h | ⟨d, o1, h, hk⟩
    · left; intro K; exact h _
    · rcases inSs_par vs ks (j + 1) o1 with h2 | ⟨ds, o2, h2, hk2⟩
      · left; intro K; exact (h _).trans (h2 _)
      · right; exact ⟨.c d :: ds, o2, fun K => (h _).trans (h2 _), hk.trans hk2⟩
  | .agg ks :: kss, j, o => by
    simp only [inSs]
    rcases inCs_par (T := T) (partAt vs j) ks 0 o with h | ⟨d, o1, h, hk⟩
    · left; intro K; exact h _
    · rcases inSs_par vs kss (j + 1) o1 with h2 | ⟨ds, o2, h2, hk2⟩
      · left; intro K; exact (h _).trans (h2 _)
      · right; exact ⟨mkAgg d :: ds, o2, fun K => (h _).trans (h2 _), hk.trans hk2⟩
theorem afterLend_par (plain : Bool) (lent : List Nat) (q : List SV × List (List CV)) (o : List AObj) (hl : ∀ i ∈ lent, i ∈ T) : ParG (β := Unit) T o fun K => afterLend plain lent q o (K ()) := by
  unfold afterLend
  split
  · exact ParG.ret () Keeps.refl
  · cases plain
    · exact ParG.ret () (Keeps.freezeAll hl)
    · exact ParG.bif _ fun _ => ParG.ret () Keeps.refl
theorem ParG.bif2 {β : Type} {T : List Nat} {o : List AObj} {f g : (β → List AObj → R) → R} (b : Bool) (h1 : ParG T o f) (h2 : ParG T o g) : ParG T o fun K => bif b then f K else g K := by
  cases b
  · exact h2
  · exact h1
theorem opSort_keeps (n : Nat) (args : List AV) (o : List AObj) (hT : ∀ a ∈ args, ∀ id ∈ idsA a, id ∈ T) : ParG T o fun K => opSort n args o K := by
  unfold opSort
  split
  · rename_i id ver sh lo len
    have hid := hT (.s (.c (.loc id ver sh lo len))) (by simp) id (mem_cells1 (by simp [idsC]))
    split
    · exact ParG.bif _ fun _ => ParG.bind _ fun zs _ => ParG.bif2 _ (ParG.ret _ (Keeps.set _ hid)) (ParG.ret _ (Keeps.set _ hid))
    · exact .none'
  · exact .none'
theorem callOp_keeps (f : AV) (args : List AV) (s : St) (hT : ∀ a ∈ f :: args, ∀ id ∈ idsA a, id ∈ T) (hT2 : ∀ i ∈ T, ∀ cs, s.o[i]? = some (.box cs) → ∀ c ∈ cs, ∀ id ∈ idsC c, id ∈ T') (hTT : ∀ id ∈ T, id ∈ T') : ParG T' s.o fun K => callOp C f args s K := by
  unfold callOp
  split
  · rename_i g caps hc
    rw [cv_some hc] at hT
    have hcaps : ∀ id ∈ caps, id ∈ T := fun id hid => hT (.s (.c (.fn g caps))) (by simp) id (mem_cells1 (by simpa [idsC] using hid))
    have hroots : ∀ id ∈ adds [] (((args ++ caps.map fun i => (.s (.c (.bptr i 0)) : AV)).flatMap cellsOfA).flatMap ptrsC), id ∈ T := by
      intro id hid
      rw [mem_adds] at hid
      simp only [List.not_mem_nil, false_or, List.mem_flatMap, List.mem_append, List.mem_map] at hid
      obtain ⟨c, ⟨a, ha, hca⟩, hid⟩ := hid
      rcases ha with ha | ⟨i, hi, rfl⟩
      · refine hT a (by simp [ha]) id ?_
        simp only [idsA, List.mem_flatMap]
        refine ⟨c, hca, ?_⟩
        cases c <;> simp [ptrsC] at hid <;> simp [idsC, hid]
      · simp [cellsOfA, cellsOfS] at hca
        subst hca
        simp [ptrsC] at hid
        subst hid
        exact hcaps _ hi
    simp only
    refine ParG.bif2 _ (ParG.bif _ fun _ => opSort_keeps _ args s.o fun a ha id hid => hTT _ (hT a (by simp [ha]) id hid)) ?_
    refine ParG.seq (outBs_par (T := T') _ _ s.o (fun i hi cs hcs => hT2 i (hroots i hi) cs hcs)).g fun bs o1 _ _ => ?_
    rcases castAs_det (C.E.ak g) ((args ++ caps.map fun i => (.s (.c (.bptr i 0)) : AV)).map (lendA (adds [] (((args ++ caps.map fun i => (.s (.c (.bptr i 0)) : AV)).flatMap cellsOfA).flatMap ptrsC)) o1)) with hcs | ⟨as, hcs⟩
    · left; intro K; exact hcs _
    simp only [hcs]
    refine ParG.bind _ fun q _ => ?_
    refine ParG.seqU (afterLend_par (T := T') _ _ q o1 fun i hi => ?_) fun o2 => ?_
    · rw [mem_adds] at hi
      simp only [List.not_mem_nil, false_or, List.mem_flatMap, List.mem_append, List.mem_map] at hi
      obtain ⟨c, ⟨a, ha, hca⟩, hid⟩ := hi
      have hid' : i ∈ idsC c := by
        cases c <;> simp only [locsC] at hid <;> first | (simp at hid; done) | skip
        split at hid
        · cases hb : (_ : Nat) == (_ : Nat) <;> rw [hb] at hid <;> simp at hid
          simp [idsC, hid]
        · simp at hid
      rcases ha with ha | ⟨j, hj, rfl⟩
      · refine hTT _ (hT a (by simp [ha]) i ?_)
        simp only [idsA, List.mem_flatMap]
        exact ⟨c, hca, hid'⟩
      · simp [cellsOfA, cellsOfS] at hca
        subst hca
        simp [locsC] at hid
    refine ParG.bif _ fun _ => ?_
    refine ParG.seqU (inBs_par (T := T') q.2 _ _ 0 o2 fun i hi => hTT i (hroots i hi)) fun o3 => ?_
    exact ParG.seq (inSs_par (T := T') q.1 _ 0 o3) fun vs o4 _ _ => ParG.ret _ Keeps.refl
  · exact .none'
/-- An operation, with its guard: the slots it writes, what it may change. -/
theorem branch_par (x : Operand) (t : List AV) : (∀ K, branch t x K = none) ∨ ∃ b, aval t x = .p (.bool b) ∧ ∀ K, branch t x K = K b t := by
  unfold branch
  split
  · rename_i i
    cases hb : (getT t i).bool? with
    | none => left; intro K; rfl
    | some b =>
      right
      have hv := bool_some hb
      have e : t.set i (.p (.bool b)) = t := set_same hv (by simp)
      refine ⟨b, hv, fun K => ?_⟩
      cases b
      · simp [e]
      · simp [e]
  · rename_i v
    cases hb : (constAV v).bool? with
    | none => left; intro K; rfl
    | some b => right; refine ⟨b, bool_some hb, fun K => ?_⟩; cases b <;> rfl
  · left; intro K; rfl
theorem stepOp_keeps (oo : Oper) (s : St) : (∀ K, stepOp C oo s K = none) ∨ ∃ v o', (∀ K, stepOp C oo s K = K ⟨putD s.t oo.dst v, o'⟩) ∧ Keeps s.o (touched s oo.op) o' := by
  have evs : (∀ K : St → R, (evOp C.E oo.op s fun v ob => K ⟨putD s.t oo.dst v, ob⟩) = none) ∨ ∃ v o', (∀ K : St → R, (evOp C.E oo.op s fun v ob => K ⟨putD s.t oo.dst v, ob⟩) = K ⟨putD s.t oo.dst v, o'⟩) ∧ Keeps s.o (touched s oo.op) o' := by
    rcases evOp_keeps (E := C.E) s oo.op with h | ⟨v, o', h, hk⟩
    · left; intro K; exact h _
    · right; exact ⟨v, o', fun K => h _, hk⟩
  unfold stepOp
  split
  · rename_i c x y hop
    rcases branch_par c s.t with h | ⟨b, hb, h⟩
    · left; intro K; exact h _
    · right; exact ⟨_, s.o, fun K => h _, Keeps.refl⟩
  · rename_i c hop
    split
    · rename_i f hcal
      rcases callOp_keeps (C := C) (T := idsOp s.t oo.op) (T' := touched s oo.op) (aval s.t f) (c.args.toList.map (aval s.t)) s (by
          intro a ha id hid
          simp only [idsOp, List.mem_flatMap]
          rcases List.mem_cons.1 ha with rfl | ha
          · exact ⟨f, by rw [hop]; simp [Op.operands, Call.operands, hcal], hid⟩
          · obtain ⟨x, hx, rfl⟩ := List.mem_map.1 ha
            exact ⟨x, by rw [hop]; simp only [Op.operands, Call.operands, hcal]; simp at hx ⊢; exact .inr hx, hid⟩) (by
          intro i hi cs hcs c' hc' id hid
          rw [hop] at hi ⊢
          simp only [touched, hcal, List.mem_append, List.mem_flatMap]
          exact .inr (.inr ⟨c', ⟨i, hi, by simp [cellsOfO, hcs, hc']⟩, hid⟩)) (by
          intro id hid
          rw [hop] at hid ⊢
          simp only [touched, hcal, List.mem_append]
          exact .inr (.inl hid)) with h | ⟨v, o', h, hk⟩
      · left; intro K; exact h _
      · right; exact ⟨v, o', fun K => h _, hk⟩
    · exact evs
  · exact evs
theorem guarded_keeps (oo : Oper) (s : St) : (∀ K, guarded C ops oo s K = none) ∨ ∃ v o', (∀ K, guarded C ops oo s K = K ⟨putD s.t oo.dst v, o'⟩) ∧ Keeps s.o (touched s oo.op) o' := by
  unfold guarded
  split
  · exact stepOp_keeps oo s
  · rename_i j want hg
    split
    · rename_i d hd
      cases hsk : skipped (getT s.t d) with
      | true => right; exact ⟨.tup [], s.o, fun K => by simp, Keeps.refl⟩
      | false =>
      simp only [cond_false]
      rcases branch_par (.tmp d) s.t with h | ⟨b, hb, h⟩
      · left; intro K; exact h _
      · cases hw : b == want
        · right; exact ⟨.tup [], s.o, fun K => by rw [h]; simp [hw], Keeps.refl⟩
        · rcases stepOp_keeps (C := C) oo s with h2 | ⟨v, o', h2, hk⟩
          · left; intro K; rw [h]; simp only [hw, cond_true]; exact h2 K
          · right; exact ⟨v, o', fun K => by rw [h]; simp only [hw, cond_true]; exact h2 K, hk⟩
    · left; intro K; rfl
end
end Go.Dp
