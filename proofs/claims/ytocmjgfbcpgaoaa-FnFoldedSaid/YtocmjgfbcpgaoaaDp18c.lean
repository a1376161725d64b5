/- Creators that the evaluator carries out ahead of the machine. -/
import Derived.Test.YtocmjgfbcpgaoaaDp18b
import Derived.Test.YtocmjgfbcpgaoaaDp11g
set_option linter.unusedVariables false
set_option linter.unusedSimpArgs false
namespace Go.Dp
section
variable {P : Program} {E : Env} {w w' : World} {Im Im' : Nat → Prop} {ρ ρ' : Nat → Option Value} {o o' : List AObj} {t : List AV} {a : Act} {C : Ctx} {ops : Array Oper}
theorem at_app_box {cs : List CV} (h : at' (o ++ [.box cs]) o.length = at' o' o.length) : o'[o.length]? = some (.box cs) := by
  simp only [at', List.getElem?_append_right (Nat.le_refl _), Nat.sub_self] at h
  cases h' : o'[o.length]? with
  | none => rw [h'] at h; simp [AObj.norm] at h
  | some x => rw [h'] at h; cases x <;> simp [AObj.norm] at h; subst h; rfl
theorem at_app_arr {sh ver : Nat} {e : Et} {fz : Bool} {xs : List PV} (h : at' (o ++ [.arr e sh ver fz xs]) o.length = at' o' o.length) : ∃ fz', o'[o.length]? = some (.arr e sh ver fz' xs) := by
  simp only [at', List.getElem?_append_right (Nat.le_refl _), Nat.sub_self] at h
  cases h' : o'[o.length]? with
  | none => rw [h'] at h; simp [AObj.norm] at h
  | some x =>
    rw [h'] at h
    cases x <;> simp [AObj.norm] at h
    obtain ⟨rfl, rfl, rfl, rfl⟩ := h
    exact ⟨_, rfl⟩
theorem agree_left {ids : List Nat} {x : AObj} (hi : ∀ id ∈ ids, id < o.length) (h : AgreeO ids (o ++ [x]) o') : AgreeO ids o o' := by
  intro id hid
  rw [← h id hid]
  simp only [at', List.getElem?_append_left (hi id hid)]
theorem DidF.next {v : AV} {n : Nat} {s : Sem Value} (h : DidF P w Im ρ o n v s) {m : Sem Next} (e : m = (do pure (.value (← s)))) : ∃ y w' Im' ρ', Fill w Im ρ o w' n Im' ρ' ∧ RA w' Im' ρ' o v y ∧ m.run P w = .ok (.value y) w' := by
  obtain ⟨y, w', Im', ρ', h1, h2, h3⟩ := h
  refine ⟨y, w', Im', ρ', h2, h3, ?_⟩
  subst e
  simp [h1]
theorem stepL (hE : EnvOK P C.E) {oo : Oper} (hq : lateO oo = true) (t : List AV) (o : List AObj) (hp : latePlain t oo.op = true) (hids : ∀ id ∈ idsOp t oo.op, id < o.length) : (∀ K, guarded C ops oo ⟨t, o⟩ K = none) ∨ ∃ v x, (∀ K, guarded C ops oo ⟨t, o⟩ K = K ⟨putD t oo.dst v, o ++ [x]⟩) ∧
    ∀ o', AgreeO (o.length :: idsOp t oo.op) (o ++ [x]) o' → ∀ (w : World) (Im : Nat → Prop) (ρ : Nat → Option Value) (a : Act), SR w Im ρ o' → ρ o.length = none → (∀ x ∈ oo.op.operands.toList, RA w Im ρ o' (aval t x) (a.eval x)) →
      ∃ y w' Im' ρ', Fill w Im ρ o' w' o.length Im' ρ' ∧ RA w' Im' ρ' o' v y ∧ (execOp a.eval oo).run P w = .ok (.value y) w' := by
  simp only [lateO, Bool.and_eq_true, Option.isNone_iff_eq_none] at hq
  obtain ⟨hg, hq⟩ := hq
  unfold guarded
  rw [hg]
  simp only
  cases hop : oo.op with
  | alloc T =>
    simp only [stepOp, hop, evOp]
    cases hz : C.E.zr T with
    | none => left; intro K; simp [opAlloc, hz]
    | some zs =>
      right
      refine ⟨.s (.c (.bptr o.length 0)), .box (zs.map CV.p), fun K => by simp [opAlloc, hz], fun o' hag w Im ρ a hs hn av => ?_⟩
      exact (opAlloc_fill hE hs hz (at_app_box (hag o.length (by simp))) hn).next (by simp [execOp, hop])
  | box T x =>
    simp only [stepOp, hop, evOp]
    rw [hop] at hids
    cases hv : (aval t x).sv? with
    | none => left; intro K; simp [opBox, hv]
    | some v =>
      cases hT : C.E.sh T with
      | none => left; intro K; simp [opBox, hv, hT]
      | some sh =>
        have ha := sv_some hv
        rcases cellsK_par (o := o) (ids := (cellsOfS v).flatMap idsC) sh v (fun _ h => h) with h | ⟨cs, h⟩
        · left; intro K; simp only [opBox, hv, hT]; exact h _
        · replace h : ∀ o', AgreeO ((cellsOfS v).flatMap idsC) o o' → ∀ K : List CV → R, cellsK o' sh v K = K cs := h
          have hsub : ∀ id ∈ (cellsOfS v).flatMap idsC, id ∈ idsOp t (.box T x) := by
            intro id hid
            refine List.mem_flatMap.2 ⟨x, by simp [Op.operands], ?_⟩
            rw [ha]
            exact hid
          right
          refine ⟨.s (.c (.bptr o.length 0)), .box cs, fun K => by simp only [opBox, hv, hT]; exact h o (fun _ _ => rfl) _, fun o' hag w Im ρ a hs hn av => ?_⟩
          have hx := av x (by simp [Op.operands])
          rw [ha] at hx
          have hag2 : AgreeO ((cellsOfS v).flatMap idsC) o o' := agree_left (fun id hid => hids id (hsub id hid)) fun id hid => hag id (List.mem_cons_of_mem _ (by rw [← hop] at hsub ⊢; exact hsub id hid))
          exact (opBox_fill (v := v) (sh := sh) (x := a.eval x) (T := T) hs hx (h o' hag2) (at_app_box (hag o.length (by simp))) hn).next (by simp [execOp, hop])
  | buildSlice T n ps =>
    simp only [stepOp, hop, evOp]
    have hp' : ∀ q ∈ ps.toList, (aval t q.2).pv?.isSome = true := by
      rw [hop] at hp
      simpa only [latePlain, List.all_eq_true] using hp
    have hnl : nestEl C.E T t ps.toList = false := by
      unfold nestEl
      split
      · rename_i k i x _ hps
        have hpx := hp' (i, x) (by rw [hps]; simp)
        split
        · rename_i cs hsv
          rw [sv_some hsv] at hpx
          simp [AV.pv?] at hpx
        · rfl
      · rfl
    simp only [hnl, cond_false]
    rcases opBuildSlice_fill (T := T) (n := n) hE hp' with h | ⟨e, sh, ys, h, hf⟩
    · left; intro K; exact h _ _
    · right
      refine ⟨.s (.c (.loc o.length 0 sh 0 n)), .arr e sh 0 false ys, fun K => h _ _, fun o' hag w Im ρ a hs hn av => ?_⟩
      obtain ⟨fz, ho⟩ := at_app_arr (hag o.length (by simp))
      exact (hf (ev := a.eval) hs (fun q hq => av q.2 (by simp only [Op.operands]; exact List.mem_map.2 ⟨q, hq, rfl⟩)) ho hn).next (by simp [execOp, hop])
  | _ => rw [hop] at hq; simp at hq
end
end Go.Dp
