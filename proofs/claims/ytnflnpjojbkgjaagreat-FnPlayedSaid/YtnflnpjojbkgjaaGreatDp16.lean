/- Operations in their place in the code. -/
import Derived.Test.YtnflnpjojbkgjaaGreatDp15
set_option linter.unusedVariables false
set_option linter.unusedSimpArgs false
namespace Go.Dp

/-- What a call began with. -/
structure Base where
  w : World
  Im : Nat → Prop
  D : Nat → Prop
  bl : List Nat
/-- Where memory stands now, seen from there. -/
structure Now (B : Base) (w : World) (Im : Nat → Prop) (ρ : Nat → Option Value) (o : List AObj) : Prop where
  wd : Wd B.w w
  sr : SR w Im ρ o
  fr : ∀ b, b < B.w.heap.size → ¬ B.D b → w.heap[b]? = B.w.heap[b]?
  ow : ∀ b, Ow ρ b → B.w.heap.size ≤ b ∨ B.D b
  im : ∀ b, B.Im b → Im b ∧ w.heap[b]? = B.w.heap[b]?
  imn : ∀ b, Im b → B.Im b ∨ B.w.heap.size ≤ b ∨ B.D b
  hd : ∀ (j b : Nat), B.bl[j]? = some b → RB ρ o j 0 (.pointer (some ⟨b, 0, none⟩))
structure Sta (B : Base) (s : St) (a : Act) (w : World) : Prop where
  ex : ∃ Im ρ, Now B w Im ρ s.o ∧ TR w Im ρ s.o s.t a
  df : a.defers = []
section
variable {P : Program} {E : Env} {w w' : World} {Im Im' : Nat → Prop} {ρ ρ' : Nat → Option Value} {o o' : List AObj} {r : List SV × List (List CV)} {t : List AV} {a : Act} {B : Base} {C : Ctx}
theorem Now.step (h : Now B w Im ρ o) (st : Step w Im ρ o w' Im' ρ' o') : Now B w' Im' ρ' o' := by
  refine ⟨h.wd.trans st.wd, st.sr, ?_, ?_, ?_, ?_, fun j b hj => st.keep (.bptr j 0) _ (h.hd j b hj)⟩
  · intro b hb hd
    rw [st.fr b (Nat.lt_of_lt_of_le hb h.wd.size) (fun id v hv hbk => ?_), h.fr b hb hd]
    rcases h.ow b ⟨id, v, hv, hbk⟩ with h1 | h1
    · omega
    · exact hd h1
  · rintro b ⟨id, v, hv, hb⟩
    rcases st.ow id v b hv hb with h1 | h1
    · exact .inl (Nat.le_trans h.wd.size h1)
    · exact h.ow b h1
  · intro b hb
    have h1 := h.im b hb
    have h2 := st.im b h1.1
    exact ⟨h2.1, h2.2.trans h1.2⟩
  · intro b hb
    rcases st.imn b hb with h1 | h1 | h1
    · exact h.imn b h1
    · exact .inr (.inl (Nat.le_trans h.wd.size h1))
    · exact .inr (h.ow b h1)
theorem set_same {l : List AV} {i : Nat} {v : AV} (h : getT l i = v) (hv : v ≠ .undef) : l.set i v = l := by
  apply List.ext_getElem?
  intro j
  by_cases e : i = j
  · subst e
    unfold getT at h
    rcases Nat.lt_or_ge i l.length with hi | hi
    · rw [List.getElem?_set_self hi]
      simp [hi] at h
      simp [hi, h]
    · rw [List.getElem?_eq_none (by omega)] at h
      exact absurd h.symm hv
  · rw [List.getElem?_set_ne e]
theorem branch_some {x : Operand} {K : Bool → List AV → R} (h : branch t x K = some r) : ∃ b, aval t x = .p (.bool b) ∧ K b t = some r := by
  unfold branch at h
  split at h
  · rename_i i
    obtain ⟨b, hb, h⟩ := bind_some h
    have hv := bool_some hb
    refine ⟨b, hv, ?_⟩
    have e : t.set i (.p (.bool b)) = t := set_same hv (by simp)
    cases b
    · simpa [e] using h
    · simpa [e] using h
  · rename_i v
    obtain ⟨b, hb, h⟩ := bind_some h
    refine ⟨b, bool_some hb, ?_⟩
    cases b
    · exact h
    · exact h
  · cases h
/-- What one operation that is carried out does to the state. -/
theorem stepOp_sound (hE : EnvOK P C.E) (hC : ∀ g args bs r, C.call g args bs = some r → Contract P g args bs r) (oo : Oper) {K : St → R} (hs : SR w Im ρ o) (av : ∀ x ∈ oo.op.operands.toList, RA w Im ρ o (aval t x) (a.eval x)) (h : stepOp C oo ⟨t, o⟩ K = some r)
    {next : Act → World → Prop} {Q : Exit → Act → World → Prop} (hn : ∀ v o' y w' Im' ρ', K ⟨putD t oo.dst v, o'⟩ = some r → Step w Im ρ o w' Im' ρ' o' → RA w' Im' ρ' o' v y → next (a.put oo.dst y) w') : oo.wp P a w next Q := by
  unfold Oper.wp
  have evs : ∀ {op}, oo.op = op → evOp C.E op ⟨t, o⟩ (fun v ob => K ⟨putD t oo.dst v, ob⟩) = some r → oo.upon P a next Q ((execOp a.eval oo).run P w) := by
    intro op hop h
    obtain ⟨v, o', y, w', Im', ρ', h1, h2, h3, h4⟩ := evOp_sound hE hs oo hop (by rw [← hop]; exact av) h
    rcases h4 with h4 | ⟨h4, rfl⟩
    · rw [h4]; exact hn v o' y w' Im' ρ' h1 h2 h3
    · rw [h4]; exact hn v o' _ w' Im' ρ' h1 h2 h3
  unfold stepOp at h
  split at h
  · rename_i c x y hop
    obtain ⟨b, hb, h⟩ := branch_some h
    have hc := av c (by rw [hop]; simp [Op.operands])
    rw [hb] at hc
    have hc' : a.eval c = .bool b := RA.bool (a := .p (.bool b)) rfl hc
    have hrun : (execOp a.eval oo).run P w = .ok (.value (if b = true then a.eval x else a.eval y)) w := by simp [execOp, hop, hc', asBool]
    rw [hrun]
    refine hn _ o _ w Im ρ h (Step.refl hs) ?_
    cases b
    · exact av y (by rw [hop]; simp [Op.operands])
    · exact av x (by rw [hop]; simp [Op.operands])
  · rename_i c hop
    split at h
    · rename_i f hcal
      have hf := av f (by rw [hop]; simp [Op.operands, Call.operands, hcal])
      obtain ⟨g, vs, hv, hent, hcalls⟩ := callOp_sound hE hC hs (ys := c.args.toList.map a.eval) hf (by simp) (fun i x y hx hy => by
        simp only [List.getElem?_map, Option.map_eq_some_iff] at hx hy
        obtain ⟨z, hz, rfl⟩ := hx
        obtain ⟨z', hz', rfl⟩ := hy
        rw [hz] at hz'
        injection hz' with hz'
        subst hz'
        have hz := List.mem_of_getElem? hz
        exact av z (by rw [hop]; simp only [Op.operands, Call.operands, hcal]; simp at hz ⊢; exact .inr hz)) h
      obtain ⟨fn, hfn, hbody, hname⟩ := hent
      have hrun : (execOp a.eval oo).run P w = .ok (.enter g (c.args.toList.map a.eval ++ vs.toList).toArray) w := by
        have hb : ¬ fn.body = none := by cases h : fn.body <;> simp_all
        have he : (c.args.toList.map a.eval ++ vs.toList).toArray = c.args.map a.eval ++ vs := by apply Array.ext'; simp
        rw [he]
        simp [execOp, hop, resolve, hcal, hv, Deferred.ofValue, invoke, callFunc, hfn, hname, hb]
      rw [hrun]
      refine Calls.mono hcalls ?_
      rintro e w' ⟨v, v', o', Im', ρ', rfl, h1, h2, h3⟩
      exact hn v' o' v w' Im' ρ' h1 h2 h3
    · exact evs rfl h
  · exact evs rfl h
theorem RA_tup0 : RA w Im ρ o (.tup []) undef := ⟨#[], rfl, rfl, fun i c y h => by simp at h⟩
theorem skipped_some {v : AV} (h : skipped v = true) : v = .tup [] := by
  unfold skipped at h
  split at h
  · rfl
  · cases h
theorem skipped_wanted {ops : Array Oper} {oo : Oper} {j : Nat} {want : Bool} {d : Tmp} (hg : oo.guard = some (j, want)) (hd : (ops[j]?).bind (·.dst) = some d) {v : AV} (h : skipped v = true) (hra : RA w Im ρ o v (a.tmps.getD d undef)) : Region.wanted oo (yielded ops a.tmps) = false := by
  rw [skipped_some h] at hra
  obtain ⟨vs, hv, _, _⟩ := hra
  have hy : yielded ops a.tmps j = none := by
    unfold yielded
    rw [hd]
    simp only [Option.bind_some]
    rw [Array.getD_eq_getD_getElem?] at hv
    cases hq : a.tmps[d]? with
    | none => rfl
    | some u => rw [hq] at hv; simp at hv; subst hv; rfl
  simp [Region.wanted, hg, hy]
/-- The same with its guard, in a region. -/
theorem guarded_sound (hE : EnvOK P C.E) (hC : ∀ g args bs r, C.call g args bs = some r → Contract P g args bs r) {ops : Array Oper} {i : Nat} {oo : Oper} (hi : ops[i]? = some oo) {K : St → R} (hs : SR w Im ρ o)
    (av : ∀ x ∈ oo.op.operands.toList, RA w Im ρ o (aval t x) (a.eval x)) (ag : ∀ j want d, oo.guard = some (j, want) → (ops[j]?).bind (·.dst) = some d → RA w Im ρ o (getT t d) (a.tmps.getD d undef)) (h : guarded C ops oo ⟨t, o⟩ K = some r)
    {next : Act → World → Prop} {Q : Exit → Act → World → Prop} (hn : ∀ v o' y w' Im' ρ', K ⟨putD t oo.dst v, o'⟩ = some r → Step w Im ρ o w' Im' ρ' o' → RA w' Im' ρ' o' v y → next (a.put oo.dst y) w') : wpOp P ops Q i next a w := by
  unfold wpOp
  simp only [hi]
  unfold guarded at h
  split at h
  · rename_i hg
    have hw : Region.wanted oo (yielded ops a.tmps) = true := by simp [Region.wanted, hg]
    rw [if_pos hw]
    exact .inl (stepOp_sound hE hC oo hs av h hn)
  · rename_i j want hg
    split at h
    · rename_i d hd
      have hgd := ag j want d hg hd
      cases hsk : skipped (getT t d) with
      | true =>
        rw [hsk] at h
        simp only [cond_true] at h
        rw [skipped_wanted hg hd hsk hgd]
        simp only [Bool.false_eq_true, if_false]
        exact hn (.tup []) o undef w Im ρ h (Step.refl hs) RA_tup0
      | false =>
      rw [hsk] at h
      simp only [cond_false] at h
      obtain ⟨b, hb, h⟩ := branch_some h
      have hb' : getT t d = .p (.bool b) := hb
      rw [hb'] at hgd
      have hv : a.tmps.getD d undef = .bool b := RA.bool (a := .p (.bool b)) rfl hgd
      have hy : yielded ops a.tmps j = some b := by
        unfold yielded
        rw [hd]
        simp only [Option.bind_some]
        rw [Array.getD_eq_getD_getElem?] at hv
        cases hq : a.tmps[d]? with
        | none => rw [hq] at hv; simp [undef] at hv
        | some v => rw [hq] at hv; simp at hv; subst hv; rfl
      have hw : Region.wanted oo (yielded ops a.tmps) = (b == want) := by simp [Region.wanted, hg, hy]
      rw [hw]
      cases hbw : b == want <;> rw [hbw] at h <;> simp only [cond_true, cond_false] at h
      · simp only [Bool.false_eq_true, if_false]
        exact hn (.tup []) o undef w Im ρ h (Step.refl hs) RA_tup0
      · simp only [if_true]
        exact .inl (stepOp_sound hE hC oo hs av h hn)
    · cases h
/-- In the order of the text. -/
theorem evOps_sound (hE : EnvOK P C.E) (hC : ∀ g args bs r, C.call g args bs = some r → Contract P g args bs r) {ops : Array Oper} {Q : Exit → Act → World → Prop} {K : St → R} (hQ : ∀ s a w, K s = some r → Sta B s a w → Q .normal a w) :
    ∀ {l : List Nat} {s : St} {a : Act} {w : World}, evOps C ops l s K = some r → Sta B s a w → wpOps P ops Q l a w
  | [], s, a, w, h, hs => hQ s a w h hs
  | i :: l, s, a, w, h, hs => by
    rw [wpOps_cons]
    simp only [evOps] at h
    split at h
    · rename_i oo hi
      obtain ⟨⟨Im, ρ, hnow, ht⟩, hdf⟩ := hs
      refine guarded_sound hE hC hi hnow.sr (fun x _ => aval_sound ht x) (fun j want d _ _ => ht.at_ d) h ?_
      intro v o' y w' Im' ρ' hk hst hra
      refine evOps_sound hE hC hQ hk ⟨⟨Im', ρ', hnow.step hst, (ht.mono hst.keepA).put hra oo.dst⟩, ?_⟩
      cases oo.dst <;> exact hdf
    · cases h
end
end Go.Dp
