/- Loops' heads: objects named anew. -/
import Derived.Test.YtnflnpjojbkgjaaGreatDp16
set_option linter.unusedVariables false
set_option linter.unusedSimpArgs false
namespace Go.Dp
section
variable {P : Program} {E : Env} {w w' : World} {Im Im' : Nat → Prop} {ρ ρ' : Nat → Option Value} {o o' : List AObj} {r : List SV × List (List CV)} {t : List AV} {a : Act} {B : Base} {C : Ctx} {L : List Nat}

def named (ρ : Nat → Option Value) (L : List Nat) : Nat → Option Value := fun j => (L[j]?).bind ρ
theorem renSt_get (j : Nat) : (renSt L o)[j]? = (L[j]?).map fun id => renO L o ((o[id]?).getD .dead) := by simp [renSt]
theorem renSt_at {j id : Nat} {x : AObj} (hj : L[j]? = some id) (hx : o[id]? = some x) : (renSt L o)[j]? = some (renO L o x) := by rw [renSt_get, hj]; simp [hx]
theorem RB.ren {id j off : Nat} {y : Value} (hj : L[j]? = some id) {cs : List CV} (ho : o[id]? = some (.box cs)) (h : RB ρ o id off y) : RB (named ρ L) (renSt L o) j off y := by
  simp only [RB, ho] at h
  obtain ⟨b, hb, hy⟩ := h
  simp only [RB, renSt_at hj ho, renO]
  exact ⟨b, by simp [named, hj, hb], hy⟩
theorem RC.ren (hs : SR w Im ρ o) {c : CV} {y : Value} (h : RC w Im ρ o c y) : RC w Im (named ρ L) (renSt L o) (renC L o c) y := by
  cases c with
  | undef => trivial
  | p v => exact h
  | own e sh xs => exact h.elim
  | nel => trivial
  | aptr => trivial
  | eptr v sh off => exact h
  | loc id ver sh lo len =>
    simp only [renC]
    split
    · rename_i e sh' ver' fz xs ho
      cases hc : (ver == ver' && sh == sh')
      · trivial
      · simp only [cond_true]
        simp only [Bool.and_eq_true, beq_iff_eq] at hc
        obtain ⟨rfl, rfl⟩ := hc
        cases fz with
        | true =>
          simp only [cond_true]
          have hkd : e.kd = none := by
            simp only [RC, ho] at h
            obtain ⟨hle, v, hv, hsl⟩ := h.2 trivial trivial
            obtain ⟨vals, _, _, _, _, hk⟩ := hs.ob id _ _ ho hv
            cases hk0 : e.kd with
            | none => rfl
            | some k => simp [RKids, hk0] at hk
          refine view_sound (Im2 := Im) hs (fun _ h => h) h (by simp [viewLoc, ho, hkd]) fun u b hu hb => ?_
          obtain ⟨vals, _, _, _, hz, _⟩ := hs.ob id _ _ ho hu
          exact (hz b hb).2 rfl
        | false =>
          simp only [cond_false]
          split
          · rename_i j hj
            have hj' := idx_some hj
            simp only [RC, ho] at h
            obtain ⟨hle, v, hv, hsl⟩ := h.2 trivial trivial
            simp only [RC, renSt_at hj' ho, renO]
            exact ⟨Nat.zero_le _, fun _ _ => ⟨hle, v, by simp [named, hj', hv], hsl⟩⟩
          · trivial
    · trivial
  | bptr id off =>
    simp only [renC]
    split
    · rename_i cs j ho hj
      exact RB.ren (idx_some hj) ho h
    · trivial
  | fn f caps =>
    simp only [renC]
    split
    · rename_i js hjs
      cases hall : caps.all (fun i => match o[i]? with | some (.box _) => true | _ => false)
      · trivial
      · simp only [cond_true]
        simp only [List.all_eq_true] at hall
        obtain ⟨hl, hr⟩ := idxs_some hjs
        obtain ⟨vs, hx, hl2, hh⟩ := h
        refine ⟨vs, hx, by omega, fun i j hij => ?_⟩
        obtain ⟨id, h1, h2⟩ := hr i j hij
        obtain ⟨z, hz, hb⟩ := hh i id h1
        have h3 := hall id (List.mem_of_getElem? h1)
        split at h3
        · rename_i cs ho
          exact ⟨z, hz, RB.ren h2 ho hb⟩
        · cases h3
    · trivial
theorem RS.ren (hs : SR w Im ρ o) {v : SV} {y : Value} (h : RS w Im ρ o v y) : RS w Im (named ρ L) (renSt L o) (renS L o v) y := by
  cases v with
  | c c => exact RC.ren hs h
  | agg cs =>
    obtain ⟨vs, rfl, hl, hr, h1⟩ := h
    refine ⟨vs, rfl, by simpa using hl, fun i c z hc hz => ?_, h1⟩
    simp only [List.getElem?_map, Option.map_eq_some_iff] at hc
    obtain ⟨c', hc', rfl⟩ := hc
    exact RC.ren hs (hr i c' z hc' hz)
theorem RA.ren (hs : SR w Im ρ o) {v : AV} {y : Value} (h : RA w Im ρ o v y) : RA w Im (named ρ L) (renSt L o) (renA L o v) y := by
  cases v with
  | s v => exact RS.ren hs h
  | tup ts =>
    obtain ⟨vs, rfl, hl, hr⟩ := h
    refine ⟨vs, rfl, by simpa using hl, fun i c z hc hz => ?_⟩
    simp only [List.getElem?_map, Option.map_eq_some_iff] at hc
    obtain ⟨c', hc', rfl⟩ := hc
    exact RS.ren hs (hr i c' z hc' hz)
theorem RO.reset {ρ ρ' : Nat → Option Value} {o o' : List AObj} {v : Value} {e : Et} {sh ver ver' : Nat} {fz : Bool} {xs : List PV} (h : RO w Im ρ o v (.arr e sh ver fz xs)) : RO w Im ρ' o' v (.arr e.reset sh ver' fz xs) := by
  unfold Et.reset
  split
  · exact h
  · rename_i k hk
    obtain ⟨vals, h1, h2, h3, h4, h5⟩ := h
    simp only [RKids, hk] at h5
    obtain ⟨h6, ks, h7, h8, h9⟩ := h5
    refine ⟨vals, h1, h2, fun i x j c y a b d => ?_, h4, h6, ks, h7, ⟨h8.len, h8.jlt, h8.kid, h8.out, h8.inj, h8.one⟩, h9⟩
    have := h3 i x j c y a b d
    unfold RPk at this
    rw [hk] at this
    exact this
theorem SR.ren (hs : SR w Im ρ o) (hL : L.Nodup) : SR w Im (named ρ L) (renSt L o) := by
  have nm : ∀ j v, named ρ L j = some v → ∃ id, L[j]? = some id ∧ ρ id = some v := by
    intro j v h
    obtain ⟨id, h1, h2⟩ := bind_some h
    exact ⟨id, h1, h2⟩
  refine ⟨?_, ?_, ?_, hs.im, ?_⟩
  · intro j x v hx hv
    obtain ⟨id, hj, hv⟩ := nm j v hv
    obtain ⟨x0, hx0⟩ : ∃ x0, o[id]? = some x0 := ⟨_, List.getElem?_eq_getElem (hs.lt id v hv).1⟩
    rw [renSt_at hj hx0] at hx
    injection hx with hx
    subst hx
    have h := hs.ob id x0 v hx0 hv
    cases x0 with
    | dead => trivial
    | box cs =>
      obtain ⟨b, vs, e, h1, h2, h3, h4, h5, h6⟩ := h
      refine ⟨b, vs, e, h1, h2, by simpa using h3, fun i c z hc hz => ?_, h5, h6⟩
      simp only [List.getElem?_map, Option.map_eq_some_iff] at hc
      obtain ⟨c', hc', rfl⟩ := hc
      exact RC.ren hs (h4 i c' z hc' hz)
    | arr e sh ver fz xs => exact RO.reset h
  · intro j j' v v' b hv hv' hb hb'
    obtain ⟨id, hj, hv⟩ := nm j v hv
    obtain ⟨id', hj', hv'⟩ := nm j' v' hv'
    have := hs.inj id id' v v' b hv hv' hb hb'
    subst this
    have h1 := List.getElem?_eq_some_iff.1 hj
    have h2 := List.getElem?_eq_some_iff.1 hj'
    exact (List.getElem_inj hL).1 (h1.2.trans h2.2.symm)
  · intro j v hv
    obtain ⟨id, hj, hv⟩ := nm j v hv
    exact ⟨by simp [renSt]; exact (List.getElem?_eq_some_iff.1 hj).1, (hs.lt id v hv).2⟩
  · intro j hd
    rw [renSt_get] at hd
    obtain ⟨id, hj, hd⟩ := Option.map_eq_some_iff.1 hd
    simp only [named, hj, Option.bind_some]
    cases ho : o[id]? with
    | none =>
      cases hv : ρ id with
      | none => rfl
      | some v =>
        have := (hs.lt id v hv).1
        rw [List.getElem?_eq_none_iff] at ho
        omega
    | some x =>
      rw [ho] at hd
      simp only [Option.getD_some] at hd
      cases x <;> simp [renO] at hd
      exact hs.dd id ho

theorem keepT_get (live : List Nat) : ∀ (t : List AV) (k i : Nat), (keepT live k t).length = t.length ∧ (getT (keepT live k t) i = getT t i ∨ getT (keepT live k t) i = .undef)
  | [], k, i => ⟨rfl, .inl rfl⟩
  | v :: t, k, i => by
    have ih := keepT_get live t (k + 1)
    refine ⟨by simp [keepT, (ih 0).1], ?_⟩
    cases i with
    | zero =>
      simp only [keepT, getT, List.getElem?_cons_zero, Option.getD_some]
      cases live.contains k
      · exact .inr rfl
      · exact .inl rfl
    | succ i => simpa [keepT, getT] using (ih i).2
theorem prefix_add1 (l : List Nat) (i : Nat) : l <+: add1 l i := by
  unfold add1
  cases l.contains i
  · exact List.prefix_append _ _
  · exact List.prefix_refl _
theorem prefix_adds : ∀ (is l : List Nat), l <+: adds l is
  | [], l => List.prefix_refl l
  | i :: is, l => (prefix_add1 l i).trans (prefix_adds is (add1 l i))
theorem reach_ok (o : List AObj) (m : Nat) (cs : List CV) : (reach o m cs).Nodup ∧ List.range m <+: reach o m cs := by
  unfold reach
  refine ⟨nodup_adds (nodup_adds (nodup_adds (nodup_adds List.nodup_range))), ?_⟩
  exact (((prefix_adds _ _).trans (prefix_adds _ _)).trans (prefix_adds _ _)).trans (prefix_adds _ _)
theorem Sta.canon {s : St} (h : Sta B s a w) (live : List Nat) : Sta B (canon B.bl.length live s) a w := by
  obtain ⟨⟨Im, ρ, hn, ht⟩, hd⟩ := h
  obtain ⟨L, hL⟩ : ∃ L, L = reach s.o B.bl.length ((keepT live 0 s.t).flatMap cellsOfA) := ⟨_, rfl⟩
  have hok := reach_ok s.o B.bl.length ((keepT live 0 s.t).flatMap cellsOfA)
  rw [← hL] at hok
  have hc : Dp.canon B.bl.length live s = ⟨(keepT live 0 s.t).map (renA L s.o), renSt L s.o⟩ := by rw [hL]; rfl
  rw [hc]
  refine ⟨⟨Im, named ρ L, ⟨hn.wd, hn.sr.ren hok.1, hn.fr, ?_, hn.im, hn.imn, ?_⟩, ⟨?_, ?_⟩⟩, hd⟩
  · rintro b ⟨j, v, hv, hb⟩
    obtain ⟨id, _, h2⟩ := bind_some hv
    exact hn.ow b ⟨id, v, h2, hb⟩
  · intro j b hj
    have hjl := (List.getElem?_eq_some_iff.1 hj).1
    have hLj : L[j]? = some j := by
      obtain ⟨l2, hl2⟩ := hok.2
      rw [← hl2, List.getElem?_append_left (by simpa using hjl), List.getElem?_range hjl]
    have h := hn.hd j b hj
    cases ho : s.o[j]? with
    | none => simp [RB, ho] at h
    | some x =>
      cases x with
      | box cs => exact RB.ren hLj ho h
      | dead => simp [RB, renSt_at hLj ho, renO]
      | arr e sh ver fz xs => simp [RB, renSt_at hLj ho, renO]
  · simp only [List.length_map]
    rw [(keepT_get live s.t 0 0).1]
    exact ht.size
  · intro i
    have h1 : getT ((keepT live 0 s.t).map (renA L s.o)) i = renA L s.o (getT (keepT live 0 s.t) i) := by
      simp only [getT, List.getElem?_map]
      cases (keepT live 0 s.t)[i]? <;> rfl
    rw [h1]
    rcases (keepT_get live s.t 0 i).2 with h2 | h2
    · rw [h2]; exact RA.ren hn.sr (ht.at_ i)
    · rw [h2]; trivial
/-! ### Nil rows as rows of one's own -/
theorem rebox (hs : SR w Im ρ o) {i : Nat} {c0 ds : List CV} (ho : o[i]? = some (.box c0)) (hl : ds.length = c0.length)
    (hr : ∀ (k : Nat) (c : CV) (y : Value), ds[k]? = some c → (∀ c', c0[k]? = some c' → RC w Im ρ o c' y) → RC w Im ρ o c y) :
    SR w Im ρ (o.set i (.box ds)) ∧ Inn w Im ρ o ρ (o.set i (.box ds)) (fun _ => False) := by
  have hlt := (List.getElem?_eq_some_iff.1 ho).1
  have hc : Compat ρ ρ o (o.set i (.box ds)) := by
    intro j a ha
    by_cases e1 : j = i
    · subst e1
      rw [ho] at ha
      injection ha with ha
      subst ha
      exact ⟨.box ds, by rw [List.getElem?_set_self hlt], rfl⟩
    · exact ⟨a, by rw [List.getElem?_set_ne (Ne.symm e1)]; exact ha, by cases a <;> simp [CompatO]⟩
  refine ⟨⟨?_, hs.inj, fun id v hv => ⟨by simpa using (hs.lt id v hv).1, (hs.lt id v hv).2⟩, hs.im, ?_⟩, ⟨fun c y hy => RC.compat him_refl hc hy, fun b hb => .inl hb, ?_, ?_, by simp, fun _ _ h => h⟩⟩
  · intro j a v ha hv
    by_cases e1 : j = i
    · subst e1
      rw [List.getElem?_set_self hlt] at ha
      injection ha with ha
      subst ha
      obtain ⟨b, vs, e, h1, h2, h3, h4, h5, h6⟩ := hs.ob j _ v ho hv
      exact ⟨b, vs, e, h1, h2, by omega, fun k c y hk hy => RC.compat him_refl hc (hr k c y hk fun c' hc' => h4 k c' y hc' hy), h5, h6⟩
    · rw [List.getElem?_set_ne (Ne.symm e1)] at ha
      exact RO.keep him_refl hc (fun _ _ => rfl) (fun _ _ h => h) (hs.ob j a v ha hv)
  · intro j hd
    by_cases e1 : j = i
    · subst e1; rw [List.getElem?_set_self hlt] at hd; cases hd
    · rw [List.getElem?_set_ne (Ne.symm e1)] at hd; exact hs.dd j hd
  · intro j cs' hj
    by_cases e1 : j = i
    · subst e1
      rw [ho] at hj
      injection hj with hj
      exact ⟨ds, by rw [List.getElem?_set_self hlt], rfl⟩
    · exact ⟨cs', by rw [List.getElem?_set_ne (Ne.symm e1)]; exact hj, rfl⟩
  · intro hm j a ha hd
    by_cases e1 : j = i
    · subst e1; exact hm j _ ho (by simp)
    · rw [List.getElem?_set_ne (Ne.symm e1)] at ha; exact hm j a ha hd
theorem nil_of_RP2 {sh : Nat} {xs : List PV} {y : Value} (h : RP w Im (.row sh 2 xs) y) : y = .slice none 0 0 := by
  cases h with
  | nil => rfl
  | row _ _ _ a cap g hf2 => exact absurd rfl hf2
theorem Now.inn (h : Now B w Im ρ o) (hs : SR w Im ρ' o') (hi : Inn w Im ρ o ρ' o' (fun _ => False)) : Now B w Im ρ' o' := by
  refine ⟨h.wd, hs, h.fr, fun b hb => ?_, h.im, h.imn, fun j b hj => hi.keep (.bptr j 0) _ (h.hd j b hj)⟩
  rcases hi.own b hb with h1 | h1
  · exact h.ow b h1
  · exact h1.elim
theorem innA (hi : Inn w Im ρ o ρ' o' (fun _ => False)) {v : AV} {x : Value} (hv : RA w Im ρ o v x) : RA w Im ρ' o' v x := by
  have hS : ∀ (v : SV) (x : Value), RS w Im ρ o v x → RS w Im ρ' o' v x := by
    intro v x hv
    cases v with
    | c c => exact hi.keep c x hv
    | agg cs => obtain ⟨vs, rfl, h1, h2, h3⟩ := hv; exact ⟨vs, rfl, h1, fun i c y hc hy => hi.keep c y (h2 i c y hc hy), h3⟩
  cases v with
  | s v => exact hS v x hv
  | tup ts => obtain ⟨vs, rfl, h1, h2⟩ := hv; exact ⟨vs, rfl, h1, fun i c y hc hy => hS c y (h2 i c y hc hy)⟩
theorem Sta.own1 {s : St} (h : Sta B s a w) (q : Option Nat × Nat × Et × Nat) : Sta B (own1 s q) a w := by
  obtain ⟨⟨Im, ρ, hn, ht⟩, hd⟩ := h
  have h0 : Sta B s a w := ⟨⟨Im, ρ, hn, ht⟩, hd⟩
  obtain ⟨j, i, e, sh⟩ := q
  unfold Dp.own1
  have ad : nilEt e sh = true → ∃ g : Value, SR w Im (upd ρ s.o.length (some g)) (s.o ++ [.arr e sh 0 false []]) ∧ Inn w Im ρ s.o (upd ρ s.o.length (some g)) (s.o ++ [.arr e sh 0 false []]) (fun _ => False) ∧ RC w Im (upd ρ s.o.length (some g)) (s.o ++ [.arr e sh 0 false []]) (.loc s.o.length 0 sh 0 0) (.slice none 0 0) := by
    intro hnil
    obtain ⟨g, hg, hgo, hgb⟩ := ownNilG w Im e sh hnil
    obtain ⟨a1, a2, a3⟩ := adopt (X := fun _ => False) (hn.sr.x _) hgo (fun b hb => (hgb b hb).elim)
    rw [hg] at a3
    exact ⟨g, a1.sr fun _ h => h, a2.mono fun b hb => hgb b hb, a3⟩
  cases j with
  | none =>
    simp only
    split
    · rename_i s' f xs hq
      have hx := ht.at_ i
      rw [hq] at hx
      split
      · split
        · rename_i ys hys
          have hw := (asRow_weak hys).2 w Im _ hx
          refine ⟨⟨Im, ρ, hn, ⟨by simpa using ht.size, fun k => ?_⟩⟩, hd⟩
          show RA w Im ρ s.o (getT (s.t.set i _) k) _
          rw [getT_set]
          split
          · rename_i hk
            obtain ⟨rfl, _⟩ := hk
            exact hw
          · exact ht.at_ k
        · exact h0
      · cases hf : (f == 2 && nilEt e sh)
        · exact h0
        · simp only [Bool.and_eq_true, beq_iff_eq] at hf
          obtain ⟨rfl, hnil⟩ := hf
          obtain ⟨g, hs1, a2, a3⟩ := ad hnil
          have hy := nil_of_RP2 (w := w) (Im := Im) hx
          refine ⟨⟨Im, _, hn.inn hs1 a2, ⟨by simpa using ht.size, fun k => ?_⟩⟩, hd⟩
          show RA w Im _ _ (getT (s.t.set i _) k) _
          rw [getT_set]
          split
          · rename_i hk
            obtain ⟨rfl, _⟩ := hk
            show RC w Im (upd ρ s.o.length (some g)) (s.o ++ [.arr e sh 0 false []]) (.loc s.o.length 0 sh 0 0) _
            rw [hy]
            exact a3
          · exact innA a2 (ht.at_ k)
    · exact h0
  | some j =>
    simp only
    split
    · rename_i cs ho
      split
      · rename_i s' f xs hq
        have hil := (List.getElem?_eq_some_iff.1 hq).1
        split
        · split
          · rename_i ys hys
            obtain ⟨b1, b2⟩ := rebox (ds := cs.set i (.p (.row sh 0 ys))) hn.sr ho (by simp) (fun k c y hk hc => by
              by_cases ek : k = i
              · subst ek
                rw [List.getElem?_set_self hil] at hk
                injection hk with hk
                subst hk
                exact (asRow_weak hys).2 w Im _ (hc _ hq)
              · rw [List.getElem?_set_ne (Ne.symm ek)] at hk
                exact hc c hk)
            exact ⟨⟨Im, _, hn.inn b1 b2, ⟨ht.size, fun k => innA b2 (ht.at_ k)⟩⟩, hd⟩
          · exact h0
        · cases hf : (f == 2 && nilEt e sh)
          · exact h0
          · simp only [Bool.and_eq_true, beq_iff_eq] at hf
            obtain ⟨rfl, hnil⟩ := hf
            obtain ⟨g, hs1, a2, a3⟩ := ad hnil
            have hlt := (List.getElem?_eq_some_iff.1 ho).1
            have ho1 : (s.o ++ [AObj.arr e sh 0 false []])[j]? = some (.box cs) := by rw [List.getElem?_append_left hlt]; exact ho
            obtain ⟨b1, b2⟩ := rebox (ds := cs.set i (.loc s.o.length 0 sh 0 0)) hs1 ho1 (by simp) (fun k c y hk hc => by
              by_cases ek : k = i
              · subst ek
                rw [List.getElem?_set_self hil] at hk
                injection hk with hk
                subst hk
                have := nil_of_RP2 (w := w) (Im := Im) (hc _ hq)
                rw [this]
                exact a3
              · rw [List.getElem?_set_ne (Ne.symm ek)] at hk
                exact hc c hk)
            have a4 := a2.trans b2
            exact ⟨⟨Im, _, hn.inn b1 a4, ⟨ht.size, fun k => innA a4 (ht.at_ k)⟩⟩, hd⟩
      · exact h0
    · exact h0
theorem Sta.head {s : St} (h : Sta B s a w) (live : List Nat) (own : List (Option Nat × Nat × Et × Nat)) : Sta B (head B.bl.length live own s) a w := by
  have hf : ∀ (l : List (Option Nat × Nat × Et × Nat)) (s : St), Sta B s a w → Sta B (l.foldl Dp.own1 s) a w := by
    intro l
    induction l with
    | nil => intro s h; exact h
    | cons q l ih => intro s h; exact ih _ (h.own1 q)
  unfold Dp.head
  split
  · exact h.canon live
  · exact (hf _ _ (h.canon live)).canon live
end
end Go.Dp
