/- A composite row with plain elements, made late. -/
import Derived.Test.YtocmjgfbcpgaoaaDp11f
set_option linter.unusedVariables false
set_option linter.unusedSimpArgs false
namespace Go.Dp
section
variable {P : Program} {E : Env} {w w' : World} {Im Im' : Nat → Prop} {ρ ρ' : Nat → Option Value} {o o' : List AObj} {n : Nat}
theorem elemsIn_plain {sh : Nat} {t : List AV} {ev : Operand → Value} : ∀ {ps : List (Nat × Operand)} {n : Nat}, (∀ q ∈ ps, (aval t q.2).pv?.isSome = true) →
    (∀ o K, elemsIn sh t n ps o K = none) ∨ ∃ ys, (∀ o K, elemsIn sh t n ps o K = K ys o) ∧ ys.length = ps.length ∧ (∀ y ∈ ys, y.shp sh = true) ∧ (ps.map fun q => (q.1, ev q.2)) = ((ps.map fun q => ev q.2).zipIdx n).map (fun x => (x.2, x.1)) ∧
      ∀ (i : Nat) (y : PV) (q : Nat × Operand), ys[i]? = some y → ps[i]? = some q → aval t q.2 = .p y := by
  intro ps
  induction ps with
  | nil => intro n h; exact .inr ⟨[], fun o K => rfl, rfl, by simp, rfl, fun i y q hy => by simp at hy⟩
  | cons q ps ih =>
    intro n h
    obtain ⟨i, x⟩ := q
    obtain ⟨v, hv⟩ := Option.isSome_iff_exists.1 (h (i, x) (by simp))
    have ha : aval t x = .p v := pv_some hv
    by_cases hi : i = n
    · subst hi
      cases hy : v.shp sh with
      | false => left; intro o K; simp [elemsIn, ha, AV.sv?, freezeS, freezeC, hy]
      | true =>
        rcases ih (n := i + 1) (fun q hq => h q (by simp [hq])) with h1 | ⟨ys, h1, hl, hsh, hz, hr⟩
        · left; intro o K; simp [elemsIn, ha, AV.sv?, freezeS, freezeC, hy, h1]
        · right
          refine ⟨v :: ys, fun o K => ?_, by simp [hl], ?_, ?_, ?_⟩
          · simp [elemsIn, ha, AV.sv?, freezeS, freezeC, hy, h1]
          · intro z hz
            rcases List.mem_cons.1 hz with rfl | hz
            · exact hy
            · exact hsh z hz
          · simp only [List.map_cons, List.zipIdx_cons, hz]
          · intro j z q hz hq
            cases j with
            | zero => simp at hz hq; subst hz; subst hq; exact ha
            | succ j => exact hr j z q (by simpa using hz) (by simpa using hq)
    · left
      intro o K
      have : (i == n) = false := by simpa using hi
      simp only [elemsIn, this, cond_false]
theorem opBuildSlice_fill (hE : EnvOK P E) {T : TypeId} {n : Nat} {t : List AV} {ps : Array (Nat × Operand)} (hp : ∀ q ∈ ps.toList, (aval t q.2).pv?.isSome = true) :
    (∀ o K, opBuildSlice E T n t ps.toList o K = none) ∨ ∃ e sh ys, (∀ o K, opBuildSlice E T n t ps.toList o K = K (.s (.c (.loc o.length 0 sh 0 n))) (o ++ [.arr e sh 0 false ys])) ∧
      ∀ {w : World} {Im : Nat → Prop} {ρ : Nat → Option Value} {o : List AObj} {m : Nat} {fz : Bool} {ev : Operand → Value}, SR w Im ρ o → (∀ q ∈ ps.toList, RA w Im ρ o (aval t q.2) (ev q.2)) → o[m]? = some (.arr e sh 0 fz ys) → ρ m = none →
        DidF P w Im ρ o m (.s (.c (.loc m 0 sh 0 n))) (Instr.buildSlice T n (ps.map fun (i, x) => (i, ev x))) := by
  cases hT : E.sl T with
  | none => left; intro o K; simp [opBuildSlice, hT]
  | some q =>
  obtain ⟨e, sh, by_⟩ := q
  cases hcnd : (ps.toList.length == n && decide (n * csz sh ≤ 16777216)) with
  | false => left; intro o K; simp only [opBuildSlice, hT, hcnd, cond_false]
  | true =>
  rcases elemsIn_plain (sh := sh) (t := t) (ev := fun _ => undef) (n := 0) hp with h | ⟨ys, h, hl, hsh, _, hr0⟩
  · left; intro o K; simp only [opBuildSlice, hT, hcnd, cond_true]; exact h _ _
  right
  refine ⟨e, sh, ys, fun o K => ?_, ?_⟩
  · simp only [opBuildSlice, hT, hcnd, cond_true]
    exact h _ _
  intro w Im ρ o m fz ev hs hra ho hm
  simp only [Bool.and_eq_true, beq_iff_eq, decide_eq_true_eq] at hcnd
  obtain ⟨hn, hsm⟩ := hcnd
  have hz : (ps.toList.map fun q => (q.1, ev q.2)) = ((ps.toList.map fun q => ev q.2).zipIdx 0).map (fun x => (x.2, x.1)) := by
    rcases elemsIn_plain (sh := sh) (t := t) (ev := ev) (n := 0) hp with h1 | ⟨_, _, _, _, h1, _⟩
    · have := h o fun _ _ => some ([], [])
      rw [h1] at this
      cases this
    · exact h1
  have hr : ∀ (i : Nat) (y : PV) (q : Nat × Operand), ys[i]? = some y → ps.toList[i]? = some q → RP w Im y (ev q.2) := by
    intro i y q hy hq
    have h1 := hra q (List.mem_of_getElem? hq)
    rw [hr0 i y q hy hq] at h1
    exact h1
  obtain ⟨hu, ⟨inf, z, hi, hsz, hby, hiz, hzs⟩, _⟩ := hE.sl T e sh by_ hT
  have hp := csz_pos sh
  have hcell : ∀ v ∈ ps.toList.map (fun q => ev q.2), v.cells.size = csz sh := by
    intro v hv
    obtain ⟨i, hi', rfl⟩ := List.getElem_of_mem hv
    simp only [List.length_map] at hi'
    have hiy : i < ys.length := by rw [hl]; exact hi'
    have := (hr i ys[i] ps.toList[i] (by simp [hiy]) (by rw [List.getElem?_eq_getElem hi'])).cells.1
    simp only [List.getElem_map]
    rw [this, PV.shp_len (hsh _ (List.getElem_mem hiy))]
  obtain ⟨zc, hzc⟩ : ∃ zc, zc = (Array.range (n * csz sh)).map (fun k => (if n * csz sh = 0 then (#[] : Array Value) else z.cells)[k % (if n * csz sh = 0 then (#[] : Array Value) else z.cells).size]!) := ⟨_, rfl⟩
  have hzcs : zc.size = n * csz sh := by rw [hzc]; simp
  obtain ⟨cells, hfill, hcs, hget⟩ := Great.fill_dense hp (ps.toList.map fun q => ev q.2) 0 zc hcell (by rw [hzcs]; simp [← hn])
  rw [← hz] at hfill
  have hfill' : Instr.fill (fun i => some (i * inf.size, inf.size)) zc (ps.map fun (i, x) => (i, ev x)).toList = some cells := by
    rw [hsz, ← hfill]; simp
  have hrun : (Instr.buildSlice T n (ps.map fun (i, x) => (i, ev x))).run P w = .ok (.slice (some ⟨w.heap.size, 0, none⟩) n n) (w.alloc (.cells cells e)) := by
    have hsm' : ¬ n * csz sh > 2 ^ 24 := by omega
    by_cases h0 : n * csz sh = 0
    · rw [if_pos h0] at hzc
      subst hzc
      simp only [h0] at hfill'
      simp [Instr.buildSlice, run_underlying hu, sizeOf, typeInfo, hi, hsz, h0]
      simp [hsz] at hfill'
      simp [hfill', newRow]
    · rw [if_neg h0] at hzc
      subst hzc
      exact run_buildSlice w T e n _ cells inf z hu hi hiz (by rw [hsz]; exact hsm') (by rw [hsz]; exact h0) (by rw [hsz] at hfill' ⊢; exact hfill')
  have hval : ∀ (i j : Nat), i < n → j < csz sh → ∃ q, ps.toList[i]? = some q ∧ cells.toList[i * csz sh + j]? = (ev q.2).cells[j]? := by
    intro i j hi' hj
    have hip : i < ps.toList.length := by omega
    refine ⟨ps.toList[i], by rw [List.getElem?_eq_getElem hip], ?_⟩
    rw [Array.getElem?_toList, hget, if_pos ⟨by simp, by simpa [hn] using get_flat hi' hj⟩]
    have h1 : (i * csz sh + j) / csz sh - 0 = i := by rw [Nat.mul_comm, Nat.mul_add_div hp, Nat.div_eq_of_lt hj]; rfl
    have h2 : (i * csz sh + j) % csz sh = j := by rw [Nat.mul_comm, Nat.mul_add_mod, Nat.mod_eq_of_lt hj]
    rw [h1, h2, List.getElem?_map, List.getElem?_eq_getElem hip]
    rfl
  have hyn : ys.length = n := by omega
  have hd := newArr_fill (P := P) (e := e) (sh := sh) (fz := fz) (xs := ys) (v := .slice (some ⟨w.heap.size, 0, none⟩) n n) (vals := cells.toList) hs (w' := w.alloc (.cells cells e)) ho hm ⟨rfl, rfl, rfl, by simp⟩ (fun b hb => push_old _ _ _ hb) ?_ (fun b hb => by simp at hb; omega) hsh ?_ hrun
  · rw [hyn] at hd
    exact hd
  · refine ⟨by simp [hcs, hzcs, hyn], .inr ⟨w.heap.size, n, cells, by rw [hyn], Nat.zero_le _, push_new _ _, by omega, ?_, by rw [hcs, hzcs], ?_⟩⟩
    · have h1 : n * 1 ≤ n * csz sh := Nat.mul_le_mul_left _ hp
      simp only [maxLen]
      omega
    · rw [hyn, ← hzcs, ← hcs, ← Array.length_toList, List.take_length]
  · intro i x j c y hx hj hy
    have hin : i < n := by rw [← hyn]; exact (List.getElem?_eq_some_iff.1 hx).1
    have hjl : j < csz sh := by rw [← PV.shp_len (hsh x (List.mem_of_getElem? hx))]; exact (List.getElem?_eq_some_iff.1 hj).1
    obtain ⟨q, hq, hqc⟩ := hval i j hin hjl
    rw [hqc] at hy
    exact (hr i x q hx hq).cells.2 j c y hj hy
end
end Go.Dp
