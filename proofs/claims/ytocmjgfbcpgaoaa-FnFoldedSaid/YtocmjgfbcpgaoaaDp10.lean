/- Slices that are built, made and grown. -/
import Derived.Test.YtocmjgfbcpgaoaaDp9
import Derived.Lib.AppendZeros
set_option linter.unusedVariables false
set_option linter.unusedSimpArgs false
namespace Go.Dp
section
variable {P : Program} {E : Env} {w w' : World} {Im Im' : Nat → Prop} {ρ ρ' : Nat → Option Value} {o o' : List AObj} {K : Kt} {r : List SV × List (List CV)}

theorem ownsRow_lt {base : Nat} {e s n : Nat} {v : Value} {xs : List Value} (h : w.ownsRow base e s v n xs) : ∀ b, Blk v b → b < w.heap.size := by
  intro b hb
  rcases h.2 with ⟨rfl, _⟩ | ⟨g, cap, cur, rfl, _, hh, _⟩
  · exact hb.elim
  · simp at hb
    subst hb
    exact (Array.getElem?_eq_some_iff.1 hh).1
theorem ownsRow_self {base : Nat} {e s n : Nat} {v : Value} {xs : List Value} (h : w.ownsRow base e s v n xs) : RSl v s 0 n v := by
  rcases h.2 with ⟨rfl, rfl⟩ | ⟨g, cap, cur, rfl, _⟩
  · exact ⟨rfl, rfl, rfl⟩
  · exact ⟨0, rfl, Nat.zero_le _, fun _ => by simp⟩
theorem ownsRow_mainV {base : Nat} {e s n : Nat} {v : Value} {xs : List Value} (h : w.ownsRow base e s v n xs) : mainV v = v ∧ ∀ b, Blk v b ↔ kidBlk v b := by
  rcases h.2 with ⟨rfl, rfl⟩ | ⟨g, cap, cur, rfl, _⟩
  · exact ⟨rfl, fun b => Iff.rfl⟩
  · exact ⟨rfl, fun b => Iff.rfl⟩
/-- A new row of the call's own, perhaps with a column. -/
theorem newArr_gen (hs : SR w Im ρ o) {e : Et} {sh : Nat} {xs : List PV} {v V : Value} {vals : List Value} {s : Sem Value} (hwd : Wd w w') (hh : ∀ b, b < w.heap.size → w'.heap[b]? = w.heap[b]?) (hV : mainV V = v) (hown : w'.ownsRow 0 e.t (csz sh) v xs.length vals)
    (hb : ∀ b, Blk V b → w.heap.size ≤ b ∧ b < w'.heap.size) (hsh : ∀ x ∈ xs, x.shp sh = true) (hr : ∀ (i : Nat) (x : PV) (j : Nat) (c : PV) (y : Value), xs[i]? = some x → x.cells[j]? = some c → vals[i * csz sh + j]? = some y → RPk w Im e j c y)
    (hkids : RKids w' Im e sh false xs vals V)
    (hrun : s.run P w = .ok v w') (hk : K (.s (.c (.loc o.length 0 sh 0 xs.length))) (o ++ [.arr e sh 0 false xs]) = some r) : Did P w Im ρ o K r s := by
  have him : ∀ b, Im b → Im b ∧ w'.heap[b]? = w.heap[b]? := fun b h => ⟨h, hh b (hs.im b h)⟩
  have hst := Step.new (x := .arr e sh 0 false xs) (v := V) hs hwd hh (by simp) hb ⟨vals, by rw [hV]; exact hown, hsh, fun i x j c y h1 h2 h3 => (hr i x j c y h1 h2 h3).keep him, fun b h => ⟨fun _ hI => by have := hs.im b hI; have := (hb b h).1; omega, fun h => nomatch h⟩, hkids⟩
  refine ⟨_, _, _, _, Im, _, hk, hrun, hst, ?_⟩
  simp only [RA, RS, RC]
  simp
  exact ⟨V, upd_same, by rw [hV]; exact ownsRow_self hown⟩
theorem newArr_sound (hs : SR w Im ρ o) {e sh : Nat} {xs : List PV} {v : Value} {vals : List Value} {s : Sem Value} (hwd : Wd w w') (hh : ∀ b, b < w.heap.size → w'.heap[b]? = w.heap[b]?) (hown : w'.ownsRow 0 e (csz sh) v xs.length vals)
    (hb : ∀ b, Blk v b → w.heap.size ≤ b) (hsh : ∀ x ∈ xs, x.shp sh = true) (hr : ∀ (i : Nat) (x : PV) (j : Nat) (c : PV) (y : Value), xs[i]? = some x → x.cells[j]? = some c → vals[i * csz sh + j]? = some y → RP w Im c y)
    (hrun : s.run P w = .ok v w') (hk : K (.s (.c (.loc o.length 0 sh 0 xs.length))) (o ++ [.arr e sh 0 false xs]) = some r) : Did P w Im ρ o K r s :=
  newArr_gen (e := (e : Et)) hs hwd hh (ownsRow_mainV hown).1 hown (fun b h => ⟨hb b h, ownsRow_lt hown b h⟩) hsh hr (fun _ => (ownsRow_mainV hown).1) hrun hk
theorem elemsIn_sound {sh : Nat} {t : List AV} {ev : Operand → Value} : ∀ {ps : List (Nat × Operand)} {n : Nat} {o : List AObj} {Im : Nat → Prop} {K : List PV → List AObj → R}, SR w Im ρ o → (∀ q ∈ ps, RA w Im ρ o (aval t q.2) (ev q.2)) → elemsIn sh t n ps o K = some r →
    ∃ ys o1 Im1, K ys o1 = some r ∧ Step w Im ρ o w Im1 ρ o1 ∧ ys.length = ps.length ∧ (∀ y ∈ ys, y.shp sh = true) ∧ (ps.map fun q => (q.1, ev q.2)) = ((ps.map fun q => ev q.2).zipIdx n).map (fun x => (x.2, x.1)) ∧
      ∀ (i : Nat) (y : PV) (q : Nat × Operand), ys[i]? = some y → ps[i]? = some q → RP w Im1 y (ev q.2) := by
  intro ps
  induction ps with
  | nil =>
    intro n o Im K hs hra h
    simp only [elemsIn] at h
    exact ⟨[], o, Im, h, Step.refl hs, rfl, by simp, rfl, fun i y q hy => by simp at hy⟩
  | cons q ps ih =>
    intro n o Im K hs hra h
    obtain ⟨i, x⟩ := q
    simp only [elemsIn] at h
    obtain ⟨hi, h⟩ := bif_some h
    obtain ⟨v, hv, h⟩ := bind_some h
    obtain ⟨⟨y, o1⟩, hf, h⟩ := bind_some h
    simp only at h
    obtain ⟨hy, h⟩ := bif_some h
    have hx := hra (i, x) (by simp)
    simp only [sv_some hv] at hx
    obtain ⟨Im1, hst1, hr1⟩ := freezeS_sound hs hx hf
    obtain ⟨ys, o2, Im2, hk, hst2, hl, hsh, hz, hr2⟩ := ih hst1.sr (fun q hq => hst1.keepA _ _ (hra q (by simp [hq]))) h
    simp at hi
    subst hi
    refine ⟨y :: ys, o2, Im2, hk, hst1.trans hst2, by simp [hl], ?_, ?_, ?_⟩
    · intro z hz
      rcases List.mem_cons.1 hz with rfl | hz
      · exact hy
      · exact hsh z hz
    · simp only [List.map_cons, List.zipIdx_cons, hz]
    · intro j z q hz hq
      cases j with
      | zero =>
        simp at hz hq
        subst hz
        subst hq
        exact RP.mono (fun b hb => hst2.im b hb) hr1
      | succ j => exact hr2 j z q (by simpa using hz) (by simpa using hq)
theorem opBuildSlice_sound (hE : EnvOK P E) (hs : SR w Im ρ o) {T : TypeId} {n : Nat} {t : List AV} {ev : Operand → Value} {ps : Array (Nat × Operand)} (hra : ∀ q ∈ ps.toList, RA w Im ρ o (aval t q.2) (ev q.2)) (h : opBuildSlice E T n t ps.toList o K = some r) :
    Did P w Im ρ o K r (Instr.buildSlice T n (ps.map fun (i, x) => (i, ev x))) := by
  unfold opBuildSlice at h
  split at h
  · rename_i e sh by_ hT
    obtain ⟨hcnd, h⟩ := bif_some h
    simp only [Bool.and_eq_true, beq_iff_eq, decide_eq_true_eq] at hcnd
    obtain ⟨hn, hsm⟩ := hcnd
    obtain ⟨ys, o1, Im1, hk, hst, hl, hsh, hz, hr⟩ := elemsIn_sound hs hra h
    obtain ⟨hu, ⟨inf, z, hi, hsz, hby, hiz, hzs⟩, _⟩ := hE.sl T e sh by_ hT
    have hp := csz_pos sh
    have hcell : ∀ v ∈ ps.toList.map (fun q => ev q.2), v.cells.size = csz sh := by
      intro v hv
      obtain ⟨i, hi', rfl⟩ := List.getElem_of_mem hv
      simp only [List.length_map] at hi'
      have hiy : i < ys.length := by rw [hl]; exact hi'
      have := (hr i ys[i] ps.toList[i] (by simp [hiy]) (by rw [List.getElem?_eq_getElem hi'])).cells.1
      simp only [List.getElem_map]
      rw [this, PV.shp_len (hsh _ (List.getElem_mem hiy))]
    obtain ⟨zc, hzc⟩ : ∃ zc, zc = (Array.range (n * csz sh)).map (fun k => (if n * csz sh = 0 then (#[] : Array Value) else z.cells)[k % (if n * csz sh = 0 then (#[] : Array Value) else z.cells).size]!) := ⟨_, rfl⟩
    have hzcs : zc.size = n * csz sh := by rw [hzc]; simp
    obtain ⟨cells, hfill, hcs, hget⟩ := Great.fill_dense hp (ps.toList.map fun q => ev q.2) 0 zc hcell (by rw [hzcs]; simp [← hn])
    rw [← hz] at hfill
    have hfill' : Instr.fill (fun i => some (i * inf.size, inf.size)) zc (ps.map fun (i, x) => (i, ev x)).toList = some cells := by
      rw [hsz, ← hfill]; simp
    have hrun : (Instr.buildSlice T n (ps.map fun (i, x) => (i, ev x))).run P w = .ok (.slice (some ⟨w.heap.size, 0, none⟩) n n) (w.alloc (.cells cells e)) := by
      have hsm' : ¬ n * csz sh > 2 ^ 24 := by omega
      by_cases h0 : n * csz sh = 0
      · rw [if_pos h0] at hzc
        subst hzc
        simp only [h0] at hfill'
        simp [Instr.buildSlice, run_underlying hu, sizeOf, typeInfo, hi, hsz, h0]
        simp [hsz] at hfill'
        simp [hfill', newRow]
      · rw [if_neg h0] at hzc
        subst hzc
        exact run_buildSlice w T e n _ cells inf z hu hi hiz (by rw [hsz]; exact hsm') (by rw [hsz]; exact h0) (by rw [hsz] at hfill' ⊢; exact hfill')
    have hval : ∀ (i j : Nat), i < n → j < csz sh → ∃ q, ps.toList[i]? = some q ∧ cells.toList[i * csz sh + j]? = (ev q.2).cells[j]? := by
      intro i j hi' hj
      have hip : i < ps.toList.length := by omega
      refine ⟨ps.toList[i], by rw [List.getElem?_eq_getElem hip], ?_⟩
      rw [Array.getElem?_toList, hget, if_pos ⟨by simp, by simpa [hn] using get_flat hi' hj⟩]
      have h1 : (i * csz sh + j) / csz sh - 0 = i := by rw [Nat.mul_comm, Nat.mul_add_div hp, Nat.div_eq_of_lt hj]; rfl
      have h2 : (i * csz sh + j) % csz sh = j := by rw [Nat.mul_comm, Nat.mul_add_mod, Nat.mod_eq_of_lt hj]
      rw [h1, h2, List.getElem?_map, List.getElem?_eq_getElem hip]
      rfl
    have hyn : ys.length = n := by omega
    have hd := newArr_sound (P := P) (K := K) (r := r) (e := e) (sh := sh) (xs := ys) (v := .slice (some ⟨w.heap.size, 0, none⟩) n n) (vals := cells.toList) hst.sr (w' := w.alloc (.cells cells e)) ⟨rfl, rfl, rfl, by simp⟩ (fun b hb => push_old _ _ _ hb) ?_ (fun b hb => by simp at hb; omega) hsh ?_ hrun
      (by rw [hyn]; exact hk)
    · obtain ⟨v', o', y', w'', Im2, ρ2, h1, h2, h3, h4⟩ := hd
      exact ⟨v', o', y', w'', Im2, ρ2, h1, h2, hst.trans h3, h4⟩
    · refine ⟨by simp [hcs, hzcs, hyn], .inr ⟨w.heap.size, n, cells, by rw [hyn], Nat.zero_le _, push_new _ _, by omega, ?_, by rw [hcs, hzcs], ?_⟩⟩
      · have h1 : n * 1 ≤ n * csz sh := Nat.mul_le_mul_left _ hp
        simp only [maxLen]
        omega
      · rw [hyn, ← hzcs, ← hcs, ← Array.length_toList, List.take_length]
    · intro i x j c y hx hj hy
      have hin : i < n := by rw [← hyn]; exact (List.getElem?_eq_some_iff.1 hx).1
      have hjl : j < csz sh := by rw [← PV.shp_len (hsh x (List.mem_of_getElem? hx))]; exact (List.getElem?_eq_some_iff.1 hj).1
      obtain ⟨q, hq, hqc⟩ := hval i j hin hjl
      rw [hqc] at hy
      exact (hr i x q hx hq).cells.2 j c y hj hy
  · cases h

theorem opMakeSlice_sound (hE : EnvOK P E) (hs : SR w Im ρ o) {T : TypeId} {l c : AV} {xl xc : Value} (hl : RA w Im ρ o l xl) (hc : RA w Im ρ o c xc) (h : opMakeSlice E T l c o K = some r) : Did P w Im ρ o K r (Instr.makeSlice T xl xc) := by
  unfold opMakeSlice at h
  split at h
  · rename_i e sh by_ hT
    obtain ⟨zs, hz, h1⟩ := bind_some h
    obtain ⟨n, hn, h2⟩ := bind_some h1
    obtain ⟨m, hm, h3⟩ := bind_some h2
    obtain ⟨hcnd, h4⟩ := bif_some h3
    simp only [Bool.and_eq_true, beq_iff_eq, decide_eq_true_eq] at hcnd
    obtain ⟨⟨⟨rfl, h0⟩, hby⟩, hlim⟩ := hcnd
    obtain ⟨kl, rfl⟩ := hl.int hn
    obtain ⟨kc, rfl⟩ := hc.int hm
    obtain ⟨hu, ⟨inf, z, hi, hsz, hbe, hiz, hzs⟩, hsh, _⟩ := hE.sl T e sh by_ hT
    obtain ⟨i2, z2, sh2, hi2, hz2, hl2, hsh2, hl3, hone, hrp⟩ := hE.zr e zs hz
    rw [hi] at hi2
    injection hi2 with hi2
    subst hi2
    rw [hiz] at hz2
    injection hz2 with hz2
    subst hz2
    rw [hsh] at hsh2
    injection hsh2 with hsh2
    subst hsh2
    obtain ⟨x, hx⟩ : ∃ x, x = zeroEl sh zs := ⟨_, rfl⟩
    simp only [← hx] at h4
    obtain ⟨hxs, hk⟩ := bif_some h4
    have hp := csz_pos sh
    have hxc : x.cells = zs := by
      cases sh with
      | zero =>
        have hlz : zs.length = 1 := hl3
        match zs, hlz with
        | [a], _ =>
          simp [zeroEl] at hx
          subst hx
          exact PV.cells_of_one (hone _ (by simp))
      | succ k => subst hx; rfl
    obtain ⟨N, rfl⟩ : ∃ N : Nat, n = N := ⟨n.toNat, by omega⟩
    simp only [Int.toNat_natCast] at hk hby hlim
    have hbytes : inf.bytes * N ≤ 281474976710656 := by rw [hbe, Nat.mul_comm]; simp only [LIM] at hby; omega
    obtain ⟨w', hrun, hown, hgr⟩ := run_make_full (P := P) w 0 T e inf z (csz sh) hu hi hiz hsz kl kc N hbytes (by simp only [LIM] at hlim; simp only [maxLen]; omega) (Nat.zero_le _)
    have hget : ∀ (i j : Nat) (u : Value), i < N → j < csz sh → (madeCells z.cells (N * csz sh)).toList[i * csz sh + j]? = some u → z.cells[j]? = some u := by
      intro i j u hiN hjl hu
      have hfl := get_flat hiN hjl
      have h2 : (i * csz sh + j) % csz sh = j := by rw [Nat.mul_comm, Nat.mul_add_mod, Nat.mod_eq_of_lt hjl]
      have hzj : j < z.cells.size := by omega
      have : u = z.cells[j] := by
        rw [Array.getElem?_toList] at hu
        simp [madeCells, hfl, hzs, h2, hzj] at hu
        rw [← hu, getElem!_pos z.cells j hzj]
      subst this
      simp [hzj]
    have hcr : ∀ (i : Nat) (y : PV) (j : Nat) (c : PV) (u : Value), (List.replicate N x)[i]? = some y → y.cells[j]? = some c → (madeCells z.cells (N * csz sh)).toList[i * csz sh + j]? = some u → RP w Im c u := by
      intro i y j c u hy hj hu
      have hiN : i < N := by simpa using (List.getElem?_eq_some_iff.1 hy).1
      obtain rfl : y = x := by
        have := (List.getElem?_eq_some_iff.1 hy).2
        simpa using this.symm
      rw [hxc] at hj
      have hjl : j < csz sh := by rw [← hl3]; exact (List.getElem?_eq_some_iff.1 hj).1
      exact hrp j c u hj (hget i j u hiN hjl hu) w Im
    have hk' : K (.s (.c (.loc o.length 0 sh 0 (List.replicate N x).length))) (o ++ [.arr (newEt E T e zs) sh 0 false (List.replicate N x)]) = some r := by simpa using hk
    obtain ⟨et, het⟩ : ∃ et, et = newEt E T e zs := ⟨_, rfl⟩
    rw [← het] at hk'
    have hcase : et = (e : Et) ∨ ∃ k, et = ⟨e, some k⟩ ∧ k.hole = none ∧ zs[k.j]? = some (.row k.sh 2 []) := by
      unfold newEt at het
      split at het
      · exact .inl het
      · rename_i k _
        split at het
        · rename_i s f hz
          cases hcf : (f == 2 && s == k.sh) <;> rw [hcf] at het
          · exact .inl het
          · simp only [Bool.and_eq_true, beq_iff_eq] at hcf
            obtain ⟨rfl, rfl⟩ := hcf
            exact .inr ⟨_, het, rfl, hz⟩
        · exact .inl het
    rcases hcase with he | ⟨k, he, hhole, hzk⟩
    · subst he
      exact newArr_sound (e := e) (sh := sh) (xs := List.replicate N x) (vals := (madeCells z.cells (N * csz sh)).toList) hs ⟨hgr.os, hgr.tape, hgr.output, hgr.size⟩ (fun b hb => hgr.block b hb (by simp)) (by simpa using hown) (fun b hb => by simp at hb; omega) (fun y hy => by rw [List.eq_of_mem_replicate hy]; exact hxs) hcr hrun hk'
    · subst he
      have hjl : k.j < csz sh := by rw [← hl3]; exact (List.getElem?_eq_some_iff.1 hzk).1
      have hown' : w'.ownsRow 0 e (csz sh) (.slice (some ⟨w.heap.size, 0, none⟩) N N) (List.replicate N x).length (madeCells z.cells (N * csz sh)).toList := by simpa using hown
      have hlt := ownsRow_lt hown'
      have hnils : ∀ (i : Nat) (u : Value), (List.replicate N (Value.slice none 0 0))[i]? = some u → u = .slice none 0 0 := by
        intro i u hu
        have := (List.getElem?_eq_some_iff.1 hu).2
        simpa using this.symm
      refine newArr_gen (e := ⟨e, some k⟩) (V := .tuple (Value.slice (some ⟨w.heap.size, 0, none⟩) N N :: List.replicate N (.slice none 0 0)).toArray) hs ⟨hgr.os, hgr.tape, hgr.output, hgr.size⟩ (fun b hb => hgr.block b hb (by simp)) rfl hown' ?_ (fun y hy => by rw [List.eq_of_mem_replicate hy]; exact hxs) ?_ ?_ hrun hk'
      · rintro b ⟨i, u, hu, hb⟩
        cases i with
        | zero =>
          simp at hu
          subst hu
          exact ⟨by simp at hb; omega, hlt b hb⟩
        | succ i =>
          rw [hnils i u (by simpa using hu)] at hb
          exact hb.elim
      · intro i y j c u hy hj hu
        exact fun _ => hcr i y j c u hy hj hu
      · refine ⟨rfl, _, rfl, ⟨by simp, hjl, fun i y hy _ => ?_, fun i u _ hu => hnils i u hu, fun i i' u u' b hu _ hb => ?_, ?_⟩, fun i u b hu hb => ?_⟩
        · have hiN : i < N := by simpa using (List.getElem?_eq_some_iff.1 hy).1
          obtain rfl : y = x := by
            have := (List.getElem?_eq_some_iff.1 hy).2
            simpa using this.symm
          have hfl := get_flat hiN hjl
          have hlen : (madeCells z.cells (N * csz sh)).toList.length = N * csz sh := by rw [hown'.1]; simp
          have hu : (madeCells z.cells (N * csz sh)).toList[i * csz sh + k.j]? = some (madeCells z.cells (N * csz sh)).toList[i * csz sh + k.j] := List.getElem?_eq_getElem (by omega)
          have hnil : (madeCells z.cells (N * csz sh)).toList[i * csz sh + k.j] = .slice none 0 0 := by
            have key : ∀ u, RP w Im (.row k.sh 2 []) u → u = .slice none 0 0 := by
              intro u h
              cases h with
              | nil => rfl
              | row _ _ _ a cap g hf2 => exact absurd rfl hf2
            exact key _ (hrp k.j _ _ hzk (hget i k.j _ hiN hjl hu) w Im)
          rw [hnil] at hu
          exact ⟨2, [], .slice none 0 0, by rw [hxc]; exact hzk, .inr ⟨rfl, rfl⟩, by simp [hiN], hu, [], World.ownsRow_nil w' 0 k.e (csz k.sh), by simp, by simp⟩
        · rw [hnils i u hu] at hb
          exact hb.elim
        · intro p u hu
          have hp' : p < N * csz sh := by have := (List.getElem?_eq_some_iff.1 hu).1; rw [hown'.1] at this; simpa using this
          have h2 : p % csz sh < csz sh := Nat.mod_lt _ hp
          have hi : p / csz sh < N := (Nat.div_lt_iff_lt_mul hp).2 hp'
          have e1 : p = p / csz sh * csz sh + p % csz sh := by rw [Nat.mul_comm, Nat.div_add_mod]
          rw [e1] at hu
          have h3 := hget _ _ u hi h2 hu
          have h4 : zs[p % csz sh]? = some zs[p % csz sh]! := by
            have : p % csz sh < zs.length := by rw [hl3]; exact h2
            simp [this]
          exact ((hrp _ _ u h4 h3 w Im).one (hone _ (List.mem_of_getElem? h4))).1
        · rw [hnils i u hu] at hb
          exact hb.elim
  · cases h

/-! ### append -/
theorem run_append_none {T e : TypeId} (hu : P.underlying T = some (.slice e)) {inf : TypeInfo} (hi : P.info? e = some inf) {ty : TypeId} (a b : Option Addr) (n c c' : Nat) (hn : n ≤ c) (w : World) :
    (Builtin.append_ #[T, T] ty #[.slice a n c, .slice b 0 c']).run P w = .ok (.slice a n c) w := by
  cases a <;> cases b <;> simp [Builtin.append_, run_underlying hu, sizeOf, typeInfo, hi, Builtin.lenOf, Builtin.firstCells, loadCells, loadCellsFrom, storeCells, hn]
/-- What a row brings: its cells where they lie. -/
def News (w : World) (Im : Nat → Prop) (sh : Nat) (ys : List PV) (y : Value) : Prop :=
  (ys = [] ∧ ∃ b c, y = .slice b 0 c) ∨ ∃ (a : Addr) (c : Nat) (news : List Value), y = .slice (some a) ys.length c ∧ news.length = ys.length * csz sh ∧ (∀ (j : Nat) (u : Value), news[j]? = some u → w.cell? (a.add j) = some u) ∧ (∀ u ∈ news, u.oneCell' = true) ∧ (∀ x ∈ ys, x.shp sh = true) ∧
    ∀ (i : Nat) (x : PV) (j : Nat) (c : PV) (u : Value), ys[i]? = some x → x.cells[j]? = some c → news[i * csz sh + j]? = some u → RP w Im c u
theorem News.of_row {Im2 : Nat → Prop} {sh f : Nat} {xs : List PV} {y : Value} (h : RP w Im2 (.row sh f xs) y) (hi : ∀ (i : Nat) (x : PV) (j : Nat) (c : PV) (u : Value), xs[i]? = some x → x.cells[j]? = some c → RP w Im2 c u → RP w Im c u) : News w Im sh xs y := by
  cases h with
  | nil => exact .inl ⟨rfl, _, _, rfl⟩
  | row _ _ _ a cap g hf hsp hcap hm h1 him hshp hcell hrp =>
    obtain ⟨b, off, sp⟩ := a
    simp only at hsp hcell
    subst hsp
    have hp := csz_pos sh
    have pos : ∀ k, k < xs.length * csz sh → ∃ (i : Nat) (x : PV) (j : Nat) (c : PV), xs[i]? = some x ∧ x.cells[j]? = some c ∧ k = i * csz sh + j := by
      intro k hk
      have hi : k / csz sh < xs.length := (Nat.div_lt_iff_lt_mul hp).2 hk
      have hj : k % csz sh < (xs[k / csz sh]).cells.length := by rw [PV.shp_len (hshp (k / csz sh) _ (by simp [hi]))]; exact Nat.mod_lt _ hp
      exact ⟨_, xs[k / csz sh], _, (xs[k / csz sh]).cells[k % csz sh], List.getElem?_eq_getElem hi, List.getElem?_eq_getElem hj, by rw [Nat.mul_comm, Nat.div_add_mod]⟩
    have nget : ∀ (k : Nat) (u : Value), ((List.range (xs.length * csz sh)).map g)[k]? = some u → k < xs.length * csz sh ∧ u = g k := by
      intro k u hu
      simp only [List.getElem?_map] at hu
      rcases Nat.lt_or_ge k (xs.length * csz sh) with hk | hk
      · rw [List.getElem?_range hk] at hu
        simp at hu
        exact ⟨hk, hu.symm⟩
      · rw [List.getElem?_eq_none (by simpa using hk)] at hu
        simp at hu
    refine .inr ⟨_, cap, (List.range (xs.length * csz sh)).map g, rfl, by simp, ?_, ?_, fun x hx => ?_, ?_⟩
    · intro k u hu
      obtain ⟨hk, rfl⟩ := nget k u hu
      obtain ⟨i, x, j, c, hx, hj, rfl⟩ := pos k hk
      rw [add_at]
      exact hcell i x j c hx hj
    · intro u hu
      obtain ⟨k, hk, rfl⟩ := List.mem_map.1 hu
      obtain ⟨i, x, j, c, hx, hj, rfl⟩ := pos k (by simpa using hk)
      exact ((hrp i x j c hx hj).one (PV.shp_one (hshp i x hx) j c hj)).1
    · obtain ⟨i, hi, rfl⟩ := List.getElem_of_mem hx
      exact hshp i _ (by simp [hi])
    · intro i x j c u hx hj hu
      obtain ⟨hk, rfl⟩ := nget _ u hu
      exact hi i x j c _ hx hj (hrp i x j c hx hj)
theorem viewC_news (hs : SR w Im ρ o) {b : CV} {y : Value} {v : PV} {sh : Nat} {ys : List PV} (hb : RC w Im ρ o b y) (hv : viewC o b = some v) (hn : newsOf sh v = some ys) : News w Im sh ys y := by
  unfold newsOf at hn
  obtain ⟨⟨sh', f, zs⟩, hq, hn⟩ := bind_some hn
  obtain rfl := row_some hq
  · simp only at hn hv
    obtain ⟨hc, hn⟩ := bif_some hn
    injection hn with hn
    subst hn
    have fin : News w Im sh' zs y → News w Im sh zs y := by
      intro h
      by_cases e : sh = sh'
      · subst e; exact h
      · have : zs = [] := by simpa [e] using hc
        subst this
        rcases h with ⟨_, h⟩ | ⟨a, c, news, rfl, _⟩
        · exact .inl ⟨rfl, h⟩
        · exact .inl ⟨rfl, _, _, rfl⟩
    apply fin
    cases b with
    | p u =>
      simp [viewC] at hv
      subst hv
      exact News.of_row hb (fun i x j c u _ _ h => h)
    | loc id ver sh2 lo len =>
      simp only [viewC, viewLoc] at hv
      split at hv
      · rename_i e sh3 ver' fz xs ho
        obtain ⟨hcnd, hv'⟩ := bif_some hv
        simp only [Bool.and_eq_true, beq_iff_eq, Option.isNone_iff_eq_none] at hcnd
        obtain ⟨⟨rfl, rfl⟩, hkd⟩ := hcnd
        injection hv' with hv'
        injection hv' with e1 e2 e3
        subst e1
        subst e3
        simp only [RC, ho] at hb
        obtain ⟨hle, u, hρ, hsl⟩ := hb.2 trivial trivial
        obtain ⟨vals, hown, hshp, hrp, _⟩ := hs.ob id _ _ ho hρ
        simp only [RPk, hkd] at hrp
        have hp := csz_pos sh2
        have hlen : ((xs.drop lo).take len).length = len := by simp; omega
        have get : ∀ i x, ((xs.drop lo).take len)[i]? = some x → i < len ∧ xs[lo + i]? = some x := by
          intro i x hx
          have h1 : i < len := by have := (List.getElem?_eq_some_iff.1 hx).1; rwa [hlen] at this
          rw [List.getElem?_take_of_lt h1, List.getElem?_drop] at hx
          exact ⟨h1, hx⟩
        have hmul : lo * csz sh2 + len * csz sh2 ≤ vals.length := by rw [hown.1, ← Nat.add_mul]; exact Nat.mul_le_mul_right _ hle
        have nlen : ((vals.drop (lo * csz sh2)).take (len * csz sh2)).length = len * csz sh2 := by simp; omega
        have nget : ∀ (k : Nat) (u : Value), ((vals.drop (lo * csz sh2)).take (len * csz sh2))[k]? = some u → k < len * csz sh2 ∧ vals[lo * csz sh2 + k]? = some u := by
          intro k u hu
          have h1 : k < len * csz sh2 := by have := (List.getElem?_eq_some_iff.1 hu).1; rwa [nlen] at this
          rw [List.getElem?_take_of_lt h1, List.getElem?_drop] at hu
          exact ⟨h1, hu⟩
        rcases hown.2 with ⟨hm, hx0⟩ | ⟨g, cap, cu, hm, _, hh, hnc, hcm, hcs, htk⟩ <;> rw [hm] at hsl
        · obtain ⟨rfl, rfl, rfl⟩ := hsl
          exact .inl ⟨by simp, none, 0, rfl⟩
        · obtain ⟨off, rfl, hlc, hoff⟩ := hsl
          refine .inr ⟨⟨g, off, none⟩, cap - lo, (vals.drop (lo * csz sh2)).take (len * csz sh2), by rw [hlen], by rw [nlen, hlen], ?_, ?_, fun x hx => hshp x (List.mem_of_mem_drop (List.mem_of_mem_take hx)), ?_⟩
          · intro k u hu
            obtain ⟨hk, hu⟩ := nget k u hu
            have hl0 : 0 < len := Nat.pos_of_ne_zero fun h => by subst h; simp at hk
            have := hown.cells (g := g) (by rw [hm]; rfl) _ u hu
            rw [add_at, Nat.zero_add] at this
            rw [add_at, hoff (.inr (by omega))]
            exact this
          · intro u hu
            obtain ⟨k, hk⟩ := List.getElem?_of_mem hu
            obtain ⟨hk, hu⟩ := nget k u hk
            have hi : k / csz sh2 < len := (Nat.div_lt_iff_lt_mul hp).2 hk
            have hix : lo + k / csz sh2 < xs.length := by omega
            have hxs := hshp _ (List.getElem_mem hix)
            have hj : k % csz sh2 < (xs[lo + k / csz sh2]).cells.length := by rw [PV.shp_len hxs]; exact Nat.mod_lt _ hp
            have e1 : lo * csz sh2 + k = (lo + k / csz sh2) * csz sh2 + k % csz sh2 := by
              have := Nat.div_add_mod k (csz sh2)
              rw [Nat.mul_comm] at this
              rw [Nat.add_mul]
              omega
            rw [e1] at hu
            have hjg : (xs[lo + k / csz sh2]).cells[k % csz sh2]? = some (xs[lo + k / csz sh2]).cells[k % csz sh2] := List.getElem?_eq_getElem hj
            exact ((hrp _ _ _ _ u (List.getElem?_eq_getElem hix) hjg hu).one (PV.shp_one hxs _ _ hjg)).1
          · intro i x j c u hx hj hu
            obtain ⟨hi, hx⟩ := get i x hx
            obtain ⟨hk, hu⟩ := nget _ u hu
            exact hrp (lo + i) x j c u hx hj (by rw [Nat.add_mul, Nat.add_assoc]; exact hu)
      · cases hv
    | _ => simp [viewC] at hv

theorem own_take {e s n lo len : Nat} {v x : Value} {vals : List Value} (h : w.ownsRow 0 e s v n vals) (hx : RSl v s 0 len x) (hl : len ≤ n) : w.ownsRow 0 e s x len (vals.take (len * s)) ∧ ∀ b, Blk x b ↔ kidBlk v b := by
  have hm : len * s ≤ n * s := Nat.mul_le_mul_right _ hl
  rcases h.2 with ⟨rfl, rfl⟩ | ⟨g, cap, cur, rfl, _, hh, hnc, hcm, hcs, htk⟩
  · obtain ⟨_, rfl, rfl⟩ := hx
    exact ⟨⟨by simp, .inl ⟨rfl, rfl⟩⟩, fun _ => Iff.rfl⟩
  · obtain ⟨off, rfl, hlc, hoff⟩ := hx
    have := hoff (.inl rfl)
    simp at this
    subst this
    refine ⟨⟨by rw [List.length_take, h.1]; omega, .inr ⟨g, cap, cur, by simp, Nat.zero_le _, hh, by omega, hcm, hcs, ?_⟩⟩, fun _ => Iff.rfl⟩
    rw [← htk, List.take_take, Nat.min_eq_left hm]
theorem get_app {s n : Nat} {vals news : List Value} {xs ys : List PV} (hv : vals.length = xs.length * s) (hsx : ∀ x ∈ xs, x.cells.length = s) (hsy : ∀ y ∈ ys, y.cells.length = s)
    (hr : ∀ (i : Nat) (x : PV) (j : Nat) (c : PV) (u : Value), xs[i]? = some x → x.cells[j]? = some c → vals[i * s + j]? = some u → RP w Im c u)
    (hn : ∀ (i : Nat) (x : PV) (j : Nat) (c : PV) (u : Value), ys[i]? = some x → x.cells[j]? = some c → news[i * s + j]? = some u → RP w Im c u) :
    ∀ (i : Nat) (x : PV) (j : Nat) (c : PV) (u : Value), (xs ++ ys)[i]? = some x → x.cells[j]? = some c → (vals ++ news)[i * s + j]? = some u → RP w Im c u := by
  intro i x j c u hx hj hu
  rcases Nat.lt_or_ge i xs.length with hi | hi
  · rw [List.getElem?_append_left hi] at hx
    have hjl : j < s := by rw [← hsx x (List.mem_of_getElem? hx)]; exact (List.getElem?_eq_some_iff.1 hj).1
    rw [List.getElem?_append_left (by rw [hv]; exact get_flat hi hjl)] at hu
    exact hr i x j c u hx hj hu
  · rw [List.getElem?_append_right hi] at hx
    have h1 : xs.length * s ≤ i * s := Nat.mul_le_mul_right _ hi
    rw [List.getElem?_append_right (by omega)] at hu
    refine hn (i - xs.length) x j c u hx hj ?_
    rw [Nat.sub_mul, ← hv]
    rwa [show i * s - vals.length + j = i * s + j - vals.length by omega]
theorem appendNel_sound (hE : EnvOK P E) (hs : SR w Im ρ o) {T ty : TypeId} {e sh by_ id ver nv i : Nat} {x y : Value} {ys : List PV} (hT : E.sl T = some (e, sh, by_)) (ha : RC w Im ρ o (.nel id ver nv i) x) (hnews : News w Im sh ys y) (h : appendNel e sh by_ id ver nv i ys o K = some r) :
    Did P w Im ρ o K r (Builtin.append_ #[T, T] ty #[x, y]) := by
  unfold appendNel at h
  split at h
  · rename_i e' sh' ver' xs ho
    split at h
    · rename_i k hk
      obtain ⟨hcnd, h9⟩ := bif_some h
      clear h
      simp only [Bool.and_eq_true, beq_iff_eq, Option.isNone_iff_eq_none] at hcnd
      obtain ⟨⟨⟨⟨rfl, rfl⟩, hhole⟩, rfl⟩, rfl⟩ := hcnd
      obtain ⟨x0, hx0, h8⟩ := bind_some h9
      clear h9
      obtain ⟨zs, hzs0, h7⟩ := bind_some h8
      clear h8
      obtain ⟨hlim0, hkk⟩ := bif_some h7
      clear h7
      simp only [Bool.and_eq_true, decide_eq_true_eq] at hlim0
      obtain ⟨hlb, hll⟩ := hlim0
      simp only [RC, ho] at ha
      obtain ⟨_, ha2⟩ := ha.2 trivial k hk
      obtain ⟨hix, m, ks, hρ, hksx⟩ := ha2 rfl hhole
      obtain ⟨vals, hown, hshp, hrp, hbk, hkids⟩ := hs.ob id _ _ ho hρ
      have hkids' := hkids
      simp only [RKids, hk] at hkids
      obtain ⟨_, ks', hv, hks, hdis⟩ := hkids
      have hmm : mainV (.tuple (m :: ks).toArray) = m := rfl
      rw [hmm] at hv hdis hown
      have : ks = ks' := by injection hv with hv; simpa using hv
      subst this
      obtain ⟨f, zs', u, b1, _, b3, b4, kvals, kown, kshp, krp⟩ := hks.kid i x0 hx0 (by rw [hhole]; simp)
      obtain rfl : x = u := by rw [hksx] at b3; injection b3
      obtain rfl : zs' = zs := by
        simp only [PV.atRow, PV.cell, b1, Option.bind_some, PV.asRow] at hzs0
        obtain ⟨_, h⟩ := bif_some hzs0
        injection h
      obtain ⟨hu, ⟨inf, z, hi, hsz, hby, hiz, hzs⟩, _⟩ := hE.sl T _ _ by_ hT
      have hp := csz_pos k.sh
      have hlim : zs'.length + ys.length ≤ maxLen := by simp only [maxLen]; simp only [LIM] at hll; omega
      have main : ∃ (v' : Value) (w' : World) (news : List Value), (Builtin.append_ #[T, T] ty #[x, y]).run P w = .ok v' w' ∧ w'.ownsRow 0 k.e (csz k.sh) v' (zs'.length + ys.length) (kvals ++ news) ∧ w.grownBy w' x.ownBlock ∧
            (v'.ownBlock = x.ownBlock ∨ v'.ownBlock = some w.heap.size) ∧ (∀ x ∈ ys, x.shp k.sh = true) ∧ ∀ (i : Nat) (x : PV) (j : Nat) (c : PV) (u : Value), ys[i]? = some x → x.cells[j]? = some c → news[i * csz k.sh + j]? = some u → RP w Im c u := by
        rcases hnews with ⟨rfl, b0, c0, rfl⟩ | ⟨ad, c, news, rfl, hnl, hnc, hn1, hnsh, hnr⟩
        · refine ⟨x, w, [], ?_, by simpa using kown, ⟨rfl, rfl, rfl, Nat.le_refl _, fun _ _ _ => rfl⟩, .inl rfl, by simp, by simp⟩
          rcases kown.2 with ⟨rfl, hn⟩ | ⟨g, cap, cur, rfl, _, _, hnc, _⟩
          · exact run_append_none hu hi none b0 0 0 c0 (Nat.le_refl _) w
          · exact run_append_none hu hi _ b0 _ cap c0 hnc w
        · obtain ⟨v', w', hrun, hown', hgr, _, hat⟩ := run_append_own_at (P := P) w 0 T ty k.e inf z (csz k.sh) by_ hu hi hiz hsz hby hzs hp x zs'.length _ kown ad ys.length c news hnl hnc hn1 hlim (by simpa [LIM] using hlb) (Nat.zero_le _)
          exact ⟨v', w', news, hrun, hown', hgr, hat, hnsh, hnr⟩
      obtain ⟨v', w', news, hrun, hown', hgr, hat, hnsh, hnr⟩ := main
      have hV : Value.tuple (m :: ks).toArray = .tuple (m :: ks).toArray := rfl
      have hxb : ∀ b, x.ownBlock = some b → kidBlk x b := by
        intro b hb
        rcases kown.2 with ⟨rfl, _⟩ | ⟨g, cap, cur, rfl, _⟩
        · cases hb
        · simp [Value.ownBlock] at hb; subst hb; rfl
      have hxB : ∀ b, x.ownBlock = some b → Blk (.tuple (m :: ks).toArray) b := fun b hb => kids_Blk hV b3 (hxb b hb)
      have hvb : ∀ b, Blk v' b → v'.ownBlock = some b := by
        intro b hb
        rcases hown'.2 with ⟨rfl, _⟩ | ⟨g, cap, cur, rfl, _⟩
        · exact hb.elim
        · simp at hb; subst hb; rfl
      have hvc : ∀ b, Blk v' b → x.ownBlock = some b ∨ b = w.heap.size := by
        intro b hb
        have h1 := hvb b hb
        rcases hat with h2 | h2
        · exact .inl (h2 ▸ h1)
        · rw [h2] at h1; injection h1 with h1; exact .inr h1.symm
      have hlt := (hs.lt id _ hρ).1
      have hltb := (hs.lt id _ hρ).2
      obtain ⟨V, hVd⟩ : ∃ V, V = Value.tuple (m :: ks.set i (.slice none 0 0)).toArray := ⟨_, rfl⟩
      have hVm : mainV V = m := by rw [hVd]; rfl
      have hVb : ∀ b, Blk V b → Blk (.tuple (m :: ks).toArray) b ∧ x.ownBlock ≠ some b := by
        intro b hb
        rw [hVd] at hb
        obtain ⟨q, u, hq, hub⟩ := hb
        cases q with
        | zero =>
          simp at hq
          subst hq
          exact ⟨⟨0, m, by simp, hub⟩, fun h => hdis i x b b3 (hxb b h) hub⟩
        | succ q =>
          replace hq : (ks.set i (Value.slice none 0 0))[q]? = some u := by simpa using hq
          by_cases e1 : q = i
          · subst e1
            rw [List.getElem?_set_self (by rw [hks.len]; exact hix)] at hq
            injection hq with hq
            subst hq
            exact hub.elim
          · rw [List.getElem?_set_ne (Ne.symm e1)] at hq
            exact ⟨kids_Blk hV hq hub, fun h => e1 (hks.inj q i u x b hq b3 hub (hxb b h))⟩
      have hunch : ∀ b, b < w.heap.size → x.ownBlock ≠ some b → w'.heap[b]? = w.heap[b]? := fun b hb hne => hgr.block b hb fun h => hne h.symm
      have him : ∀ b, Im b → Im b ∧ w'.heap[b]? = w.heap[b]? := fun b hb => ⟨hb, hunch b (hs.im b hb) fun h => (hbk b (hxB b h)).1 rfl hb⟩
      obtain ⟨X, hX⟩ : ∃ X, X = AObj.arr ⟨e'.t, some { k with nv := k.nv + 1, hole := some i }⟩ sh' ver false xs := ⟨_, rfl⟩
      obtain ⟨A, hA⟩ : ∃ A, A = AObj.arr k.e k.sh 0 false (zs' ++ ys) := ⟨_, rfl⟩
      rw [← hX, ← hA] at hkk
      have hoid : (o.set id X ++ [A])[id]? = some X := by rw [List.getElem?_append_left (by simpa using hlt), List.getElem?_set_self hlt]
      have holen : (o.set id X ++ [A])[o.length]? = some A := by rw [List.getElem?_append_right (by simp)]; simp
      obtain ⟨R, hR⟩ : ∃ R, R = upd (upd ρ id (some V)) o.length (some v') := ⟨_, rfl⟩
      have hRid : R id = some V := by rw [hR, upd_ne (by omega), upd_same]
      have hRlen : R o.length = some v' := by rw [hR, upd_same]
      have hRne : ∀ q, q ≠ id → q ≠ o.length → R q = ρ q := fun q h1 h2 => by rw [hR, upd_ne h2, upd_ne h1]
      have hnone : ρ o.length = none := by
        cases h : ρ o.length with
        | none => rfl
        | some u => have := (hs.lt _ u h).1; omega
      have hc : Compat ρ R o (o.set id X ++ [A]) := by
        intro q a hq
        have hql := (List.getElem?_eq_some_iff.1 hq).1
        by_cases e1 : q = id
        · subst e1
          rw [ho] at hq
          injection hq with hq
          subst hq
          refine ⟨X, hoid, ?_⟩
          rw [hRid, hρ, hX]
          refine Or.inr ⟨rfl, rfl, Nat.le_refl _, ?_, ?_⟩
          · simp [hVm, hmm]
          · rw [hk]; exact .inl (Nat.lt_succ_self _)
        · refine ⟨a, by rw [List.getElem?_append_left (by simpa using hql), List.getElem?_set_ne (Ne.symm e1)]; exact hq, ?_⟩
          rw [hRne q e1 (by omega)]
          cases a <;> simp [CompatO]
      have hst := Step.multi (w' := w') (ρ' := R) (o' := o.set id X ++ [A]) hs ⟨hgr.os, hgr.tape, hgr.output, hgr.size⟩ (fun q => q = id ∨ q = o.length) (by simp) ?_ ?_ hc ?_ ?_ ?_ ?_ ?_ ?_ ?_ ?_ ?_
      · refine ⟨_, _, v', w', Im, _, hkk, hrun, hst, ?_⟩
        simp only [RA, RS, RC, holen]
        rw [hA]
        exact ⟨Nat.le_refl _, fun _ _ => ⟨by simp, v', hRlen, by rw [(ownsRow_mainV hown').1]; exact ownsRow_self hown'⟩⟩
      · intro q hq hql
        simp only [not_or] at hq
        exact ⟨by rw [List.getElem?_append_left (by simpa using hql), List.getElem?_set_ne (Ne.symm hq.1)], hRne q hq.1 hq.2⟩
      · intro q hql hq
        simp only [not_or] at hq
        refine ⟨List.getElem?_eq_none (by simp; omega), ?_⟩
        rw [hRne q hq.1 hq.2]
        cases h : ρ q with
        | none => rfl
        | some u => have := (hs.lt q u h).1; omega
      · intro b hb hno
        exact hunch b hb fun h => hno id _ (.inl rfl) hρ (hxB b h)
      · rintro q v b (rfl | rfl) hv hb
        · rw [hρ] at hv
          injection hv with hv
          subst hv
          exact (hbk b hb).1 rfl
        · rw [hnone] at hv; cases hv
      · rintro q v b (rfl | rfl) hv hb
        · rw [hRid] at hv
          injection hv with hv
          subst hv
          exact .inl ⟨q, _, .inl rfl, hρ, (hVb b hb).1⟩
        · rw [hRlen] at hv
          injection hv with hv
          subst hv
          rcases hvc b hb with h1 | h1
          · exact .inl ⟨id, _, .inl rfl, hρ, hxB b h1⟩
          · exact .inr (by omega)
      · rintro q v (rfl | rfl) hv
        · rw [hRid] at hv
          injection hv with hv
          subst hv
          exact ⟨by simp; omega, fun b hb => Nat.lt_of_lt_of_le (hltb b (hVb b hb).1) hgr.size⟩
        · rw [hRlen] at hv
          injection hv with hv
          subst hv
          exact ⟨by simp, fun b hb => ownsRow_lt hown' b hb⟩
      · have cross : ∀ b, Blk V b → Blk v' b → False := by
          intro b h1 h2
          rcases hvc b h2 with h3 | h3
          · exact (hVb b h1).2 h3
          · have := hltb b (hVb b h1).1; omega
        rintro q q' v v1 b (rfl | rfl) (rfl | rfl) h1 h2 h3 h4
        · rfl
        · rw [hRid] at h1; rw [hRlen] at h2
          injection h1 with h1; injection h2 with h2
          subst h1; subst h2
          exact (cross b h3 h4).elim
        · rw [hRid] at h2; rw [hRlen] at h1
          injection h1 with h1; injection h2 with h2
          subst h1; subst h2
          exact (cross b h4 h3).elim
        · rfl
      · rintro q a v (rfl | rfl) ha hv
        · rw [hoid] at ha
          rw [hRid] at hv
          injection ha with ha
          injection hv with hv
          subst ha
          subst hv
          rw [hX]
          refine ⟨vals, ?_, hshp, fun p x j c y h1 h2 h3 => ?_, fun b hb => ⟨fun _ => (hbk b (hVb b hb).1).1 rfl, fun h => nomatch h⟩, rfl, ks.set i (.slice none 0 0), ?_, ⟨by simpa using hks.len, hks.jlt, ?_, ?_, ?_, hks.one⟩, ?_⟩
          · rw [hVm]
            exact ownsRow_main (fun b hb => hunch b (hltb b ⟨0, m, by simp, hb⟩) fun h => hdis i x b b3 (hxb b h) hb) hown
          · have h4 := hrp p x j c y h1 h2 h3
            unfold RPk at h4 ⊢
            rw [hk] at h4
            exact fun hj => RP.mono him (h4 hj)
          · rw [hVm, hVd]
          · intro p x1 hx1 hne
            have hpi : p ≠ i := fun h => hne (by rw [h])
            obtain ⟨f2, ys2, u2, c1, c2, c3, c4, c5⟩ := hks.kid p x1 hx1 (by rw [hhole]; simp)
            refine ⟨f2, ys2, u2, c1, c2, by rw [List.getElem?_set_ne (Ne.symm hpi)]; exact c3, c4, c5.keep him fun b hb => hunch b (hltb b (kids_Blk hV c3 hb)) fun h => hpi (hks.inj p i u2 x b c3 b3 hb (hxb b h))⟩
          · intro p u2 hp2 hu2
            injection hp2 with hp2
            subst hp2
            rw [List.getElem?_set_self (by rw [hks.len]; exact hix)] at hu2
            injection hu2 with hu2
            exact hu2.symm
          · have old : ∀ (p : Nat) (u2 : Value) (b : Nat), (ks.set i (Value.slice none 0 0))[p]? = some u2 → kidBlk u2 b → ks[p]? = some u2 := by
              intro p u2 b hp2 hb
              by_cases e1 : p = i
              · subst e1
                rw [List.getElem?_set_self (by rw [hks.len]; exact hix)] at hp2
                injection hp2 with hp2
                subst hp2
                exact hb.elim
              · rwa [List.getElem?_set_ne (Ne.symm e1)] at hp2
            intro p p' u2 u3 b h1 h2 h3 h4
            exact hks.inj p p' u2 u3 b (old p u2 b h1 h3) (old p' u3 b h2 h4) h3 h4
          · intro p u2 b hp2 hb
            rw [hVm]
            by_cases e1 : p = i
            · subst e1
              rw [List.getElem?_set_self (by rw [hks.len]; exact hix)] at hp2
              injection hp2 with hp2
              subst hp2
              exact hb.elim
            · rw [List.getElem?_set_ne (Ne.symm e1)] at hp2
              exact hdis p u2 b hp2 hb
        · rw [holen] at ha
          rw [hRlen] at hv
          injection ha with ha
          injection hv with hv
          subst ha
          subst hv
          rw [hA]
          refine ⟨kvals ++ news, by rw [(ownsRow_mainV hown').1, List.length_append]; exact hown', ?_, ?_, fun b hb => ⟨fun _ hI => ?_, fun h => nomatch h⟩, fun _ => (ownsRow_mainV hown').1⟩
          · intro x hx
            rcases List.mem_append.1 hx with hx | hx
            · exact kshp x hx
            · exact hnsh x hx
          · intro p x j c u hx hj hu
            exact RP.mono him (get_app (n := 0) kown.1 (fun x hx => PV.shp_len (kshp x hx)) (fun y hy => PV.shp_len (hnsh y hy)) krp hnr p x j c u hx hj hu)
          · rcases hvc b hb with h1 | h1
            · exact (hbk b (hxB b h1)).1 rfl hI
            · have := hs.im b hI; omega
      · rintro q (rfl | rfl) hd
        · rw [hoid, hX] at hd; cases hd
        · rw [holen, hA] at hd; cases hd
      · rintro q a (rfl | rfl) _ _
        · exact ⟨_, hRid⟩
        · exact ⟨_, hRlen⟩
      · rintro q (rfl | rfl) hql h0
        · rw [hρ] at h0; cases h0
        · omega
    · cases h
  · cases h
theorem opAppend_sound (hE : EnvOK P E) (hs : SR w Im ρ o) {T ty : TypeId} {a b : AV} {x y : Value} (ha : RA w Im ρ o a x) (hb : RA w Im ρ o b y) (h : opAppend E T a b o K = some r) : Did P w Im ρ o K r (Builtin.append_ #[T, T] ty #[x, y]) := by
  unfold opAppend at h
  split at h
  · rename_i e sh by_ av bv hT hav hbv
    rw [cv_some hav] at ha
    rw [cv_some hbv] at hb
    obtain ⟨rv, hrv, h1⟩ := bind_some h
    clear h
    obtain ⟨ys, hys, h⟩ := bind_some h1
    clear h1
    have hnews := viewC_news hs hb hrv hys
    obtain ⟨hu, ⟨inf, z, hi, hsz, hby, hiz, hzs⟩, _⟩ := hE.sl T e sh by_ hT
    have hp := csz_pos sh
    split at h
    · exact appendNel_sound hE hs hT ha hnews h
    rename_i hnel
    unfold appendTo at h
    split at h
    · rename_i v
      obtain ⟨⟨sh', f, xs⟩, hq, h⟩ := bind_some h
      obtain rfl := row_some hq
      · simp only at h ha
        have hx : RP w Im (.row sh' f xs) x := ha
        cases hye : ys.isEmpty
        · rw [hye] at h
          simp only [cond_false] at h
          obtain ⟨hcnd, hk⟩ := bif_some h
          simp only [Bool.and_eq_true, Bool.or_eq_true, beq_iff_eq, decide_eq_true_eq] at hcnd
          obtain ⟨⟨hf, hlb⟩, hll⟩ := hcnd
          have hyne : ys ≠ [] := fun h => by simp [h] at hye
          rcases hnews with ⟨h0, _⟩ | ⟨ad, c, news, rfl, hnl, hnc, hn1, hnsh, hnr⟩
          · exact absurd h0 hyne
          have hyp : 0 < ys.length := List.length_pos_iff.2 hyne
          have hsmall : ys.length ≤ maxLen := by simp only [maxLen]; simp only [LIM] at hll; omega
          cases hx with
          | nil =>
            obtain ⟨v', w', hrun, hown, hgr, _, hat⟩ := run_append_own_at (P := P) w 0 T ty e inf z (csz sh) by_ hu hi hiz hsz hby hzs hp (.slice none 0 0) 0 [] (World.ownsRow_nil w 0 e (csz sh)) ad ys.length c news hnl hnc hn1
              (by simpa using hsmall) (by simpa [LIM] using hlb) (Nat.zero_le _)
            simp only [Nat.zero_add, List.nil_append] at hown
            refine newArr_sound (e := e) (sh := sh) (xs := ys) (vals := news) hs ⟨hgr.os, hgr.tape, hgr.output, hgr.size⟩ (fun b hb => hgr.block b hb (by simp [Value.ownBlock])) hown ?_ hnsh hnr hrun (by simpa using hk)
            intro b hb
            have hbo : v'.ownBlock = some b := by
              rcases hown.2 with ⟨rfl, _⟩ | ⟨g, cap, cur, rfl, _⟩
              · exact hb.elim
              · simp at hb; subst hb; rfl
            rcases hat with h1 | h1
            · rw [h1] at hbo; cases hbo
            · rw [h1] at hbo; injection hbo with hbo; omega
          | row _ _ _ ad0 cap g hf2 hsp hcap hm h1 him hshp hcell hrp =>
            have hf1 : f = 1 ∧ sh = sh' := by
              rcases hf with hf | hf
              · exact absurd hf hf2
              · exact hf
            obtain ⟨rfl, rfl⟩ := hf1
            have hcl := h1 rfl
            subst hcl
            have hxr : RP w Im (.row sh 1 xs) (.slice (some ad0) xs.length xs.length) := .row sh 1 xs ad0 xs.length g hf2 hsp hcap hm h1 him hshp hcell hrp
            have hshx : ∀ x ∈ xs, x.shp sh = true := fun x hx => by
              obtain ⟨i, hi, rfl⟩ := List.getElem_of_mem hx
              exact hshp i _ (by simp [hi])
            have holds : ∃ olds : List Value, olds.length = xs.length * csz sh ∧ (∀ (j : Nat) (v : Value), olds[j]? = some v → w.cell? (ad0.add j) = some v) ∧
                ∀ (i : Nat) (x : PV) (j : Nat) (c : PV) (u : Value), xs[i]? = some x → x.cells[j]? = some c → olds[i * csz sh + j]? = some u → RP w Im c u := by
              rcases News.of_row (Im := Im) hxr (fun i x j c u _ _ h => h) with ⟨h0, _⟩ | ⟨a1, c1, olds, he, h2, h3, h4, h5, h6⟩
              · exact ⟨[], by simp [h0], by simp, by simp⟩
              · injection he with he1 he2 he3
                injection he1 with he1
                subst he1
                exact ⟨olds, h2, h3, h6⟩
            obtain ⟨olds, hol, hoc, hor⟩ := holds
            have hlim : xs.length + ys.length ≤ maxLen := by simp only [maxLen]; simp only [LIM] at hll; omega
            have hrun := run_append_grow (P := P) w T ty e inf z hu hi hiz ad0 xs.length xs.length olds (by rw [hsz]; exact hol) hoc ad ys.length c news (by rw [hsz]; exact hnl) hnc (by omega) (by simp only [maxLen] at hlim; omega)
              (by rw [hby]; exact growslice_fits (by omega) hlb)
            have hge := grownCap_ge w (xs.length + ys.length) xs.length e
            have hcm := grownCap_le_maxLen w (xs.length + ys.length) xs.length e hlim
            refine newArr_sound (w' := w.drew.alloc _) (e := e) (sh := sh) (xs := xs ++ ys) (vals := olds ++ news) hs ⟨rfl, rfl, rfl, by simp⟩ (fun b hb => (heap_alloc_old w.drew _ hb)) ?_ (fun b hb => by simp at hb; omega) ?_ ?_ hrun (by simpa using hk)
            · refine ⟨by rw [List.length_append, List.length_append, hol, hnl, Nat.add_mul], .inr ⟨w.heap.size, _, _, by simp, Nat.zero_le _, heap_alloc_new w.drew _, by simpa using hge, hcm, ?_, ?_⟩⟩
              · simp only [Array.size_append, List.size_toArray, size_zeroCells, hzs, hol, hnl, ← Nat.add_mul]
                congr 1
                omega
              · have : (xs ++ ys).length * csz sh = (olds ++ news).length := by simp [hol, hnl, Nat.add_mul]
                rw [this]
                simp only [Array.toList_append, List.append_assoc]
                rw [← List.append_assoc]
                exact List.take_left
            · intro x hx
              rcases List.mem_append.1 hx with hx | hx
              · exact hshx x hx
              · exact hnsh x hx
            · exact get_app (s := csz sh) (n := 0) hol (fun x hx => PV.shp_len (hshx x hx)) (fun y hy => PV.shp_len (hnsh y hy)) hor hnr
        · rw [hye] at h
          simp only [cond_true] at h
          have hye' : ys = [] := by simpa using hye
          subst hye'
          have hy0 : ∃ b c, y = .slice b 0 c := by
            rcases hnews with ⟨_, h⟩ | ⟨a1, c, news, rfl, _⟩
            · exact h
            · exact ⟨_, _, rfl⟩
          obtain ⟨b0, c0, rfl⟩ := hy0
          cases hx with
          | nil => exact Did.same hs h (run_append_none hu hi none b0 0 0 c0 (Nat.le_refl _) w) (by cases (f == 2) <;> exact RP.nil _ _ (by decide))
          | row _ _ _ ad0 cap g hf2 hsp hcap hm h1 him hshp hcell hrp =>
            refine Did.same hs h (run_append_none hu hi (some ad0) b0 xs.length cap c0 hcap w) ?_
            have : (f == 2) = false := by simpa using hf2
            rw [this]
            exact RP.row sh' 0 xs ad0 cap g (by decide) hsp hcap hm (fun h => by cases h) him hshp hcell hrp
    · rename_i id ver sh' lo len
      split at h
      · rename_i e' sh'' ver' xs ho
        obtain ⟨hcnd, hk⟩ := bif_some h
        simp only [Bool.and_eq_true, beq_iff_eq, decide_eq_true_eq] at hcnd
        obtain ⟨⟨⟨⟨⟨⟨rfl, rfl⟩, rfl⟩, rfl⟩, rfl⟩, hlb⟩, hll⟩ := hcnd
        simp only [RA, RS, RC, ho] at ha
        obtain ⟨hle, v, hρ, hsl⟩ := ha.2 trivial trivial
        simp only [Nat.zero_add] at hle
        obtain ⟨vals, hown, hshp, hrp, hbk, _⟩ := hs.ob id _ _ ho hρ
        replace hrp : ∀ (i : Nat) (x : PV) (j : Nat) (c : PV) (y : Value), xs[i]? = some x → x.cells[j]? = some c → vals[i * csz sh + j]? = some y → RP w Im c y := hrp
        obtain ⟨hown2, hbx⟩ := own_take (lo := 0) hown hsl hle
        have hxno : ∀ b, x.ownBlock = some b → Blk v b := by
          intro b hb
          refine main_Blk ((hbx b).1 ?_)
          rcases hown2.2 with ⟨rfl, _⟩ | ⟨g, cap, cur, rfl, _⟩
          · cases hb
          · simp [Value.ownBlock] at hb; subst hb; rfl
        have hni : ∀ b, Blk v b → ¬ Im b := fun b hb => (hbk b hb).1 rfl
        have hlim : len + ys.length ≤ maxLen := by simp only [maxLen]; simp only [LIM] at hll; omega
        have hxs : ∀ x ∈ xs.take len, x.shp sh = true := fun x hx => hshp x (List.mem_of_mem_take hx)
        have hxl : (xs.take len).length = len := by simp; omega
        have hrp2 : ∀ (i : Nat) (x : PV) (j : Nat) (c : PV) (u : Value), (xs.take len)[i]? = some x → x.cells[j]? = some c → (vals.take (len * csz sh))[i * csz sh + j]? = some u → RP w Im c u := by
          intro i x j c u hx hj hu
          have hil : i < len := by have := (List.getElem?_eq_some_iff.1 hx).1; rwa [hxl] at this
          rw [List.getElem?_take_of_lt hil] at hx
          have hu' : vals[i * csz sh + j]? = some u := by
            rw [List.getElem?_take] at hu
            split at hu
            · exact hu
            · cases hu
          exact hrp i x j c u hx hj hu'
        have main : ∃ (v' : Value) (w' : World) (news : List Value), (Builtin.append_ #[T, T] ty #[x, y]).run P w = .ok v' w' ∧ w'.ownsRow 0 e (csz sh) v' (len + ys.length) (vals.take (len * csz sh) ++ news) ∧ w.grownBy w' x.ownBlock ∧
            (v'.ownBlock = x.ownBlock ∨ v'.ownBlock = some w.heap.size) ∧ (∀ x ∈ ys, x.shp sh = true) ∧ ∀ (i : Nat) (x : PV) (j : Nat) (c : PV) (u : Value), ys[i]? = some x → x.cells[j]? = some c → news[i * csz sh + j]? = some u → RP w Im c u := by
          rcases hnews with ⟨rfl, b0, c0, rfl⟩ | ⟨ad, c, news, rfl, hnl, hnc, hn1, hnsh, hnr⟩
          · refine ⟨x, w, [], ?_, by simpa using hown2, ⟨rfl, rfl, rfl, Nat.le_refl _, fun _ _ _ => rfl⟩, .inl rfl, by simp, by simp⟩
            rcases hown2.2 with ⟨rfl, rfl⟩ | ⟨g, cap, cur, rfl, _, _, hnc, _⟩
            · exact run_append_none hu hi none b0 0 0 c0 (Nat.le_refl _) w
            · exact run_append_none hu hi _ b0 len cap c0 hnc w
          · obtain ⟨v', w', hrun, hown', hgr, _, hat⟩ := run_append_own_at (P := P) w 0 T ty e inf z (csz sh) by_ hu hi hiz hsz hby hzs hp x len _ hown2 ad ys.length c news hnl hnc hn1 hlim (by simpa [LIM] using hlb) (Nat.zero_le _)
            exact ⟨v', w', news, hrun, hown', hgr, hat, hnsh, hnr⟩
        obtain ⟨v', w', news, hrun, hown', hgr, hat, hnsh, hnr⟩ := main
        have hbv' : ∀ b, Blk v' b → v'.ownBlock = some b := by
          intro b hb
          rcases hown'.2 with ⟨rfl, _⟩ | ⟨g, cap, cur, rfl, _⟩
          · exact hb.elim
          · simp at hb; subst hb; rfl
        have hbv : ∀ b, Blk v' b → Blk v b ∨ w.heap.size = b := by
          intro b hb
          have hb := hbv' b hb
          rcases hat with h1 | h1
          · rw [h1] at hb; exact .inl (hxno b hb)
          · rw [h1] at hb; injection hb with hb; exact .inr hb
        have hblock : ∀ b, b < w.heap.size → ¬ Blk v b → w'.heap[b]? = w.heap[b]? := fun b hb hne => hgr.block b hb (fun h => hne (hxno b h.symm))
        have him : ∀ b, Im b → Im b ∧ w'.heap[b]? = w.heap[b]? := fun b hb => ⟨hb, hblock b (hs.im b hb) (fun h => hni b h hb)⟩
        have hlx : (xs.take len ++ ys).length = len + ys.length := by rw [List.length_append, hxl]
        have hst := Step.turn (w' := w') (x' := .arr e sh (ver + 1) false (xs.take len ++ ys)) (v' := v') hs ⟨hgr.os, hgr.tape, hgr.output, hgr.size⟩ ho hρ (by simp) (Or.inl (Nat.lt_succ_self _)) hblock hni
          (fun b hb => (hbv b hb).imp (fun h => h) (fun h => by omega)) (fun b hb => ownsRow_lt hown' b hb) ?_
        · refine ⟨_, _, v', w', Im, _, hk, hrun, hst, ?_⟩
          simp only [RA, RS, RC]
          rw [List.getElem?_set_self (List.getElem?_eq_some_iff.1 ho).1]
          exact ⟨Nat.le_refl _, fun _ _ => ⟨by rw [hlx]; omega, v', upd_same, by rw [(ownsRow_mainV hown').1]; exact ownsRow_self hown'⟩⟩
        · refine ⟨vals.take (len * csz sh) ++ news, by rw [hlx, (ownsRow_mainV hown').1]; exact hown', ?_, ?_, fun b hb => ⟨fun _ hI => ?_, fun h => nomatch h⟩, fun _ => (ownsRow_mainV hown').1⟩
          · intro x hx
            rcases List.mem_append.1 hx with hx | hx
            · exact hxs x hx
            · exact hnsh x hx
          · intro i x j c u hx hj hu
            exact RP.mono him (get_app (n := 0) (by rw [hown2.1, hxl]) (fun x hx => PV.shp_len (hxs x hx)) (fun y hy => PV.shp_len (hnsh y hy)) hrp2 hnr i x j c u hx hj hu)
          · rcases hbv b hb with h1 | h1
            · exact hni b h1 hI
            · have := hs.im b hI; omega
      · cases h
    · cases h
  · cases h
theorem opAppendZ_sound (hE : EnvOK P E) (hs : SR w Im ρ o) {T T' ty : TypeId} {a b : AV} {x y : Value} (ha : RA w Im ρ o a x) (hb : RA w Im ρ o b y) (h : opAppendZ E T T' a b o K = some r) : Did P w Im ρ o K r (Builtin.append_ #[T, T'] ty #[x, y]) := by
  unfold opAppendZ at h
  split at h
  · rename_i e sh by_ kn v hT hT' hav
    obtain ⟨⟨sh', f, xs⟩, hq, h⟩ := bind_some h
    obtain ⟨zs, hz, h⟩ := bind_some h
    obtain ⟨n, hn, h⟩ := bind_some h
    obtain ⟨hcnd, hk⟩ := bif_some h
    simp only [Bool.and_eq_true, beq_iff_eq, decide_eq_true_eq] at hcnd
    obtain ⟨⟨⟨⟨hxs, rfl⟩, h0⟩, hby⟩, hlim⟩ := hcnd
    have hx := ha.pv hav
    rw [row_some hq] at hx
    obtain rfl : x = .slice none 0 0 := by
      cases hx with
      | nil => rfl
      | row _ _ _ a cap g hf2 => exact absurd rfl hf2
    obtain ⟨kb, rfl⟩ := hb.int hn
    obtain ⟨hu, ⟨inf, z, hi, hsz, hbe, hiz, hzs⟩, hsh, _⟩ := hE.sl T e sh by_ hT
    obtain ⟨i2, z2, sh2, hi2, hz2, hl2, hsh2, hl3, hone, hrp⟩ := hE.zr e zs hz
    rw [hi] at hi2
    injection hi2 with hi2
    subst hi2
    rw [hiz] at hz2
    injection hz2 with hz2
    subst hz2
    rw [hsh] at hsh2
    injection hsh2 with hsh2
    subst hsh2
    obtain ⟨x, hx⟩ : ∃ x, x = zeroEl sh zs := ⟨_, rfl⟩
    simp only [← hx] at hk hxs
    have hp := csz_pos sh
    have hxc : x.cells = zs := by
      cases sh with
      | zero =>
        have hlz : zs.length = 1 := hl3
        match zs, hlz with
        | [a], _ =>
          simp [zeroEl] at hx
          subst hx
          exact PV.cells_of_one (hone _ (by simp))
      | succ k => subst hx; rfl
    obtain ⟨N, rfl⟩ : ∃ N : Nat, n = N := ⟨n.toNat, by omega⟩
    simp only [Int.toNat_natCast] at hk hby hlim
    have hN : N ≤ maxLen := by simp only [LIM] at hlim; simp only [maxLen]; omega
    have hrun := Go.Lib.run_append_nil_zeros (P := P) w T T' ty e inf z kb kn hu (hE.ik T' kn hT') hi hiz N (by omega) (by omega) (by simp only [LIM] at hlim; omega) (by rw [hbe]; simp only [LIM] at hby; omega)
    have hge := grownCap_ge w N 0 e
    have hcm := grownCap_le_maxLen w N 0 e hN
    refine newArr_sound (w' := w.drew.alloc _) (e := e) (sh := sh) (xs := List.replicate N x) (vals := (Builtin.zeroCells z.cells N).toList) hs ⟨rfl, rfl, rfl, by simp⟩ (fun b hb => (heap_alloc_old w.drew _ hb)) ?_ (fun b hb => by simp at hb; omega) (fun y hy => by rw [List.eq_of_mem_replicate hy]; exact hxs) ?_ hrun (by simpa using hk)
    · refine ⟨by simp [size_zeroCells, hzs], .inr ⟨w.heap.size, _, _, by simp, Nat.zero_le _, heap_alloc_new w.drew _, by simpa using hge, hcm, ?_, ?_⟩⟩
      · rw [Array.size_append, size_zeroCells, size_zeroCells, hzs, ← Nat.add_mul]
        congr 1
        omega
      · have : (List.replicate N x).length * csz sh = (Builtin.zeroCells z.cells N).toList.length := by simp [size_zeroCells, hzs]
        rw [this]
        simp only [Array.toList_append]
        exact List.take_left
    · intro i y j c u hy hj hu
      have hiN : i < N := by simpa using (List.getElem?_eq_some_iff.1 hy).1
      obtain rfl : y = x := by
        have := (List.getElem?_eq_some_iff.1 hy).2
        simpa using this.symm
      rw [hxc] at hj
      have hjl : j < csz sh := by rw [← hl3]; exact (List.getElem?_eq_some_iff.1 hj).1
      have hfl := get_flat hiN hjl
      have h2 : (i * csz sh + j) % csz sh = j := by rw [Nat.mul_comm, Nat.mul_add_mod, Nat.mod_eq_of_lt hjl]
      have hzj : j < z.cells.size := by omega
      have : u = z.cells[j] := by
        rw [Array.getElem?_toList] at hu
        simp [Builtin.zeroCells, hzs, hfl, h2, hzj] at hu
        rw [← hu, getElem!_pos z.cells j hzj]
      subst this
      exact hrp j c _ hj (by simp [hzj]) w Im
  · cases h
end
end Go.Dp
