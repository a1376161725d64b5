/- Structs and slices that are built; append. -/
import Derived.Test.YtnliglgellapdaaDp8
set_option linter.unusedVariables false
set_option linter.unusedSimpArgs false
namespace Go.Dp
section
variable {P : Program} {E : Env} {w w' : World} {Im Im' : Nat → Prop} {ρ ρ' : Nat → Option Value} {o o' : List AObj} {K : Kt} {r : List SV × List (List CV)}

theorem fold_set (off : Nat) : ∀ (l : List Value) (k : Nat) (arr : Array Value), ((l.zipIdx k).foldl (fun cs (c, j) => cs.setIfInBounds (off + j) c) arr).size = arr.size ∧
    ∀ p, ((l.zipIdx k).foldl (fun cs (c, j) => cs.setIfInBounds (off + j) c) arr)[p]? = if off + k ≤ p ∧ p < off + k + l.length ∧ p < arr.size then l[p - (off + k)]? else arr[p]?
  | [], k, arr => ⟨rfl, fun p => by rw [if_neg (by simp; omega)]; rfl⟩
  | v :: l, k, arr => by
    have ih := fold_set off l (k + 1) (arr.setIfInBounds (off + k) v)
    refine ⟨by simpa using ih.1, fun p => ?_⟩
    simp only [List.zipIdx_cons, List.foldl_cons]
    rw [ih.2 p]
    simp only [Array.size_setIfInBounds, List.length_cons]
    by_cases h1 : p = off + k
    · subst h1
      rw [if_neg (by omega)]
      by_cases h2 : off + k < arr.size
      · rw [if_pos (by omega)]; simp [h2]
      · rw [if_neg (by omega)]; simp [h2]
    · rw [Array.getElem?_setIfInBounds_ne (Ne.symm h1)]
      by_cases h2 : off + (k + 1) ≤ p ∧ p < off + (k + 1) + l.length ∧ p < arr.size
      · rw [if_pos h2, if_pos (by omega), show p - (off + k) = p - (off + (k + 1)) + 1 by omega, List.getElem?_cons_succ]
      · rw [if_neg h2, if_neg (by omega)]
theorem mapO_get {α β : Type} {f : α → Option β} : ∀ {l : List α} {r : List β}, l.mapM f = some r → ∀ (i : Nat) (a : α), l[i]? = some a → ∃ b, r[i]? = some b ∧ f a = some b
  | [], r, h, i, a, ha => by simp at ha
  | x :: l, r, h, i, a, ha => by
    simp only [List.mapM_cons, Option.bind_eq_bind, Option.pure_def, Option.bind_eq_some_iff] at h
    obtain ⟨b, hb, bs, hbs, hr⟩ := h
    injection hr with hr
    subst hr
    cases i with
    | zero => simp at ha; subst ha; exact ⟨b, rfl, hb⟩
    | succ i => exact mapO_get hbs i a (by simpa using ha)
theorem mapO_all {α β : Type} {f : α → Option β} : ∀ {l : List α}, (∀ x ∈ l, ∃ y, f x = some y) → ∃ r, l.mapM f = some r
  | [], _ => ⟨[], rfl⟩
  | x :: l, h => by
    obtain ⟨y, hy⟩ := h x (by simp)
    obtain ⟨r, hr⟩ := mapO_all (l := l) fun z hz => h z (by simp [hz])
    exact ⟨y :: r, by simp [hy, hr]⟩
/-- Cells and what they stand for. -/
def Cells (w : World) (Im : Nat → Prop) (ρ : Nat → Option Value) (o : List AObj) (cs : List CV) (vs : Array Value) : Prop :=
  vs.size = cs.length ∧ (∀ (i : Nat) (c : CV) (y : Value), cs[i]? = some c → vs[i]? = some y → RC w Im ρ o c y) ∧ ∀ (i : Nat) (y : Value), vs[i]? = some y → y.oneCell' = true
theorem buildIn_sound (hE : EnvOK P E) (hs : SR w Im ρ o) {T : TypeId} {t : List AV} {ev : Operand → Value} {fs : Array Field} {places : List (Nat × Nat)} (hu : P.underlying T = some (.struct fs))
    (hp : fs.toList.mapM (fun f => (P.info? f.type).map fun i => (f.offset, i.size)) = some places) {K : List CV → R} : ∀ {ps : List (Nat × Operand)} {cs : List CV} {vs : Array Value}, (∀ q ∈ ps, RA w Im ρ o (aval t q.2) (ev q.2)) → Cells w Im ρ o cs vs → buildIn E T t o ps cs K = some r →
    ∃ cs' vs', K cs' = some r ∧ Instr.fill (places.toArray[·]?) vs (ps.map fun q => (q.1, ev q.2)) = some vs' ∧ Cells w Im ρ o cs' vs' := by
  intro ps
  induction ps with
  | nil => intro cs vs _ hc h; exact ⟨cs, vs, h, rfl, hc⟩
  | cons q ps ih =>
    intro cs vs hra hc h
    obtain ⟨i, x⟩ := q
    simp only [buildIn] at h
    split at h
    · rename_i off sh v hfl hsv
      have hx : RA w Im ρ o (aval t x) (ev x) := hra (i, x) (by simp)
      rw [sv_some hsv] at hx
      obtain ⟨ns, h, hnl, hyl, hyr, hy1⟩ := cellsK_sound hs h hx
      obtain ⟨cs', hcs, h⟩ := bind_some h
      obtain ⟨hle, rfl⟩ := splice_some hcs
      obtain ⟨fs', fd, inf, hu', hfd, hoff, hinf, hsz⟩ := hE.fl T i off sh hfl
      rw [hu] at hu'
      injection hu' with hu'
      injection hu' with hu'
      subst hu'
      obtain ⟨pl, hpl, hpe⟩ := mapO_get hp i fd (by simpa using hfd)
      simp only [hinf, Option.map_some, Option.some.injEq] at hpe
      subst hpe
      obtain ⟨NV, hNV⟩ : ∃ NV, NV = (ev x).cells.zipIdx.foldl (fun cs (c, j) => cs.setIfInBounds (off + j) c) vs := ⟨_, rfl⟩
      have hNV' : NV = ((ev x).cells.toList.zipIdx).foldl (fun cs (c, j) => cs.setIfInBounds (off + j) c) vs := by rw [hNV, ← Array.foldl_toList, Array.toList_zipIdx]
      have hfold := fold_set off (ev x).cells.toList 0 vs
      rw [← hNV'] at hfold
      have hcells : Cells w Im ρ o (cs.take off ++ ns ++ cs.drop (off + ns.length)) NV := by
        refine ⟨by rw [hfold.1, len_splice _ _ _ hle]; exact hc.1, ?_, ?_⟩
        · intro p c y hpc hpy
          rw [hfold.2 p] at hpy
          rw [get_splice _ _ _ _ hle] at hpc
          simp only [Nat.add_zero, Array.length_toList] at hpy
          have hvs := hc.1
          by_cases h2 : p < off
          · rw [if_pos h2] at hpc
            rw [if_neg (by omega)] at hpy
            exact hc.2.1 p c y hpc hpy
          · rw [if_neg h2] at hpc
            by_cases h3 : p < off + ns.length
            · rw [if_pos h3] at hpc
              rw [if_pos (by omega)] at hpy
              exact hyr _ c y hpc (by simpa using hpy)
            · rw [if_neg h3] at hpc
              rw [if_neg (by omega)] at hpy
              exact hc.2.1 p c y hpc hpy
        · intro p y hpy
          rw [hfold.2 p] at hpy
          split at hpy
          · exact hy1 _ y (by simpa using hpy)
          · exact hc.2.2 p y hpy
      obtain ⟨cs'', vs'', hk, hf, hcc⟩ := ih (fun q hq => hra q (by simp [hq])) hcells h
      refine ⟨cs'', vs'', hk, ?_, hcc⟩
      simp only [List.map_cons, Instr.fill, List.getElem?_toArray, hpl]
      have hsz' : (ev x).cells.size = inf.size := by omega
      have hcl := hc.1
      have hn : ¬ ((ev x).cells.size ≠ inf.size ∨ off + (ev x).cells.size > vs.size) := by omega
      rw [if_neg (by simpa [hoff] using hn), hoff, ← hNV]
      simpa only [List.getElem?_toArray] using hf
    · cases h
theorem opBuild_sound (hE : EnvOK P E) (hs : SR w Im ρ o) {T : TypeId} {t : List AV} {ev : Operand → Value} {ps : Array (Nat × Operand)} (hra : ∀ q ∈ ps.toList, RA w Im ρ o (aval t q.2) (ev q.2)) (h : opBuild E T t ps.toList o K = some r) :
    DidS P w Im ρ o K r (Instr.build T (ps.map fun (i, x) => (i, ev x))) := by
  unfold opBuild at h
  split at h
  · rename_i zs n hz hT
    obtain ⟨it, z, sh, hi, hiz, hl, _, _, hone, hrp⟩ := hE.zr T zs hz
    obtain ⟨fs, i2, hu, hi2, hsz, hinfo⟩ := hE.shn T n hT
    have hp : ∃ places, fs.toList.mapM (fun f => (P.info? f.type).map fun i => (f.offset, i.size)) = some places := by
      refine mapO_all fun f hf => ?_
      obtain ⟨j, hj⟩ := hinfo f hf
      exact ⟨_, by rw [hj]; rfl⟩
    obtain ⟨places, hp⟩ := hp
    have hc0 : Cells w Im ρ o (zs.map CV.p) z.cells := by
      refine ⟨by simpa using hl, ?_, ?_⟩
      · intro i c y a b
        simp at a
        obtain ⟨q, hq, rfl⟩ := a
        exact hrp i q y hq b w Im
      · intro i y b
        have hi' : i < zs.length := by rw [← hl]; exact (Array.getElem?_eq_some_iff.1 b).1
        exact ((hrp i zs[i] y (by simp [hi']) b w Im).one (hone _ (List.getElem_mem hi'))).1
    obtain ⟨cs', vs', hk, hf, hcc⟩ := buildIn_sound hE hs hu hp hra hc0 h
    refine DidS.same hk ?_ (mkAgg_sound hcc.1 hcc.2.1 hcc.2.2)
    refine run_build w T _ vs' ?_
    unfold Program.built
    simp only [hi, hu, hiz, hp]
    rw [← hf]
    simp
  · cases h
end
end Go.Dp
