/- Folding: the plain laws. -/
import Derived.Test.YtocmjgfbcpgaoaaTa
set_option linter.unusedVariables false
set_option linter.unusedSimpArgs false
set_option maxRecDepth 4000
namespace Go.Proofs.Ytocmjgfbcpgaoaa
open Go.Dp

def Tr.noVars : Tr → Bool
  | .leaf x => x.1 != 2
  | .un _ a => a.noVars
  | .bin _ a b => a.noVars && b.noVars
def numT (wide : Int) (T : Tr) : Tr := .leaf (if T.kind = 2 then 20 else 1, T.val wide [])
def Tr.fold (wide : Int) : Tr → Tr
  | .leaf x => .leaf x
  | .un x a => if a.noVars then numT wide (.un x a) else .un x (a.fold wide)
  | .bin x a b => if a.noVars && b.noVars then numT wide (.bin x a b) else .bin x (a.fold wide) (b.fold wide)
theorem Tr.fold_leaf (wide : Int) (x : Nd) : (Tr.leaf x).fold wide = .leaf x := rfl
theorem Tr.fold_un (wide : Int) (x : Nd) (a : Tr) : (Tr.un x a).fold wide = if a.noVars then numT wide (.un x a) else .un x (a.fold wide) := rfl
theorem Tr.fold_bin (wide : Int) (x : Nd) (a b : Tr) : (Tr.bin x a b).fold wide = if a.noVars && b.noVars then numT wide (.bin x a b) else .bin x (a.fold wide) (b.fold wide) := rfl
theorem Tr.noVars_inS : ∀ (T : Tr) (s : List W), T.noVars = true → T.inS s
  | .leaf x, s, h => fun h2 => by simp [Tr.noVars, h2] at h
  | .un x a, s, h => Tr.noVars_inS a s h
  | .bin x a b, s, h => by
    simp only [Tr.noVars, Bool.and_eq_true] at h
    exact ⟨Tr.noVars_inS a s h.1, Tr.noVars_inS b s h.2⟩
theorem Tr.noVars_val (wide : Int) (s s' : List W) : ∀ (T : Tr), T.noVars = true → T.val wide s = T.val wide s'
  | .leaf x, h => by
    have : ¬ x.1 = 2 := by simpa [Tr.noVars] using h
    simp [Tr.val, this]
  | .un x a, h => by simp only [Tr.val, Tr.noVars_val wide s s' a h]
  | .bin x a b, h => by
    simp only [Tr.noVars, Bool.and_eq_true] at h
    simp only [Tr.val, Tr.noVars_val wide s s' a h.1, Tr.noVars_val wide s s' b h.2]
theorem numT_kind {wide vars : Int} {T : Tr} (h : T.ok wide vars) : (numT wide T).kind = T.kind := by
  have hk : T.kind = 1 ∨ T.kind = 2 := by
    have h0 : T.kind ≠ 0 := by cases T <;> exact h.2.1
    rcases need_own T.root.1 with h1 | h1 | h1
    · exact absurd h1 h0
    · exact .inl h1
    · exact .inr h1
  rcases hk with hk | hk
  · rw [hk]; unfold numT; rw [hk]; rfl
  · rw [hk]; unfold numT; rw [hk]; rfl
theorem numT_ok {wide vars : Int} (hw : isW wide = true) (hv : isV vars = true) {T : Tr} (h : T.ok wide vars) : (numT wide T).ok wide vars := by
  have hvv := T.val_ok hw hv (s := []) (by simp) h
  unfold numT Tr.ok
  by_cases hk : T.kind = 2
  · rw [hk] at hvv
    have := okV_two hvv
    simp only [hk, if_true]
    refine ⟨by decide, by decide, ?_⟩
    unfold leafOK
    simp only
    rw [if_neg (by omega), if_neg (by omega), if_pos trivial, decide_eq_true_eq]
    exact wi_le_iff.2 this
  · have hle : T.val wide [] ≤ mk wide := by rcases hvv with h | h; exact h.2; exact absurd h.1 hk
    simp only [hk, if_false]
    refine ⟨by decide, by decide, ?_⟩
    unfold leafOK
    rw [if_pos rfl]
    exact goodW_iff.2 ⟨hw, hle⟩
theorem Tr.fold_ok {wide vars : Int} (hw : isW wide = true) (hv : isV vars = true) : ∀ (T : Tr), T.ok wide vars → (T.fold wide).ok wide vars ∧ (T.fold wide).kind = T.kind
  | .leaf x, h => ⟨h, rfl⟩
  | .un x a, h => by
    obtain ⟨h1, h2, h3, h4, h5⟩ := h
    obtain ⟨g1, g2⟩ := Tr.fold_ok hw hv a h5
    rw [Tr.fold_un]
    split
    · exact ⟨numT_ok hw hv ⟨h1, h2, h3, h4, h5⟩, numT_kind (vars := vars) ⟨h1, h2, h3, h4, h5⟩⟩
    · exact ⟨⟨h1, h2, h3, by rw [g2]; exact h4, g1⟩, rfl⟩
  | .bin x a b, h => by
    obtain ⟨h1, h2, h3, h4, h5, h6, h7⟩ := h
    obtain ⟨g1, g2⟩ := Tr.fold_ok hw hv a h6
    obtain ⟨g3, g4⟩ := Tr.fold_ok hw hv b h7
    rw [Tr.fold_bin]
    split
    · exact ⟨numT_ok hw hv ⟨h1, h2, h3, h4, h5, h6, h7⟩, numT_kind (vars := vars) ⟨h1, h2, h3, h4, h5, h6, h7⟩⟩
    · exact ⟨⟨h1, h2, h3, by rw [g2]; exact h4, by rw [g4]; exact h5, g1, g3⟩, rfl⟩
theorem numT_val (wide : Int) (s : List W) (T : Tr) (h : T.noVars = true) : (numT wide T).val wide s = T.val wide s := by
  have hne : ¬ (if T.kind = 2 then (20 : Int) else 1) = 2 := by split <;> omega
  unfold numT
  simp only [Tr.val]
  rw [if_neg hne, Tr.noVars_val wide s [] T h]
theorem Tr.fold_val (wide : Int) (s : List W) : ∀ (T : Tr), (T.fold wide).val wide s = T.val wide s
  | .leaf x => rfl
  | .un x a => by
    rw [Tr.fold_un]
    split
    · rename_i h
      exact numT_val wide s (.un x a) h
    · simp only [Tr.val, Tr.fold_val wide s a]
  | .bin x a b => by
    rw [Tr.fold_bin]
    split
    · rename_i h
      exact numT_val wide s (.bin x a b) h
    · simp only [Tr.val, Tr.fold_val wide s a, Tr.fold_val wide s b]
theorem Tr.fold_len (wide : Int) : ∀ (T : Tr), (T.fold wide).flat.length ≤ T.flat.length
  | .leaf x => by simp [Tr.fold]
  | .un x a => by
    have := Tr.fold_len wide a
    rw [Tr.fold_un]
    split
    · (simp [numT, Tr.flat]; try omega)
    · (simp [Tr.flat]; try omega)
  | .bin x a b => by
    have := Tr.fold_len wide a
    have := Tr.fold_len wide b
    rw [Tr.fold_bin]
    split
    · (simp [numT, Tr.flat]; try omega)
    · (simp [Tr.flat]; try omega)
theorem numT_noVars (wide : Int) (T : Tr) : (numT wide T).noVars = true := by
  unfold numT Tr.noVars
  simp only
  split <;> decide
theorem Tr.fold_noVars (wide : Int) : ∀ (T : Tr), (T.fold wide).noVars = T.noVars
  | .leaf x => rfl
  | .un x a => by
    rw [Tr.fold_un]
    split
    · rename_i h
      rw [numT_noVars]
      exact h.symm
    · simp only [Tr.noVars, Tr.fold_noVars wide a]
  | .bin x a b => by
    rw [Tr.fold_bin]
    split
    · rename_i h
      rw [numT_noVars]
      exact h.symm
    · simp only [Tr.noVars, Tr.fold_noVars wide a, Tr.fold_noVars wide b]
theorem Tr.fold_fold (wide : Int) : ∀ (T : Tr), (T.fold wide).fold wide = T.fold wide
  | .leaf x => rfl
  | .un x a => by
    rw [Tr.fold_un]
    split
    · rfl
    · rename_i h
      rw [Tr.fold_un, Tr.fold_noVars, if_neg h, Tr.fold_fold wide a]
  | .bin x a b => by
    rw [Tr.fold_bin]
    split
    · rfl
    · rename_i h
      rw [Tr.fold_bin, Tr.fold_noVars, Tr.fold_noVars, if_neg h, Tr.fold_fold wide a, Tr.fold_fold wide b]
theorem vlist_app : ∀ (t u : List Nd), vlist (t ++ u) = vlist t ++ vlist u
  | [], u => rfl
  | x :: t, u => by simp only [List.cons_append, vlist, vlist_app t u, List.append_assoc]
theorem vlist_op {wide vars : Int} {x : Nd} (h : (need x.1).1 ≠ 0) (h0 : (need x.1).2.2 ≠ 0) : vlist [x] = [] := by
  have : ¬ x.1 = 2 := fun e => by rw [e] at h; exact h (by decide)
  simp [vlist, this]
theorem Tr.noVars_vlist {wide vars : Int} : ∀ (T : Tr), T.ok wide vars → (vlist T.flat = [] ↔ T.noVars = true)
  | .leaf x, h => by
    simp only [Tr.flat, vlist, Tr.noVars]
    by_cases h2 : x.1 = 2 <;> simp [h2]
  | .un x a, h => by
    obtain ⟨h1, h2, h3, h4, h5⟩ := h
    simp only [Tr.flat, vlist_app, vlist_op (wide := wide) (vars := vars) (x := x) (by omega) h2, List.append_nil, Tr.noVars]
    exact Tr.noVars_vlist a h5
  | .bin x a b, h => by
    obtain ⟨h1, h2, h3, h4, h5, h6, h7⟩ := h
    simp only [Tr.flat, vlist_app, vlist_op (wide := wide) (vars := vars) (x := x) (by omega) h2, List.append_nil, List.append_eq_nil_iff, Tr.noVars, Bool.and_eq_true, Tr.noVars_vlist a h6, Tr.noVars_vlist b h7]
theorem numT_vlist (wide : Int) (T : Tr) : vlist (numT wide T).flat = [] := by
  have hne : ¬ (if T.kind = 2 then (20 : Int) else 1) = 2 := by split <;> omega
  unfold numT Tr.flat vlist
  rw [if_neg hne]
  rfl
theorem Tr.fold_vlist {wide vars : Int} : ∀ (T : Tr), T.ok wide vars → vlist (T.fold wide).flat = vlist T.flat
  | .leaf x, h => rfl
  | .un x a, h => by
    have hok := h
    obtain ⟨h1, h2, h3, h4, h5⟩ := h
    have ih := Tr.fold_vlist a h5
    rw [Tr.fold_un]
    split
    · rename_i hn
      rw [numT_vlist, (Tr.noVars_vlist (.un x a) hok).2 hn]
    · simp only [Tr.flat, vlist_app, ih]
  | .bin x a b, h => by
    have hok := h
    obtain ⟨h1, h2, h3, h4, h5, h6, h7⟩ := h
    have iha := Tr.fold_vlist a h6
    have ihb := Tr.fold_vlist b h7
    rw [Tr.fold_bin]
    split
    · rename_i hn
      rw [numT_vlist, (Tr.noVars_vlist (.bin x a b) hok).2 hn]
    · simp only [Tr.flat, vlist_app, iha, ihb]
theorem canI_nil {l : List Int} : (canI l).length = 0 ↔ l = [] := by
  constructor
  · intro h
    have h1 : canI l = [] := List.eq_nil_of_length_eq_zero h
    cases l with
    | nil => rfl
    | cons x l =>
      have := ((canI_spec (x :: l)).2 x).2 (by simp)
      rw [h1] at this
      simp at this
  · intro h
    subst h
    have := canI_len []
    simpa using this
end Go.Proofs.Ytocmjgfbcpgaoaa
