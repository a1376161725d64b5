/- Terms as trees. -/
import Derived.Test.YtocmjgfbcpgaoaaPv
import Derived.Test.YtocmjgfbcpgaoaaPg
set_option linter.unusedVariables false
set_option linter.unusedSimpArgs false
set_option maxRecDepth 4000
namespace Go.Proofs.Ytocmjgfbcpgaoaa
open Go.Dp

inductive Tr where
  | leaf (x : Nd)
  | un (x : Nd) (a : Tr)
  | bin (x : Nd) (a b : Tr)
def Tr.root : Tr → Nd
  | .leaf x => x
  | .un x _ => x
  | .bin x _ _ => x
def Tr.flat : Tr → List Nd
  | .leaf x => [x]
  | .un x a => a.flat ++ [x]
  | .bin x a b => a.flat ++ b.flat ++ [x]
def Tr.kind (T : Tr) : Int := (need T.root.1).2.2
def Tr.ok (wide vars : Int) : Tr → Prop
  | .leaf x => (need x.1).1 = 0 ∧ (need x.1).2.2 ≠ 0 ∧ leafOK wide vars x = true
  | .un x a => (need x.1).1 = 1 ∧ (need x.1).2.2 ≠ 0 ∧ leafOK wide vars x = true ∧ a.kind = (need x.1).2.1 ∧ a.ok wide vars
  | .bin x a b => (need x.1).1 = 2 ∧ (need x.1).2.2 ≠ 0 ∧ leafOK wide vars x = true ∧ a.kind = (need x.1).2.1 ∧ b.kind = (need x.1).2.1 ∧ a.ok wide vars ∧ b.ok wide vars
theorem Tr.flat_pos : ∀ T : Tr, 1 ≤ T.flat.length
  | .leaf x => by simp [Tr.flat]
  | .un x a => by simp [Tr.flat]
  | .bin x a b => by (simp [Tr.flat]; try omega)
theorem Tr.flat_last : ∀ T : Tr, ∃ r, T.flat = r ++ [T.root]
  | .leaf x => ⟨[], rfl⟩
  | .un x a => ⟨a.flat, rfl⟩
  | .bin x a b => ⟨a.flat ++ b.flat, rfl⟩
/-- The trees on a pile, the last one first. -/
def flats : List Tr → List Nd
  | [] => []
  | T :: l => flats l ++ T.flat
theorem parse {wide vars : Int} : ∀ (t : List Nd) (l : List Tr) (ks' : List Int), kst wide vars t (l.map Tr.kind) = some ks' → (∀ T ∈ l, T.ok wide vars) → ∃ l', flats l' = flats l ++ t ∧ l'.map Tr.kind = ks' ∧ ∀ T ∈ l', T.ok wide vars
  | [], l, ks', h, hl => ⟨l, by simp, by simp only [kst] at h; injection h, hl⟩
  | x :: t, l, ks', h, hl => by
    simp only [kst] at h
    split at h
    · cases h
    · rename_i h0
      split at h
      · cases h
      · rename_i h1
        split at h
        · cases h
        · rename_i h2
          split at h
          · cases h
          · rename_i h3
            have hlf : leafOK wide vars x = true := by simpa using h1
            rcases need_cases h0 with ⟨c1, hn⟩ | ⟨c1, hn⟩ | ⟨c1, hn⟩ | ⟨_, _, _, _, _, hn⟩
            · rw [hn, List.drop_zero] at h
              obtain ⟨l', g1, g2, g3⟩ := parse t (.leaf x :: l) ks' h (fun T hT => by
                rcases List.mem_cons.1 hT with rfl | hT
                · exact ⟨hn, h0, hlf⟩
                · exact hl T hT)
              exact ⟨l', by rw [g1]; simp [flats, Tr.flat], g2, g3⟩
            · rw [hn, List.drop_zero] at h
              obtain ⟨l', g1, g2, g3⟩ := parse t (.leaf x :: l) ks' h (fun T hT => by
                rcases List.mem_cons.1 hT with rfl | hT
                · exact ⟨hn, h0, hlf⟩
                · exact hl T hT)
              exact ⟨l', by rw [g1]; simp [flats, Tr.flat], g2, g3⟩
            · rw [hn] at h h2 h3
              cases l with
              | nil => simp at h2
              | cons a l =>
                have ha : a.kind = (need x.1).2.1 := by simpa using h3
                obtain ⟨l', g1, g2, g3⟩ := parse t (.un x a :: l) ks' h (fun T hT => by
                  rcases List.mem_cons.1 hT with rfl | hT
                  · exact ⟨hn, h0, hlf, ha, hl a (by simp)⟩
                  · exact hl T (by simp [hT]))
                exact ⟨l', by rw [g1]; simp [flats, Tr.flat], g2, g3⟩
            · rw [hn] at h h2 h3
              cases l with
              | nil => simp at h2
              | cons b l =>
                cases l with
                | nil => simp at h2
                | cons a l =>
                  have hab : b.kind = (need x.1).2.1 ∧ a.kind = (need x.1).2.1 := by simpa using h3
                  obtain ⟨l', g1, g2, g3⟩ := parse t (.bin x a b :: l) ks' h (fun T hT => by
                    rcases List.mem_cons.1 hT with rfl | hT
                    · exact ⟨hn, h0, hlf, hab.2, hab.1, hl a (by simp), hl b (by simp)⟩
                    · exact hl T (by simp [hT]))
                  exact ⟨l', by rw [g1]; simp [flats, Tr.flat], g2, g3⟩
/-- A good term is a tree. -/
theorem good_tree {wide vars : Int} {t : List Nd} (h : goodT wide vars t = true) : ∃ T : Tr, T.flat = t ∧ T.ok wide vars ∧ T.kind = kindT wide vars t := by
  obtain ⟨hk, _⟩ := good_kst h
  obtain ⟨l, h1, h2, h3⟩ := parse t [] _ hk (by simp)
  cases l with
  | nil => simp at h2
  | cons T l =>
    cases l with
    | nil =>
      simp at h2
      exact ⟨T, by simpa [flats] using h1, h3 T (by simp), h2⟩
    | cons T2 l => simp at h2
theorem Tr.run_kinds {wide vars : Int} : ∀ (T : Tr), T.ok wide vars → ∀ ks, kst wide vars T.flat ks = some (T.kind :: ks)
  | .leaf x, h, ks => by
    obtain ⟨h1, h2, h3⟩ := h
    simp only [Tr.flat, kst]
    rw [if_neg h2, if_neg (by simp [h3]), if_neg (by omega), h1]
    simp [Tr.kind, Tr.root]
  | .un x a, h, ks => by
    obtain ⟨h1, h2, h3, h4, h5⟩ := h
    simp only [Tr.flat, kst_app, Tr.run_kinds a h5 ks, Option.bind_some, kst]
    rw [if_neg h2, if_neg (by simp [h3]), if_neg (by simp; omega), h1]
    simp [Tr.kind, Tr.root] at h4 ⊢
    simp [h4]
  | .bin x a b, h, ks => by
    obtain ⟨h1, h2, h3, h4, h5, h6, h7⟩ := h
    simp only [Tr.flat, kst_app, Tr.run_kinds a h6 ks, Option.bind_some, Tr.run_kinds b h7, kst]
    rw [if_neg h2, if_neg (by simp [h3]), if_neg (by simp; omega), h1]
    simp [Tr.kind, Tr.root] at h4 h5 ⊢
    simp [h4, h5]
theorem tree_good {wide vars : Int} {T : Tr} (h : T.ok wide vars) (hw : isW wide = true) (hv : isV vars = true) (hl : T.flat.length ≤ 48) : goodT wide vars T.flat = true ∧ kindT wide vars T.flat = T.kind := by
  have hk := T.run_kinds h []
  have hs : sizeT wide vars T.flat = true := by simp [sizeT, hw, hv, T.flat_pos, hl]
  refine ⟨?_, ?_⟩
  · simp [goodT, hs, hk, fin1]
  · simp [kindT, hs, hk, kind1]
/-! ### Values -/
def Tr.val (wide : Int) (s : List W) : Tr → W
  | .leaf x => if x.1 = 2 then (s[x.2.toNat]?).getD 0#64 else x.2
  | .un x a => if x.1 = 13 then (~~~(a.val wide s) &&& mk wide) else 1#64 - a.val wide s
  | .bin x a b => apW wide x.1 (a.val wide s) (b.val wide s)
/-- Are all variables within the state? -/
def Tr.inS (s : List W) : Tr → Prop
  | .leaf x => x.1 = 2 → x.2.toNat < s.length
  | .un _ a => a.inS s
  | .bin _ a b => a.inS s ∧ b.inS s
theorem need_leaf {op : Int} (h0 : (need op).2.2 ≠ 0) (h : (need op).1 = 0) : op = 1 ∨ op = 20 ∨ op = 2 := by
  rcases need_cases h0 with ⟨c, _⟩ | ⟨c, _⟩ | ⟨_, c⟩ | ⟨_, _, _, _, _, c⟩
  · rcases c with c | c <;> simp [c]
  · simp [c]
  · omega
  · omega
theorem need_un {op : Int} (h0 : (need op).2.2 ≠ 0) (h : (need op).1 = 1) : op = 13 ∨ op = 19 := by
  rcases need_cases h0 with ⟨_, c⟩ | ⟨_, c⟩ | ⟨c, _⟩ | ⟨_, _, _, _, _, c⟩
  · omega
  · omega
  · exact c
  · omega
theorem need_bin {op : Int} (h0 : (need op).2.2 ≠ 0) (h : (need op).1 = 2) : op ≠ 1 ∧ op ≠ 20 ∧ op ≠ 2 ∧ op ≠ 13 ∧ op ≠ 19 := by
  rcases need_cases h0 with ⟨_, c⟩ | ⟨_, c⟩ | ⟨_, c⟩ | ⟨c1, c2, c3, c4, c5, _⟩
  · omega
  · omega
  · omega
  · exact ⟨c1, c2, c3, c4, c5⟩
theorem Tr.run_val {wide vars : Int} (s : List W) : ∀ (T : Tr), T.ok wide vars → T.inS s → ∀ vs, vrun wide s T.flat vs = some (T.val wide s :: vs)
  | .leaf x, h, hi, vs => by
    obtain ⟨h1, h2, h3⟩ := h
    simp only [Tr.flat, vrun, Tr.val]
    rcases need_leaf h2 h1 with c | c | c
    · rw [if_pos (.inl c), if_neg (by omega)]
    · rw [if_pos (.inr c), if_neg (by omega)]
    · have := hi c
      rw [if_neg (by omega), if_pos c, if_pos c, List.getElem?_eq_getElem this]
      rfl
  | .un x a, h, hi, vs => by
    obtain ⟨h1, h2, h3, h4, h5⟩ := h
    simp only [Tr.flat, vrun_app, Tr.run_val s a h5 hi vs, Option.bind_some, vrun, Tr.val]
    rcases need_un h2 h1 with c | c
    · rw [if_neg (by omega), if_neg (by omega), if_pos c, if_pos c]
    · rw [if_neg (by omega), if_neg (by omega), if_neg (by omega), if_pos c, if_neg (by omega)]
  | .bin x a b, h, hi, vs => by
    obtain ⟨h1, h2, h3, h4, h5, h6, h7⟩ := h
    obtain ⟨c1, c2, c3, c4, c5⟩ := need_bin h2 h1
    simp only [Tr.flat, vrun_app, Tr.run_val s a h6 hi.1 vs, Option.bind_some, Tr.run_val s b h7 hi.2, vrun, Tr.val]
    rw [if_neg (by omega), if_neg c3, if_neg c4, if_neg c5]
theorem Tr.val_ok {wide vars : Int} (hw : isW wide = true) (hv : isV vars = true) {s : List W} (hg : ∀ a ∈ s, a ≤ mk wide) : ∀ (T : Tr), T.ok wide vars → okV wide T.kind (T.val wide s)
  | .leaf x, h => by
    obtain ⟨h1, h2, h3⟩ := h
    have hl := leaf_run hv h3
    rcases need_leaf h2 h1 with c | c | c
    · refine .inl ⟨by simp only [Tr.kind, Tr.root]; rw [c]; decide, ?_⟩
      simp only [Tr.val]
      rw [if_neg (by omega)]
      exact hl.1 c
    · refine .inr ⟨by simp only [Tr.kind, Tr.root]; rw [c]; decide, ?_⟩
      simp only [Tr.val]
      rw [if_neg (by omega)]
      exact hl.2.1 c
    · refine .inl ⟨by simp only [Tr.kind, Tr.root]; rw [c]; decide, ?_⟩
      simp only [Tr.val]
      rw [if_pos c]
      cases hq : s[x.2.toNat]? with
      | none => rw [Option.getD_none, BitVec.le_def]; exact Nat.zero_le _
      | some a => exact hg a (List.mem_of_getElem? hq)
  | .un x a, h => by
    obtain ⟨h1, h2, h3, h4, h5⟩ := h
    have ih := Tr.val_ok hw hv hg a h5
    rcases need_un h2 h1 with c | c
    · refine .inl ⟨by simp only [Tr.kind, Tr.root]; rw [c]; decide, ?_⟩
      simp only [Tr.val]
      rw [if_pos c]
      exact and_le_right' _ _
    · refine .inr ⟨by simp only [Tr.kind, Tr.root]; rw [c]; decide, ?_⟩
      simp only [Tr.val]
      rw [if_neg (by omega)]
      have hk : a.kind = 2 := by rw [h4, c]; decide
      rw [hk] at ih
      rcases le_one_cases (okV_two ih) with e | e <;> rw [e] <;> decide
  | .bin x a b, h => by
    obtain ⟨h1, h2, h3, h4, h5, h6, h7⟩ := h
    have ia := Tr.val_ok hw hv hg a h6
    have ib := Tr.val_ok hw hv hg b h7
    rw [h4] at ia
    rw [h5] at ib
    exact apW_ok hw h1 ia ib
end Go.Proofs.Ytocmjgfbcpgaoaa
