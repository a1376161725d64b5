/- Texts Dp3, Dp4, Dp5, Dp6, Dp7, Dp8, Dp9 in one. -/
import Derived.Test.YtocmjgfbcpgaoaaDp2
import Derived.Great.BuildSlice
import Derived.Laws.Tables
/- Reading, and what only reckons with addresses. -/
set_option linter.unusedVariables false
set_option linter.unusedSimpArgs false
namespace Go.Dp

/-- What is asked of an operation: the machine does it, and what the evaluator went on with stands for what it left. -/
def Did (P : Program) (w : World) (Im : Nat → Prop) (ρ : Nat → Option Value) (o : List AObj) (K : Kt) (r : List SV × List (List CV)) (s : Sem Value) : Prop :=
  ∃ v o' y w' Im' ρ', K v o' = some r ∧ s.run P w = .ok y w' ∧ Step w Im ρ o w' Im' ρ' o' ∧ RA w' Im' ρ' o' v y

section
variable {P : Program} {E : Env} {w : World} {Im : Nat → Prop} {ρ : Nat → Option Value} {o : List AObj} {K : Kt} {r : List SV × List (List CV)}

/-- An operation that leaves the world alone. -/
def DidS (P : Program) (w : World) (Im : Nat → Prop) (ρ : Nat → Option Value) (o : List AObj) (K : Kt) (r : List SV × List (List CV)) (s : Sem Value) : Prop :=
  ∃ v y, K v o = some r ∧ s.run P w = .ok y w ∧ RA w Im ρ o v y
theorem DidS.same {s : Sem Value} {v : AV} {y : Value} (hk : K v o = some r) (hr : s.run P w = .ok y w) (h : RA w Im ρ o v y) : DidS P w Im ρ o K r s := ⟨v, y, hk, hr, h⟩
theorem DidS.did {s : Sem Value} (hs : SR w Im ρ o) (h : DidS P w Im ρ o K r s) : Did P w Im ρ o K r s :=
  let ⟨v, y, h1, h2, h3⟩ := h; ⟨v, o, y, w, Im, ρ, h1, h2, Step.refl hs, h3⟩
theorem Did.same {s : Sem Value} {v : AV} {y : Value} (hs : SR w Im ρ o) (hk : K v o = some r) (hr : s.run P w = .ok y w) (h : RA w Im ρ o v y) : Did P w Im ρ o K r s :=
  ⟨v, o, y, w, Im, ρ, hk, hr, Step.refl hs, h⟩

theorem add_at (b off j : Nat) : (⟨b, off, none⟩ : Addr).add j = ⟨b, off + j, none⟩ := by
  unfold Addr.add
  split <;> simp_all
theorem cell_of {vs : Array Value} {e : TypeId} {fr : Nat × Nat} {b i : Nat} (h : w.heap[b]? = some (.cells vs e fr)) : w.cell? ⟨b, i, none⟩ = vs[i]? := by simp [World.cell?, h]
theorem RP.one_of {v : PV} {y : Value} (h : RP w Im v y) (hy : y.oneCell' = true) : v.one = true := by
  cases h <;> simp_all [Value.oneCell', PV.one]
theorem cv_some {a : AV} {c : CV} (h : a.cv? = some c) : a = .s (.c c) := by
  cases a with
  | s v => cases v <;> simp_all [AV.cv?]
  | tup _ => simp [AV.cv?] at h
theorem pv_some {a : AV} {v : PV} (h : a.pv? = some v) : a = .p v := by
  cases a with
  | s s => cases s with
    | c c => cases c <;> simp_all [AV.pv?]
    | agg _ => simp [AV.pv?] at h
  | tup _ => simp [AV.pv?] at h
theorem sv_some {a : AV} {v : SV} (h : a.sv? = some v) : a = .s v := by cases a <;> simp_all [AV.sv?]
theorem int_some {a : AV} {n : Int} (h : a.int? = some n) : ∃ k, a = .p (.int k n) := by
  unfold AV.int? at h
  obtain ⟨v, hv, hn⟩ := Option.bind_eq_some_iff.1 h
  rw [pv_some hv]
  cases v <;> simp [PV.int?] at hn
  subst hn
  exact ⟨_, rfl⟩
theorem bool_some {a : AV} {b : Bool} (h : a.bool? = some b) : a = .p (.bool b) := by
  unfold AV.bool? at h
  obtain ⟨v, hv, hn⟩ := Option.bind_eq_some_iff.1 h
  rw [pv_some hv]
  cases v <;> simp [PV.bool?] at hn
  subst hn
  rfl
theorem RA.int {a : AV} {n : Int} {x : Value} (h : a.int? = some n) (hx : RA w Im ρ o a x) : ∃ k, x = .int k n := by
  obtain ⟨k, rfl⟩ := int_some h
  cases hx
  exact ⟨k, rfl⟩
theorem RA.bool {a : AV} {b : Bool} {x : Value} (h : a.bool? = some b) (hx : RA w Im ρ o a x) : x = .bool b := by
  rw [bool_some h] at hx
  cases hx
  rfl
theorem RA.pv {a : AV} {v : PV} {x : Value} (h : a.pv? = some v) (hx : RA w Im ρ o a x) : RP w Im v x := by
  rw [pv_some h] at hx
  exact hx
theorem bind_some {α β : Type} {a : Option α} {f : α → Option β} {b : β} (h : a.bind f = some b) : ∃ x, a = some x ∧ f x = some b := Option.bind_eq_some_iff.1 h
theorem bif_some {α : Type} {c : Bool} {x : Option α} {b : α} (h : (bif c then x else none) = some b) : c = true ∧ x = some b := by
  cases c
  · cases h
  · exact ⟨rfl, h⟩
theorem row_some {v : PV} {q : Nat × Nat × List PV} (h : v.row? = some q) : v = .row q.1 q.2.1 q.2.2 := by
  cases v <;> simp [PV.row?] at h
  subst h
  rfl
theorem str_some {v : PV} {s : ByteArray} (h : v.str? = some s) : v = .str s := by
  cases v <;> simp [PV.str?] at h
  subst h
  rfl
theorem bif_none {α : Type} {c : Bool} {x : Option α} {b : α} (h : (bif c then none else x) = some b) : c = false ∧ x = some b := by
  cases c
  · exact ⟨rfl, h⟩
  · cases h

theorem range_get {m i : Nat} {f : Nat → Value} {y : Value} (h : ((List.range m).map f).toArray[i]? = some y) : i < m ∧ y = f i := by
  simp only [List.getElem?_toArray, List.getElem?_map] at h
  rcases Nat.lt_or_ge i m with hi | hi
  · rw [List.getElem?_range hi] at h
    simp at h
    exact ⟨hi, h.symm⟩
  · rw [List.getElem?_eq_none (by simpa using hi)] at h
    simp at h

/-- A struct's value out of cells. -/
theorem mkAgg_sound {cs : List CV} {vs : Array Value} (hl : vs.size = cs.length) (h : ∀ (i : Nat) (c : CV) (y : Value), cs[i]? = some c → vs[i]? = some y → RC w Im ρ o c y)
    (h1 : ∀ (i : Nat) (y : Value), vs[i]? = some y → y.oneCell' = true) : RS w Im ρ o (mkAgg cs) (.agg vs) := by
  unfold mkAgg
  split
  · rename_i ps hp
    have hps : cs = ps.map .p := by
      clear hl h h1
      induction cs generalizing ps with
      | nil => simp [allP] at hp; simp [hp]
      | cons c cs ih =>
        cases c <;> simp [allP] at hp
        obtain ⟨qs, hq, rfl⟩ := hp
        simp [ih qs hq]
    subst hps
    refine RP.agg ps vs (by simpa using hl) ?_ ?_
    · intro i c hc
      have hi : i < vs.size := by rw [hl]; simpa using (List.getElem?_eq_some_iff.1 hc).1
      have := h i (.p c) vs[i] (by simp [hc]) (by simp [hi])
      exact RP.one_of this (h1 i _ (by simp [hi]))
    · intro i c v hc hv
      exact h i (.p c) v (by simp [hc]) hv
  · exact ⟨vs, rfl, hl, h, h1⟩
theorem ofCells_sound (hE : EnvOK P E) {T : TypeId} {sh : Nat} (hT : E.sh T = some sh) {cs : List CV} {off b : Nat} {vs : Array Value} {e : TypeId} {v : SV} (hb : w.heap[b]? = some (.cells vs e (0, 0))) (hl : vs.size = cs.length)
    (h : ∀ (i : Nat) (c : CV) (y : Value), cs[i]? = some c → vs[i]? = some y → RC w Im ρ o c y) (h1 : ∀ (i : Nat) (y : Value), vs[i]? = some y → y.oneCell' = true)
    (hv : ofCells sh (cs.drop off) = some v) : ∃ y, (loadVar T ⟨b, off, none⟩).run P w = .ok y w ∧ RS w Im ρ o v y := by
  cases sh with
  | zero =>
    simp only [ofCells, List.getElem?_drop, Nat.add_zero] at hv
    obtain ⟨c, hc, rfl⟩ := Option.map_eq_some_iff.1 hv
    have hi : off < vs.size := by rw [hl]; exact (List.getElem?_eq_some_iff.1 hc).1
    refine ⟨vs[off], ?_, h off c _ hc (by simp [hi])⟩
    simp [loadVar, run_isAgg0 hE hT, cell_of hb, hi]
  | succ n =>
    simp only [ofCells] at hv
    obtain ⟨hle, hv⟩ := bif_some hv
    injection hv with hv
    subst hv
    have hle : off + (n + 1) ≤ cs.length := by have := of_decide_eq_true hle; simp at this; omega
    let f : Nat → Value := fun j => (vs[off + j]?).getD undef
    have hf : ∀ j, j < n + 1 → w.cell? ((⟨b, off, none⟩ : Addr).add j) = some (f j) := fun j hj => by
      rw [add_at, cell_of hb]
      have : off + j < vs.size := by omega
      simp [f, this]
    refine ⟨.agg ((List.range (n + 1)).map f).toArray, ?_, ?_⟩
    · simp only [loadVar, Sem.run_bind, run_isAggN hE hT, Result.andThen_ok, if_true, run_size hE hT, csz, Nat.succ_ne_zero, if_false, run_loadCells w _ (n + 1) f hf, Sem.run_pure]
    · have get : ∀ i y, ((List.range (n + 1)).map f).toArray[i]? = some y → i < n + 1 ∧ vs[off + i]? = some y := by
        intro i y hy
        obtain ⟨hk, rfl⟩ := range_get hy
        have : off + i < vs.size := by omega
        exact ⟨hk, by simp [f, this]⟩
      refine mkAgg_sound (by simp; omega) ?_ ?_
      · intro i c y hc hy
        obtain ⟨hi, hy⟩ := get i y hy
        rw [List.getElem?_take_of_lt hi, List.getElem?_drop] at hc
        exact h _ c y hc hy
      · intro i y hy
        exact h1 _ y (get i y hy).2
/-- A part of an element: the cells at 'base'. -/
theorem partP_sound (hE : EnvOK P E) {T : TypeId} {sh vsh off b base : Nat} {x v : PV} (hT : E.sh T = some sh) (hx : x.shp vsh = true)
    (hc : ∀ (j : Nat) (c : PV), x.cells[j]? = some c → ∃ y, w.cell? ⟨b, base + j, none⟩ = some y ∧ RP w Im c y) (hv : partP x vsh off sh = some v) :
    ∃ y, (loadVar T ⟨b, base + off, none⟩).run P w = .ok y w ∧ RP w Im v y := by
  cases sh with
  | zero =>
    obtain ⟨y, hy, hr⟩ := hc off v hv
    exact ⟨y, by simp [loadVar, run_isAgg0 hE hT, hy], hr⟩
  | succ n =>
    have main : ∀ ps : List PV, ps.length = n + 1 → (∀ (j : Nat) (c : PV), ps[j]? = some c → x.cells[off + j]? = some c) → (∀ (j : Nat) (c : PV), ps[j]? = some c → c.one = true) →
        ∃ y, (loadVar T ⟨b, base + off, none⟩).run P w = .ok y w ∧ RP w Im (.agg ps) y := by
      intro ps hl hsub hone
      let f : Nat → Value := fun j => (w.cell? ⟨b, base + off + j, none⟩).getD undef
      have hf : ∀ j c, ps[j]? = some c → w.cell? ⟨b, base + off + j, none⟩ = some (f j) ∧ RP w Im c (f j) := fun j c hj => by
        obtain ⟨y, hy, hr⟩ := hc _ c (hsub j c hj)
        rw [← Nat.add_assoc] at hy
        exact ⟨by simp [f, hy], by simp [f, hy, hr]⟩
      refine ⟨.agg ((List.range (n + 1)).map f).toArray, ?_, ?_⟩
      · have h0 : ∀ j, j < n + 1 → w.cell? ((⟨b, base + off, none⟩ : Addr).add j) = some (f j) := fun j hj => by
          rw [add_at]
          exact (hf j _ (List.getElem?_eq_getElem (by omega))).1
        simp only [loadVar, Sem.run_bind, run_isAggN hE hT, Result.andThen_ok, if_true, run_size hE hT, csz, Nat.succ_ne_zero, if_false, run_loadCells w _ (n + 1) f h0, Sem.run_pure]
      · refine RP.agg ps _ (by simp [hl]) hone ?_
        intro i c y hci hy
        obtain ⟨hk, rfl⟩ := range_get hy
        exact (hf _ c hci).2
    simp only [partP] at hv
    cases h0 : (off == 0 && vsh == n + 1) <;> rw [h0] at hv <;> simp only [cond_true, cond_false] at hv
    · obtain ⟨hle, hv⟩ := bif_some hv
      injection hv with hv
      subst hv
      simp at hle
      refine main _ (by simp; omega) ?_ ?_
      · intro j c hj
        have hj' : j < n + 1 := by have := (List.getElem?_eq_some_iff.1 hj).1; simp at this; omega
        rw [List.getElem?_take_of_lt hj', List.getElem?_drop] at hj
        exact hj
      · intro j c hj
        have hj' : j < n + 1 := by have := (List.getElem?_eq_some_iff.1 hj).1; simp at this; omega
        rw [List.getElem?_take_of_lt hj', List.getElem?_drop] at hj
        exact PV.shp_one hx _ c hj
    · injection hv with hv
      subst hv
      simp at h0
      obtain ⟨rfl, rfl⟩ := h0
      cases x with
      | agg cs =>
        simp [PV.shp] at hx
        refine main cs hx.1 ?_ ?_
        · intro j c hj
          simpa [PV.cells] using hj
        · intro j c hj
          exact hx.2 c (List.mem_of_getElem? hj)
      | _ => simp [PV.shp] at hx

theorem run_equalIn_nil {T e : TypeId} (hu : P.underlying T = some (.slice e)) (d : Nat) (a : Option Addr) (n c : Nat) (w : World) : (Op.equalIn (d + 1) T (.slice a n c) (.slice none 0 0)).run P w = .ok a.isNone w := by
  unfold Op.equalIn
  rw [Sem.run_bind, run_underlying hu]
  cases a <;> rfl
theorem nilEq_sound (hE : EnvOK P E) {op : BinOp} {T : TypeId} {a b : PV} {c : Bool} {x y : Value} (ox oy : Operand) (h : nilEq op a b = some c) (hT : (E.sl T).isSome = true) (ha : RP w Im a x) (hb : RP w Im b y) :
    (do eqGuard op T ox oy x y; binOp op T x y).run P w = .ok (.bool c) w := by
  obtain ⟨⟨e, sh, by_⟩, hT⟩ := Option.isSome_iff_exists.1 hT
  have hu := (hE.sl T e sh by_ hT).1
  unfold nilEq at h
  split at h
  · rename_i s1 f xs s2 g0
    obtain ⟨hg, h⟩ := bif_some h
    simp only [beq_iff_eq] at hg
    subst hg
    cases hb with
    | row _ _ _ a cap g hf => exact absurd rfl hf
    | nil =>
      cases ha with
      | nil _ _ hf =>
        have hg : (eqGuard .eql T ox oy (.slice none 0 0) (.slice none 0 0)).run P w = .ok () w := eqGuard_plain _ _ _ _ _ _ (by simp) (by simp) w
        cases h2 : (f == 2)
        · rw [h2] at h
          cases h3 : (f == 3)
          · rw [h3] at h; cases h
          · exact absurd (by simpa using h3) hf
        · rw [h2] at h
          injection h with h
          subst h
          simp [hg, binOp, Op.equal, Op.maxDepth, run_equalIn_nil hu]
      | row _ _ _ a cap g hf =>
        have hg : (eqGuard .eql T ox oy (.slice (some a) xs.length cap) (.slice none 0 0)).run P w = .ok () w := eqGuard_plain _ _ _ _ _ _ (by simp) (by simp) w
        have h2 : (f == 2) = false := by simpa using hf
        rw [h2] at h
        cases h3 : (f == 3)
        · rw [h3] at h; cases h
        · rw [h3] at h
          injection h with h
          subst h
          simp [hg, binOp, Op.equal, Op.maxDepth, run_equalIn_nil hu]
  · rename_i s1 f xs s2 g0
    obtain ⟨hg, h⟩ := bif_some h
    simp only [beq_iff_eq] at hg
    subst hg
    cases hb with
    | row _ _ _ a cap g hf => exact absurd rfl hf
    | nil =>
      cases ha with
      | nil _ _ hf =>
        have hg : (eqGuard .neq T ox oy (.slice none 0 0) (.slice none 0 0)).run P w = .ok () w := eqGuard_plain _ _ _ _ _ _ (by simp) (by simp) w
        cases h2 : (f == 2)
        · rw [h2] at h
          cases h3 : (f == 3)
          · rw [h3] at h; cases h
          · exact absurd (by simpa using h3) hf
        · rw [h2] at h
          injection h with h
          subst h
          simp [hg, binOp, Op.equal, Op.maxDepth, run_equalIn_nil hu]
      | row _ _ _ a cap g hf =>
        have hg : (eqGuard .neq T ox oy (.slice (some a) xs.length cap) (.slice none 0 0)).run P w = .ok () w := eqGuard_plain _ _ _ _ _ _ (by simp) (by simp) w
        have h2 : (f == 2) = false := by simpa using hf
        rw [h2] at h
        cases h3 : (f == 3)
        · rw [h3] at h; cases h
        · rw [h3] at h
          injection h with h
          subst h
          simp [hg, binOp, Op.equal, Op.maxDepth, run_equalIn_nil hu]
  · cases h
/-! ### Kinds told -/
def Weak (v u : PV) : Prop := (v.one = true → u.one = true) ∧ ∀ (w : World) (Im : Nat → Prop) (x : Value), RP w Im v x → RP w Im u x
theorem Weak.refl (v : PV) : Weak v v := ⟨fun h => h, fun _ _ _ h => h⟩
theorem asInt_some {v : PV} {k : IntKind} {n : Int} (h : v.asInt k = some n) : v = .int k n := by
  cases v <;> simp only [PV.asInt] at h <;> first | (cases h; done) | skip
  obtain ⟨h1, h2⟩ := bif_some h
  simp at h1
  subst h1
  injection h2 with h2
  rw [h2]
theorem asRow_weak {v : PV} {sh : Nat} {xs : List PV} (h : v.asRow sh = some xs) : Weak v (.row sh 0 xs) := by
  cases v <;> simp only [PV.asRow] at h <;> first | (cases h; done) | skip
  rename_i s f ys
  obtain ⟨h1, h2⟩ := bif_some h
  injection h2 with h2
  subst h2
  refine ⟨fun _ => rfl, fun w Im x hx => ?_⟩
  simp at h1
  cases hx with
  | nil => exact .nil _ _ (by decide)
  | row _ _ _ a cap g hf hs hc hm h1' him hsh hcell hrec =>
    rcases h1 with rfl | h1
    · exact .row _ _ _ a cap g (by simp) hs hc hm (by simp) him hsh hcell hrec
    · exact absurd h1 hf
theorem castCell_some {α : Type} {ct : CellT} {v : PV} {K : PV → Option α} {r : α} (h : castCell ct v K = some r) : ∃ u, K u = some r ∧ Weak v u := by
  cases ct <;> simp only [castCell] at h
  · exact ⟨v, h, Weak.refl v⟩
  · obtain ⟨n, hn, h⟩ := bind_some h
    rw [asInt_some hn]
    exact ⟨_, h, Weak.refl _⟩
  · obtain ⟨n, hn, h⟩ := bind_some h
    cases v <;> simp [PV.bool?] at hn
    subst hn
    exact ⟨_, h, Weak.refl _⟩
  · obtain ⟨n, hn, h⟩ := bind_some h
    cases v <;> simp [PV.str?] at hn
    subst hn
    exact ⟨_, h, Weak.refl _⟩
  · obtain ⟨n, hn, h⟩ := bind_some h
    exact ⟨_, h, asRow_weak hn⟩
theorem castAt_eq {α : Type} (ct : CellT) (v : PV) (i : Nat) (K : PV → Option α) : castAt ct v i K = (v.cell i).bind fun c => castCell ct c K := by
  cases ct <;> simp only [castAt, castCell, PV.atInt, PV.atBool, PV.atStr, PV.atRow] <;> cases v.cell i <;> rfl
theorem castAt_some {α : Type} {ct : CellT} {v : PV} {i : Nat} {K : PV → Option α} {r : α} (h : castAt ct v i K = some r) : ∃ c u, v.cell i = some c ∧ K u = some r ∧ Weak c u := by
  rw [castAt_eq] at h
  obtain ⟨c, hc, h⟩ := bind_some h
  obtain ⟨u, h1, h2⟩ := castCell_some h
  exact ⟨c, u, hc, h1, h2⟩
theorem castCells_some {α : Type} : ∀ {cs : List CellT} {v : PV} {i : Nat} {K : List PV → Option α} {r : α}, castCells cs v i K = some r → ∃ us, K us = some r ∧ us.length = cs.length ∧ ∀ (j : Nat) (u : PV), us[j]? = some u → ∃ c, v.cell (i + j) = some c ∧ Weak c u
  | [], v, i, K, r, h => ⟨[], h, rfl, fun j u hj => by simp at hj⟩
  | c :: cs, v, i, K, r, h => by
    simp only [castCells] at h
    obtain ⟨c0, u, hc, h, hw⟩ := castAt_some h
    obtain ⟨us, h, hl, hr⟩ := castCells_some h
    refine ⟨u :: us, h, by simp [hl], fun j u' hj => ?_⟩
    cases j with
    | zero => simp at hj; subst hj; exact ⟨c0, hc, hw⟩
    | succ j =>
      obtain ⟨c1, h1, h2⟩ := hr j u' (by simpa using hj)
      exact ⟨c1, by rw [show i + (j + 1) = i + 1 + j by omega]; exact h1, h2⟩
theorem castK_some {α : Type} {ct : CT} {v : PV} {K : PV → Option α} {r : α} (h : castK ct v K = some r) : ∃ u, K u = some r ∧ Weak v u := by
  cases ct with
  | one c => exact castCell_some h
  | agg cs =>
    simp only [castK] at h
    obtain ⟨h1, h⟩ := bif_some h
    simp only [Bool.and_eq_true, bne_iff_ne, ne_eq] at h1
    have h1 := h1.symm
    obtain ⟨us, h, hl, hr⟩ := castCells_some h
    refine ⟨_, h, ?_, fun w Im x hx => ?_⟩
    · intro hv
      cases hcl : cs.length with
      | zero => exact absurd hcl h1.2
      | succ n => rw [hcl] at h1; cases v <;> simp_all [PV.shp, PV.one]
    · have hsh := h1.1
      cases hcl : cs.length with
      | zero => exact absurd hcl h1.2
      | succ n =>
        rw [hcl] at hsh
        cases v with
        | agg ps =>
          cases hx with
          | agg _ vs hvl ho hh =>
            simp only [PV.shp, Bool.and_eq_true, beq_iff_eq] at hsh
            refine .agg us vs (by omega) (fun i c hc => ?_) (fun i c y hc hy => ?_)
            · obtain ⟨c0, h2, h3⟩ := hr i c hc
              simp only [PV.cell, PV.cells, Nat.zero_add] at h2
              exact h3.1 (ho i c0 h2)
            · obtain ⟨c0, h2, h3⟩ := hr i c hc
              simp only [PV.cell, PV.cells, Nat.zero_add] at h2
              exact h3.2 w Im y (hh i c0 y h2 hy)
        | _ => simp [PV.shp] at hsh
theorem loadP_some {ct : CT} {v : PV} {vsh off sh : Nat} {K : PV → R} {r : List SV × List (List CV)} (h : loadP ct v vsh off sh K = some r) : ∃ c u, partP v vsh off sh = some c ∧ K u = some r ∧ Weak c u := by
  unfold loadP at h
  split at h
  · exact castAt_some h
  · obtain ⟨c, hc, h⟩ := bind_some h
    obtain ⟨u, h1, h2⟩ := castK_some h
    exact ⟨c, u, hc, h1, h2⟩
theorem castCell_det {α : Type} (ct : CellT) (v : PV) : (∀ K : PV → Option α, castCell ct v K = none) ∨ ∃ u, ∀ K : PV → Option α, castCell ct v K = K u := by
  cases ct <;> simp only [castCell]
  · exact .inr ⟨v, fun K => rfl⟩
  · cases v.asInt _ with
    | none => exact .inl fun K => rfl
    | some n => exact .inr ⟨_, fun K => rfl⟩
  · cases v.bool? with
    | none => exact .inl fun K => rfl
    | some n => exact .inr ⟨_, fun K => rfl⟩
  · cases v.str? with
    | none => exact .inl fun K => rfl
    | some n => exact .inr ⟨_, fun K => rfl⟩
  · cases v.asRow _ with
    | none => exact .inl fun K => rfl
    | some n => exact .inr ⟨_, fun K => rfl⟩
theorem castAt_det {α : Type} (ct : CellT) (v : PV) (i : Nat) : (∀ K : PV → Option α, castAt ct v i K = none) ∨ ∃ u, ∀ K : PV → Option α, castAt ct v i K = K u := by
  simp only [castAt_eq]
  cases v.cell i with
  | none => exact .inl fun K => rfl
  | some c => exact castCell_det ct c
theorem castCells_det {α : Type} : ∀ (cs : List CellT) (v : PV) (i : Nat), (∀ K : List PV → Option α, castCells cs v i K = none) ∨ ∃ u, ∀ K : List PV → Option α, castCells cs v i K = K u
  | [], v, i => .inr ⟨[], fun K => rfl⟩
  | c :: cs, v, i => by
    simp only [castCells]
    rcases castAt_det (α := α) c v i with h | ⟨u, h⟩
    · exact .inl fun K => h _
    · rcases castCells_det (α := α) cs v (i + 1) with h2 | ⟨us, h2⟩
      · exact .inl fun K => (h _).trans (h2 _)
      · exact .inr ⟨u :: us, fun K => (h _).trans (h2 _)⟩
theorem castK_det {α : Type} (ct : CT) (v : PV) : (∀ K : PV → Option α, castK ct v K = none) ∨ ∃ u, ∀ K : PV → Option α, castK ct v K = K u := by
  cases ct with
  | one c => exact castCell_det c v
  | agg cs =>
    simp only [castK]
    cases (cs.length != 0 && v.shp cs.length)
    · exact .inl fun K => rfl
    · rcases castCells_det (α := α) cs v 0 with h | ⟨u, h⟩
      · exact .inl fun K => h _
      · exact .inr ⟨.agg u, fun K => h _⟩
theorem loadP_det (ct : CT) (v : PV) (vsh off sh : Nat) : (∀ K : PV → R, loadP ct v vsh off sh K = none) ∨ ∃ u, ∀ K : PV → R, loadP ct v vsh off sh K = K u := by
  unfold loadP
  split
  · exact castAt_det _ _ _
  · cases partP v vsh off sh with
    | none => exact .inl fun K => rfl
    | some u => exact castK_det _ u

theorem opLoad_sound (hE : EnvOK P E) (hs : SR w Im ρ o) {T : TypeId} {a : AV} {x : Value} (ha : RA w Im ρ o a x) (h : opLoad E T a o K = some r) : DidS P w Im ρ o K r (Instr.loadAt T x) := by
  unfold opLoad at h
  split at h
  · rename_i id off sh hc hT
    rw [cv_some hc] at ha
    split at h
    · rename_i cs ho
      obtain ⟨v, hv, hk⟩ := bind_some h
      simp only [RA, RS, RC, RB, ho] at ha
      obtain ⟨b, hρ, rfl⟩ := ha
      obtain ⟨b', vs, e, hb, hh, hl, hrc, h1, _⟩ := hs.ob id _ _ ho hρ
      obtain rfl : b = b' := by simpa using hb
      obtain ⟨y, hy, hr⟩ := ofCells_sound hE hT hh hl hrc h1 hv
      exact DidS.same hk (by simp [Instr.loadAt, Instr.sureAddr, hy]) hr
    · cases h
  · rename_i id ver vsh i off sh hc hT
    rw [cv_some hc] at ha
    split at h
    · rename_i e sh' ver' fz xs ho
      split at h
      rotate_left
      · rename_i kd hkd
        obtain ⟨hcnd, hk⟩ := bif_some h
        simp only [Bool.and_eq_true, beq_iff_eq, Option.isNone_iff_eq_none] at hcnd
        obtain ⟨⟨⟨⟨rfl, rfl⟩, rfl⟩, rfl⟩, hh0⟩ := hcnd
        simp only [RA, RS, RC, ho] at ha
        obtain ⟨hi, g, n, cap, v, hρ, hmv, rfl⟩ := ha.2 trivial trivial
        obtain ⟨vals, hown, hshp, hrp, _, hkids⟩ := hs.ob id _ _ ho hρ
        simp only [RKids, hkd] at hkids
        obtain ⟨_, ks, hv, hks, _⟩ := hkids
        have hix : i < xs.length := hi
        obtain ⟨f, ys, u, h1, _, h2, h3, _⟩ := hks.kid i xs[i] (by simp [hix]) (by simp [hh0])
        have := hown.cells (g := g) (by rw [hmv]; rfl) (i * csz vsh + kd.j) u h3
        rw [add_at, Nat.zero_add] at this
        refine DidS.same (y := u) hk (by simp [Instr.loadAt, Instr.sureAddr, loadVar, run_isAgg0 hE hT, this]) ?_
        simp only [RA, RS, RC, ho]
        refine ⟨Nat.le_refl _, fun _ k2 hk2 => ?_⟩
        rw [hkd] at hk2
        injection hk2 with hk2
        subst hk2
        exact ⟨Nat.le_refl _, fun _ _ => ⟨hix, _, ks, by rw [hρ, hv], h2⟩⟩
      rename_i hkd
      obtain ⟨hver, h⟩ := bif_some h
      obtain ⟨x', hx', hk⟩ := bind_some h
      obtain ⟨v, v2, hv, hk, hwk⟩ := loadP_some hk
      simp at hver
      simp only [RA, RS, RC, ho] at ha
      obtain ⟨hi, g, n, cap, v0, hρ, hmv, rfl⟩ := ha.2 hver.1 hver.2
      obtain ⟨rfl, rfl⟩ := hver
      obtain ⟨vals, hown, hshp, hrp, _⟩ := hs.ob id _ _ ho hρ
      simp only [RPk, hkd] at hrp
      have hcells : ∀ (j : Nat) (c : PV), x'.cells[j]? = some c → ∃ y, w.cell? ⟨g, i * csz vsh + j, none⟩ = some y ∧ RP w Im c y := by
        intro j c hj
        have hx1 := List.mem_of_getElem? hx'
        have hlen := PV.shp_len (hshp x' hx1)
        have hjl : j < csz vsh := by rw [← hlen]; exact (List.getElem?_eq_some_iff.1 hj).1
        have hvl : i * csz vsh + j < vals.length := by
          rw [hown.1]
          have h1 : (i + 1) * csz vsh ≤ xs.length * csz vsh := Nat.mul_le_mul_right _ hi
          rw [Nat.add_mul] at h1
          omega
        refine ⟨vals[i * csz vsh + j], ?_, hrp i x' j c _ hx' hj (by simp [hvl])⟩
        have := hown.cells (g := g) (by rw [hmv]; rfl) (i * csz vsh + j) vals[i * csz vsh + j] (by simp [hvl])
        rwa [add_at, Nat.zero_add] at this
      obtain ⟨y, hy, hr⟩ := partP_sound hE hT (hshp x' (List.mem_of_getElem? hx')) hcells hv
      exact DidS.same hk (by simp [Instr.loadAt, Instr.sureAddr, hy]) (hwk.2 _ _ _ hr)
    · cases h
  · rename_i v vsh off sh hc hT
    rw [cv_some hc] at ha
    obtain ⟨b, base, rfl, hIm, hshp, hcells⟩ := ha
    obtain ⟨u, u2, hu, hk, hwk⟩ := loadP_some h
    obtain ⟨y, hy, hr⟩ := partP_sound hE hT hshp hcells hu
    exact DidS.same hk (by simp [Instr.loadAt, Instr.sureAddr, hy]) (hwk.2 _ _ _ hr)
  · cases h
end
end Go.Dp

/- Addresses, cuts, lengths. -/
set_option linter.unusedVariables false
set_option linter.unusedSimpArgs false
namespace Go.Dp
section
variable {P : Program} {E : Env} {w : World} {Im : Nat → Prop} {ρ : Nat → Option Value} {o : List AObj} {K : Kt} {r : List SV × List (List CV)}

theorem isBox_some {id : Nat} (h : isBox o id = true) : ∃ cs, o[id]? = some (.box cs) := by
  unfold isBox at h
  split at h
  · rename_i cs hc; exact ⟨cs, hc⟩
  · cases h
theorem cur_some {id ver sh : Nat} (h : cur o id ver sh = true) : ∃ e fz xs, o[id]? = some (.arr e sh ver fz xs) := by
  unfold cur at h
  split at h
  · rename_i e sh' ver' fz xs hc
    simp at h
    obtain ⟨rfl, rfl⟩ := h
    exact ⟨e, fz, xs, hc⟩
  · cases h
theorem run_fieldAt (hE : EnvOK P E) {T : TypeId} {f off sh : Nat} (h : E.fl T f = some (off, sh)) (b base : Nat) (w : World) :
    (Instr.fieldAt T (.pointer (some ⟨b, base, none⟩)) f).run P w = .ok (.pointer (some ⟨b, base + off, none⟩)) w := by
  obtain ⟨fs, fd, i, hu, hf, ho, hi, hz⟩ := hE.fl T f off sh h
  have hp := csz_pos sh
  have hn : ¬ i.size = 0 := by omega
  simp [Instr.fieldAt, run_underlying hu, hf, Instr.sureAddr, fieldPlace, sizeOf, typeInfo, hi, hn, add_at, ho]
theorem opFieldAddr_sound (hE : EnvOK P E) (hs : SR w Im ρ o) {T : TypeId} {f : Nat} {a : AV} {x : Value} (ha : RA w Im ρ o a x) (h : opFieldAddr E T a f o K = some r) : DidS P w Im ρ o K r (Instr.fieldAt T x f) := by
  unfold opFieldAddr at h
  split at h
  · rename_i id off fo fsh hc hT
    rw [cv_some hc] at ha
    obtain ⟨hb, hk⟩ := bif_some h
    obtain ⟨cs, ho⟩ := isBox_some hb
    simp only [RA, RS, RC, RB, ho] at ha
    obtain ⟨b, hρ, rfl⟩ := ha
    exact DidS.same hk (run_fieldAt hE hT b off w) (by simp only [RA, RS, RC, RB, ho]; exact ⟨b, hρ, rfl⟩)
  · rename_i id ver sh i off fo fsh hc hT
    rw [cv_some hc] at ha
    obtain ⟨hb, hk⟩ := bif_some h
    obtain ⟨e, fz, xs, ho⟩ := cur_some hb
    simp only [RA, RS, RC, ho] at ha
    obtain ⟨hi, g, n, cap, v0, hρ, hmv, rfl⟩ := ha.2 (by simp) (by simp)
    refine DidS.same hk (run_fieldAt hE hT g _ w) ?_
    simp only [RA, RS, RC, ho]
    exact ⟨Nat.le_refl _, fun _ _ => ⟨hi, g, n, cap, v0, hρ, hmv, by rw [Nat.add_assoc]⟩⟩
  · rename_i v sh off fo fsh hc hT
    rw [cv_some hc] at ha
    obtain ⟨b, base, rfl, hIm, hshp, hcells⟩ := ha
    exact DidS.same h (run_fieldAt hE hT b _ w) ⟨b, base, by rw [Nat.add_assoc], hIm, hshp, hcells⟩
  · cases h

theorem run_indexAt (hE : EnvOK P E) {T : TypeId} {e sh by_ : Nat} (h : E.sl T = some (e, sh, by_)) (k : IntKind) (i : Int) (a : Addr) (len cap : Nat) (h0 : 0 ≤ i) (h1 : i < len) (w : World) :
    (Instr.indexAt T (.slice (some a) len cap) (.int k i)).run P w = .ok (.pointer (some (a.add (i.toNat * csz sh)))) w := by
  obtain ⟨hu, ⟨inf, z, hi, hz, _⟩, _⟩ := hE.sl T e sh by_ h
  simp [Instr.indexAt, asIntOf, run_underlying hu, h0, h1, sizeOf, typeInfo, hi, hz]
theorem opIndexAddr_sound (hE : EnvOK P E) (hs : SR w Im ρ o) {T : TypeId} {a i : AV} {x y : Value} (ha : RA w Im ρ o a x) (hi : RA w Im ρ o i y) (h : opIndexAddr E T a i o K = some r) : DidS P w Im ρ o K r (Instr.indexAt T x y) := by
  unfold opIndexAddr at h
  split at h
  · rename_i v e sh' by_ hc hT
    rw [cv_some hc] at ha
    obtain ⟨⟨sh, f, xs⟩, hq, h⟩ := bind_some h
    obtain rfl := row_some hq
    simp only at h ha
    all_goals
      obtain ⟨hsh, h⟩ := bif_some h
      obtain ⟨n, hn, h⟩ := bind_some h
      obtain ⟨x', hx', hk⟩ := bind_some h
      obtain ⟨h0, hx'⟩ := bif_some hx'
      replace hx' : xs[n.toNat]? = some x' := hx'
      obtain ⟨k, rfl⟩ := hi.int hn
      simp at hsh
      subst hsh
      have h0 := of_decide_eq_true h0
      have hlt := (List.getElem?_eq_some_iff.1 hx').1
      cases ha with
      | nil => simp at hlt
      | row _ _ _ a cap g hf hsp hcap hm h1 him hshp hcell hrp =>
        refine DidS.same hk (run_indexAt hE hT k n a _ cap h0 (by omega) w) ?_
        have e1 : a.add (n.toNat * csz sh) = ⟨a.block, a.off + n.toNat * csz sh + 0, none⟩ := by
          obtain ⟨b, off, sp⟩ := a
          simp only at hsp
          subst hsp
          exact add_at b off _
        rw [e1]
        refine ⟨a.block, a.off + n.toNat * csz sh, rfl, him (by omega), hshp _ _ hx', ?_⟩
        intro j c hj
        refine ⟨_, ?_, hrp _ _ j c hx' hj⟩
        rw [Nat.add_assoc]
        exact hcell _ _ j c hx' hj
  · rename_i id ver sh lo len e sh' by_ hc hT
    rw [cv_some hc] at ha
    obtain ⟨n, hn, h⟩ := bind_some h
    obtain ⟨hcond, hk⟩ := bif_some h
    simp only [Bool.and_eq_true, beq_iff_eq, decide_eq_true_eq] at hcond
    obtain ⟨⟨⟨rfl, hcur⟩, h0⟩, h1⟩ := hcond
    obtain ⟨e', fz, xs, ho⟩ := cur_some hcur
    obtain ⟨k, rfl⟩ := hi.int hn
    simp only [RA, RS, RC, ho] at ha
    obtain ⟨hle, v, hρ, hsl⟩ := ha.2 (by simp) (by simp)
    obtain ⟨vals, hown, _⟩ := hs.ob id _ _ ho hρ
    rcases hown.2 with ⟨hm, _⟩ | ⟨g, cap, cur, hm, _, hh, hnc, hcm, hcs, _⟩
    · rw [hm] at hsl
      simp only [RSl] at hsl
      omega
    · have hsl' := hsl
      rw [hm] at hsl'
      obtain ⟨off, rfl, hlc, hoff⟩ := hsl'
      have hoff := hoff (.inr (by omega))
      subst hoff
      refine DidS.same hk (run_indexAt hE hT k n _ len _ h0 h1 w) ?_
      rw [add_at]
      simp only [RA, RS, RC, ho]
      refine ⟨Nat.le_refl _, fun _ _ => ⟨by omega, g, _, cap, v, hρ, hm, ?_⟩⟩
      rw [Nat.add_mul, Nat.add_zero]
  · cases h
theorem opIndex_sound (hE : EnvOK P E) (hs : SR w Im ρ o) {T : TypeId} {a i : AV} {x y : Value} (ha : RA w Im ρ o a x) (hi : RA w Im ρ o i y) (h : opIndex E T a i o K = some r) : DidS P w Im ρ o K r (Instr.index T x y) := by
  unfold opIndex at h
  split at h
  · rename_i v hc hT
    obtain ⟨s, hv, h⟩ := bind_some h
    have := RA.pv hc ha
    rw [str_some hv] at this
    cases this
    obtain ⟨n, hn, h⟩ := bind_some h
    obtain ⟨m, hm, hk⟩ := bind_some h
    obtain ⟨h0, hm⟩ := bif_some hm
    obtain ⟨b, hb, hm⟩ := bind_some hm
    injection hm with hm
    subst hm
    obtain ⟨k, rfl⟩ := hi.int hn
    have h0 := of_decide_eq_true h0
    have hlt := (List.getElem?_eq_some_iff.1 hb).1
    have hlt' : n.toNat < s.size := by simpa using hlt
    refine DidS.same hk ?_ (RP.int _ _)
    have hg : s[n.toNat]? = some b := by
      rw [← hb]
      simp [hlt']
      rfl
    simp [Instr.index, asIntOf, run_underlying (hE.st T hT), h0, hg]
  · cases h
theorem opConvert_sound (hE : EnvOK P E) (hs : SR w Im ρ o) {S T : TypeId} {a : AV} {x : Value} (ha : RA w Im ρ o a x) (h : opConvert E S T a o K = some r) : DidS P w Im ρ o K r (convert S T x) := by
  unfold opConvert at h
  split at h
  · rename_i k' k hS hT
    obtain ⟨n, hn, hk⟩ := bind_some h
    obtain ⟨k0, rfl⟩ := ha.int hn
    refine DidS.same hk ?_ (RP.int _ _)
    simp [convert, run_underlying (hE.ik S k' hS), run_underlying (hE.ik T k hT), Conv.intToInt]
  · cases h
theorem opExtract_sound (hs : SR w Im ρ o) {i : Nat} {a : AV} {x : Value} (ha : RA w Im ρ o a x) (h : opExtract a i o K = some r) : DidS P w Im ρ o K r (Instr.extract x i) := by
  unfold opExtract at h
  split at h
  · rename_i vs
    obtain ⟨v, hv, hk⟩ := bind_some h
    obtain ⟨us, rfl, hl, hh⟩ := ha
    have hi : i < us.size := by rw [hl]; exact (List.getElem?_eq_some_iff.1 hv).1
    exact DidS.same hk (by simp [Instr.extract, hi]) (hh i v us[i] hv (by simp [hi]))
  · cases h
theorem opLen_sound (hE : EnvOK P E) (hs : SR w Im ρ o) {T ty : TypeId} {a : AV} {x : Value} (ha : RA w Im ρ o a x) (h : opLen E T a o K = some r) : DidS P w Im ρ o K r (Builtin.len_ #[T] ty #[x]) := by
  unfold opLen at h
  split at h
  · rename_i v hc
    rw [cv_some hc] at ha
    split at h
    · rename_i hT
      obtain ⟨s, hv, h⟩ := bind_some h
      rw [str_some hv] at ha
      cases ha
      exact DidS.same h (by simp [Builtin.len_, run_underlying (hE.st T hT), goInt]) (RP.int _ _)
    · rename_i q _ hT
      obtain ⟨⟨sh, f, xs⟩, hv, h⟩ := bind_some h
      rw [row_some hv] at ha
      simp only at h ha
      obtain ⟨e, sh', by_⟩ := q
      have hu := (hE.sl T e sh' by_ hT).1
      cases ha with
      | nil => exact DidS.same h (by simp [Builtin.len_, run_underlying hu, goInt]) (RP.int _ _)
      | row _ _ _ a cap g hf hsp hcap hm h1 him hshp hcell hrp => exact DidS.same h (by simp [Builtin.len_, run_underlying hu, goInt]) (RP.int _ _)
    · cases h
  · rename_i id ver sh lo len hc
    rw [cv_some hc] at ha
    obtain ⟨hcond, hk⟩ := bif_some h
    simp only [Bool.and_eq_true] at hcond
    obtain ⟨hT, hcur⟩ := hcond
    obtain ⟨⟨e, sh', by_⟩, hT⟩ := Option.isSome_iff_exists.1 hT
    have hu := (hE.sl T e sh' by_ hT).1
    obtain ⟨e', fz, xs, ho⟩ := cur_some hcur
    simp only [RA, RS, RC, ho] at ha
    obtain ⟨hle, v, hρ, hsl⟩ := ha.2 (by simp) (by simp)
    have hx : ∃ ad cap, x = .slice ad len cap := by
      obtain ⟨vals, hown, _⟩ := hs.ob id _ _ ho hρ
      rcases hown.2 with ⟨hm, _⟩ | ⟨g, cap, cur, hm, _⟩
      · rw [hm] at hsl; obtain ⟨_, rfl, rfl⟩ := hsl; exact ⟨_, _, rfl⟩
      · rw [hm] at hsl; obtain ⟨off, rfl, _⟩ := hsl; exact ⟨_, _, rfl⟩
    obtain ⟨ad, cap, rfl⟩ := hx
    exact DidS.same hk (by simp [Builtin.len_, run_underlying hu, goInt]) (RP.int _ _)
  · cases h

/-! ### Cuts -/
theorem RP.int_of {n : Int} {a : AV} {x : Value} (h : a.int? = some n) (hx : RA w Im ρ o a x) : ∃ k, x = .int k n := hx.int h
/-- A bound that is given, or not. -/
theorem boundK_some {a : Option AV} {d : Int} {K : Int → R} {r : List SV × List (List CV)} {x : Option Value} (h : boundK a d K = some r) (ha : ∀ v, a = some v → ∃ y, x = some y ∧ RA w Im ρ o v y) (hn : a = none → x = none) :
    (a = none ∧ x = none ∧ K d = some r) ∨ ∃ k n, a.isSome = true ∧ x = some (.int k n) ∧ K n = some r := by
  cases a with
  | none => exact .inl ⟨rfl, hn rfl, h⟩
  | some v =>
    obtain ⟨n, hn', hk⟩ := bind_some h
    obtain ⟨y, rfl, hy⟩ := ha v rfl
    obtain ⟨k, rfl⟩ := hy.int hn'
    exact .inr ⟨k, n, rfl, rfl, hk⟩
theorem run_bound (k : IntKind) (n : Int) (y : Nat) (code : BoundsCode) (h0 : 0 ≤ n) (h1 : n ≤ y) (w : World) : (Instr.sliceBound (.int k n) y code).run P w = .ok n.toNat w := by
  simp [Instr.sliceBound, asIntOf, h0, h1]
/-- The bounds of a cut without a third number. -/
theorem run_bounds (isS : Bool) (len cap : Nat) (hlc : len ≤ cap) {lo hi : Option Value} {l h : Int} (hlo : (lo = none ∧ l = 0) ∨ ∃ k, lo = some (.int k l)) (hhi : (hi = none ∧ h = len) ∨ ∃ k, hi = some (.int k h))
    (h0 : 0 ≤ l) (h1 : l ≤ h) (h2 : h ≤ len) (w : World) : (Instr.sliceBounds isS len cap lo hi none).run P w = .ok (l.toNat, h.toNat, cap) w := by
  have e1 : (h.toNat : Int) = h := Int.toNat_of_nonneg (by omega)
  rcases hhi with ⟨rfl, rfl⟩ | ⟨k, rfl⟩ <;> rcases hlo with ⟨rfl, rfl⟩ | ⟨k', rfl⟩
  · simp [Instr.sliceBounds]
  · simp [Instr.sliceBounds, run_bound k' l len _ h0 (by omega)]
  · simp [Instr.sliceBounds, run_bound k h cap _ (by omega) (by omega)]
  · simp [Instr.sliceBounds, run_bound k h cap _ (by omega) (by omega), run_bound k' l h.toNat _ h0 (by omega)]
theorem run_sliceS (hE : EnvOK P E) {T : TypeId} (hT : E.st T = true) (s : ByteArray) {lo hi : Option Value} {l h : Int} (hlo : (lo = none ∧ l = 0) ∨ ∃ k, lo = some (.int k l)) (hhi : (hi = none ∧ h = s.size) ∨ ∃ k, hi = some (.int k h))
    (h0 : 0 ≤ l) (h1 : l ≤ h) (h2 : h ≤ s.size) (w : World) : (Instr.sliceAt T (.string s) lo hi none).run P w = .ok (.string (s.extract l.toNat h.toNat)) w := by
  simp [Instr.sliceAt, Instr.slice, run_underlying (hE.st T hT), run_bounds false s.size s.size (Nat.le_refl _) hlo hhi h0 h1 h2]
theorem run_sliceR (hE : EnvOK P E) {T : TypeId} {e sh by_ : Nat} (hT : E.sl T = some (e, sh, by_)) (a : Option Addr) (len cap : Nat) (hlc : len ≤ cap) {lo hi : Option Value} {l h : Int} (hlo : (lo = none ∧ l = 0) ∨ ∃ k, lo = some (.int k l)) (hhi : (hi = none ∧ h = len) ∨ ∃ k, hi = some (.int k h))
    (h0 : 0 ≤ l) (h1 : l ≤ h) (h2 : h ≤ len) (w : World) : (Instr.sliceAt T (.slice a len cap) lo hi none).run P w = .ok (.slice (if cap = l.toNat then a else a.map (·.add (l.toNat * csz sh))) (h.toNat - l.toNat) (cap - l.toNat)) w := by
  obtain ⟨hu, ⟨inf, z, hi', hz, _⟩, _⟩ := hE.sl T e sh by_ hT
  simp [Instr.sliceAt, Instr.slice, run_underlying hu, run_bounds true len cap hlc hlo hhi h0 h1 h2, sizeOf, typeInfo, hi', hz]
theorem run_sliceR3 (hE : EnvOK P E) {T : TypeId} {e sh by_ : Nat} (hT : E.sl T = some (e, sh, by_)) (a : Option Addr) (len cap : Nat) {lo : Option Value} {kh km : IntKind} {l h : Int} (hlo : (lo = none ∧ l = 0) ∨ ∃ k, lo = some (.int k l))
    (h0 : 0 ≤ l) (h1 : l ≤ h) (h2 : h ≤ cap) (w : World) : (Instr.sliceAt T (.slice a len cap) lo (some (.int kh h)) (some (.int km h))).run P w = .ok (.slice (if h.toNat = l.toNat then a else a.map (·.add (l.toNat * csz sh))) (h.toNat - l.toNat) (h.toNat - l.toNat)) w := by
  obtain ⟨hu, ⟨inf, z, hi', hz, _⟩, _⟩ := hE.sl T e sh by_ hT
  have hb : (Instr.sliceBounds true len cap lo (some (.int kh h)) (some (.int km h))).run P w = .ok (l.toNat, h.toNat, h.toNat) w := by
    have e1 : (h.toNat : Int) = h := Int.toNat_of_nonneg (by omega)
    rcases hlo with ⟨rfl, rfl⟩ | ⟨k', rfl⟩
    · simp [Instr.sliceBounds, run_bound km h cap _ (by omega) (by omega), run_bound kh h h.toNat _ (by omega) (by omega)]
    · simp [Instr.sliceBounds, run_bound km h cap _ (by omega) (by omega), run_bound kh h h.toNat _ (by omega) (by omega), run_bound k' l h.toNat _ h0 (by omega)]
  simp [Instr.sliceAt, Instr.slice, run_underlying hu, hb, sizeOf, typeInfo, hi', hz]
/-- A cut of a row that is let go. -/
theorem RP.cut {sh f f' : Nat} {xs : List PV} {a : Addr} {cap l h c : Nat} (hr : RP w Im (.row sh f xs) (.slice (some a) xs.length cap)) (hl : l ≤ h) (hh : h ≤ xs.length) (hf' : f' ≠ 2) (hc : c = h - l ∨ f' ≠ 1) (hc2 : h - l ≤ c) (hc3 : c ≤ cap) (A : Addr)
    (hA : A = a ∧ h = l ∨ A = a.add (l * csz sh)) : RP w Im (.row sh f' ((xs.take h).drop l)) (.slice (some A) (h - l) c) := by
  cases hr with
  | row _ _ _ _ _ g hf hsp hcap hm h1 him hshp hcell hrp =>
    have hlen : ((xs.take h).drop l).length = h - l := by simp; omega
    have get : ∀ i x, ((xs.take h).drop l)[i]? = some x → i < h - l ∧ xs[l + i]? = some x := by
      intro i x hx
      have hi : i < h - l := by have := (List.getElem?_eq_some_iff.1 hx).1; rwa [hlen] at this
      rw [List.getElem?_drop, List.getElem?_take_of_lt (by omega)] at hx
      exact ⟨hi, hx⟩
    have hAb : A.block = a.block ∧ A.spot = none := by
      rcases hA with ⟨rfl, _⟩ | rfl
      · exact ⟨rfl, hsp⟩
      · obtain ⟨b, off, sp⟩ := a
        simp only at hsp
        subst hsp
        rw [add_at]
        exact ⟨rfl, rfl⟩
    have hoff : l < h → A.off = a.off + l * csz sh := by
      intro hlt
      rcases hA with ⟨rfl, he⟩ | rfl
      · omega
      · obtain ⟨b, off, sp⟩ := a
        simp only at hsp
        subst hsp
        rw [add_at]
    have key := RP.row (w := w) (Im := Im) sh f' ((xs.take h).drop l) A c (fun k => g (l * csz sh + k)) hf' hAb.2 (by omega) (by omega) (fun e => by rcases hc with hc | hc <;> omega)
      (fun hp => by rw [hAb.1]; exact him (by omega)) (fun i x hx => hshp _ _ (get i x hx).2) ?_ ?_
    · rwa [hlen] at key
    · intro i x j c' hx hj
      obtain ⟨hi, hx⟩ := get i x hx
      have := hcell (l + i) x j c' hx hj
      rw [hAb.1, hoff (by omega)]
      rw [Nat.add_mul, Nat.add_assoc] at this
      rw [Nat.add_assoc]
      exact this
    · intro i x j c' hx hj
      obtain ⟨hi, hx⟩ := get i x hx
      have := hrp (l + i) x j c' hx hj
      rwa [Nat.add_mul, Nat.add_assoc] at this
theorem opSlice_sound (hE : EnvOK P E) (hs : SR w Im ρ o) {T : TypeId} {a : AV} {lo hi mx : Option AV} {x : Value} {xl xh xm : Option Value} (ha : RA w Im ρ o a x)
    (hl : ∀ v, lo = some v → ∃ y, xl = some y ∧ RA w Im ρ o v y) (hln : lo = none → xl = none) (hh : ∀ v, hi = some v → ∃ y, xh = some y ∧ RA w Im ρ o v y) (hhn : hi = none → xh = none)
    (hm : ∀ v, mx = some v → ∃ y, xm = some y ∧ RA w Im ρ o v y) (hmn : mx = none → xm = none) (h : opSlice E T a lo hi mx o K = some r) : DidS P w Im ρ o K r (Instr.sliceAt T x xl xh xm) := by
  have two : ∀ {d : Int} {K' : Int → Int → R}, boundK lo 0 (fun l => boundK hi d fun h => K' l h) = some r → ∃ l h, K' l h = some r ∧ ((xl = none ∧ l = 0) ∨ ∃ k, xl = some (.int k l)) ∧ ((xh = none ∧ h = d) ∨ ∃ k, xh = some (.int k h)) := by
    intro d K' h
    rcases boundK_some h hl hln with ⟨_, e1, h⟩ | ⟨k, l, _, e1, h⟩ <;> rcases boundK_some h hh hhn with ⟨_, e2, h⟩ | ⟨k', h', _, e2, h⟩
    · exact ⟨_, _, h, .inl ⟨e1, rfl⟩, .inl ⟨e2, rfl⟩⟩
    · exact ⟨_, _, h, .inl ⟨e1, rfl⟩, .inr ⟨_, e2⟩⟩
    · exact ⟨_, _, h, .inr ⟨_, e1⟩, .inl ⟨e2, rfl⟩⟩
    · exact ⟨_, _, h, .inr ⟨_, e1⟩, .inr ⟨_, e2⟩⟩
  have one : ∀ {K' : Int → R}, boundK lo 0 K' = some r → ∃ l, K' l = some r ∧ ((xl = none ∧ l = 0) ∨ ∃ k, xl = some (.int k l)) := by
    intro K' h
    rcases boundK_some h hl hln with ⟨_, e1, h⟩ | ⟨k, l, _, e1, h⟩
    · exact ⟨_, h, .inl ⟨e1, rfl⟩⟩
    · exact ⟨_, h, .inr ⟨_, e1⟩⟩
  unfold opSlice at h
  split at h
  · rename_i v hc
    obtain rfl := hmn rfl
    rw [cv_some hc] at ha
    split at h
    · rename_i hT
      obtain ⟨s, hv, h⟩ := bind_some h
      rw [str_some hv] at ha
      obtain ⟨l, h', hk, e1, e2⟩ := two h
      unfold sliceStr at hk
      obtain ⟨hcond, hk⟩ := bif_some hk
      simp only [Bool.and_eq_true, decide_eq_true_eq] at hcond
      cases ha
      exact DidS.same hk (run_sliceS hE hT s e1 e2 hcond.1.1 hcond.1.2 hcond.2 w) (RP.str _)
    · rename_i e sh' by_ _ hT
      obtain ⟨⟨sh, f, xs⟩, hv, h⟩ := bind_some h
      rw [row_some hv] at ha
      simp only at h ha
      obtain ⟨hsh, h⟩ := bif_some h
      obtain ⟨l, h', hk, e1, e2⟩ := two h
      unfold sliceRow at hk
      obtain ⟨hcond, hk⟩ := bif_some hk
      simp only [Bool.and_eq_true, decide_eq_true_eq] at hcond
      obtain ⟨⟨h0, h1⟩, h2⟩ := hcond
      cases ha with
      | nil =>
        simp at h2
        have e2' : (xh = none ∧ h' = ((0 : Nat) : Int)) ∨ ∃ k, xh = some (.int k h') := by simpa using e2
        have hl0 : l = 0 := by omega
        have hh0 : h' = 0 := by omega
        subst hl0
        subst hh0
        refine DidS.same hk (run_sliceR hE hT none 0 0 (Nat.le_refl _) e1 e2' (by omega) (by omega) (by simp) w) ?_
        show RP w Im _ _
        have hnf : (bif f == 2 then 2 else 0) ≠ 3 := by cases (f == 2) <;> decide
        simpa using RP.nil sh _ hnf
      | row _ _ _ ad cap g hf hsp hcap hm' h1' him hshp hcell hrp =>
        have hr0 : RP w Im (.row sh f xs) (.slice (some ad) xs.length cap) := .row sh f xs ad cap g hf hsp hcap hm' h1' him hshp hcell hrp
        have hf2 : (f == 2) = false := by simpa using hf
        simp only [hf2, Bool.or_false, beq_iff_eq] at hsh
        subst hsh
        refine DidS.same hk (run_sliceR hE hT (some ad) xs.length cap hcap e1 e2 h0 h1 h2 w) ?_
        simp only [hf2, cond_false]
        by_cases hcl : cap = l.toNat
        · rw [if_pos hcl]
          exact hr0.cut (by omega) (by omega) (by decide) (.inr (by decide)) (by omega) (by omega) ad (.inl ⟨rfl, by omega⟩)
        · rw [if_neg hcl]
          exact hr0.cut (by omega) (by omega) (by decide) (.inr (by decide)) (by omega) (by omega) _ (.inr rfl)
    · cases h
  · rename_i id ver sh l0 len hc
    obtain rfl := hmn rfl
    rw [cv_some hc] at ha
    split at h
    · rename_i e sh' by_ hT
      obtain ⟨hcnd, h⟩ := bif_some h
      obtain ⟨l, h', hk, e1, e2⟩ := two h
      unfold sliceLoc at hk
      obtain ⟨hcond, hk⟩ := bif_some hk
      simp only [Bool.and_eq_true, beq_iff_eq, decide_eq_true_eq] at hcond hcnd
      obtain ⟨⟨h0, h1⟩, h2⟩ := hcond
      obtain ⟨rfl, hcur⟩ := hcnd
      obtain ⟨e', fz, xs, ho⟩ := cur_some hcur
      simp only [RA, RS, RC, ho] at ha
      obtain ⟨hle, v, hρ, hsl⟩ := ha.2 (by simp) (by simp)
      obtain ⟨vals, hown, _⟩ := hs.ob id _ _ ho hρ
      rcases hown.2 with ⟨hm, _⟩ | ⟨g, cap, cu, hm, _, hh', hnc, hcm, hcs, _⟩ <;> rw [hm] at hsl
      · obtain ⟨rfl, rfl, rfl⟩ := hsl
        have hl0 : l = 0 := by omega
        have hh0 : h' = 0 := by omega
        subst hl0
        subst hh0
        refine DidS.same hk (run_sliceR hE hT none 0 0 (Nat.le_refl _) e1 e2 (by omega) (by omega) (by simp) w) ?_
        simp only [RA, RS, RC, ho]
        exact ⟨Nat.le_refl _, fun _ _ => ⟨by simp, _, hρ, by rw [hm]; simp [RSl]⟩⟩
      · obtain ⟨off, rfl, hlc, hoff⟩ := hsl
        refine DidS.same hk (run_sliceR hE hT (some ⟨g, off, none⟩) len (cap - l0) (by omega) e1 e2 h0 h1 h2 w) ?_
        simp only [RA, RS, RC, ho]
        refine ⟨Nat.le_refl _, fun _ _ => ⟨by omega, _, hρ, ?_⟩⟩
        rw [hm]
        by_cases hcl : cap - l0 = l.toNat
        · rw [if_pos hcl]
          refine ⟨off, by congr 1; omega, by omega, ?_⟩
          rintro (h3 | h3)
          · have : l0 = 0 := by omega
            subst this
            have := hoff (.inl rfl)
            rw [this, show l.toNat = 0 by omega]
          · omega
        · rw [if_neg hcl]
          simp only [Option.map_some, add_at]
          refine ⟨off + l.toNat * csz sh, by congr 1; omega, by omega, fun _ => ?_⟩
          rw [hoff (.inr (by omega)), Nat.add_mul]
    · cases h
  · rename_i v m hc
    rw [cv_some hc] at ha
    split at h
    · rename_i h' e sh' by_ hT
      obtain ⟨⟨sh, f, xs⟩, hv, h⟩ := bind_some h
      rw [row_some hv] at ha
      simp only at h ha
      obtain ⟨hsh, h⟩ := bif_some h
      obtain ⟨l, h, e1⟩ := one h
      obtain ⟨n, hn, h⟩ := bind_some h
      obtain ⟨q, hq, h⟩ := bind_some h
      obtain ⟨hmq, h⟩ := bif_some h
      simp at hmq
      subst hmq
      obtain ⟨y, rfl, hy⟩ := hh h' rfl
      obtain ⟨kh, rfl⟩ := hy.int hn
      obtain ⟨y, rfl, hy⟩ := hm m rfl
      obtain ⟨km, rfl⟩ := hy.int hq
      unfold sliceRow at h
      obtain ⟨hcond, hk⟩ := bif_some h
      simp only [Bool.and_eq_true, decide_eq_true_eq] at hcond
      obtain ⟨⟨h0, h1⟩, h2⟩ := hcond
      cases ha with
      | nil =>
        simp at h2
        refine DidS.same hk (run_sliceR3 hE hT none 0 0 e1 (by omega) (by omega) (by simpa using h2) w) ?_
        have e3 : q.toNat = 0 := by omega
        rw [e3]
        show RP w Im _ _
        have hnf : (bif f == 2 then 2 else 1) ≠ 3 := by cases (f == 2) <;> decide
        simpa using RP.nil sh _ hnf
      | row _ _ _ ad cap g hf hsp hcap hm' h1' him hshp hcell hrp =>
        have hr0 : RP w Im (.row sh f xs) (.slice (some ad) xs.length cap) := .row sh f xs ad cap g hf hsp hcap hm' h1' him hshp hcell hrp
        have hf2 : (f == 2) = false := by simpa using hf
        simp only [hf2, Bool.or_false, beq_iff_eq] at hsh
        subst hsh
        refine DidS.same hk (run_sliceR3 hE hT (some ad) xs.length cap e1 h0 h1 (by omega) w) ?_
        simp only [hf2, cond_false]
        split
        · exact hr0.cut (by omega) (by omega) (by decide) (.inl rfl) (by omega) (by omega) ad (.inl ⟨rfl, by omega⟩)
        · exact hr0.cut (by omega) (by omega) (by decide) (.inl rfl) (by omega) (by omega) _ (.inr rfl)
    · cases h
  · cases h
end
end Go.Dp

/- Memory that is made and written. -/
set_option linter.unusedVariables false
set_option linter.unusedSimpArgs false
namespace Go.Dp

/-- How a column may change: its version tells. -/
def KdC : Option Kd → Option Kd → Prop → Prop
  | _, none, _ => True
  | none, some _, _ => False
  | some k, some k', p => k.nv < k'.nv ∨ (k = k' ∧ p)
@[simp] theorem KdC_refl (a : Option Kd) : KdC a a True = True := by cases a <;> simp [KdC]
theorem KdC_refl' (a : Option Kd) {p : Prop} (h : p) : KdC a a p := by cases a <;> simp [KdC, h]
theorem KdC_none {a b : Option Kd} {p : Prop} (h : b = none) : KdC a b p := by subst h; cases a <;> trivial
/-- How an object may change under the eyes of those who know of it. -/
def CompatO (v v' : Option Value) : AObj → AObj → Prop
  | .box _, .box _ => v' = v
  | .box _, .dead => True
  | .arr e sh ver _ xs, .arr e' sh' ver' _ xs' => ver < ver' ∨ (ver = ver' ∧ sh = sh' ∧ xs.length ≤ xs'.length ∧ v'.map mainV = v.map mainV ∧ KdC e.kd e'.kd (v' = v))
  | .arr .., .dead => True
  | .dead, .dead => True
  | _, _ => False
def Compat (ρ ρ' : Nat → Option Value) (o o' : List AObj) : Prop := ∀ id a, o[id]? = some a → ∃ a', o'[id]? = some a' ∧ CompatO (ρ id) (ρ' id) a a'
section
variable {P : Program} {E : Env} {w w' : World} {Im Im' : Nat → Prop} {ρ ρ' : Nat → Option Value} {o o' : List AObj} {K : Kt} {r : List SV × List (List CV)}

theorem main_map {a b : Option Value} {v : Value} (h : b.map mainV = a.map mainV) (hv : a = some v) : ∃ v', b = some v' ∧ mainV v' = mainV v := by
  subst hv
  cases b with
  | none => simp at h
  | some v' => exact ⟨v', rfl, by simpa using h⟩
theorem RB.compat (hc : Compat ρ ρ' o o') {id off : Nat} {x : Value} (h : RB ρ o id off x) : RB ρ' o' id off x := by
  unfold RB at h ⊢
  split at h
  · rename_i cs ho
    obtain ⟨a', ha', hcc⟩ := hc id _ ho
    obtain ⟨b, hb, hx⟩ := h
    rw [ha']
    cases a' <;> simp only [CompatO] at hcc
    · trivial
    · exact ⟨b, hcc.trans hb, hx⟩
  · rename_i a _ ho
    obtain ⟨a', ha', hcc⟩ := hc id _ ho
    rw [ha']
    cases a <;> cases a' <;> simp_all [CompatO]
  · exact h.elim
theorem RC.compat (hi : ∀ b, Im b → Im' b ∧ w'.heap[b]? = w.heap[b]?) (hc : Compat ρ ρ' o o') {c : CV} {x : Value} (h : RC w Im ρ o c x) : RC w' Im' ρ' o' c x := by
  cases c with
  | undef => trivial
  | p v => exact RP.mono hi h
  | loc id ver sh lo len =>
    simp only [RC] at h ⊢
    split at h
    · rename_i e sh' ver' fz xs ho
      obtain ⟨a', ha', hcc⟩ := hc id _ ho
      simp only [ha']
      cases a' with
      | dead => trivial
      | box cs => exact hcc.elim
      | arr e2 sh2 ver2 fz2 xs2 =>
        rcases hcc with hlt | ⟨rfl, rfl, hlen, hρ, _⟩
        · exact ⟨by omega, fun he => by omega⟩
        · refine ⟨h.1, fun he hs => ?_⟩
          obtain ⟨hle, v, hv, hsl⟩ := h.2 he hs
          obtain ⟨v', hv', hm⟩ := main_map hρ hv
          exact ⟨by omega, v', hv', by rw [hm]; exact hsl⟩
    · rename_i a hno ho
      obtain ⟨a', ha', hcc⟩ := hc id _ ho
      simp only [ha']
      cases a with
      | arr e1 s1 v1 f1 x1 => exact (hno e1 s1 v1 f1 x1 rfl).elim
      | _ => cases a' <;> simp_all [CompatO]
    · exact h.elim
  | bptr id off => exact RB.compat hc h
  | aptr id ver sh i off =>
    simp only [RC] at h ⊢
    split at h
    · rename_i e sh' ver' fz xs ho
      obtain ⟨a', ha', hcc⟩ := hc id _ ho
      simp only [ha']
      cases a' with
      | dead => trivial
      | box cs => exact hcc.elim
      | arr e2 sh2 ver2 fz2 xs2 =>
        rcases hcc with hlt | ⟨rfl, rfl, hlen, hρ, _⟩
        · exact ⟨by omega, fun he => by omega⟩
        · refine ⟨h.1, fun he hs => ?_⟩
          obtain ⟨hle, g, n, cap, v, hv, hvm, hx⟩ := h.2 he hs
          obtain ⟨v', hv', hm⟩ := main_map hρ hv
          exact ⟨by omega, g, n, cap, v', hv', hm.trans hvm, hx⟩
    · rename_i a hno ho
      obtain ⟨a', ha', hcc⟩ := hc id _ ho
      simp only [ha']
      cases a with
      | arr e1 s1 v1 f1 x1 => exact (hno e1 s1 v1 f1 x1 rfl).elim
      | _ => cases a' <;> simp_all [CompatO]
    · exact h.elim
  | eptr v sh off =>
    obtain ⟨b, base, hx, hb, hs, hh⟩ := h
    refine ⟨b, base, hx, (hi b hb).1, hs, fun j c hj => ?_⟩
    obtain ⟨y, hy, hr⟩ := hh j c hj
    exact ⟨y, (cell_same (w := w) (w' := w') (a := ⟨b, base + j, none⟩) (hi b hb).2).trans hy, RP.mono hi hr⟩
  | fn f caps =>
    obtain ⟨vs, hx, hl, hh⟩ := h
    exact ⟨vs, hx, hl, fun i id hid => let ⟨y, hy, hr⟩ := hh i id hid; ⟨y, hy, RB.compat hc hr⟩⟩
  | own e sh xs => exact h.elim
  | nel id ver nv i =>
    simp only [RC] at h ⊢
    split at h
    · rename_i e sh' ver' fz xs ho
      obtain ⟨a', ha', hcc⟩ := hc id _ ho
      simp only [ha']
      cases a' with
      | dead => trivial
      | box cs => exact hcc.elim
      | arr e2 sh2 ver2 fz2 xs2 =>
        rcases hcc with hlt | ⟨rfl, rfl, hlen, hρ, hk⟩
        · exact ⟨by omega, fun he => by omega⟩
        · refine ⟨h.1, fun he k2 hk2 => ?_⟩
          rw [hk2] at hk
          cases hk1 : e.kd with
          | none => rw [hk1] at hk; exact hk.elim
          | some k1 =>
            obtain ⟨h1, h2⟩ := h.2 he k1 hk1
            rw [hk1] at hk
            rcases hk with hlt | ⟨rfl, hp⟩
            · exact ⟨by omega, fun hh => by omega⟩
            · refine ⟨h1, fun hh hh2 => ?_⟩
              obtain ⟨h3, m, ks, h4, h5⟩ := h2 hh hh2
              exact ⟨by omega, m, ks, hp.trans h4, h5⟩
    · rename_i a hno ho
      obtain ⟨a', ha', hcc⟩ := hc id _ ho
      simp only [ha']
      cases a with
      | arr e1 s1 v1 f1 x1 => exact (hno e1 s1 v1 f1 x1 rfl).elim
      | _ => cases a' <;> simp_all [CompatO]
    · exact h.elim
theorem Row1.keep (hi : ∀ b, Im b → Im' b ∧ w'.heap[b]? = w.heap[b]?) {e sh : Nat} {u : Value} {ys : List PV} (hb : ∀ b, kidBlk u b → w'.heap[b]? = w.heap[b]?) (h : Row1 w Im e sh u ys) : Row1 w' Im' e sh u ys := by
  obtain ⟨vals, hown, h1, h2⟩ := h
  refine ⟨vals, ⟨hown.1, ?_⟩, h1, fun i x j c y a1 a2 a3 => RP.mono hi (h2 i x j c y a1 a2 a3)⟩
  rcases hown.2 with hn | ⟨g, cap, cur, rfl, hb', hh, rest⟩
  · exact .inl hn
  · exact .inr ⟨g, cap, cur, rfl, hb', (hb g rfl).trans hh, rest⟩
theorem RPk.keep (hi : ∀ b, Im b → Im' b ∧ w'.heap[b]? = w.heap[b]?) {e : Et} {j : Nat} {c : PV} {y : Value} (h : RPk w Im e j c y) : RPk w' Im' e j c y := by
  unfold RPk at h ⊢
  split
  · rename_i he; rw [he] at h; exact RP.mono hi h
  · rename_i k he; rw [he] at h; exact fun hj => RP.mono hi (h hj)
theorem KidsOK.keep (hi : ∀ b, Im b → Im' b ∧ w'.heap[b]? = w.heap[b]?) {k : Kd} {sh : Nat} {xs : List PV} {vals ks : List Value} (hb : ∀ (i : Nat) (u : Value) (b : Nat), ks[i]? = some u → kidBlk u b → w'.heap[b]? = w.heap[b]?) (h : KidsOK w Im k sh xs vals ks) : KidsOK w' Im' k sh xs vals ks := by
  refine ⟨h.len, h.jlt, fun i x hx hh => ?_, h.out, h.inj, h.one⟩
  obtain ⟨f, ys, u, h1, hf, h2, h3, h4⟩ := h.kid i x hx hh
  exact ⟨f, ys, u, h1, hf, h2, h3, h4.keep hi fun b hbk => hb i u b h2 hbk⟩
theorem kids_Blk {v : Value} {ks : List Value} {i b : Nat} {u m : Value} (hv : v = .tuple (m :: ks).toArray) (hi : ks[i]? = some u) (hb : kidBlk u b) : Blk v b := by
  subst hv
  exact ⟨i + 1, u, by simpa using hi, hb⟩
theorem RKids.keep (hi : ∀ b, Im b → Im' b ∧ w'.heap[b]? = w.heap[b]?) {e : Et} {sh : Nat} {fz : Bool} {xs : List PV} {vals : List Value} {v : Value} (hb : ∀ b, Blk v b → w'.heap[b]? = w.heap[b]?) (h : RKids w Im e sh fz xs vals v) : RKids w' Im' e sh fz xs vals v := by
  unfold RKids at h ⊢
  split
  · rename_i he
    rw [he] at h
    exact h
  · rename_i k he
    rw [he] at h
    obtain ⟨hf, ks, hv, hk, hd⟩ := h
    exact ⟨hf, ks, hv, hk.keep hi fun i u b hu hbk => hb b (kids_Blk hv hu hbk), hd⟩
theorem ownsRow_main {base : Nat} {e s n : Nat} {v : Value} {xs : List Value} (hb : ∀ b, kidBlk v b → w'.heap[b]? = w.heap[b]?) (h : w.ownsRow base e s v n xs) : w'.ownsRow base e s v n xs := by
  refine ⟨h.1, ?_⟩
  rcases h.2 with hn | ⟨g, cap, cur, rfl, hb', hh, rest⟩
  · exact .inl hn
  · exact .inr ⟨g, cap, cur, rfl, hb', (hb g rfl).trans hh, rest⟩
theorem ownsRow_same {base : Nat} {e s n : Nat} {v : Value} {xs : List Value} (hb : ∀ b, Blk v b → w'.heap[b]? = w.heap[b]?) (h : w.ownsRow base e s v n xs) : w'.ownsRow base e s v n xs := by
  refine ⟨h.1, ?_⟩
  rcases h.2 with hn | ⟨g, cap, cur, rfl, hb', hh, rest⟩
  · exact .inl hn
  · exact .inr ⟨g, cap, cur, rfl, hb', (hb g rfl).trans hh, rest⟩
/-- An object that nobody touched. -/
theorem RO.keep (hi : ∀ b, Im b → Im' b ∧ w'.heap[b]? = w.heap[b]?) (hc : Compat ρ ρ' o o') {v : Value} {x : AObj} (hb : ∀ b, Blk v b → w'.heap[b]? = w.heap[b]?) (hn : ∀ b, Blk v b → Im' b → Im b) (h : RO w Im ρ o v x) : RO w' Im' ρ' o' v x := by
  cases x with
  | dead => trivial
  | box cs =>
    obtain ⟨b, vs, e, rfl, hh, hl, hr, h1, hni⟩ := h
    exact ⟨b, vs, e, rfl, (hb b rfl).trans hh, hl, fun i c y hc' hy => RC.compat hi hc (hr i c y hc' hy), h1, fun him => hni (hn b rfl him)⟩
  | arr e sh ver fz xs =>
    obtain ⟨vals, hown, hs, hr, hz, hk⟩ := h
    exact ⟨vals, ownsRow_main (fun b hbk => hb b (main_Blk hbk)) hown, hs, fun i x j c y h1 h2 h3 => (hr i x j c y h1 h2 h3).keep hi, fun b hbk => ⟨fun hf him => (hz b hbk).1 hf (hn b hbk him), fun hf => (hi b ((hz b hbk).2 hf)).1⟩, hk.keep hi hb⟩

def upd (ρ : Nat → Option Value) (id : Nat) (v : Option Value) : Nat → Option Value := fun i => if i = id then v else ρ i
theorem upd_same {ρ : Nat → Option Value} {id : Nat} {v : Option Value} : upd ρ id v id = v := by simp [upd]
theorem upd_ne {ρ : Nat → Option Value} {id i : Nat} {v : Option Value} (h : i ≠ id) : upd ρ id v i = ρ i := by simp [upd, h]
theorem compat_new (hs : SR w Im ρ o) (v : Option Value) (x : AObj) : Compat ρ (upd ρ o.length v) o (o ++ [x]) := by
  intro id a ha
  have hlt := (List.getElem?_eq_some_iff.1 ha).1
  refine ⟨a, by rw [List.getElem?_append_left hlt]; exact ha, ?_⟩
  rw [upd_ne (by omega)]
  cases a <;> simp [CompatO]
/-- One new object. -/
theorem Step.new (hs : SR w Im ρ o) (hwd : Wd w w') (hh : ∀ b, b < w.heap.size → w'.heap[b]? = w.heap[b]?) {v : Value} {x : AObj} (hx : x ≠ .dead) (hv : ∀ b, Blk v b → w.heap.size ≤ b ∧ b < w'.heap.size)
    (hro : RO w' Im (upd ρ o.length (some v)) (o ++ [x]) v x) : Step w Im ρ o w' Im (upd ρ o.length (some v)) (o ++ [x]) := by
  have hc := compat_new hs (some v) x
  have him : ∀ b, Im b → Im b ∧ w'.heap[b]? = w.heap[b]? := fun b hb => ⟨hb, hh b (hs.im b hb)⟩
  have hn : ρ o.length = none := by
    cases h : ρ o.length with
    | none => rfl
    | some u => have := (hs.lt _ u h).1; omega
  have cs : ∀ id u, upd ρ o.length (some v) id = some u → (id = o.length ∧ u = v) ∨ (id ≠ o.length ∧ ρ id = some u) := by
    intro id u h
    by_cases e : id = o.length
    · subst e; rw [upd_same] at h; exact .inl ⟨rfl, by injection h with h; exact h.symm⟩
    · rw [upd_ne e] at h; exact .inr ⟨e, h⟩
  refine ⟨hwd, ⟨?_, ?_, ?_, fun b hb => Nat.lt_of_lt_of_le (hs.im b hb) hwd.size, ?_⟩, fun c y hy => RC.compat him hc hy, fun b hb _ => hh b hb, ?_, him, fun b hb => .inl hb, ?_, ⟨by simp, fun id hl h0 => by rw [upd_ne (by omega)]; exact h0⟩⟩
  · intro id a u ha hu
    rcases cs id u hu with ⟨rfl, rfl⟩ | ⟨hne, hu⟩
    · have : a = x := by simpa using ha.symm
      subst this
      exact hro
    · have hlt := (hs.lt id u hu).1
      rw [List.getElem?_append_left hlt] at ha
      exact RO.keep him hc (fun b hb => hh b ((hs.lt id u hu).2 b hb)) (fun b _ h => h) (hs.ob id a u ha hu)
  · intro id id' u u' b hu hu' hb hb'
    rcases cs id u hu with ⟨h1, h2⟩ | ⟨hne, h2⟩ <;> rcases cs id' u' hu' with ⟨h3, h4⟩ | ⟨hne', h4⟩
    · exact h1.trans h3.symm
    · rw [h2] at hb; have := (hv b hb).1; have := (hs.lt id' u' h4).2 b hb'; omega
    · rw [h4] at hb'; have := (hv b hb').1; have := (hs.lt id u h2).2 b hb; omega
    · exact hs.inj id id' u u' b h2 h4 hb hb'
  · intro id u hu
    rcases cs id u hu with ⟨rfl, rfl⟩ | ⟨hne, hu⟩
    · exact ⟨by simp, fun b hb => (hv b hb).2⟩
    · have := hs.lt id u hu
      exact ⟨by simp; omega, fun b hb => Nat.lt_of_lt_of_le (this.2 b hb) hwd.size⟩
  · intro id hd
    by_cases e : id = o.length
    · subst e; simp at hd; exact absurd hd hx
    · rw [upd_ne e]
      have hlt : id < o.length := by have := (List.getElem?_eq_some_iff.1 hd).1; simp at this; omega
      rw [List.getElem?_append_left hlt] at hd
      exact hs.dd id hd
  · intro id u b hu hb
    rcases cs id u hu with ⟨rfl, rfl⟩ | ⟨hne, hu⟩
    · exact .inl (hv b hb).1
    · exact .inr ⟨id, u, hu, hb⟩
  · intro hm id a ha hd
    by_cases e : id = o.length
    · subst e; exact ⟨v, upd_same⟩
    · rw [upd_ne e]
      have hlt : id < o.length := by have := (List.getElem?_eq_some_iff.1 ha).1; simp at this; omega
      rw [List.getElem?_append_left hlt] at ha
      exact hm id a ha hd
/-- Some objects turned, made or done with, none of them let go; nobody else's block is written. -/
theorem Step.multi (hs : SR w Im ρ o) (hwd : Wd w w') (S : Nat → Prop) (hlen : o.length ≤ o'.length) (hsame : ∀ id, ¬ S id → id < o.length → o'[id]? = o[id]? ∧ ρ' id = ρ id) (hnew : ∀ id, o.length ≤ id → ¬ S id → o'[id]? = none ∧ ρ' id = none)
    (hc : Compat ρ ρ' o o') (hh : ∀ b, b < w.heap.size → (∀ id v, S id → ρ id = some v → ¬ Blk v b) → w'.heap[b]? = w.heap[b]?) (hni : ∀ id v b, S id → ρ id = some v → Blk v b → ¬ Im b)
    (hv : ∀ id v b, S id → ρ' id = some v → Blk v b → (∃ id0 v0, S id0 ∧ ρ id0 = some v0 ∧ Blk v0 b) ∨ w.heap.size ≤ b) (hv2 : ∀ id v, S id → ρ' id = some v → id < o'.length ∧ ∀ b, Blk v b → b < w'.heap.size)
    (hinj : ∀ id id' v v' b, S id → S id' → ρ' id = some v → ρ' id' = some v' → Blk v b → Blk v' b → id = id')
    (hro : ∀ id x v, S id → o'[id]? = some x → ρ' id = some v → RO w' Im ρ' o' v x) (hdd : ∀ id, S id → o'[id]? = some .dead → ρ' id = none)
    (hmp : ∀ id x, S id → o'[id]? = some x → x ≠ .dead → ∃ v, ρ' id = some v) (hgr : ∀ id, S id → id < o.length → ρ id = none → ρ' id = none) : Step w Im ρ o w' Im ρ' o' := by
  have hb : ∀ b, b < w.heap.size → (∀ id v, S id → ρ id = some v → ¬ Blk v b) → w'.heap[b]? = w.heap[b]? := hh
  have him : ∀ b, Im b → Im b ∧ w'.heap[b]? = w.heap[b]? := fun b hI => ⟨hI, hb b (hs.im b hI) fun id v h1 h2 h3 => hni id v b h1 h2 h3 hI⟩
  have old : ∀ id v, ¬ S id → ρ' id = some v → id < o.length ∧ o'[id]? = o[id]? ∧ ρ id = some v := by
    intro id v hS hv
    rcases Nat.lt_or_ge id o.length with hl | hl
    · obtain ⟨h1, h2⟩ := hsame id hS hl
      exact ⟨hl, h1, h2 ▸ hv⟩
    · have := (hnew id hl hS).2; rw [hv] at this; cases this
  have oth : ∀ id v b, ¬ S id → ρ id = some v → Blk v b → w'.heap[b]? = w.heap[b]? := fun id v b hS hv hbk => hb b ((hs.lt id v hv).2 b hbk) fun id' v' h1 h2 h3 => hS ((hs.inj id id' v v' b hv h2 hbk h3) ▸ h1)
  refine ⟨hwd, ⟨?_, ?_, ?_, fun b hb => Nat.lt_of_lt_of_le (hs.im b hb) hwd.size, ?_⟩, fun c y hy => RC.compat him hc hy, fun b hb' hno => hb b hb' fun id v _ h2 => hno id v h2, ?_, him, fun b hb => .inl hb, ?_, ⟨hlen, fun id hl h0 => ?_⟩⟩
  · intro id x v hx hv'
    by_cases hS : S id
    · exact hro id x v hS hx hv'
    · obtain ⟨hl, h1, h2⟩ := old id v hS hv'
      rw [h1] at hx
      exact RO.keep him hc (fun b hbk => oth id v b hS h2 hbk) (fun b _ h => h) (hs.ob id x v hx h2)
  · intro id id' v v' b h1 h2 h3 h4
    by_cases hS : S id <;> by_cases hS' : S id'
    · exact hinj id id' v v' b hS hS' h1 h2 h3 h4
    · obtain ⟨hl, _, h5⟩ := old id' v' hS' h2
      rcases hv id v b hS h1 h3 with ⟨id0, v0, h6, h7, h8⟩ | h6
      · exact absurd (hs.inj id0 id' v0 v' b h7 h5 h8 h4 ▸ h6) hS'
      · have := (hs.lt id' v' h5).2 b h4; omega
    · obtain ⟨hl, _, h5⟩ := old id v hS h1
      rcases hv id' v' b hS' h2 h4 with ⟨id0, v0, h6, h7, h8⟩ | h6
      · exact absurd (hs.inj id0 id v0 v b h7 h5 h8 h3 ▸ h6) hS
      · have := (hs.lt id v h5).2 b h3; omega
    · exact hs.inj id id' v v' b (old id v hS h1).2.2 (old id' v' hS' h2).2.2 h3 h4
  · intro id v hv'
    by_cases hS : S id
    · exact hv2 id v hS hv'
    · obtain ⟨hl, _, h5⟩ := old id v hS hv'
      exact ⟨by omega, fun b hbk => Nat.lt_of_lt_of_le ((hs.lt id v h5).2 b hbk) hwd.size⟩
  · intro id hd
    by_cases hS : S id
    · exact hdd id hS hd
    · rcases Nat.lt_or_ge id o.length with hl | hl
      · obtain ⟨h1, h2⟩ := hsame id hS hl
        rw [h2]; rw [h1] at hd; exact hs.dd id hd
      · exact (hnew id hl hS).2
  · intro id v b h1 h2
    by_cases hS : S id
    · rcases hv id v b hS h1 h2 with ⟨id0, v0, h6, h7, h8⟩ | h6
      · exact .inr ⟨id0, v0, h7, h8⟩
      · exact .inl h6
    · exact .inr ⟨id, v, (old id v hS h1).2.2, h2⟩
  · intro hm id x hx hd
    by_cases hS : S id
    · exact hmp id x hS hx hd
    · rcases Nat.lt_or_ge id o.length with hl | hl
      · obtain ⟨h1, h2⟩ := hsame id hS hl
        rw [h2]; rw [h1] at hx; exact hm id x hx hd
      · have := (hnew id hl hS).1; rw [hx] at this; cases this
  · by_cases hS : S id
    · exact hgr id hS hl h0
    · rw [(hsame id hS hl).2]; exact h0
/-- One object turned, its place kept or moved; nobody else's block is written. -/
theorem Step.turn (hs : SR w Im ρ o) (hwd : Wd w w') {id : Nat} {x x' : AObj} {v v' : Value} (hx : o[id]? = some x) (hρ : ρ id = some v) (hd : x' ≠ .dead) (hco : CompatO (some v) (some v') x x')
    (hh : ∀ b, b < w.heap.size → ¬ Blk v b → w'.heap[b]? = w.heap[b]?) (hni : ∀ b, Blk v b → ¬ Im b) (hv : ∀ b, Blk v' b → Blk v b ∨ (w.heap.size ≤ b)) (hv2 : ∀ b, Blk v' b → b < w'.heap.size)
    (hro : RO w' Im (upd ρ id (some v')) (o.set id x') v' x') : Step w Im ρ o w' Im (upd ρ id (some v')) (o.set id x') := by
  have hlt := (hs.lt id v hρ).1
  have hc : Compat ρ (upd ρ id (some v')) o (o.set id x') := by
    intro i a ha
    by_cases e : i = id
    · subst e
      rw [hx] at ha
      injection ha with ha
      subst ha
      exact ⟨x', by simp [hlt], by rw [upd_same, hρ]; exact hco⟩
    · refine ⟨a, by rw [List.getElem?_set_ne (Ne.symm e)]; exact ha, ?_⟩
      rw [upd_ne e]
      cases a <;> simp [CompatO]
  have him : ∀ b, Im b → Im b ∧ w'.heap[b]? = w.heap[b]? := fun b hb => ⟨hb, hh b (hs.im b hb) fun e => hni b e hb⟩
  have cs : ∀ i u, upd ρ id (some v') i = some u → (i = id ∧ u = v') ∨ (i ≠ id ∧ ρ i = some u) := by
    intro i u h
    by_cases e : i = id
    · subst e; rw [upd_same] at h; exact .inl ⟨rfl, by injection h with h; exact h.symm⟩
    · rw [upd_ne e] at h; exact .inr ⟨e, h⟩
  have oth : ∀ i u b, i ≠ id → ρ i = some u → Blk u b → w'.heap[b]? = w.heap[b]? := fun i u b hne hu hb => hh b ((hs.lt i u hu).2 b hb) fun e => hne (hs.inj i id u v b hu hρ hb e)
  refine ⟨hwd, ⟨?_, ?_, ?_, fun b hb => Nat.lt_of_lt_of_le (hs.im b hb) hwd.size, ?_⟩, fun c y hy => RC.compat him hc hy, fun b hb hno => hh b hb (hno id v hρ), ?_, him, fun b hb => .inl hb, ?_, ⟨by simp, fun i hl h0 => by rw [upd_ne (by rintro rfl; rw [hρ] at h0; cases h0)]; exact h0⟩⟩
  · intro i a u ha hu
    rcases cs i u hu with ⟨rfl, rfl⟩ | ⟨hne, hu⟩
    · have : a = x' := by simpa [hlt] using ha.symm
      subst this
      exact hro
    · rw [List.getElem?_set_ne (Ne.symm hne)] at ha
      exact RO.keep him hc (fun b hb => oth i u b hne hu hb) (fun b _ h => h) (hs.ob i a u ha hu)
  · intro i i' u u' b hu hu' hb hb'
    rcases cs i u hu with ⟨h1, h2⟩ | ⟨hne, h2⟩ <;> rcases cs i' u' hu' with ⟨h3, h4⟩ | ⟨hne', h4⟩
    · exact h1.trans h3.symm
    · rw [h2] at hb
      rcases hv b hb with h5 | h5
      · exact absurd (hs.inj i' id u' v b h4 hρ hb' h5) hne'
      · have := (hs.lt i' u' h4).2 b hb'; omega
    · rw [h4] at hb'
      rcases hv b hb' with h5 | h5
      · exact absurd (hs.inj i id u v b h2 hρ hb h5) hne
      · have := (hs.lt i u h2).2 b hb; omega
    · exact hs.inj i i' u u' b h2 h4 hb hb'
  · intro i u hu
    rcases cs i u hu with ⟨rfl, rfl⟩ | ⟨hne, hu⟩
    · exact ⟨by simpa using hlt, fun b hb => hv2 b hb⟩
    · have := hs.lt i u hu
      exact ⟨by simpa using this.1, fun b hb => Nat.lt_of_lt_of_le (this.2 b hb) hwd.size⟩
  · intro i hdd
    by_cases e : i = id
    · subst e; simp [hlt] at hdd; exact absurd hdd hd
    · rw [upd_ne e]
      rw [List.getElem?_set_ne (Ne.symm e)] at hdd
      exact hs.dd i hdd
  · intro i u b hu hb
    rcases cs i u hu with ⟨rfl, rfl⟩ | ⟨hne, hu⟩
    · rcases hv b hb with h1 | h1
      · exact .inr ⟨i, v, hρ, h1⟩
      · exact .inl h1
    · exact .inr ⟨i, u, hu, hb⟩
  · intro hm i a ha hdd
    by_cases e : i = id
    · subst e; exact ⟨v', upd_same⟩
    · rw [upd_ne e]
      rw [List.getElem?_set_ne (Ne.symm e)] at ha
      exact hm i a ha hdd
end
end Go.Dp

/- What makes and writes memory. -/
set_option linter.unusedVariables false
set_option linter.unusedSimpArgs false
namespace Go.Dp
section
variable {P : Program} {E : Env} {w w' : World} {Im Im' : Nat → Prop} {ρ ρ' : Nat → Option Value} {o o' : List AObj} {K : Kt} {r : List SV × List (List CV)}

/-! ### Letting go -/
theorem get_flat {i j s n : Nat} (hi : i < n) (hj : j < s) : i * s + j < n * s := by
  have : (i + 1) * s ≤ n * s := Nat.mul_le_mul_right _ hi
  rw [Nat.add_mul] at this
  omega
/-- A row let go. -/
theorem Row1.rp {Im2 : Nat → Prop} {e sh : Nat} {u : Value} {ys : List PV} (h : Row1 w Im e sh u ys) (hi : ∀ b, Im b → Im2 b) (hb : ∀ b, kidBlk u b → Im2 b) : RP w Im2 (.row sh 0 ys) u := by
  obtain ⟨vals, hown, hshp, hrp⟩ := h
  have hm : ∀ b, Im b → Im2 b ∧ w.heap[b]? = w.heap[b]? := fun b h => ⟨hi b h, rfl⟩
  rcases hown.2 with ⟨rfl, hn⟩ | ⟨g, cap, cu, rfl, _, hh, hnc, hcm, hcs, htk⟩
  · rw [List.eq_nil_of_length_eq_zero hn]
    exact RP.nil sh 0 (by decide)
  · have hjl : ∀ (i : Nat) (x : PV) (j : Nat) (c : PV), ys[i]? = some x → x.cells[j]? = some c → vals[i * csz sh + j]? = some vals[i * csz sh + j]! := by
      intro i x j c hx hj
      have h1 : j < csz sh := by rw [← PV.shp_len (hshp x (List.mem_of_getElem? hx))]; exact (List.getElem?_eq_some_iff.1 hj).1
      have h2 := get_flat (List.getElem?_eq_some_iff.1 hx).1 h1
      rw [← hown.1] at h2
      simp [h2]
    refine RP.row (w := w) (Im := Im2) sh 0 ys ⟨g, 0, none⟩ cap (fun k => vals[k]!) (by decide) rfl hnc hcm (fun h => by omega) (fun _ => hb g rfl) (fun i x hx => hshp x (List.mem_of_getElem? hx)) ?_ ?_
    · intro i x j c hx hj
      have := hown.cells (g := g) rfl (i * csz sh + j) _ (hjl i x j c hx hj)
      rw [add_at, Nat.zero_add] at this
      simpa using this
    · intro i x j c hx hj
      exact RP.mono hm (hrp i x j c _ hx hj (hjl i x j c hx hj))
theorem Step.freeze (hs : SR w Im ρ o) {id sh ver : Nat} {e : Et} {fz : Bool} {xs : List PV} (ho : o[id]? = some (.arr e sh ver fz xs)) (hhole : ∀ k, e.kd = some k → k.hole = none) : ∃ Im', Step w Im ρ o w Im' ρ (o.set id (.arr e.t sh ver true xs)) ∧ ∀ v b, ρ id = some v → Blk v b → Im' b := by
  have hlt := (List.getElem?_eq_some_iff.1 ho).1
  let Im' : Nat → Prop := fun b => Im b ∨ ∃ v, ρ id = some v ∧ Blk v b
  have him : ∀ b, Im b → Im' b ∧ w.heap[b]? = w.heap[b]? := fun b hb => ⟨.inl hb, rfl⟩
  have hc : Compat ρ ρ o (o.set id (.arr e.t sh ver true xs)) := by
    intro i a ha
    by_cases e1 : i = id
    · subst e1
      rw [ho] at ha
      injection ha with ha
      subst ha
      exact ⟨.arr e.t sh ver true xs, by simp [hlt], Or.inr ⟨rfl, rfl, Nat.le_refl _, rfl, KdC_none rfl⟩⟩
    · exact ⟨a, by rw [List.getElem?_set_ne (Ne.symm e1)]; exact ha, by cases a <;> simp [CompatO]⟩
  refine ⟨Im', ⟨Wd.refl w, ⟨?_, hs.inj, fun i v hv => ⟨by simpa using (hs.lt i v hv).1, (hs.lt i v hv).2⟩, ?_, ?_⟩, fun c y hy => RC.compat him hc hy, fun _ _ _ => rfl, fun i v b hv hb => .inr ⟨i, v, hv, hb⟩, him, ?_, ?_, ⟨by simp, fun _ _ h => h⟩⟩, fun v b hv hb => .inr ⟨v, hv, hb⟩⟩
  · intro i a v ha hv
    by_cases e1 : i = id
    · subst e1
      have : a = .arr e.t sh ver true xs := by simpa [hlt] using ha.symm
      subst this
      obtain ⟨vals, hown, h1, h2, h3, h4⟩ := hs.ob i _ _ ho hv
      refine ⟨vals, hown, h1, fun p x j c y a1 a2 a3 => ?_, fun b hb => And.intro (fun (hf : true = false) => nomatch hf) (fun _ => Or.inr ⟨v, hv, hb⟩), fun h => nomatch h⟩
      show RP w Im' c y
      have h5 := h2 p x j c y a1 a2 a3
      unfold RPk at h5
      split at h5
      · exact RP.mono him h5
      · rename_i k hk
        by_cases hj : j = k.j
        · subst hj
          simp only [RKids, hk] at h4
          obtain ⟨_, ks, hvk, hks, _⟩ := h4
          obtain ⟨f, ys, u, b1, b2, b3, b4, b5⟩ := hks.kid p x a1 (by rw [hhole k hk]; simp)
          rw [a2] at b1
          rw [a3] at b4
          injection b1 with b1
          injection b4 with b4
          subst b1
          subst b4
          have h6 := b5.rp (Im2 := Im') (fun b hb => .inl hb) (fun b hb => .inr ⟨v, hv, kids_Blk hvk b3 hb⟩)
          rcases b2 with rfl | ⟨rfl, rfl⟩
          · exact h6
          · cases h6; exact RP.nil _ _ (by decide)
        · exact RP.mono him (h5 hj)
    · rw [List.getElem?_set_ne (Ne.symm e1)] at ha
      refine RO.keep him hc (fun _ _ => rfl) (fun b hb hI => ?_) (hs.ob i a v ha hv)
      rcases hI with h | ⟨u, hu, hub⟩
      · exact h
      · exact absurd (hs.inj i id v u b hv hu hb hub) e1
  · intro b hb
    rcases hb with h | ⟨u, hu, hub⟩
    · exact hs.im b h
    · exact (hs.lt id u hu).2 b hub
  · intro i hd
    by_cases e1 : i = id
    · subst e1; simp [hlt] at hd
    · rw [List.getElem?_set_ne (Ne.symm e1)] at hd; exact hs.dd i hd
  · intro b hb
    rcases hb with h | ⟨u, hu, hub⟩
    · exact .inl h
    · exact .inr (.inr ⟨id, u, hu, hub⟩)
  · intro hm i a ha hd
    by_cases e1 : i = id
    · subst e1; exact hm i _ ho (by simp)
    · rw [List.getElem?_set_ne (Ne.symm e1)] at ha; exact hm i a ha hd
/-- A slice of a row of the call's own reads as a pure row, once its block counts among those let go. -/
theorem view_sound {Im2 : Nat → Prop} (hs : SR w Im ρ o) (hi : ∀ b, Im b → Im2 b) {id ver sh lo len : Nat} {y : Value} {v : PV} (hy : RC w Im ρ o (.loc id ver sh lo len) y) (hv : viewLoc o id ver sh lo len = some v)
    (hb : ∀ u b, ρ id = some u → Blk u b → Im2 b) : RP w Im2 v y := by
  unfold viewLoc at hv
  split at hv
  · rename_i e sh' ver' fz xs ho
    obtain ⟨hcnd, hv'⟩ := bif_some hv
    simp only [Bool.and_eq_true, beq_iff_eq, Option.isNone_iff_eq_none] at hcnd
    obtain ⟨⟨rfl, rfl⟩, hkd⟩ := hcnd
    injection hv' with hv'
    subst hv'
    simp only [RC, ho] at hy
    obtain ⟨hle, u, hρ, hsl⟩ := hy.2 trivial trivial
    obtain ⟨vals, hown, hshp, hrp, _⟩ := hs.ob id _ _ ho hρ
    simp only [RPk, hkd] at hrp
    have hm : ∀ b, Im b → Im2 b ∧ w.heap[b]? = w.heap[b]? := fun b h => ⟨hi b h, rfl⟩
    have hlen : ((xs.drop lo).take len).length = len := by simp; omega
    rcases hown.2 with ⟨hmu, _⟩ | ⟨g, cap, cu, hmu, _, hh, hnc, hcm, hcs, htk⟩ <;> rw [hmu] at hsl
    · obtain ⟨rfl, rfl, rfl⟩ := hsl
      simpa using RP.nil sh 0 (by decide)
    · obtain ⟨off, rfl, hlc, hoff⟩ := hsl
      have get : ∀ i x, ((xs.drop lo).take len)[i]? = some x → i < len ∧ xs[lo + i]? = some x := by
        intro i x hx
        have h1 : i < len := by have := (List.getElem?_eq_some_iff.1 hx).1; rwa [hlen] at this
        rw [List.getElem?_take_of_lt h1, List.getElem?_drop] at hx
        exact ⟨h1, hx⟩
      have key := RP.row (w := w) (Im := Im2) sh 0 ((xs.drop lo).take len) ⟨g, off, none⟩ (cap - lo) (fun k => (vals[lo * csz sh + k]?).getD undef) (by decide) rfl (by omega) (by omega) (fun h => by omega)
        (fun _ => hb _ g hρ (main_Blk (by rw [hmu]; rfl))) (fun i x hx => hshp x (List.mem_of_getElem? (get i x hx).2)) ?_ ?_
      · rwa [hlen] at key
      all_goals
        intro i x j c hx hj
        obtain ⟨h1, hx⟩ := get i x hx
        have hjl : j < csz sh := by rw [← PV.shp_len (hshp x (List.mem_of_getElem? hx))]; exact (List.getElem?_eq_some_iff.1 hj).1
        have hvl : (lo + i) * csz sh + j < vals.length := by
          rw [hown.1]
          have h1 : (lo + i + 1) * csz sh ≤ xs.length * csz sh := Nat.mul_le_mul_right _ (by have := (List.getElem?_eq_some_iff.1 hx).1; omega)
          rw [Nat.add_mul (lo + i)] at h1
          omega
        have e1 : (lo + i) * csz sh + j = lo * csz sh + (i * csz sh + j) := by rw [Nat.add_mul, Nat.add_assoc]
        rw [e1] at hvl
        have e2 : vals[lo * csz sh + (i * csz sh + j)]? = some vals[lo * csz sh + (i * csz sh + j)] := by simp [hvl]
      · have := hown.cells (g := g) (by rw [hmu]; rfl) (lo * csz sh + (i * csz sh + j)) _ e2
        rw [add_at, Nat.zero_add] at this
        rw [hoff (.inr (by omega))]
        simp only [e2, Option.getD_some]
        exact this
      · simp only [e2, Option.getD_some]
        exact RP.mono hm (hrp (lo + i) x j c _ hx hj (by rw [e1]; exact e2))
  · cases hv
theorem freezeO_sound (hs : SR w Im ρ o) (id : Nat) : ∃ Im', Step w Im ρ o w Im' ρ (freezeO o id) ∧ ∀ e sh ver fz xs, (freezeO o id)[id]? = some (.arr e sh ver fz xs) → e.kd = none → ∀ v b, ρ id = some v → Blk v b → Im' b := by
  unfold freezeO
  split
  · rename_i e sh ver fz xs ho
    have hlt := (List.getElem?_eq_some_iff.1 ho).1
    have main : ∀ (hh : ∀ k, e.kd = some k → k.hole = none), ∃ Im', Step w Im ρ o w Im' ρ (o.set id (.arr e.t sh ver true xs)) ∧ ∀ e' sh' ver' fz' xs', (o.set id (AObj.arr e.t sh ver true xs))[id]? = some (.arr e' sh' ver' fz' xs') → e'.kd = none → ∀ v b, ρ id = some v → Blk v b → Im' b := by
      intro hh
      obtain ⟨Im', hst, hb⟩ := Step.freeze hs ho hh
      exact ⟨Im', hst, fun _ _ _ _ _ _ _ v b h1 h2 => hb v b h1 h2⟩
    cases hk : e.kd with
    | none =>
      have he : (e.t : Et) = e := by cases e; simp at hk; subst hk; rfl
      have := main (by simp [hk])
      rw [he] at this
      exact this
    | some k =>
      cases hh : k.hole with
      | none =>
        simp only [hh, Option.isNone_none, cond_true]
        exact main (by intro k2 hk2; rw [hk] at hk2; injection hk2 with hk2; subst hk2; exact hh)
      | some i =>
        simp only [hh, Option.isNone_some, cond_false]
        refine ⟨Im, Step.refl hs, fun e' sh' ver' fz' xs' h1 h2 => ?_⟩
        rw [ho] at h1
        injection h1 with h1
        injection h1 with h1
        subst h1
        rw [hk] at h2
        cases h2
  · rename_i hno
    refine ⟨Im, Step.refl hs, fun e' sh' ver' fz' xs' h1 => ?_⟩
    exact (hno e' sh' ver' fz' xs' h1).elim
theorem freezeC_sound (hs : SR w Im ρ o) {c : CV} {y : Value} {v : PV} {o1 : List AObj} (hy : RC w Im ρ o c y) (h : freezeC o c = some (v, o1)) : ∃ Im', Step w Im ρ o w Im' ρ o1 ∧ RP w Im' v y := by
  cases c with
  | p u =>
    simp [freezeC] at h
    obtain ⟨rfl, rfl⟩ := h
    exact ⟨Im, Step.refl hs, hy⟩
  | loc id ver sh lo len =>
    simp only [freezeC] at h
    obtain ⟨u, hu, he⟩ := Option.map_eq_some_iff.1 h
    injection he with e1 e2
    subst e1
    obtain ⟨Im', hst, hb⟩ := freezeO_sound hs id
    rw [e2] at hst hb
    rw [e2] at hu
    exact ⟨Im', hst, view_sound hst.sr (fun b h => h) (hst.keep _ _ hy) hu (fun u b h1 h2 => by
      unfold viewLoc at hu
      split at hu
      · rename_i e sh' ver' fz xs ho
        obtain ⟨hcnd, _⟩ := bif_some hu
        simp only [Bool.and_eq_true, Option.isNone_iff_eq_none] at hcnd
        exact hb e sh' ver' fz xs ho hcnd.2 u b h1 h2
      · cases hu)⟩
  | _ => simp [freezeC] at h
theorem freezeCs_sound {cs : List CV} : ∀ {o o1 : List AObj} {Im : Nat → Prop} {ys : List Value} {vs : List PV}, SR w Im ρ o → ys.length = cs.length → (∀ (i : Nat) (c : CV) (y : Value), cs[i]? = some c → ys[i]? = some y → RC w Im ρ o c y) → freezeCs o cs = some (vs, o1) →
    ∃ Im', Step w Im ρ o w Im' ρ o1 ∧ vs.length = cs.length ∧ ∀ (i : Nat) (v : PV) (y : Value), vs[i]? = some v → ys[i]? = some y → RP w Im' v y := by
  induction cs with
  | nil =>
    intro o o1 Im ys vs hs hl h hf
    simp [freezeCs] at hf
    obtain ⟨rfl, rfl⟩ := hf
    exact ⟨Im, Step.refl hs, rfl, fun i v y hv => by simp at hv⟩
  | cons c cs ih =>
    intro o o1 Im ys vs hs hl h hf
    cases ys with
    | nil => simp at hl
    | cons y ys =>
      simp only [freezeCs] at hf
      obtain ⟨⟨v, o2⟩, hv, hf⟩ := bind_some hf
      obtain ⟨⟨us, o3⟩, hu, hf⟩ := bind_some hf
      simp at hf
      obtain ⟨rfl, rfl⟩ := hf
      obtain ⟨Im1, hst1, hr1⟩ := freezeC_sound hs (h 0 c y rfl rfl) hv
      obtain ⟨Im2, hst2, hl2, hr2⟩ := ih hst1.sr (by simpa using hl) (fun i c' y' hc' hy' => hst1.keep _ _ (h (i + 1) c' y' (by simpa using hc') (by simpa using hy'))) hu
      refine ⟨Im2, hst1.trans hst2, by simp [hl2], ?_⟩
      intro i v' y' hv' hy'
      cases i with
      | zero =>
        simp at hv' hy'
        subst hv'
        subst hy'
        exact RP.mono (fun b hb => hst2.im b hb) hr1
      | succ i => exact hr2 i v' y' (by simpa using hv') (by simpa using hy')
theorem freezeS_sound (hs : SR w Im ρ o) {x : SV} {y : Value} {v : PV} {o1 : List AObj} (hy : RS w Im ρ o x y) (h : freezeS o x = some (v, o1)) : ∃ Im', Step w Im ρ o w Im' ρ o1 ∧ RP w Im' v y := by
  cases x with
  | c c => exact freezeC_sound hs hy h
  | agg cs =>
    simp only [freezeS] at h
    obtain ⟨⟨vs, o2⟩, hv, he⟩ := bind_some h
    simp at he
    obtain ⟨rfl, rfl⟩ := he
    obtain ⟨ys, rfl, hl, hh, h1⟩ := hy
    obtain ⟨Im', hst, hl', hr⟩ := freezeCs_sound (ys := ys.toList) hs (by simpa using hl) (fun i c y hc hy => hh i c y hc (by simpa using hy)) hv
    refine ⟨Im', hst, RP.agg vs ys (by omega) ?_ (fun i c y hc hy => hr i c y hc (by simpa using hy))⟩
    intro i c hc
    have hi : i < ys.size := by rw [hl, ← hl']; exact (List.getElem?_eq_some_iff.1 hc).1
    exact RP.one_of (hr i c ys[i] hc (by simp [hi])) (h1 i _ (by simp [hi]))
end
end Go.Dp

/- What makes and writes memory, continued. -/
set_option linter.unusedVariables false
set_option linter.unusedSimpArgs false
namespace Go.Dp
section
variable {P : Program} {E : Env} {w w' : World} {Im Im' : Nat → Prop} {ρ ρ' : Nat → Option Value} {o o' : List AObj} {K : Kt} {r : List SV × List (List CV)}

theorem okC_one {c : CV} {y : Value} (hs : SR w Im ρ o) (hy : RC w Im ρ o c y) (h : okC o c = true) (hp : ∀ v, c ≠ .p v) : y.oneCell' = true ∧ y.cells = #[y] := by
  have key : y.oneCell' = true := by
    cases c with
    | undef => cases h
    | p v => exact absurd rfl (hp v)
    | loc id ver sh lo len =>
      obtain ⟨e, fz, xs, ho⟩ := cur_some h
      simp only [RC, ho] at hy
      obtain ⟨_, v, hρ, hsl⟩ := hy.2 trivial trivial
      obtain ⟨vals, hown, _⟩ := hs.ob id _ _ ho hρ
      rcases hown.2 with ⟨hm, _⟩ | ⟨g, cap, cu, hm, _⟩ <;> rw [hm] at hsl
      · obtain ⟨_, _, rfl⟩ := hsl; rfl
      · obtain ⟨_, rfl, _⟩ := hsl; rfl
    | bptr id off =>
      obtain ⟨cs, ho⟩ := isBox_some h
      simp only [RC, RB, ho] at hy
      obtain ⟨b, _, rfl⟩ := hy
      rfl
    | aptr id ver sh i off =>
      obtain ⟨e, fz, xs, ho⟩ := cur_some h
      simp only [RC, ho] at hy
      obtain ⟨_, g, n, cap, _, _, _, rfl⟩ := hy.2 trivial trivial
      rfl
    | eptr v sh off => obtain ⟨b, base, rfl, _⟩ := hy; rfl
    | fn f caps => obtain ⟨vs, rfl, _⟩ := hy; rfl
    | own e sh xs => exact hy.elim
    | nel id ver nv i => cases h
  refine ⟨key, ?_⟩
  cases y <;> simp_all [Value.oneCell', Value.cells]
theorem cellsK_sound {α : Type} {K : List CV → Option α} {r : α} {sh : Nat} {v : SV} {y : Value} (hs : SR w Im ρ o) (h : cellsK o sh v K = some r) (hy : RS w Im ρ o v y) :
    ∃ cs, K cs = some r ∧ cs.length = csz sh ∧ y.cells.size = cs.length ∧ (∀ (i : Nat) (c : CV) (z : Value), cs[i]? = some c → y.cells[i]? = some z → RC w Im ρ o c z) ∧ ∀ (i : Nat) (z : Value), y.cells[i]? = some z → z.oneCell' = true := by
  unfold cellsK at h
  split at h
  · rename_i cs
    obtain ⟨hc, hk⟩ := bif_some h
    simp only [Bool.and_eq_true, beq_iff_eq, bne_iff_ne] at hc
    obtain ⟨vs, rfl, hl, hh, h1⟩ := hy
    exact ⟨cs, hk, by rw [← hc.1]; simp [csz, hc.2], by simpa [Value.cells] using hl, fun i c z a b => hh i c z a (by simpa [Value.cells] using b), fun i z b => h1 i z (by simpa [Value.cells] using b)⟩
  · rename_i c
    split at h
    · rename_i v
      obtain ⟨hc, hk⟩ := bif_some h
      have hy' : RP w Im v y := hy
      have hcs := hy'.cells
      cases sh with
      | zero =>
        have h1 : v.one = true := by simpa [PV.shp] using hc
        have h2 := hy'.one h1
        refine ⟨[.p v], hk, rfl, by rw [h2.2]; rfl, ?_, ?_⟩
        · intro i c z a b
          rw [h2.2] at b
          cases i with
          | zero => simp at a b; subst a; subst b; exact hy'
          | succ i => simp at a
        · intro i z b
          rw [h2.2] at b
          cases i with
          | zero => simp at b; subst b; exact h2.1
          | succ i => simp at b
      | succ n =>
        cases v with
        | agg ps =>
          have hc' := hc
          simp only [PV.shp, Bool.and_eq_true, beq_iff_eq] at hc'
          have hps : (List.range (n + 1)).map (fun i => CV.p (((PV.agg ps).cell i).getD (.bool false))) = ps.map .p := by
            apply List.ext_getElem
            · simp [hc'.1]
            · intro i h1 h2
              simp at h1 h2
              simp [PV.cell, PV.cells, h2]
          replace hk : K ((List.range (n + 1)).map fun i => CV.p (((PV.agg ps).cell i).getD (.bool false))) = some r := hk
          rw [hps] at hk
          cases hy' with
          | agg _ vs hl ho hh =>
            refine ⟨_, hk, by simp [hc'.1, csz], by simpa [Value.cells] using hl, ?_, ?_⟩
            · intro i c z a b
              simp at a
              obtain ⟨q, hq, rfl⟩ := a
              exact hh i q z hq (by simpa [Value.cells] using b)
            · intro i z b
              have b' : vs[i]? = some z := by simpa [Value.cells] using b
              have hi : i < ps.length := by rw [← hl]; exact (Array.getElem?_eq_some_iff.1 b').1
              exact ((hh i ps[i] z (by simp [hi]) b').one (ho i _ (by simp [hi]))).1
        | _ => simp [PV.shp] at hc
    · rename_i hp
      obtain ⟨hc, hk⟩ := bif_some h
      simp only [Bool.and_eq_true, beq_iff_eq] at hc
      obtain ⟨rfl, hok⟩ := hc
      have h2 := okC_one hs hy hok hp
      refine ⟨[_], hk, rfl, by rw [h2.2]; rfl, ?_, ?_⟩
      · intro i c' z a b
        rw [h2.2] at b
        cases i with
        | zero => simp at a b; subst a; subst b; exact hy
        | succ i => simp at a
      · intro i z b
        rw [h2.2] at b
        cases i with
        | zero => simp at b; subst b; exact h2.1
        | succ i => simp at b

theorem push_old (h : Array Obj) (x : Obj) (b : Nat) (hb : b < h.size) : (h.push x)[b]? = h[b]? := by
  rw [Array.getElem?_push]; simp; omega
theorem push_new (h : Array Obj) (x : Obj) : (h.push x)[h.size]? = some x := by simp
/-- A new variable. -/
theorem newBox_sound (hs : SR w Im ρ o) {T : TypeId} {y : Value} {cs : List CV} (hk : K (.s (.c (.bptr o.length 0))) (o ++ [.box cs]) = some r) (hl : y.cells.size = cs.length)
    (hr : ∀ (i : Nat) (c : CV) (z : Value), cs[i]? = some c → y.cells[i]? = some z → RC w Im ρ o c z) (h1 : ∀ (i : Nat) (z : Value), y.cells[i]? = some z → z.oneCell' = true) {s : Sem Value}
    (hrun : s.run P w = .ok (.pointer (some ⟨w.heap.size, 0, none⟩)) { w with heap := w.heap.push (.cells y.cells T) }) : Did P w Im ρ o K r s := by
  have hnb : ¬ Im w.heap.size := fun h => by have := hs.im _ h; omega
  have hro : RO { w with heap := w.heap.push (.cells y.cells T) } Im (upd ρ o.length (some (.pointer (some ⟨w.heap.size, 0, none⟩)))) (o ++ [.box cs]) (.pointer (some ⟨w.heap.size, 0, none⟩)) (.box cs) :=
    ⟨w.heap.size, y.cells, T, rfl, push_new _ _, hl, fun i c z a b => RC.compat (fun b hb => ⟨hb, push_old _ _ _ (hs.im b hb)⟩) (compat_new hs _ _) (hr i c z a b), h1, hnb⟩
  have hst := Step.new (w' := { w with heap := w.heap.push (.cells y.cells T) }) hs ⟨rfl, rfl, rfl, by simp⟩ (fun b hb => push_old _ _ _ hb) (x := .box cs) (by simp) (fun b hb => by simp at hb; subst hb; simp) hro
  refine ⟨_, _, _, _, Im, _, hk, hrun, hst, ?_⟩
  simp only [RA, RS, RC, RB]
  simp
  exact upd_same
theorem opAlloc_sound (hE : EnvOK P E) (hs : SR w Im ρ o) {T : TypeId} (h : opAlloc E T o K = some r) : Did P w Im ρ o K r (Instr.alloc T true (.tuple #[])) := by
  obtain ⟨zs, hz, hk⟩ := bind_some h
  obtain ⟨i, z, sh, hi, hiz, hl, _, _, hone, hrp⟩ := hE.zr T zs hz
  have hrp' : ∀ (i : Nat) (c : CV) (y : Value), (zs.map CV.p)[i]? = some c → z.cells[i]? = some y → RC w Im ρ o c y := by
    intro i c y a b
    simp at a
    obtain ⟨q, hq, rfl⟩ := a
    exact hrp i q y hq b w Im
  refine newBox_sound (y := z) (T := T) hs hk (by simpa using hl) hrp' ?_ ?_
  · intro i y b
    have hi' : i < zs.length := by rw [← hl]; exact (Array.getElem?_eq_some_iff.1 b).1
    exact ((hrp i zs[i] y (by simp [hi']) b w Im).one (hone _ (List.getElem_mem hi'))).1
  · simp [Instr.alloc, zeroValue, typeInfo, hi, hiz, newVar, newRow]
theorem opBox_sound (hE : EnvOK P E) (hs : SR w Im ρ o) {T : TypeId} {a : AV} {x : Value} (ha : RA w Im ρ o a x) (h : opBox E T a o K = some r) : Did P w Im ρ o K r (Instr.box T x) := by
  unfold opBox at h
  split at h
  · rename_i v sh hv hT
    rw [sv_some hv] at ha
    obtain ⟨cs, hk, hl, hl2, hr, h1⟩ := cellsK_sound hs h ha
    exact newBox_sound (y := x) (T := T) hs hk hl2 hr h1 (by simp [Instr.box, newVar, newRow])
  · cases h
end
end Go.Dp

/- Stores, structs and slices that are built. -/
set_option linter.unusedVariables false
set_option linter.unusedSimpArgs false
namespace Go.Dp
section
variable {P : Program} {E : Env} {w w' : World} {Im Im' : Nat → Prop} {ρ ρ' : Nat → Option Value} {o o' : List AObj} {K : Kt} {r : List SV × List (List CV)}

theorem get_splice {α : Type} (l ns : List α) (k p : Nat) (h : k + ns.length ≤ l.length) :
    (l.take k ++ ns ++ l.drop (k + ns.length))[p]? = if p < k then l[p]? else if p < k + ns.length then ns[p - k]? else l[p]? := by
  have h1 : (l.take k).length = k := by simp; omega
  by_cases h2 : p < k
  · rw [if_pos h2, List.append_assoc, List.getElem?_append_left (by omega), List.getElem?_take_of_lt h2]
  · rw [if_neg h2]
    by_cases h3 : p < k + ns.length
    · rw [if_pos h3, List.append_assoc, List.getElem?_append_right (by omega), h1, List.getElem?_append_left (by omega)]
    · rw [if_neg h3, List.append_assoc, List.getElem?_append_right (by omega), h1, List.getElem?_append_right (by omega), List.getElem?_drop]
      congr 1
      omega
theorem len_splice {α : Type} (l ns : List α) (k : Nat) (h : k + ns.length ≤ l.length) : (l.take k ++ ns ++ l.drop (k + ns.length)).length = l.length := by simp; omega
theorem splice_some {cs ns cs' : List CV} {off : Nat} (h : splice cs off ns = some cs') : off + ns.length ≤ cs.length ∧ cs' = cs.take off ++ ns ++ cs.drop (off + ns.length) := by
  unfold splice at h
  obtain ⟨hc, h⟩ := bif_some h
  injection h with h
  exact ⟨of_decide_eq_true hc, h.symm⟩
theorem setRow_world (w : World) (g : Nat) (cs : Array Value) : Wd w (w.setRow g cs) := ⟨rfl, rfl, rfl, by simp [World.setRow]⟩
theorem setRow_size (w : World) (g : Nat) (cs : Array Value) : (w.setRow g cs).heap.size = w.heap.size := by simp [World.setRow]
theorem run_storeVar (hE : EnvOK P E) {T : TypeId} {sh : Nat} (hT : E.sh T = some sh) {g off : Nat} {e : TypeId} {cur : Array Value} {y : Value} (hg : w.heap[g]? = some (.cells cur e (0, 0))) (hy : y.cells.size = csz sh) (hf : off + csz sh ≤ cur.size)
    (h1 : ∀ (i : Nat) (z : Value), y.cells[i]? = some z → z.oneCell' = true) :
    (storeVar T ⟨g, off, none⟩ y).run P w = .ok () (w.setRow g (cur.toList.take off ++ y.cells.toList ++ cur.toList.drop (off + y.cells.toList.length)).toArray) := by
  have := run_storeCells_at P g off e y.cells.toList 0 cur w hg (by simp; omega) (fun v hv => by
    obtain ⟨i, hi, rfl⟩ := List.getElem_of_mem hv
    exact h1 i _ (by simp at hi; simp [hi]))
  simp only [Nat.add_zero] at this
  simp [storeVar, run_size hE hT, hy, this]

theorem take_splice {α : Type} (l ns : List α) (k m : Nat) (h : k + ns.length ≤ m) (hm : m ≤ l.length) :
    (l.take k ++ ns ++ l.drop (k + ns.length)).take m = (l.take m).take k ++ ns ++ (l.take m).drop (k + ns.length) := by
  apply List.ext_getElem?
  intro p
  have hl : (l.take m).length = m := by simp; omega
  rw [get_splice _ _ _ _ (by omega)]
  by_cases hp : p < m
  · rw [List.getElem?_take_of_lt hp, get_splice _ _ _ _ (by omega), List.getElem?_take_of_lt hp]
  · rw [List.getElem?_eq_none (by simp; omega), if_neg (by omega), if_neg (by omega), List.getElem?_eq_none (by omega)]
/-- A part of an element written: the elements as they then are. -/
theorem putPart_some {y v z : PV} {vsh off sh : Nat} (h : putPart y vsh off v sh = some z) (hy : y.shp vsh = true) (hv : v.shp sh = true) :
    z.shp vsh = true ∧ off + csz sh ≤ csz vsh ∧ ∀ (j : Nat) (c : PV), z.cells[j]? = some c → (off ≤ j ∧ j < off + csz sh ∧ v.cells[j - off]? = some c) ∨ ((j < off ∨ off + csz sh ≤ j) ∧ y.cells[j]? = some c) := by
  unfold putPart at h
  cases h0 : (off == 0 && vsh == sh) <;> rw [h0] at h <;> simp only [cond_true, cond_false] at h
  · cases sh with
    | succ n => cases h
    | zero =>
      obtain ⟨hc, h⟩ := bif_some h
      injection h with h
      subst h
      simp only [Bool.and_eq_true, decide_eq_true_eq, bne_iff_ne] at hc
      cases vsh with
      | zero => simp at hc
      | succ m =>
        cases y with
        | agg cs =>
          simp only [PV.shp, Bool.and_eq_true, beq_iff_eq, List.all_eq_true] at hy
          have e0 : ∀ l : List PV, (PV.agg l).cells = l := fun _ => rfl
          simp only [e0] at hc ⊢
          have hv1 : v.one = true := hc.2
          refine ⟨?_, by simp [csz]; omega, ?_⟩
          · simp only [PV.shp, Bool.and_eq_true, beq_iff_eq, List.all_eq_true, List.length_set]
            refine ⟨hy.1, fun q hq => ?_⟩
            rcases List.mem_or_eq_of_mem_set hq with h1 | h1
            · exact hy.2 q h1
            · rw [h1]; exact hv1
          · intro j c hj
            by_cases e : j = off
            · subst e
              left
              rw [List.getElem?_set_self hc.1.1] at hj
              injection hj with hj
              subst hj
              exact ⟨Nat.le_refl _, by simp [csz], by rw [PV.cells_of_one hv1]; simp⟩
            · right
              rw [List.getElem?_set_ne (Ne.symm e)] at hj
              exact ⟨by simp [csz]; omega, hj⟩
        | _ => simp [PV.shp] at hy
  · injection h with h
    subst h
    simp only [Bool.and_eq_true, beq_iff_eq] at h0
    obtain ⟨rfl, rfl⟩ := h0
    refine ⟨hv, by omega, fun j c hj => .inl ⟨Nat.zero_le _, ?_, by simpa using hj⟩⟩
    rw [Nat.zero_add, ← PV.shp_len hv]
    exact (List.getElem?_eq_some_iff.1 hj).1
theorem opStore_sound (hE : EnvOK P E) (hs : SR w Im ρ o) {T : TypeId} {a b : AV} {x y : Value} (ha : RA w Im ρ o a x) (hb : RA w Im ρ o b y) (h : opStore E T a b o K = some r) : Did P w Im ρ o K r (do Instr.storeAt T x y; pure undef) := by
  unfold opStore at h
  split at h
  · rename_i id off sh v hc hT hv
    rw [cv_some hc] at ha
    rw [sv_some hv] at hb
    split at h
    · rename_i cs ho
      obtain ⟨ns, h, hnl, hyl, hyr, hy1⟩ := cellsK_sound hs h hb
      obtain ⟨cs', hcs, hk⟩ := bind_some h
      obtain ⟨hle, rfl⟩ := splice_some hcs
      simp only [RA, RS, RC, RB, ho] at ha
      obtain ⟨g, hρ, rfl⟩ := ha
      obtain ⟨g', vs, e, hg, hh, hl, hrc, h1, hni⟩ := hs.ob id _ _ ho hρ
      obtain rfl : g = g' := by simpa using hg
      have hlt := (Array.getElem?_eq_some_iff.1 hh).1
      have hrun := run_storeVar hE hT (off := off) hh (by omega) (by omega) hy1
      obtain ⟨NV, hNV⟩ : ∃ NV, NV = (vs.toList.take off ++ y.cells.toList ++ vs.toList.drop (off + y.cells.toList.length)).toArray := ⟨_, rfl⟩
      rw [← hNV] at hrun
      have hid : upd ρ id (some (.pointer (some ⟨g, 0, none⟩))) = ρ := by funext i; unfold upd; split <;> simp_all
      have hst := Step.turn (w' := w.setRow g NV) (x' := .box (cs.take off ++ ns ++ cs.drop (off + ns.length))) (v' := .pointer (some ⟨g, 0, none⟩)) hs (setRow_world w g NV) ho hρ (by simp) rfl
        (fun b hb hne => setRow_other w g b NV (fun e => hne (by rw [e]; rfl))) (fun b hb => by simp at hb; subst hb; exact hni) (fun b hb => .inl hb) (fun b hb => by simp at hb; subst hb; rw [setRow_size]; exact hlt) ?_
      · exact ⟨_, _, undef, _, Im, _, hk, by simp [Instr.storeAt, Instr.sureAddr, hrun], hst, trivial⟩
      · have hcomp : Compat ρ (upd ρ id (some (.pointer (some ⟨g, 0, none⟩)))) o (o.set id (.box (cs.take off ++ ns ++ cs.drop (off + ns.length)))) := by
          intro i q hq
          by_cases e1 : i = id
          · subst e1
            rw [ho] at hq
            injection hq with hq
            subst hq
            exact ⟨_, by rw [List.getElem?_set_self (List.getElem?_eq_some_iff.1 ho).1], by rw [hid]; rfl⟩
          · exact ⟨q, by rw [List.getElem?_set_ne (Ne.symm e1)]; exact hq, by rw [hid]; cases q <;> simp [CompatO]⟩
        have him : ∀ b, Im b → Im b ∧ (w.setRow g NV).heap[b]? = w.heap[b]? := fun b hb => ⟨hb, setRow_other w g b NV (fun e => hni (e ▸ hb))⟩
        have hsz : off + y.cells.toList.length ≤ vs.toList.length := by simp; omega
        have hyn : y.cells.toList.length = ns.length := by simp; omega
        refine ⟨g, NV, e, rfl, setRow_heap w g vs NV e _ hh, ?_, ?_, ?_, hni⟩
        · rw [len_splice _ _ _ hle, hNV, List.size_toArray, len_splice _ _ _ hsz, Array.length_toList, hl]
        · intro i c z hc hz
          rw [hNV, List.getElem?_toArray, get_splice _ _ _ _ hsz] at hz
          rw [get_splice _ _ _ _ hle] at hc
          rw [hyn] at hz
          split at hc
          · rename_i h2
            rw [if_pos h2] at hz
            exact RC.compat him hcomp (hrc i c z hc (by simpa using hz))
          · rename_i h2
            rw [if_neg h2] at hz
            split at hc
            · rename_i h3
              rw [if_pos h3] at hz
              exact RC.compat him hcomp (hyr _ c z hc (by simpa using hz))
            · rename_i h3
              rw [if_neg h3] at hz
              exact RC.compat him hcomp (hrc i c z hc (by simpa using hz))
        · intro i z hz
          rw [hNV, List.getElem?_toArray, get_splice _ _ _ _ hsz] at hz
          split at hz
          · exact h1 i z (by simpa using hz)
          · split at hz
            · exact hy1 _ z (by simpa using hz)
            · exact h1 i z (by simpa using hz)
    · cases h
  · rename_i id ver vsh i off sh sv hc hT hv
    rw [cv_some hc] at ha
    rw [sv_some hv] at hb
    obtain ⟨⟨v, o1⟩, hfz, h⟩ := bind_some h
    obtain ⟨Im1, hst1, hrv⟩ := freezeS_sound hs hb hfz
    have ha1 := hst1.keepA _ _ ha
    have hs1 := hst1.sr
    simp only at h
    split at h
    · rename_i e sh' ver' xs ho
      obtain ⟨hcnd, h⟩ := bif_some h
      obtain ⟨z0, hz0, h⟩ := bind_some h
      obtain ⟨z, hz, hk⟩ := bind_some h
      simp only [Bool.and_eq_true, beq_iff_eq] at hcnd
      obtain ⟨⟨⟨rfl, rfl⟩, hvs⟩, hstay⟩ := hcnd
      simp only [RA, RS, RC, ho] at ha1
      obtain ⟨hi, g, n, cap, v0, hρ, hmv, rfl⟩ := ha1.2 trivial trivial
      obtain ⟨vals, hown, hshp, hrp, hbk, hkids⟩ := hs1.ob id _ _ ho hρ
      have hgv : Blk v0 g := main_Blk (by rw [hmv]; rfl)
      have hniv : ∀ b, Blk v0 b → ¬ Im1 b := fun b hb => (hbk b hb).1 rfl
      have hni : ¬ Im1 g := hniv g hgv
      rcases hown.2 with ⟨hbad, _⟩ | ⟨g', cap', cu, heq, _, hh, hnc, hcm, hcs, htk⟩
      · rw [hmv] at hbad; cases hbad
      rw [hmv] at heq
      injection heq with e1 e2 e3
      injection e1 with e1
      injection e1 with e1
      subst e1
      subst e2
      subst e3
      have hlt := (Array.getElem?_eq_some_iff.1 hh).1
      have hz0s := hshp z0 (List.mem_of_getElem? hz0)
      obtain ⟨hzs, hoff, hzc⟩ := putPart_some hz hz0s hvs
      have hyc := hrv.cells
      have hyl : y.cells.size = csz sh := by rw [hyc.1, PV.shp_len hvs]
      have hy1 : ∀ (i : Nat) (z : Value), y.cells[i]? = some z → z.oneCell' = true := by
        intro i z hz
        have hil : i < v.cells.length := by rw [← hyc.1]; exact (Array.getElem?_eq_some_iff.1 hz).1
        exact ((hyc.2 i v.cells[i] z (by simp [hil]) hz).one (PV.shp_one hvs i _ (by simp [hil]))).1
      have hmul : (i + 1) * csz vsh ≤ xs.length * csz vsh := Nat.mul_le_mul_right _ hi
      have hmul2 : xs.length * csz vsh ≤ cap * csz vsh := Nat.mul_le_mul_right _ hnc
      rw [Nat.add_mul] at hmul
      have hrun := run_storeVar hE hT (off := i * csz vsh + off) hh hyl (by omega) hy1
      have hyn : y.cells.toList.length = csz sh := by simp [hyl]
      obtain ⟨NV, hNV⟩ : ∃ NV, NV = (cu.toList.take (i * csz vsh + off) ++ y.cells.toList ++ cu.toList.drop (i * csz vsh + off + y.cells.toList.length)).toArray := ⟨_, rfl⟩
      rw [← hNV] at hrun
      have hcul : xs.length * csz vsh ≤ cu.toList.length := by simp; omega
      have hspl : i * csz vsh + off + y.cells.toList.length ≤ xs.length * csz vsh := by omega
      have hid : upd ρ id (some v0) = ρ := by funext i; unfold upd; split <;> simp_all
      have hcomp : Compat ρ (upd ρ id (some v0)) o1 (o1.set id (.arr e vsh ver false (xs.set i z))) := by
        intro q a hq
        by_cases e1 : q = id
        · subst e1
          rw [ho] at hq
          injection hq with hq
          subst hq
          exact ⟨_, by rw [List.getElem?_set_self (List.getElem?_eq_some_iff.1 ho).1], by rw [hid]; exact Or.inr ⟨rfl, rfl, by simp, rfl, KdC_refl' _ rfl⟩⟩
        · exact ⟨a, by rw [List.getElem?_set_ne (Ne.symm e1)]; exact hq, by rw [hid]; cases a <;> simp [CompatO]⟩
      have him : ∀ b, Im1 b → Im1 b ∧ (w.setRow g NV).heap[b]? = w.heap[b]? := fun b hb => ⟨hb, setRow_other w g b NV (fun e => hni (e ▸ hb))⟩
      have hst := Step.turn (w' := w.setRow g NV) (x' := .arr e vsh ver false (xs.set i z)) (v' := v0) hs1 (setRow_world w g NV) ho hρ (by simp) (Or.inr ⟨rfl, rfl, by simp, rfl, KdC_refl' _ rfl⟩)
        (fun b hb hne => setRow_other w g b NV (fun e => hne (by rw [e]; exact hgv))) hniv (fun b hb => .inl hb) (fun b hb => by rw [setRow_size]; exact (hs1.lt id v0 hρ).2 b hb) ?_
      · exact ⟨_, _, undef, _, Im1, _, hk, by simp [Instr.storeAt, Instr.sureAddr, hrun], hst1.trans hst, trivial⟩
      · refine ⟨vals.take (i * csz vsh + off) ++ y.cells.toList ++ vals.drop (i * csz vsh + off + y.cells.toList.length), ⟨?_, .inr ⟨g, cap, NV, by rw [hmv]; simp, Nat.zero_le _, setRow_heap w g cu NV e.t _ hh, by simpa using hnc, hcm, ?_, ?_⟩⟩, ?_, ?_, ?_, ?_⟩
        · rw [len_splice _ _ _ (by rw [hown.1]; exact hspl), hown.1]; simp
        · rw [hNV, List.size_toArray, len_splice _ _ _ (by omega)]; simpa using hcs
        · rw [hNV]
          simp only [List.length_set]
          rw [take_splice _ _ _ _ hspl hcul, htk]
        · intro q hq
          rcases List.mem_or_eq_of_mem_set hq with h1 | h1
          · exact hshp q h1
          · rw [h1]; exact hzs
        · intro i' x' j c u hx' hj hu
          rw [get_splice _ _ _ _ (by rw [hown.1]; exact hspl)] at hu
          rw [hyn] at hu
          by_cases e1 : i' = i
          · subst e1
            rw [List.getElem?_set_self hi] at hx'
            injection hx' with hx'
            subst hx'
            rcases hzc j c hj with ⟨h1, h2, h3⟩ | ⟨h1, h3⟩
            · rw [if_neg (by omega), if_pos (by omega)] at hu
              have e2 : i' * csz vsh + j - (i' * csz vsh + off) = j - off := by omega
              rw [e2] at hu
              have hrpu := RP.mono him (hyc.2 _ c u h3 (by simpa using hu))
              unfold RPk
              split
              · exact hrpu
              · exact fun _ => hrpu
            · have hu' : vals[i' * csz vsh + j]? = some u := by
                rcases h1 with h1 | h1
                · rwa [if_pos (by omega)] at hu
                · rwa [if_neg (by omega), if_neg (by omega)] at hu
              exact (hrp i' z0 j c u hz0 h3 hu').keep him
          · rw [List.getElem?_set_ne (Ne.symm e1)] at hx'
            have hjl : j < csz vsh := by rw [← PV.shp_len (hshp x' (List.mem_of_getElem? hx'))]; exact (List.getElem?_eq_some_iff.1 hj).1
            have hu' : vals[i' * csz vsh + j]? = some u := by
              rcases Nat.lt_or_gt_of_ne e1 with h1 | h1
              · have : (i' + 1) * csz vsh ≤ i * csz vsh := Nat.mul_le_mul_right _ h1
                rw [Nat.add_mul] at this
                rwa [if_pos (by omega)] at hu
              · have : (i + 1) * csz vsh ≤ i' * csz vsh := Nat.mul_le_mul_right _ h1
                rw [Nat.add_mul] at this
                rwa [if_neg (by omega), if_neg (by omega)] at hu
            exact (hrp i' x' j c u hx' hj hu').keep him
        · intro b hb
          exact ⟨fun _ => hniv b hb, fun hf => nomatch hf⟩
        · unfold RKids
          split
          · rename_i hk
            simp only [RKids, hk] at hkids
            exact fun _ => hkids trivial
          · rename_i k hk
            simp only [RKids, hk] at hkids
            obtain ⟨_, ks, hv0, hks, hdis⟩ := hkids
            simp only [stays, hk, Bool.and_eq_true, beq_iff_eq, bne_iff_ne] at hstay
            obtain ⟨rfl, hoffj⟩ := hstay
            have hkh : ∀ (q : Nat) (u : Value) (b : Nat), ks[q]? = some u → kidBlk u b → (w.setRow g NV).heap[b]? = w.heap[b]? := fun q u b h1 h2 => setRow_other w g b NV (fun e => hdis q u b h1 h2 (by rw [e, hmv]; rfl))
            refine ⟨rfl, ks, hv0, ?_, hdis⟩
            refine ⟨by simpa using hks.len, hks.jlt, fun q x hx hh0 => ?_, hks.out, hks.inj, ?_⟩
            · have key : ∃ x0, xs[q]? = some x0 ∧ x0.cells[k.j]? = x.cells[k.j]? := by
                by_cases e1 : q = i
                · subst e1
                  rw [List.getElem?_set_self hi] at hx
                  injection hx with hx
                  subst hx
                  refine ⟨z0, hz0, ?_⟩
                  have hzl := PV.shp_len hzs
                  have hz0l := PV.shp_len hz0s
                  have hkj := hks.jlt
                  have hc1 : z.cells[k.j]? = some z.cells[k.j] := by simp [hzl, hkj]
                  rcases hzc k.j _ hc1 with ⟨h1, h2, _⟩ | ⟨_, h3⟩
                  · simp [csz] at h2; omega
                  · rw [h3, hc1]
                · rw [List.getElem?_set_ne (Ne.symm e1)] at hx
                  exact ⟨x, hx, rfl⟩
              obtain ⟨x0, hx0, hxc⟩ := key
              obtain ⟨f, ys, u, b1, b2, b3, b4, b5⟩ := hks.kid q x0 hx0 hh0
              refine ⟨f, ys, u, hxc ▸ b1, b2, b3, ?_, b5.keep him fun b hb => hkh q u b b3 hb⟩
              rw [get_splice _ _ _ _ (by rw [hown.1]; exact hspl), hyn]
              have hkj := hks.jlt
              have c0 : csz 0 = 1 := rfl
              have hne : q * csz vsh + k.j ≠ i * csz vsh + off := by
                rcases Nat.lt_trichotomy q i with h3 | h3 | h3
                · have : (q + 1) * csz vsh ≤ i * csz vsh := Nat.mul_le_mul_right _ h3
                  rw [Nat.add_mul] at this
                  omega
                · subst h3; omega
                · have : (i + 1) * csz vsh ≤ q * csz vsh := Nat.mul_le_mul_right _ h3
                  rw [Nat.add_mul] at this
                  omega
              split
              · exact b4
              · rw [if_neg (by omega)]; exact b4
            · intro q y hy
              rw [get_splice _ _ _ _ (by rw [hown.1]; exact hspl)] at hy
              split at hy
              · exact hks.one q y hy
              · split at hy
                · exact hy1 _ y (by simpa using hy)
                · exact hks.one q y hy
    · cases h
  · cases h
end
end Go.Dp

/- Structs and slices that are built; append. -/
set_option linter.unusedVariables false
set_option linter.unusedSimpArgs false
namespace Go.Dp
section
variable {P : Program} {E : Env} {w w' : World} {Im Im' : Nat → Prop} {ρ ρ' : Nat → Option Value} {o o' : List AObj} {K : Kt} {r : List SV × List (List CV)}

theorem fold_set (off : Nat) : ∀ (l : List Value) (k : Nat) (arr : Array Value), ((l.zipIdx k).foldl (fun cs (c, j) => cs.setIfInBounds (off + j) c) arr).size = arr.size ∧
    ∀ p, ((l.zipIdx k).foldl (fun cs (c, j) => cs.setIfInBounds (off + j) c) arr)[p]? = if off + k ≤ p ∧ p < off + k + l.length ∧ p < arr.size then l[p - (off + k)]? else arr[p]?
  | [], k, arr => ⟨rfl, fun p => by rw [if_neg (by simp; omega)]; rfl⟩
  | v :: l, k, arr => by
    have ih := fold_set off l (k + 1) (arr.setIfInBounds (off + k) v)
    refine ⟨by simpa using ih.1, fun p => ?_⟩
    simp only [List.zipIdx_cons, List.foldl_cons]
    rw [ih.2 p]
    simp only [Array.size_setIfInBounds, List.length_cons]
    by_cases h1 : p = off + k
    · subst h1
      rw [if_neg (by omega)]
      by_cases h2 : off + k < arr.size
      · rw [if_pos (by omega)]; simp [h2]
      · rw [if_neg (by omega)]; simp [h2]
    · rw [Array.getElem?_setIfInBounds_ne (Ne.symm h1)]
      by_cases h2 : off + (k + 1) ≤ p ∧ p < off + (k + 1) + l.length ∧ p < arr.size
      · rw [if_pos h2, if_pos (by omega), show p - (off + k) = p - (off + (k + 1)) + 1 by omega, List.getElem?_cons_succ]
      · rw [if_neg h2, if_neg (by omega)]
theorem mapO_get {α β : Type} {f : α → Option β} : ∀ {l : List α} {r : List β}, l.mapM f = some r → ∀ (i : Nat) (a : α), l[i]? = some a → ∃ b, r[i]? = some b ∧ f a = some b
  | [], r, h, i, a, ha => by simp at ha
  | x :: l, r, h, i, a, ha => by
    simp only [List.mapM_cons, Option.bind_eq_bind, Option.pure_def, Option.bind_eq_some_iff] at h
    obtain ⟨b, hb, bs, hbs, hr⟩ := h
    injection hr with hr
    subst hr
    cases i with
    | zero => simp at ha; subst ha; exact ⟨b, rfl, hb⟩
    | succ i => exact mapO_get hbs i a (by simpa using ha)
theorem mapO_all {α β : Type} {f : α → Option β} : ∀ {l : List α}, (∀ x ∈ l, ∃ y, f x = some y) → ∃ r, l.mapM f = some r
  | [], _ => ⟨[], rfl⟩
  | x :: l, h => by
    obtain ⟨y, hy⟩ := h x (by simp)
    obtain ⟨r, hr⟩ := mapO_all (l := l) fun z hz => h z (by simp [hz])
    exact ⟨y :: r, by simp [hy, hr]⟩
/-- Cells and what they stand for. -/
def Cells (w : World) (Im : Nat → Prop) (ρ : Nat → Option Value) (o : List AObj) (cs : List CV) (vs : Array Value) : Prop :=
  vs.size = cs.length ∧ (∀ (i : Nat) (c : CV) (y : Value), cs[i]? = some c → vs[i]? = some y → RC w Im ρ o c y) ∧ ∀ (i : Nat) (y : Value), vs[i]? = some y → y.oneCell' = true
theorem buildIn_sound (hE : EnvOK P E) (hs : SR w Im ρ o) {T : TypeId} {t : List AV} {ev : Operand → Value} {fs : Array Field} {places : List (Nat × Nat)} (hu : P.underlying T = some (.struct fs))
    (hp : fs.toList.mapM (fun f => (P.info? f.type).map fun i => (f.offset, i.size)) = some places) {K : List CV → R} : ∀ {ps : List (Nat × Operand)} {cs : List CV} {vs : Array Value}, (∀ q ∈ ps, RA w Im ρ o (aval t q.2) (ev q.2)) → Cells w Im ρ o cs vs → buildIn E T t o ps cs K = some r →
    ∃ cs' vs', K cs' = some r ∧ Instr.fill (places.toArray[·]?) vs (ps.map fun q => (q.1, ev q.2)) = some vs' ∧ Cells w Im ρ o cs' vs' := by
  intro ps
  induction ps with
  | nil => intro cs vs _ hc h; exact ⟨cs, vs, h, rfl, hc⟩
  | cons q ps ih =>
    intro cs vs hra hc h
    obtain ⟨i, x⟩ := q
    simp only [buildIn] at h
    split at h
    · rename_i off sh v hfl hsv
      have hx : RA w Im ρ o (aval t x) (ev x) := hra (i, x) (by simp)
      rw [sv_some hsv] at hx
      obtain ⟨ns, h, hnl, hyl, hyr, hy1⟩ := cellsK_sound hs h hx
      obtain ⟨cs', hcs, h⟩ := bind_some h
      obtain ⟨hle, rfl⟩ := splice_some hcs
      obtain ⟨fs', fd, inf, hu', hfd, hoff, hinf, hsz⟩ := hE.fl T i off sh hfl
      rw [hu] at hu'
      injection hu' with hu'
      injection hu' with hu'
      subst hu'
      obtain ⟨pl, hpl, hpe⟩ := mapO_get hp i fd (by simpa using hfd)
      simp only [hinf, Option.map_some, Option.some.injEq] at hpe
      subst hpe
      obtain ⟨NV, hNV⟩ : ∃ NV, NV = (ev x).cells.zipIdx.foldl (fun cs (c, j) => cs.setIfInBounds (off + j) c) vs := ⟨_, rfl⟩
      have hNV' : NV = ((ev x).cells.toList.zipIdx).foldl (fun cs (c, j) => cs.setIfInBounds (off + j) c) vs := by rw [hNV, ← Array.foldl_toList, Array.toList_zipIdx]
      have hfold := fold_set off (ev x).cells.toList 0 vs
      rw [← hNV'] at hfold
      have hcells : Cells w Im ρ o (cs.take off ++ ns ++ cs.drop (off + ns.length)) NV := by
        refine ⟨by rw [hfold.1, len_splice _ _ _ hle]; exact hc.1, ?_, ?_⟩
        · intro p c y hpc hpy
          rw [hfold.2 p] at hpy
          rw [get_splice _ _ _ _ hle] at hpc
          simp only [Nat.add_zero, Array.length_toList] at hpy
          have hvs := hc.1
          by_cases h2 : p < off
          · rw [if_pos h2] at hpc
            rw [if_neg (by omega)] at hpy
            exact hc.2.1 p c y hpc hpy
          · rw [if_neg h2] at hpc
            by_cases h3 : p < off + ns.length
            · rw [if_pos h3] at hpc
              rw [if_pos (by omega)] at hpy
              exact hyr _ c y hpc (by simpa using hpy)
            · rw [if_neg h3] at hpc
              rw [if_neg (by omega)] at hpy
              exact hc.2.1 p c y hpc hpy
        · intro p y hpy
          rw [hfold.2 p] at hpy
          split at hpy
          · exact hy1 _ y (by simpa using hpy)
          · exact hc.2.2 p y hpy
      obtain ⟨cs'', vs'', hk, hf, hcc⟩ := ih (fun q hq => hra q (by simp [hq])) hcells h
      refine ⟨cs'', vs'', hk, ?_, hcc⟩
      simp only [List.map_cons, Instr.fill, List.getElem?_toArray, hpl]
      have hsz' : (ev x).cells.size = inf.size := by omega
      have hcl := hc.1
      have hn : ¬ ((ev x).cells.size ≠ inf.size ∨ off + (ev x).cells.size > vs.size) := by omega
      rw [if_neg (by simpa [hoff] using hn), hoff, ← hNV]
      simpa only [List.getElem?_toArray] using hf
    · cases h
theorem opBuild_sound (hE : EnvOK P E) (hs : SR w Im ρ o) {T : TypeId} {t : List AV} {ev : Operand → Value} {ps : Array (Nat × Operand)} (hra : ∀ q ∈ ps.toList, RA w Im ρ o (aval t q.2) (ev q.2)) (h : opBuild E T t ps.toList o K = some r) :
    DidS P w Im ρ o K r (Instr.build T (ps.map fun (i, x) => (i, ev x))) := by
  unfold opBuild at h
  split at h
  · rename_i zs n hz hT
    obtain ⟨it, z, sh, hi, hiz, hl, _, _, hone, hrp⟩ := hE.zr T zs hz
    obtain ⟨fs, i2, hu, hi2, hsz, hinfo⟩ := hE.shn T n hT
    have hp : ∃ places, fs.toList.mapM (fun f => (P.info? f.type).map fun i => (f.offset, i.size)) = some places := by
      refine mapO_all fun f hf => ?_
      obtain ⟨j, hj⟩ := hinfo f hf
      exact ⟨_, by rw [hj]; rfl⟩
    obtain ⟨places, hp⟩ := hp
    have hc0 : Cells w Im ρ o (zs.map CV.p) z.cells := by
      refine ⟨by simpa using hl, ?_, ?_⟩
      · intro i c y a b
        simp at a
        obtain ⟨q, hq, rfl⟩ := a
        exact hrp i q y hq b w Im
      · intro i y b
        have hi' : i < zs.length := by rw [← hl]; exact (Array.getElem?_eq_some_iff.1 b).1
        exact ((hrp i zs[i] y (by simp [hi']) b w Im).one (hone _ (List.getElem_mem hi'))).1
    obtain ⟨cs', vs', hk, hf, hcc⟩ := buildIn_sound hE hs hu hp hra hc0 h
    refine DidS.same hk ?_ (mkAgg_sound hcc.1 hcc.2.1 hcc.2.2)
    refine run_build w T _ vs' ?_
    unfold Program.built
    simp only [hi, hu, hiz, hp]
    rw [← hf]
    simp
  · cases h
end
end Go.Dp

