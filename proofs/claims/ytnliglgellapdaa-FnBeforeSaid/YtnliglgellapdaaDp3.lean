/- Reading, and what only reckons with addresses. -/
import Derived.Test.YtnliglgellapdaaDp2
set_option linter.unusedVariables false
set_option linter.unusedSimpArgs false
namespace Go.Dp

/-- What is asked of an operation: the machine does it, and what the evaluator went on with stands for what it left. -/
def Did (P : Program) (w : World) (Im : Nat → Prop) (ρ : Nat → Option Value) (o : List AObj) (K : Kt) (r : List SV × List (List CV)) (s : Sem Value) : Prop :=
  ∃ v o' y w' Im' ρ', K v o' = some r ∧ s.run P w = .ok y w' ∧ Step w Im ρ o w' Im' ρ' o' ∧ RA w' Im' ρ' o' v y

section
variable {P : Program} {E : Env} {w : World} {Im : Nat → Prop} {ρ : Nat → Option Value} {o : List AObj} {K : Kt} {r : List SV × List (List CV)}

/-- An operation that leaves the world alone. -/
def DidS (P : Program) (w : World) (Im : Nat → Prop) (ρ : Nat → Option Value) (o : List AObj) (K : Kt) (r : List SV × List (List CV)) (s : Sem Value) : Prop :=
  ∃ v y, K v o = some r ∧ s.run P w = .ok y w ∧ RA w Im ρ o v y
theorem DidS.same {s : Sem Value} {v : AV} {y : Value} (hk : K v o = some r) (hr : s.run P w = .ok y w) (h : RA w Im ρ o v y) : DidS P w Im ρ o K r s := ⟨v, y, hk, hr, h⟩
theorem DidS.did {s : Sem Value} (hs : SR w Im ρ o) (h : DidS P w Im ρ o K r s) : Did P w Im ρ o K r s :=
  let ⟨v, y, h1, h2, h3⟩ := h; ⟨v, o, y, w, Im, ρ, h1, h2, Step.refl hs, h3⟩
theorem Did.same {s : Sem Value} {v : AV} {y : Value} (hs : SR w Im ρ o) (hk : K v o = some r) (hr : s.run P w = .ok y w) (h : RA w Im ρ o v y) : Did P w Im ρ o K r s :=
  ⟨v, o, y, w, Im, ρ, hk, hr, Step.refl hs, h⟩

theorem add_at (b off j : Nat) : (⟨b, off, none⟩ : Addr).add j = ⟨b, off + j, none⟩ := by
  unfold Addr.add
  split <;> simp_all
theorem cell_of {vs : Array Value} {e : TypeId} {fr : Nat × Nat} {b i : Nat} (h : w.heap[b]? = some (.cells vs e fr)) : w.cell? ⟨b, i, none⟩ = vs[i]? := by simp [World.cell?, h]
theorem RP.one_of {v : PV} {y : Value} (h : RP w Im v y) (hy : y.oneCell' = true) : v.one = true := by
  cases h <;> simp_all [Value.oneCell', PV.one]
theorem cv_some {a : AV} {c : CV} (h : a.cv? = some c) : a = .s (.c c) := by
  cases a with
  | s v => cases v <;> simp_all [AV.cv?]
  | tup _ => simp [AV.cv?] at h
theorem pv_some {a : AV} {v : PV} (h : a.pv? = some v) : a = .p v := by
  cases a with
  | s s => cases s with
    | c c => cases c <;> simp_all [AV.pv?]
    | agg _ => simp [AV.pv?] at h
  | tup _ => simp [AV.pv?] at h
theorem sv_some {a : AV} {v : SV} (h : a.sv? = some v) : a = .s v := by cases a <;> simp_all [AV.sv?]
theorem int_some {a : AV} {n : Int} (h : a.int? = some n) : ∃ k, a = .p (.int k n) := by
  unfold AV.int? at h
  obtain ⟨v, hv, hn⟩ := Option.bind_eq_some_iff.1 h
  rw [pv_some hv]
  cases v <;> simp [PV.int?] at hn
  subst hn
  exact ⟨_, rfl⟩
theorem bool_some {a : AV} {b : Bool} (h : a.bool? = some b) : a = .p (.bool b) := by
  unfold AV.bool? at h
  obtain ⟨v, hv, hn⟩ := Option.bind_eq_some_iff.1 h
  rw [pv_some hv]
  cases v <;> simp [PV.bool?] at hn
  subst hn
  rfl
theorem RA.int {a : AV} {n : Int} {x : Value} (h : a.int? = some n) (hx : RA w Im ρ o a x) : ∃ k, x = .int k n := by
  obtain ⟨k, rfl⟩ := int_some h
  cases hx
  exact ⟨k, rfl⟩
theorem RA.bool {a : AV} {b : Bool} {x : Value} (h : a.bool? = some b) (hx : RA w Im ρ o a x) : x = .bool b := by
  rw [bool_some h] at hx
  cases hx
  rfl
theorem RA.pv {a : AV} {v : PV} {x : Value} (h : a.pv? = some v) (hx : RA w Im ρ o a x) : RP w Im v x := by
  rw [pv_some h] at hx
  exact hx
theorem bind_some {α β : Type} {a : Option α} {f : α → Option β} {b : β} (h : a.bind f = some b) : ∃ x, a = some x ∧ f x = some b := Option.bind_eq_some_iff.1 h
theorem bif_some {α : Type} {c : Bool} {x : Option α} {b : α} (h : (bif c then x else none) = some b) : c = true ∧ x = some b := by
  cases c
  · cases h
  · exact ⟨rfl, h⟩
theorem row_some {v : PV} {q : Nat × Nat × List PV} (h : v.row? = some q) : v = .row q.1 q.2.1 q.2.2 := by
  cases v <;> simp [PV.row?] at h
  subst h
  rfl
theorem str_some {v : PV} {s : ByteArray} (h : v.str? = some s) : v = .str s := by
  cases v <;> simp [PV.str?] at h
  subst h
  rfl
theorem bif_none {α : Type} {c : Bool} {x : Option α} {b : α} (h : (bif c then none else x) = some b) : c = false ∧ x = some b := by
  cases c
  · exact ⟨rfl, h⟩
  · cases h

theorem range_get {m i : Nat} {f : Nat → Value} {y : Value} (h : ((List.range m).map f).toArray[i]? = some y) : i < m ∧ y = f i := by
  simp only [List.getElem?_toArray, List.getElem?_map] at h
  rcases Nat.lt_or_ge i m with hi | hi
  · rw [List.getElem?_range hi] at h
    simp at h
    exact ⟨hi, h.symm⟩
  · rw [List.getElem?_eq_none (by simpa using hi)] at h
    simp at h

/-- A struct's value out of cells. -/
theorem mkAgg_sound {cs : List CV} {vs : Array Value} (hl : vs.size = cs.length) (h : ∀ (i : Nat) (c : CV) (y : Value), cs[i]? = some c → vs[i]? = some y → RC w Im ρ o c y)
    (h1 : ∀ (i : Nat) (y : Value), vs[i]? = some y → y.oneCell' = true) : RS w Im ρ o (mkAgg cs) (.agg vs) := by
  unfold mkAgg
  split
  · rename_i ps hp
    have hps : cs = ps.map .p := by
      clear hl h h1
      induction cs generalizing ps with
      | nil => simp [allP] at hp; simp [hp]
      | cons c cs ih =>
        cases c <;> simp [allP] at hp
        obtain ⟨qs, hq, rfl⟩ := hp
        simp [ih qs hq]
    subst hps
    refine RP.agg ps vs (by simpa using hl) ?_ ?_
    · intro i c hc
      have hi : i < vs.size := by rw [hl]; simpa using (List.getElem?_eq_some_iff.1 hc).1
      have := h i (.p c) vs[i] (by simp [hc]) (by simp [hi])
      exact RP.one_of this (h1 i _ (by simp [hi]))
    · intro i c v hc hv
      exact h i (.p c) v (by simp [hc]) hv
  · exact ⟨vs, rfl, hl, h, h1⟩
theorem ofCells_sound (hE : EnvOK P E) {T : TypeId} {sh : Nat} (hT : E.sh T = some sh) {cs : List CV} {off b : Nat} {vs : Array Value} {e : TypeId} {v : SV} (hb : w.heap[b]? = some (.cells vs e (0, 0))) (hl : vs.size = cs.length)
    (h : ∀ (i : Nat) (c : CV) (y : Value), cs[i]? = some c → vs[i]? = some y → RC w Im ρ o c y) (h1 : ∀ (i : Nat) (y : Value), vs[i]? = some y → y.oneCell' = true)
    (hv : ofCells sh (cs.drop off) = some v) : ∃ y, (loadVar T ⟨b, off, none⟩).run P w = .ok y w ∧ RS w Im ρ o v y := by
  cases sh with
  | zero =>
    simp only [ofCells, List.getElem?_drop, Nat.add_zero] at hv
    obtain ⟨c, hc, rfl⟩ := Option.map_eq_some_iff.1 hv
    have hi : off < vs.size := by rw [hl]; exact (List.getElem?_eq_some_iff.1 hc).1
    refine ⟨vs[off], ?_, h off c _ hc (by simp [hi])⟩
    simp [loadVar, run_isAgg0 hE hT, cell_of hb, hi]
  | succ n =>
    simp only [ofCells] at hv
    obtain ⟨hle, hv⟩ := bif_some hv
    injection hv with hv
    subst hv
    have hle : off + (n + 1) ≤ cs.length := by have := of_decide_eq_true hle; simp at this; omega
    let f : Nat → Value := fun j => (vs[off + j]?).getD undef
    have hf : ∀ j, j < n + 1 → w.cell? ((⟨b, off, none⟩ : Addr).add j) = some (f j) := fun j hj => by
      rw [add_at, cell_of hb]
      have : off + j < vs.size := by omega
      simp [f, this]
    refine ⟨.agg ((List.range (n + 1)).map f).toArray, ?_, ?_⟩
    · simp only [loadVar, Sem.run_bind, run_isAggN hE hT, Result.andThen_ok, if_true, run_size hE hT, csz, Nat.succ_ne_zero, if_false, run_loadCells w _ (n + 1) f hf, Sem.run_pure]
    · have get : ∀ i y, ((List.range (n + 1)).map f).toArray[i]? = some y → i < n + 1 ∧ vs[off + i]? = some y := by
        intro i y hy
        obtain ⟨hk, rfl⟩ := range_get hy
        have : off + i < vs.size := by omega
        exact ⟨hk, by simp [f, this]⟩
      refine mkAgg_sound (by simp; omega) ?_ ?_
      · intro i c y hc hy
        obtain ⟨hi, hy⟩ := get i y hy
        rw [List.getElem?_take_of_lt hi, List.getElem?_drop] at hc
        exact h _ c y hc hy
      · intro i y hy
        exact h1 _ y (get i y hy).2
/-- A part of an element: the cells at 'base'. -/
theorem partP_sound (hE : EnvOK P E) {T : TypeId} {sh vsh off b base : Nat} {x v : PV} (hT : E.sh T = some sh) (hx : x.shp vsh = true)
    (hc : ∀ (j : Nat) (c : PV), x.cells[j]? = some c → ∃ y, w.cell? ⟨b, base + j, none⟩ = some y ∧ RP w Im c y) (hv : partP x vsh off sh = some v) :
    ∃ y, (loadVar T ⟨b, base + off, none⟩).run P w = .ok y w ∧ RP w Im v y := by
  cases sh with
  | zero =>
    obtain ⟨y, hy, hr⟩ := hc off v hv
    exact ⟨y, by simp [loadVar, run_isAgg0 hE hT, hy], hr⟩
  | succ n =>
    have main : ∀ ps : List PV, ps.length = n + 1 → (∀ (j : Nat) (c : PV), ps[j]? = some c → x.cells[off + j]? = some c) → (∀ (j : Nat) (c : PV), ps[j]? = some c → c.one = true) →
        ∃ y, (loadVar T ⟨b, base + off, none⟩).run P w = .ok y w ∧ RP w Im (.agg ps) y := by
      intro ps hl hsub hone
      let f : Nat → Value := fun j => (w.cell? ⟨b, base + off + j, none⟩).getD undef
      have hf : ∀ j c, ps[j]? = some c → w.cell? ⟨b, base + off + j, none⟩ = some (f j) ∧ RP w Im c (f j) := fun j c hj => by
        obtain ⟨y, hy, hr⟩ := hc _ c (hsub j c hj)
        rw [← Nat.add_assoc] at hy
        exact ⟨by simp [f, hy], by simp [f, hy, hr]⟩
      refine ⟨.agg ((List.range (n + 1)).map f).toArray, ?_, ?_⟩
      · have h0 : ∀ j, j < n + 1 → w.cell? ((⟨b, base + off, none⟩ : Addr).add j) = some (f j) := fun j hj => by
          rw [add_at]
          exact (hf j _ (List.getElem?_eq_getElem (by omega))).1
        simp only [loadVar, Sem.run_bind, run_isAggN hE hT, Result.andThen_ok, if_true, run_size hE hT, csz, Nat.succ_ne_zero, if_false, run_loadCells w _ (n + 1) f h0, Sem.run_pure]
      · refine RP.agg ps _ (by simp [hl]) hone ?_
        intro i c y hci hy
        obtain ⟨hk, rfl⟩ := range_get hy
        exact (hf _ c hci).2
    simp only [partP] at hv
    cases h0 : (off == 0 && vsh == n + 1) <;> rw [h0] at hv <;> simp only [cond_true, cond_false] at hv
    · obtain ⟨hle, hv⟩ := bif_some hv
      injection hv with hv
      subst hv
      simp at hle
      refine main _ (by simp; omega) ?_ ?_
      · intro j c hj
        have hj' : j < n + 1 := by have := (List.getElem?_eq_some_iff.1 hj).1; simp at this; omega
        rw [List.getElem?_take_of_lt hj', List.getElem?_drop] at hj
        exact hj
      · intro j c hj
        have hj' : j < n + 1 := by have := (List.getElem?_eq_some_iff.1 hj).1; simp at this; omega
        rw [List.getElem?_take_of_lt hj', List.getElem?_drop] at hj
        exact PV.shp_one hx _ c hj
    · injection hv with hv
      subst hv
      simp at h0
      obtain ⟨rfl, rfl⟩ := h0
      cases x with
      | agg cs =>
        simp [PV.shp] at hx
        refine main cs hx.1 ?_ ?_
        · intro j c hj
          simpa [PV.cells] using hj
        · intro j c hj
          exact hx.2 c (List.mem_of_getElem? hj)
      | _ => simp [PV.shp] at hx

theorem run_equalIn_nil {T e : TypeId} (hu : P.underlying T = some (.slice e)) (d : Nat) (a : Option Addr) (n c : Nat) (w : World) : (Op.equalIn (d + 1) T (.slice a n c) (.slice none 0 0)).run P w = .ok a.isNone w := by
  unfold Op.equalIn
  rw [Sem.run_bind, run_underlying hu]
  cases a <;> rfl
theorem nilEq_sound (hE : EnvOK P E) {op : BinOp} {T : TypeId} {a b : PV} {c : Bool} {x y : Value} (ox oy : Operand) (h : nilEq op a b = some c) (hT : (E.sl T).isSome = true) (ha : RP w Im a x) (hb : RP w Im b y) :
    (do eqGuard op T ox oy x y; binOp op T x y).run P w = .ok (.bool c) w := by
  obtain ⟨⟨e, sh, by_⟩, hT⟩ := Option.isSome_iff_exists.1 hT
  have hu := (hE.sl T e sh by_ hT).1
  unfold nilEq at h
  split at h
  · rename_i s1 f xs s2 g0
    obtain ⟨hg, h⟩ := bif_some h
    simp only [beq_iff_eq] at hg
    subst hg
    cases hb with
    | row _ _ _ a cap g hf => exact absurd rfl hf
    | nil =>
      cases ha with
      | nil _ _ hf =>
        have hg : (eqGuard .eql T ox oy (.slice none 0 0) (.slice none 0 0)).run P w = .ok () w := eqGuard_plain _ _ _ _ _ _ (by simp) (by simp) w
        cases h2 : (f == 2)
        · rw [h2] at h
          cases h3 : (f == 3)
          · rw [h3] at h; cases h
          · exact absurd (by simpa using h3) hf
        · rw [h2] at h
          injection h with h
          subst h
          simp [hg, binOp, Op.equal, Op.maxDepth, run_equalIn_nil hu]
      | row _ _ _ a cap g hf =>
        have hg : (eqGuard .eql T ox oy (.slice (some a) xs.length cap) (.slice none 0 0)).run P w = .ok () w := eqGuard_plain _ _ _ _ _ _ (by simp) (by simp) w
        have h2 : (f == 2) = false := by simpa using hf
        rw [h2] at h
        cases h3 : (f == 3)
        · rw [h3] at h; cases h
        · rw [h3] at h
          injection h with h
          subst h
          simp [hg, binOp, Op.equal, Op.maxDepth, run_equalIn_nil hu]
  · rename_i s1 f xs s2 g0
    obtain ⟨hg, h⟩ := bif_some h
    simp only [beq_iff_eq] at hg
    subst hg
    cases hb with
    | row _ _ _ a cap g hf => exact absurd rfl hf
    | nil =>
      cases ha with
      | nil _ _ hf =>
        have hg : (eqGuard .neq T ox oy (.slice none 0 0) (.slice none 0 0)).run P w = .ok () w := eqGuard_plain _ _ _ _ _ _ (by simp) (by simp) w
        cases h2 : (f == 2)
        · rw [h2] at h
          cases h3 : (f == 3)
          · rw [h3] at h; cases h
          · exact absurd (by simpa using h3) hf
        · rw [h2] at h
          injection h with h
          subst h
          simp [hg, binOp, Op.equal, Op.maxDepth, run_equalIn_nil hu]
      | row _ _ _ a cap g hf =>
        have hg : (eqGuard .neq T ox oy (.slice (some a) xs.length cap) (.slice none 0 0)).run P w = .ok () w := eqGuard_plain _ _ _ _ _ _ (by simp) (by simp) w
        have h2 : (f == 2) = false := by simpa using hf
        rw [h2] at h
        cases h3 : (f == 3)
        · rw [h3] at h; cases h
        · rw [h3] at h
          injection h with h
          subst h
          simp [hg, binOp, Op.equal, Op.maxDepth, run_equalIn_nil hu]
  · cases h
/-! ### Kinds told -/
def Weak (v u : PV) : Prop := (v.one = true → u.one = true) ∧ ∀ (w : World) (Im : Nat → Prop) (x : Value), RP w Im v x → RP w Im u x
theorem Weak.refl (v : PV) : Weak v v := ⟨fun h => h, fun _ _ _ h => h⟩
theorem asInt_some {v : PV} {k : IntKind} {n : Int} (h : v.asInt k = some n) : v = .int k n := by
  cases v <;> simp only [PV.asInt] at h <;> first | (cases h; done) | skip
  obtain ⟨h1, h2⟩ := bif_some h
  simp at h1
  subst h1
  injection h2 with h2
  rw [h2]
theorem asRow_weak {v : PV} {sh : Nat} {xs : List PV} (h : v.asRow sh = some xs) : Weak v (.row sh 0 xs) := by
  cases v <;> simp only [PV.asRow] at h <;> first | (cases h; done) | skip
  rename_i s f ys
  obtain ⟨h1, h2⟩ := bif_some h
  injection h2 with h2
  subst h2
  refine ⟨fun _ => rfl, fun w Im x hx => ?_⟩
  simp at h1
  cases hx with
  | nil => exact .nil _ _ (by decide)
  | row _ _ _ a cap g hf hs hc hm h1' him hsh hcell hrec =>
    rcases h1 with rfl | h1
    · exact .row _ _ _ a cap g (by simp) hs hc hm (by simp) him hsh hcell hrec
    · exact absurd h1 hf
theorem castCell_some {α : Type} {ct : CellT} {v : PV} {K : PV → Option α} {r : α} (h : castCell ct v K = some r) : ∃ u, K u = some r ∧ Weak v u := by
  cases ct <;> simp only [castCell] at h
  · exact ⟨v, h, Weak.refl v⟩
  · obtain ⟨n, hn, h⟩ := bind_some h
    rw [asInt_some hn]
    exact ⟨_, h, Weak.refl _⟩
  · obtain ⟨n, hn, h⟩ := bind_some h
    cases v <;> simp [PV.bool?] at hn
    subst hn
    exact ⟨_, h, Weak.refl _⟩
  · obtain ⟨n, hn, h⟩ := bind_some h
    cases v <;> simp [PV.str?] at hn
    subst hn
    exact ⟨_, h, Weak.refl _⟩
  · obtain ⟨n, hn, h⟩ := bind_some h
    exact ⟨_, h, asRow_weak hn⟩
theorem castAt_eq {α : Type} (ct : CellT) (v : PV) (i : Nat) (K : PV → Option α) : castAt ct v i K = (v.cell i).bind fun c => castCell ct c K := by
  cases ct <;> simp only [castAt, castCell, PV.atInt, PV.atBool, PV.atStr, PV.atRow] <;> cases v.cell i <;> rfl
theorem castAt_some {α : Type} {ct : CellT} {v : PV} {i : Nat} {K : PV → Option α} {r : α} (h : castAt ct v i K = some r) : ∃ c u, v.cell i = some c ∧ K u = some r ∧ Weak c u := by
  rw [castAt_eq] at h
  obtain ⟨c, hc, h⟩ := bind_some h
  obtain ⟨u, h1, h2⟩ := castCell_some h
  exact ⟨c, u, hc, h1, h2⟩
theorem castCells_some {α : Type} : ∀ {cs : List CellT} {v : PV} {i : Nat} {K : List PV → Option α} {r : α}, castCells cs v i K = some r → ∃ us, K us = some r ∧ us.length = cs.length ∧ ∀ (j : Nat) (u : PV), us[j]? = some u → ∃ c, v.cell (i + j) = some c ∧ Weak c u
  | [], v, i, K, r, h => ⟨[], h, rfl, fun j u hj => by simp at hj⟩
  | c :: cs, v, i, K, r, h => by
    simp only [castCells] at h
    obtain ⟨c0, u, hc, h, hw⟩ := castAt_some h
    obtain ⟨us, h, hl, hr⟩ := castCells_some h
    refine ⟨u :: us, h, by simp [hl], fun j u' hj => ?_⟩
    cases j with
    | zero => simp at hj; subst hj; exact ⟨c0, hc, hw⟩
    | succ j =>
      obtain ⟨c1, h1, h2⟩ := hr j u' (by simpa using hj)
      exact ⟨c1, by rw [show i + (j + 1) = i + 1 + j by omega]; exact h1, h2⟩
theorem castK_some {α : Type} {ct : CT} {v : PV} {K : PV → Option α} {r : α} (h : castK ct v K = some r) : ∃ u, K u = some r ∧ Weak v u := by
  cases ct with
  | one c => exact castCell_some h
  | agg cs =>
    simp only [castK] at h
    obtain ⟨h1, h⟩ := bif_some h
    simp only [Bool.and_eq_true, bne_iff_ne, ne_eq] at h1
    have h1 := h1.symm
    obtain ⟨us, h, hl, hr⟩ := castCells_some h
    refine ⟨_, h, ?_, fun w Im x hx => ?_⟩
    · intro hv
      cases hcl : cs.length with
      | zero => exact absurd hcl h1.2
      | succ n => rw [hcl] at h1; cases v <;> simp_all [PV.shp, PV.one]
    · have hsh := h1.1
      cases hcl : cs.length with
      | zero => exact absurd hcl h1.2
      | succ n =>
        rw [hcl] at hsh
        cases v with
        | agg ps =>
          cases hx with
          | agg _ vs hvl ho hh =>
            simp only [PV.shp, Bool.and_eq_true, beq_iff_eq] at hsh
            refine .agg us vs (by omega) (fun i c hc => ?_) (fun i c y hc hy => ?_)
            · obtain ⟨c0, h2, h3⟩ := hr i c hc
              simp only [PV.cell, PV.cells, Nat.zero_add] at h2
              exact h3.1 (ho i c0 h2)
            · obtain ⟨c0, h2, h3⟩ := hr i c hc
              simp only [PV.cell, PV.cells, Nat.zero_add] at h2
              exact h3.2 w Im y (hh i c0 y h2 hy)
        | _ => simp [PV.shp] at hsh
theorem loadP_some {ct : CT} {v : PV} {vsh off sh : Nat} {K : PV → R} {r : List SV × List (List CV)} (h : loadP ct v vsh off sh K = some r) : ∃ c u, partP v vsh off sh = some c ∧ K u = some r ∧ Weak c u := by
  unfold loadP at h
  split at h
  · exact castAt_some h
  · obtain ⟨c, hc, h⟩ := bind_some h
    obtain ⟨u, h1, h2⟩ := castK_some h
    exact ⟨c, u, hc, h1, h2⟩
theorem castCell_det {α : Type} (ct : CellT) (v : PV) : (∀ K : PV → Option α, castCell ct v K = none) ∨ ∃ u, ∀ K : PV → Option α, castCell ct v K = K u := by
  cases ct <;> simp only [castCell]
  · exact .inr ⟨v, fun K => rfl⟩
  · cases v.asInt _ with
    | none => exact .inl fun K => rfl
    | some n => exact .inr ⟨_, fun K => rfl⟩
  · cases v.bool? with
    | none => exact .inl fun K => rfl
    | some n => exact .inr ⟨_, fun K => rfl⟩
  · cases v.str? with
    | none => exact .inl fun K => rfl
    | some n => exact .inr ⟨_, fun K => rfl⟩
  · cases v.asRow _ with
    | none => exact .inl fun K => rfl
    | some n => exact .inr ⟨_, fun K => rfl⟩
theorem castAt_det {α : Type} (ct : CellT) (v : PV) (i : Nat) : (∀ K : PV → Option α, castAt ct v i K = none) ∨ ∃ u, ∀ K : PV → Option α, castAt ct v i K = K u := by
  simp only [castAt_eq]
  cases v.cell i with
  | none => exact .inl fun K => rfl
  | some c => exact castCell_det ct c
theorem castCells_det {α : Type} : ∀ (cs : List CellT) (v : PV) (i : Nat), (∀ K : List PV → Option α, castCells cs v i K = none) ∨ ∃ u, ∀ K : List PV → Option α, castCells cs v i K = K u
  | [], v, i => .inr ⟨[], fun K => rfl⟩
  | c :: cs, v, i => by
    simp only [castCells]
    rcases castAt_det (α := α) c v i with h | ⟨u, h⟩
    · exact .inl fun K => h _
    · rcases castCells_det (α := α) cs v (i + 1) with h2 | ⟨us, h2⟩
      · exact .inl fun K => (h _).trans (h2 _)
      · exact .inr ⟨u :: us, fun K => (h _).trans (h2 _)⟩
theorem castK_det {α : Type} (ct : CT) (v : PV) : (∀ K : PV → Option α, castK ct v K = none) ∨ ∃ u, ∀ K : PV → Option α, castK ct v K = K u := by
  cases ct with
  | one c => exact castCell_det c v
  | agg cs =>
    simp only [castK]
    cases (cs.length != 0 && v.shp cs.length)
    · exact .inl fun K => rfl
    · rcases castCells_det (α := α) cs v 0 with h | ⟨u, h⟩
      · exact .inl fun K => h _
      · exact .inr ⟨.agg u, fun K => h _⟩
theorem loadP_det (ct : CT) (v : PV) (vsh off sh : Nat) : (∀ K : PV → R, loadP ct v vsh off sh K = none) ∨ ∃ u, ∀ K : PV → R, loadP ct v vsh off sh K = K u := by
  unfold loadP
  split
  · exact castAt_det _ _ _
  · cases partP v vsh off sh with
    | none => exact .inl fun K => rfl
    | some u => exact castK_det _ u

theorem opLoad_sound (hE : EnvOK P E) (hs : SR w Im ρ o) {T : TypeId} {a : AV} {x : Value} (ha : RA w Im ρ o a x) (h : opLoad E T a o K = some r) : DidS P w Im ρ o K r (Instr.loadAt T x) := by
  unfold opLoad at h
  split at h
  · rename_i id off sh hc hT
    rw [cv_some hc] at ha
    split at h
    · rename_i cs ho
      obtain ⟨v, hv, hk⟩ := bind_some h
      simp only [RA, RS, RC, RB, ho] at ha
      obtain ⟨b, hρ, rfl⟩ := ha
      obtain ⟨b', vs, e, hb, hh, hl, hrc, h1, _⟩ := hs.ob id _ _ ho hρ
      obtain rfl : b = b' := by simpa using hb
      obtain ⟨y, hy, hr⟩ := ofCells_sound hE hT hh hl hrc h1 hv
      exact DidS.same hk (by simp [Instr.loadAt, Instr.sureAddr, hy]) hr
    · cases h
  · rename_i id ver vsh i off sh hc hT
    rw [cv_some hc] at ha
    split at h
    · rename_i e sh' ver' fz xs ho
      split at h
      rotate_left
      · rename_i kd hkd
        obtain ⟨hcnd, hk⟩ := bif_some h
        simp only [Bool.and_eq_true, beq_iff_eq, Option.isNone_iff_eq_none] at hcnd
        obtain ⟨⟨⟨⟨rfl, rfl⟩, rfl⟩, rfl⟩, hh0⟩ := hcnd
        simp only [RA, RS, RC, ho] at ha
        obtain ⟨hi, g, n, cap, v, hρ, hmv, rfl⟩ := ha.2 trivial trivial
        obtain ⟨vals, hown, hshp, hrp, _, hkids⟩ := hs.ob id _ _ ho hρ
        simp only [RKids, hkd] at hkids
        obtain ⟨_, ks, hv, hks, _⟩ := hkids
        have hix : i < xs.length := hi
        obtain ⟨f, ys, u, h1, _, h2, h3, _⟩ := hks.kid i xs[i] (by simp [hix]) (by simp [hh0])
        have := hown.cells (g := g) (by rw [hmv]; rfl) (i * csz vsh + kd.j) u h3
        rw [add_at, Nat.zero_add] at this
        refine DidS.same (y := u) hk (by simp [Instr.loadAt, Instr.sureAddr, loadVar, run_isAgg0 hE hT, this]) ?_
        simp only [RA, RS, RC, ho]
        refine ⟨Nat.le_refl _, fun _ k2 hk2 => ?_⟩
        rw [hkd] at hk2
        injection hk2 with hk2
        subst hk2
        exact ⟨Nat.le_refl _, fun _ _ => ⟨hix, _, ks, by rw [hρ, hv], h2⟩⟩
      rename_i hkd
      obtain ⟨hver, h⟩ := bif_some h
      obtain ⟨x', hx', hk⟩ := bind_some h
      obtain ⟨v, v2, hv, hk, hwk⟩ := loadP_some hk
      simp at hver
      simp only [RA, RS, RC, ho] at ha
      obtain ⟨hi, g, n, cap, v0, hρ, hmv, rfl⟩ := ha.2 hver.1 hver.2
      obtain ⟨rfl, rfl⟩ := hver
      obtain ⟨vals, hown, hshp, hrp, _⟩ := hs.ob id _ _ ho hρ
      simp only [RPk, hkd] at hrp
      have hcells : ∀ (j : Nat) (c : PV), x'.cells[j]? = some c → ∃ y, w.cell? ⟨g, i * csz vsh + j, none⟩ = some y ∧ RP w Im c y := by
        intro j c hj
        have hx1 := List.mem_of_getElem? hx'
        have hlen := PV.shp_len (hshp x' hx1)
        have hjl : j < csz vsh := by rw [← hlen]; exact (List.getElem?_eq_some_iff.1 hj).1
        have hvl : i * csz vsh + j < vals.length := by
          rw [hown.1]
          have h1 : (i + 1) * csz vsh ≤ xs.length * csz vsh := Nat.mul_le_mul_right _ hi
          rw [Nat.add_mul] at h1
          omega
        refine ⟨vals[i * csz vsh + j], ?_, hrp i x' j c _ hx' hj (by simp [hvl])⟩
        have := hown.cells (g := g) (by rw [hmv]; rfl) (i * csz vsh + j) vals[i * csz vsh + j] (by simp [hvl])
        rwa [add_at, Nat.zero_add] at this
      obtain ⟨y, hy, hr⟩ := partP_sound hE hT (hshp x' (List.mem_of_getElem? hx')) hcells hv
      exact DidS.same hk (by simp [Instr.loadAt, Instr.sureAddr, hy]) (hwk.2 _ _ _ hr)
    · cases h
  · rename_i v vsh off sh hc hT
    rw [cv_some hc] at ha
    obtain ⟨b, base, rfl, hIm, hshp, hcells⟩ := ha
    obtain ⟨u, u2, hu, hk, hwk⟩ := loadP_some h
    obtain ⟨y, hy, hr⟩ := partP_sound hE hT hshp hcells hu
    exact DidS.same hk (by simp [Instr.loadAt, Instr.sureAddr, hy]) (hwk.2 _ _ _ hr)
  · cases h
end
end Go.Dp
