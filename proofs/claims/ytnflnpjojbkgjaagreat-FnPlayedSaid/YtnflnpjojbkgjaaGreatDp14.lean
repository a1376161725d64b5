/- Calls: what is known of a function, and what the caller makes of it. -/
import Derived.Test.YtnflnpjojbkgjaaGreatDp13
set_option linter.unusedVariables false
set_option linter.unusedSimpArgs false
namespace Go.Dp

def Ptrs (bl : List Nat) : Nat → Option Value := fun j => bl[j]?.map fun b => .pointer (some ⟨b, 0, none⟩)
def blanks (n : Nat) : List AObj := List.replicate n (.box [])
def packV : List Value → Value
  | [y] => y
  | ys => .tuple ys.toArray
def RetV (rs : List SV) (v : Value) (zs : List Value) : Prop := ∃ y0, RetSs rs y0 zs ∧ v = packV y0
/-- The blocks that the callee may write. -/
def DD (bl : List Nat) (cs : List CV) (ys : List Value) (b : Nat) : Prop := b ∈ bl ∨ OBs cs ys b
def Enters (P : Program) (f : FuncId) : Prop := ∃ fn, P.funcs[f]? = some fn ∧ fn.body.isSome = true ∧ fn.name ≠ "runtime.NumGoroutine"
structure Pre (w : World) (Im : Nat → Prop) (bl : List Nat) (bs : List (List CV)) (vss : List (List Value)) (args : List AV) (ys : List Value) : Prop where
  im : ∀ b, Im b → b < w.heap.size
  nd : ∀ (i j b : Nat), bl[i]? = some b → bl[j]? = some b → i = j
  l1 : bl.length = bs.length
  l2 : vss.map List.length = bs.map List.length
  box : ∀ (j b : Nat) (vs : List Value), bl[j]? = some b → vss[j]? = some vs → BoxAt w b vs ∧ ¬ Im b
  tok : Toks w Im bs.flatten vss.flatten (· ∈ bl)
  l3 : ys.length = args.length
  arg : ∀ (i : Nat) (a : AV) (y : Value), args[i]? = some a → ys[i]? = some y → RA w Im (Ptrs bl) (blanks bl.length) a y
structure Post (w : World) (Im : Nat → Prop) (bl : List Nat) (bs : List (List CV)) (vss : List (List Value)) (r : List SV × List (List CV)) (v : Value) (w' : World) (Im' : Nat → Prop) (vss' : List (List Value)) (zs : List Value) : Prop where
  wd : Wd w w'
  fr : ∀ b, b < w.heap.size → ¬ DD bl bs.flatten vss.flatten b → w'.heap[b]? = w.heap[b]?
  im : ∀ b, Im b → Im' b ∧ w'.heap[b]? = w.heap[b]?
  imn : ∀ b, Im' b → (Im b ∨ w.heap.size ≤ b ∨ DD bl bs.flatten vss.flatten b) ∧ b < w'.heap.size
  l1 : r.2.length = bl.length
  l2 : vss'.map List.length = r.2.map List.length
  box : ∀ (j b : Nat) (vs : List Value), bl[j]? = some b → vss'[j]? = some vs → BoxAt w' b vs ∧ ¬ Im' b
  tok : Toks w' Im' (r.2.flatten ++ r.1.flatMap cellsOfS) (vss'.flatten ++ zs) (· ∈ bl)
  ow : ∀ b, OBs (r.2.flatten ++ r.1.flatMap cellsOfS) (vss'.flatten ++ zs) b → w.heap.size ≤ b ∨ DD bl bs.flatten vss.flatten b
  ret : RetV r.1 v zs
/-- What is known of a function at given arguments and boxes. -/
def Contract (P : Program) (f : FuncId) (args : List AV) (bs : List (List CV)) (r : List SV × List (List CV)) : Prop :=
  Enters P f ∧ ∀ w Im bl vss ys, Pre w Im bl bs vss args ys → Calls P f ys.toArray w fun e w' => ∃ v Im' vss' zs, e = .returned v ∧ Post w Im bl bs vss r v w' Im' vss' zs

theorem mem_add1 {l : List Nat} {i x : Nat} : x ∈ add1 l i ↔ x ∈ l ∨ x = i := by
  unfold add1
  cases h : l.contains i
  · simp
  · simp at h
    simp
    intro e; subst e; exact h
theorem mem_adds {l is : List Nat} {x : Nat} : x ∈ adds l is ↔ x ∈ l ∨ x ∈ is := by
  unfold adds
  induction is generalizing l with
  | nil => simp
  | cons i is ih => rw [List.foldl_cons, ih, mem_add1]; simp [or_assoc]
theorem nodup_add1 {l : List Nat} {i : Nat} (h : l.Nodup) : (add1 l i).Nodup := by
  unfold add1
  cases hc : l.contains i
  · simp at hc
    simp [List.nodup_append, h]
    intro a ha e
    subst e
    exact hc ha
  · exact h
theorem nodup_adds {l is : List Nat} (h : l.Nodup) : (adds l is).Nodup := by
  unfold adds
  induction is generalizing l with
  | nil => exact h
  | cons i is ih => exact ih (nodup_add1 h)
theorem idx_some {L : List Nat} {id j : Nat} (h : idx L id = some j) : L[j]? = some id := by
  unfold idx at h
  rw [List.idxOf?_eq_some_iff] at h
  obtain ⟨hlt, h1, _⟩ := h
  simp [hlt, h1]
theorem idxs_some {L : List Nat} : ∀ {is js : List Nat}, idxs L is = some js → js.length = is.length ∧ ∀ (k j : Nat), js[k]? = some j → ∃ id, is[k]? = some id ∧ L[j]? = some id
  | [], js, h => by simp [idxs] at h; subst h; exact ⟨rfl, fun k j h => by simp at h⟩
  | i :: is, js, h => by
    simp only [idxs] at h
    split at h
    · rename_i j js' h1 h2
      injection h with h
      subst h
      obtain ⟨hl, hr⟩ := idxs_some h2
      refine ⟨by simp [hl], fun k j' hj => ?_⟩
      cases k with
      | zero => simp at hj; subst hj; exact ⟨i, rfl, idx_some h1⟩
      | succ k => simpa using hr k j' (by simpa using hj)
    · cases h
section
variable {P : Program} {E : Env} {w w' : World} {Im Im' : Nat → Prop} {ρ ρ' : Nat → Option Value} {o o' : List AObj} {K : Kt} {r : List SV × List (List CV)} {cs : List CV} {ys : List Value} {D D' X : Nat → Prop}

theorem cells_of_RA {a : AV} {y : Value} (h : RA w Im ρ o a y) : ∀ c ∈ cellsOfA a, ∃ z, RC w Im ρ o c z := by
  have hS : ∀ (v : SV) (y : Value), RS w Im ρ o v y → ∀ c ∈ cellsOfS v, ∃ z, RC w Im ρ o c z := by
    intro v y h c hc
    cases v with
    | c c' => simp [cellsOfS] at hc; subst hc; exact ⟨y, h⟩
    | agg cs =>
      obtain ⟨vs, rfl, hl, hr, _⟩ := h
      obtain ⟨i, hi, rfl⟩ := List.getElem_of_mem hc
      simp only [cellsOfS] at hi ⊢
      have hi' : i < vs.size := by rw [hl]; exact hi
      exact ⟨vs[i], hr i _ _ (by simp [hi]) (by simp [hi'])⟩
  cases a with
  | s v => exact hS v y h
  | tup ts =>
    intro c hc
    obtain ⟨vs, rfl, hl, hr⟩ := h
    simp only [cellsOfA, List.mem_flatMap] at hc
    obtain ⟨s, hs, hc⟩ := hc
    obtain ⟨i, hi, rfl⟩ := List.getElem_of_mem hs
    have hi' : i < vs.size := by rw [hl]; exact hi
    exact hS _ _ (hr i _ vs[i] (by simp [hi]) (by simp [hi'])) c hc
theorem ptr_of_RC {c : CV} {y : Value} (h : RC w Im ρ o c y) {id : Nat} (hid : id ∈ ptrsC c) {c0 : List CV} (ho : o[id]? = some (.box c0)) : ∃ b, ρ id = some (.pointer (some ⟨b, 0, none⟩)) := by
  cases c <;> simp [ptrsC] at hid
  · subst hid
    simp only [RC, RB, ho] at h
    obtain ⟨b, hb, _⟩ := h
    exact ⟨b, hb⟩
  · obtain ⟨vs, _, hl, hr⟩ := h
    obtain ⟨i, hi, rfl⟩ := List.getElem_of_mem hid
    obtain ⟨y, _, hb⟩ := hr i _ (List.getElem?_eq_getElem hi)
    simp only [RB, ho] at hb
    obtain ⟨b, hb, _⟩ := hb
    exact ⟨b, hb⟩
theorem freezeO_box {i id : Nat} : (∀ cs, o[id]? = some (.box cs) ↔ (freezeO o i)[id]? = some (.box cs)) := by
  intro cs
  unfold freezeO
  split
  · rename_i e sh ver fz xs h
    have key : ∀ x : AObj, (∀ cs, x ≠ .box cs) → (o[id]? = some (.box cs) ↔ (o.set i x)[id]? = some (.box cs)) := by
      intro x hx
      by_cases e1 : id = i
      · subst e1
        have hlt := (List.getElem?_eq_some_iff.1 h).1
        rw [h, List.getElem?_set_self hlt]
        constructor
        · intro h; cases h
        · intro h; injection h with h; exact absurd h (hx cs)
      · rw [List.getElem?_set_ne (Ne.symm e1)]
    split
    · exact key _ (by simp)
    · cases Option.isNone _
      · exact Iff.rfl
      · exact key _ (by simp)
  · exact Iff.rfl
theorem freezeAll_box {is : List Nat} {id : Nat} : ∀ {o : List AObj} (cs : List CV), o[id]? = some (.box cs) ↔ (freezeAll is o)[id]? = some (.box cs) := by
  unfold freezeAll
  induction is with
  | nil => intro o cs; exact Iff.rfl
  | cons i is ih => intro o cs; rw [List.foldl_cons, ← ih]; exact freezeO_box cs
theorem freezeO_arr {i id sh ver : Nat} {e : Et} {fz : Bool} {xs : List PV} (h : o[id]? = some (.arr e sh ver fz xs)) (hk : e.kd = none) : ∃ fz', (freezeO o i)[id]? = some (.arr e sh ver fz' xs) := by
  unfold freezeO
  split
  · rename_i e' sh' ver' fz' xs' h'
    by_cases e1 : id = i
    · subst e1
      rw [h] at h'
      injection h' with h'
      injection h' with h1 h2 h3 h4 h5
      subst h1 h2 h3 h5
      rw [hk]
      exact ⟨true, by rw [List.getElem?_set_self (List.getElem?_eq_some_iff.1 h).1]⟩
    · split
      · exact ⟨fz, by rw [List.getElem?_set_ne (Ne.symm e1)]; exact h⟩
      · cases Option.isNone _
        · exact ⟨fz, h⟩
        · exact ⟨fz, by simp only [cond_true]; rw [List.getElem?_set_ne (Ne.symm e1)]; exact h⟩
  · exact ⟨fz, h⟩
theorem freezeAll_sound : ∀ {is : List Nat} {o : List AObj} {Im : Nat → Prop}, SR w Im ρ o → ∃ ImL, Step w Im ρ o w ImL ρ (freezeAll is o) ∧ ∀ id ∈ is, ∀ e sh ver fz xs, o[id]? = some (.arr e sh ver fz xs) → e.kd = none → ∀ v b, ρ id = some v → Blk v b → ImL b
  | [], o, Im, hs => ⟨Im, Step.refl hs, by simp⟩
  | i :: is, o, Im, hs => by
    obtain ⟨Im1, hst, hb⟩ := freezeO_sound hs i
    obtain ⟨ImL, hst2, hb2⟩ := freezeAll_sound (is := is) hst.sr
    refine ⟨ImL, hst.trans hst2, ?_⟩
    intro id hid e sh ver fz xs ho hk v b hv hbk
    obtain ⟨fz', ho'⟩ := freezeO_arr (i := i) ho hk
    rcases List.mem_cons.1 hid with rfl | hid
    · exact (hst2.im b (hb _ _ _ _ _ ho' hk v b hv hbk)).1
    · exact hb2 id hid _ _ _ _ _ ho' hk v b hv hbk
/-- Pointers as the callee names them. -/
theorem RB.name {roots bl : List Nat} {id off j : Nat} {y : Value} (hj : roots[j]? = some id) (hb : RB ρ o id off y) {c0 : List CV} (ho : o[id]? = some (.box c0)) (hbl : ∀ (j id : Nat), roots[j]? = some id → ∃ b, bl[j]? = some b ∧ ρ id = some (.pointer (some ⟨b, 0, none⟩))) :
    RB (Ptrs bl) (blanks bl.length) j off y := by
  simp only [RB, ho] at hb
  obtain ⟨b, hρ, rfl⟩ := hb
  obtain ⟨b', h1, h2⟩ := hbl j id hj
  rw [hρ] at h2
  injection h2 with h2
  injection h2 with h2
  injection h2 with h2
  injection h2 with h2
  subst h2
  have hlt := (List.getElem?_eq_some_iff.1 h1).1
  have : (blanks bl.length)[j]? = some (.box []) := by simp [blanks, hlt]
  simp only [RB, this]
  exact ⟨b, by simp [Ptrs, h1], rfl⟩
theorem lendC_sound {ImL : Nat → Prop} {roots bl lent : List Nat} (hs : SR w Im ρ o) (hi : ∀ b, Im b → ImL b) {c : CV} {y : Value} (hc : RC w Im ρ o c y) (hlent : ∀ id ∈ locsC o c, ∀ e sh ver fz xs, o[id]? = some (.arr e sh ver fz xs) → e.kd = none → ∀ v b, ρ id = some v → Blk v b → ImL b)
    (hbox : ∀ (j id : Nat), roots[j]? = some id → ∃ c0, o[id]? = some (.box c0)) (hbl : ∀ (j id : Nat), roots[j]? = some id → ∃ b, bl[j]? = some b ∧ ρ id = some (.pointer (some ⟨b, 0, none⟩))) :
    RC w ImL (Ptrs bl) (blanks bl.length) (nameC roots (lendC o c)) y := by
  have hm : ∀ b, Im b → ImL b ∧ w.heap[b]? = w.heap[b]? := fun b h => ⟨hi b h, rfl⟩
  cases c with
  | p v => exact RP.mono hm hc
  | undef => trivial
  | own e sh xs => exact hc.elim
  | nel => trivial
  | aptr => trivial
  | eptr v sh off =>
    obtain ⟨b, base, hx, hb, hsh, hh⟩ := hc
    exact ⟨b, base, hx, hi b hb, hsh, fun j c hj => let ⟨z, hz, hr⟩ := hh j c hj; ⟨z, hz, RP.mono hm hr⟩⟩
  | loc id ver sh lo len =>
    simp only [lendC]
    split
    · rename_i v hv
      refine view_sound hs hi hc hv fun u b hu hb => ?_
      unfold viewLoc at hv
      split at hv
      · rename_i e sh' ver' fz xs ho
        obtain ⟨hcnd, _⟩ := bif_some hv
        simp only [Bool.and_eq_true, beq_iff_eq, Option.isNone_iff_eq_none] at hcnd
        obtain ⟨⟨rfl, rfl⟩, hk⟩ := hcnd
        cases fz with
        | true =>
          obtain ⟨vals, _, _, _, hz, _⟩ := hs.ob id _ _ ho hu
          exact hi b ((hz b hb).2 rfl)
        | false => exact hlent id (by simp [locsC, ho]) e sh ver false xs ho hk u b hu hb
      · cases hv
    · trivial
  | bptr id off =>
    simp only [lendC, nameC]
    split
    · rename_i j hj
      have hj' := idx_some hj
      obtain ⟨c0, ho⟩ := hbox j id hj'
      exact RB.name hj' hc ho hbl
    · trivial
  | fn f caps =>
    simp only [lendC, nameC]
    split
    · rename_i js hj
      obtain ⟨hl, hr⟩ := idxs_some hj
      obtain ⟨vs, hx, hl2, hh⟩ := hc
      refine ⟨vs, hx, by omega, fun i j hij => ?_⟩
      obtain ⟨id, h1, h2⟩ := hr i j hij
      obtain ⟨z, hz, hb⟩ := hh i id h1
      obtain ⟨c0, ho⟩ := hbox j id h2
      exact ⟨z, hz, RB.name h2 hb ho hbl⟩
    · trivial
theorem lendA_sound {ImL : Nat → Prop} {roots bl lent : List Nat} (hs : SR w Im ρ o) (hi : ∀ b, Im b → ImL b) {a : AV} {y : Value} (ha : RA w Im ρ o a y) (hlent : ∀ c ∈ cellsOfA a, ∀ id ∈ locsC o c, ∀ e sh ver fz xs, o[id]? = some (.arr e sh ver fz xs) → e.kd = none → ∀ v b, ρ id = some v → Blk v b → ImL b)
    (hbox : ∀ (j id : Nat), roots[j]? = some id → ∃ c0, o[id]? = some (.box c0)) (hbl : ∀ (j id : Nat), roots[j]? = some id → ∃ b, bl[j]? = some b ∧ ρ id = some (.pointer (some ⟨b, 0, none⟩))) :
    RA w ImL (Ptrs bl) (blanks bl.length) (lendA roots o a) y := by
  cases a with
  | tup ts => trivial
  | s v =>
    cases v with
    | c c => exact lendC_sound (lent := lent) hs hi ha (hlent c (by simp [cellsOfA, cellsOfS])) hbox hbl
    | agg cs =>
      obtain ⟨vs, rfl, hl, hr, h1⟩ := ha
      refine mkAgg_sound (by simpa using hl) (fun i c z hc hz => ?_) h1
      simp only [List.getElem?_map, Option.map_eq_some_iff] at hc
      obtain ⟨c', hc', rfl⟩ := hc
      exact lendC_sound (lent := lent) hs hi (hr i c' z hc' hz) (hlent c' (by simp [cellsOfA, cellsOfS]; exact List.mem_of_getElem? hc')) hbox hbl

theorem len_flatten {α β : Type} : ∀ {a : List (List α)} {b : List (List β)}, a.map List.length = b.map List.length → a.flatten.length = b.flatten.length
  | [], [], _ => rfl
  | x :: a, y :: b, h => by
    simp only [List.map_cons, List.cons.injEq] at h
    simp only [List.flatten_cons, List.length_append, h.1, len_flatten h.2]
  | [], _ :: _, h => by simp at h
  | _ :: _, [], h => by simp at h
theorem pack_sound {ds : List SV} {y0 : List Value} (hl : ds.length = y0.length) (h : ∀ (t : Nat) (d : SV) (y : Value), ds[t]? = some d → y0[t]? = some y → RS w Im ρ o d y) :
    RA w Im ρ o (packS ds) (packV y0) := by
  match ds, y0, hl with
  | [], [], _ => exact ⟨#[], rfl, rfl, fun i c y h => by simp at h⟩
  | [x], [y], _ => exact h 0 x y rfl rfl
  | x :: x2 :: xs, y :: y2 :: ys, hl => exact ⟨_, rfl, by simpa using hl.symm, fun i c z hc hz => h i c z hc (by simpa using hz)⟩
/-- Back in the caller: all that came back is taken in. -/
theorem afterCall {ImA ImR : Nat → Prop} {ρ1 : Nat → Option Value} {oA : List AObj} {roots bl : List Nat} {bs : List (List CV)} {vss vss' : List (List Value)} {ks : List (List Kind)} {rk : List RK} {v : Value} {zs : List Value} {q : List SV × List (List CV)}
    (hst : Step w Im ρ o w ImA ρ1 oA)
    (hown : ∀ b, DD bl bs.flatten vss.flatten b → Ow ρ b) (hnow : ∀ b, OBs bs.flatten vss.flatten b → ¬ Ow ρ1 b)
    (hbl : ∀ (j id : Nat), roots[j]? = some id → ∃ b c0, bl[j]? = some b ∧ ρ1 id = some (.pointer (some ⟨b, 0, none⟩)) ∧ oA[id]? = some (.box c0)) (hbr : ∀ b ∈ bl, ∃ (j id : Nat), bl[j]? = some b ∧ roots[j]? = some id)
    (hwd : Wd w w') (hfr : ∀ b, b < w.heap.size → ¬ DD bl bs.flatten vss.flatten b → w'.heap[b]? = w.heap[b]?) (him : ∀ b, ImA b → ImR b ∧ w'.heap[b]? = w.heap[b]?)
    (himn : ∀ b, ImR b → (ImA b ∨ w.heap.size ≤ b ∨ DD bl bs.flatten vss.flatten b) ∧ b < w'.heap.size) (hl2 : vss'.map List.length = q.2.map List.length)
    (hbox : ∀ (j b : Nat) (vs : List Value), bl[j]? = some b → vss'[j]? = some vs → BoxAt w' b vs ∧ ¬ ImR b)
    (htok : Toks w' ImR (q.2.flatten ++ q.1.flatMap cellsOfS) (vss'.flatten ++ zs) (· ∈ bl))
    (how : ∀ b, OBs (q.2.flatten ++ q.1.flatMap cellsOfS) (vss'.flatten ++ zs) b → w.heap.size ≤ b ∨ DD bl bs.flatten vss.flatten b) (hret : RetV q.1 v zs)
    (hk1 : q.2.map List.length = ks.map List.length) (hk2 : roots.length = ks.length) (hk3 : q.1.map lenS = rk.map lenK)
    (h : (inBs q.2 ks roots 0 oA fun o3 => inSs q.1 rk 0 o3 fun vs o4 => K (packS vs) o4) = some r) :
    ∃ v' o' ρ', K v' o' = some r ∧ Step w Im ρ o w' ImR ρ' o' ∧ RA w' ImR ρ' o' v' v := by
  have hsA := hst.sr
  have ptr : ∀ b ∈ bl, ∃ id, id ∈ roots ∧ ρ1 id = some (.pointer (some ⟨b, 0, none⟩)) := by
    intro b hb
    obtain ⟨j, id, h1, h2⟩ := hbr b hb
    obtain ⟨b', c0, h3, h4, _⟩ := hbl j id h2
    rw [h1] at h3
    injection h3 with h3
    subst h3
    exact ⟨id, List.mem_of_getElem? h2, h4⟩
  have ndd : ∀ id u b, id ∉ roots → ρ1 id = some u → Blk u b → ¬ DD bl bs.flatten vss.flatten b := by
    rintro id u b hid hu hb (hd | hd)
    · obtain ⟨id', h1, h2⟩ := ptr b hd
      exact hid (hsA.inj id' id _ u b h2 hu rfl hb ▸ h1)
    · exact hnow b hd ⟨id, u, hu, hb⟩
  have hc : Compat ρ1 ρ1 oA oA := fun id a ha => ⟨a, ha, by cases a <;> simp [CompatO]⟩
  have hsx : SRx w' ImR ρ1 oA (· ∈ roots) := by
    refine ⟨?_, hsA.inj, fun id v hv => ⟨(hsA.lt id v hv).1, fun b hb => Nat.lt_of_lt_of_le ((hsA.lt id v hv).2 b hb) hwd.size⟩, fun b hb => (himn b hb).2, hsA.dd⟩
    intro id x u hid hx hu
    refine RO.keep him hc (fun b hb => hfr b ((hsA.lt id u hu).2 b hb) (ndd id u b hid hu hb)) (fun b hb hI => ?_) (hsA.ob id x u hx hu)
    rcases (himn b hI).1 with h1 | h1 | h1
    · exact h1
    · have := (hsA.lt id u hu).2 b hb; omega
    · exact (ndd id u b hid hu hb h1).elim
  have htok' : Toks w' ImR (q.2.flatten ++ q.1.flatMap cellsOfS) (vss'.flatten ++ zs) (Ow ρ1) := by
    refine htok.keep him_refl fun i b hob => ⟨rfl, (htok.lt hob).2, ?_⟩
    rintro ⟨id, u, hu, hb⟩
    rcases how b ⟨i, hob⟩ with h1 | h1 | h1
    · have := (hsA.lt id u hu).2 b hb; omega
    · exact htok.out i b hob h1
    · exact hnow b h1 ⟨id, u, hu, hb⟩
  have hlf := len_flatten hl2
  obtain ⟨o3, ρ3, h, hs3, hin3, ht3⟩ := inBs_sound (A := OBs (q.2.flatten ++ q.1.flatMap cellsOfS) (vss'.flatten ++ zs)) (bsr := q.2) (vss := vss') hsx hk1 (hl2.trans hk1) hk2 (fun t _ => by rw [Nat.zero_add])
    (fun t i vs hi hv => by
      obtain ⟨b, c0, h1, h2, h3⟩ := hbl t i hi
      exact ⟨b, c0, h3, h2, hbox t b vs h1 hv⟩) htok' (fun i b hob => ⟨i, hob⟩) h
  obtain ⟨y0, hret, rfl⟩ := hret
  obtain ⟨ds, o4, ρ4, h, hs4, hin4, hl4, hl5, hr4⟩ := inSs_sound (A := OBs (q.2.flatten ++ q.1.flatMap cellsOfS) (vss'.flatten ++ zs)) hs3 hk3 hret (fun t _ => by rw [Nat.zero_add]) ht3 (fun i b hob => ⟨_, OB.right hlf hob⟩) h
  have hin := hin3.trans hin4
  have hownS : ∀ b, Ow ρ1 b → Ow ρ b := hst.own
  refine ⟨_, o4, ρ4, h, ⟨hwd, hs4, ?_, ?_, ?_, ?_, ?_, fun hm => hin.mp (hst.mp hm), hst.gr.trans hin.gr⟩, pack_sound (by omega) hr4⟩
  · intro c x hc'
    exact hin.keep c x (RC.compat him hc (hst.keep c x hc'))
  · intro b hb hno
    exact hfr b hb fun hd => let ⟨id, u, hu, hub⟩ := hown b hd; hno id u hu hub
  · intro id u b hu hb
    rcases hin.own b ⟨id, u, hu, hb⟩ with h1 | h1
    · exact .inr (hownS b h1)
    · rcases how b h1 with h2 | h2
      · exact .inl h2
      · exact .inr (hown b h2)
  · intro b hb
    have h1 := hst.im b hb
    have h2 := him b h1.1
    exact h2
  · intro b hb
    rcases (himn b hb).1 with h1 | h1 | h1
    · exact hst.imn b h1
    · exact .inr (.inl h1)
    · exact .inr (.inr (hown b h1))
theorem RP.plain {ImR : Nat → Prop} {v : PV} {y : Value} (hp : plainP v = true) (h : RP w Im v y) : RP w ImR v y := by
  cases h with
  | int k n => exact .int k n
  | bool b => exact .bool b
  | str s => exact .str s
  | agg cs vs hl h1 hh =>
    refine .agg cs vs hl h1 fun i c y hc hy => ?_
    have := hh i c y hc hy
    simp only [plainP, List.all_eq_true] at hp
    have hp' := hp c (List.mem_of_getElem? hc)
    cases this <;> first | (exact .int _ _) | (exact .bool _) | (exact .str _) | (simp at hp')
  | nil => simp [plainP] at hp
  | row => simp [plainP] at hp
theorem plainP_cells {v : PV} (h : plainP v = true) : ∀ c ∈ v.cells, plainP c = true := by
  intro c hc
  cases v with
  | agg cs =>
    simp only [plainP, List.all_eq_true] at h
    have := h c hc
    cases c <;> simp_all [plainP]
  | _ => simp [PV.cells] at hc; subst hc; exact h
theorem TokC.plain {ImR : Nat → Prop} (hi : ∀ b, ImR b → Im b) {c : CV} {y : Value} (hp : plainC c = true) (h : TokC w Im c y) : TokC w ImR c y := by
  cases c <;> first | exact h.elim | skip
  · exact RP.plain hp h
  · rename_i e sh xs
    obtain ⟨vals, hown, h1, h2, h3, h4⟩ := h
    simp only [plainC, Bool.and_eq_true, List.all_eq_true, Option.isNone_iff_eq_none] at hp
    obtain ⟨hk, hp⟩ := hp
    simp only [RPk, hk] at h2
    refine ⟨vals, hown, h1, fun i x j c y a1 a2 a3 => ?_, fun b hb => ⟨fun _ hI => (h3 b hb).1 rfl (hi b hI), fun h => nomatch h⟩, ?_⟩
    · simp only [RPk, hk]
      exact RP.plain (plainP_cells (hp x (List.mem_of_getElem? a1)) c (List.mem_of_getElem? a2)) (h2 i x j c y a1 a2 a3)
    · simp only [RKids, hk] at h4 ⊢
      exact h4
theorem Toks.plain {ImR : Nat → Prop} (hi : ∀ b, ImR b → Im b) (hp : ∀ c ∈ cs, plainC c = true) (h : Toks w Im cs ys D) : Toks w ImR cs ys D :=
  ⟨h.len, fun i c y hc hy => TokC.plain hi (hp c (List.mem_of_getElem? hc)) (h.tok i c y hc hy), h.dis, h.out⟩
end
end Go.Dp
