/- Handing over: what comes in. -/
import Derived.Test.YtnflnpjojbkgjaaGreatDp12
set_option linter.unusedVariables false
set_option linter.unusedSimpArgs false
namespace Go.Dp

/-- The store, but for some boxes whose cells nobody vouches for. -/
structure SRx (w : World) (Im : Nat → Prop) (ρ : Nat → Option Value) (o : List AObj) (X : Nat → Prop) : Prop where
  ob : ∀ id x v, ¬ X id → o[id]? = some x → ρ id = some v → RO w Im ρ o v x
  inj : ∀ id id' v v' b, ρ id = some v → ρ id' = some v' → Blk v b → Blk v' b → id = id'
  lt : ∀ id v, ρ id = some v → id < o.length ∧ ∀ b, Blk v b → b < w.heap.size
  im : ∀ b, Im b → b < w.heap.size
  dd : ∀ id, o[id]? = some .dead → ρ id = none
section
variable {P : Program} {E : Env} {w w' : World} {Im Im' : Nat → Prop} {ρ ρ' : Nat → Option Value} {o o' : List AObj} {K : Kt} {r : List SV × List (List CV)} {cs : List CV} {ys : List Value} {D D' X : Nat → Prop}
theorem SR.x (h : SR w Im ρ o) (X : Nat → Prop) : SRx w Im ρ o X := ⟨fun id x v _ => h.ob id x v, h.inj, h.lt, h.im, h.dd⟩
theorem SRx.sr (h : SRx w Im ρ o X) (hx : ∀ id, ¬ X id) : SR w Im ρ o := ⟨fun id x v => h.ob id x v (hx id), h.inj, h.lt, h.im, h.dd⟩
theorem SRx.mono {X' : Nat → Prop} (h : SRx w Im ρ o X) (hx : ∀ id, X id → X' id) : SRx w Im ρ o X' := ⟨fun id x v hn => h.ob id x v (fun h => hn (hx id h)), h.inj, h.lt, h.im, h.dd⟩
theorem him_refl : ∀ b, Im b → Im b ∧ w.heap[b]? = w.heap[b]? := fun b hb => ⟨hb, rfl⟩
theorem compat_app (hl : ∀ id v, ρ id = some v → id < o.length) (v : Option Value) (x : AObj) : Compat ρ (upd ρ o.length v) o (o ++ [x]) := by
  intro id a ha
  have hlt := (List.getElem?_eq_some_iff.1 ha).1
  refine ⟨a, by rw [List.getElem?_append_left hlt]; exact ha, ?_⟩
  rw [upd_ne (by omega)]
  cases a <;> simp [CompatO]
/-- What the in-coming leaves alone. -/
structure Inn (w : World) (Im : Nat → Prop) (ρ : Nat → Option Value) (o : List AObj) (ρ' : Nat → Option Value) (o' : List AObj) (A : Nat → Prop) : Prop where
  keep : ∀ c x, RC w Im ρ o c x → RC w Im ρ' o' c x
  own : ∀ b, Ow ρ' b → Ow ρ b ∨ A b
  box : ∀ id cs, o[id]? = some (.box cs) → ∃ cs', o'[id]? = some (.box cs') ∧ ρ' id = ρ id
  mp : Mapped ρ o → Mapped ρ' o'
  len : o.length ≤ o'.length
  no : ∀ id, id < o.length → ρ id = none → ρ' id = none
theorem Inn.refl {A : Nat → Prop} : Inn w Im ρ o ρ o A := ⟨fun _ _ h => h, fun b h => .inl h, fun id cs h => ⟨cs, h, rfl⟩, fun h => h, Nat.le_refl _, fun _ _ h => h⟩
theorem Inn.gr {A : Nat → Prop} (h : Inn w Im ρ o ρ' o' A) : Grown ρ o ρ' o' := ⟨h.len, h.no⟩
theorem Inn.trans {ρ2 : Nat → Option Value} {o2 : List AObj} {A : Nat → Prop} (h : Inn w Im ρ o ρ' o' A) (k : Inn w Im ρ' o' ρ2 o2 A) : Inn w Im ρ o ρ2 o2 A := by
  refine ⟨fun c x hc => k.keep c x (h.keep c x hc), fun b hb => ?_, fun id cs hc => ?_, fun hm => k.mp (h.mp hm), Nat.le_trans h.len k.len, (h.gr.trans k.gr).2⟩
  · rcases k.own b hb with h1 | h1
    · exact h.own b h1
    · exact .inr h1
  · obtain ⟨cs', h1, h2⟩ := h.box id cs hc
    obtain ⟨cs2, h3, h4⟩ := k.box id cs' h1
    exact ⟨cs2, h3, h4.trans h2⟩
theorem Inn.mono {A A' : Nat → Prop} (h : Inn w Im ρ o ρ' o' A) (ha : ∀ b, A b → A' b) : Inn w Im ρ o ρ' o' A' := ⟨h.keep, fun b hb => (h.own b hb).imp (fun h => h) (ha b), h.box, h.mp, h.len, h.no⟩
theorem adopt (hs : SRx w Im ρ o X) {e : Et} {sh : Nat} {xs : List PV} {v : Value} (hr : OwnRow w Im e sh xs v) (hv : ∀ b, Blk v b → ¬ Ow ρ b) :
    SRx w Im (upd ρ o.length (some v)) (o ++ [.arr e sh 0 false xs]) X ∧ Inn w Im ρ o (upd ρ o.length (some v)) (o ++ [.arr e sh 0 false xs]) (fun b => Blk v b) ∧ RC w Im (upd ρ o.length (some v)) (o ++ [.arr e sh 0 false xs]) (.loc o.length 0 sh 0 xs.length) (mainV v) := by
  have hrr := hr
  have hc := compat_app (o := o) (fun id v hv => (hs.lt id v hv).1) (some v) (.arr e sh 0 false xs)
  have cs : ∀ id u, upd ρ o.length (some v) id = some u → (id = o.length ∧ u = v) ∨ (id ≠ o.length ∧ ρ id = some u) := by
    intro id u h
    by_cases e : id = o.length
    · subst e; rw [upd_same] at h; exact .inl ⟨rfl, by injection h with h; exact h.symm⟩
    · rw [upd_ne e] at h; exact .inr ⟨e, h⟩
  obtain ⟨vals, hown, h1, h2, h3, h4⟩ := hr
  refine ⟨⟨?_, ?_, ?_, hs.im, ?_⟩, ⟨fun c y hy => RC.compat him_refl hc hy, ?_, ?_, ?_, by simp, fun id hl h0 => by rw [upd_ne (by omega)]; exact h0⟩, ?_⟩
  · intro id a u hX ha hu
    rcases cs id u hu with ⟨rfl, rfl⟩ | ⟨hne, hu⟩
    · have : a = .arr e sh 0 false xs := by simpa using ha.symm
      subst this
      exact ⟨vals, hown, h1, h2, h3, h4⟩
    · have hlt := (hs.lt id u hu).1
      rw [List.getElem?_append_left hlt] at ha
      exact RO.keep him_refl hc (fun _ _ => rfl) (fun b _ h => h) (hs.ob id a u hX ha hu)
  · intro id id' u u' b hu hu' hb hb'
    rcases cs id u hu with ⟨h1, h2⟩ | ⟨hne, h2⟩ <;> rcases cs id' u' hu' with ⟨h3, h4⟩ | ⟨hne', h4⟩
    · exact h1.trans h3.symm
    · rw [h2] at hb; exact (hv b hb ⟨id', u', h4, hb'⟩).elim
    · rw [h4] at hb'; exact (hv b hb' ⟨id, u, h2, hb⟩).elim
    · exact hs.inj id id' u u' b h2 h4 hb hb'
  · intro id u hu
    rcases cs id u hu with ⟨rfl, rfl⟩ | ⟨hne, hu⟩
    · exact ⟨by simp, fun b hb => RO.arr_lt hrr hb⟩
    · have := hs.lt id u hu
      exact ⟨by simp; omega, this.2⟩
  · intro id hd
    by_cases e1 : id = o.length
    · subst e1; simp at hd
    · rw [upd_ne e1]
      have hlt : id < o.length := by have := (List.getElem?_eq_some_iff.1 hd).1; simp at this; omega
      rw [List.getElem?_append_left hlt] at hd
      exact hs.dd id hd
  · rintro b ⟨id, u, hu, hb⟩
    rcases cs id u hu with ⟨rfl, rfl⟩ | ⟨hne, hu⟩
    · exact .inr hb
    · exact .inl ⟨id, u, hu, hb⟩
  · intro id cs' hc'
    have hlt := (List.getElem?_eq_some_iff.1 hc').1
    exact ⟨cs', by rw [List.getElem?_append_left hlt]; exact hc', upd_ne (by omega)⟩
  · intro hm id a ha hd
    by_cases e1 : id = o.length
    · subst e1; exact ⟨v, upd_same⟩
    · rw [upd_ne e1]
      have hlt : id < o.length := by have := (List.getElem?_eq_some_iff.1 ha).1; simp at this; omega
      rw [List.getElem?_append_left hlt] at ha
      exact hm id a ha hd
  · simp only [RC]
    simp
    exact ⟨v, upd_same, ownsRow_self hown⟩
/-- A box filled. -/
theorem close (hs : SRx w Im ρ o X) {i b : Nat} {c0 ds : List CV} {vs : List Value} (ho : o[i]? = some (.box c0)) (hρ : ρ i = some (.pointer (some ⟨b, 0, none⟩))) (hb : BoxAt w b vs) (hI : ¬ Im b) (hl : vs.length = ds.length)
    (hr : ∀ (k : Nat) (c : CV) (y : Value), ds[k]? = some c → vs[k]? = some y → RC w Im ρ o c (mainV y)) :
    SRx w Im ρ (o.set i (.box ds)) (fun j => X j ∧ j ≠ i) ∧ Inn w Im ρ o ρ (o.set i (.box ds)) (fun _ => False) := by
  have hlt := (List.getElem?_eq_some_iff.1 ho).1
  have hc : Compat ρ ρ o (o.set i (.box ds)) := by
    intro j a ha
    by_cases e1 : j = i
    · subst e1
      rw [ho] at ha
      injection ha with ha
      subst ha
      exact ⟨.box ds, by rw [List.getElem?_set_self hlt], rfl⟩
    · exact ⟨a, by rw [List.getElem?_set_ne (Ne.symm e1)]; exact ha, by cases a <;> simp [CompatO]⟩
  refine ⟨⟨?_, hs.inj, fun id v hv => ⟨by simpa using (hs.lt id v hv).1, (hs.lt id v hv).2⟩, hs.im, ?_⟩, ⟨fun c y hy => RC.compat him_refl hc hy, fun b hb => .inl hb, ?_, ?_, by simp, fun _ _ h => h⟩⟩
  · intro j a v hX ha hv
    by_cases e1 : j = i
    · subst e1
      rw [List.getElem?_set_self hlt] at ha
      injection ha with ha
      subst ha
      rw [hρ] at hv
      injection hv with hv
      subst hv
      obtain ⟨e, he⟩ := hb.1
      refine ⟨b, (vs.map mainV).toArray, e, rfl, he, by simpa using hl, fun k c y hk hy => ?_, fun k y hy => ?_, hI⟩
      · simp only [List.getElem?_toArray, List.getElem?_map, Option.map_eq_some_iff] at hy
        obtain ⟨y', hy', rfl⟩ := hy
        exact RC.compat him_refl hc (hr k c y' hk hy')
      · simp only [List.getElem?_toArray, List.getElem?_map, Option.map_eq_some_iff] at hy
        obtain ⟨y', hy', rfl⟩ := hy
        exact hb.2 y' (List.mem_of_getElem? hy')
    · rw [List.getElem?_set_ne (Ne.symm e1)] at ha
      exact RO.keep him_refl hc (fun _ _ => rfl) (fun _ _ h => h) (hs.ob j a v (fun h => hX ⟨h, e1⟩) ha hv)
  · intro j hd
    by_cases e1 : j = i
    · subst e1; rw [List.getElem?_set_self hlt] at hd; cases hd
    · rw [List.getElem?_set_ne (Ne.symm e1)] at hd; exact hs.dd j hd
  · intro j cs' hj
    by_cases e1 : j = i
    · subst e1; exact ⟨ds, by rw [List.getElem?_set_self hlt], rfl⟩
    · exact ⟨cs', by rw [List.getElem?_set_ne (Ne.symm e1)]; exact hj, rfl⟩
  · intro hm j a ha hd
    by_cases e1 : j = i
    · subst e1; exact ⟨_, hρ⟩
    · rw [List.getElem?_set_ne (Ne.symm e1)] at ha; exact hm j a ha hd

theorem inP_eq (ct : CellT) (c : Option CV) (K : PV → R) : inP ct c K = (asP c).bind fun v => castCell ct v K := by
  cases ct <;> simp only [inP, castCell, cInt, cBool, cStr, cRow] <;> cases asP c <;> rfl
theorem inC_sound {K : CV → List AObj → R} {k : Kind} {c : Option CV} {c1 : CV} {y : Value} {A : Nat → Prop} (hs : SRx w Im ρ o X) (hc : c = some c1) (hT : Toks w Im (c1 :: cs) (y :: ys) (Ow ρ)) (hA : ∀ i b, OB (c1 :: cs) (y :: ys) i b → A b) (h : inC k c o K = some r) :
    ∃ d o1 ρ1, K d o1 = some r ∧ SRx w Im ρ1 o1 X ∧ Inn w Im ρ o ρ1 o1 A ∧ RC w Im ρ1 o1 d (mainV y) ∧ Toks w Im cs ys (Ow ρ1) := by
  subst hc
  have hr := hT.tok 0 c1 y rfl rfl
  have htl : Toks w Im cs ys (Ow ρ) := Toks.right (cs := [c1]) (ys := [y]) rfl hT
  unfold inC at h
  split at h
  · rw [inP_eq] at h
    obtain ⟨v, hv, hk⟩ := bind_some h
    cases c1 <;> simp [asP] at hv
    subst hv
    obtain ⟨v2, hk, hwk⟩ := castCell_some hk
    exact ⟨.p v2, o, ρ, hk, hs, Inn.refl, by rw [RP.mainV hr]; exact hwk.2 _ _ _ hr, htl⟩
  · rename_i e sh
    obtain ⟨xs, hv, hk⟩ := bind_some h
    cases c1 <;> simp only [asOwn] at hv <;> first | (cases hv; done) | skip
    rename_i e' sh' xs'
    obtain ⟨hcnd, hv2⟩ := bif_some hv
    simp only [Bool.and_eq_true, beq_iff_eq] at hcnd
    obtain ⟨rfl, rfl⟩ := hcnd
    injection hv2 with hv2
    subst hv2
    have hnew : ∀ b, Blk y b → OB (.own e sh xs' :: cs) (y :: ys) 0 b := fun b hb => ⟨_, _, _, y, rfl, rfl, hb⟩
    obtain ⟨h1, h2, h3⟩ := adopt hs hr (fun b hb => hT.out 0 b (hnew b hb))
    refine ⟨_, _, _, hk, h1, h2.mono fun b hb => hA 0 b (hnew b hb), h3, htl.keep him_refl fun i b hob => ⟨rfl, (htl.lt hob).2, fun hO => ?_⟩⟩
    rcases h2.own b hO with h4 | h4
    · exact htl.out i b hob h4
    · have := hT.dis _ _ b (hnew b h4) (OB.right (cs := [.own e sh xs']) (ys := [y]) rfl hob)
      simp at this
      omega
theorem inCs_sound {A : Nat → Prop} {get : Nat → Option CV} : ∀ {ks : List Kind} {i : Nat} {c0 : List CV} {y0 : List Value} {o : List AObj} {ρ : Nat → Option Value} {K : List CV → List AObj → R}, SRx w Im ρ o X → c0.length = ks.length → y0.length = ks.length →
    (∀ t, t < ks.length → get (i + t) = c0[t]?) → Toks w Im (c0 ++ cs) (y0 ++ ys) (Ow ρ) → (∀ i b, OB (c0 ++ cs) (y0 ++ ys) i b → A b) → inCs get ks i o K = some r →
    ∃ ds o1 ρ1, K ds o1 = some r ∧ SRx w Im ρ1 o1 X ∧ Inn w Im ρ o ρ1 o1 A ∧ ds.length = ks.length ∧ (∀ (t : Nat) (d : CV) (y : Value), ds[t]? = some d → y0[t]? = some y → RC w Im ρ1 o1 d (mainV y)) ∧ Toks w Im cs ys (Ow ρ1)
  | [], i, c0, y0, o, ρ, K, hs, hl, hl2, hg, hT, hA, h => by
    simp only [inCs] at h
    have e1 : c0 = [] := List.eq_nil_of_length_eq_zero hl
    have e2 : y0 = [] := List.eq_nil_of_length_eq_zero hl2
    subst e1
    subst e2
    exact ⟨[], o, ρ, h, hs, Inn.refl, rfl, fun t d y hd => by simp at hd, by simpa using hT⟩
  | k :: ks, i, c0, y0, o, ρ, K, hs, hl, hl2, hg, hT, hA, h => by
    cases c0 with
    | nil => simp at hl
    | cons c c0 =>
      cases y0 with
      | nil => simp at hl2
      | cons y y0 =>
        simp only [inCs] at h
        have hg0 := hg 0 (by simp)
        simp only [Nat.add_zero, List.getElem?_cons_zero] at hg0
        obtain ⟨d, o1, ρ1, h, hs1, hin, hr, hT1⟩ := inC_sound (cs := c0 ++ cs) (ys := y0 ++ ys) (A := A) hs hg0 (by simpa using hT) (by simpa using hA) h
        obtain ⟨ds, o2, ρ2, h, hs2, hin2, hl3, hr2, hT2⟩ := inCs_sound (c0 := c0) (y0 := y0) hs1 (by simpa using hl) (by simpa using hl2)
          (fun t ht => by rw [show i + 1 + t = i + (t + 1) by omega, hg (t + 1) (by simpa using ht)]; simp) hT1 (fun j b hob => hA _ b (OB.right (cs := [c]) (ys := [y]) rfl hob)) h
        refine ⟨d :: ds, o2, ρ2, h, hs2, hin.trans hin2, by simp [hl3], ?_, hT2⟩
        intro t d' y' hd' hy'
        cases t with
        | zero =>
          simp at hd' hy'
          subst hd'
          subst hy'
          exact hin2.keep _ _ hr
        | succ t => exact hr2 t d' y' (by simpa using hd') (by simpa using hy')

theorem cellAt_get {bs : List (List CV)} {j : Nat} {c0 : List CV} (h : bs[j]? = some c0) (i : Nat) : cellAt bs j i = c0[i]? := by simp [cellAt, h]
/-- The boxes are filled, one by one. -/
theorem inBs_sound {A : Nat → Prop} {bs : List (List CV)} : ∀ {kss : List (List Kind)} {is : List Nat} {j : Nat} {bsr : List (List CV)} {vss : List (List Value)} {o : List AObj} {ρ : Nat → Option Value} {K : List AObj → R}, SRx w Im ρ o (· ∈ is) →
    bsr.map List.length = kss.map List.length → vss.map List.length = kss.map List.length → is.length = kss.length → (∀ t, t < kss.length → bs[j + t]? = bsr[t]?) →
    (∀ (t i : Nat) (vs : List Value), is[t]? = some i → vss[t]? = some vs → ∃ b c0, o[i]? = some (.box c0) ∧ ρ i = some (.pointer (some ⟨b, 0, none⟩)) ∧ BoxAt w b vs ∧ ¬ Im b) →
    Toks w Im (bsr.flatten ++ cs) (vss.flatten ++ ys) (Ow ρ) → (∀ i b, OB (bsr.flatten ++ cs) (vss.flatten ++ ys) i b → A b) → inBs bs kss is j o K = some r →
    ∃ o1 ρ1, K o1 = some r ∧ SR w Im ρ1 o1 ∧ Inn w Im ρ o ρ1 o1 A ∧ Toks w Im cs ys (Ow ρ1)
  | [], [], j, bsr, vss, o, ρ, K, hs, hl, hl2, hli, hg, hb, hT, hA, h => by
    simp only [inBs] at h
    have e1 : bsr = [] := by simpa using hl
    have e2 : vss = [] := by simpa using hl2
    subst e1
    subst e2
    exact ⟨o, ρ, h, hs.sr (by simp), Inn.refl, by simpa using hT⟩
  | ks :: kss, i :: is, j, bsr, vss, o, ρ, K, hs, hl, hl2, hli, hg, hb, hT, hA, h => by
    cases bsr with
    | nil => simp at hl
    | cons c0 bsr =>
      cases vss with
      | nil => simp at hl2
      | cons v0 vss =>
        simp only [inBs] at h
        simp only [List.map_cons, List.cons.injEq] at hl hl2
        have hg0 := hg 0 (by simp)
        simp only [Nat.add_zero, List.getElem?_cons_zero] at hg0
        have hlen : v0.length = c0.length := by rw [hl.1, hl2.1]
        obtain ⟨ds, o1, ρ1, h, hs1, hin, hl3, hr, hT1⟩ := inCs_sound (cs := bsr.flatten ++ cs) (ys := vss.flatten ++ ys) (A := A) (c0 := c0) (y0 := v0) hs hl.1 hl2.1 (fun t ht => by rw [Nat.zero_add]; exact cellAt_get hg0 t)
          (by simpa using hT) (by simpa using hA) h
        obtain ⟨b, c00, ho, hρ, hbx, hI⟩ := hb 0 i v0 rfl rfl
        obtain ⟨c1, ho1, hρ1⟩ := hin.box i c00 ho
        rw [hρ] at hρ1
        obtain ⟨hs2, hin2⟩ := close hs1 ho1 hρ1 hbx hI (by rw [hl3]; exact hl2.1) hr
        have hin2' : Inn w Im ρ1 o1 ρ1 (o1.set i (.box ds)) A := hin2.mono fun _ h => h.elim
        have hb2 : ∀ (t i' : Nat) (vs : List Value), is[t]? = some i' → vss[t]? = some vs → ∃ b c0, (o1.set i (.box ds))[i']? = some (.box c0) ∧ ρ1 i' = some (.pointer (some ⟨b, 0, none⟩)) ∧ BoxAt w b vs ∧ ¬ Im b := by
          intro t i' vs hi hv
          obtain ⟨b', c2, h1, h2, h3, h4⟩ := hb (t + 1) i' vs (by simpa using hi) (by simpa using hv)
          obtain ⟨c3, h5, h6⟩ := (hin.trans hin2').box i' c2 h1
          exact ⟨b', c3, h5, h6.trans h2, h3, h4⟩
        obtain ⟨o3, ρ3, hk, hs3, hin3, hT3⟩ := inBs_sound (bsr := bsr) (vss := vss) (hs2.mono (X' := (· ∈ is)) fun id hid => by
            rcases List.mem_cons.1 hid.1 with h1 | h1
            · exact absurd h1 hid.2
            · exact h1) hl.2 hl2.2 (by simpa using hli)
          (fun t ht => by rw [show j + 1 + t = j + (t + 1) by omega, hg (t + 1) (by simpa using ht)]; simp) hb2 hT1 (fun t b hob => by
            have := OB.right (cs := c0) (ys := v0) hlen hob
            exact hA _ b (by simpa using this)) h
        exact ⟨o3, ρ3, hk, hs3, (hin.trans hin2').trans hin3, hT3⟩
  | [], _ :: _, _, _, _, _, _, _, _, _, _, _, _, _, _, _, h => by simp [inBs] at h
  | _ :: _, [], _, _, _, _, _, _, _, _, _, _, _, _, _, _, h => by simp [inBs] at h
theorem lenS_zero {d : SV} {k : Kind} (h : lenS d = lenK (.c k)) : ∃ c, d = .c c := by cases d <;> simp_all [lenS, lenK]
theorem lenS_succ {d : SV} {ks : List Kind} (h : lenS d = lenK (.agg ks)) : ∃ c, d = .agg c ∧ c.length = ks.length := by cases d <;> simp_all [lenS, lenK]
theorem inSs_sound {A : Nat → Prop} {vs : List SV} : ∀ {ks : List RK} {j : Nat} {vr : List SV} {y0 zs : List Value} {o : List AObj} {ρ : Nat → Option Value} {K : List SV → List AObj → R}, SR w Im ρ o → vr.map lenS = ks.map lenK → RetSs vr y0 zs →
    (∀ t, t < ks.length → vs[j + t]? = vr[t]?) → Toks w Im (vr.flatMap cellsOfS) zs (Ow ρ) → (∀ i b, OB (vr.flatMap cellsOfS) zs i b → A b) → inSs vs ks j o K = some r →
    ∃ ds o1 ρ1, K ds o1 = some r ∧ SR w Im ρ1 o1 ∧ Inn w Im ρ o ρ1 o1 A ∧ ds.length = ks.length ∧ y0.length = ks.length ∧ ∀ (t : Nat) (d : SV) (y : Value), ds[t]? = some d → y0[t]? = some y → RS w Im ρ1 o1 d y
  | [], j, vr, y0, zs, o, ρ, K, hs, hl, hret, hg, hT, hA, h => by
    simp only [inSs] at h
    have e1 : vr = [] := by simpa using hl
    subst e1
    cases hret
    exact ⟨[], o, ρ, h, hs, Inn.refl, rfl, rfl, fun t d y hd => by simp at hd⟩
  | k :: ks, j, vr, y0, zs, o, ρ, K, hs, hl, hret, hg, hT, hA, h => by
    cases hret with
    | nil => simp at hl
    | @cons d0 y z0 vr y0 zs h0 hrest =>
      simp only [List.map_cons, List.cons.injEq] at hl
      have hg0 := hg 0 (by simp)
      simp only [Nat.add_zero, List.getElem?_cons_zero] at hg0
      have hgr : ∀ t, t < ks.length → vs[j + 1 + t]? = vr[t]? := fun t ht => by rw [show j + 1 + t = j + (t + 1) by omega, hg (t + 1) (by simpa using ht)]; simp
      cases k with
      | c k =>
        obtain ⟨c, rfl⟩ := lenS_zero hl.1
        simp only [RetS] at h0
        obtain ⟨g, rfl, rfl⟩ := h0
        simp only [inSs] at h
        obtain ⟨d, o1, ρ1, h, hs1, hin, hr, hT1⟩ := inC_sound (cs := vr.flatMap cellsOfS) (ys := zs) (A := A) (X := fun _ => False) (c1 := c) (y := g) (hs.x _) (by simp [resAt, hg0]) (by simpa [cellsOfS] using hT) (by simpa [cellsOfS] using hA) h
        obtain ⟨ds, o2, ρ2, h, hs2, hin2, hl3, hl4, hr2⟩ := inSs_sound (hs1.sr fun _ h => h) hl.2 hrest hgr hT1 (fun t b hob => hA _ b (by simpa [cellsOfS] using OB.right (cs := [c]) (ys := [g]) rfl hob)) h
        refine ⟨.c d :: ds, o2, ρ2, h, hs2, hin.trans hin2, by simp [hl3], by simp [hl4], ?_⟩
        intro t d' y' hd' hy'
        cases t with
        | zero =>
          simp at hd' hy'
          subst hd'
          subst hy'
          exact hin2.keep _ _ hr
        | succ t => exact hr2 t d' y' (by simpa using hd') (by simpa using hy')
      | agg kk =>
        obtain ⟨c, rfl, hcl⟩ := lenS_succ hl.1
        obtain ⟨hzl, rfl, hz1⟩ := h0
        simp only [inSs] at h
        obtain ⟨d, o1, ρ1, h, hs1, hin, hdl, hr, hT1⟩ := inCs_sound (cs := vr.flatMap cellsOfS) (ys := zs) (A := A) (X := fun _ => False) (c0 := c) (y0 := z0) (hs.x _) hcl (by omega) (fun t ht => by simp [partAt, hg0]) (by simpa [cellsOfS] using hT) (by simpa [cellsOfS] using hA) h
        obtain ⟨ds, o2, ρ2, h, hs2, hin2, hl3, hl4, hr2⟩ := inSs_sound (hs1.sr fun _ h => h) hl.2 hrest hgr hT1 (fun t b hob => hA _ b (by simpa [cellsOfS] using OB.right (cs := c) (ys := z0) hzl hob)) h
        refine ⟨mkAgg d :: ds, o2, ρ2, h, hs2, hin.trans hin2, by simp [hl3], by simp [hl4], ?_⟩
        intro t d' y' hd' hy'
        cases t with
        | zero =>
          simp at hd' hy'
          subst hd'
          subst hy'
          refine mkAgg_sound (by simp; omega) (fun i c' y hc' hy => ?_) (fun i y hy => ?_)
          · simp only [List.getElem?_toArray, List.getElem?_map, Option.map_eq_some_iff] at hy
            obtain ⟨y', hy', rfl⟩ := hy
            exact hin2.keep _ _ (hr i c' y' hc' hy')
          · simp only [List.getElem?_toArray, List.getElem?_map, Option.map_eq_some_iff] at hy
            obtain ⟨y', hy', rfl⟩ := hy
            exact hz1 y' (List.mem_of_getElem? hy')
        | succ t => exact hr2 t d' y' (by simpa using hd') (by simpa using hy')
end
end Go.Dp
