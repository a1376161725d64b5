/- Memory that is made and written. -/
import Derived.Test.YtnliglgellapdaaDp4
set_option linter.unusedVariables false
set_option linter.unusedSimpArgs false
namespace Go.Dp

/-- How a column may change: its version tells. -/
def KdC : Option Kd → Option Kd → Prop → Prop
  | _, none, _ => True
  | none, some _, _ => False
  | some k, some k', p => k.nv < k'.nv ∨ (k = k' ∧ p)
@[simp] theorem KdC_refl (a : Option Kd) : KdC a a True = True := by cases a <;> simp [KdC]
theorem KdC_refl' (a : Option Kd) {p : Prop} (h : p) : KdC a a p := by cases a <;> simp [KdC, h]
theorem KdC_none {a b : Option Kd} {p : Prop} (h : b = none) : KdC a b p := by subst h; cases a <;> trivial
/-- How an object may change under the eyes of those who know of it. -/
def CompatO (v v' : Option Value) : AObj → AObj → Prop
  | .box _, .box _ => v' = v
  | .box _, .dead => True
  | .arr e sh ver _ xs, .arr e' sh' ver' _ xs' => ver < ver' ∨ (ver = ver' ∧ sh = sh' ∧ xs.length ≤ xs'.length ∧ v'.map mainV = v.map mainV ∧ KdC e.kd e'.kd (v' = v))
  | .arr .., .dead => True
  | .dead, .dead => True
  | _, _ => False
def Compat (ρ ρ' : Nat → Option Value) (o o' : List AObj) : Prop := ∀ id a, o[id]? = some a → ∃ a', o'[id]? = some a' ∧ CompatO (ρ id) (ρ' id) a a'
section
variable {P : Program} {E : Env} {w w' : World} {Im Im' : Nat → Prop} {ρ ρ' : Nat → Option Value} {o o' : List AObj} {K : Kt} {r : List SV × List (List CV)}

theorem main_map {a b : Option Value} {v : Value} (h : b.map mainV = a.map mainV) (hv : a = some v) : ∃ v', b = some v' ∧ mainV v' = mainV v := by
  subst hv
  cases b with
  | none => simp at h
  | some v' => exact ⟨v', rfl, by simpa using h⟩
theorem RB.compat (hc : Compat ρ ρ' o o') {id off : Nat} {x : Value} (h : RB ρ o id off x) : RB ρ' o' id off x := by
  unfold RB at h ⊢
  split at h
  · rename_i cs ho
    obtain ⟨a', ha', hcc⟩ := hc id _ ho
    obtain ⟨b, hb, hx⟩ := h
    rw [ha']
    cases a' <;> simp only [CompatO] at hcc
    · trivial
    · exact ⟨b, hcc.trans hb, hx⟩
  · rename_i a _ ho
    obtain ⟨a', ha', hcc⟩ := hc id _ ho
    rw [ha']
    cases a <;> cases a' <;> simp_all [CompatO]
  · exact h.elim
theorem RC.compat (hi : ∀ b, Im b → Im' b ∧ w'.heap[b]? = w.heap[b]?) (hc : Compat ρ ρ' o o') {c : CV} {x : Value} (h : RC w Im ρ o c x) : RC w' Im' ρ' o' c x := by
  cases c with
  | undef => trivial
  | p v => exact RP.mono hi h
  | loc id ver sh lo len =>
    simp only [RC] at h ⊢
    split at h
    · rename_i e sh' ver' fz xs ho
      obtain ⟨a', ha', hcc⟩ := hc id _ ho
      simp only [ha']
      cases a' with
      | dead => trivial
      | box cs => exact hcc.elim
      | arr e2 sh2 ver2 fz2 xs2 =>
        rcases hcc with hlt | ⟨rfl, rfl, hlen, hρ, _⟩
        · exact ⟨by omega, fun he => by omega⟩
        · refine ⟨h.1, fun he hs => ?_⟩
          obtain ⟨hle, v, hv, hsl⟩ := h.2 he hs
          obtain ⟨v', hv', hm⟩ := main_map hρ hv
          exact ⟨by omega, v', hv', by rw [hm]; exact hsl⟩
    · rename_i a hno ho
      obtain ⟨a', ha', hcc⟩ := hc id _ ho
      simp only [ha']
      cases a with
      | arr e1 s1 v1 f1 x1 => exact (hno e1 s1 v1 f1 x1 rfl).elim
      | _ => cases a' <;> simp_all [CompatO]
    · exact h.elim
  | bptr id off => exact RB.compat hc h
  | aptr id ver sh i off =>
    simp only [RC] at h ⊢
    split at h
    · rename_i e sh' ver' fz xs ho
      obtain ⟨a', ha', hcc⟩ := hc id _ ho
      simp only [ha']
      cases a' with
      | dead => trivial
      | box cs => exact hcc.elim
      | arr e2 sh2 ver2 fz2 xs2 =>
        rcases hcc with hlt | ⟨rfl, rfl, hlen, hρ, _⟩
        · exact ⟨by omega, fun he => by omega⟩
        · refine ⟨h.1, fun he hs => ?_⟩
          obtain ⟨hle, g, n, cap, v, hv, hvm, hx⟩ := h.2 he hs
          obtain ⟨v', hv', hm⟩ := main_map hρ hv
          exact ⟨by omega, g, n, cap, v', hv', hm.trans hvm, hx⟩
    · rename_i a hno ho
      obtain ⟨a', ha', hcc⟩ := hc id _ ho
      simp only [ha']
      cases a with
      | arr e1 s1 v1 f1 x1 => exact (hno e1 s1 v1 f1 x1 rfl).elim
      | _ => cases a' <;> simp_all [CompatO]
    · exact h.elim
  | eptr v sh off =>
    obtain ⟨b, base, hx, hb, hs, hh⟩ := h
    refine ⟨b, base, hx, (hi b hb).1, hs, fun j c hj => ?_⟩
    obtain ⟨y, hy, hr⟩ := hh j c hj
    exact ⟨y, (cell_same (w := w) (w' := w') (a := ⟨b, base + j, none⟩) (hi b hb).2).trans hy, RP.mono hi hr⟩
  | fn f caps =>
    obtain ⟨vs, hx, hl, hh⟩ := h
    exact ⟨vs, hx, hl, fun i id hid => let ⟨y, hy, hr⟩ := hh i id hid; ⟨y, hy, RB.compat hc hr⟩⟩
  | own e sh xs => exact h.elim
  | nel id ver nv i =>
    simp only [RC] at h ⊢
    split at h
    · rename_i e sh' ver' fz xs ho
      obtain ⟨a', ha', hcc⟩ := hc id _ ho
      simp only [ha']
      cases a' with
      | dead => trivial
      | box cs => exact hcc.elim
      | arr e2 sh2 ver2 fz2 xs2 =>
        rcases hcc with hlt | ⟨rfl, rfl, hlen, hρ, hk⟩
        · exact ⟨by omega, fun he => by omega⟩
        · refine ⟨h.1, fun he k2 hk2 => ?_⟩
          rw [hk2] at hk
          cases hk1 : e.kd with
          | none => rw [hk1] at hk; exact hk.elim
          | some k1 =>
            obtain ⟨h1, h2⟩ := h.2 he k1 hk1
            rw [hk1] at hk
            rcases hk with hlt | ⟨rfl, hp⟩
            · exact ⟨by omega, fun hh => by omega⟩
            · refine ⟨h1, fun hh hh2 => ?_⟩
              obtain ⟨h3, m, ks, h4, h5⟩ := h2 hh hh2
              exact ⟨by omega, m, ks, hp.trans h4, h5⟩
    · rename_i a hno ho
      obtain ⟨a', ha', hcc⟩ := hc id _ ho
      simp only [ha']
      cases a with
      | arr e1 s1 v1 f1 x1 => exact (hno e1 s1 v1 f1 x1 rfl).elim
      | _ => cases a' <;> simp_all [CompatO]
    · exact h.elim
theorem Row1.keep (hi : ∀ b, Im b → Im' b ∧ w'.heap[b]? = w.heap[b]?) {e sh : Nat} {u : Value} {ys : List PV} (hb : ∀ b, kidBlk u b → w'.heap[b]? = w.heap[b]?) (h : Row1 w Im e sh u ys) : Row1 w' Im' e sh u ys := by
  obtain ⟨vals, hown, h1, h2⟩ := h
  refine ⟨vals, ⟨hown.1, ?_⟩, h1, fun i x j c y a1 a2 a3 => RP.mono hi (h2 i x j c y a1 a2 a3)⟩
  rcases hown.2 with hn | ⟨g, cap, cur, rfl, hb', hh, rest⟩
  · exact .inl hn
  · exact .inr ⟨g, cap, cur, rfl, hb', (hb g rfl).trans hh, rest⟩
theorem RPk.keep (hi : ∀ b, Im b → Im' b ∧ w'.heap[b]? = w.heap[b]?) {e : Et} {j : Nat} {c : PV} {y : Value} (h : RPk w Im e j c y) : RPk w' Im' e j c y := by
  unfold RPk at h ⊢
  split
  · rename_i he; rw [he] at h; exact RP.mono hi h
  · rename_i k he; rw [he] at h; exact fun hj => RP.mono hi (h hj)
theorem KidsOK.keep (hi : ∀ b, Im b → Im' b ∧ w'.heap[b]? = w.heap[b]?) {k : Kd} {sh : Nat} {xs : List PV} {vals ks : List Value} (hb : ∀ (i : Nat) (u : Value) (b : Nat), ks[i]? = some u → kidBlk u b → w'.heap[b]? = w.heap[b]?) (h : KidsOK w Im k sh xs vals ks) : KidsOK w' Im' k sh xs vals ks := by
  refine ⟨h.len, h.jlt, fun i x hx hh => ?_, h.out, h.inj, h.one⟩
  obtain ⟨f, ys, u, h1, hf, h2, h3, h4⟩ := h.kid i x hx hh
  exact ⟨f, ys, u, h1, hf, h2, h3, h4.keep hi fun b hbk => hb i u b h2 hbk⟩
theorem kids_Blk {v : Value} {ks : List Value} {i b : Nat} {u m : Value} (hv : v = .tuple (m :: ks).toArray) (hi : ks[i]? = some u) (hb : kidBlk u b) : Blk v b := by
  subst hv
  exact ⟨i + 1, u, by simpa using hi, hb⟩
theorem RKids.keep (hi : ∀ b, Im b → Im' b ∧ w'.heap[b]? = w.heap[b]?) {e : Et} {sh : Nat} {fz : Bool} {xs : List PV} {vals : List Value} {v : Value} (hb : ∀ b, Blk v b → w'.heap[b]? = w.heap[b]?) (h : RKids w Im e sh fz xs vals v) : RKids w' Im' e sh fz xs vals v := by
  unfold RKids at h ⊢
  split
  · rename_i he
    rw [he] at h
    exact h
  · rename_i k he
    rw [he] at h
    obtain ⟨hf, ks, hv, hk, hd⟩ := h
    exact ⟨hf, ks, hv, hk.keep hi fun i u b hu hbk => hb b (kids_Blk hv hu hbk), hd⟩
theorem ownsRow_main {base : Nat} {e s n : Nat} {v : Value} {xs : List Value} (hb : ∀ b, kidBlk v b → w'.heap[b]? = w.heap[b]?) (h : w.ownsRow base e s v n xs) : w'.ownsRow base e s v n xs := by
  refine ⟨h.1, ?_⟩
  rcases h.2 with hn | ⟨g, cap, cur, rfl, hb', hh, rest⟩
  · exact .inl hn
  · exact .inr ⟨g, cap, cur, rfl, hb', (hb g rfl).trans hh, rest⟩
theorem ownsRow_same {base : Nat} {e s n : Nat} {v : Value} {xs : List Value} (hb : ∀ b, Blk v b → w'.heap[b]? = w.heap[b]?) (h : w.ownsRow base e s v n xs) : w'.ownsRow base e s v n xs := by
  refine ⟨h.1, ?_⟩
  rcases h.2 with hn | ⟨g, cap, cur, rfl, hb', hh, rest⟩
  · exact .inl hn
  · exact .inr ⟨g, cap, cur, rfl, hb', (hb g rfl).trans hh, rest⟩
/-- An object that nobody touched. -/
theorem RO.keep (hi : ∀ b, Im b → Im' b ∧ w'.heap[b]? = w.heap[b]?) (hc : Compat ρ ρ' o o') {v : Value} {x : AObj} (hb : ∀ b, Blk v b → w'.heap[b]? = w.heap[b]?) (hn : ∀ b, Blk v b → Im' b → Im b) (h : RO w Im ρ o v x) : RO w' Im' ρ' o' v x := by
  cases x with
  | dead => trivial
  | box cs =>
    obtain ⟨b, vs, e, rfl, hh, hl, hr, h1, hni⟩ := h
    exact ⟨b, vs, e, rfl, (hb b rfl).trans hh, hl, fun i c y hc' hy => RC.compat hi hc (hr i c y hc' hy), h1, fun him => hni (hn b rfl him)⟩
  | arr e sh ver fz xs =>
    obtain ⟨vals, hown, hs, hr, hz, hk⟩ := h
    exact ⟨vals, ownsRow_main (fun b hbk => hb b (main_Blk hbk)) hown, hs, fun i x j c y h1 h2 h3 => (hr i x j c y h1 h2 h3).keep hi, fun b hbk => ⟨fun hf him => (hz b hbk).1 hf (hn b hbk him), fun hf => (hi b ((hz b hbk).2 hf)).1⟩, hk.keep hi hb⟩

def upd (ρ : Nat → Option Value) (id : Nat) (v : Option Value) : Nat → Option Value := fun i => if i = id then v else ρ i
theorem upd_same {ρ : Nat → Option Value} {id : Nat} {v : Option Value} : upd ρ id v id = v := by simp [upd]
theorem upd_ne {ρ : Nat → Option Value} {id i : Nat} {v : Option Value} (h : i ≠ id) : upd ρ id v i = ρ i := by simp [upd, h]
theorem compat_new (hs : SR w Im ρ o) (v : Option Value) (x : AObj) : Compat ρ (upd ρ o.length v) o (o ++ [x]) := by
  intro id a ha
  have hlt := (List.getElem?_eq_some_iff.1 ha).1
  refine ⟨a, by rw [List.getElem?_append_left hlt]; exact ha, ?_⟩
  rw [upd_ne (by omega)]
  cases a <;> simp [CompatO]
/-- One new object. -/
theorem Step.new (hs : SR w Im ρ o) (hwd : Wd w w') (hh : ∀ b, b < w.heap.size → w'.heap[b]? = w.heap[b]?) {v : Value} {x : AObj} (hx : x ≠ .dead) (hv : ∀ b, Blk v b → w.heap.size ≤ b ∧ b < w'.heap.size)
    (hro : RO w' Im (upd ρ o.length (some v)) (o ++ [x]) v x) : Step w Im ρ o w' Im (upd ρ o.length (some v)) (o ++ [x]) := by
  have hc := compat_new hs (some v) x
  have him : ∀ b, Im b → Im b ∧ w'.heap[b]? = w.heap[b]? := fun b hb => ⟨hb, hh b (hs.im b hb)⟩
  have hn : ρ o.length = none := by
    cases h : ρ o.length with
    | none => rfl
    | some u => have := (hs.lt _ u h).1; omega
  have cs : ∀ id u, upd ρ o.length (some v) id = some u → (id = o.length ∧ u = v) ∨ (id ≠ o.length ∧ ρ id = some u) := by
    intro id u h
    by_cases e : id = o.length
    · subst e; rw [upd_same] at h; exact .inl ⟨rfl, by injection h with h; exact h.symm⟩
    · rw [upd_ne e] at h; exact .inr ⟨e, h⟩
  refine ⟨hwd, ⟨?_, ?_, ?_, fun b hb => Nat.lt_of_lt_of_le (hs.im b hb) hwd.size, ?_⟩, fun c y hy => RC.compat him hc hy, fun b hb _ => hh b hb, ?_, him, fun b hb => .inl hb, ?_, ⟨by simp, fun id hl h0 => by rw [upd_ne (by omega)]; exact h0⟩⟩
  · intro id a u ha hu
    rcases cs id u hu with ⟨rfl, rfl⟩ | ⟨hne, hu⟩
    · have : a = x := by simpa using ha.symm
      subst this
      exact hro
    · have hlt := (hs.lt id u hu).1
      rw [List.getElem?_append_left hlt] at ha
      exact RO.keep him hc (fun b hb => hh b ((hs.lt id u hu).2 b hb)) (fun b _ h => h) (hs.ob id a u ha hu)
  · intro id id' u u' b hu hu' hb hb'
    rcases cs id u hu with ⟨h1, h2⟩ | ⟨hne, h2⟩ <;> rcases cs id' u' hu' with ⟨h3, h4⟩ | ⟨hne', h4⟩
    · exact h1.trans h3.symm
    · rw [h2] at hb; have := (hv b hb).1; have := (hs.lt id' u' h4).2 b hb'; omega
    · rw [h4] at hb'; have := (hv b hb').1; have := (hs.lt id u h2).2 b hb; omega
    · exact hs.inj id id' u u' b h2 h4 hb hb'
  · intro id u hu
    rcases cs id u hu with ⟨rfl, rfl⟩ | ⟨hne, hu⟩
    · exact ⟨by simp, fun b hb => (hv b hb).2⟩
    · have := hs.lt id u hu
      exact ⟨by simp; omega, fun b hb => Nat.lt_of_lt_of_le (this.2 b hb) hwd.size⟩
  · intro id hd
    by_cases e : id = o.length
    · subst e; simp at hd; exact absurd hd hx
    · rw [upd_ne e]
      have hlt : id < o.length := by have := (List.getElem?_eq_some_iff.1 hd).1; simp at this; omega
      rw [List.getElem?_append_left hlt] at hd
      exact hs.dd id hd
  · intro id u b hu hb
    rcases cs id u hu with ⟨rfl, rfl⟩ | ⟨hne, hu⟩
    · exact .inl (hv b hb).1
    · exact .inr ⟨id, u, hu, hb⟩
  · intro hm id a ha hd
    by_cases e : id = o.length
    · subst e; exact ⟨v, upd_same⟩
    · rw [upd_ne e]
      have hlt : id < o.length := by have := (List.getElem?_eq_some_iff.1 ha).1; simp at this; omega
      rw [List.getElem?_append_left hlt] at ha
      exact hm id a ha hd
/-- Some objects turned, made or done with, none of them let go; nobody else's block is written. -/
theorem Step.multi (hs : SR w Im ρ o) (hwd : Wd w w') (S : Nat → Prop) (hlen : o.length ≤ o'.length) (hsame : ∀ id, ¬ S id → id < o.length → o'[id]? = o[id]? ∧ ρ' id = ρ id) (hnew : ∀ id, o.length ≤ id → ¬ S id → o'[id]? = none ∧ ρ' id = none)
    (hc : Compat ρ ρ' o o') (hh : ∀ b, b < w.heap.size → (∀ id v, S id → ρ id = some v → ¬ Blk v b) → w'.heap[b]? = w.heap[b]?) (hni : ∀ id v b, S id → ρ id = some v → Blk v b → ¬ Im b)
    (hv : ∀ id v b, S id → ρ' id = some v → Blk v b → (∃ id0 v0, S id0 ∧ ρ id0 = some v0 ∧ Blk v0 b) ∨ w.heap.size ≤ b) (hv2 : ∀ id v, S id → ρ' id = some v → id < o'.length ∧ ∀ b, Blk v b → b < w'.heap.size)
    (hinj : ∀ id id' v v' b, S id → S id' → ρ' id = some v → ρ' id' = some v' → Blk v b → Blk v' b → id = id')
    (hro : ∀ id x v, S id → o'[id]? = some x → ρ' id = some v → RO w' Im ρ' o' v x) (hdd : ∀ id, S id → o'[id]? = some .dead → ρ' id = none)
    (hmp : ∀ id x, S id → o'[id]? = some x → x ≠ .dead → ∃ v, ρ' id = some v) (hgr : ∀ id, S id → id < o.length → ρ id = none → ρ' id = none) : Step w Im ρ o w' Im ρ' o' := by
  have hb : ∀ b, b < w.heap.size → (∀ id v, S id → ρ id = some v → ¬ Blk v b) → w'.heap[b]? = w.heap[b]? := hh
  have him : ∀ b, Im b → Im b ∧ w'.heap[b]? = w.heap[b]? := fun b hI => ⟨hI, hb b (hs.im b hI) fun id v h1 h2 h3 => hni id v b h1 h2 h3 hI⟩
  have old : ∀ id v, ¬ S id → ρ' id = some v → id < o.length ∧ o'[id]? = o[id]? ∧ ρ id = some v := by
    intro id v hS hv
    rcases Nat.lt_or_ge id o.length with hl | hl
    · obtain ⟨h1, h2⟩ := hsame id hS hl
      exact ⟨hl, h1, h2 ▸ hv⟩
    · have := (hnew id hl hS).2; rw [hv] at this; cases this
  have oth : ∀ id v b, ¬ S id → ρ id = some v → Blk v b → w'.heap[b]? = w.heap[b]? := fun id v b hS hv hbk => hb b ((hs.lt id v hv).2 b hbk) fun id' v' h1 h2 h3 => hS ((hs.inj id id' v v' b hv h2 hbk h3) ▸ h1)
  refine ⟨hwd, ⟨?_, ?_, ?_, fun b hb => Nat.lt_of_lt_of_le (hs.im b hb) hwd.size, ?_⟩, fun c y hy => RC.compat him hc hy, fun b hb' hno => hb b hb' fun id v _ h2 => hno id v h2, ?_, him, fun b hb => .inl hb, ?_, ⟨hlen, fun id hl h0 => ?_⟩⟩
  · intro id x v hx hv'
    by_cases hS : S id
    · exact hro id x v hS hx hv'
    · obtain ⟨hl, h1, h2⟩ := old id v hS hv'
      rw [h1] at hx
      exact RO.keep him hc (fun b hbk => oth id v b hS h2 hbk) (fun b _ h => h) (hs.ob id x v hx h2)
  · intro id id' v v' b h1 h2 h3 h4
    by_cases hS : S id <;> by_cases hS' : S id'
    · exact hinj id id' v v' b hS hS' h1 h2 h3 h4
    · obtain ⟨hl, _, h5⟩ := old id' v' hS' h2
      rcases hv id v b hS h1 h3 with ⟨id0, v0, h6, h7, h8⟩ | h6
      · exact absurd (hs.inj id0 id' v0 v' b h7 h5 h8 h4 ▸ h6) hS'
      · have := (hs.lt id' v' h5).2 b h4; omega
    · obtain ⟨hl, _, h5⟩ := old id v hS h1
      rcases hv id' v' b hS' h2 h4 with ⟨id0, v0, h6, h7, h8⟩ | h6
      · exact absurd (hs.inj id0 id v0 v b h7 h5 h8 h3 ▸ h6) hS
      · have := (hs.lt id v h5).2 b h3; omega
    · exact hs.inj id id' v v' b (old id v hS h1).2.2 (old id' v' hS' h2).2.2 h3 h4
  · intro id v hv'
    by_cases hS : S id
    · exact hv2 id v hS hv'
    · obtain ⟨hl, _, h5⟩ := old id v hS hv'
      exact ⟨by omega, fun b hbk => Nat.lt_of_lt_of_le ((hs.lt id v h5).2 b hbk) hwd.size⟩
  · intro id hd
    by_cases hS : S id
    · exact hdd id hS hd
    · rcases Nat.lt_or_ge id o.length with hl | hl
      · obtain ⟨h1, h2⟩ := hsame id hS hl
        rw [h2]; rw [h1] at hd; exact hs.dd id hd
      · exact (hnew id hl hS).2
  · intro id v b h1 h2
    by_cases hS : S id
    · rcases hv id v b hS h1 h2 with ⟨id0, v0, h6, h7, h8⟩ | h6
      · exact .inr ⟨id0, v0, h7, h8⟩
      · exact .inl h6
    · exact .inr ⟨id, v, (old id v hS h1).2.2, h2⟩
  · intro hm id x hx hd
    by_cases hS : S id
    · exact hmp id x hS hx hd
    · rcases Nat.lt_or_ge id o.length with hl | hl
      · obtain ⟨h1, h2⟩ := hsame id hS hl
        rw [h2]; rw [h1] at hx; exact hm id x hx hd
      · have := (hnew id hl hS).1; rw [hx] at this; cases this
  · by_cases hS : S id
    · exact hgr id hS hl h0
    · rw [(hsame id hS hl).2]; exact h0
/-- One object turned, its place kept or moved; nobody else's block is written. -/
theorem Step.turn (hs : SR w Im ρ o) (hwd : Wd w w') {id : Nat} {x x' : AObj} {v v' : Value} (hx : o[id]? = some x) (hρ : ρ id = some v) (hd : x' ≠ .dead) (hco : CompatO (some v) (some v') x x')
    (hh : ∀ b, b < w.heap.size → ¬ Blk v b → w'.heap[b]? = w.heap[b]?) (hni : ∀ b, Blk v b → ¬ Im b) (hv : ∀ b, Blk v' b → Blk v b ∨ (w.heap.size ≤ b)) (hv2 : ∀ b, Blk v' b → b < w'.heap.size)
    (hro : RO w' Im (upd ρ id (some v')) (o.set id x') v' x') : Step w Im ρ o w' Im (upd ρ id (some v')) (o.set id x') := by
  have hlt := (hs.lt id v hρ).1
  have hc : Compat ρ (upd ρ id (some v')) o (o.set id x') := by
    intro i a ha
    by_cases e : i = id
    · subst e
      rw [hx] at ha
      injection ha with ha
      subst ha
      exact ⟨x', by simp [hlt], by rw [upd_same, hρ]; exact hco⟩
    · refine ⟨a, by rw [List.getElem?_set_ne (Ne.symm e)]; exact ha, ?_⟩
      rw [upd_ne e]
      cases a <;> simp [CompatO]
  have him : ∀ b, Im b → Im b ∧ w'.heap[b]? = w.heap[b]? := fun b hb => ⟨hb, hh b (hs.im b hb) fun e => hni b e hb⟩
  have cs : ∀ i u, upd ρ id (some v') i = some u → (i = id ∧ u = v') ∨ (i ≠ id ∧ ρ i = some u) := by
    intro i u h
    by_cases e : i = id
    · subst e; rw [upd_same] at h; exact .inl ⟨rfl, by injection h with h; exact h.symm⟩
    · rw [upd_ne e] at h; exact .inr ⟨e, h⟩
  have oth : ∀ i u b, i ≠ id → ρ i = some u → Blk u b → w'.heap[b]? = w.heap[b]? := fun i u b hne hu hb => hh b ((hs.lt i u hu).2 b hb) fun e => hne (hs.inj i id u v b hu hρ hb e)
  refine ⟨hwd, ⟨?_, ?_, ?_, fun b hb => Nat.lt_of_lt_of_le (hs.im b hb) hwd.size, ?_⟩, fun c y hy => RC.compat him hc hy, fun b hb hno => hh b hb (hno id v hρ), ?_, him, fun b hb => .inl hb, ?_, ⟨by simp, fun i hl h0 => by rw [upd_ne (by rintro rfl; rw [hρ] at h0; cases h0)]; exact h0⟩⟩
  · intro i a u ha hu
    rcases cs i u hu with ⟨rfl, rfl⟩ | ⟨hne, hu⟩
    · have : a = x' := by simpa [hlt] using ha.symm
      subst this
      exact hro
    · rw [List.getElem?_set_ne (Ne.symm hne)] at ha
      exact RO.keep him hc (fun b hb => oth i u b hne hu hb) (fun b _ h => h) (hs.ob i a u ha hu)
  · intro i i' u u' b hu hu' hb hb'
    rcases cs i u hu with ⟨h1, h2⟩ | ⟨hne, h2⟩ <;> rcases cs i' u' hu' with ⟨h3, h4⟩ | ⟨hne', h4⟩
    · exact h1.trans h3.symm
    · rw [h2] at hb
      rcases hv b hb with h5 | h5
      · exact absurd (hs.inj i' id u' v b h4 hρ hb' h5) hne'
      · have := (hs.lt i' u' h4).2 b hb'; omega
    · rw [h4] at hb'
      rcases hv b hb' with h5 | h5
      · exact absurd (hs.inj i id u v b h2 hρ hb h5) hne
      · have := (hs.lt i u h2).2 b hb; omega
    · exact hs.inj i i' u u' b h2 h4 hb hb'
  · intro i u hu
    rcases cs i u hu with ⟨rfl, rfl⟩ | ⟨hne, hu⟩
    · exact ⟨by simpa using hlt, fun b hb => hv2 b hb⟩
    · have := hs.lt i u hu
      exact ⟨by simpa using this.1, fun b hb => Nat.lt_of_lt_of_le (this.2 b hb) hwd.size⟩
  · intro i hdd
    by_cases e : i = id
    · subst e; simp [hlt] at hdd; exact absurd hdd hd
    · rw [upd_ne e]
      rw [List.getElem?_set_ne (Ne.symm e)] at hdd
      exact hs.dd i hdd
  · intro i u b hu hb
    rcases cs i u hu with ⟨rfl, rfl⟩ | ⟨hne, hu⟩
    · rcases hv b hb with h1 | h1
      · exact .inr ⟨i, v, hρ, h1⟩
      · exact .inl h1
    · exact .inr ⟨i, u, hu, hb⟩
  · intro hm i a ha hdd
    by_cases e : i = id
    · subst e; exact ⟨v', upd_same⟩
    · rw [upd_ne e]
      rw [List.getElem?_set_ne (Ne.symm e)] at ha
      exact hm i a ha hdd
end
end Go.Dp
