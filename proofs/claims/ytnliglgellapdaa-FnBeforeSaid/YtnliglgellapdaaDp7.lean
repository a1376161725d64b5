/- What makes and writes memory, continued. -/
import Derived.Test.YtnliglgellapdaaDp6
set_option linter.unusedVariables false
set_option linter.unusedSimpArgs false
namespace Go.Dp
section
variable {P : Program} {E : Env} {w w' : World} {Im Im' : Nat → Prop} {ρ ρ' : Nat → Option Value} {o o' : List AObj} {K : Kt} {r : List SV × List (List CV)}

theorem okC_one {c : CV} {y : Value} (hs : SR w Im ρ o) (hy : RC w Im ρ o c y) (h : okC o c = true) (hp : ∀ v, c ≠ .p v) : y.oneCell' = true ∧ y.cells = #[y] := by
  have key : y.oneCell' = true := by
    cases c with
    | undef => cases h
    | p v => exact absurd rfl (hp v)
    | loc id ver sh lo len =>
      obtain ⟨e, fz, xs, ho⟩ := cur_some h
      simp only [RC, ho] at hy
      obtain ⟨_, v, hρ, hsl⟩ := hy.2 trivial trivial
      obtain ⟨vals, hown, _⟩ := hs.ob id _ _ ho hρ
      rcases hown.2 with ⟨hm, _⟩ | ⟨g, cap, cu, hm, _⟩ <;> rw [hm] at hsl
      · obtain ⟨_, _, rfl⟩ := hsl; rfl
      · obtain ⟨_, rfl, _⟩ := hsl; rfl
    | bptr id off =>
      obtain ⟨cs, ho⟩ := isBox_some h
      simp only [RC, RB, ho] at hy
      obtain ⟨b, _, rfl⟩ := hy
      rfl
    | aptr id ver sh i off =>
      obtain ⟨e, fz, xs, ho⟩ := cur_some h
      simp only [RC, ho] at hy
      obtain ⟨_, g, n, cap, _, _, _, rfl⟩ := hy.2 trivial trivial
      rfl
    | eptr v sh off => obtain ⟨b, base, rfl, _⟩ := hy; rfl
    | fn f caps => obtain ⟨vs, rfl, _⟩ := hy; rfl
    | own e sh xs => exact hy.elim
    | nel id ver nv i => cases h
  refine ⟨key, ?_⟩
  cases y <;> simp_all [Value.oneCell', Value.cells]
theorem cellsK_sound {α : Type} {K : List CV → Option α} {r : α} {sh : Nat} {v : SV} {y : Value} (hs : SR w Im ρ o) (h : cellsK o sh v K = some r) (hy : RS w Im ρ o v y) :
    ∃ cs, K cs = some r ∧ cs.length = csz sh ∧ y.cells.size = cs.length ∧ (∀ (i : Nat) (c : CV) (z : Value), cs[i]? = some c → y.cells[i]? = some z → RC w Im ρ o c z) ∧ ∀ (i : Nat) (z : Value), y.cells[i]? = some z → z.oneCell' = true := by
  unfold cellsK at h
  split at h
  · rename_i cs
    obtain ⟨hc, hk⟩ := bif_some h
    simp only [Bool.and_eq_true, beq_iff_eq, bne_iff_ne] at hc
    obtain ⟨vs, rfl, hl, hh, h1⟩ := hy
    exact ⟨cs, hk, by rw [← hc.1]; simp [csz, hc.2], by simpa [Value.cells] using hl, fun i c z a b => hh i c z a (by simpa [Value.cells] using b), fun i z b => h1 i z (by simpa [Value.cells] using b)⟩
  · rename_i c
    split at h
    · rename_i v
      obtain ⟨hc, hk⟩ := bif_some h
      have hy' : RP w Im v y := hy
      have hcs := hy'.cells
      cases sh with
      | zero =>
        have h1 : v.one = true := by simpa [PV.shp] using hc
        have h2 := hy'.one h1
        refine ⟨[.p v], hk, rfl, by rw [h2.2]; rfl, ?_, ?_⟩
        · intro i c z a b
          rw [h2.2] at b
          cases i with
          | zero => simp at a b; subst a; subst b; exact hy'
          | succ i => simp at a
        · intro i z b
          rw [h2.2] at b
          cases i with
          | zero => simp at b; subst b; exact h2.1
          | succ i => simp at b
      | succ n =>
        cases v with
        | agg ps =>
          have hc' := hc
          simp only [PV.shp, Bool.and_eq_true, beq_iff_eq] at hc'
          have hps : (List.range (n + 1)).map (fun i => CV.p (((PV.agg ps).cell i).getD (.bool false))) = ps.map .p := by
            apply List.ext_getElem
            · simp [hc'.1]
            · intro i h1 h2
              simp at h1 h2
              simp [PV.cell, PV.cells, h2]
          replace hk : K ((List.range (n + 1)).map fun i => CV.p (((PV.agg ps).cell i).getD (.bool false))) = some r := hk
          rw [hps] at hk
          cases hy' with
          | agg _ vs hl ho hh =>
            refine ⟨_, hk, by simp [hc'.1, csz], by simpa [Value.cells] using hl, ?_, ?_⟩
            · intro i c z a b
              simp at a
              obtain ⟨q, hq, rfl⟩ := a
              exact hh i q z hq (by simpa [Value.cells] using b)
            · intro i z b
              have b' : vs[i]? = some z := by simpa [Value.cells] using b
              have hi : i < ps.length := by rw [← hl]; exact (Array.getElem?_eq_some_iff.1 b').1
              exact ((hh i ps[i] z (by simp [hi]) b').one (ho i _ (by simp [hi]))).1
        | _ => simp [PV.shp] at hc
    · rename_i hp
      obtain ⟨hc, hk⟩ := bif_some h
      simp only [Bool.and_eq_true, beq_iff_eq] at hc
      obtain ⟨rfl, hok⟩ := hc
      have h2 := okC_one hs hy hok hp
      refine ⟨[_], hk, rfl, by rw [h2.2]; rfl, ?_, ?_⟩
      · intro i c' z a b
        rw [h2.2] at b
        cases i with
        | zero => simp at a b; subst a; subst b; exact hy
        | succ i => simp at a
      · intro i z b
        rw [h2.2] at b
        cases i with
        | zero => simp at b; subst b; exact h2.1
        | succ i => simp at b

theorem push_old (h : Array Obj) (x : Obj) (b : Nat) (hb : b < h.size) : (h.push x)[b]? = h[b]? := by
  rw [Array.getElem?_push]; simp; omega
theorem push_new (h : Array Obj) (x : Obj) : (h.push x)[h.size]? = some x := by simp
/-- A new variable. -/
theorem newBox_sound (hs : SR w Im ρ o) {T : TypeId} {y : Value} {cs : List CV} (hk : K (.s (.c (.bptr o.length 0))) (o ++ [.box cs]) = some r) (hl : y.cells.size = cs.length)
    (hr : ∀ (i : Nat) (c : CV) (z : Value), cs[i]? = some c → y.cells[i]? = some z → RC w Im ρ o c z) (h1 : ∀ (i : Nat) (z : Value), y.cells[i]? = some z → z.oneCell' = true) {s : Sem Value}
    (hrun : s.run P w = .ok (.pointer (some ⟨w.heap.size, 0, none⟩)) { w with heap := w.heap.push (.cells y.cells T) }) : Did P w Im ρ o K r s := by
  have hnb : ¬ Im w.heap.size := fun h => by have := hs.im _ h; omega
  have hro : RO { w with heap := w.heap.push (.cells y.cells T) } Im (upd ρ o.length (some (.pointer (some ⟨w.heap.size, 0, none⟩)))) (o ++ [.box cs]) (.pointer (some ⟨w.heap.size, 0, none⟩)) (.box cs) :=
    ⟨w.heap.size, y.cells, T, rfl, push_new _ _, hl, fun i c z a b => RC.compat (fun b hb => ⟨hb, push_old _ _ _ (hs.im b hb)⟩) (compat_new hs _ _) (hr i c z a b), h1, hnb⟩
  have hst := Step.new (w' := { w with heap := w.heap.push (.cells y.cells T) }) hs ⟨rfl, rfl, rfl, by simp⟩ (fun b hb => push_old _ _ _ hb) (x := .box cs) (by simp) (fun b hb => by simp at hb; subst hb; simp) hro
  refine ⟨_, _, _, _, Im, _, hk, hrun, hst, ?_⟩
  simp only [RA, RS, RC, RB]
  simp
  exact upd_same
theorem opAlloc_sound (hE : EnvOK P E) (hs : SR w Im ρ o) {T : TypeId} (h : opAlloc E T o K = some r) : Did P w Im ρ o K r (Instr.alloc T true (.tuple #[])) := by
  obtain ⟨zs, hz, hk⟩ := bind_some h
  obtain ⟨i, z, sh, hi, hiz, hl, _, _, hone, hrp⟩ := hE.zr T zs hz
  have hrp' : ∀ (i : Nat) (c : CV) (y : Value), (zs.map CV.p)[i]? = some c → z.cells[i]? = some y → RC w Im ρ o c y := by
    intro i c y a b
    simp at a
    obtain ⟨q, hq, rfl⟩ := a
    exact hrp i q y hq b w Im
  refine newBox_sound (y := z) (T := T) hs hk (by simpa using hl) hrp' ?_ ?_
  · intro i y b
    have hi' : i < zs.length := by rw [← hl]; exact (Array.getElem?_eq_some_iff.1 b).1
    exact ((hrp i zs[i] y (by simp [hi']) b w Im).one (hone _ (List.getElem_mem hi'))).1
  · simp [Instr.alloc, zeroValue, typeInfo, hi, hiz, newVar, newRow]
theorem opBox_sound (hE : EnvOK P E) (hs : SR w Im ρ o) {T : TypeId} {a : AV} {x : Value} (ha : RA w Im ρ o a x) (h : opBox E T a o K = some r) : Did P w Im ρ o K r (Instr.box T x) := by
  unfold opBox at h
  split at h
  · rename_i v sh hv hT
    rw [sv_some hv] at ha
    obtain ⟨cs, hk, hl, hl2, hr, h1⟩ := cellsK_sound hs h ha
    exact newBox_sound (y := x) (T := T) hs hk hl2 hr h1 (by simp [Instr.box, newVar, newRow])
  · cases h
end
end Go.Dp
