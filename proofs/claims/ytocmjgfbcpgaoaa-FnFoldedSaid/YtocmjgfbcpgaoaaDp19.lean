/- Code and functions. -/
import Derived.Test.YtocmjgfbcpgaoaaDp18
set_option linter.unusedVariables false
set_option linter.unusedSimpArgs false
namespace Go.Dp
section
variable {P : Program} {E : Env} {w w' : World} {Im Im' : Nat → Prop} {ρ ρ' : Nat → Option Value} {o o' : List AObj} {r : List SV × List (List CV)} {t : List AV} {a : Act} {B : Base} {C : Ctx} {L : List Nat}

def AExit.ex : AExit → Exit
  | .normal => .normal
  | .exit n => .exit n
  | .ret => .ret
/-- In a loop, before its body. -/
def LoopAt (P : Program) (c : Code) (Q : Exit → Act → World → Prop) (a : Act) (w : World) : Prop :=
  ∀ (b : Frame) (k : List Item) (cs : List Frame), ∃ e a' w', Q e a' w' ∧ Arrives P (lone (b.at a (.code c :: .inLoop c :: k)) cs w) b k cs e a' w'
theorem LoopAt.wp {c : Code} {Q : Exit → Act → World → Prop} (h : LoopAt P c Q a w) : (Code.loop c).wp P Q a w := by
  intro b k cs
  obtain ⟨e, a', w', hq, harr⟩ := h b k cs
  exact ⟨e, a', w', hq, .of_steps (.one step_loop) harr⟩
theorem LoopAt.round {c : Code} {Q : Exit → Act → World → Prop} (h : c.wp P (Exit.then (fun a w => LoopAt P c Q a w) Q) a w) : LoopAt P c Q a w := by
  intro b k cs
  obtain ⟨e, a₁, w₁, hq, harr⟩ := h b (.inLoop c :: k) cs
  cases e with
  | normal =>
    obtain ⟨e₂, a₂, w₂, hq₂, harr₂⟩ := hq b k cs
    exact ⟨e₂, a₂, w₂, hq₂, .of_steps (Steps.trans harr (.one step_inLoop)) harr₂⟩
  | exit id => exact ⟨_, a₁, w₁, hq, .pass (x := .inLoop c) rfl (fun _ _ => .inl (by simp)) harr⟩
  | goto l => exact ⟨_, a₁, w₁, hq, .pass (x := .inLoop c) rfl (fun _ _ => .inl (by simp)) harr⟩
  | ret => exact ⟨_, a₁, w₁, hq, .pass (x := .inLoop c) rfl (fun _ _ => .inl (by simp)) harr⟩
  | panic ch => exact ⟨_, a₁, w₁, hq, .pass (x := .inLoop c) rfl (fun _ _ => .inl (by simp)) harr⟩
  | outgrown => exact ⟨_, a₁, w₁, hq, .pass (x := .inLoop c) rfl (fun _ _ => .inl (by simp)) harr⟩
theorem evCode_sound (hE : EnvOK P C.E) (hC : ∀ g args bs r, C.call g args bs = some r → Contract P g args bs r) (hm : C.m = B.bl.length) (c : Code) : ∀ {cur : Nat} {s : St} {a : Act} {w : World} {K : Kc} {Q : Exit → Act → World → Prop},
    (∀ e s a w, K e s = some r → Sta B s a w → Q e.ex a w) → evCode C c cur s K = some r → Sta B s a w → c.wp P Q a w := by
  induction c with
  | skip => intro cur s a w K Q hQ h hs; exact wp_skip (hQ .normal s a w h hs)
  | label l => intro cur s a w K Q hQ h hs; exact wp_label (hQ .normal s a w h hs)
  | exit id => intro cur s a w K Q hQ h hs; exact wp_exit (hQ (.exit id) s a w h hs)
  | goto l => intro cur s a w K Q hQ h hs; simp [evCode] at h
  | refuse => intro cur s a w K Q hQ h hs; simp [evCode] at h
  | scope b _ => intro cur s a w K Q hQ h hs; simp [evCode] at h
  | rangeFunc f ps x y _ _ => intro cur s a w K Q hQ h hs; simp [evCode] at h
  | region id ops draw =>
    intro cur s a w K Q hQ h hs
    simp only [evCode] at h
    split at h
    · cases draw with
      | false => exact wp_region (evOps_sound hE hC (fun s a w hk hs => hQ .normal s a w hk hs) h hs)
      | true => exact evDraw_sound hE hC (fun s a w hk hs => hQ .normal s a w hk hs) h hs
    · rename_i live _
      have hs' : Sta B (canon C.m live s) a w := by rw [hm]; exact hs.canon _
      cases hn : C.n with
      | zero => rw [hn] at h; cases h
      | succ n =>
        rw [hn] at h
        simp only [cutK] at h
        cases draw with
        | false => exact wp_region (evOps_sound hE hC (fun s a w hk hs => hQ .normal s a w hk hs) h hs')
        | true => exact evDraw_sound hE hC (fun s a w hk hs => hQ .normal s a w hk hs) h hs'
  | seq x y ihx ihy =>
    intro cur s a w K Q hQ h hs
    refine wp_seq (ihx (K := seqK (fun s => evCode C y cur s K) K) ?_ h hs)
    intro e s a w hk hs
    cases e with
    | normal => exact ihy hQ hk hs
    | exit n => exact hQ (.exit n) s a w hk hs
    | ret => exact hQ .ret s a w hk hs
  | cond c x y ihx ihy =>
    intro cur s a w K Q hQ h hs
    obtain ⟨b, hb, h⟩ := branch_some h
    obtain ⟨⟨Im, ρ, hn, ht⟩, hd⟩ := hs
    have hc := aval_sound ht c
    rw [hb] at hc
    have hv : a.eval c = .bool b := RA.bool (a := .p (.bool b)) rfl hc
    refine wp_cond hv ?_
    cases b
    · exact ihy hQ h ⟨⟨Im, ρ, hn, ht⟩, hd⟩
    · exact ihx hQ h ⟨⟨Im, ρ, hn, ht⟩, hd⟩
  | block id c ih =>
    intro cur s a w K Q hQ h hs
    refine wp_block (ih (K := blockK id K) ?_ h hs)
    intro e s a w hk hs
    cases e with
    | normal => exact hQ .normal s a w hk hs
    | ret => exact hQ .ret s a w hk hs
    | exit n =>
      simp only [AExit.ex, Exit.inBlock]
      simp only [blockK] at hk
      by_cases e : n = id
      · subst e
        rw [if_pos rfl]
        simp only [beq_self_eq_true, cond_true] at hk
        exact hQ .normal s a w hk hs
      · rw [if_neg e]
        have : (n == id) = false := by simpa using e
        rw [this] at hk
        exact hQ (.exit n) s a w hk hs
  | loop c ih =>
    intro cur s a w K Q hQ h hs
    refine LoopAt.wp ?_
    simp only [evCode] at h
    have key : ∀ (n : Nat) (s : St) (a : Act) (w : World), evLoop C cur (fun s K => evCode C c cur s K) K n s = some r → Sta B s a w → LoopAt P c Q a w := by
      intro n
      induction n with
      | zero => intro s a w h hs; simp [evLoop] at h
      | succ n ihn =>
        intro s a w h hs
        refine LoopAt.round (ih (K := fun e s' => match e with | .normal => evLoop C cur (fun s K => evCode C c cur s K) K n (head C.m (C.E.live C.self cur) (C.E.own C.self cur) s') | e => K e s') ?_ h hs)
        intro e s a w hk hs
        cases e with
        | normal => exact ihn _ a w hk (by rw [hm]; exact hs.head _ _)
        | exit m => exact hQ (.exit m) s a w hk hs
        | ret => exact hQ .ret s a w hk hs
    exact key C.n _ a w h (by rw [hm]; exact hs.head _ _)
  | ret => intro cur s a w K Q hQ h hs; exact wp_ret (hQ .ret s a w h hs)

/-! ### Functions -/
def resOne (a : Act) : ResultVar → Sem Value
  | .tmp t => pure (a.tmps.getD t undef)
  | .cell b T => do loadVar T (← asAddr (a.tmps.getD b undef))
theorem run_cons {α β : Type} (f : α → Sem β) (x : α) (l : List α) {y : β} {ys : List β} (h1 : (f x).run P w = .ok y w) (h2 : (l.mapM f).run P w = .ok ys w) : ((x :: l).mapM f).run P w = .ok (y :: ys) w := by
  simp [List.mapM_cons, h1, h2]
theorem load_addr {T : TypeId} {x y : Value} (h : (Instr.loadAt T x).run P w = .ok y w) : (do loadVar T (← asAddr x)).run P w = .ok y w := by
  unfold Instr.loadAt at h
  cases x with
  | pointer p =>
    cases p with
    | some ad => simpa [Instr.sureAddr, asAddr] using h
    | none => simp [Instr.sureAddr, Result.andThen] at h
  | _ => simp [Instr.sureAddr, Result.andThen] at h
theorem resIn_sound (hE : EnvOK P E) (hs : SR w Im ρ o) (ht : TR w Im ρ o t a) : ∀ {rs : List ResultVar} {K : List SV → R}, resIn E ⟨t, o⟩ rs K = some r →
    ∃ vs ys, K vs = some r ∧ ys.length = vs.length ∧ (∀ (i : Nat) (v : SV) (y : Value), vs[i]? = some v → ys[i]? = some y → RS w Im ρ o v y) ∧ (rs.mapM (resOne a)).run P w = .ok ys w
  | [], K, h => ⟨[], [], h, rfl, fun i v y h => by simp at h, rfl⟩
  | .tmp i :: rs, K, h => by
    obtain ⟨v, hv, h⟩ := bind_some h
    obtain ⟨vs, ys, hk, h1, h3, h4⟩ := resIn_sound hE hs ht h
    have hi := ht.at_ i
    have hv' : getT t i = .s v := sv_some hv
    rw [hv'] at hi
    refine ⟨v :: vs, a.tmps.getD i undef :: ys, hk, by simp [h1], fun j u y hu hy => ?_, run_cons _ _ _ rfl h4⟩
    cases j with
    | zero =>
      rw [List.getElem?_cons_zero] at hu hy
      injection hu with hu
      injection hy with hy
      subst hu
      subst hy
      exact hi
    | succ j => exact h3 j u y (by simpa using hu) (by simpa using hy)
  | .cell b T :: rs, K, h => by
    simp only [resIn] at h
    obtain ⟨v, y, h, hr, hra⟩ := opLoad_sound (P := P) hE hs (ht.at_ b) h
    obtain ⟨v', hv, h⟩ := bind_some h
    obtain ⟨vs, ys, hk, h1, h3, h4⟩ := resIn_sound hE hs ht h
    rw [sv_some hv] at hra
    refine ⟨v' :: vs, y :: ys, hk, by simp [h1], fun j u y' hu hy => ?_, run_cons _ _ _ (load_addr hr) h4⟩
    cases j with
    | zero => simp at hu hy; subst hu; subst hy; exact hra
    | succ j => exact h3 j u y' (by simpa using hu) (by simpa using hy)
theorem run_results {fn : Func} {ys : List Value} (h : (fn.results.toList.mapM (resOne a)).run P w = .ok ys w) : (results fn a.tmps).run P w = .ok (packV ys) w := by
  have e : results fn a.tmps = (do let vs ← fn.results.mapM (resOne a); pure (if h : vs.size = 1 then vs[0] else .tuple vs)) := by
    rfl
  rw [e, Array.mapM_eq_mapM_toList]
  rcases ys with _ | ⟨y, _ | ⟨y2, ys⟩⟩ <;> simp [h, packV]

theorem Inn.keepA {A : Nat → Prop} (h : Inn w Im ρ o ρ' o' A) {v : AV} {x : Value} (hv : RA w Im ρ o v x) : RA w Im ρ' o' v x := by
  have hS : ∀ (v : SV) (x : Value), RS w Im ρ o v x → RS w Im ρ' o' v x := by
    intro v x hv
    cases v with
    | c c => exact h.keep c x hv
    | agg cs => obtain ⟨vs, rfl, h1, h2, h3⟩ := hv; exact ⟨vs, rfl, h1, fun i c y hc hy => h.keep c y (h2 i c y hc hy), h3⟩
  cases v with
  | s v => exact hS v x hv
  | tup ts => obtain ⟨vs, rfl, h1, h2⟩ := hv; exact ⟨vs, rfl, h1, fun i c y hc hy => hS c y (h2 i c y hc hy)⟩
theorem blanks_get {n j : Nat} : (blanks n)[j]? = if j < n then some (.box []) else none := by
  unfold blanks
  rw [List.getElem?_replicate]
theorem lensB_eq {bs : List (List CV)} {ks : List (List Kind)} (h : lensB bs ks = true) : bs.map List.length = ks.map List.length := by simpa [lensB] using h
/-- A function's body keeps what the evaluator says of it. -/
theorem evBody_sound (hE : EnvOK P E) {Pf : FuncId → Option Func} (hP : ∀ f fn, Pf f = some fn → P.funcs[f]? = some fn ∧ fn.name ≠ "runtime.NumGoroutine") {call : FuncId → List AV → List (List CV) → R} (hC : ∀ g args bs r, call g args bs = some r → Contract P g args bs r)
    {n : Nat} {f : FuncId} {args : List AV} {bs : List (List CV)} (h : evBody Pf E call n f args bs = some r) : Contract P f args bs r := by
  unfold evBody at h
  split at h
  · rename_i fn hfn
    split at h
    · rename_i c hc
      obtain ⟨hf, hname⟩ := hP f fn hfn
      refine ⟨⟨fn, hf, by simp [hc], hname⟩, ?_⟩
      intro w Im bl vss ys pre
      obtain ⟨hlen, h⟩ := bif_some h
      have hlen := lensB_eq hlen
      have hkl : bs.length = (kindsOf (E.bk f) (bs.map List.length)).length := by have := congrArg List.length hlen; simpa using this
      have hbase : List.replicate bs.length (.box []) = blanks bl.length := by rw [pre.l1]; rfl
      rw [hbase] at h
      have hOw : ∀ b, Ow (Ptrs bl) b → b ∈ bl := by
        rintro b ⟨j, v, hv, hb⟩
        obtain ⟨b', hj, rfl⟩ := Option.map_eq_some_iff.1 hv
        simp at hb
        subst hb
        exact List.mem_of_getElem? hj
      have hsx : SRx w Im (Ptrs bl) (blanks bl.length) (· ∈ List.range bs.length) := by
        refine ⟨?_, ?_, ?_, pre.im, ?_⟩
        · intro id x v hid hx hv
          rw [blanks_get] at hx
          split at hx
          · rename_i hlt; exact absurd (List.mem_range.2 (by rw [← pre.l1]; exact hlt)) hid
          · cases hx
        · intro i j v v' b hv hv' hb hb'
          obtain ⟨b1, hi, rfl⟩ := Option.map_eq_some_iff.1 hv
          obtain ⟨b2, hj, rfl⟩ := Option.map_eq_some_iff.1 hv'
          simp at hb hb'
          subst hb
          subst hb'
          exact pre.nd i j _ hi hj
        · intro i v hv
          obtain ⟨b1, hi, rfl⟩ := Option.map_eq_some_iff.1 hv
          have hlt := (List.getElem?_eq_some_iff.1 hi).1
          refine ⟨by simpa [blanks] using hlt, fun b hb => ?_⟩
          simp at hb
          subst hb
          have hl2 : vss.length = bs.length := by have := congrArg List.length pre.l2; simpa using this
          have hv2 : i < vss.length := by rw [hl2, ← pre.l1]; exact hlt
          obtain ⟨⟨⟨e, he⟩, _⟩, _⟩ := pre.box i b1 vss[i] hi (by simp [hv2])
          exact (Array.getElem?_eq_some_iff.1 he).1
        · intro i hd
          rw [blanks_get] at hd
          split at hd <;> simp at hd
      obtain ⟨o1, ρ1, h, hs1, hin, _⟩ := inBs_sound (A := OBs bs.flatten vss.flatten) (bsr := bs) (vss := vss) (cs := []) (ys := []) hsx hlen (pre.l2.trans hlen) (by simpa using hkl) (fun t _ => by rw [Nat.zero_add])
        (fun t i vs hi hv => by
          have hi' := List.getElem?_eq_some_iff.1 hi
          obtain ⟨hlt, rfl⟩ := hi'
          simp only [List.length_range] at hlt
          simp only [List.getElem_range]
          have hb : t < bl.length := by rw [pre.l1]; exact hlt
          exact ⟨bl[t], [], by rw [blanks_get, if_pos hb], by simp [Ptrs, hb], pre.box t bl[t] vs (by simp [hb]) hv⟩)
        (by simpa using pre.tok.mono hOw) (fun i b hob => ⟨i, by simpa using hob⟩) h
      let B : Base := ⟨w, Im, DD bl bs.flatten vss.flatten, bl⟩
      have hnow : Now B w Im ρ1 o1 := by
        refine ⟨Wd.refl w, hs1, fun _ _ _ => rfl, fun b hb => ?_, fun b hb => ⟨hb, rfl⟩, fun b hb => .inl hb, fun j b hj => ?_⟩
        · rcases hin.own b hb with h1 | h1
          · exact .inr (.inl (hOw b h1))
          · exact .inr (.inr h1)
        · refine hin.keep (.bptr j 0) _ ?_
          have hlt : j < bl.length := (List.getElem?_eq_some_iff.1 hj).1
          have hb : (blanks bl.length)[j]? = some (.box []) := by rw [blanks_get, if_pos hlt]
          simp only [RC, RB, hb]
          exact ⟨b, by simp only [Ptrs]; rw [show bl[j]? = some b from hj]; rfl, rfl⟩
      have hsta : Sta B ⟨args ++ List.replicate (fn.ntmps - args.length) .undef, o1⟩ { tmps := ys.toArray ++ Array.replicate (fn.ntmps - ys.toArray.size) undef, defers := [] } w := by
        refine ⟨⟨Im, ρ1, hnow, ⟨by simp [pre.l3], fun i => ?_⟩⟩, rfl⟩
        rcases Nat.lt_or_ge i args.length with hi | hi
        · have h1 : getT (args ++ List.replicate (fn.ntmps - args.length) .undef) i = args[i] := by simp [getT, List.getElem?_append_left hi, hi]
          have hiy : i < ys.length := by rw [pre.l3]; exact hi
          have h2 : (ys.toArray ++ Array.replicate (fn.ntmps - ys.toArray.size) undef).getD i undef = ys[i] := by
            rw [Array.getD_eq_getD_getElem?, Array.getElem?_append_left (by simpa using hiy)]
            simp [hiy]
          show RA w Im ρ1 o1 (getT (args ++ List.replicate (fn.ntmps - args.length) .undef) i) ((ys.toArray ++ Array.replicate (fn.ntmps - ys.toArray.size) undef).getD i undef)
          rw [h1, h2]
          exact hin.keepA (pre.arg i args[i] ys[i] (by simp [hi]) (by simp [hiy]))
        · have h1 : getT (args ++ List.replicate (fn.ntmps - args.length) .undef) i = .undef := by
            simp only [getT, List.getElem?_append_right hi, List.getElem?_replicate]
            split <;> rfl
          show RA w Im ρ1 o1 (getT (args ++ List.replicate (fn.ntmps - args.length) .undef) i) _
          rw [h1]
          trivial
      refine calls_of_wp hf hc (evCode_sound (B := B) hE hC pre.l1.symm c ?_ h hsta)
      intro e s a w' hk hs
      have fin : resIn E s fn.results.toList (fun rs => outBs (kindsOf (E.bk f) (bs.map List.length)) (List.range bs.length) s.o fun bs' o1 => outSs (E.rk f) rs o1 fun rs' _ => some (rs', bs')) = some r →
          a.defers = [] ∧ ∃ v, (results fn a.tmps).run P w' = .ok v w' ∧ ∃ v' Im' vss' zs, Ending.returned v = .returned v' ∧ Post w Im bl bs vss r v' w' Im' vss' zs := by
        intro hk
        obtain ⟨⟨Im1, ρ2, hn, ht⟩, hd⟩ := hs
        obtain ⟨rs, ysr, hk, hrl, hrr, hrun⟩ := resIn_sound hE hn.sr ht hk
        refine ⟨hd, packV ysr, run_results hrun, ?_⟩
        have hbj : ∀ j, j < bl.length → ∃ b, bl[j]? = some b ∧ RB ρ2 s.o j 0 (.pointer (some ⟨b, 0, none⟩)) := fun j hj => ⟨bl[j], by simp [hj], hn.hd j bl[j] (by simp [B, hj])⟩
        obtain ⟨dss, o2, Im2, ρ3, vss', hk, hst2, hbx2, hl1, hl2, hl3, hT2, hO2, hbox2⟩ := outBs_sound hn.sr Toks.nil (fun id hid c0 ho => by
          obtain ⟨b, _, hb⟩ := hbj id (by rw [pre.l1]; simpa using hid)
          simp only [RB, ho] at hb
          obtain ⟨b', hb', _⟩ := hb
          exact ⟨b', hb'⟩) hk
        obtain ⟨ds, o3, Im3, ρ4, zs, hk, hst3, hbx3, hret, hlk, hT3, hO3⟩ := outSs_sound hst2.sr hT2 hrl (fun i c y hc hy => hst2.keepS _ _ (hrr i c y hc hy)) hk
        simp only [List.nil_append] at hT2 hO2 hT3 hO3
        have hrr : r = (ds, dss) := by simpa using hk.symm
        subst hrr
        have hst := hst2.trans hst3
        have hbx := hbx2.trans hbx3
        have hn3 := hn.step hst
        have hdl : dss.length = bl.length := by rw [hl1, pre.l1]; simp
        have hbb : ∀ (j b : Nat), bl[j]? = some b → ∃ vs ds0, BoxAt w' b vs ∧ vss'[j]? = some vs ∧ dss[j]? = some ds0 ∧ ds0.length = vs.length ∧ ρ4 j = some (.pointer (some ⟨b, 0, none⟩)) ∧ ¬ Im3 b := by
          intro j b hj
          have hlt : j < bs.length := by rw [← pre.l1]; exact (List.getElem?_eq_some_iff.1 hj).1
          obtain ⟨b', vs, ds0, c0, h1, h2, h3, h4, h5, h6⟩ := hbox2 j j (List.getElem?_range hlt)
          have h7 := hn.hd j b hj
          simp only [RB, h6] at h7
          obtain ⟨b2, h8, h9⟩ := h7
          obtain rfl : b = b2 := by simpa using h9
          rw [h1] at h8
          obtain rfl : b' = b := by simpa using h8
          have h10 := (hbx j c0).1 h6
          have h11 := h10.2.trans h1
          obtain ⟨b3, _, _, h12, _, _, _, _, hI⟩ := hst.sr.ob j _ _ h10.1 h11
          obtain rfl : b' = b3 := by simpa using h12
          exact ⟨vs, ds0, h2, h3, h4, h5, h11, hI⟩
        refine ⟨packV ysr, Im3, vss', zs, rfl, ⟨hn3.wd, hn3.fr, hn3.im, fun b hb => ⟨hn3.imn b hb, hst.sr.im b hb⟩, hdl, ?_, ?_, ?_, ?_, ⟨ysr, hret, rfl⟩⟩⟩
        · apply List.ext_getElem?
          intro j
          rw [List.getElem?_map, List.getElem?_map]
          rcases Nat.lt_or_ge j bl.length with hj | hj
          · obtain ⟨vs, ds0, _, h3, h4, h5, _⟩ := hbb j bl[j] (by simp [hj])
            rw [h3, h4]
            simp [h5]
          · rw [List.getElem?_eq_none (by rw [hl2, List.length_range, ← pre.l1]; exact hj), List.getElem?_eq_none (by show dss.length ≤ j; omega)]
            rfl
        · intro j b vs hj hv
          obtain ⟨vs2, ds0, h2, h3, _, _, _, hI⟩ := hbb j b hj
          rw [hv] at h3
          injection h3 with h3
          subst h3
          exact ⟨h2, hI⟩
        · refine hT3.mono fun b hb => ?_
          obtain ⟨j, hj⟩ := List.getElem?_of_mem hb
          obtain ⟨_, _, _, _, _, _, h6, _⟩ := hbb j b hj
          exact ⟨j, _, h6, rfl⟩
        · intro b hb
          have hob : Ow ρ2 b := by
            rcases hO3 b hb with h1 | h1
            · rcases hO2 b h1 with ⟨i, _, _, _, _, h2, _⟩ | h2
              · simp at h2
              · exact h2
            · exact hst2.own b h1
          exact hn.ow b hob
      cases e with
      | exit m => simp [endK] at hk
      | normal => exact fin (by simpa [endK] using hk)
      | ret => exact fin (by simpa [endK] using hk)
    · cases h
  · cases h
end
end Go.Dp
