/- All operations that neither part the ways nor call. -/
import Derived.Test.YtocmjgfbcpgaoaaDp10n
set_option linter.unusedVariables false
set_option linter.unusedSimpArgs false
namespace Go.Dp
section
variable {P : Program} {E : Env} {w w' : World} {Im Im' : Nat → Prop} {ρ ρ' : Nat → Option Value} {o o' : List AObj} {K : Kt} {r : List SV × List (List CV)} {t : List AV} {a : Act}

/-- The slots. -/
structure TR (w : World) (Im : Nat → Prop) (ρ : Nat → Option Value) (o : List AObj) (t : List AV) (a : Act) : Prop where
  size : a.tmps.size = t.length
  at_ : ∀ i, RA w Im ρ o (getT t i) (a.tmps.getD i undef)
theorem TR.mono (h : TR w Im ρ o t a) (hk : ∀ v x, RA w Im ρ o v x → RA w' Im' ρ' o' v x) : TR w' Im' ρ' o' t a := ⟨h.size, fun i => hk _ _ (h.at_ i)⟩
theorem getT_set (t : List AV) (d i : Nat) (v : AV) : getT (t.set d v) i = if d = i ∧ d < t.length then v else getT t i := by
  unfold getT
  by_cases h : d = i
  · subst h
    by_cases h2 : d < t.length
    · rw [List.getElem?_set_self h2, if_pos ⟨rfl, h2⟩]; rfl
    · rw [if_neg (by omega), List.getElem?_eq_none (by simp; omega), List.getElem?_eq_none (by omega)]
  · rw [List.getElem?_set_ne h, if_neg (by omega)]
theorem getD_set (ts : Array Value) (d i : Nat) (v : Value) : (ts.setIfInBounds d v).getD i undef = if d = i ∧ d < ts.size then v else ts.getD i undef := by
  simp only [Array.getD_eq_getD_getElem?, Array.getElem?_setIfInBounds]
  by_cases h : d = i
  · subst h
    by_cases h2 : d < ts.size
    · simp [h2]
    · simp [h2]
  · simp [h]
theorem TR.put (h : TR w Im ρ o t a) {v : AV} {x : Value} (hv : RA w Im ρ o v x) (d : Option Tmp) : TR w Im ρ o (putD t d v) (a.put d x) := by
  cases d with
  | none => exact h
  | some d =>
    refine ⟨by simp [putD, Act.put, h.size], fun i => ?_⟩
    simp only [putD, Act.put]
    rw [getT_set, getD_set, h.size]
    split
    · exact hv
    · exact h.at_ i
/-- A slot whose value is better known. -/
theorem TR.know (h : TR w Im ρ o t a) {i : Nat} {v : AV} (hv : RA w Im ρ o v (a.tmps.getD i undef)) : TR w Im ρ o (t.set i v) a := by
  refine ⟨by simp [h.size], fun j => ?_⟩
  rw [getT_set]
  split
  · rename_i e; rw [← e.1]; exact hv
  · exact h.at_ j
theorem aval_sound (h : TR w Im ρ o t a) (x : Operand) : RA w Im ρ o (aval t x) (a.eval x) := by
  cases x with
  | tmp i => exact h.at_ i
  | const v =>
    simp only [aval, Act.eval]
    unfold constAV
    split
    · exact RP.int _ _
    · exact RP.bool _
    · exact RP.str _
    · exact RP.nil _ _ (by decide)
    · trivial
  | global g => trivial
  | func f => exact ⟨#[], rfl, rfl, fun i id h => by simp at h⟩

theorem capIds_sound : ∀ {xs : List Operand} {ids : List Nat}, (∀ x ∈ xs, RA w Im ρ o (aval t x) (a.eval x)) → capIds t xs = some ids → ids.length = xs.length ∧ ∀ (i id : Nat), ids[i]? = some id → ∃ y, (xs.map a.eval)[i]? = some y ∧ RB ρ o id 0 y
  | [], ids, h, hc => by simp [capIds] at hc; subst hc; exact ⟨rfl, fun i id h => by simp at h⟩
  | x :: xs, ids, h, hc => by
    simp only [capIds] at hc
    split at hc
    · rename_i id hx
      obtain ⟨is, his, rfl⟩ := Option.map_eq_some_iff.1 hc
      obtain ⟨hl, hr⟩ := capIds_sound (fun y hy => h y (by simp [hy])) his
      refine ⟨by simp [hl], fun i j hj => ?_⟩
      cases i with
      | zero =>
        simp at hj
        subst hj
        have := h x (by simp)
        rw [cv_some hx] at this
        exact ⟨a.eval x, by simp, this⟩
      | succ i => simpa using hr i j (by simpa using hj)
    · cases hc

/-- What is asked of an operation in the code. -/
def DidN (P : Program) (w : World) (Im : Nat → Prop) (ρ : Nat → Option Value) (o : List AObj) (K : Kt) (r : List SV × List (List CV)) (s : Sem Next) : Prop :=
  ∃ v o' y w' Im' ρ', K v o' = some r ∧ Step w Im ρ o w' Im' ρ' o' ∧ RA w' Im' ρ' o' v y ∧ (s.run P w = .ok (.value y) w' ∨ (s.run P w = .ok .skip w' ∧ y = undef))
/-- The same of one that leaves the world alone. -/
def DidQ (P : Program) (w : World) (Im : Nat → Prop) (ρ : Nat → Option Value) (o : List AObj) (K : Kt) (r : List SV × List (List CV)) (s : Sem Next) : Prop :=
  ∃ v y, K v o = some r ∧ s.run P w = .ok (.value y) w ∧ RA w Im ρ o v y
theorem Did.value {s : Sem Value} (h : Did P w Im ρ o K r s) {n : Sem Next} (e : n = (do pure (.value (← s)))) : DidN P w Im ρ o K r n := by
  obtain ⟨v, o', y, w', Im', ρ', h1, h2, h3, h4⟩ := h
  refine ⟨v, o', y, w', Im', ρ', h1, h3, h4, .inl ?_⟩
  subst e
  simp [h2]
theorem DidS.value {s : Sem Value} (h : DidS P w Im ρ o K r s) {n : Sem Next} (e : n = (do pure (.value (← s)))) : DidQ P w Im ρ o K r n := by
  obtain ⟨v, y, h1, h2, h3⟩ := h
  refine ⟨v, y, h1, ?_, h3⟩
  subst e
  simp [h2]
theorem DidQ.did (hs : SR w Im ρ o) {n : Sem Next} (h : DidQ P w Im ρ o K r n) : DidN P w Im ρ o K r n :=
  let ⟨v, y, h1, h2, h3⟩ := h; ⟨v, o, y, w, Im, ρ, h1, Step.refl hs, h3, .inl h2⟩
theorem map_opt {x : Option Operand} (h : ∀ y, x = some y → RA w Im ρ o (aval t y) (a.eval y)) : (∀ v, x.map (aval t) = some v → ∃ y, x.map a.eval = some y ∧ RA w Im ρ o v y) ∧ (x.map (aval t) = none → x.map a.eval = none) := by
  cases x with
  | none => exact ⟨fun v h => by simp at h, fun _ => rfl⟩
  | some x => exact ⟨fun v hv => by simp at hv; subst hv; exact ⟨_, rfl, h x rfl⟩, fun h => by simp at h⟩
theorem list1 {α : Type} {xs : Array α} {a : α} (h : xs.toList = [a]) : xs = #[a] := by rw [← Array.toArray_toList (xs := xs), h]
theorem list2 {α : Type} {xs : Array α} {a b : α} (h : xs.toList = [a, b]) : xs = #[a, b] := by rw [← Array.toArray_toList (xs := xs), h]
theorem list0 {α : Type} {xs : Array α} (h : xs.toList = []) : xs = #[] := by rw [← Array.toArray_toList (xs := xs), h]
theorem opCap_sound (hE : EnvOK P E) (hs : SR w Im ρ o) {T ty : TypeId} {a : AV} {x : Value} (ha : RA w Im ρ o a x) (h : opCap E T a o K = some r) : DidS P w Im ρ o K r (Builtin.cap_ #[T] ty #[x]) := by
  unfold opCap at h
  split at h
  · rename_i v q hav hT
    obtain ⟨⟨sh, f, xs⟩, hv, h⟩ := bind_some h
    obtain ⟨hf, hk⟩ := bif_some h
    simp only [beq_iff_eq] at hf
    subst hf
    have hx := ha.pv hav
    rw [row_some hv] at hx
    obtain ⟨e, sh', by_⟩ := q
    have hu := (hE.sl T e sh' by_ hT).1
    cases hx with
    | nil => exact DidS.same hk (by simp [Builtin.cap_, run_underlying hu, goInt]) (RP.int _ _)
    | row _ _ _ a cap g hf => exact absurd rfl hf
  · cases h
theorem opMin_sound (hE : EnvOK P E) (hs : SR w Im ρ o) (mx : Bool) {ts : Array TypeId} {ty : TypeId} {a b : AV} {x y : Value} (ha : RA w Im ρ o a x) (hb : RA w Im ρ o b y) (h : opMin mx a b o K = some r) : DidS P w Im ρ o K r (match mx with | true => Builtin.max_ ts ty #[x, y] | false => Builtin.min_ ts ty #[x, y]) := by
  unfold opMin at h
  split at h
  · rename_i k m k' n hav hbv
    have hx := ha.pv hav
    have hy := hb.pv hbv
    cases hx
    cases hy
    cases mx
    · refine DidS.same h ?_ (RP.int _ _)
      rw [run_min_int2]
      simp only [cond_false, minI]
      by_cases hlt : n < m <;> simp [hlt]
    · refine DidS.same h ?_ (RP.int _ _)
      rw [run_max_int2]
      simp only [cond_true, maxI]
      by_cases hlt : n > m <;> simp [hlt]
  · cases h
theorem evOpQ_sound (hE : EnvOK P E) (hs : SR w Im ρ o) (oo : Oper) {op : Op} (hop : oo.op = op) (av : ∀ x ∈ op.operands.toList, RA w Im ρ o (aval t x) (a.eval x)) (hq : silent op = true) (h : evOp E op ⟨t, o⟩ K = some r) : DidQ P w Im ρ o K r (execOp a.eval oo) := by
  cases op with
  | move x => exact ⟨_, _, h, by simp [execOp, hop], av x (by simp [Op.operands])⟩
  | assign x => exact ⟨_, _, h, by simp [execOp, hop], av x (by simp [Op.operands])⟩
  | build T ps => exact (opBuild_sound hE hs (ev := a.eval) (fun q hq => av q.2 (by simp only [Op.operands]; exact List.mem_map.2 ⟨q, hq, rfl⟩)) h).value (by simp [execOp, hop])
  | load T x => exact (opLoad_sound hE hs (av x (by simp [Op.operands])) h).value (by simp [execOp, hop])
  | nilCheck x =>
    simp only [evOp] at h
    split at h
    · rename_i id off hc
      obtain ⟨hb, hk⟩ := bif_some h
      obtain ⟨cs, ho⟩ := isBox_some hb
      have hx := av x (by simp [Op.operands])
      rw [cv_some hc] at hx
      have hx' := hx
      simp only [RA, RS, RC, RB, ho] at hx'
      obtain ⟨b, hρ, hv⟩ := hx'
      exact ⟨_, .pointer (some ⟨b, off, none⟩), hk, by simp [execOp, hop, hv], by rw [hv] at hx; exact hx⟩
    · cases h
  | binOp op T x y flag =>
    simp only [evOp] at h
    split at h
    · rename_i p q hp hq
      split at h
      · rename_i c hc
        obtain ⟨hT, hk⟩ := bif_some h
        exact (DidS.same (P := P) hk (nilEq_sound hE x y hc hT ((av x (by simp [Op.operands])).pv hp) ((av y (by simp [Op.operands])).pv hq)) (RP.bool _)).value (by simp [execOp, hop])
      rw [binK_eq] at h
      obtain ⟨v, hv, hk⟩ := bind_some h
      obtain ⟨z, hz, hr⟩ := pbinT_sound hE x y hv ((av x (by simp [Op.operands])).pv hp) ((av y (by simp [Op.operands])).pv hq)
      exact (DidS.same (P := P) hk hz hr).value (by simp [execOp, hop])
    · cases h
  | unOp op T x =>
    obtain ⟨p, hp, h⟩ := bind_some h
    obtain ⟨v, hv, hk⟩ := bind_some h
    obtain ⟨z, hz, hr⟩ := pun_sound (P := P) hv ((av x (by simp [Op.operands])).pv hp)
    exact (DidS.same (P := P) hk hz hr).value (by simp [execOp, hop])
  | convert S T x => exact (opConvert_sound hE hs (av x (by simp [Op.operands])) h).value (by simp [execOp, hop])
  | makeFunc fn first caps =>
    simp only [evOp] at h
    unfold opMakeFunc at h
    split at h
    · rename_i f hfirst
      obtain ⟨ids, hids, hk⟩ := bind_some h
      obtain ⟨hl, hr⟩ := capIds_sound (fun x hx => av x (by simp [Op.operands]; exact .inr (by simpa using hx))) hids
      have h0 := list0 hfirst
      subst h0
      refine ⟨_, .func (.func f) #[] (caps.map a.eval), hk, by simp [execOp, hop, Instr.makeFunc], ⟨_, rfl, by simp [hl], fun i id hi => ?_⟩⟩
      obtain ⟨y, hy, hb⟩ := hr i id hi
      exact ⟨y, by simpa using hy, hb⟩
    · cases h
  | slice T x lo hi mx =>
    have h1 := map_opt (x := lo) (t := t) (a := a) fun y hy => av y (by simp [Op.operands, hy])
    have h2 := map_opt (x := hi) (t := t) (a := a) fun y hy => av y (by simp [Op.operands, hy])
    have h3 := map_opt (x := mx) (t := t) (a := a) fun y hy => av y (by simp [Op.operands, hy])
    exact (opSlice_sound hE hs (av x (by simp [Op.operands])) h1.1 h1.2 h2.1 h2.2 h3.1 h3.2 h).value (by simp [execOp, hop])
  | fieldAddr T x f => exact (opFieldAddr_sound hE hs (av x (by simp [Op.operands])) h).value (by simp [execOp, hop])
  | indexAddr T x i => exact (opIndexAddr_sound hE hs (av x (by simp [Op.operands])) (av i (by simp [Op.operands])) h).value (by simp [execOp, hop])
  | index T x i => exact (opIndex_sound hE hs (av x (by simp [Op.operands])) (av i (by simp [Op.operands])) h).value (by simp [execOp, hop])
  | extract x i => exact (opExtract_sound hs (av x (by simp [Op.operands])) h).value (by simp [execOp, hop])
  | call c =>
    simp only [evOp] at h
    split at h
    · rename_i x T hc ha hT
      exact (opLen_sound hE hs (ty := oo.type) (av x (by simp [Op.operands, Call.operands, hc, list1 ha])) h).value (by simp [execOp, hop, resolve, hc, invoke, builtin, list1 ha, list1 hT])
    · rename_i x y T T' hc ha hT
      simp [silent, hc] at hq
    · rename_i x T hc ha hT
      exact (opCap_sound hE hs (ty := oo.type) (av x (by simp [Op.operands, Call.operands, hc, list1 ha])) h).value (by simp [execOp, hop, resolve, hc, invoke, builtin, list1 ha, list1 hT])
    · rename_i x y hc ha
      exact (opMin_sound hE hs false (ts := c.argTypes) (ty := oo.type) (av x (by simp [Op.operands, Call.operands, hc, list2 ha])) (av y (by simp [Op.operands, Call.operands, hc, list2 ha])) h).value (by simp [execOp, hop, resolve, hc, invoke, builtin, list2 ha])
    · rename_i x y hc ha
      exact (opMin_sound hE hs true (ts := c.argTypes) (ty := oo.type) (av x (by simp [Op.operands, Call.operands, hc, list2 ha])) (av y (by simp [Op.operands, Call.operands, hc, list2 ha])) h).value (by simp [execOp, hop, resolve, hc, invoke, builtin, list2 ha])
    · cases h
  | _ => simp [silent] at hq
theorem evOp_sound (hE : EnvOK P E) (hs : SR w Im ρ o) (oo : Oper) {op : Op} (hop : oo.op = op) (av : ∀ x ∈ op.operands.toList, RA w Im ρ o (aval t x) (a.eval x)) (h : evOp E op ⟨t, o⟩ K = some r) : DidN P w Im ρ o K r (execOp a.eval oo) := by
  cases hq : silent op
  · cases op with
    | alloc T => exact (opAlloc_sound hE hs h).value (by simp [execOp, hop])
    | box T x => exact (opBox_sound hE hs (av x (by simp [Op.operands])) h).value (by simp [execOp, hop])
    | buildSlice T n ps =>
      simp only [evOp] at h
      cases hn : nestEl E T t ps.toList <;> rw [hn] at h <;> simp only [cond_true, cond_false] at h
      · exact (opBuildSlice_sound hE hs (ev := a.eval) (fun q hq => av q.2 (by simp only [Op.operands]; exact List.mem_map.2 ⟨q, hq, rfl⟩)) h).value (by simp [execOp, hop])
      · exact (opBuildNest_sound hE hs (ev := a.eval) (fun q hq => av q.2 (by simp only [Op.operands]; exact List.mem_map.2 ⟨q, hq, rfl⟩)) h).value (by simp [execOp, hop])
    | store T x y =>
      have hd : Did P w Im ρ o K r (do Instr.storeAt T (a.eval x) (a.eval y); pure undef) := by
        simp only [evOp] at h
        cases hn : givesTo o (aval t x) (aval t y) <;> rw [hn] at h <;> simp only [cond_true, cond_false] at h
        · exact opStore_sound hE hs (av x (by simp [Op.operands])) (av y (by simp [Op.operands])) h
        · exact opGive_sound hE hs (av x (by simp [Op.operands])) (av y (by simp [Op.operands])) h
      obtain ⟨v, o', z, w', Im', ρ', h1, h2, h3, h4⟩ := hd
      cases hr : (Instr.storeAt T (a.eval x) (a.eval y)).run P w with
      | ok u w2 =>
        rw [Sem.run_bind, hr] at h2
        simp only [Result.andThen_ok, Sem.run_pure] at h2
        injection h2 with h5 h6
        subst h5
        subst h6
        exact ⟨v, o', _, _, Im', ρ', h1, h3, h4, .inr ⟨by simp [execOp, hop, hr], rfl⟩⟩
      | halt x w2 =>
        rw [Sem.run_bind, hr] at h2
        simp [Result.andThen] at h2
    | makeSlice T l c => exact (opMakeSlice_sound hE hs (av l (by simp [Op.operands])) (av c (by simp [Op.operands])) h).value (by simp [execOp, hop])
    | call c =>
      simp only [evOp] at h
      split at h
      · rename_i x T hc ha hT
        simp [silent, hc] at hq
      · rename_i x y T T' hc ha hT
        cases he : T == T' <;> rw [he] at h <;> simp only [cond_true, cond_false] at h
        · exact (opAppendZ_sound hE hs (ty := oo.type) (av x (by simp [Op.operands, Call.operands, hc, list2 ha])) (av y (by simp [Op.operands, Call.operands, hc, list2 ha])) h).value (by simp [execOp, hop, resolve, hc, invoke, builtin, list2 ha, list2 hT])
        · simp at he
          subst he
          cases hn : nestLoc o (aval t y) <;> rw [hn] at h <;> simp only [cond_true, cond_false] at h
          · exact (opAppend_sound hE hs (ty := oo.type) (av x (by simp [Op.operands, Call.operands, hc, list2 ha])) (av y (by simp [Op.operands, Call.operands, hc, list2 ha])) h).value (by simp [execOp, hop, resolve, hc, invoke, builtin, list2 ha, list2 hT])
          · exact (opAppendNest_sound hE hs (ty := oo.type) (av x (by simp [Op.operands, Call.operands, hc, list2 ha])) (av y (by simp [Op.operands, Call.operands, hc, list2 ha])) h).value (by simp [execOp, hop, resolve, hc, invoke, builtin, list2 ha, list2 hT])
      · rename_i x T hc ha hT
        simp [silent, hc] at hq
      · rename_i x y hc ha
        simp [silent, hc] at hq
      · rename_i x y hc ha
        simp [silent, hc] at hq
      · cases h
    | _ => first | (simp [silent] at hq; done) | (simp [evOp] at h; done)
  · exact (evOpQ_sound hE hs oo hop av hq h).did hs
end
end Go.Dp
