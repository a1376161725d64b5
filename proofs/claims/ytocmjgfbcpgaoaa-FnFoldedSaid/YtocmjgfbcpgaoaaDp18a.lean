/- Regions that draw their order: what quiet operations look at, what others change. -/
import Derived.Test.YtocmjgfbcpgaoaaDp17
set_option linter.unusedVariables false
set_option linter.unusedSimpArgs false
namespace Go.Dp

def AObj.norm : AObj → AObj
  | .arr e sh ver _ xs => .arr e sh ver false xs
  | x => x
def at' (o : List AObj) (id : Nat) : Option AObj := (o[id]?).map AObj.norm
def AgreeO (ids : List Nat) (o o' : List AObj) : Prop := ∀ id ∈ ids, at' o id = at' o' id
def AgreeT (xs : List Tmp) (t t' : List AV) : Prop := ∀ x ∈ xs, getT t x = getT t' x
section
variable {E : Env} {o o' : List AObj} {t t' : List AV} {ids : List Nat} {C : Ctx} {ops : Array Oper}

theorem at_box {id : Nat} {cs : List CV} (h : at' o id = at' o' id) (ho : o[id]? = some (.box cs)) : o'[id]? = some (.box cs) := by
  simp only [at', ho] at h
  cases h' : o'[id]? with
  | none => rw [h'] at h; simp [AObj.norm] at h
  | some x => rw [h'] at h; cases x <;> simp [AObj.norm] at h; subst h; rfl
theorem at_arr {id sh ver : Nat} {e : Et} {fz : Bool} {xs : List PV} (h : at' o id = at' o' id) (ho : o[id]? = some (.arr e sh ver fz xs)) : ∃ fz', o'[id]? = some (.arr e sh ver fz' xs) := by
  simp only [at', ho] at h
  cases h' : o'[id]? with
  | none => rw [h'] at h; simp [AObj.norm] at h
  | some x =>
    rw [h'] at h
    cases x <;> simp [AObj.norm] at h
    obtain ⟨rfl, rfl, rfl, rfl⟩ := h
    exact ⟨_, rfl⟩
theorem at_isBox {id : Nat} (h : at' o id = at' o' id) : isBox o id = isBox o' id := by
  simp only [at'] at h
  unfold isBox
  cases h1 : o[id]? <;> cases h2 : o'[id]? <;> simp only [h1, h2, Option.map_some, Option.map_none] at h <;> first | rfl | (cases h; done) | skip
  injection h with h
  rename_i x y
  cases x <;> cases y <;> simp [AObj.norm] at h <;> rfl
theorem at_cur {id ver sh : Nat} (h : at' o id = at' o' id) : cur o id ver sh = cur o' id ver sh := by
  simp only [at'] at h
  unfold cur
  cases h1 : o[id]? <;> cases h2 : o'[id]? <;> simp only [h1, h2, Option.map_some, Option.map_none] at h <;> first | rfl | (cases h; done) | skip
  injection h with h
  rename_i x y
  cases x <;> cases y <;> simp [AObj.norm] at h <;> first | rfl | (obtain ⟨rfl, rfl, rfl, rfl⟩ := h; rfl)

/-- It goes on with one value, hung on nothing but the objects in 'ids'; or not at all. -/
def Par (ids : List Nat) (o : List AObj) (f : List AObj → Kt → R) : Prop := (∀ K, f o K = none) ∨ ∃ v, ∀ o', AgreeO ids o o' → ∀ K, f o' K = K v o'
theorem Par.none : Par ids o fun _ _ => none := .inl fun _ => rfl
theorem Par.ret (v : AV) : Par ids o fun o K => K v o := .inr ⟨v, fun _ _ _ => rfl⟩
theorem Par.bind {α : Type} (x : Option α) {f : α → List AObj → Kt → R} (h : ∀ a, x = some a → Par ids o (f a)) : Par ids o fun o K => x.bind fun a => f a o K := by
  cases x with
  | none => exact .none
  | some a => exact h a rfl
theorem Par.bif (c : Bool) {f : List AObj → Kt → R} (h : c = true → Par ids o f) : Par ids o fun o K => bif c then f o K else .none := by
  cases c
  · exact .none
  · exact h rfl
theorem Par.bifO {c : List AObj → Bool} (hc : ∀ o', AgreeO ids o o' → c o = c o') {f : List AObj → Kt → R} (h : Par ids o f) : Par ids o fun o K => cond (c o) (f o K) Option.none := by
  cases hb : c o
  · left
    intro K
    simp only [hb, cond_false]
  · rcases h with h | ⟨v, h⟩
    · left
      intro K
      simp only [hb, cond_true]
      exact h K
    · right
      refine ⟨v, fun o' ho K => ?_⟩
      have h1 := hc o' ho
      rw [hb] at h1
      simp only [← h1, cond_true]
      exact h o' ho K
theorem mem_cells1 {c : CV} {id : Nat} (h : id ∈ idsC c) : id ∈ idsA (.s (.c c)) := by simpa [idsA, cellsOfA, cellsOfS] using h
theorem opLoad_par (T : TypeId) (a : AV) (hi : ∀ id ∈ idsA a, id ∈ ids) : Par ids o fun o K => opLoad E T a o K := by
  cases hc : a.cv? with
  | none => left; intro K; simp [opLoad, hc]
  | some c =>
    have ha := cv_some hc
    subst ha
    cases hT : E.sh T with
    | none => left; intro K; cases c <;> simp [opLoad, AV.cv?, hT]
    | some sh =>
      cases c with
      | bptr id off =>
        have hid := hi id (mem_cells1 (by simp [idsC]))
        cases ho : o[id]? with
        | none => left; intro K; simp [opLoad, AV.cv?, hT, ho]
        | some x =>
          cases x with
          | box cs =>
            cases hv : ofCells sh (cs.drop off) with
            | none => left; intro K; simp [opLoad, AV.cv?, hT, ho, hv]
            | some v => right; exact ⟨.s v, fun o' hag K => by simp [opLoad, AV.cv?, hT, at_box (hag id hid) ho, hv]⟩
          | _ => left; intro K; simp [opLoad, AV.cv?, hT, ho]
      | aptr id ver vsh i off =>
        have hid := hi id (mem_cells1 (by simp [idsC]))
        cases ho : o[id]? with
        | none => left; intro K; simp [opLoad, AV.cv?, hT, ho]
        | some x =>
          cases x with
          | arr e sh' ver' fz xs =>
            cases hkd : e.kd with
            | some kd =>
              cases hcnd : (ver == ver' && vsh == sh' && sh == 0 && off == kd.j && kd.hole.isNone) with
              | false => left; intro K; simp only [opLoad, AV.cv?, hT, ho, hkd, hcnd, cond_false]
              | true =>
                right
                refine ⟨.s (.c (.nel id ver kd.nv i)), fun o' hag K => ?_⟩
                obtain ⟨fz', ho'⟩ := at_arr (hag id hid) ho
                simp only [opLoad, AV.cv?, hT, ho', hkd, hcnd, cond_true]
            | none =>
              cases hcnd : (ver == ver' && vsh == sh') with
              | false => left; intro K; simp only [opLoad, AV.cv?, hT, ho, hkd, hcnd, cond_false]
              | true =>
                cases hxi : xs[i]? with
                | none =>
                  left
                  intro K
                  simp only [opLoad, AV.cv?, hT, ho, hkd, hcnd, cond_true, hxi, Option.bind_none]
                | some x =>
                  rcases loadP_det (E.ct T) x vsh off sh with h | ⟨u, h⟩
                  · left
                    intro K
                    simp only [opLoad, AV.cv?, hT, ho, hkd, hcnd, cond_true, hxi, Option.bind_some]
                    exact h _
                  · right
                    refine ⟨.p u, fun o' hag K => ?_⟩
                    obtain ⟨fz', ho'⟩ := at_arr (hag id hid) ho
                    simp only [opLoad, AV.cv?, hT, ho', hkd, hcnd, cond_true, hxi, Option.bind_some]
                    exact h _
          | _ => left; intro K; simp [opLoad, AV.cv?, hT, ho]
      | eptr v vsh off =>
        rcases loadP_det (E.ct T) v vsh off sh with h | ⟨u, h⟩
        · left; intro K; simp only [opLoad, AV.cv?, hT]; exact h _
        · right; exact ⟨.p u, fun o' _ K => by simp only [opLoad, AV.cv?, hT]; exact h _⟩
      | _ => left; intro K; simp [opLoad, AV.cv?, hT]
theorem opFieldAddr_par (T : TypeId) (a : AV) (f : Nat) (hi : ∀ id ∈ idsA a, id ∈ ids) : Par ids o fun o K => opFieldAddr E T a f o K := by
  cases hc : a.cv? with
  | none => left; intro K; simp [opFieldAddr, hc]
  | some c =>
    have ha := cv_some hc
    subst ha
    cases hT : E.fl T f with
    | none => left; intro K; cases c <;> simp [opFieldAddr, AV.cv?, hT]
    | some p =>
      obtain ⟨fo, fs⟩ := p
      cases c with
      | bptr id off =>
        have := Par.bifO (ids := ids) (o := o) (c := fun o => isBox o id) (fun o' h => at_isBox (h id (hi id (mem_cells1 (by simp [idsC]))))) (Par.ret (.s (.c (.bptr id (off + fo)))))
        simpa [opFieldAddr, AV.cv?, hT] using this
      | aptr id ver sh i off =>
        have := Par.bifO (ids := ids) (o := o) (c := fun o => cur o id ver sh) (fun o' h => at_cur (h id (hi id (mem_cells1 (by simp [idsC]))))) (Par.ret (.s (.c (.aptr id ver sh i (off + fo)))))
        simpa [opFieldAddr, AV.cv?, hT] using this
      | eptr v sh off => right; exact ⟨.s (.c (.eptr v sh (off + fo))), fun o' _ K => by simp [opFieldAddr, AV.cv?, hT]⟩
      | _ => left; intro K; simp [opFieldAddr, AV.cv?, hT]
theorem opIndexAddr_par (T : TypeId) (a i : AV) (hi : ∀ id ∈ idsA a, id ∈ ids) : Par ids o fun o K => opIndexAddr E T a i o K := by
  cases hc : a.cv? with
  | none => left; intro K; simp [opIndexAddr, hc]
  | some c =>
    have ha := cv_some hc
    subst ha
    cases hT : E.sl T with
    | none => left; intro K; cases c <;> simp [opIndexAddr, AV.cv?, hT]
    | some p =>
      obtain ⟨e, sh', by_⟩ := p
      cases c with
      | p v =>
        have := Par.bind (ids := ids) (o := o) v.row? fun q _ => Par.bif (q.1 == sh') fun _ => Par.bind (ids := ids) (o := o) i.int? fun n _ => Par.bind (ids := ids) (o := o) (lookP q.2.2 n) fun x _ => Par.ret (.s (.c (.eptr x sh' 0)))
        simpa [opIndexAddr, AV.cv?, hT] using this
      | loc id ver sh lo len =>
        have := Par.bind (ids := ids) (o := o) i.int? fun n _ => Par.bifO (ids := ids) (o := o) (c := fun o => sh == sh' && cur o id ver sh && decide (0 ≤ n) && decide (n < len))
          (fun o' h => by rw [at_cur (h id (hi id (mem_cells1 (by simp [idsC]))))]) (Par.ret (.s (.c (.aptr id ver sh (lo + n.toNat) 0))))
        simpa [opIndexAddr, AV.cv?, hT] using this
      | _ => left; intro K; simp [opIndexAddr, AV.cv?, hT]
theorem opIndex_par (T : TypeId) (a i : AV) : Par ids o fun o K => opIndex E T a i o K := by
  cases hv : a.pv? with
  | none => left; intro K; simp [opIndex, hv]
  | some v =>
    cases hst : E.st T with
    | false => left; intro K; simp [opIndex, hv, hst]
    | true =>
      have := Par.bind (ids := ids) (o := o) v.str? fun s _ => Par.bind (ids := ids) (o := o) i.int? fun n _ => Par.bind (ids := ids) (o := o) (byteAt s n) fun b _ => Par.ret (.p (.int .u8 b))
      simpa [opIndex, hv, hst] using this
theorem opConvert_par (S T : TypeId) (a : AV) : Par ids o fun o K => opConvert E S T a o K := by
  cases h1 : E.ik S <;> cases h2 : E.ik T <;> first | (left; intro K; simp [opConvert, h1, h2]; done) | skip
  rename_i k1 k2
  have := Par.bind (ids := ids) (o := o) a.int? fun n _ => Par.ret (.p (.int k2 (k2.wrap n)))
  simpa [opConvert, h1, h2] using this
theorem opExtract_par (a : AV) (i : Nat) : Par ids o fun o K => opExtract a i o K := by
  cases a with
  | s v => left; intro K; rfl
  | tup vs => exact Par.bind vs[i]? fun v _ => Par.ret (.s v)
theorem opLen_par (T : TypeId) (a : AV) (hi : ∀ id ∈ idsA a, id ∈ ids) : Par ids o fun o K => opLen E T a o K := by
  cases hc : a.cv? with
  | none => left; intro K; simp [opLen, hc]
  | some c =>
    have ha := cv_some hc
    subst ha
    cases c with
    | p v =>
      cases hst : E.st T with
      | true =>
        have := Par.bind (ids := ids) (o := o) v.str? fun s _ => Par.ret (.p (.int .i64 s.size))
        simpa [opLen, AV.cv?, hst] using this
      | false =>
        cases hsl : E.sl T with
        | none => left; intro K; simp [opLen, AV.cv?, hst, hsl]
        | some p =>
          have := Par.bind (ids := ids) (o := o) v.row? fun q _ => Par.ret (.p (.int .i64 q.2.2.length))
          simpa [opLen, AV.cv?, hst, hsl] using this
    | loc id ver sh lo len =>
      have := Par.bifO (ids := ids) (o := o) (c := fun o => (E.sl T).isSome && cur o id ver sh) (fun o' h => by rw [at_cur (h id (hi id (mem_cells1 (by simp [idsC]))))]) (Par.ret (.p (.int .i64 len)))
      simpa [opLen, AV.cv?] using this
    | _ => left; intro K; simp [opLen, AV.cv?]
theorem boundK_par (a : Option AV) (d : Int) {f : Int → List AObj → Kt → R} (h : ∀ n, Par ids o (f n)) : Par ids o fun o K => boundK a d fun n => f n o K := by
  cases a with
  | none => exact h d
  | some a => exact Par.bind a.int? fun n _ => h n
theorem opSlice_par (T : TypeId) (a : AV) (lo hi mx : Option AV) (hids : ∀ id ∈ idsA a, id ∈ ids) : Par ids o fun o K => opSlice E T a lo hi mx o K := by
  have row : ∀ (sh f : Nat) (xs : List PV) (l h : Int), Par ids o fun o K => sliceRow sh f xs l h o K := fun sh f xs l h => Par.bif _ fun _ => Par.ret _
  cases hc : a.cv? with
  | none => left; intro K; simp [opSlice, hc]
  | some c =>
    have ha := cv_some hc
    subst ha
    cases mx with
    | none =>
      cases c with
      | p v =>
        cases hst : E.st T with
        | true =>
          have := Par.bind (ids := ids) (o := o) v.str? fun s _ => boundK_par (ids := ids) (o := o) lo 0 fun l => boundK_par (ids := ids) (o := o) hi s.size fun h => (Par.bif _ fun _ => Par.ret _ : Par ids o fun o K => sliceStr s l h o K)
          simpa [opSlice, AV.cv?, hst, sliceStr] using this
        | false =>
          cases hsl : E.sl T with
          | none => left; intro K; simp [opSlice, AV.cv?, hst, hsl]
          | some p =>
            obtain ⟨e, sh', by_⟩ := p
            have := Par.bind (ids := ids) (o := o) v.row? fun q _ => Par.bif (ids := ids) (o := o) (q.1 == sh' || q.2.1 == 2) fun _ => boundK_par (ids := ids) (o := o) lo 0 fun l => boundK_par (ids := ids) (o := o) hi q.2.2.length fun h => row q.1 (bif q.2.1 == 2 then 2 else 0) q.2.2 l h
            simpa [opSlice, AV.cv?, hst, hsl] using this
      | loc id ver sh l0 len =>
        cases hsl : E.sl T with
        | none => left; intro K; simp [opSlice, AV.cv?, hsl]
        | some p =>
          obtain ⟨e, sh', by_⟩ := p
          have := Par.bifO (ids := ids) (o := o) (c := fun o => sh == sh' && cur o id ver sh) (fun o' h => by rw [at_cur (h id (hids id (mem_cells1 (by simp [idsC]))))])
            (boundK_par (ids := ids) (o := o) lo 0 fun l => boundK_par (ids := ids) (o := o) hi len fun h => (Par.bif _ fun _ => Par.ret _ : Par ids o fun o K => sliceLoc id ver sh l0 len l h o K))
          simpa [opSlice, AV.cv?, hsl, sliceLoc] using this
      | _ => left; intro K; simp [opSlice, AV.cv?]
    | some m =>
      cases c with
      | p v =>
        cases hi with
        | none => left; intro K; simp [opSlice, AV.cv?]
        | some hv =>
          cases hsl : E.sl T with
          | none => left; intro K; simp [opSlice, AV.cv?, hsl]
          | some p =>
            obtain ⟨e, sh', by_⟩ := p
            have := Par.bind (ids := ids) (o := o) v.row? fun q _ => Par.bif (ids := ids) (o := o) (q.1 == sh' || q.2.1 == 2) fun _ => boundK_par (ids := ids) (o := o) lo 0 fun l => Par.bind (ids := ids) (o := o) hv.int? fun h _ => Par.bind (ids := ids) (o := o) m.int? fun mm _ => Par.bif (mm == h) fun _ => row q.1 (bif q.2.1 == 2 then 2 else 1) q.2.2 l h
            simpa [opSlice, AV.cv?, hsl] using this
      | _ => left; intro K; simp [opSlice, AV.cv?]
/-- The same of what goes on with cells. -/
def ParL (ids : List Nat) (o : List AObj) (f : List AObj → (List CV → R) → R) : Prop := (∀ K, f o K = none) ∨ ∃ v, ∀ o', AgreeO ids o o' → ∀ K, f o' K = K v
theorem cellsK_par (sh : Nat) (v : SV) (hids : ∀ id ∈ (cellsOfS v).flatMap idsC, id ∈ ids) : ParL ids o fun o K => cellsK o sh v K := by
  cases v with
  | agg cs =>
    cases hc : (sh == cs.length && sh != 0) with
    | false => left; intro K; simp only [cellsK, hc, cond_false]
    | true => right; exact ⟨cs, fun o' _ K => by simp only [cellsK, hc, cond_true]⟩
  | c c =>
    have gen : (∀ v, c ≠ .p v) → (∀ o', AgreeO ids o o' → okC o c = okC o' c) → ParL ids o fun o K => cellsK o sh (.c c) K := by
      intro hp hk
      cases hb : (sh == 0 && okC o c) with
      | false =>
        left
        intro K
        cases c <;> first | (exact absurd rfl (hp _)) | simp only [cellsK, hb, cond_false]
      | true =>
        right
        refine ⟨[c], fun o' ho K => ?_⟩
        rw [hk o' ho] at hb
        cases c <;> first | (exact absurd rfl (hp _)) | simp only [cellsK, hb, cond_true]
    cases c with
    | p v =>
      cases hc : v.shp sh with
      | false => left; intro K; simp only [cellsK, hc, cond_false]
      | true => right; exact ⟨_, fun o' _ K => by simp only [cellsK, hc, cond_true]; rfl⟩
    | loc id ver sh2 lo len => exact gen (by simp) fun o' h => at_cur (h id (hids id (by simp [cellsOfS, idsC])))
    | bptr id off => exact gen (by simp) fun o' h => at_isBox (h id (hids id (by simp [cellsOfS, idsC])))
    | aptr id ver sh2 i off => exact gen (by simp) fun o' h => at_cur (h id (hids id (by simp [cellsOfS, idsC])))
    | undef => exact gen (by simp) fun o' h => rfl
    | eptr v a b => exact gen (by simp) fun o' h => rfl
    | fn f caps => exact gen (by simp) fun o' h => rfl
    | own e sh2 xs => exact gen (by simp) fun o' h => rfl
    | nel id ver nv i => exact gen (by simp) fun o' h => rfl
theorem buildIn_par (T : TypeId) (t : List AV) : ∀ (ps : List (Nat × Operand)) (cs : List CV), (∀ q ∈ ps, ∀ id ∈ idsA (aval t q.2), id ∈ ids) → ParL ids o fun o K => buildIn E T t o ps cs K
  | [], cs, _ => .inr ⟨cs, fun _ _ _ => rfl⟩
  | (i, x) :: ps, cs, hids => by
    cases hf : E.fl T i with
    | none => left; intro K; simp [buildIn, hf]
    | some p =>
      obtain ⟨off, sh⟩ := p
      cases hv : (aval t x).sv? with
      | none => left; intro K; simp [buildIn, hf, hv]
      | some v =>
        have h1 := hids (i, x) (by simp)
        rw [sv_some hv] at h1
        rcases cellsK_par (o := o) sh v h1 with h2 | ⟨ns, h2⟩
        · left; intro K; simp only [buildIn, hf, hv]; exact h2 _
        · replace h2 : ∀ o', AgreeO ids o o' → ∀ K : List CV → R, cellsK o' sh v K = K ns := h2
          cases hs : splice cs off ns with
          | none =>
            left
            intro K
            simp only [buildIn, hf, hv]
            rw [h2 o (fun _ _ => rfl)]
            simp [hs]
          | some cs' =>
            rcases buildIn_par T t ps cs' (fun q hq => hids q (by simp [hq])) with h3 | ⟨v3, h3⟩
            all_goals simp only at h3
            · left
              intro K
              simp only [buildIn, hf, hv]
              rw [h2 o (fun _ _ => rfl)]
              simp only [hs, Option.bind_some]
              exact h3 K
            · right
              refine ⟨v3, fun o' ho K => ?_⟩
              simp only [buildIn, hf, hv]
              rw [h2 o' ho]
              simp only [hs, Option.bind_some]
              exact h3 o' ho K
theorem opBuild_par (T : TypeId) (t : List AV) (ps : List (Nat × Operand)) (hids : ∀ q ∈ ps, ∀ id ∈ idsA (aval t q.2), id ∈ ids) : Par ids o fun o K => opBuild E T t ps o K := by
  cases hz : E.zr T with
  | none => left; intro K; simp [opBuild, hz]
  | some z =>
    cases hsh : E.sh T with
    | none => left; intro K; simp [opBuild, hz, hsh]
    | some n =>
      cases n with
      | zero => left; intro K; simp [opBuild, hz, hsh]
      | succ n =>
        rcases buildIn_par (E := E) (o := o) (ids := ids) T t ps (z.map .p) hids with h | ⟨v, h⟩
        all_goals simp only at h
        · left; intro K; simp only [opBuild, hz, hsh]; exact h _
        · right; exact ⟨.s (mkAgg v), fun o' ho K => by simp only [opBuild, hz, hsh]; rw [h o' ho]⟩
/-- A quiet operation hangs on nothing but the objects that its operands name. -/
theorem evOp_par {op : Op} (hq : silent op = true) (hids : ∀ x ∈ op.operands.toList, ∀ id ∈ idsA (aval t x), id ∈ ids) : Par ids o fun o K => evOp E op ⟨t, o⟩ K := by
  cases op with
  | move x => exact Par.ret _
  | assign x => exact Par.ret _
  | build T ps => exact opBuild_par T t ps.toList fun q hq => hids q.2 (by simp only [Op.operands]; exact List.mem_map.2 ⟨q, hq, rfl⟩)
  | load T x => exact opLoad_par T _ (hids x (by simp [Op.operands]))
  | nilCheck x =>
    simp only [evOp]
    have h1 := hids x (by simp [Op.operands])
    cases hc : (aval t x).cv? with
    | none => left; intro K; rfl
    | some c =>
      rw [cv_some hc] at h1
      cases c with
      | bptr id off => exact Par.bifO (c := fun o => isBox o id) (fun o' h => at_isBox (h id (h1 id (mem_cells1 (by simp [idsC]))))) (Par.ret _)
      | _ => left; intro K; rfl
  | binOp op T x y flag =>
    simp only [evOp]
    cases h1 : (aval t x).pv? with
    | none => left; intro K; rfl
    | some a =>
      cases h2 : (aval t y).pv? with
      | none => left; intro K; rfl
      | some b =>
        simp only
        cases nilEq op a b with
        | some c => exact Par.bif _ fun _ => Par.ret (.p (.bool c))
        | none =>
          simp only [binK_eq]
          exact Par.bind (pbinT (E.eqs T) (E.bl T) op a b) fun v _ => Par.ret (.p v)
  | unOp op T x =>
    simp only [evOp]
    exact Par.bind (aval t x).pv? fun a _ => Par.bind (pun op a) fun v _ => Par.ret (.p v)
  | convert S T x => exact opConvert_par S T _
  | makeFunc fn first caps =>
    simp only [evOp]
    unfold opMakeFunc
    split
    · exact Par.bind (capIds t caps.toList) fun v _ => Par.ret _
    · exact Par.none
  | slice T x lo hi mx => exact opSlice_par T _ _ _ _ (hids x (by simp [Op.operands]))
  | fieldAddr T x f => exact opFieldAddr_par T _ f (hids x (by simp [Op.operands]))
  | indexAddr T x i => exact opIndexAddr_par T _ _ (hids x (by simp [Op.operands]))
  | index T x i => exact opIndex_par T _ _
  | extract x i => exact opExtract_par _ i
  | call c =>
    simp only [evOp]
    split
    · rename_i x T hc ha hT
      exact opLen_par T _ (hids x (by simp [Op.operands, Call.operands, hc, list1 ha]))
    · rename_i x y T T' hc ha hT
      simp [silent, hc] at hq
    · rename_i x T hc ha hT
      unfold opCap
      split
      · exact Par.bind _ fun q _ => Par.bif _ fun _ => Par.ret _
      · exact Par.none
    · rename_i x y hc ha
      unfold opMin
      split
      · exact Par.ret _
      · exact Par.none
    · rename_i x y hc ha
      unfold opMin
      split
      · exact Par.ret _
      · exact Par.none
    · exact Par.none
  | _ => simp [silent] at hq
theorem evOp_parQ {op : Op} (hq : silent op = true) : Par (idsQ t op) o fun o K => evOp E op ⟨t, o⟩ K := by
  cases op with
  | move x => exact Par.ret _
  | assign x => exact Par.ret _
  | binOp op T x y flag =>
    simp only [evOp]
    cases h1 : (aval t x).pv? with
    | none => left; intro K; rfl
    | some a =>
      cases h2 : (aval t y).pv? with
      | none => left; intro K; rfl
      | some b =>
        simp only
        cases nilEq op a b with
        | some c => exact Par.bif _ fun _ => Par.ret (.p (.bool c))
        | none =>
          simp only [binK_eq]
          exact Par.bind (pbinT (E.eqs T) (E.bl T) op a b) fun v _ => Par.ret (.p v)
  | unOp op T x =>
    simp only [evOp]
    exact Par.bind (aval t x).pv? fun a _ => Par.bind (pun op a) fun v _ => Par.ret (.p v)
  | convert S T x => exact opConvert_par S T _
  | makeFunc fn first caps =>
    simp only [evOp]
    unfold opMakeFunc
    split
    · exact Par.bind (capIds t caps.toList) fun v _ => Par.ret _
    · exact Par.none
  | extract x i => exact opExtract_par _ i
  | pick c a b => simp [silent] at hq
  | _ => exact evOp_par hq fun x hx id hid => List.mem_flatMap.2 ⟨x, hx, hid⟩
end
end Go.Dp
