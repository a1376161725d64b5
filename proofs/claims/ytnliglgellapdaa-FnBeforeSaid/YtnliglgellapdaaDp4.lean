/- Addresses, cuts, lengths. -/
import Derived.Test.YtnliglgellapdaaDp3
set_option linter.unusedVariables false
set_option linter.unusedSimpArgs false
namespace Go.Dp
section
variable {P : Program} {E : Env} {w : World} {Im : Nat → Prop} {ρ : Nat → Option Value} {o : List AObj} {K : Kt} {r : List SV × List (List CV)}

theorem isBox_some {id : Nat} (h : isBox o id = true) : ∃ cs, o[id]? = some (.box cs) := by
  unfold isBox at h
  split at h
  · rename_i cs hc; exact ⟨cs, hc⟩
  · cases h
theorem cur_some {id ver sh : Nat} (h : cur o id ver sh = true) : ∃ e fz xs, o[id]? = some (.arr e sh ver fz xs) := by
  unfold cur at h
  split at h
  · rename_i e sh' ver' fz xs hc
    simp at h
    obtain ⟨rfl, rfl⟩ := h
    exact ⟨e, fz, xs, hc⟩
  · cases h
theorem run_fieldAt (hE : EnvOK P E) {T : TypeId} {f off sh : Nat} (h : E.fl T f = some (off, sh)) (b base : Nat) (w : World) :
    (Instr.fieldAt T (.pointer (some ⟨b, base, none⟩)) f).run P w = .ok (.pointer (some ⟨b, base + off, none⟩)) w := by
  obtain ⟨fs, fd, i, hu, hf, ho, hi, hz⟩ := hE.fl T f off sh h
  have hp := csz_pos sh
  have hn : ¬ i.size = 0 := by omega
  simp [Instr.fieldAt, run_underlying hu, hf, Instr.sureAddr, fieldPlace, sizeOf, typeInfo, hi, hn, add_at, ho]
theorem opFieldAddr_sound (hE : EnvOK P E) (hs : SR w Im ρ o) {T : TypeId} {f : Nat} {a : AV} {x : Value} (ha : RA w Im ρ o a x) (h : opFieldAddr E T a f o K = some r) : DidS P w Im ρ o K r (Instr.fieldAt T x f) := by
  unfold opFieldAddr at h
  split at h
  · rename_i id off fo fsh hc hT
    rw [cv_some hc] at ha
    obtain ⟨hb, hk⟩ := bif_some h
    obtain ⟨cs, ho⟩ := isBox_some hb
    simp only [RA, RS, RC, RB, ho] at ha
    obtain ⟨b, hρ, rfl⟩ := ha
    exact DidS.same hk (run_fieldAt hE hT b off w) (by simp only [RA, RS, RC, RB, ho]; exact ⟨b, hρ, rfl⟩)
  · rename_i id ver sh i off fo fsh hc hT
    rw [cv_some hc] at ha
    obtain ⟨hb, hk⟩ := bif_some h
    obtain ⟨e, fz, xs, ho⟩ := cur_some hb
    simp only [RA, RS, RC, ho] at ha
    obtain ⟨hi, g, n, cap, v0, hρ, hmv, rfl⟩ := ha.2 (by simp) (by simp)
    refine DidS.same hk (run_fieldAt hE hT g _ w) ?_
    simp only [RA, RS, RC, ho]
    exact ⟨Nat.le_refl _, fun _ _ => ⟨hi, g, n, cap, v0, hρ, hmv, by rw [Nat.add_assoc]⟩⟩
  · rename_i v sh off fo fsh hc hT
    rw [cv_some hc] at ha
    obtain ⟨b, base, rfl, hIm, hshp, hcells⟩ := ha
    exact DidS.same h (run_fieldAt hE hT b _ w) ⟨b, base, by rw [Nat.add_assoc], hIm, hshp, hcells⟩
  · cases h

theorem run_indexAt (hE : EnvOK P E) {T : TypeId} {e sh by_ : Nat} (h : E.sl T = some (e, sh, by_)) (k : IntKind) (i : Int) (a : Addr) (len cap : Nat) (h0 : 0 ≤ i) (h1 : i < len) (w : World) :
    (Instr.indexAt T (.slice (some a) len cap) (.int k i)).run P w = .ok (.pointer (some (a.add (i.toNat * csz sh)))) w := by
  obtain ⟨hu, ⟨inf, z, hi, hz, _⟩, _⟩ := hE.sl T e sh by_ h
  simp [Instr.indexAt, asIntOf, run_underlying hu, h0, h1, sizeOf, typeInfo, hi, hz]
theorem opIndexAddr_sound (hE : EnvOK P E) (hs : SR w Im ρ o) {T : TypeId} {a i : AV} {x y : Value} (ha : RA w Im ρ o a x) (hi : RA w Im ρ o i y) (h : opIndexAddr E T a i o K = some r) : DidS P w Im ρ o K r (Instr.indexAt T x y) := by
  unfold opIndexAddr at h
  split at h
  · rename_i v e sh' by_ hc hT
    rw [cv_some hc] at ha
    obtain ⟨⟨sh, f, xs⟩, hq, h⟩ := bind_some h
    obtain rfl := row_some hq
    simp only at h ha
    all_goals
      obtain ⟨hsh, h⟩ := bif_some h
      obtain ⟨n, hn, h⟩ := bind_some h
      obtain ⟨x', hx', hk⟩ := bind_some h
      obtain ⟨h0, hx'⟩ := bif_some hx'
      replace hx' : xs[n.toNat]? = some x' := hx'
      obtain ⟨k, rfl⟩ := hi.int hn
      simp at hsh
      subst hsh
      have h0 := of_decide_eq_true h0
      have hlt := (List.getElem?_eq_some_iff.1 hx').1
      cases ha with
      | nil => simp at hlt
      | row _ _ _ a cap g hf hsp hcap hm h1 him hshp hcell hrp =>
        refine DidS.same hk (run_indexAt hE hT k n a _ cap h0 (by omega) w) ?_
        have e1 : a.add (n.toNat * csz sh) = ⟨a.block, a.off + n.toNat * csz sh + 0, none⟩ := by
          obtain ⟨b, off, sp⟩ := a
          simp only at hsp
          subst hsp
          exact add_at b off _
        rw [e1]
        refine ⟨a.block, a.off + n.toNat * csz sh, rfl, him (by omega), hshp _ _ hx', ?_⟩
        intro j c hj
        refine ⟨_, ?_, hrp _ _ j c hx' hj⟩
        rw [Nat.add_assoc]
        exact hcell _ _ j c hx' hj
  · rename_i id ver sh lo len e sh' by_ hc hT
    rw [cv_some hc] at ha
    obtain ⟨n, hn, h⟩ := bind_some h
    obtain ⟨hcond, hk⟩ := bif_some h
    simp only [Bool.and_eq_true, beq_iff_eq, decide_eq_true_eq] at hcond
    obtain ⟨⟨⟨rfl, hcur⟩, h0⟩, h1⟩ := hcond
    obtain ⟨e', fz, xs, ho⟩ := cur_some hcur
    obtain ⟨k, rfl⟩ := hi.int hn
    simp only [RA, RS, RC, ho] at ha
    obtain ⟨hle, v, hρ, hsl⟩ := ha.2 (by simp) (by simp)
    obtain ⟨vals, hown, _⟩ := hs.ob id _ _ ho hρ
    rcases hown.2 with ⟨hm, _⟩ | ⟨g, cap, cur, hm, _, hh, hnc, hcm, hcs, _⟩
    · rw [hm] at hsl
      simp only [RSl] at hsl
      omega
    · have hsl' := hsl
      rw [hm] at hsl'
      obtain ⟨off, rfl, hlc, hoff⟩ := hsl'
      have hoff := hoff (.inr (by omega))
      subst hoff
      refine DidS.same hk (run_indexAt hE hT k n _ len _ h0 h1 w) ?_
      rw [add_at]
      simp only [RA, RS, RC, ho]
      refine ⟨Nat.le_refl _, fun _ _ => ⟨by omega, g, _, cap, v, hρ, hm, ?_⟩⟩
      rw [Nat.add_mul, Nat.add_zero]
  · cases h
theorem opIndex_sound (hE : EnvOK P E) (hs : SR w Im ρ o) {T : TypeId} {a i : AV} {x y : Value} (ha : RA w Im ρ o a x) (hi : RA w Im ρ o i y) (h : opIndex E T a i o K = some r) : DidS P w Im ρ o K r (Instr.index T x y) := by
  unfold opIndex at h
  split at h
  · rename_i v hc hT
    obtain ⟨s, hv, h⟩ := bind_some h
    have := RA.pv hc ha
    rw [str_some hv] at this
    cases this
    obtain ⟨n, hn, h⟩ := bind_some h
    obtain ⟨m, hm, hk⟩ := bind_some h
    obtain ⟨h0, hm⟩ := bif_some hm
    obtain ⟨b, hb, hm⟩ := bind_some hm
    injection hm with hm
    subst hm
    obtain ⟨k, rfl⟩ := hi.int hn
    have h0 := of_decide_eq_true h0
    have hlt := (List.getElem?_eq_some_iff.1 hb).1
    have hlt' : n.toNat < s.size := by simpa using hlt
    refine DidS.same hk ?_ (RP.int _ _)
    have hg : s[n.toNat]? = some b := by
      rw [← hb]
      simp [hlt']
      rfl
    simp [Instr.index, asIntOf, run_underlying (hE.st T hT), h0, hg]
  · cases h
theorem opConvert_sound (hE : EnvOK P E) (hs : SR w Im ρ o) {S T : TypeId} {a : AV} {x : Value} (ha : RA w Im ρ o a x) (h : opConvert E S T a o K = some r) : DidS P w Im ρ o K r (convert S T x) := by
  unfold opConvert at h
  split at h
  · rename_i k' k hS hT
    obtain ⟨n, hn, hk⟩ := bind_some h
    obtain ⟨k0, rfl⟩ := ha.int hn
    refine DidS.same hk ?_ (RP.int _ _)
    simp [convert, run_underlying (hE.ik S k' hS), run_underlying (hE.ik T k hT), Conv.intToInt]
  · cases h
theorem opExtract_sound (hs : SR w Im ρ o) {i : Nat} {a : AV} {x : Value} (ha : RA w Im ρ o a x) (h : opExtract a i o K = some r) : DidS P w Im ρ o K r (Instr.extract x i) := by
  unfold opExtract at h
  split at h
  · rename_i vs
    obtain ⟨v, hv, hk⟩ := bind_some h
    obtain ⟨us, rfl, hl, hh⟩ := ha
    have hi : i < us.size := by rw [hl]; exact (List.getElem?_eq_some_iff.1 hv).1
    exact DidS.same hk (by simp [Instr.extract, hi]) (hh i v us[i] hv (by simp [hi]))
  · cases h
theorem opLen_sound (hE : EnvOK P E) (hs : SR w Im ρ o) {T ty : TypeId} {a : AV} {x : Value} (ha : RA w Im ρ o a x) (h : opLen E T a o K = some r) : DidS P w Im ρ o K r (Builtin.len_ #[T] ty #[x]) := by
  unfold opLen at h
  split at h
  · rename_i v hc
    rw [cv_some hc] at ha
    split at h
    · rename_i hT
      obtain ⟨s, hv, h⟩ := bind_some h
      rw [str_some hv] at ha
      cases ha
      exact DidS.same h (by simp [Builtin.len_, run_underlying (hE.st T hT), goInt]) (RP.int _ _)
    · rename_i q _ hT
      obtain ⟨⟨sh, f, xs⟩, hv, h⟩ := bind_some h
      rw [row_some hv] at ha
      simp only at h ha
      obtain ⟨e, sh', by_⟩ := q
      have hu := (hE.sl T e sh' by_ hT).1
      cases ha with
      | nil => exact DidS.same h (by simp [Builtin.len_, run_underlying hu, goInt]) (RP.int _ _)
      | row _ _ _ a cap g hf hsp hcap hm h1 him hshp hcell hrp => exact DidS.same h (by simp [Builtin.len_, run_underlying hu, goInt]) (RP.int _ _)
    · cases h
  · rename_i id ver sh lo len hc
    rw [cv_some hc] at ha
    obtain ⟨hcond, hk⟩ := bif_some h
    simp only [Bool.and_eq_true] at hcond
    obtain ⟨hT, hcur⟩ := hcond
    obtain ⟨⟨e, sh', by_⟩, hT⟩ := Option.isSome_iff_exists.1 hT
    have hu := (hE.sl T e sh' by_ hT).1
    obtain ⟨e', fz, xs, ho⟩ := cur_some hcur
    simp only [RA, RS, RC, ho] at ha
    obtain ⟨hle, v, hρ, hsl⟩ := ha.2 (by simp) (by simp)
    have hx : ∃ ad cap, x = .slice ad len cap := by
      obtain ⟨vals, hown, _⟩ := hs.ob id _ _ ho hρ
      rcases hown.2 with ⟨hm, _⟩ | ⟨g, cap, cur, hm, _⟩
      · rw [hm] at hsl; obtain ⟨_, rfl, rfl⟩ := hsl; exact ⟨_, _, rfl⟩
      · rw [hm] at hsl; obtain ⟨off, rfl, _⟩ := hsl; exact ⟨_, _, rfl⟩
    obtain ⟨ad, cap, rfl⟩ := hx
    exact DidS.same hk (by simp [Builtin.len_, run_underlying hu, goInt]) (RP.int _ _)
  · cases h

/-! ### Cuts -/
theorem RP.int_of {n : Int} {a : AV} {x : Value} (h : a.int? = some n) (hx : RA w Im ρ o a x) : ∃ k, x = .int k n := hx.int h
/-- A bound that is given, or not. -/
theorem boundK_some {a : Option AV} {d : Int} {K : Int → R} {r : List SV × List (List CV)} {x : Option Value} (h : boundK a d K = some r) (ha : ∀ v, a = some v → ∃ y, x = some y ∧ RA w Im ρ o v y) (hn : a = none → x = none) :
    (a = none ∧ x = none ∧ K d = some r) ∨ ∃ k n, a.isSome = true ∧ x = some (.int k n) ∧ K n = some r := by
  cases a with
  | none => exact .inl ⟨rfl, hn rfl, h⟩
  | some v =>
    obtain ⟨n, hn', hk⟩ := bind_some h
    obtain ⟨y, rfl, hy⟩ := ha v rfl
    obtain ⟨k, rfl⟩ := hy.int hn'
    exact .inr ⟨k, n, rfl, rfl, hk⟩
theorem run_bound (k : IntKind) (n : Int) (y : Nat) (code : BoundsCode) (h0 : 0 ≤ n) (h1 : n ≤ y) (w : World) : (Instr.sliceBound (.int k n) y code).run P w = .ok n.toNat w := by
  simp [Instr.sliceBound, asIntOf, h0, h1]
/-- The bounds of a cut without a third number. -/
theorem run_bounds (isS : Bool) (len cap : Nat) (hlc : len ≤ cap) {lo hi : Option Value} {l h : Int} (hlo : (lo = none ∧ l = 0) ∨ ∃ k, lo = some (.int k l)) (hhi : (hi = none ∧ h = len) ∨ ∃ k, hi = some (.int k h))
    (h0 : 0 ≤ l) (h1 : l ≤ h) (h2 : h ≤ len) (w : World) : (Instr.sliceBounds isS len cap lo hi none).run P w = .ok (l.toNat, h.toNat, cap) w := by
  have e1 : (h.toNat : Int) = h := Int.toNat_of_nonneg (by omega)
  rcases hhi with ⟨rfl, rfl⟩ | ⟨k, rfl⟩ <;> rcases hlo with ⟨rfl, rfl⟩ | ⟨k', rfl⟩
  · simp [Instr.sliceBounds]
  · simp [Instr.sliceBounds, run_bound k' l len _ h0 (by omega)]
  · simp [Instr.sliceBounds, run_bound k h cap _ (by omega) (by omega)]
  · simp [Instr.sliceBounds, run_bound k h cap _ (by omega) (by omega), run_bound k' l h.toNat _ h0 (by omega)]
theorem run_sliceS (hE : EnvOK P E) {T : TypeId} (hT : E.st T = true) (s : ByteArray) {lo hi : Option Value} {l h : Int} (hlo : (lo = none ∧ l = 0) ∨ ∃ k, lo = some (.int k l)) (hhi : (hi = none ∧ h = s.size) ∨ ∃ k, hi = some (.int k h))
    (h0 : 0 ≤ l) (h1 : l ≤ h) (h2 : h ≤ s.size) (w : World) : (Instr.sliceAt T (.string s) lo hi none).run P w = .ok (.string (s.extract l.toNat h.toNat)) w := by
  simp [Instr.sliceAt, Instr.slice, run_underlying (hE.st T hT), run_bounds false s.size s.size (Nat.le_refl _) hlo hhi h0 h1 h2]
theorem run_sliceR (hE : EnvOK P E) {T : TypeId} {e sh by_ : Nat} (hT : E.sl T = some (e, sh, by_)) (a : Option Addr) (len cap : Nat) (hlc : len ≤ cap) {lo hi : Option Value} {l h : Int} (hlo : (lo = none ∧ l = 0) ∨ ∃ k, lo = some (.int k l)) (hhi : (hi = none ∧ h = len) ∨ ∃ k, hi = some (.int k h))
    (h0 : 0 ≤ l) (h1 : l ≤ h) (h2 : h ≤ len) (w : World) : (Instr.sliceAt T (.slice a len cap) lo hi none).run P w = .ok (.slice (if cap = l.toNat then a else a.map (·.add (l.toNat * csz sh))) (h.toNat - l.toNat) (cap - l.toNat)) w := by
  obtain ⟨hu, ⟨inf, z, hi', hz, _⟩, _⟩ := hE.sl T e sh by_ hT
  simp [Instr.sliceAt, Instr.slice, run_underlying hu, run_bounds true len cap hlc hlo hhi h0 h1 h2, sizeOf, typeInfo, hi', hz]
theorem run_sliceR3 (hE : EnvOK P E) {T : TypeId} {e sh by_ : Nat} (hT : E.sl T = some (e, sh, by_)) (a : Option Addr) (len cap : Nat) {lo : Option Value} {kh km : IntKind} {l h : Int} (hlo : (lo = none ∧ l = 0) ∨ ∃ k, lo = some (.int k l))
    (h0 : 0 ≤ l) (h1 : l ≤ h) (h2 : h ≤ cap) (w : World) : (Instr.sliceAt T (.slice a len cap) lo (some (.int kh h)) (some (.int km h))).run P w = .ok (.slice (if h.toNat = l.toNat then a else a.map (·.add (l.toNat * csz sh))) (h.toNat - l.toNat) (h.toNat - l.toNat)) w := by
  obtain ⟨hu, ⟨inf, z, hi', hz, _⟩, _⟩ := hE.sl T e sh by_ hT
  have hb : (Instr.sliceBounds true len cap lo (some (.int kh h)) (some (.int km h))).run P w = .ok (l.toNat, h.toNat, h.toNat) w := by
    have e1 : (h.toNat : Int) = h := Int.toNat_of_nonneg (by omega)
    rcases hlo with ⟨rfl, rfl⟩ | ⟨k', rfl⟩
    · simp [Instr.sliceBounds, run_bound km h cap _ (by omega) (by omega), run_bound kh h h.toNat _ (by omega) (by omega)]
    · simp [Instr.sliceBounds, run_bound km h cap _ (by omega) (by omega), run_bound kh h h.toNat _ (by omega) (by omega), run_bound k' l h.toNat _ h0 (by omega)]
  simp [Instr.sliceAt, Instr.slice, run_underlying hu, hb, sizeOf, typeInfo, hi', hz]
/-- A cut of a row that is let go. -/
theorem RP.cut {sh f f' : Nat} {xs : List PV} {a : Addr} {cap l h c : Nat} (hr : RP w Im (.row sh f xs) (.slice (some a) xs.length cap)) (hl : l ≤ h) (hh : h ≤ xs.length) (hf' : f' ≠ 2) (hc : c = h - l ∨ f' ≠ 1) (hc2 : h - l ≤ c) (hc3 : c ≤ cap) (A : Addr)
    (hA : A = a ∧ h = l ∨ A = a.add (l * csz sh)) : RP w Im (.row sh f' ((xs.take h).drop l)) (.slice (some A) (h - l) c) := by
  cases hr with
  | row _ _ _ _ _ g hf hsp hcap hm h1 him hshp hcell hrp =>
    have hlen : ((xs.take h).drop l).length = h - l := by simp; omega
    have get : ∀ i x, ((xs.take h).drop l)[i]? = some x → i < h - l ∧ xs[l + i]? = some x := by
      intro i x hx
      have hi : i < h - l := by have := (List.getElem?_eq_some_iff.1 hx).1; rwa [hlen] at this
      rw [List.getElem?_drop, List.getElem?_take_of_lt (by omega)] at hx
      exact ⟨hi, hx⟩
    have hAb : A.block = a.block ∧ A.spot = none := by
      rcases hA with ⟨rfl, _⟩ | rfl
      · exact ⟨rfl, hsp⟩
      · obtain ⟨b, off, sp⟩ := a
        simp only at hsp
        subst hsp
        rw [add_at]
        exact ⟨rfl, rfl⟩
    have hoff : l < h → A.off = a.off + l * csz sh := by
      intro hlt
      rcases hA with ⟨rfl, he⟩ | rfl
      · omega
      · obtain ⟨b, off, sp⟩ := a
        simp only at hsp
        subst hsp
        rw [add_at]
    have key := RP.row (w := w) (Im := Im) sh f' ((xs.take h).drop l) A c (fun k => g (l * csz sh + k)) hf' hAb.2 (by omega) (by omega) (fun e => by rcases hc with hc | hc <;> omega)
      (fun hp => by rw [hAb.1]; exact him (by omega)) (fun i x hx => hshp _ _ (get i x hx).2) ?_ ?_
    · rwa [hlen] at key
    · intro i x j c' hx hj
      obtain ⟨hi, hx⟩ := get i x hx
      have := hcell (l + i) x j c' hx hj
      rw [hAb.1, hoff (by omega)]
      rw [Nat.add_mul, Nat.add_assoc] at this
      rw [Nat.add_assoc]
      exact this
    · intro i x j c' hx hj
      obtain ⟨hi, hx⟩ := get i x hx
      have := hrp (l + i) x j c' hx hj
      rwa [Nat.add_mul, Nat.add_assoc] at this
theorem opSlice_sound (hE : EnvOK P E) (hs : SR w Im ρ o) {T : TypeId} {a : AV} {lo hi mx : Option AV} {x : Value} {xl xh xm : Option Value} (ha : RA w Im ρ o a x)
    (hl : ∀ v, lo = some v → ∃ y, xl = some y ∧ RA w Im ρ o v y) (hln : lo = none → xl = none) (hh : ∀ v, hi = some v → ∃ y, xh = some y ∧ RA w Im ρ o v y) (hhn : hi = none → xh = none)
    (hm : ∀ v, mx = some v → ∃ y, xm = some y ∧ RA w Im ρ o v y) (hmn : mx = none → xm = none) (h : opSlice E T a lo hi mx o K = some r) : DidS P w Im ρ o K r (Instr.sliceAt T x xl xh xm) := by
  have two : ∀ {d : Int} {K' : Int → Int → R}, boundK lo 0 (fun l => boundK hi d fun h => K' l h) = some r → ∃ l h, K' l h = some r ∧ ((xl = none ∧ l = 0) ∨ ∃ k, xl = some (.int k l)) ∧ ((xh = none ∧ h = d) ∨ ∃ k, xh = some (.int k h)) := by
    intro d K' h
    rcases boundK_some h hl hln with ⟨_, e1, h⟩ | ⟨k, l, _, e1, h⟩ <;> rcases boundK_some h hh hhn with ⟨_, e2, h⟩ | ⟨k', h', _, e2, h⟩
    · exact ⟨_, _, h, .inl ⟨e1, rfl⟩, .inl ⟨e2, rfl⟩⟩
    · exact ⟨_, _, h, .inl ⟨e1, rfl⟩, .inr ⟨_, e2⟩⟩
    · exact ⟨_, _, h, .inr ⟨_, e1⟩, .inl ⟨e2, rfl⟩⟩
    · exact ⟨_, _, h, .inr ⟨_, e1⟩, .inr ⟨_, e2⟩⟩
  have one : ∀ {K' : Int → R}, boundK lo 0 K' = some r → ∃ l, K' l = some r ∧ ((xl = none ∧ l = 0) ∨ ∃ k, xl = some (.int k l)) := by
    intro K' h
    rcases boundK_some h hl hln with ⟨_, e1, h⟩ | ⟨k, l, _, e1, h⟩
    · exact ⟨_, h, .inl ⟨e1, rfl⟩⟩
    · exact ⟨_, h, .inr ⟨_, e1⟩⟩
  unfold opSlice at h
  split at h
  · rename_i v hc
    obtain rfl := hmn rfl
    rw [cv_some hc] at ha
    split at h
    · rename_i hT
      obtain ⟨s, hv, h⟩ := bind_some h
      rw [str_some hv] at ha
      obtain ⟨l, h', hk, e1, e2⟩ := two h
      unfold sliceStr at hk
      obtain ⟨hcond, hk⟩ := bif_some hk
      simp only [Bool.and_eq_true, decide_eq_true_eq] at hcond
      cases ha
      exact DidS.same hk (run_sliceS hE hT s e1 e2 hcond.1.1 hcond.1.2 hcond.2 w) (RP.str _)
    · rename_i e sh' by_ _ hT
      obtain ⟨⟨sh, f, xs⟩, hv, h⟩ := bind_some h
      rw [row_some hv] at ha
      simp only at h ha
      obtain ⟨hsh, h⟩ := bif_some h
      obtain ⟨l, h', hk, e1, e2⟩ := two h
      unfold sliceRow at hk
      obtain ⟨hcond, hk⟩ := bif_some hk
      simp only [Bool.and_eq_true, decide_eq_true_eq] at hcond
      obtain ⟨⟨h0, h1⟩, h2⟩ := hcond
      cases ha with
      | nil =>
        simp at h2
        have e2' : (xh = none ∧ h' = ((0 : Nat) : Int)) ∨ ∃ k, xh = some (.int k h') := by simpa using e2
        have hl0 : l = 0 := by omega
        have hh0 : h' = 0 := by omega
        subst hl0
        subst hh0
        refine DidS.same hk (run_sliceR hE hT none 0 0 (Nat.le_refl _) e1 e2' (by omega) (by omega) (by simp) w) ?_
        show RP w Im _ _
        have hnf : (bif f == 2 then 2 else 0) ≠ 3 := by cases (f == 2) <;> decide
        simpa using RP.nil sh _ hnf
      | row _ _ _ ad cap g hf hsp hcap hm' h1' him hshp hcell hrp =>
        have hr0 : RP w Im (.row sh f xs) (.slice (some ad) xs.length cap) := .row sh f xs ad cap g hf hsp hcap hm' h1' him hshp hcell hrp
        have hf2 : (f == 2) = false := by simpa using hf
        simp only [hf2, Bool.or_false, beq_iff_eq] at hsh
        subst hsh
        refine DidS.same hk (run_sliceR hE hT (some ad) xs.length cap hcap e1 e2 h0 h1 h2 w) ?_
        simp only [hf2, cond_false]
        by_cases hcl : cap = l.toNat
        · rw [if_pos hcl]
          exact hr0.cut (by omega) (by omega) (by decide) (.inr (by decide)) (by omega) (by omega) ad (.inl ⟨rfl, by omega⟩)
        · rw [if_neg hcl]
          exact hr0.cut (by omega) (by omega) (by decide) (.inr (by decide)) (by omega) (by omega) _ (.inr rfl)
    · cases h
  · rename_i id ver sh l0 len hc
    obtain rfl := hmn rfl
    rw [cv_some hc] at ha
    split at h
    · rename_i e sh' by_ hT
      obtain ⟨hcnd, h⟩ := bif_some h
      obtain ⟨l, h', hk, e1, e2⟩ := two h
      unfold sliceLoc at hk
      obtain ⟨hcond, hk⟩ := bif_some hk
      simp only [Bool.and_eq_true, beq_iff_eq, decide_eq_true_eq] at hcond hcnd
      obtain ⟨⟨h0, h1⟩, h2⟩ := hcond
      obtain ⟨rfl, hcur⟩ := hcnd
      obtain ⟨e', fz, xs, ho⟩ := cur_some hcur
      simp only [RA, RS, RC, ho] at ha
      obtain ⟨hle, v, hρ, hsl⟩ := ha.2 (by simp) (by simp)
      obtain ⟨vals, hown, _⟩ := hs.ob id _ _ ho hρ
      rcases hown.2 with ⟨hm, _⟩ | ⟨g, cap, cu, hm, _, hh', hnc, hcm, hcs, _⟩ <;> rw [hm] at hsl
      · obtain ⟨rfl, rfl, rfl⟩ := hsl
        have hl0 : l = 0 := by omega
        have hh0 : h' = 0 := by omega
        subst hl0
        subst hh0
        refine DidS.same hk (run_sliceR hE hT none 0 0 (Nat.le_refl _) e1 e2 (by omega) (by omega) (by simp) w) ?_
        simp only [RA, RS, RC, ho]
        exact ⟨Nat.le_refl _, fun _ _ => ⟨by simp, _, hρ, by rw [hm]; simp [RSl]⟩⟩
      · obtain ⟨off, rfl, hlc, hoff⟩ := hsl
        refine DidS.same hk (run_sliceR hE hT (some ⟨g, off, none⟩) len (cap - l0) (by omega) e1 e2 h0 h1 h2 w) ?_
        simp only [RA, RS, RC, ho]
        refine ⟨Nat.le_refl _, fun _ _ => ⟨by omega, _, hρ, ?_⟩⟩
        rw [hm]
        by_cases hcl : cap - l0 = l.toNat
        · rw [if_pos hcl]
          refine ⟨off, by congr 1; omega, by omega, ?_⟩
          rintro (h3 | h3)
          · have : l0 = 0 := by omega
            subst this
            have := hoff (.inl rfl)
            rw [this, show l.toNat = 0 by omega]
          · omega
        · rw [if_neg hcl]
          simp only [Option.map_some, add_at]
          refine ⟨off + l.toNat * csz sh, by congr 1; omega, by omega, fun _ => ?_⟩
          rw [hoff (.inr (by omega)), Nat.add_mul]
    · cases h
  · rename_i v m hc
    rw [cv_some hc] at ha
    split at h
    · rename_i h' e sh' by_ hT
      obtain ⟨⟨sh, f, xs⟩, hv, h⟩ := bind_some h
      rw [row_some hv] at ha
      simp only at h ha
      obtain ⟨hsh, h⟩ := bif_some h
      obtain ⟨l, h, e1⟩ := one h
      obtain ⟨n, hn, h⟩ := bind_some h
      obtain ⟨q, hq, h⟩ := bind_some h
      obtain ⟨hmq, h⟩ := bif_some h
      simp at hmq
      subst hmq
      obtain ⟨y, rfl, hy⟩ := hh h' rfl
      obtain ⟨kh, rfl⟩ := hy.int hn
      obtain ⟨y, rfl, hy⟩ := hm m rfl
      obtain ⟨km, rfl⟩ := hy.int hq
      unfold sliceRow at h
      obtain ⟨hcond, hk⟩ := bif_some h
      simp only [Bool.and_eq_true, decide_eq_true_eq] at hcond
      obtain ⟨⟨h0, h1⟩, h2⟩ := hcond
      cases ha with
      | nil =>
        simp at h2
        refine DidS.same hk (run_sliceR3 hE hT none 0 0 e1 (by omega) (by omega) (by simpa using h2) w) ?_
        have e3 : q.toNat = 0 := by omega
        rw [e3]
        show RP w Im _ _
        have hnf : (bif f == 2 then 2 else 1) ≠ 3 := by cases (f == 2) <;> decide
        simpa using RP.nil sh _ hnf
      | row _ _ _ ad cap g hf hsp hcap hm' h1' him hshp hcell hrp =>
        have hr0 : RP w Im (.row sh f xs) (.slice (some ad) xs.length cap) := .row sh f xs ad cap g hf hsp hcap hm' h1' him hshp hcell hrp
        have hf2 : (f == 2) = false := by simpa using hf
        simp only [hf2, Bool.or_false, beq_iff_eq] at hsh
        subst hsh
        refine DidS.same hk (run_sliceR3 hE hT (some ad) xs.length cap e1 h0 h1 (by omega) w) ?_
        simp only [hf2, cond_false]
        split
        · exact hr0.cut (by omega) (by omega) (by decide) (.inl rfl) (by omega) (by omega) ad (.inl ⟨rfl, by omega⟩)
        · exact hr0.cut (by omega) (by omega) (by decide) (.inl rfl) (by omega) (by omega) _ (.inr rfl)
    · cases h
  · cases h
end
end Go.Dp
