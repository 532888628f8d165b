/- The evaluator by value: what it tells, the model does. -/
import Derived.Test.YthfplgfpodmphaaVh
namespace Go.Proofs.Ythfplgfpodmphaa.VE
variable {G G' : Gh} {w w' : World} {s s' : St} {P : Program}
theorem litRun_ok {α : Type} : ∀ (x : Sem α) (a : α), litRun P x = some a → ∀ w, x.run P w = .ok a w
  | .pure b, a, h, w => by simp only [litRun, Option.some.injEq] at h; subst h; rfl
  | .program k, a, h, w => by simp only [litRun] at h; exact litRun_ok (k P) a h w
  | .load .., a, h, w => by simp [litRun] at h
  | .store .., a, h, w => by simp [litRun] at h
  | .new .., a, h, w => by simp [litRun] at h
  | .shape .., a, h, w => by simp [litRun] at h
  | .freeze .., a, h, w => by simp [litRun] at h
  | .frozen .., a, h, w => by simp [litRun] at h
  | .getObj .., a, h, w => by simp [litRun] at h
  | .setObj .., a, h, w => by simp [litRun] at h
  | .choose .., a, h, w => by simp [litRun] at h
  | .sys .., a, h, w => by simp [litRun] at h
  | .mark .., a, h, w => by simp [litRun] at h
  | .halt .., a, h, w => by simp [litRun] at h
theorem litMap_ok {x : Sem Value} {v : PV} (h : (litRun P x).map ofVal = some v) (w : World) : ∃ u, x.run P w = .ok u w ∧ VR G w v u := by
  simp only [Option.map_eq_some_iff] at h
  obtain ⟨u, h1, rfl⟩ := h
  exact ⟨u, litRun_ok x u h1 w, vr_ofVal u⟩
theorem litOp_ok {f : Value → Sem Value} {x v : PV} {u : Value} (h : litOp P f x = some v) (hx : VR G w x u) : ∃ y, (f u).run P w = .ok y w ∧ VR G w v y := by
  unfold litOp at h
  split at h
  · rename_i a ha
    rw [vr_lit ha hx]
    exact litMap_ok h w
  · cases h
theorem vr_asI {x : PV} {n : Int} {u : Value} (h : asI x = some n) (hx : VR G w x u) : ∃ k, u = .int k n := by
  unfold asI at h
  split at h
  · rename_i k m
    cases h
    simp only [VR] at hx
    exact ⟨k, hx⟩
  · cases h
theorem eqIn_slice {d : Nat} {t e : TypeId} {b : Addr} {n c : Nat} (h : P.underlying t = some (.slice e)) : (Op.equalIn (d + 1) t (.slice (some b) n c) (.slice none 0 0)).run P w = .ok false w := by
  unfold Op.equalIn
  simp [run_underlying h]
theorem eqIn_ptr {d : Nat} {t e : TypeId} {b : Addr} (h : P.underlying t = some (.pointer e)) : (Op.equalIn (d + 1) t (.pointer (some b)) (.pointer none)).run P w = .ok false w := by
  unfold Op.equalIn
  simp [run_underlying h]
theorem eqIn_fn {d : Nat} {t : TypeId} {p q : Array TypeId} {v : Bool} {f : Fn} {a c : Array Value} (h : P.underlying t = some (.func p q v)) : (Op.equalIn (d + 1) t (.func f a c) .nilFunc).run P w = .ok false w := by
  unfold Op.equalIn
  simp [run_underlying h]
theorem someX_ok {t : TypeId} {yo : Operand} {x : PV} {u : Value} (a : Act) (hx : VR G w x u) (hs : someX yo (P.underlying t) x = true) (op : BinOp) (xo : Operand) :
    (eqGuard op t xo yo u (a.eval yo)).run P w = .ok () w ∧ (Op.equal t u (a.eval yo)).run P w = .ok false w ∧ (∀ k n, u ≠ .int k n) ∧ (∀ k n, u ≠ .float k n) ∧ (∀ k n m, u ≠ .complex k n m) ∧ ∀ s, u ≠ .string s := by
  unfold someX at hs
  have hD : Op.maxDepth = 9999 + 1 := rfl
  split at hs
  · rename_i e z a r c hd
    simp only [VR] at hx
    rcases hx with ⟨h, _⟩ | ⟨b, o, cap, rfl, _⟩
    · cases h
    · refine ⟨by cases op <;> simp [eqGuard], ?_, by simp⟩
      simp only [Op.equal, hD, Act.eval]
      exact eqIn_slice hd
  · rename_i e g o n c hd
    simp only [VR] at hx
    obtain ⟨b, o0, sz, ce, a, cap, _, rfl, _⟩ := hx
    refine ⟨by cases op <;> simp [eqGuard], ?_, by simp⟩
    simp only [Op.equal, hD, Act.eval]
    exact eqIn_slice hd
  · rename_i e g i o hd
    simp only [VR] at hx
    obtain ⟨b, o0, sz, ce, _, rfl⟩ := hx
    refine ⟨by cases op <;> simp [eqGuard], ?_, by simp⟩
    simp only [Op.equal, hD, Act.eval]
    exact eqIn_ptr hd
  · rename_i p q v f a c hd
    simp only [VR] at hx
    obtain ⟨as, cs, rfl, _⟩ := hx
    refine ⟨by cases op <;> simp [eqGuard], ?_, by simp⟩
    simp only [Op.equal, hD, Act.eval]
    exact eqIn_fn hd
  · cases hs
theorem litY_ok {yo : Operand} {y : PV} {v z : Value} (a : Act) (h : litY yo y = some v) (hy : VR G w y z) (hz : z = a.eval yo) : z = v := by
  unfold litY at h
  split at h
  · cases h; exact hz
  · exact vr_lit h hy
theorem bin_ok {op : BinOp} {t : TypeId} {xo yo : Operand} {x y v : PV} {u z : Value} (a : Act) (h : binP P op t xo yo x y = some v) (hx : VR G w x u) (hy : VR G w y z) (hz : z = a.eval yo) :
    ∃ r, ((do eqGuard op t xo yo u z; binOp op t u z : Sem Value)).run P w = .ok r w ∧ VR G w v r := by
  unfold binP at h
  split at h
  · rename_i p q hp hq
    rw [vr_lit hp hx, litY_ok a hq hy hz]
    obtain ⟨r, h1, h2⟩ := litMap_ok h w
    exact ⟨r, h1, h2⟩
  · split at h
    · rename_i hs
      obtain ⟨h1, h2, h3, h4, h5, h6⟩ := someX_ok a hx hs op xo
      rw [← hz] at h1 h2
      cases op <;> simp only [reduceCtorEq] at h <;> cases h
      · refine ⟨.bool false, ?_, by simp only [VR]⟩
        simp only [Sem.run_bind, h1, Result.andThen_ok]
        have : binOp .eql t u z = (do pure (.bool (← Op.equal t u z))) := by
          cases u <;> first | rfl | (exact absurd rfl (h3 _ _)) | (exact absurd rfl (h4 _ _)) | (exact absurd rfl (h5 _ _ _)) | (exact absurd rfl (h6 _))
        rw [this]
        simp [h2]
      · refine ⟨.bool true, ?_, by simp only [VR]⟩
        simp only [Sem.run_bind, h1, Result.andThen_ok]
        have : binOp .neq t u z = (do pure (.bool (!(← Op.equal t u z)))) := by
          cases u <;> first | rfl | (exact absurd rfl (h3 _ _)) | (exact absurd rfl (h4 _ _)) | (exact absurd rfl (h5 _ _ _)) | (exact absurd rfl (h6 _))
        rw [this]
        simp [h2]
    · cases h
/-- the bounds of a part -/
theorem bnd_ok {p : PV} {q : Value} {d hi hi' i : Nat} (h : bnd (some p) d hi = some i) (hx : VR G w p q) (hh : hi ≤ hi') (code : BoundsCode) : (Instr.sliceBound q hi' code).run P w = .ok i w ∧ i ≤ hi := by
  simp only [bnd] at h
  cases hp : asI p with
  | none => rw [hp] at h; cases h
  | some n =>
    rw [hp] at h
    simp only at h
    split at h
    · rename_i hc
      cases h
      obtain ⟨k, rfl⟩ := vr_asI hp hx
      have h1 : 0 ≤ n ∧ n ≤ (hi' : Int) := ⟨hc.1, by omega⟩
      refine ⟨?_, by omega⟩
      simp [Instr.sliceBound, asIntOf, h1]
    · cases h
def OptR (G : Gh) (w : World) : Option PV → Option Value → Prop
  | none, none => True
  | some p, some q => VR G w p q
  | _, _ => False
theorem bnds_ok {len cap cap' : Nat} {lo hi mx : Option PV} {l h m : Option Value} {i j k : Nat} (hb : bnds len cap lo hi mx = some (i, j, k)) (h1 : OptR G w lo l) (h2 : OptR G w hi h) (h3 : OptR G w mx m)
    (hc : cap ≤ cap') (hlen : len ≤ cap) :
    (Instr.sliceBounds true len cap' l h m).run P w = .ok (i, j, if mx.isSome then k else cap') w ∧ i ≤ j ∧ j ≤ k ∧ k ≤ cap ∧ (mx = none → k = cap) := by
  unfold bnds at hb
  split at hb
  · cases hb
  rename_i hmh
  cases hm : bnd mx cap cap with
  | none => rw [hm] at hb; cases hb
  | some k1 =>
    rw [hm] at hb
    simp only at hb
    cases hh : bnd hi len k1 with
    | none => rw [hh] at hb; cases hb
    | some j1 =>
      rw [hh] at hb
      simp only at hb
      cases hl : bnd lo 0 j1 with
      | none => rw [hl] at hb; cases hb
      | some i1 =>
        rw [hl] at hb
        cases hb
        cases mx with
        | none =>
          cases m with
          | some q => exact h3.elim
          | none =>
            simp only [bnd, Option.some.injEq] at hm
            subst hm
            cases hi with
            | none =>
              cases h with
              | some q => exact h2.elim
              | none =>
                simp only [bnd, Option.some.injEq] at hh
                subst hh
                cases lo with
                | none =>
                  cases l with
                  | some q => exact h1.elim
                  | none =>
                    simp only [bnd, Option.some.injEq] at hl
                    subst hl
                    exact ⟨by simp [Instr.sliceBounds], Nat.zero_le _, hlen, Nat.le_refl _, fun _ => rfl⟩
                | some p =>
                  cases l with
                  | none => exact h1.elim
                  | some q =>
                    obtain ⟨hr, hle⟩ := bnd_ok (P := P) hl h1 (Nat.le_refl _) .sliceB
                    exact ⟨by simp [Instr.sliceBounds, hr], hle, hlen, Nat.le_refl _, fun _ => rfl⟩
            | some p =>
              cases h with
              | none => exact h2.elim
              | some q =>
                obtain ⟨hr1, hle1⟩ := bnd_ok (P := P) hh h2 hc .sliceAcap
                cases lo with
                | none =>
                  cases l with
                  | some q => exact h1.elim
                  | none =>
                    simp only [bnd, Option.some.injEq] at hl
                    subst hl
                    exact ⟨by simp [Instr.sliceBounds, hr1], Nat.zero_le _, hle1, Nat.le_refl _, fun _ => rfl⟩
                | some p' =>
                  cases l with
                  | none => exact h1.elim
                  | some q' =>
                    obtain ⟨hr, hle⟩ := bnd_ok (P := P) hl h1 (Nat.le_refl _) .sliceB
                    exact ⟨by simp [Instr.sliceBounds, hr1, hr], hle, hle1, Nat.le_refl _, fun _ => rfl⟩
        | some pm =>
          cases m with
          | none => exact h3.elim
          | some qm =>
            obtain ⟨hr0, hle0⟩ := bnd_ok (P := P) hm h3 hc .slice3Acap
            cases hi with
            | none => simp at hmh
            | some p =>
              cases h with
              | none => exact h2.elim
              | some q =>
                obtain ⟨hr1, hle1⟩ := bnd_ok (P := P) hh h2 (Nat.le_refl _) .slice3B
                cases lo with
                | none =>
                  cases l with
                  | some q => exact h1.elim
                  | none =>
                    simp only [bnd, Option.some.injEq] at hl
                    subst hl
                    exact ⟨by simp [Instr.sliceBounds, hr0, hr1], Nat.zero_le _, hle1, hle0, fun e => by cases e⟩
                | some p' =>
                  cases l with
                  | none => exact h1.elim
                  | some q' =>
                    obtain ⟨hr, hle⟩ := bnd_ok (P := P) hl h1 (Nat.le_refl _) .slice3C
                    exact ⟨by simp [Instr.sliceBounds, hr0, hr1, hr], hle, hle1, hle0, fun e => by cases e⟩
theorem capAt_ok {c : Option Nat} {mx : Option PV} {i k cap : Nat} (hc : capOk c cap) : capOk (capAt c mx i k) ((if mx.isSome then k else cap) - i) := by
  intro n hn
  unfold capAt at hn
  cases mx with
  | none =>
    simp only [Option.map_eq_some_iff] at hn
    obtain ⟨a, rfl, rfl⟩ := hn
    simp [hc a rfl]
  | some p => simp only [Option.some.injEq] at hn; simp [hn]
theorem add_spot {a : Addr} (h : a.spot = none) (n : Nat) : (a.add n).spot = none := by unfold Addr.add; split <;> first | exact h | rfl
theorem of_mine {c : Option Nat} {k : Nat} (h : Cap.of c = .mine k) : False := by cases c <;> cases h
theorem get_of (c : Option Nat) : (Cap.of c).get = c := by cases c <;> rfl
theorem rw_part {b z : Nat} {r : List (List PV)} {o : Nat} (i j : Nat) (h : Rw G w b z o r) : Rw G w b z (o + i * z) ((r.take j).drop i) := by
  rw [rw_iff] at h ⊢
  intro m x hm
  rw [List.getElem?_drop, List.getElem?_take] at hm
  split at hm
  · have := h (i + m) x hm
    rwa [show o + i * z + m * z = o + (i + m) * z from by rw [Nat.add_mul]; omega]
  · cases hm
theorem slice_ok {t e : TypeId} (ht : P.underlying t = some (.slice e)) {i : TypeInfo} (hei : P.info? e = some i) {x v : PV} {u : Value} {lo hi mx : Option PV} {l h m : Option Value}
    (hx : sliceP s.heap (P.cellsOf e) x lo hi mx = some v) (hS : Sim G s w) (hR : VR G w x u) (h1 : OptR G w lo l) (h2 : OptR G w hi h) (h3 : OptR G w mx m) :
    ∃ y, (Instr.sliceAt t u l h m).run P w = .ok y w ∧ VR G w v y := by
  have hsa : ∀ u, (Instr.sliceAt t u l h m).run P w = (Instr.slice t u l h m).run P w := by
    intro u
    simp [Instr.sliceAt, run_underlying ht]
  unfold sliceP at hx
  split at hx
  · rename_i y r c
    split at hx
    · rename_i a b k hb
      split at hx
      · rename_i hc
        cases hx
        simp only [VR] at hR
        rcases hR with ⟨rfl, rfl, hcap, _⟩ | ⟨bl, o, cap, rfl, hlen, hcap, _, hrw⟩
        · have hg0 : c.get.getD 0 = 0 := by
            cases hcg : c.get with
            | none => rfl
            | some k => have := hcap k hcg; simp [← this]
          simp only [List.length_nil, hg0] at hb
          obtain ⟨hr, hab, hbk, hk, _⟩ := bnds_ok (P := P) hb h1 h2 h3 (Nat.le_refl 0) (Nat.le_refl _)
          have hk0 : k = 0 := by omega
          have hb0 : b = 0 := by omega
          have ha0 : a = 0 := by omega
          subst hk0 hb0 ha0
          refine ⟨.slice none 0 0, ?_, ?_⟩
          · rw [hsa]
            simp only [Instr.slice, Sem.run_bind, run_underlying ht, Result.andThen_ok, hr, run_sizeOf hei, Sem.run_pure]
            cases mx <;> simp
          · simp only [VR]
            refine .inl ⟨by simp, trivial, ?_, fun q hq => (of_mine hq).elim⟩
            rw [get_of]
            have := capAt_ok (c := c.get) (mx := mx) (i := 0) (k := 0) hcap
            simpa using this
        · have hcc : c.get.getD r.length ≤ cap := by
            cases hcg : c.get with
            | none => exact hlen
            | some k => exact Nat.le_of_eq (hcap k hcg).symm
          have hlc : r.length ≤ c.get.getD r.length := by
            cases hcg : c.get with
            | none => exact Nat.le_refl _
            | some k => have := hcap k hcg; simp only [Option.getD]; omega
          obtain ⟨hr, hab, hbk, hk, hkn⟩ := bnds_ok (P := P) hb h1 h2 h3 hcc hlc
          generalize hm' : (if mx.isSome then k else cap) = m' at hr
          have hbm : b ≤ m' := by
            rw [← hm']
            split
            · exact hbk
            · omega
          have hcapn := capAt_ok (c := c.get) (mx := mx) (i := a) (k := k) hcap
          rw [hm'] at hcapn
          refine ⟨.slice (if m' = a then some ⟨bl, o, none⟩ else (some (⟨bl, o, none⟩ : Addr)).map (·.add (a * P.cellsOf e))) (b - a) (m' - a), ?_, ?_⟩
          · rw [hsa]
            simp only [Instr.slice, Sem.run_bind, run_underlying ht, Result.andThen_ok, hr, run_sizeOf hei, Sem.run_pure]
          · simp only [VR]
            refine .inr ?_
            have hln : ((r.take b).drop a).length = b - a := by simp; omega
            by_cases hma : m' = a
            · have hz : (r.take b).drop a = [] := List.length_eq_zero_iff.1 (by rw [hln]; omega)
              refine ⟨bl, o, m' - a, ?_, by rw [hln]; omega, by rw [get_of]; exact hcapn, fun q hq => (of_mine hq).elim, ?_⟩
              · rw [if_pos hma, hln]
              · rw [hz]; simp [Rw]
            · refine ⟨bl, o + a * P.cellsOf e, m' - a, ?_, by rw [hln]; omega, by rw [get_of]; exact hcapn, fun q hq => (of_mine hq).elim, ?_⟩
              · rw [if_neg hma, hln]
                simp [add_off]
              · rcases hc.2 with rfl | rfl
                · simp [Rw]
                · exact rw_part a b hrw
      · cases hx
    · cases hx
  · rename_i g o n c
    split at hx
    · rename_i e' hg
      split at hx
      · rename_i a b k hb
        split at hx
        · rename_i hc
          cases hx
          simp only [VR] at hR
          obtain ⟨bl, o0, sz, ce, ad, cap, hl, rfl, hn, hoc, hcap, hcn, had, hsp⟩ := hR
          have he := hS.ent g e' bl o0 sz ce hg hl
          have hcc : c.getD (e'.r.length - o) ≤ cap := by
            cases c with
            | none => have := hcn rfl; have := he.len; simp only [Option.getD]; omega
            | some k => exact Nat.le_of_eq (hcap k rfl).symm
          have hlc : n ≤ c.getD (e'.r.length - o) := by
            cases c with
            | none => simp only [Option.getD]; omega
            | some k => have := hcap k rfl; simp only [Option.getD]; omega
          obtain ⟨hr, hab, hbk, hk, hkn⟩ := bnds_ok (P := P) hb h1 h2 h3 hcc hlc
          generalize hm' : (if mx.isSome then k else cap) = m' at hr
          have hbm : b ≤ m' ∧ m' ≤ cap := by
            rw [← hm']
            split
            · exact ⟨hbk, by omega⟩
            · exact ⟨by omega, Nat.le_refl _⟩
          have hcapn := capAt_ok (c := c) (mx := mx) (i := a) (k := k) hcap
          rw [hm'] at hcapn
          refine ⟨.slice (if m' = a then some ad else (some ad).map (·.add (a * P.cellsOf e))) (b - a) (m' - a), ?_, ?_⟩
          · rw [hsa]
            simp only [Instr.slice, Sem.run_bind, run_underlying ht, Result.andThen_ok, hr, run_sizeOf hei, Sem.run_pure]
          · simp only [VR]
            refine ⟨bl, o0, sz, ce, if m' = a then ad else ad.add (a * P.cellsOf e), m' - a, hl, ?_, by omega, by omega, hcapn, fun hq => ?_, fun h0 => ?_, (by split <;> first | exact hsp | exact add_spot hsp _)⟩
            · split <;> rfl
            · have hmx : mx = none := by cases mx with | none => rfl | some p => simp [capAt] at hq
              have hcn' : c = none := by subst hmx; cases c with | none => rfl | some p => simp [capAt] at hq
              have := hcn hcn'
              subst hmx
              simp at hm'
              omega
            · rw [if_neg (by omega), had (by omega), add_off]
              have : P.cellsOf e = sz := by rw [← he.z]; exact hc.2.2.symm
              rw [this, Nat.add_mul]
              simp only [Addr.mk.injEq, true_and, and_true]
              omega
        · cases hx
      · cases hx
    · cases hx
  · cases hx
end Go.Proofs.Ythfplgfpodmphaa.VE
