/- The evaluator by value: what it tells, the model does. -/
import Derived.Test.YthfplgfpodmphaaVaa
namespace Go.Proofs.Ythfplgfpodmphaa.VE
variable {G G' : Gh} {w w' : World} {s s' : St}
theorem allSome_at {α β : Type} {f : α → Option β} : ∀ {l : List α} {m : List β}, allSome f l = some m → m.length = l.length ∧ ∀ (i : Nat) (y : β), m[i]? = some y → ∃ x, l[i]? = some x ∧ f x = some y
  | [], m, h => by simp only [allSome, Option.some.injEq] at h; subst h; simp
  | x :: r, m, h => by
    simp only [allSome] at h
    split at h
    · rename_i a b ha hb
      cases h
      obtain ⟨h1, h2⟩ := allSome_at hb
      refine ⟨by simp [h1], fun i y hi => ?_⟩
      cases i with
      | zero => cases hi; exact ⟨x, rfl, ha⟩
      | succ i => exact h2 i y hi
    · cases h
theorem vrl_some {f : PV → Option PV} {l m : List PV} {vs : List Value} (hf : ∀ x ∈ l, ∀ y u, f x = some y → VR G w x u → VR G' w' y u) (h : allSome f l = some m) (hl : VRl G w l vs) : VRl G' w' m vs := by
  obtain ⟨h1, h2⟩ := allSome_at h
  refine vrl_mk _ _ (by rw [h1]; exact vrl_len _ _ hl) fun i y u hy hu => ?_
  obtain ⟨x, h3, h4⟩ := h2 i y hy
  obtain ⟨v, h5, h6⟩ := vrl_at _ _ hl i x h3
  rw [hu] at h5
  cases h5
  exact hf x (List.mem_of_getElem? h3) y u h4 h6
theorem cl_some {f : PV → Option PV} {l m : List PV} {b o : Nat} (hf : ∀ x ∈ l, ∀ y u, f x = some y → VR G w x u → VR G' w y u) (hi : ∀ b o, G.imm b o → G'.imm b o) (h : allSome f l = some m) (hl : Cl G w b o l) : Cl G' w b o m := by
  rw [cl_iff] at hl ⊢
  obtain ⟨h1, h2⟩ := allSome_at h
  intro j y hy
  obtain ⟨x, h3, h4⟩ := h2 j y hy
  obtain ⟨v, h5, h6, h7, h8⟩ := hl j x h3
  exact ⟨v, h5, hf x (List.mem_of_getElem? h3) y v h4 h6, h7, hi _ _ h8⟩
theorem rw_some {f : PV → Option PV} {r m : List (List PV)} {b z o : Nat} (hf : ∀ l ∈ r, ∀ x ∈ l, ∀ y u, f x = some y → VR G w x u → VR G' w y u) (hi : ∀ b o, G.imm b o → G'.imm b o) (h : allSome (allSome f) r = some m) (hl : Rw G w b z o r) : Rw G' w b z o m := by
  rw [rw_iff] at hl ⊢
  obtain ⟨h1, h2⟩ := allSome_at h
  intro i y hy
  obtain ⟨x, h3, h4⟩ := h2 i y hy
  obtain ⟨h5, h6⟩ := hl i x h3
  exact ⟨by rw [(allSome_at h4).1]; exact h5, cl_some (hf x (List.mem_of_getElem? h3)) hi h4 h6⟩
/-- Rows of one's own, seen as what never turns. -/
theorem part_rw {f : PV → Option PV} {e : Ent} {b o0 sz ce o n : Nat} {r m : List (List PV)} (he : EntOk G w e b o0 sz ce) (hp : part e o n = some r) (hf : ∀ l ∈ e.r, ∀ x ∈ l, ∀ y u, f x = some y → VR G w x u → VR G' w y u) (hi : ∀ k, k < e.r.length * sz → G'.imm b (o0 + k))
    (h : allSome (allSome f) r = some m) : m.length = n ∧ Rw G' w b sz (o0 + o * sz) m := by
  obtain ⟨h1, h2⟩ := part_some hp
  obtain ⟨h3, h4⟩ := allSome_at h
  refine ⟨by rw [h3, h2]; simp; omega, ?_⟩
  rw [rw_iff]
  intro i y hy
  obtain ⟨x, h5, h6⟩ := h4 i y hy
  rw [h2, List.getElem?_take] at h5
  split at h5
  · rename_i hin
    rw [List.getElem?_drop] at h5
    obtain ⟨h7, h8⟩ := he.rows (o + i) x h5
    obtain ⟨h9, h10⟩ := allSome_at h6
    refine ⟨by rw [h9]; exact h7, ?_⟩
    rw [cl_iff]
    intro j q hq
    obtain ⟨p, h11, h12⟩ := h10 j q hq
    obtain ⟨v, h13, h14, h15⟩ := h8 j p h11
    have hjl : j < sz := by
      false_or_by_contra; rename_i hh
      rw [List.getElem?_eq_none (by omega)] at h11; cases h11
    have hmul : (o + i) * sz = o * sz + i * sz := Nat.add_mul _ _ _
    have hlt : (o + i + 1) * sz ≤ e.r.length * sz := Nat.mul_le_mul_right _ (by omega)
    rw [Nat.add_mul] at hlt
    refine ⟨v, ?_, hf x (List.mem_of_getElem? h5) p (List.mem_of_getElem? h11) q v h12 h14, h15, ?_⟩
    · rw [← h13]; congr 2; omega
    · have := hi ((o + i) * sz + j) (by omega)
      rwa [show o0 + ((o + i) * sz + j) = o0 + o * sz + i * sz + j from by omega] at this
  · cases h5
theorem sl_of_rw {G : Gh} {w : World} {z b o n cap : Nat} {m : List (List PV)} {a : Addr} (hm : m.length = n) (hn : n ≤ cap) (hsp : a.spot = none) (ha : cap ≠ 0 → a = ⟨b, o, none⟩) (hr : Rw G w b z o m) : VR G w (.sl z m .any) (.slice (some a) n cap) := by
  simp only [VR]
  by_cases hc : cap = 0
  · have h0 : m = [] := List.length_eq_zero_iff.1 (by omega)
    refine .inr ⟨a.block, a.off, cap, ?_, by omega, fun k hk => (by cases hk), fun k hk => (by cases hk), by rw [h0]; simp [Rw]⟩
    obtain ⟨x, y, q⟩ := a
    simp only at hsp
    subst hsp
    rw [hm]
  · exact .inr ⟨b, o, cap, by rw [ha hc, hm], by omega, fun k hk => (by cases hk), fun k hk => (by cases hk), hr⟩
/-- What leaves, by value. -/
theorem strip_ok {h : Hp} (hent : ∀ g e b o0 sz ce, get h g = some e → G.loc g = some (b, o0, sz, ce) → EntOk G w e b o0 sz ce) (hi1 : ∀ b o, G.imm b o → G'.imm b o) (hi2 : ∀ g e b o0 sz ce, get h g = some e → G.loc g = some (b, o0, sz, ce) → ∀ k, k < e.r.length * sz → G'.imm b (o0 + k)) :
    ∀ (d : Nat) (v v' : PV) (x : Value), strip h d v = some v' → VR G w v x → VR G' w v' x
  | 0, v, v', x, hs, _ => by simp [strip] at hs
  | d + 1, v, v', x, hs, hv => by
    have ih := strip_ok hent hi1 hi2 d
    have ihl : ∀ (l m : List PV) (vs : List Value), allSome (strip h d) l = some m → VRl G w l vs → VRl G' w m vs := fun l m vs h1 h2 => vrl_some (fun x _ y u h3 h4 => ih x y u h3 h4) h1 h2
    cases v <;> simp only [strip, reduceCtorEq] at hs
    case lit y => cases hs; simp only [VR] at hv ⊢; exact hv
    case agg l =>
      simp only [Option.map_eq_some_iff] at hs
      obtain ⟨m, hm, rfl⟩ := hs
      simp only [VR] at hv ⊢
      obtain ⟨vs, e, h1, h2⟩ := hv
      exact ⟨vs, e, ihl _ _ _ hm h1, h2⟩
    case tup l =>
      simp only [Option.map_eq_some_iff] at hs
      obtain ⟨m, hm, rfl⟩ := hs
      simp only [VR] at hv ⊢
      obtain ⟨vs, e, h1⟩ := hv
      exact ⟨vs, e, ihl _ _ _ hm h1⟩
    case sl z r c =>
      simp only [Option.map_eq_some_iff] at hs
      obtain ⟨m, hm, rfl⟩ := hs
      simp only [VR] at hv ⊢
      have hml := (allSome_at hm).1
      rcases hv with ⟨rfl, e, _, _⟩ | ⟨b, o, cap, e, h1, _, _, h2⟩
      · refine .inl ⟨List.length_eq_zero_iff.1 (by simpa using hml), e, fun k hk => (by cases hk), fun k hk => (by cases hk)⟩
      · exact .inr ⟨b, o, cap, by rw [hml]; exact e, by omega, fun k hk => (by cases hk), fun k hk => (by cases hk), rw_some (fun l _ x _ y u h3 h4 => ih x y u h3 h4) hi1 hm h2⟩
    case rf g o n c =>
      split at hs
      · rename_i e hg
        split at hs
        · rename_i r hp
          simp only [Option.map_eq_some_iff] at hs
          obtain ⟨m, hm, rfl⟩ := hs
          simp only [VR] at hv
          obtain ⟨b, o0, sz, ce, a, cap, hl, rfl, hn, _, _, _, had, hsp⟩ := hv
          have he := hent g e b o0 sz ce hg hl
          obtain ⟨h1, h2⟩ := part_rw (G' := G') he hp (fun l _ x _ y u h3 h4 => ih x y u h3 h4) (hi2 g e b o0 sz ce hg hl) hm
          rw [he.z]
          exact sl_of_rw h1 hn hsp had h2
        · cases hs
      · cases hs
    case fn f p q =>
      split at hs
      · rename_i p' q' hp hq
        cases hs
        simp only [VR] at hv ⊢
        obtain ⟨as, cs, e, h1, h2⟩ := hv
        exact ⟨as, cs, e, ihl _ _ _ hp h1, ihl _ _ _ hq h2⟩
      · cases hs
theorem names_sub {α : Type} {f : α → List Nat} {l : List α} {x : α} (hx : x ∈ l) {N : List Nat} (h : ∀ g ∈ l.flatMap f, g ∈ N) : ∀ g ∈ f x, g ∈ N := fun g hg => h g (List.mem_flatMap.2 ⟨x, hx, hg⟩)
/-- What a value names is there. -/
theorem names_loc (hS : Sim G s w) : ∀ (d : Nat) (v : PV) (x : Value), VR G w v x → ∀ g ∈ names s.heap d v, ∃ y, G.loc g = some y
  | 0, v, x, _, g, hg => by simp [names] at hg
  | d + 1, v, x, hv, g, hg => by
    have ih := names_loc hS d
    have ihl : ∀ (l : List PV) (vs : List Value), VRl G w l vs → ∀ g ∈ l.flatMap (names s.heap d), ∃ y, G.loc g = some y := by
      intro l vs h2 g hg
      obtain ⟨x, hx, hg⟩ := List.mem_flatMap.1 hg
      obtain ⟨i, hi⟩ := List.mem_iff_getElem?.1 hx
      obtain ⟨u, _, h5⟩ := vrl_at _ _ h2 i x hi
      exact ih x u h5 g hg
    have ihc : ∀ (l : List PV) (b o : Nat), Cl G w b o l → ∀ g ∈ l.flatMap (names s.heap d), ∃ y, G.loc g = some y := by
      intro l b o h2 g hg
      obtain ⟨x, hx, hg⟩ := List.mem_flatMap.1 hg
      obtain ⟨i, hi⟩ := List.mem_iff_getElem?.1 hx
      rw [cl_iff] at h2
      obtain ⟨u, _, h5, _⟩ := h2 i x hi
      exact ih x u h5 g hg
    have ihe : ∀ (k : Nat) (y : Nat × Nat × Nat × Nat), G.loc k = some y → ∀ g ∈ (match get s.heap k with | some e => e.r.flatMap fun (l : List PV) => l.flatMap (names s.heap d) | none => ([] : List Nat)), ∃ y, G.loc g = some y := by
      intro k y hk g hg
      split at hg
      · rename_i e he
        obtain ⟨b, o0, sz, ce⟩ := y
        have hE := hS.ent k e b o0 sz ce he hk
        obtain ⟨l, hl, hg⟩ := List.mem_flatMap.1 hg
        obtain ⟨x, hx, hg⟩ := List.mem_flatMap.1 hg
        obtain ⟨i, hi⟩ := List.mem_iff_getElem?.1 hl
        obtain ⟨j, hj⟩ := List.mem_iff_getElem?.1 hx
        obtain ⟨u, _, h5, _⟩ := (hE.rows i l hi).2 j x hj
        exact ih x u h5 g hg
      · cases hg
    cases v <;> simp only [names] at hg
    case lit y => cases hg
    case agg l =>
      simp only [VR] at hv
      obtain ⟨vs, e, h1, h2⟩ := hv
      exact ihl _ _ h1 g hg
    case tup l =>
      simp only [VR] at hv
      obtain ⟨vs, e, h1⟩ := hv
      exact ihl _ _ h1 g hg
    case sl z r c =>
      simp only [VR] at hv
      obtain ⟨l, hl, hg⟩ := List.mem_flatMap.1 hg
      rcases hv with ⟨rfl, e, _, _⟩ | ⟨b, o, cap, e, h1, _, _, h2⟩
      · cases hl
      · rw [rw_iff] at h2
        obtain ⟨i, hi⟩ := List.mem_iff_getElem?.1 hl
        exact ihc _ _ _ (h2 i l hi).2 g hg
    case rf k o n c =>
      simp only [VR] at hv
      obtain ⟨b, o0, sz, ce, a, cap, hl, _⟩ := hv
      rcases List.mem_cons.1 hg with rfl | hg
      · exact ⟨_, hl⟩
      · exact ihe k _ hl g hg
    case ptr k i o =>
      simp only [VR] at hv
      obtain ⟨b, o0, sz, ce, hl, _⟩ := hv
      rcases List.mem_cons.1 hg with rfl | hg
      · exact ⟨_, hl⟩
      · exact ihe k _ hl g hg
    case rp l o =>
      simp only [VR] at hv
      obtain ⟨b, o', e, hc⟩ := hv
      exact ihc _ _ _ hc g hg
    case fn f p q =>
      simp only [VR] at hv
      obtain ⟨as, cs, e, h1, h2⟩ := hv
      rcases List.mem_append.1 hg with hg | hg
      · exact ihl _ _ h1 g hg
      · exact ihl _ _ h2 g hg
/-- An argument, by value. -/
theorem view_ok (hS : Sim G s w) {N : List Nat} (hi1 : ∀ b o, G.imm b o → G'.imm b o) (hi2 : ∀ g, g ∈ N → ∀ e b o0 sz ce, get s.heap g = some e → G.loc g = some (b, o0, sz, ce) → ∀ k, k < e.r.length * sz → G'.imm b (o0 + k)) :
    ∀ (d : Nat) (v v' : PV) (x : Value), view s.heap d v = some v' → VR G w v x → (∀ g ∈ names s.heap d v, g ∈ N) → VR G' w v' x
  | 0, v, v', x, hs, _, _ => by simp [view] at hs
  | d + 1, v, v', x, hs, hv, hN => by
    have ih := view_ok hS hi1 hi2 d
    have ihl : ∀ (l m : List PV) (vs : List Value), allSome (view s.heap d) l = some m → VRl G w l vs → (∀ g ∈ l.flatMap (names s.heap d), g ∈ N) → VRl G' w m vs := by
      intro l m vs h1 h2 h3
      exact vrl_some (fun x hx y u h4 h5 => ih x y u h4 h5 (names_sub hx h3)) h1 h2
    cases v <;> simp only [view, names] at hs hN
    case lit y => cases hs; simp only [VR] at hv ⊢; exact hv
    case agg l =>
      simp only [Option.map_eq_some_iff] at hs
      obtain ⟨m, hm, rfl⟩ := hs
      simp only [VR] at hv ⊢
      obtain ⟨vs, e, h1, h2⟩ := hv
      exact ⟨vs, e, ihl _ _ _ hm h1 hN, h2⟩
    case tup l =>
      simp only [Option.map_eq_some_iff] at hs
      obtain ⟨m, hm, rfl⟩ := hs
      simp only [VR] at hv ⊢
      obtain ⟨vs, e, h1⟩ := hv
      exact ⟨vs, e, ihl _ _ _ hm h1 hN⟩
    case sl z r c =>
      simp only [Option.map_eq_some_iff] at hs
      obtain ⟨m, hm, rfl⟩ := hs
      simp only [VR] at hv ⊢
      have hml := (allSome_at hm).1
      rcases hv with ⟨rfl, e, _, _⟩ | ⟨b, o, cap, e, h1, _, _, h2⟩
      · exact .inl ⟨List.length_eq_zero_iff.1 (by simpa using hml), e, fun k hk => (by cases hk), fun k hk => (by cases hk)⟩
      · exact .inr ⟨b, o, cap, by rw [hml]; exact e, by omega, fun k hk => (by cases hk), fun k hk => (by cases hk), rw_some (fun l hl x hx y u h4 h5 => ih x y u h4 h5 (names_sub hx (names_sub hl hN))) hi1 hm h2⟩
    case rf g o n c =>
      cases hg : get s.heap g with
      | none => rw [hg] at hs; cases hs
      | some e =>
        rw [hg] at hs hN
        simp only at hs hN
        split at hs
        · rename_i r hp
          simp only [Option.map_eq_some_iff] at hs
          obtain ⟨m, hm, rfl⟩ := hs
          simp only [VR] at hv
          obtain ⟨b, o0, sz, ce, a, cap, hl, rfl, hn, _, _, _, had, hsp⟩ := hv
          have he := hS.ent g e b o0 sz ce hg hl
          have hgN : g ∈ N := hN g List.mem_cons_self
          obtain ⟨h1, h2⟩ := part_rw (G' := G') he hp (fun l hl x hx y u h3 h4 => ih x y u h3 h4 (names_sub hx (names_sub hl fun g hg => hN g (List.mem_cons_of_mem _ hg)))) (hi2 g hgN e b o0 sz ce hg hl) hm
          rw [he.z]
          exact sl_of_rw h1 hn hsp had h2
        · cases hs
    case ptr g i o =>
      cases hg : get s.heap g with
      | none => rw [hg] at hs; cases hs
      | some e =>
        rw [hg] at hs hN
        simp only at hs hN
        split at hs
        · rename_i l hli
          simp only [Option.map_eq_some_iff] at hs
          obtain ⟨m, hm, rfl⟩ := hs
          simp only [VR] at hv ⊢
          obtain ⟨b, o0, sz, ce, hl, rfl⟩ := hv
          have he := hS.ent g e b o0 sz ce hg hl
          have hgN : g ∈ N := hN g List.mem_cons_self
          refine ⟨b, o0 + i * sz, rfl, ?_⟩
          obtain ⟨h7, h8⟩ := he.rows i l hli
          obtain ⟨h9, h10⟩ := allSome_at hm
          have hil : i < e.r.length := by
            false_or_by_contra; rename_i hh
            rw [List.getElem?_eq_none (by omega)] at hli; cases hli
          rw [cl_iff]
          intro j q hq
          obtain ⟨p, h11, h12⟩ := h10 j q hq
          obtain ⟨v, h13, h14, h15⟩ := h8 j p h11
          have hjl : j < sz := by
            false_or_by_contra; rename_i hh
            rw [List.getElem?_eq_none (by omega)] at h11; cases h11
          have hlt : (i + 1) * sz ≤ e.r.length * sz := Nat.mul_le_mul_right _ (by omega)
          rw [Nat.add_mul] at hlt
          refine ⟨v, h13, ih p q v h12 h14 (names_sub (List.mem_of_getElem? h11) (names_sub (List.mem_of_getElem? hli) fun g hg => hN g (List.mem_cons_of_mem _ hg))), h15, ?_⟩
          have := hi2 g hgN e b o0 sz ce hg hl (i * sz + j) (by omega)
          rwa [← Nat.add_assoc] at this
        · cases hs
    case rp l o =>
      simp only [Option.map_eq_some_iff] at hs
      obtain ⟨m, hm, rfl⟩ := hs
      simp only [VR] at hv ⊢
      obtain ⟨b, o', e, hc⟩ := hv
      exact ⟨b, o', e, cl_some (fun x hx y u h4 h5 => ih x y u h4 h5 (names_sub hx hN)) hi1 hm hc⟩
    case fn f p q =>
      split at hs
      · rename_i p' q' hp hq
        cases hs
        simp only [VR] at hv ⊢
        obtain ⟨as, cs, e, h1, h2⟩ := hv
        exact ⟨as, cs, e, ihl _ _ _ hp h1 (fun g hg => hN g (List.mem_append_left _ hg)), ihl _ _ _ hq h2 (fun g hg => hN g (List.mem_append_right _ hg))⟩
      · cases hs
end Go.Proofs.Ythfplgfpodmphaa.VE
