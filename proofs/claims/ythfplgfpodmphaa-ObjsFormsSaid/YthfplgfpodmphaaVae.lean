/- The evaluator by value: what it tells, the model does. -/
import Derived.Test.YthfplgfpodmphaaVad
namespace Go.Proofs.Ythfplgfpodmphaa.VE
variable {G G' : Gh} {w w' : World} {s s' : St} {C : Cfg}
/-- What a function's body tells where it is shown nothing, or rows of its own or not: as slices.Clone does. -/
structure CloneOk (C : Cfg) (f : Nat) (t : TypeId) : Prop where
  fn : ∃ (fn : Func) (c : Code), C.P.funcs[f]? = some fn ∧ fn.body = some c ∧
    (∀ s, body C bot f fn c s [.lit (.slice none 0 0)] = some (.sl 0 [] (.is 0), s)) ∧
    (∀ s b o n, ∃ m : Cap, body C bot f fn c s [.lit (.slice (some ⟨b, o, none⟩) 0 n)] = some (.sl (C.P.cellsOf t) [] m, s) ∧ (m = .is 0 ∨ m = .mine 0)) ∧
    ∀ (s : St) (x : PV) (r : List (List PV)), isRow x = true → someX (.const (.slice none 0 0)) (some (.slice t)) x = true → rowsOf s.heap (C.P.cellsOf t) x = some r → r ≠ [] → room r.length = true →
      body C bot f fn c s [x] = some (.rf s.next 0 r.length none, s.new ⟨C.P.cellsOf t, r, 0⟩)
theorem bot_sound : ∀ k, k ≤ 0 → CallSound C (F C k).call := by
  intro k hk f s args own v s' h
  obtain rfl : k = 0 := by omega
  simp [F, bot] at h
theorem clone_sound (hB : CfgBase C) {f : Nat} {t : TypeId} (h : CloneOk C f t) {args : List PV} {v : PV} (hc : cloneP s (C.P.cellsOf t) args = some (v, s')) {vargs : List Value} (hS : Sim G s w) (hA : VRl G w args vargs) :
    Ran C.P f vargs.toArray w fun y w' => ∃ G', Stp G s w G' s' w' ∧ VR G' w' v y := by
  obtain ⟨fn, c, hf, hb, hnil, hempty, hrows⟩ := h.fn
  unfold cloneP at hc
  split at hc
  · rename_i x
    simp only [VRl] at hA
    obtain ⟨u, _, rfl, hx, rfl⟩ := hA
    split at hc
    · cases hc
    · rename_i hrow
      simp only [Bool.not_eq_true', Bool.not_eq_false] at hrow
      -- what is empty
      have none_ : u = .slice none 0 0 → Ran C.P f [u].toArray w fun y w' => ∃ G', Stp G s w G' s w' ∧ VR G' w' (.sl 0 [] (.is 0)) y := by
        rintro rfl
        exact body_ok hB bot_sound hf hb (hnil s) hS (by simp only [VRl, VR]; exact ⟨_, _, rfl, rfl, rfl⟩)
      have some_ : ∀ b o n, u = .slice (some ⟨b, o, none⟩) 0 n → Ran C.P f [u].toArray w fun y w' => ∃ G', Stp G s w G' s w' ∧ VR G' w' (.sl 0 [] (.is 0)) y := by
        rintro b o n rfl
        obtain ⟨m, hm, hmc⟩ := hempty s b o n
        refine (body_ok hB bot_sound hf hb hm hS (by simp only [VRl, VR]; exact ⟨_, _, rfl, rfl, rfl⟩)).mono ?_
        rintro y w1 ⟨G1, h1, h2⟩
        refine ⟨G1, h1, ?_⟩
        rw [VR] at h2 ⊢
        rcases h2 with ⟨_, h3, _⟩ | ⟨b', o', cap, h3, h4, h5, _, _⟩
        · exact .inl ⟨rfl, h3, fun k hk => by cases hk; rfl, fun k hk => by cases hk⟩
        · refine .inr ⟨b', o', cap, h3, h4, ?_, fun k hk => (by cases hk), by rw [Rw]; trivial⟩
          rcases hmc with rfl | rfl <;> exact h5
      have full : ∀ r, rowsOf s.heap (C.P.cellsOf t) x = some r → r ≠ [] → room r.length = true → Ran C.P f [u].toArray w fun y w' => ∃ G', Stp G s w G' (s.new ⟨C.P.cellsOf t, r, 0⟩) w' ∧ VR G' w' (.rf s.next 0 r.length none) y := by
        intro r hr hne hro
        refine body_ok hB bot_sound hf hb (hrows s x r hrow ?_ hr hne hro) hS (by simp only [VRl]; exact ⟨_, _, rfl, hx, rfl⟩)
        unfold isRow at hrow
        split at hrow
        · rename_i y r' c'
          simp only [rowsOf] at hr
          split at hr
          · cases hr
            cases r with
            | nil => exact absurd rfl hne
            | cons a l => rfl
          · cases hr
        · rfl
        · cases hrow
      split at hc
      · rename_i hr
        cases hc
        unfold isRow at hrow
        split at hrow
        · rename_i y r' c'
          simp only [rowsOf] at hr
          split at hr
          · cases hr
            simp only [VR] at hx
            rcases hx with ⟨_, h3, _⟩ | ⟨b', o', cap, h3, _⟩
            · exact none_ h3
            · exact some_ b' o' cap h3
          · cases hr
        · rename_i g o n c'
          simp only [VR] at hx
          obtain ⟨b, o0, sz, ce, a, cap, hl, h3, _, _, _, _, _, hsp⟩ := hx
          simp only [rowsOf] at hr
          split at hr
          · split at hr
            · obtain ⟨h5, h6⟩ := part_some hr
              have h7 := congrArg List.length h6
              simp at h7
              obtain rfl : n = 0 := by omega
              obtain ⟨ab, ao, asp⟩ := a
              simp only at hsp
              subst hsp
              exact some_ ab ao cap h3
            · cases hr
          · cases hr
        · cases hrow
      · rename_i r hne hr
        split at hc
        · rename_i hro
          cases hc
          exact full r hr (by rintro rfl; exact hne rfl) hro
        · cases hc
      · cases hc
  · cases hc
end Go.Proofs.Ythfplgfpodmphaa.VE
