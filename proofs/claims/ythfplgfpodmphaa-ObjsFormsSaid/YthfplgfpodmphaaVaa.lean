/- The evaluator by value: what it tells, the model does. -/
import Derived.Test.YthfplgfpodmphaaVz
namespace Go.Proofs.Ythfplgfpodmphaa.VE
variable {C : Cfg} {G : Gh} {w : World} {s s' : St}
def exitOf : Out → Exit
  | .normal => .normal
  | .ret => .ret
  | .exit id => .exit id
/-- What code that is told comes to. -/
def CodeGoal (C : Cfg) (c : Code) (tmps : List PV) (s : St) (r : Out × List PV × St) : Prop :=
  ∀ (G : Gh) (w : World) (a : Act) (Q : Exit → Act → World → Prop), Sim G s w → VRl G w tmps a.tmps.toList →
    (∀ a' w' G', Stp G s w G' r.2.2 w' → VRl G' w' r.2.1 a'.tmps.toList → a'.defers = a.defers → Q (exitOf r.1) a' w') → c.wp C.P Q a w
theorem least {p : Nat → Prop} (h : ∃ m, p m) : ∃ m, p m ∧ ∀ k, p k → m ≤ k := by
  obtain ⟨m, hm⟩ := h
  induction m using Nat.strongRecOn with
  | ind m ih =>
    by_cases hk : ∃ k, k < m ∧ p k
    · obtain ⟨k, h1, h2⟩ := hk
      exact ih k h1 h2
    · exact ⟨m, hm, fun k hp => by
        false_or_by_contra; rename_i hh
        exact hk ⟨k, by omega, hp⟩⟩
theorem code_ok (hm : C.P.follows .mixedOrders = true) (f : Nat) : ∀ (c : Code) (n : Nat), (∀ k, k ≤ n → CallSound C (F C k).call) → chkCode C f c = true → ∀ k, k ≤ n → ∀ tmps s r, code C (F C k) f c tmps s = some r → CodeGoal C c tmps s r
  | .skip, n, _, _, k, _, tmps, s, r, h => by
    simp only [code, Option.some.injEq] at h
    subst h
    exact fun G w a Q hS hT hQ => wp_skip (hQ a w G (Stp.refl hS) hT rfl)
  | .label l, n, _, _, k, _, tmps, s, r, h => by
    simp only [code, Option.some.injEq] at h
    subst h
    exact fun G w a Q hS hT hQ => wp_label (hQ a w G (Stp.refl hS) hT rfl)
  | .ret, n, _, _, k, _, tmps, s, r, h => by
    simp only [code, Option.some.injEq] at h
    subst h
    exact fun G w a Q hS hT hQ => wp_ret (hQ a w G (Stp.refl hS) hT rfl)
  | .exit id, n, _, _, k, _, tmps, s, r, h => by
    simp only [code, Option.some.injEq] at h
    subst h
    exact fun G w a Q hS hT hQ => wp_exit (hQ a w G (Stp.refl hS) hT rfl)
  | .goto l, n, _, _, k, _, tmps, s, r, h => by simp [code] at h
  | .refuse y, n, _, _, k, _, tmps, s, r, h => by simp [code] at h
  | .rangeFunc _ _ _ _, n, _, _, k, _, tmps, s, r, h => by simp [code] at h
  | .seq x y, n, hc, hk, k, hkn, tmps, s, r, h => by
    simp only [chkCode, Bool.and_eq_true] at hk
    simp only [code] at h
    intro G w a Q hS hT hQ
    split at h
    · rename_i t1 s1 hx
      refine wp_seq (code_ok hm f x n hc hk.1 k hkn tmps s _ hx G w a _ hS hT fun a1 w1 G1 h1 h2 h3 => ?_)
      exact code_ok hm f y n hc hk.2 k hkn t1 s1 r h G1 w1 a1 Q h1.sim h2 fun a2 w2 G2 h4 h5 h6 => hQ a2 w2 G2 (h1.trans h4) h5 (h6.trans h3)
    · rename_i hne
      refine wp_seq (code_ok hm f x n hc hk.1 k hkn tmps s r h G w a _ hS hT fun a1 w1 G1 h1 h2 h3 => ?_)
      have := hQ a1 w1 G1 h1 h2 h3
      obtain ⟨o, t1, s1⟩ := r
      cases o with
      | normal => exact absurd h (hne t1 s1)
      | ret => exact this
      | exit id => exact this
  | .cond x y z, n, hc, hk, k, hkn, tmps, s, r, h => by
    simp only [chkCode, Bool.and_eq_true] at hk
    simp only [code] at h
    intro G w a Q hS hT hQ
    have hx := eval_ok hT x
    split at h
    · rename_i hb
      rw [hb] at hx
      simp only [VR] at hx
      exact wp_cond_true hx (code_ok hm f y n hc hk.1 k hkn tmps s r h G w a Q hS hT hQ)
    · rename_i hb
      rw [hb] at hx
      simp only [VR] at hx
      exact wp_cond_false hx (code_ok hm f z n hc hk.2 k hkn tmps s r h G w a Q hS hT hQ)
    · cases h
  | .block id b, n, hc, hk, k, hkn, tmps, s, r, h => by
    simp only [chkCode] at hk
    simp only [code] at h
    intro G w a Q hS hT hQ
    split at h
    · rename_i i t1 s1 hx
      refine wp_block (code_ok hm f b n hc hk k hkn tmps s _ hx G w a _ hS hT fun a1 w1 G1 h1 h2 h3 => ?_)
      split at h
      · rename_i hid
        cases h
        simp only [exitOf, Exit.inBlock, hid, if_true]
        exact hQ a1 w1 G1 h1 h2 h3
      · rename_i hid
        cases h
        simp only [exitOf, Exit.inBlock]
        rw [if_neg hid]
        exact hQ a1 w1 G1 h1 h2 h3
    · rename_i hne
      refine wp_block (code_ok hm f b n hc hk k hkn tmps s r h G w a _ hS hT fun a1 w1 G1 h1 h2 h3 => ?_)
      have := hQ a1 w1 G1 h1 h2 h3
      obtain ⟨o, t1, s1⟩ := r
      cases o with
      | normal => exact this
      | ret => exact this
      | exit id => exact absurd h (hne id t1 s1)
  | .scope b, n, hc, hk, k, hkn, tmps, s, r, h => by
    simp only [chkCode] at hk
    simp only [code] at h
    intro G w a Q hS hT hQ
    exact wp_scope_straight (code_ok hm f b n hc hk k hkn tmps s r h G w a _ hS hT fun a1 w1 G1 h1 h2 h3 => by
      have := hQ a1 w1 G1 h1 h2 h3
      obtain ⟨o, t1, s1⟩ := r
      cases o <;> exact this)
  | .region id ops draw, n, hc, hk, k, hkn, tmps, s, r, h => by
    simp only [chkCode] at hk
    simp only [code] at h
    intro G w a Q hS hT hQ
    split at h
    · rename_i hd
      split at h
      · rename_i ws hw
        rw [hd, hw] at hk
        simp only [Bool.not_true, Bool.false_or, beq_iff_eq] at hk
        simp only [Option.map_eq_some_iff] at h
        obtain ⟨⟨t1, s1⟩, hx, rfl⟩ := h
        rw [hd]
        exact drawn_ok (hc k hkn) hm hk hx hS hT hQ
      · cases h
    · rename_i hd
      simp only [Bool.not_eq_true] at hd
      simp only [Option.map_eq_some_iff] at h
      obtain ⟨⟨t1, s1⟩, hx, rfl⟩ := h
      rw [hd]
      exact wp_region_list (ops1_ok (hc k hkn) ops ops.toList 0 tmps t1 s s1 G w a hx hS hT hQ)
  | .loop b, n, hc, hk, k, hkn, tmps, s, r, h => by
    simp only [chkCode] at hk
    intro G w a Q hS hT hQ
    -- the rounds that are left
    let J : Nat → Act → World → Prop := fun m a1 w1 => m ≤ n ∧ ∃ t1 s1 G1, code C (F C m) f (.loop b) t1 s1 = some r ∧ Stp G s w G1 s1 w1 ∧ VRl G1 w1 t1 a1.tmps.toList ∧ a1.defers = a.defers
    classical
    refine wp_loop (fun a1 w1 => ∃ m, J m a1 w1) (fun a1 w1 => if h : ∃ m, J m a1 w1 then Classical.choose (least h) else 0) ⟨k, hkn, tmps, s, G, h, Stp.refl hS, hT, rfl⟩ fun a1 w1 hI => ?_
    have hJ := (Classical.choose_spec (least hI)).1
    have hmu : (if h : ∃ m, J m a1 w1 then Classical.choose (least h) else 0) = Classical.choose (least hI) := dif_pos hI
    generalize Classical.choose (least hI) = m at hJ hmu
    obtain ⟨hmn, t1, s1, G1, h1, h2, h3, h4⟩ := hJ
    simp only [code] at h1
    split at h1
    · rename_i t2 s2 hx
      refine code_ok hm f b n hc hk m hmn t1 s1 _ hx G1 w1 a1 _ h2.sim h3 fun a2 w2 G2 q1 q2 q3 => ?_
      cases m with
      | zero => simp [F, bot] at h1
      | succ m =>
        have hJ2 : J m a2 w2 := ⟨by omega, t2, s2, G2, h1, h2.trans q1, q2, q3.trans h4⟩
        refine ⟨⟨m, hJ2⟩, ?_⟩
        rw [hmu, dif_pos ⟨m, hJ2⟩]
        exact Nat.lt_succ_of_le ((Classical.choose_spec (least ⟨m, hJ2⟩)).2 m hJ2)
    · rename_i hne
      refine code_ok hm f b n hc hk m hmn t1 s1 r h1 G1 w1 a1 _ h2.sim h3 fun a2 w2 G2 q1 q2 q3 => ?_
      have := hQ a2 w2 G2 (h2.trans q1) q2 (q3.trans h4)
      obtain ⟨o, t2, s2⟩ := r
      cases o with
      | normal => exact absurd h1 (hne t2 s2)
      | ret => exact this
      | exit id => exact this
end Go.Proofs.Ythfplgfpodmphaa.VE
