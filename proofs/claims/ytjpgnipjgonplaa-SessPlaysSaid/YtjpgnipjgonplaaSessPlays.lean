/- SessPlays: who asked what last is kept and told as the document says: for every row of whole numbers that fits in memory. -/
import Derived.Lib.SliceRun
import Derived.Outline
import Derived.Test.YtjpgnipjgonplaaRows
import Derived.WalkKit
import Derived.ProofKit
import Derived.OpenShut
import Derived.ShutString
import Derived.ChangeOld
import Derived.Below
import Derived.SizedLaws
import Derived.Test.YtjpgnipjgonplaaWSized
import Derived.Test.YtjpgnipjgonplaaSf
import Derived.Test.YtjpgnipjgonplaaSr3
import Derived.Test.YtjpgnipjgonplaaSr4
namespace Go.Proofs.Ytjpgnipjgonplaa.Ss
open Go.RowKit Go.Proofs.YtjpgnipjgonplaaW.PrintWords Go.Proofs.YtjpgnipjgonplaaW.PrintLast Go.Proofs.YtjpgnipjgonplaaW.PrintMore
attribute [local go_sem] max2_int min2_int max_two min_two max_three min_three max_four min_four
set_option linter.unusedVariables false
set_option linter.unusedSimpArgs false

def sv (l : List S31) : Prop := l.length ≤ 1000 ∧ ∀ x ∈ l, x.f2.f1.length < 1000
theorem wrap_succ (j : Nat) (h : j ≤ 1000) : wrap64 ((j : Int) + 1) = ((j + 1 : Nat) : Int) := by
  unfold wrap64
  omega
theorem at_l0 (l : List S31) (s : Int) (hl : l.length ≤ 1000) (d : Nat) : ∀ (j K : Nat), l.length - j = d → j ≤ l.length → (∀ i, i < j → (rd_T31 l (i : Int)).f0 < s) → d < K → hocketref4_at.l0 K l s (j : Int) = some (fi l s : Int) := by
  induction d with
  | zero =>
    intro j K hd hj hlt hK
    obtain ⟨K, rfl⟩ : ∃ k, K = k + 1 := ⟨K - 1, by omega⟩
    have hjl : j = l.length := by omega
    rw [hocketref4_at.l0, if_neg (by omega), fi_of l s j hj hlt (.inl hjl)]
  | succ d ih =>
    intro j K hd hj hlt hK
    obtain ⟨K, rfl⟩ : ∃ k, K = k + 1 := ⟨K - 1, by omega⟩
    rw [hocketref4_at.l0, if_pos (by omega), if_pos (by omega)]
    split
    · rename_i h
      rw [wrap_succ j (by omega)]
      exact ih (j + 1) K (by omega) (by omega) (fun i hi => by
        rcases Nat.lt_or_eq_of_le (Nat.le_of_lt_succ hi) with h' | rfl
        · exact hlt i h'
        · exact h) (by omega)
    · rename_i h
      rw [fi_of l s j hj hlt (.inr (by omega))]
theorem at_f (l : List S31) (s : Int) (hl : l.length ≤ 1000) : hocketref4_at.f 2000 l s = some (fi l s : Int) :=
  at_l0 l s hl l.length 0 2000 (by omega) (Nat.zero_le _) (fun i hi => absurd hi (Nat.not_lt_zero i)) (by omega)
theorem own_f (l : List Int) (h : l.length < 1000) : hocketref4_own.f l = some l := by
  simp only [hocketref4_own.f, Option.bind_some, List.length_nil, Nat.zero_add, List.nil_append]
  rw [if_pos (by omega)]
theorem result_f (a : Int) (l : List Int) (b : Int) (h : l.length < 1000) : hocketref4_result.f a l b = some (a, l, b) := by
  rw [hocketref4_result.f, own_f l h]
  rfl
theorem table_l0 (l : List S31) (h : sv l) (d : Nat) : ∀ (j K : Nat), l.length - j = d → j ≤ l.length → d < K → hocketref4_table.l0 K l (l.take j) (j : Int) = some l := by
  induction d with
  | zero =>
    intro j K hd hj hK
    obtain ⟨K, rfl⟩ : ∃ k, K = k + 1 := ⟨K - 1, by omega⟩
    rw [hocketref4_table.l0, if_neg (by omega), List.take_of_length_le (by omega)]
  | succ d ih =>
    intro j K hd hj hK
    obtain ⟨K, rfl⟩ : ∃ k, K = k + 1 := ⟨K - 1, by omega⟩
    have hjl : j < l.length := by omega
    have h1 := h.1
    rw [hocketref4_table.l0, if_pos (by omega), if_pos (by omega), rd_get l j hjl, result_f _ _ _ (h.2 _ (List.getElem_mem hjl))]
    simp only [Option.bind_some]
    rw [if_pos (by rw [List.length_take]; omega), wrap_succ j (by omega)]
    have e : l.take j ++ [l[j]] = l.take (j + 1) := by simp
    rw [show l.take j ++ [(⟨l[j].f0, l[j].f1, ⟨l[j].f2.f0, l[j].f2.f1, l[j].f2.f2⟩⟩ : S31)] = l.take (j + 1) from e]
    exact ih (j + 1) K (by omega) (by omega) (by omega)
theorem table_f (l : List S31) (h : sv l) : hocketref4_table.f 2000 l = some l := by
  have h1 := h.1
  have := table_l0 l h l.length 0 2000 (by omega) (Nat.zero_le _) (by omega)
  exact this
theorem named_f (s q : Int) : hocketref4_named.f s q = some (one s && one q) := by
  unfold hocketref4_named.f one
  by_cases h1 : 1 ≤ s <;> by_cases h2 : 1 ≤ q <;> by_cases h3 : s ≤ 1073741824 <;> simp [h1, h2, h3]
theorem look_f (l : List S31) (s q : Int) (h : sv l) : hocketref4_Look.f 2000 l s q = some ((lookR l s q).1.f0, (lookR l s q).1.f1, (lookR l s q).1.f2, (lookR l s q).2) := by
  have hfi := fi_le l s
  rw [hocketref4_Look.f, named_f, at_f l s h.1]
  unfold lookR
  cases h1 : one s <;> cases h2 : one q <;> simp only [Bool.and_true, Bool.and_false, Bool.false_and, Option.bind_some, hocketref4_bad.f, if_true, true_or, or_true, Bool.false_eq_true, if_false, or_self, reduceCtorEq]
  have hbne : ∀ x y : Int, (x != y) = !(decide (x = y)) := fun x y => by by_cases hxy : x = y <;> simp [hxy]
  rcases Nat.lt_or_ge (fi l s) l.length with hlt | hge
  · rw [if_neg (by omega), if_pos (by omega), if_pos (by omega), hbne]
    have hth : there l s = decide ((rd_T31 l (fi l s : Int)).f0 = s) := by simp [there, hlt]
    rw [hth]
    cases hd : decide ((rd_T31 l (fi l s : Int)).f0 = s) with
    | false =>
      simp only [Bool.not_false, hocketref4_Look.j0, if_true, hocketref4_bad.f, Option.bind_some]
      by_cases h8 : 8 ≤ l.length
      · rw [if_pos (by omega), if_pos h8]
      · rw [if_neg (by omega), if_neg h8]
    | true =>
      simp only [Bool.not_true, hocketref4_Look.j0, Bool.false_eq_true, if_false, hocketref4_bad.f, Option.bind_some, reduceCtorEq]
      rw [if_pos (by omega), if_pos (by omega), result_f _ _ _ (by rw [rd_get l _ hlt]; exact h.2 _ (List.getElem_mem hlt))]
      simp only [Option.bind_some]
      generalize (rd_T31 l (fi l s : Int)).f1 = f
      by_cases ha : q < f
      · rw [if_pos ha, if_neg (by omega), if_pos ha]
      · by_cases hb : q = f
        · rw [if_neg ha, if_pos hb, if_neg (by omega), if_neg (by omega)]
        · rw [if_neg ha, if_neg hb, if_pos (by omega)]
  · have hth : there l s = false := by simp [there]; omega
    rw [if_pos (by omega), hth]
    simp only [hocketref4_Look.j0, if_true, hocketref4_bad.f, Option.bind_some]
    by_cases h8 : 8 ≤ l.length
    · rw [if_pos (by omega), if_pos h8]
    · rw [if_neg (by omega), if_neg h8]
theorem putlast_f (l : List S31) (s q r0 r2 : Int) (r1 : List Int) (h : sv l) (hr : r1.length < 1000) : hocketref4_PutLast.f 2000 l s q r0 r1 r2 = some (putP l s ⟨s, q, ⟨r0, r1, r2⟩⟩) := by
  have hfi := fi_le l s
  have h1 := h.1
  rw [hocketref4_PutLast.f, table_f l h, at_f l s h.1, result_f r0 r1 r2 hr]
  simp only [Option.bind_some, List.length_nil, Nat.zero_add, List.nil_append, Int.toNat_natCast]
  unfold putP
  have hl1 : (l.take (fi l s)).length < 2513169434916 := by rw [List.length_take]; omega
  have hl2 : (l.take (fi l s)).length + [(⟨s, q, ⟨r0, r1, r2⟩⟩ : S31)].length < 2513169434916 := by rw [List.length_take, List.length_singleton]; omega
  have hl3 : (l.take (fi l s) ++ [(⟨s, q, ⟨r0, r1, r2⟩⟩ : S31)]).length + (l.drop (fi l s)).length < 2513169434916 := by rw [List.length_append, List.length_take, List.length_singleton, List.length_drop]; omega
  rcases Nat.lt_or_ge (fi l s) l.length with hlt | hge
  · rw [if_pos (by omega), if_pos (by omega)]
    by_cases hd : (rd_T31 l (fi l s : Int)).f0 = s
    · rw [if_pos hd, if_pos (by simp [there, hlt, hd])]
    · rw [if_neg hd, if_pos (by omega), if_pos hl1, if_pos hl2, if_pos hl3, if_neg (by simp [there, hd])]
      simp
  · rw [if_neg (by omega), if_pos (by omega), if_pos (by omega), if_pos hl1, if_pos hl2, if_pos hl3, if_neg (by simp [there]; omega)]
    simp
theorem sameresult_f (a : Int) (l : List Int) (b : Int) : hocketref4_SameResult.f a l b a l b = some true := by
  simp [hocketref4_SameResult.f]
theorem sametable_l0 (l : List S31) (hl : l.length ≤ 1000) (d : Nat) : ∀ (j K : Nat), l.length - j = d → j ≤ l.length → d < K → hocketref4_SameTable.l0 K l l (j : Int) = some true := by
  induction d with
  | zero =>
    intro j K hd hj hK
    obtain ⟨K, rfl⟩ : ∃ k, K = k + 1 := ⟨K - 1, by omega⟩
    rw [hocketref4_SameTable.l0, if_neg (by omega)]
  | succ d ih =>
    intro j K hd hj hK
    obtain ⟨K, rfl⟩ : ∃ k, K = k + 1 := ⟨K - 1, by omega⟩
    rw [hocketref4_SameTable.l0, if_pos (by omega), if_pos (by omega), if_pos (by omega), if_pos rfl, if_pos rfl, sameresult_f]
    simp only [Option.bind_some, if_true]
    rw [wrap_succ j (by omega)]
    exact ih (j + 1) K (by omega) (by omega) (by omega)
theorem sametable_f (l : List S31) (hl : l.length ≤ 1000) : hocketref4_SameTable.f 2000 l l = some true := by
  rw [hocketref4_SameTable.f, if_pos rfl]
  exact sametable_l0 l hl l.length 0 2000 (by omega) (Nat.zero_le _) (by omega)

theorem sv_put (l : List S31) (s q : Int) (r : S26) (h : sv l) (h8 : l.length ≤ 8) (hr : r.f1.length < 1000) (hk : (lookR l s q).2 = 0) : sv (putP l s ⟨s, q, r⟩) ∧ (putP l s ⟨s, q, r⟩).length ≤ 8 := by
  have hfi := fi_le l s
  have hlen : (putP l s ⟨s, q, r⟩).length ≤ 8 := by
    unfold putP
    split
    · rw [List.length_set]; exact h8
    · rename_i ht
      have ht : there l s = false := by simpa using ht
      have : l.length < 8 := by
        unfold lookR at hk
        by_cases h1 : one s = false ∨ one q = false
        · rw [if_pos h1] at hk; exact absurd hk (by decide)
        · rw [if_neg h1, if_pos ht] at hk
          by_cases hh : 8 ≤ l.length
          · rw [if_pos hh] at hk; exact absurd hk (by decide)
          · omega
      simp
      omega
  refine ⟨⟨by omega, fun x hx => ?_⟩, hlen⟩
  unfold putP at hx
  split at hx
  · rcases List.mem_or_eq_of_mem_set hx with hx | rfl
    · exact h.2 x hx
    · exact hr
  · rcases List.mem_append.1 hx with hx | hx
    · exact h.2 x (List.mem_of_mem_take hx)
    · rcases List.mem_cons.1 hx with rfl | hx
      · exact hr
      · exact h.2 x (List.mem_of_mem_drop hx)
theorem sv_look (l : List S31) (s q : Int) (h : sv l) : (lookR l s q).1.f1.length < 1000 := by
  unfold lookR
  split
  · exact (show 0 < 1000 from by decide)
  · split
    · split <;> exact (show 0 < 1000 from by decide)
    · rename_i ht
      split
      · exact (show 0 < 1000 from by decide)
      · split
        · exact (show 0 < 1000 from by decide)
        · have hlt : fi l s < l.length := by simp [there] at ht; exact ht.1
          rw [rd_get l _ hlt]
          exact h.2 _ (List.getElem_mem hlt)

theorem my_look (l : List S31) (A : Option Addr) (c n : Nat) (s q : Int) (W : World) (hr : Kd.C k31 W A l.length l) (hc : n ≤ c) (hn : l.length = n) (hl : sv l) :
    Calls Try.prog 8 #[.slice A n c, .int .i64 s, .int .i64 q] W fun e w' => ∃ A1 c1, e = .returned (.tuple #[.agg #[.int .i64 (lookR l s q).1.f0, .slice A1 (lookR l s q).1.f1.length c1, .int .i64 (lookR l s q).1.f2], .int .i64 (lookR l s q).2]) ∧ (lookR l s q).1.f1.length ≤ c1 ∧ Kd.C (Kd.int .u8) w' A1 (lookR l s q).1.f1.length (lookR l s q).1.f1 ∧ Below W.heap.size W w' := by
  subst hn
  refine (look8 A c l s q W hr hc (fun x hx => by have := hl.2 x hx; omega)).mono ?_
  rintro e w' ⟨v, rfl, hR, hb⟩
  obtain ⟨A1, c1, rfl⟩ := Kd.R_slice hR
  exact ⟨A1, c1, rfl, (Kd.R_reads' hR).2.1, (Kd.R_reads' hR).2.2, hb⟩
theorem ref_look (l : List S31) (A : Option Addr) (c n : Nat) (s q : Int) (W : World) (hr : Kd.C k31 W A l.length l) (hc : n ≤ c) (hn : l.length = n) (hl : sv l) :
    Calls Try.prog 11 #[.slice A n c, .int .i64 s, .int .i64 q] W fun e w' => ∃ A1 c1, e = .returned (.tuple #[.agg #[.int .i64 (lookR l s q).1.f0, .slice A1 (lookR l s q).1.f1.length c1, .int .i64 (lookR l s q).1.f2], .int .i64 (lookR l s q).2]) ∧ (lookR l s q).1.f1.length ≤ c1 ∧ Kd.C (Kd.int .u8) w' A1 (lookR l s q).1.f1.length (lookR l s q).1.f1 ∧ Below W.heap.size W w' := by
  subst hn
  refine (hocketref4_Look.calls 2000 A c l s q _ _ _ _ W hr hc (look_f l s q hl)).mono ?_
  rintro e w' ⟨v, rfl, hR, hb⟩
  obtain ⟨A1, c1, rfl⟩ := Kd.R_slice hR
  exact ⟨A1, c1, rfl, (Kd.R_reads' hR).2.1, (Kd.R_reads' hR).2.2, hb⟩
theorem my_put (l : List S31) (A : Option Addr) (c n : Nat) (s q r0 r2 : Int) (r1 : List Int) (B : Option Addr) (d m : Nat) (w : World) (hr : Kd.C k31 w A l.length l) (hc : n ≤ c) (hn : l.length = n) (hl : sv l) (hB : Kd.C (Kd.int .u8) w B r1.length r1) (hd : m ≤ d) (hm : r1.length = m) (hm' : m < 1000) :
    Calls Try.prog 9 #[.slice A n c, .int .i64 s, .int .i64 q, .agg #[.int .i64 r0, .slice B m d, .int .i64 r2]] w fun e w' => ∃ A' c', e = .returned (.slice A' (putP l s ⟨s, q, ⟨r0, r1, r2⟩⟩).length c') ∧ (putP l s ⟨s, q, ⟨r0, r1, r2⟩⟩).length ≤ c' ∧ Kd.C k31 w' A' (putP l s ⟨s, q, ⟨r0, r1, r2⟩⟩).length (putP l s ⟨s, q, ⟨r0, r1, r2⟩⟩) ∧ Below w.heap.size w w' := by
  subst hn
  subst hm
  have := hl.1
  refine (put9 A c l s q ⟨r0, r1, r2⟩ B d w hr hc (by omega) (fun x hx => by have := hl.2 x hx; omega) hB hd (show r1.length < 140737488355328 from by omega)).mono ?_
  rintro e w' ⟨A', c', rfl, hc', hF, hb⟩
  exact ⟨A', c', rfl, hc', Fr.C hF, hb⟩
theorem ref_put (l : List S31) (A : Option Addr) (c n : Nat) (s q r0 r2 : Int) (r1 : List Int) (B : Option Addr) (d m : Nat) (w : World) (hr : Kd.C k31 w A l.length l) (hc : n ≤ c) (hn : l.length = n) (hl : sv l) (hB : Kd.C (Kd.int .u8) w B r1.length r1) (hd : m ≤ d) (hm : r1.length = m) (hm' : m < 1000) :
    Calls Try.prog 13 #[.slice A n c, .int .i64 s, .int .i64 q, .agg #[.int .i64 r0, .slice B m d, .int .i64 r2]] w fun e w' => ∃ A' c', e = .returned (.slice A' (putP l s ⟨s, q, ⟨r0, r1, r2⟩⟩).length c') ∧ (putP l s ⟨s, q, ⟨r0, r1, r2⟩⟩).length ≤ c' ∧ Kd.C k31 w' A' (putP l s ⟨s, q, ⟨r0, r1, r2⟩⟩).length (putP l s ⟨s, q, ⟨r0, r1, r2⟩⟩) ∧ Below w.heap.size w w' := by
  subst hn
  subst hm
  refine (hocketref4_PutLast.calls 2000 A c l s q r0 B d r1 r2 _ w hr hc hB hd (putlast_f l s q r0 r2 r1 hl hm')).mono ?_
  rintro e w' ⟨v, rfl, hN, hb⟩
  obtain ⟨A', c', rfl⟩ := Kd.N_slice hN
  exact ⟨A', c', rfl, (Kd.N_reads' hN).2.1, (Kd.N_reads' hN).2.2, hb⟩
theorem cell_old {W w' : World} {a : Addr} {v : Value} (hb : Below W.heap.size W w') (h : W.cell? a = some v) : w'.cell? a = some v := (hb.cell (World.block_lt_of_cell? W a h)).trans h
theorem row1 {w : World} {g : Nat} {v : Int} (h : w.cell? ⟨g, 0, none⟩ = some (.int .u8 v)) : Kd.C (Kd.int .u8) w (some ⟨g, 0, none⟩) 1 [v] := by
  refine ⟨rfl, by decide, fun _ => ⟨⟨g, 0, none⟩, rfl, fun j p hj => ?_⟩⟩
  cases j with
  | zero =>
    obtain rfl := Option.some.inj hj
    refine ⟨[.int .u8 v], rfl, rfl, fun i u hu => ?_⟩
    cases i with
    | zero =>
      obtain rfl := Option.some.inj hu
      rw [add_plain]
      exact h
    | succ i => simp at hu
  | succ j => simp at hj
def RowI (w : World) (a : Option Addr) (n : Nat) : Prop := 0 < n → ∃ ad, a = some ad ∧ ∀ j, j < n → ∃ v, w.cell? (ad.add j) = some (.int .i64 v)
def PI (w : World) (n : Nat) (A : Option Addr) (c : Nat) (B : Option Addr) (d : Nat) (w' : World) : Prop := ∃ l, sv l ∧ l.length ≤ 8 ∧ l.length = n ∧ n ≤ c ∧ n ≤ d ∧ Kd.C k31 w' A l.length l ∧ Kd.C k31 w' B l.length l ∧ Below w.heap.size w w'
set_option maxHeartbeats 1000000 in
set_option maxRecDepth 100000 in
theorem plays_calls (a : Option Addr) (la ca : Nat) (few : Bool) (w : World) (ha : RowI w a la) :
    Calls Try.prog 6 #[.slice a la ca, .bool few] w fun e w' => e = .returned (.bool true) ∧ Below w.heap.size w w' := by
  have HA := Aside0.mk ha
  clear ha
  go_enter Try.func6, Try.ntmps6
  go_wp2_with fail
  go_loopw [5, 6, 7] (fun v5 v6 v7 w' => ∃ (i n : Nat) (A : Option Addr) (c : Nat) (B : Option Addr) (d : Nat), v7 = .int .i64 i ∧ v5 = .slice A n c ∧ v6 = .slice B n d ∧ i ≤ 60 ∧ Aside0 (PI w n A c B d w')) (fun _ _ v7 _ => 60 - (intOf v7).toNat)
  case atStart => exact ⟨0, 0, none, 0, none, 0, rfl, rfl, rfl, by omega, ⟨⟨[], ⟨by decide, fun _ h => by simp at h⟩, by decide, rfl, Nat.zero_le _, Nat.zero_le _, ⟨rfl, by decide, fun h => absurd h (by decide)⟩, ⟨rfl, by decide, fun h => absurd h (by decide)⟩, Below.refl _ _⟩⟩⟩
  case round =>
    obtain ⟨i, n, A, c, B, d, rfl, rfl, rfl, hi, HI⟩ := hrel
    by_cases h1 : i < la
    · by_cases h3 : i < 60
      · obtain ⟨l, hsv, h8, hn, hc, hd, hCA, hCB, hB⟩ := HI.out
        subst hn
        obtain ⟨ad, rfl, hca⟩ := HA.out (by omega)
        obtain ⟨va, hva⟩ := hca i h1
        have k1 := (hB.cell (World.block_lt_of_cell? w _ hva)).trans hva
        have HCA := Aside0.mk hCA
        have HCB := Aside0.mk hCB
        have HB := Aside0.mk hB
        have Hc := Aside0.mk hc
        have Hd := Aside0.mk hd
        have HSV := Aside0.mk hsv
        have H8 := Aside0.mk h8
        clear hCA hCB hB hc hd hsv h8 hca HI hva
        cases few
        · go_wp2_with fail
          go_region
          go_wp2_with fail
          have hw0 : Below wr.heap.size wr wr.drew := below_drew1 (Below.refl _ _)
          generalize va / 16 = q
          clear k1
          refine (my_look l A c l.length va q _ (Kd.C_below HCA.out hw0) Hc.out rfl HSV.out).mono ?_
          rintro e w1 ⟨A1, c1, rfl, hc1, hC1, hb1⟩
          have hb1' := below_alloc (below_then hw0 (Nat.le_of_eq rfl) hb1) (.cells #[.int .i64 (lookR l va q).1.f0, .slice A1 (lookR l va q).1.f1.length c1, .int .i64 (lookR l va q).1.f2] 26)
          have HC1A := Aside0.mk (Kd.C_below HCA.out hb1')
          have HC1B := Aside0.mk (Kd.C_below HCB.out hb1')
          have HB1 := Aside0.mk (below_then HB.out HB.out.size hb1')
          have HV1 := Aside0.mk (Kd.C_alloc hC1 (.cells #[.int .i64 (lookR l va q).1.f0, .slice A1 (lookR l va q).1.f1.length c1, .int .i64 (lookR l va q).1.f2] 26))
          have HK1 := Aside0.mk (heap_alloc_self w1 (.cells #[.int .i64 (lookR l va q).1.f0, .slice A1 (lookR l va q).1.f1.length c1, .int .i64 (lookR l va q).1.f2] 26))
          have Hc1 := Aside0.mk hc1
          have HSL := Aside0.mk (sv_look l va q HSV.out)
          obtain ⟨R, hR⟩ : ∃ R, R = lookR l va q := ⟨_, rfl⟩
          have HRk := Aside0.mk hR
          simp only [← hR] at HV1 HK1 Hc1 HSL HC1A HC1B HB1 ⊢
          clear hb1 hb1' hC1 hc1 hw0 HCA HCB HB hR
          go_wp2_with fail
          generalize w1.alloc (.cells #[.int .i64 R.1.f0, .slice A1 R.1.f1.length c1, .int .i64 R.1.f2] 26) = W1 at HV1 HK1 HC1A HC1B HB1 ⊢
          have hrl := ref_look l B d l.length va q W1 HC1B.out Hd.out rfl HSV.out
          rw [← HRk.out] at hrl
          refine hrl.mono ?_
          rintro e w2 ⟨A2, c2, rfl, hc2, hC2, hb2⟩
          have hb2' := below_alloc hb2 (.cells #[.int .i64 R.1.f0, .slice A2 R.1.f1.length c2, .int .i64 R.1.f2] 26)
          have HC2A := Aside0.mk (Kd.C_below HC1A.out hb2')
          have HC2B := Aside0.mk (Kd.C_below HC1B.out hb2')
          have HB2 := Aside0.mk (below_then HB1.out HB1.out.size hb2')
          have HV2 := Aside0.mk (Kd.C_below HV1.out hb2')
          have HU2 := Aside0.mk (Kd.C_alloc hC2 (.cells #[.int .i64 R.1.f0, .slice A2 R.1.f1.length c2, .int .i64 R.1.f2] 26))
          have Hc2 := Aside0.mk hc2
          obtain ⟨x0, x1, x2, x3⟩ := blk_cells3 (blk3_keep HK1.out hb2')
          have hbne : (R.2 != R.2) = false := by simp
          clear hb2 hb2' hC2 hc2 x3 hrl HK1 HV1 HC1A HC1B HB1
          go_wp2_with fail
          refine (hocketref4_SameResult.calls R.1.f0 A1 c1 R.1.f1 R.1.f2 R.1.f0 A2 c2 R.1.f1 R.1.f2 true _ HV2.out Hc1.out HU2.out Hc2.out (sameresult_f _ _ _)).mono ?_
          rintro e w3 ⟨rfl, hb3⟩
          have HC3A := Aside0.mk (Kd.C_below HC2A.out hb3)
          have HC3B := Aside0.mk (Kd.C_below HC2B.out hb3)
          have HB3 := Aside0.mk (below_then HB2.out HB2.out.size hb3)
          clear hb3 x0 x1 x2 HC2A HC2B HB2 HV2 HU2
          by_cases hk : R.2 = 0
          · have hkd : decide (R.2 = 0) = true := decide_eq_true hk
            have hps := sv_put l va q ⟨0, [(i : Int)], (i : Int)⟩ HSV.out H8.out (show 1 < 1000 from by decide) (by rw [← HRk.out]; exact hk)
            obtain ⟨l', hl'⟩ : ∃ l', putP l va ⟨va, q, ⟨0, [(i : Int)], (i : Int)⟩⟩ = l' := ⟨_, rfl⟩
            rw [hl'] at hps
            have HL' := Aside0.mk hl'
            have HPS := Aside0.mk hps
            clear hl' hps
            go_wp2_with fail
            have hb3 : Below w3.heap.size w3 ((w3.alloc (.cells #[.int .u8 i] 5)).alloc (.cells #[.int .i64 0, .slice (some ⟨w3.heap.size, 0, none⟩) 1 1, .int .i64 i] 26)) := below_alloc (below_alloc (Below.refl _ _) _) _
            have hk3 : ((w3.alloc (.cells #[.int .u8 i] 5)).alloc (.cells #[.int .i64 0, .slice (some ⟨w3.heap.size, 0, none⟩) 1 1, .int .i64 i] 26)).heap[w3.heap.size + 1]? = some (.cells #[.int .i64 0, .slice (some ⟨w3.heap.size, 0, none⟩) 1 1, .int .i64 i] 26 (0, 0)) := by
              have := heap_alloc_self (w3.alloc (.cells #[.int .u8 i] 5)) (.cells #[.int .i64 0, .slice (some ⟨w3.heap.size, 0, none⟩) 1 1, .int .i64 i] 26)
              simpa using this
            have hv3 : ((w3.alloc (.cells #[.int .u8 i] 5)).alloc (.cells #[.int .i64 0, .slice (some ⟨w3.heap.size, 0, none⟩) 1 1, .int .i64 i] 26)).cell? ⟨w3.heap.size, 0, none⟩ = some (.int .u8 i) := by simp
            generalize (w3.alloc (.cells #[.int .u8 i] 5)).alloc (.cells #[.int .i64 0, .slice (some ⟨w3.heap.size, 0, none⟩) 1 1, .int .i64 i] 26) = W3 at hb3 hk3 hv3 ⊢
            obtain ⟨x0, x1, x2, x3⟩ := blk_cells3 hk3
            refine start_ (n := 12) (S := fun w' => w'.cell? ⟨w3.heap.size + 1, 0, none⟩ = some (.int .i64 0) ∧ w'.cell? ⟨w3.heap.size + 1, 1, none⟩ = some (.slice (some ⟨w3.heap.size, 0, none⟩) 1 1) ∧ w'.cell? ⟨w3.heap.size + 1, 2, none⟩ = some (.int .i64 i)) (ds := []) #[false, false, false, false, false, false, false, false, false, false, false, false] (by kernel_rfl) rfl rfl ⟨by simpa using x0, by simpa using x1, by simpa using x2⟩ (fun hHeld => ?_)
            have hb4 : Below w3.heap.size w3 W3.drew := below_drew hb3
            have hv4 : W3.drew.cell? ⟨w3.heap.size, 0, none⟩ = some (.int .u8 i) := by simpa using hv3
            generalize W3.drew = W4 at hHeld hb4 hv4 ⊢
            have HC4A := Aside0.mk (Kd.C_below HC3A.out hb4)
            have HC4B := Aside0.mk (Kd.C_below HC3B.out hb4)
            have HB4 := Aside0.mk (below_then HB3.out HB3.out.size hb4)
            have HV4 := Aside0.mk (row1 hv4)
            clear hb3 hb4 hv3 hv4 hk3 x0 x1 x2 x3
            refine pure_ (i := 0) (N := some 76) (v := ?_) (a' := ?_) #[true, false, false, false, false, false, false, false, false, false, false, false] rfl rfl (by kernel_rfl) (fun _ _ _ h => h) (Or.inl ⟨by rfl, ?_⟩) ?_ ?_
            rotate_left
            · intro w'
              go_simp
              with_reducible rfl
            rotate_left
            · simp only [Act.put, List.setIfInBounds_toArray, List.set_cons_zero, List.set_cons_succ, i64_w, i32_w]
              rfl
            refine pure_ (i := 1) (N := some 77) (v := ?_) (a' := ?_) #[true, true, false, false, false, false, false, false, false, false, false, false] rfl rfl (by kernel_rfl) (fun _ _ _ h => h) (Or.inl ⟨by rfl, ?_⟩) ?_ ?_
            rotate_left
            · intro w'
              go_simp
              with_reducible rfl
            rotate_left
            · simp only [Act.put, List.setIfInBounds_toArray, List.set_cons_zero, List.set_cons_succ, i64_w, i32_w]
              rfl
            refine pure_ (i := 2) (N := some 78) (v := ?_) (a' := ?_) #[true, true, true, false, false, false, false, false, false, false, false, false] rfl rfl (by kernel_rfl) (fun _ _ _ h => h) (Or.inl ⟨by rfl, ?_⟩) ?_ ?_
            rotate_left
            · intro w'
              go_simp
              with_reducible rfl
            rotate_left
            · simp only [Act.put, List.setIfInBounds_toArray, List.set_cons_zero, List.set_cons_succ, i64_w, i32_w]
              rfl
            refine pure_ (i := 5) (N := some 81) (v := ?_) (a' := ?_) #[true, true, true, false, false, true, false, false, false, false, false, false] rfl rfl (by kernel_rfl) (fun _ _ _ h => h) (Or.inl ⟨by rfl, ?_⟩) ?_ ?_
            rotate_left
            · intro w'
              go_simp
              with_reducible rfl
            rotate_left
            · simp only [Act.put, List.setIfInBounds_toArray, List.set_cons_zero, List.set_cons_succ, i64_w, i32_w]
              rfl
            refine pure_ (i := 6) (N := some 82) (v := ?_) (a' := ?_) #[true, true, true, false, false, true, true, false, false, false, false, false] rfl rfl (by kernel_rfl) (fun _ _ _ h => h) (Or.inl ⟨by rfl, ?_⟩) ?_ ?_
            rotate_left
            · intro w'
              go_simp
              with_reducible rfl
            rotate_left
            · simp only [Act.put, List.setIfInBounds_toArray, List.set_cons_zero, List.set_cons_succ, i64_w, i32_w]
              rfl
            refine pure_ (i := 7) (N := some 83) (v := ?_) (a' := ?_) #[true, true, true, false, false, true, true, true, false, false, false, false] rfl rfl (by kernel_rfl) (fun _ _ _ h => h) (Or.inl ⟨by rfl, ?_⟩) ?_ ?_
            rotate_left
            · intro w'
              go_simp
              with_reducible rfl
            rotate_left
            · simp only [Act.put, List.setIfInBounds_toArray, List.set_cons_zero, List.set_cons_succ, i64_w, i32_w]
              rfl
            refine take_ (i := 3) (N := some 79) (v := ?_) (a' := ?_) #[true, true, true, true, false, true, true, true, false, false, false, false] rfl rfl (by kernel_rfl) (fun _ _ _ h => h) (Or.inl ⟨by rfl, ?_⟩) hHeld ?_ ?_
            rotate_left
            · rintro w' ⟨s0, s1, s2⟩
              go_simp
              with_reducible rfl
            rotate_left
            · simp only [Act.put, List.setIfInBounds_toArray, List.set_cons_zero, List.set_cons_succ, i64_w, i32_w]
              rfl
            refine take_ (i := 8) (N := some 84) (v := ?_) (a' := ?_) #[true, true, true, true, false, true, true, true, true, false, false, false] rfl rfl (by kernel_rfl) (fun _ _ _ h => h) (Or.inl ⟨by rfl, ?_⟩) hHeld ?_ ?_
            rotate_left
            · rintro w' ⟨s0, s1, s2⟩
              go_simp
              with_reducible rfl
            rotate_left
            · simp only [Act.put, List.setIfInBounds_toArray, List.set_cons_zero, List.set_cons_succ, i64_w, i32_w]
              rfl
            refine one_ (i := 4) (N := some 80) #[true, true, true, true, true, true, true, true, true, false, false, false] rfl rfl (by kernel_rfl) (by decide) (fun K hK => ?_)
            refine goes_ Try.func9 (by kernel_rfl) rfl #[.slice A l.length c, .int .i64 va, .int .i64 q, .agg #[.int .i64 0, .slice (some ⟨w3.heap.size, 0, none⟩) 1 1, .int .i64 i]] (by rfl) rfl rfl (by (try simp only [List.map_toArray, List.map_cons, List.map_nil]); first | done | rfl) ?_
            have hmp := my_put l A c l.length va q 0 i [(i : Int)] (some ⟨w3.heap.size, 0, none⟩) 1 1 W4 HC4A.out Hc.out rfl HSV.out HV4.out (Nat.le_refl 1) rfl (by decide)
            rw [HL'.out] at hmp
            refine hmp.mono ?_
            rintro e w5 ⟨A5, c5, rfl, hc5, hC5, hb5⟩
            have HA5 := Aside0.mk hC5
            have HC5 := Aside0.mk hc5
            have HC5B := Aside0.mk (Kd.C_below HC4B.out hb5)
            have HV5 := Aside0.mk (Kd.C_below HV4.out hb5)
            have HB5 := Aside0.mk (below_then HB4.out HB4.out.size hb5)
            have hHeld5 := Aside0.mk (show _ ∧ _ ∧ _ from ⟨cell_old hb5 hHeld.1, cell_old hb5 hHeld.2.1, cell_old hb5 hHeld.2.2⟩)
            clear hc5 hC5 hb5 hmp
            refine ⟨_, rfl, ?_⟩
            refine hK.out _ _ hHeld5.out (fun hHeld => ?_)
            clear hK K
            refine norm_ (a' := ?_) ?_ ?_
            rotate_left
            · show Act.put _ (some 80) _ = _
              simp only [Act.put, List.setIfInBounds_toArray, List.set_cons_zero, List.set_cons_succ, i64_w, i32_w]
              rfl
            refine one_ (i := 9) (N := some 85) #[true, true, true, true, true, true, true, true, true, true, false, false] rfl rfl (by kernel_rfl) (by decide) (fun K hK => ?_)
            refine goes_ Try.func13 (by kernel_rfl) rfl #[.slice B l.length d, .int .i64 va, .int .i64 q, .agg #[.int .i64 0, .slice (some ⟨w3.heap.size, 0, none⟩) 1 1, .int .i64 i]] (by rfl) rfl rfl (by (try simp only [List.map_toArray, List.map_cons, List.map_nil]); first | done | rfl) ?_
            have hmp := ref_put l B d l.length va q 0 i [(i : Int)] (some ⟨w3.heap.size, 0, none⟩) 1 1 w5 HC5B.out Hd.out rfl HSV.out HV5.out (Nat.le_refl 1) rfl (by decide)
            rw [HL'.out] at hmp
            refine hmp.mono ?_
            rintro e w6 ⟨B6, d6, rfl, hd6, hC6, hb6⟩
            have HB6 := Aside0.mk hC6
            have HD6 := Aside0.mk hd6
            have HA6 := Aside0.mk (Kd.C_below HA5.out hb6)
            have HBel6 := Aside0.mk (below_then HB5.out HB5.out.size hb6)
            have hHeld6 := Aside0.mk (show _ ∧ _ ∧ _ from ⟨cell_old hb6 hHeld.1, cell_old hb6 hHeld.2.1, cell_old hb6 hHeld.2.2⟩)
            clear hd6 hC6 hb6 hmp
            refine ⟨_, rfl, ?_⟩
            refine hK.out _ _ hHeld6.out (fun hHeld => ?_)
            clear hK K
            refine norm_ (a' := ?_) ?_ ?_
            rotate_left
            · show Act.put _ (some 85) _ = _
              simp only [Act.put, List.setIfInBounds_toArray, List.set_cons_zero, List.set_cons_succ, i64_w, i32_w]
              rfl
            refine pure_ (i := 10) (N := some 5) (v := ?_) (a' := ?_) #[true, true, true, true, true, true, true, true, true, true, true, false] rfl rfl (by kernel_rfl) (fun _ _ _ h => h) (Or.inl ⟨by rfl, ?_⟩) ?_ ?_
            rotate_left
            · intro w'
              go_simp
              with_reducible rfl
            rotate_left
            · simp only [Act.put, List.setIfInBounds_toArray, List.set_cons_zero, List.set_cons_succ, i64_w, i32_w]
              rfl
            refine pure_ (i := 11) (N := some 6) (v := ?_) (a' := ?_) #[true, true, true, true, true, true, true, true, true, true, true, true] rfl rfl (by kernel_rfl) (fun _ _ _ h => h) (Or.inl ⟨by rfl, ?_⟩) ?_ ?_
            rotate_left
            · intro w'
              go_simp
              with_reducible rfl
            rotate_left
            · simp only [Act.put, List.setIfInBounds_toArray, List.set_cons_zero, List.set_cons_succ, i64_w, i32_w]
              rfl
            refine done_ (by kernel_rfl) ?_
            have hln : l'.length ≤ 8 := HPS.out.2
            have hl8 : (l'.length : Int) ≤ 8 := by omega
            have hl8d : decide ((8 : Int) < (l'.length : Int)) = false := decide_eq_false (by omega)
            clear hHeld
            go_wp2_with fail
            refine (hocketref4_SameTable.calls 2000 A5 c5 l' B6 d6 l' true w6 HA6.out HC5.out HB6.out HD6.out (sametable_f l' HPS.out.1.1)).mono ?_
            rintro e w7 ⟨rfl, hb7⟩
            have HE := Aside0.mk (show PI w l'.length A5 c5 B6 d6 w7 from ⟨l', HPS.out.1, HPS.out.2, rfl, HC5.out, HD6.out, Kd.C_below HA6.out hb7, Kd.C_below HB6.out hb7, below_then HBel6.out HBel6.out.size hb7⟩)
            clear hb7
            go_wp2_with fail
            go_roundw
            case rel => exact ⟨i + 1, l'.length, A5, c5, B6, d6, by go_num, rfl, rfl, by omega, HE⟩
            case measure => simp [intOf]; omega
          · have hkd : decide (R.2 = 0) = false := decide_eq_false hk
            have hln : l.length ≤ 8 := H8.out
            have hl8 : (l.length : Int) ≤ 8 := by omega
            have hl8d : decide ((8 : Int) < (l.length : Int)) = false := decide_eq_false (by omega)
            go_wp2_with fail
            refine (hocketref4_SameTable.calls 2000 A c l B d l true w3 HC3A.out Hc.out HC3B.out Hd.out (sametable_f l HSV.out.1)).mono ?_
            rintro e w7 ⟨rfl, hb7⟩
            have HE := Aside0.mk (show PI w l.length A c B d w7 from ⟨l, HSV.out, H8.out, rfl, Hc.out, Hd.out, Kd.C_below HC3A.out hb7, Kd.C_below HC3B.out hb7, below_then HB3.out HB3.out.size hb7⟩)
            clear hb7
            go_wp2_with fail
            go_roundw
            case rel => exact ⟨i + 1, l.length, A, c, B, d, by go_num, rfl, rfl, by omega, HE⟩
            case measure => simp [intOf]; omega
        · go_wp2_with fail
          go_region
          go_wp2_with fail
          go_region
          go_wp2_with fail
          have hw0 : Below wr.heap.size wr wr.drew.drew := below_drew1 (below_drew1 (Below.refl _ _))
          generalize bits BinOp.and IntKind.i64 (va / 16) 7 = q
          generalize bits BinOp.and IntKind.i64 va 15 = s
          clear k1
          refine (my_look l A c l.length s q _ (Kd.C_below HCA.out hw0) Hc.out rfl HSV.out).mono ?_
          rintro e w1 ⟨A1, c1, rfl, hc1, hC1, hb1⟩
          have hb1' := below_alloc (below_then hw0 (Nat.le_of_eq rfl) hb1) (.cells #[.int .i64 (lookR l s q).1.f0, .slice A1 (lookR l s q).1.f1.length c1, .int .i64 (lookR l s q).1.f2] 26)
          have HC1A := Aside0.mk (Kd.C_below HCA.out hb1')
          have HC1B := Aside0.mk (Kd.C_below HCB.out hb1')
          have HB1 := Aside0.mk (below_then HB.out HB.out.size hb1')
          have HV1 := Aside0.mk (Kd.C_alloc hC1 (.cells #[.int .i64 (lookR l s q).1.f0, .slice A1 (lookR l s q).1.f1.length c1, .int .i64 (lookR l s q).1.f2] 26))
          have HK1 := Aside0.mk (heap_alloc_self w1 (.cells #[.int .i64 (lookR l s q).1.f0, .slice A1 (lookR l s q).1.f1.length c1, .int .i64 (lookR l s q).1.f2] 26))
          have Hc1 := Aside0.mk hc1
          have HSL := Aside0.mk (sv_look l s q HSV.out)
          obtain ⟨R, hR⟩ : ∃ R, R = lookR l s q := ⟨_, rfl⟩
          have HRk := Aside0.mk hR
          simp only [← hR] at HV1 HK1 Hc1 HSL HC1A HC1B HB1 ⊢
          clear hb1 hb1' hC1 hc1 hw0 HCA HCB HB hR
          go_wp2_with fail
          generalize w1.alloc (.cells #[.int .i64 R.1.f0, .slice A1 R.1.f1.length c1, .int .i64 R.1.f2] 26) = W1 at HV1 HK1 HC1A HC1B HB1 ⊢
          have hrl := ref_look l B d l.length s q W1 HC1B.out Hd.out rfl HSV.out
          rw [← HRk.out] at hrl
          refine hrl.mono ?_
          rintro e w2 ⟨A2, c2, rfl, hc2, hC2, hb2⟩
          have hb2' := below_alloc hb2 (.cells #[.int .i64 R.1.f0, .slice A2 R.1.f1.length c2, .int .i64 R.1.f2] 26)
          have HC2A := Aside0.mk (Kd.C_below HC1A.out hb2')
          have HC2B := Aside0.mk (Kd.C_below HC1B.out hb2')
          have HB2 := Aside0.mk (below_then HB1.out HB1.out.size hb2')
          have HV2 := Aside0.mk (Kd.C_below HV1.out hb2')
          have HU2 := Aside0.mk (Kd.C_alloc hC2 (.cells #[.int .i64 R.1.f0, .slice A2 R.1.f1.length c2, .int .i64 R.1.f2] 26))
          have Hc2 := Aside0.mk hc2
          obtain ⟨x0, x1, x2, x3⟩ := blk_cells3 (blk3_keep HK1.out hb2')
          have hbne : (R.2 != R.2) = false := by simp
          clear hb2 hb2' hC2 hc2 x3 hrl HK1 HV1 HC1A HC1B HB1
          go_wp2_with fail
          refine (hocketref4_SameResult.calls R.1.f0 A1 c1 R.1.f1 R.1.f2 R.1.f0 A2 c2 R.1.f1 R.1.f2 true _ HV2.out Hc1.out HU2.out Hc2.out (sameresult_f _ _ _)).mono ?_
          rintro e w3 ⟨rfl, hb3⟩
          have HC3A := Aside0.mk (Kd.C_below HC2A.out hb3)
          have HC3B := Aside0.mk (Kd.C_below HC2B.out hb3)
          have HB3 := Aside0.mk (below_then HB2.out HB2.out.size hb3)
          clear hb3 x0 x1 x2 HC2A HC2B HB2 HV2 HU2
          by_cases hk : R.2 = 0
          · have hkd : decide (R.2 = 0) = true := decide_eq_true hk
            have hps := sv_put l s q ⟨0, [(i : Int)], (i : Int)⟩ HSV.out H8.out (show 1 < 1000 from by decide) (by rw [← HRk.out]; exact hk)
            obtain ⟨l', hl'⟩ : ∃ l', putP l s ⟨s, q, ⟨0, [(i : Int)], (i : Int)⟩⟩ = l' := ⟨_, rfl⟩
            rw [hl'] at hps
            have HL' := Aside0.mk hl'
            have HPS := Aside0.mk hps
            clear hl' hps
            go_wp2_with fail
            have hb3 : Below w3.heap.size w3 ((w3.alloc (.cells #[.int .u8 i] 5)).alloc (.cells #[.int .i64 0, .slice (some ⟨w3.heap.size, 0, none⟩) 1 1, .int .i64 i] 26)) := below_alloc (below_alloc (Below.refl _ _) _) _
            have hk3 : ((w3.alloc (.cells #[.int .u8 i] 5)).alloc (.cells #[.int .i64 0, .slice (some ⟨w3.heap.size, 0, none⟩) 1 1, .int .i64 i] 26)).heap[w3.heap.size + 1]? = some (.cells #[.int .i64 0, .slice (some ⟨w3.heap.size, 0, none⟩) 1 1, .int .i64 i] 26 (0, 0)) := by
              have := heap_alloc_self (w3.alloc (.cells #[.int .u8 i] 5)) (.cells #[.int .i64 0, .slice (some ⟨w3.heap.size, 0, none⟩) 1 1, .int .i64 i] 26)
              simpa using this
            have hv3 : ((w3.alloc (.cells #[.int .u8 i] 5)).alloc (.cells #[.int .i64 0, .slice (some ⟨w3.heap.size, 0, none⟩) 1 1, .int .i64 i] 26)).cell? ⟨w3.heap.size, 0, none⟩ = some (.int .u8 i) := by simp
            generalize (w3.alloc (.cells #[.int .u8 i] 5)).alloc (.cells #[.int .i64 0, .slice (some ⟨w3.heap.size, 0, none⟩) 1 1, .int .i64 i] 26) = W3 at hb3 hk3 hv3 ⊢
            obtain ⟨x0, x1, x2, x3⟩ := blk_cells3 hk3
            refine start_ (n := 12) (S := fun w' => w'.cell? ⟨w3.heap.size + 1, 0, none⟩ = some (.int .i64 0) ∧ w'.cell? ⟨w3.heap.size + 1, 1, none⟩ = some (.slice (some ⟨w3.heap.size, 0, none⟩) 1 1) ∧ w'.cell? ⟨w3.heap.size + 1, 2, none⟩ = some (.int .i64 i)) (ds := []) #[false, false, false, false, false, false, false, false, false, false, false, false] (by kernel_rfl) rfl rfl ⟨by simpa using x0, by simpa using x1, by simpa using x2⟩ (fun hHeld => ?_)
            have hb4 : Below w3.heap.size w3 W3.drew := below_drew hb3
            have hv4 : W3.drew.cell? ⟨w3.heap.size, 0, none⟩ = some (.int .u8 i) := by simpa using hv3
            generalize W3.drew = W4 at hHeld hb4 hv4 ⊢
            have HC4A := Aside0.mk (Kd.C_below HC3A.out hb4)
            have HC4B := Aside0.mk (Kd.C_below HC3B.out hb4)
            have HB4 := Aside0.mk (below_then HB3.out HB3.out.size hb4)
            have HV4 := Aside0.mk (row1 hv4)
            clear hb3 hb4 hv3 hv4 hk3 x0 x1 x2 x3
            refine pure_ (i := 0) (N := some 76) (v := ?_) (a' := ?_) #[true, false, false, false, false, false, false, false, false, false, false, false] rfl rfl (by kernel_rfl) (fun _ _ _ h => h) (Or.inl ⟨by rfl, ?_⟩) ?_ ?_
            rotate_left
            · intro w'
              go_simp
              with_reducible rfl
            rotate_left
            · simp only [Act.put, List.setIfInBounds_toArray, List.set_cons_zero, List.set_cons_succ, i64_w, i32_w]
              rfl
            refine pure_ (i := 1) (N := some 77) (v := ?_) (a' := ?_) #[true, true, false, false, false, false, false, false, false, false, false, false] rfl rfl (by kernel_rfl) (fun _ _ _ h => h) (Or.inl ⟨by rfl, ?_⟩) ?_ ?_
            rotate_left
            · intro w'
              go_simp
              with_reducible rfl
            rotate_left
            · simp only [Act.put, List.setIfInBounds_toArray, List.set_cons_zero, List.set_cons_succ, i64_w, i32_w]
              rfl
            refine pure_ (i := 2) (N := some 78) (v := ?_) (a' := ?_) #[true, true, true, false, false, false, false, false, false, false, false, false] rfl rfl (by kernel_rfl) (fun _ _ _ h => h) (Or.inl ⟨by rfl, ?_⟩) ?_ ?_
            rotate_left
            · intro w'
              go_simp
              with_reducible rfl
            rotate_left
            · simp only [Act.put, List.setIfInBounds_toArray, List.set_cons_zero, List.set_cons_succ, i64_w, i32_w]
              rfl
            refine pure_ (i := 5) (N := some 81) (v := ?_) (a' := ?_) #[true, true, true, false, false, true, false, false, false, false, false, false] rfl rfl (by kernel_rfl) (fun _ _ _ h => h) (Or.inl ⟨by rfl, ?_⟩) ?_ ?_
            rotate_left
            · intro w'
              go_simp
              with_reducible rfl
            rotate_left
            · simp only [Act.put, List.setIfInBounds_toArray, List.set_cons_zero, List.set_cons_succ, i64_w, i32_w]
              rfl
            refine pure_ (i := 6) (N := some 82) (v := ?_) (a' := ?_) #[true, true, true, false, false, true, true, false, false, false, false, false] rfl rfl (by kernel_rfl) (fun _ _ _ h => h) (Or.inl ⟨by rfl, ?_⟩) ?_ ?_
            rotate_left
            · intro w'
              go_simp
              with_reducible rfl
            rotate_left
            · simp only [Act.put, List.setIfInBounds_toArray, List.set_cons_zero, List.set_cons_succ, i64_w, i32_w]
              rfl
            refine pure_ (i := 7) (N := some 83) (v := ?_) (a' := ?_) #[true, true, true, false, false, true, true, true, false, false, false, false] rfl rfl (by kernel_rfl) (fun _ _ _ h => h) (Or.inl ⟨by rfl, ?_⟩) ?_ ?_
            rotate_left
            · intro w'
              go_simp
              with_reducible rfl
            rotate_left
            · simp only [Act.put, List.setIfInBounds_toArray, List.set_cons_zero, List.set_cons_succ, i64_w, i32_w]
              rfl
            refine take_ (i := 3) (N := some 79) (v := ?_) (a' := ?_) #[true, true, true, true, false, true, true, true, false, false, false, false] rfl rfl (by kernel_rfl) (fun _ _ _ h => h) (Or.inl ⟨by rfl, ?_⟩) hHeld ?_ ?_
            rotate_left
            · rintro w' ⟨s0, s1, s2⟩
              go_simp
              with_reducible rfl
            rotate_left
            · simp only [Act.put, List.setIfInBounds_toArray, List.set_cons_zero, List.set_cons_succ, i64_w, i32_w]
              rfl
            refine take_ (i := 8) (N := some 84) (v := ?_) (a' := ?_) #[true, true, true, true, false, true, true, true, true, false, false, false] rfl rfl (by kernel_rfl) (fun _ _ _ h => h) (Or.inl ⟨by rfl, ?_⟩) hHeld ?_ ?_
            rotate_left
            · rintro w' ⟨s0, s1, s2⟩
              go_simp
              with_reducible rfl
            rotate_left
            · simp only [Act.put, List.setIfInBounds_toArray, List.set_cons_zero, List.set_cons_succ, i64_w, i32_w]
              rfl
            refine one_ (i := 4) (N := some 80) #[true, true, true, true, true, true, true, true, true, false, false, false] rfl rfl (by kernel_rfl) (by decide) (fun K hK => ?_)
            refine goes_ Try.func9 (by kernel_rfl) rfl #[.slice A l.length c, .int .i64 s, .int .i64 q, .agg #[.int .i64 0, .slice (some ⟨w3.heap.size, 0, none⟩) 1 1, .int .i64 i]] (by rfl) rfl rfl (by (try simp only [List.map_toArray, List.map_cons, List.map_nil]); first | done | rfl) ?_
            have hmp := my_put l A c l.length s q 0 i [(i : Int)] (some ⟨w3.heap.size, 0, none⟩) 1 1 W4 HC4A.out Hc.out rfl HSV.out HV4.out (Nat.le_refl 1) rfl (by decide)
            rw [HL'.out] at hmp
            refine hmp.mono ?_
            rintro e w5 ⟨A5, c5, rfl, hc5, hC5, hb5⟩
            have HA5 := Aside0.mk hC5
            have HC5 := Aside0.mk hc5
            have HC5B := Aside0.mk (Kd.C_below HC4B.out hb5)
            have HV5 := Aside0.mk (Kd.C_below HV4.out hb5)
            have HB5 := Aside0.mk (below_then HB4.out HB4.out.size hb5)
            have hHeld5 := Aside0.mk (show _ ∧ _ ∧ _ from ⟨cell_old hb5 hHeld.1, cell_old hb5 hHeld.2.1, cell_old hb5 hHeld.2.2⟩)
            clear hc5 hC5 hb5 hmp
            refine ⟨_, rfl, ?_⟩
            refine hK.out _ _ hHeld5.out (fun hHeld => ?_)
            clear hK K
            refine norm_ (a' := ?_) ?_ ?_
            rotate_left
            · show Act.put _ (some 80) _ = _
              simp only [Act.put, List.setIfInBounds_toArray, List.set_cons_zero, List.set_cons_succ, i64_w, i32_w]
              rfl
            refine one_ (i := 9) (N := some 85) #[true, true, true, true, true, true, true, true, true, true, false, false] rfl rfl (by kernel_rfl) (by decide) (fun K hK => ?_)
            refine goes_ Try.func13 (by kernel_rfl) rfl #[.slice B l.length d, .int .i64 s, .int .i64 q, .agg #[.int .i64 0, .slice (some ⟨w3.heap.size, 0, none⟩) 1 1, .int .i64 i]] (by rfl) rfl rfl (by (try simp only [List.map_toArray, List.map_cons, List.map_nil]); first | done | rfl) ?_
            have hmp := ref_put l B d l.length s q 0 i [(i : Int)] (some ⟨w3.heap.size, 0, none⟩) 1 1 w5 HC5B.out Hd.out rfl HSV.out HV5.out (Nat.le_refl 1) rfl (by decide)
            rw [HL'.out] at hmp
            refine hmp.mono ?_
            rintro e w6 ⟨B6, d6, rfl, hd6, hC6, hb6⟩
            have HB6 := Aside0.mk hC6
            have HD6 := Aside0.mk hd6
            have HA6 := Aside0.mk (Kd.C_below HA5.out hb6)
            have HBel6 := Aside0.mk (below_then HB5.out HB5.out.size hb6)
            have hHeld6 := Aside0.mk (show _ ∧ _ ∧ _ from ⟨cell_old hb6 hHeld.1, cell_old hb6 hHeld.2.1, cell_old hb6 hHeld.2.2⟩)
            clear hd6 hC6 hb6 hmp
            refine ⟨_, rfl, ?_⟩
            refine hK.out _ _ hHeld6.out (fun hHeld => ?_)
            clear hK K
            refine norm_ (a' := ?_) ?_ ?_
            rotate_left
            · show Act.put _ (some 85) _ = _
              simp only [Act.put, List.setIfInBounds_toArray, List.set_cons_zero, List.set_cons_succ, i64_w, i32_w]
              rfl
            refine pure_ (i := 10) (N := some 5) (v := ?_) (a' := ?_) #[true, true, true, true, true, true, true, true, true, true, true, false] rfl rfl (by kernel_rfl) (fun _ _ _ h => h) (Or.inl ⟨by rfl, ?_⟩) ?_ ?_
            rotate_left
            · intro w'
              go_simp
              with_reducible rfl
            rotate_left
            · simp only [Act.put, List.setIfInBounds_toArray, List.set_cons_zero, List.set_cons_succ, i64_w, i32_w]
              rfl
            refine pure_ (i := 11) (N := some 6) (v := ?_) (a' := ?_) #[true, true, true, true, true, true, true, true, true, true, true, true] rfl rfl (by kernel_rfl) (fun _ _ _ h => h) (Or.inl ⟨by rfl, ?_⟩) ?_ ?_
            rotate_left
            · intro w'
              go_simp
              with_reducible rfl
            rotate_left
            · simp only [Act.put, List.setIfInBounds_toArray, List.set_cons_zero, List.set_cons_succ, i64_w, i32_w]
              rfl
            refine done_ (by kernel_rfl) ?_
            have hln : l'.length ≤ 8 := HPS.out.2
            have hl8 : (l'.length : Int) ≤ 8 := by omega
            have hl8d : decide ((8 : Int) < (l'.length : Int)) = false := decide_eq_false (by omega)
            clear hHeld
            go_wp2_with fail
            refine (hocketref4_SameTable.calls 2000 A5 c5 l' B6 d6 l' true w6 HA6.out HC5.out HB6.out HD6.out (sametable_f l' HPS.out.1.1)).mono ?_
            rintro e w7 ⟨rfl, hb7⟩
            have HE := Aside0.mk (show PI w l'.length A5 c5 B6 d6 w7 from ⟨l', HPS.out.1, HPS.out.2, rfl, HC5.out, HD6.out, Kd.C_below HA6.out hb7, Kd.C_below HB6.out hb7, below_then HBel6.out HBel6.out.size hb7⟩)
            clear hb7
            go_wp2_with fail
            go_roundw
            case rel => exact ⟨i + 1, l'.length, A5, c5, B6, d6, by go_num, rfl, rfl, by omega, HE⟩
            case measure => simp [intOf]; omega
          · have hkd : decide (R.2 = 0) = false := decide_eq_false hk
            have hln : l.length ≤ 8 := H8.out
            have hl8 : (l.length : Int) ≤ 8 := by omega
            have hl8d : decide ((8 : Int) < (l.length : Int)) = false := decide_eq_false (by omega)
            go_wp2_with fail
            refine (hocketref4_SameTable.calls 2000 A c l B d l true w3 HC3A.out Hc.out HC3B.out Hd.out (sametable_f l HSV.out.1)).mono ?_
            rintro e w7 ⟨rfl, hb7⟩
            have HE := Aside0.mk (show PI w l.length A c B d w7 from ⟨l, HSV.out, H8.out, rfl, Hc.out, Hd.out, Kd.C_below HC3A.out hb7, Kd.C_below HC3B.out hb7, below_then HB3.out HB3.out.size hb7⟩)
            clear hb7
            go_wp2_with fail
            go_roundw
            case rel => exact ⟨i + 1, l.length, A, c, B, d, by go_num, rfl, rfl, by omega, HE⟩
            case measure => simp [intOf]; omega
      · have e3 : decide ((i : Int) < 60) = false := decide_eq_false (by omega)
        obtain ⟨l, hsv, h8, hn, hc, hd, hCA, hCB, hB⟩ := HI.out
        have HB := Aside0.mk hB
        clear hsv h8 hn hc hd hCA hCB hB HI
        go_wp2_with fail
        refine (awake10 _).mono ?_
        rintro e w1 ⟨rfl, hb1⟩
        have HB1 := Aside0.mk (below_then HB.out HB.out.size hb1)
        clear hb1
        go_wp2_with fail
        go_ret
        exact ⟨rfl, HB1.out⟩
    · obtain ⟨l, hsv, h8, hn, hc, hd, hCA, hCB, hB⟩ := HI.out
      have HB := Aside0.mk hB
      clear hsv h8 hn hc hd hCA hCB hB HI
      go_wp2_with fail
      refine (awake10 _).mono ?_
      rintro e w1 ⟨rfl, hb1⟩
      have HB1 := Aside0.mk (below_then HB.out HB.out.size hb1)
      clear hb1
      go_wp2_with fail
      go_ret
      exact ⟨rfl, HB1.out⟩
end Go.Proofs.Ytjpgnipjgonplaa.Ss
namespace Go.Proofs.Ytjpgnipjgonplaa.sessPlays
open Go.ChangeShapes Go.WideShapes Go.ChangeAt Go.RowKit Go.Proofs.YtjpgnipjgonplaaW
open Go.ChangeMaps (open_string shut_string)
theorem own : ownKnob Try.prog.godebug = none := by kernel_rfl
theorem laidOut : laidOutB Try.prog = true := by kernel_rfl
def IsRow (k : IntKind) (w : World) (a : Option Addr) (len cap : Nat) (zs : List Int) : Prop :=
  (a = none ∧ len = 0 ∧ cap = 0 ∧ zs = []) ∨
  ∃ x, a = some x ∧ len ≤ cap ∧ cap ≤ maxLen ∧ zs.length = cap ∧ (∀ i, i < zs.length → w.cell? (x.add i) = some (.int k (zs.getD i 0))) ∧ ∀ n ∈ zs, (Lit.int k n).wf = true
theorem rowI {w : World} {a : Option Addr} {len cap : Nat} {zs : List Int} (h : IsRow .i64 w a len cap zs) : Ss.RowI w a len := by
  intro h0
  rcases h with ⟨_, rfl, _⟩ | ⟨x, rfl, h1, h2, h3, h4, _⟩
  · exact absurd h0 (Nat.lt_irrefl 0)
  · exact ⟨x, rfl, fun j hj => ⟨_, h4 j (by omega)⟩⟩
set_option maxRecDepth 100000 in
theorem lifted (os : Os) (started : os.Started) (H : Type) (enc : TypeId × Value → H) :
    ReturnsInHanded {} Try.checked os 6 .any (Rows.sessPlaysSpec.pre6 enc Try.prog Try.f6 Rows.sessPlaysRow.domain false) (Rows.sessPlaysSpec.post enc Try.prog Try.f6 false true false false) := by
  refine returnsInHanded_of_change_sized (C := Try.checked) own started (by kernel_rfl) Try.func6
    (ChangeSpec.witness6 (enc := enc) (C := Try.checked) false ⟨#[], #[.slice none 0 0, .bool false], []⟩ 8 (by kernel_rfl) (by kernel_rfl) (by kernel_rfl) (by kernel_rfl)) ?_
  intro W base args ds gs before hval0 hW hcnd hsz0 _
  have hsz : (DataW.weightsEach Try.prog (Try.f6.params.toList ++ Rows.sessPlaysSpec.plain.varTypes Try.prog) (ds ++ gs)).all (· ≤ reachBytes) = true := hsz0
  have hval : ∀ (j : Nat) t v, Try.f6.params[j]? = some t → args[j]? = some v → Value.okWide Try.prog W .any base t v := hval0
  have hW' := hW
  obtain ⟨p, q, hA0, hV, rfl, hfz, hnd⟩ := hW
  have hA : DataW.TrodAll enc Try.prog W 0 (fun _ => true) true Try.f6.params.toList args.toList ds p := hA0
  rw [Try.params6] at hA hval hsz
  obtain ⟨v0, vs0, d0, ds0, p0, q0, hargs, rfl, rfl, h0, r0⟩ := trodAll_cons hA
  obtain ⟨v1, vs1, d1, ds1, p1, q1, rfl, rfl, rfl, h1, r1⟩ := trodAll_cons r0
  obtain ⟨rfl, rfl, rfl⟩ := trodAll_nil r1
  obtain rfl : args = #[v0, v1] := by cases args; simp_all
  obtain ⟨rfl, rfl⟩ := trodVars_none hV
  obtain ⟨a0, len0, cap0, rfl⟩ := okWide_slice Try.underlying37 (hval 0 37 v0 rfl rfl)
  have k0 := h0
  have lt0 : ∀ x ∈ p0, x.block < W.heap.size := by obtain ⟨m, hm⟩ := k0; exact DataW.trod_lt m _ _ _ hm
  obtain ⟨z0, w0⟩ : ∃ zs, IsRow .i64 W a0 len0 cap0 zs := by
    obtain ⟨fuel, hf⟩ := h0
    rcases open_ints Try.underlying37 Try.underlying3 (by kernel_rfl) hf with ⟨hcs, _⟩ | ⟨x, l, c, zs, hcs, _, hl, hm, hz, _, hcell, hwz⟩
    · simp [Value.cells] at hcs
      obtain ⟨rfl, rfl, rfl⟩ := hcs
      exact ⟨[], .inl ⟨rfl, rfl, rfl, rfl⟩⟩
    · simp [Value.cells] at hcs
      obtain ⟨rfl, rfl, rfl⟩ := hcs
      exact ⟨zs, .inr ⟨_, rfl, hl, hm, by simpa using hz, hcell, hwz⟩⟩
  have y0 : len0 * 8 ≤ 140737488351232 := PrintWords.sized_ints hsz (j := 0) (t := 37) rfl rfl Try.underlying37 Try.underlying3 (by kernel_rfl) (by kernel_rfl) h0
  obtain ⟨a1, rfl, rfl, rfl⟩ := open_bool Try.underlying4 (hval 1 4 v1 rfl rfl) h1
  clear hA0 hval0 hsz0 hsz
  refine (Ss.plays_calls a0 len0 cap0 a1 W (rowI w0)).mono fun e W' ⟨he, bel⟩ => ?_
  subst he
  exact ⟨_, rfl, _, _, _, [], _, [], hW', trodAll_mk1 (shut_bool Try.underlying4 _), (trodAll_cons_mk (Below.trod laidOut (by kernel_rfl) (of_decide_eq_true (by kernel_rfl)) k0 bel lt0) (trodAll_cons_mk (shut_bool Try.underlying4 _) trodAll_mk0)), rfl, bel.frame _, fun h => by cases h⟩
theorem over : Rows.sessPlaysRow.holds Try.pinned (OpenSpec.ofChange Rows.sessPlaysSpec) :=
  OpenClaim.holds_of_wide 6 Try.f6 rfl rfl rfl rfl rfl rfl rfl ⟨rfl, rfl, rfl, rfl, rfl⟩ rfl rfl rfl rfl rfl (by kernel_rfl) Try.func6 (by kernel_rfl)
    (of_decide_eq_true (by kernel_rfl)) (by unfold Func.isWrapper; first | (rw [if_pos (by decide +kernel)]; kernel_rfl) | (rw [if_neg (by decide +kernel)]; exact ⟨rfl, rfl⟩))
    (fun os started H enc _ => lifted os started H enc)
theorem proved : Rows.SessPlaysSaid := over
end Go.Proofs.Ytjpgnipjgonplaa.sessPlays
namespace Go.Proofs.Ytjpgnipjgonplaa
/-- The row, under a short name, for the claim. -/
theorem sessPlays_holds : Rows.SessPlaysSaid := sessPlays.proved
end Go.Proofs.Ytjpgnipjgonplaa
