/- Texts of this claim, merged by a program: Mrn Mrd Mrq Mrj Ogr O14a On Oq Or Ok Ov -/
import Derived.Deep.RegionLaw
import Derived.Laws.IdiomCopy
import Derived.Test.YthfplgfpodmphaaPc
namespace Go.Proofs.Ythfplgfpodmphaa.Ms
open Go.RowKit Go.Proofs.YthfplgfpodmphaaW.PrintWords Go.Proofs.YthfplgfpodmphaaW.PrintLast Go.Proofs.YthfplgfpodmphaaW.PrintMore
attribute [local go_sem] max2_int min2_int max_two min_two max_three min_three max_four min_four
set_option linter.unusedVariables false
set_option linter.unusedSimpArgs false
set_option maxRecDepth 100000

theorem R_row {α : Type} {d : Kd α} {e : Nat} {w : World} {base : Nat} {v : Value} {l : List α} (h : Kd.R d e w base (fun _ => True) v l) (hl : l ≠ []) : ∃ g c cur, v = .slice (some ⟨g, 0, none⟩) l.length c ∧ base ≤ g ∧ w.heap[g]? = some (.cells cur e (0, 0)) ∧ l.length ≤ c ∧ c ≤ maxLen ∧ cur.size = c * d.sz ∧ Reps (d.M w base (fun k => k ≠ g)) d.sz l (cur.toList.take (l.length * d.sz)) := by
 obtain ⟨_, inner, ho, hr⟩ := h
 rcases ho.2 with ⟨h', h0⟩ | ⟨g, cap, cur, rfl, hb, hg, h1, h2, h3, h4⟩
 ·
  exact absurd (List.eq_nil_of_length_eq_zero h0) hl
 ·
  refine ⟨g, cap, cur, rfl, hb, hg, h1, h2, h3, ?_⟩
  rw [h4]
  exact hr.imp_ (fun _ _ hp => d.M_mono (fun k hk hkg => hk.2 (by simp [Value.ownBlock, hkg])) hp)
/-- A row in block g that may be written: what its elements lead to lies from base on, and not in g. -/
def RowAt (g base : Nat) (l : List S32) (w : World) : Prop := ∃ cur, w.heap[g]? = some (.cells cur 42 (0, 0)) ∧ l.length * 2 ≤ cur.size ∧ Reps (k32.M w base (fun k => k ≠ g)) 2 l (cur.toList.take (l.length * 2))
theorem RowAt.get {g base i : Nat} {l : List S32} {w : World} (h : RowAt g base l w) (hi : i < l.length) : ∃ A0 c0 A1 c1, w.cell? ⟨g, i * 2, none⟩ = some (.slice A0 l[i].f0.length c0) ∧ w.cell? ⟨g, i * 2 + 1, none⟩ = some (.slice A1 l[i].f1.length c1) ∧ (∀ j, w.frozen? ⟨g, j, none⟩ = false) ∧ k32.M w base (fun k => k ≠ g) l[i] [.slice A0 l[i].f0.length c0, .slice A1 l[i].f1.length c1] := by
 obtain ⟨cur, hg, hs, hr⟩ := h
 have hM := hr.2 i l[i] (List.getElem?_eq_getElem hi)
 obtain ⟨u0, u1, hcs, hR0, hR1⟩ := k32_openM hM
 have hcell : ∀ j u, j < 2 → [u0, u1][j]? = some u → cur[i * 2 + j]? = some u := fun j u hj hu => by
  rw [← hcs, List.getElem?_take, if_pos hj, List.getElem?_drop, List.getElem?_take, if_pos (by omega), Array.getElem?_toList] at hu
  exact hu
 obtain ⟨A0, c0, rfl⟩ := Kd.R_slice hR0
 obtain ⟨A1, c1, rfl⟩ := Kd.R_slice hR1
 exact ⟨A0, c0, A1, c1, (cell_of_heap hg).1.trans (hcell 0 _ (by decide) rfl), (cell_of_heap hg).1.trans (hcell 1 _ (by decide) rfl), fun _ => (cell_of_heap hg).2, by rw [← hcs]; exact hM⟩
theorem RowAt.keep {g base : Nat} {l : List S32} {w w' : World} (h : RowAt g base l w) (hb : base ≤ g) (hk : ∀ k, base ≤ k → k < w.heap.size → w'.heap[k]? = w.heap[k]?) : RowAt g base l w' := by
 obtain ⟨cur, hg, hs, hr⟩ := h
 exact ⟨cur, (hk g hb (blk_lt hg)).trans hg, hs, hr.imp_ (fun _ _ hy => M_keep3 hy (fun k a b _ => hk k a b))⟩
theorem RowAt.below {g base : Nat} {l : List S32} {w w' : World} (h : RowAt g base l w) (hb : base ≤ g) (hk : Below w.heap.size w w') : RowAt g base l w' := h.keep hb (fun k _ b => hk.block k b)
theorem chunk2 {cs : List Value} (h : cs.length = 2) (a b : Value) : (cs.set 0 a).set 1 b = [a, b] := by
 match cs, h with
 | [_, _], _ => rfl
theorem RowAt.set {g base i : Nat} {l : List S32} {w : World} {x : S32} {a0 a1 : Value} (h : RowAt g base l w) (hi : i < l.length) (hx : k32.M w base (fun k => k ≠ g) x [a0, a1]) : RowAt g base (l.set i x) ((w.setCell ⟨g, i * 2, none⟩ a0).setCell ⟨g, i * 2 + 1, none⟩ a1) := by
 obtain ⟨cur, hg, hs, hr⟩ := h
 have hk : ∀ k, k ≠ g → ((w.setCell ⟨g, i * 2, none⟩ a0).setCell ⟨g, i * 2 + 1, none⟩ a1).heap[k]? = w.heap[k]? := fun k e => by rw [keep_put _ _ _ _ _ e, keep_put _ _ _ _ _ e]
 refine ⟨_, heap_set_same _ (heap_set_same _ hg), by rw [List.length_set]; simpa only [Array.size_setIfInBounds] using hs, ?_⟩
 rw [List.length_set, take_setIf, take_setIf]
 generalize hin : cur.toList.take (l.length * 2) = inner at hr
 refine ⟨by simp [hr.1], fun j y hy => ?_⟩
 show k32.M _ base _ y (chunk 2 j _)
 by_cases hj : i = j
 ·
  subst hj
  rw [List.getElem?_set_self hi] at hy
  obtain rfl := Option.some.inj hy
  rw [chunk_set_eq (by decide), show i * 2 = i * 2 + 0 from rfl, chunk_set_eq (by decide), chunk2]
  ·
   exact M_keep3 hx (fun k _ _ e => hk k e)
  ·
   have := hr.1
   simp [chunk]
   omega
 ·
  rw [List.getElem?_set_ne hj] at hy
  rw [chunk_set_ne (by omega), chunk_set_ne (by omega)]
  exact M_keep3 (hr.2 j y hy) (fun k _ _ e => hk k e)
theorem RowAt.Fr {g base : Nat} {l : List S32} {w : World} (h : RowAt g base l w) (hb : base ≤ g) (hm : l.length ≤ maxLen) : Fr k32 42 w base (some ⟨g, 0, none⟩) l := by
 obtain ⟨cur, hg, hs, hr⟩ := h
 exact .inr ⟨g, cur, rfl, hb, hg, hs, hm, hr⟩
theorem shift_get (l : List S32) (y : S32) (i : Nat) (h0 : 0 < i) (hi : i ≤ l.length) : (l.take i ++ y :: l.drop i)[i - 1]'(by simp; omega) = rd_T32 l ((i - 1 : Nat) : Int) := by
 rw [List.getElem_append_left (by simp; omega), List.getElem_take, rd_get l (i - 1) (by omega)]
theorem shift_set (l : List S32) (y : S32) (i : Nat) (h0 : 0 < i) (hi : i ≤ l.length) : (l.take i ++ y :: l.drop i).set i (rd_T32 l ((i - 1 : Nat) : Int)) = l.take (i - 1) ++ rd_T32 l ((i - 1 : Nat) : Int) :: l.drop (i - 1) := by
 obtain ⟨m, rfl⟩ : ∃ m, i = m + 1 := ⟨i - 1, by omega⟩
 have hlt : m < l.length := by omega
 rw [Nat.add_sub_cancel, rd_get l m hlt, List.set_append_right _ _ (by simp; omega), List.length_take, Nat.min_eq_left hi, Nat.sub_self, List.set_cons_zero, List.take_add_one, List.getElem?_eq_getElem hlt, List.drop_eq_getElem_cons hlt, List.append_assoc]
 rfl
theorem shift_fin (l : List S32) (y x : S32) (i : Nat) (hi : i ≤ l.length) : (l.take i ++ y :: l.drop i).set i x = l.take i ++ x :: l.drop i := by
 rw [List.set_append_right _ _ (by simp; omega), List.length_take, Nat.min_eq_left hi, Nat.sub_self, List.set_cons_zero]
theorem lessB_eq (a b : List Int) : Op.bytesLess (strOfNums a).toList (strOfNums b).toList = lessB a b := by
 rw [Lib.strOfNums_toList, Lib.strOfNums_toList, lessB]
 generalize Lib.bytesOf a = x
 generalize Lib.bytesOf b = y
 induction x generalizing y with
 | nil => cases y <;> simp [Op.bytesLess, Lib.compareBytes]
 | cons a x ih =>
  cases y with
  | nil => simp [Op.bytesLess, Lib.compareBytes]
  | cons b y =>
   rw [Op.bytesLess, Lib.compareBytes, ih]
   by_cases h1 : a < b
   ·
    simp [h1]
   ·
    by_cases h2 : b < a
    ·
     have h3 : ¬ a = b := fun e => by rw [e] at h2; exact absurd h2 (UInt8.lt_irrefl b)
     simp [h1, h2, h3]
    ·
     have h3 : a = b := by
      apply UInt8.toNat_inj.1
      rw [UInt8.lt_iff_toNat_lt] at h1 h2
      omega
     simp [h3]
theorem tw_all {α : Type} (p : α → Bool) (l : List α) : ∀ x ∈ l.takeWhile p, p x = true := by
 induction l with
 | nil => intro x hx; cases hx
 | cons a l ih =>
  intro x hx
  rw [List.takeWhile_cons] at hx
  split at hx
  ·
   rename_i h
   rcases List.mem_cons.1 hx with rfl | hx
   ·
    exact h
   ·
    exact ih x hx
  ·
   cases hx
theorem no_key {l : List S32} {k : List Int} (h : (findR l k).2 = false) : ∀ j, j < l.length → sameB (rd_T32 l (j : Int)).f0 k = false := by
 intro j hj
 unfold findR at h
 split at h
 ·
  cases h
 ·
  rename_i hge
  have he : (l.takeWhile fun x => !sameB x.f0 k) = l := (List.takeWhile_prefix _).eq_of_length (Nat.le_antisymm (List.takeWhile_prefix (p := fun (x : S32) => !sameB x.f0 k)).length_le (by unfold eqI at hge; omega))
  have hm : l[j] ∈ l.takeWhile fun x => !sameB x.f0 k := by rw [he]; exact List.getElem_mem hj
  have := tw_all _ _ _ hm
  rw [rd_get l j hj]
  simpa using this
set_option maxHeartbeats 1000000 in
set_option maxRecDepth 100000 in
theorem rput_new (A B D : Option Addr) (c d f : Nat) (l : List S32) (k v : List Int) (w : World) (hr : Kd.C k32 w A l.length l) (hc : l.length ≤ c) (hn : l.length < 1000000) (hv : ∀ x ∈ l, x.f0.length < 140737488355328 ∧ x.f1.length < 140737488355328) (hk : Kd.C (Kd.int .u8) w B k.length k) (hd : k.length ≤ d) (hvr : Kd.C (Kd.int .u8) w D v.length v) (hvf : v.length ≤ f) (h8 : k.length ≤ 8) (h16 : v.length ≤ 16) (ht : (findR l k).2 = false) (hf : l.length < 8) :
  Calls Try.prog 52 #[.slice A l.length c, .slice B k.length d, .slice D v.length f] w (PutEnd w (l.take (findR l k).1 ++ ⟨k, v⟩ :: l.drop (findR l k).1) ⟨0, [], (l.length : Int) + 1⟩) := by
 obtain ⟨W0, hW0⟩ : ∃ W0, W0 = w.alloc (.cells #[.int .i64 0, .slice none 0 0, .int .i64 0] 34) := ⟨_, rfl⟩
 have hb0 : Below w.heap.size w W0 := by rw [hW0]; exact below_alloc (Below.refl _ _) _
 have hk0 : W0.heap[w.heap.size]? = some (.cells #[.int .i64 0, .slice none 0 0, .int .i64 0] 34 (0, 0)) := by rw [hW0]; exact heap_alloc_self w _
 have hs0 : W0.heap.size = w.heap.size + 1 := by rw [hW0]; simp
 have HI := Aside0.mk (pairs20 A c l W0 (Kd.C_below hr hb0) hc hn hv)
 have HB0 := Aside0.mk hb0
 have HK0 := Aside0.mk hk0
 have HS0 := Aside0.mk hs0
 have HR := Aside0.mk hr
 have HRc := Aside0.mk hc
 have HK := Aside0.mk hk
 have HD := Aside0.mk hd
 have HN := Aside0.mk hn
 have c1 : decide ((8 : Int) < (k.length : Int)) = false := decide_eq_false (by omega)
 have c2 : decide ((16 : Int) < (v.length : Int)) = false := decide_eq_false (by omega)
 have c3 : decide ((8 : Int) ≤ (l.length : Int)) = false := decide_eq_false (by omega)
 have HV := Aside0.mk hvr
 have HVF := Aside0.mk hvf
 clear hvr hvf
 have HT := Aside0.mk ht
 have HF8 := Aside0.mk hf
 clear hr hc hv hb0 hk0 hk hd hs0 hn
 go_enter Try.func52, Try.ntmps52
 go_wp2_with fail
 rw [← hW0]
 refine HI.out.mono ?_
 rintro e w1 ⟨A', c', rfl, hc', hS, hb1⟩
 clear HI
 have HS1 := Aside0.mk hS
 have HF1 := Aside0.mk (S_Fr hS)
 have HC1 := Aside0.mk hc'
 have HA1 := Aside0.mk (S_cap hS).2
 have HB1 := Aside0.mk hb1
 have HI := Aside0.mk (key22 A B c d l k w1 (Kd.C_below HR.out (below_then HB0.out HB0.out.size hb1)) HRc.out (Kd.C_below HK.out (below_then HB0.out HB0.out.size hb1)) HD.out)
 rw [keyR, ht, if_neg (by simp)] at HI
 clear hS hb1 hc'
 go_wp2_with fail
 refine HI.out.mono ?_
 rintro e w2 ⟨rfl, hb2⟩
 have BK : w2.heap[w.heap.size]? = some (.cells #[.int .i64 0, .slice none 0 0, .int .i64 0] 34 (0, 0)) := (hb2.block _ (by have := HB1.out.size; have := HS0.out; omega)).trans ((HB1.out.block _ (by have := HS0.out; omega)).trans HK0.out)
 have BKs := Aside0.mk BK
 have HB2 := Aside0.mk hb2
 clear BK hb2 HI
 have H8 := Aside0.mk (show _ ∧ _ from ⟨h8, h16⟩)
 clear ht hf h8 h16
 go_wp2_with (first | ((with_reducible refine gate_builtin (b := .append) (xs := #[.tmp 52, .tmp 54]) rfl ?_); at_builtin; refine Kd.R_append k32 (w0 := W0) W0.heap.size rfl (.tmp 52) (.tmp 54) 30 42 z32v 48 rfl Try.underlying30 info32 rfl (by decide) (by decide) (.slice A' l.length c') l z32 [.slice none 0 0, .slice none 0 0] (fun _ => True) (fun _ => False) rfl rfl ?aP (fun _ h => h.elim) (fun _ _ => trivial) ?aO ?aB ?aS ?aL ?_; (case aP => exact k32_mkM _ _ _ z32 (Kd.R_nil _ _ _ _ _) (Kd.R_nil _ _ _ _ _)); (case aO => exact Kd.R_below (Kd.S_R HS1.out) HB2.out); (case aB => exact below_then HB1.out HB1.out.size HB2.out); (case aS => exact Nat.le_trans HB1.out.size HB2.out.size); (case aL => have := HN.out; omega); intro v3 w3 hR3 hB3 hG3 _; have HR3 := Aside0.mk hR3; have HB3 := Aside0.mk hB3; have HG3 := Aside0.mk hG3; clear hR3 hB3 hG3))
 obtain ⟨g, c3, cur, hv3, hgb, hg3, hnc, hcm, hcs, hgr⟩ := R_row HR3.out (by simp)
 subst hv3
 have hrow : RowAt g W0.heap.size (l.take l.length ++ z32 :: l.drop l.length) w3 := by
  rw [List.take_length, List.drop_length]
  exact ⟨cur, hg3, by rw [hcs]; exact Nat.mul_le_mul_right _ hnc, hgr⟩
 have hne : w.heap.size ≠ g := by have := HS0.out; omega
 have BK3 : w3.heap[w.heap.size]? = some (.cells #[.int .i64 0, .slice none 0 0, .int .i64 0] 34 (0, 0)) := (HB3.out.block _ (by have := HS0.out; omega)).trans HK0.out
 have HROW := Aside0.mk hrow
 have HBK3 := Aside0.mk BK3
 have HBW := Aside0.mk (below_then HB0.out HB0.out.size HB3.out)
 have HGB := Aside0.mk (show _ ∧ _ ∧ _ ∧ _ from ⟨hgb, hnc, hcm, hne⟩)
 clear hgb hg3 hnc hcm hcs hgr hrow hne BK3 HR3 HG3
 rw [show (l ++ [z32]).length = l.length + 1 from by simp] at HGB ⊢
 go_loopw [11] (fun v11 w' => ∃ (i : Nat) (y : S32), v11 = .int .i64 i ∧ i ≤ l.length ∧ Aside0 (∀ j, i ≤ j → j < l.length → lessB k (rd_T32 l (j : Int)).f0 = true) ∧ Aside0 (RowAt g W0.heap.size (l.take i ++ y :: l.drop i) w') ∧ Aside0 (w'.heap[w.heap.size]? = some (.cells #[.int .i64 0, .slice none 0 0, .int .i64 0] 34 (0, 0))) ∧ Aside0 (Below w.heap.size w w')) (fun v11 _ => (intOf v11).toNat)
 case atStart => exact ⟨l.length, z32, rfl, Nat.le_refl _, ⟨fun j a b => absurd b (by omega)⟩, HROW, HBK3, HBW⟩
 case round =>
  clear HROW HBK3 HBW
  obtain ⟨i, y, rfl, hi, HL, HROW, HBK, HBW⟩ := hrel
  rcases Nat.eq_zero_or_pos i with rfl | h0
  ·
   go_wp2_with fail
   go_region
   have HF := Aside0.mk (find_f l k 0 hi (no_key HT.out) HL.out (.inl rfl))
   have HROWd := Aside0.mk (HROW.out.below HGB.out.1 (below_drew1 (Below.refl _ _)))
   have HBKd := Aside0.mk (show wr.drew.heap[w.heap.size]? = _ from HBK.out)
   have HBWd := Aside0.mk (below_drew1 HBW.out)
   generalize wr.drew = U1 at HROWd HBKd HBWd ⊢
   go_wp2_with fail
   refine (own23 B d k U1 (Kd.C_below HK.out HBWd.out) HD.out (by have := H8.out.1; omega)).mono ?_
   rintro e w4 ⟨va, rfl, ho4, hb4⟩
   obtain ⟨Ak, ck, rfl⟩ := Kd.R_slice ho4
   have HO4 := Aside0.mk ho4
   have HB4 := Aside0.mk hb4
   have HROW4 := Aside0.mk (HROWd.out.below HGB.out.1 hb4)
   have HBW4 := Aside0.mk (below_then HBWd.out HBWd.out.size hb4)
   clear ho4 hb4
   go_wp2_with fail
   refine (own23 D f v w4 (Kd.C_below HV.out HBW4.out) HVF.out (by have := H8.out.2; omega)).mono ?_
   rintro e w5 ⟨va, rfl, ho5, hb5⟩
   obtain ⟨Av, cv, rfl⟩ := Kd.R_slice ho5
   have HROW5 := Aside0.mk (HROW4.out.below HGB.out.1 hb5)
   have HBW5 := Aside0.mk (below_then HBW4.out HBW4.out.size hb5)
   have BK5 := (hb5.block _ (Nat.lt_of_lt_of_le (blk_lt HBKd.out) HB4.out.size)).trans ((HB4.out.block _ (blk_lt HBKd.out)).trans HBKd.out)
   obtain ⟨B0, b0, B1, b1, y0, y1, yf, _⟩ := HROW5.out.get (i := 0) (by simp <;> omega)
   have yf0 := yf (0)
   have yf1 := yf (1)
   have hgl := (World.block_lt_of_cell? U1 _ (HROWd.out.get (i := 0) (by simp <;> omega)).choose_spec.choose_spec.choose_spec.choose_spec.1)
   have hM : k32.M w5 W0.heap.size (fun k => k ≠ g) ⟨k, v⟩ [.slice Ak k.length ck, .slice Av v.length cv] := by
    have h0 := HBWd.out.size
    have hs0 := HS0.out
    have h4 := HB4.out.size
    have hgb := HGB.out.1
    have hgl : g < U1.heap.size := hgl
    refine k32_mkM _ _ _ ⟨k, v⟩ (Kd.R_lower (Kd.R_mono (Kd.R_bound (R_keep3 HO4.out (fun k a b _ => hb5.block k b))) (fun k hk => ?_)) (by omega : W0.heap.size ≤ U1.heap.size)) (Kd.R_lower (Kd.R_mono (Kd.R_bound ho5) (fun k hk => ?_)) (by omega : W0.heap.size ≤ w4.heap.size))
    ·
     have := hk.2.1; omega
    ·
     have := hk.2.1; omega
   have HROW6 := Aside0.mk (shift_fin l y ⟨k, v⟩ 0 hi ▸ HROW5.out.set (i := 0) (x := ⟨k, v⟩) (by simp <;> omega) hM)
   obtain ⟨W6, hW6⟩ : ∃ W6, W6 = (w5.setCell ⟨g, 0, none⟩ (.slice Ak k.length ck)).setCell ⟨g, 1, none⟩ (.slice Av v.length cv) := ⟨_, rfl⟩
   rw [← hW6] at HROW6
   have BK6 : W6.heap[w.heap.size]? = some (.cells #[.int .i64 0, .slice none 0 0, .int .i64 0] 34 (0, 0)) := by rw [hW6]; exact blk_far (blk_far BK5 HGB.out.2.2.2 _) HGB.out.2.2.2 _
   have hB6 : Below w.heap.size w W6 := by rw [hW6]; exact (HBW5.out.setCell (p := ⟨g, _, none⟩) (by have := HGB.out.1; have := HS0.out; show _ ≤ g; omega) _).setCell (p := ⟨g, _, none⟩) (by have := HGB.out.1; have := HS0.out; show _ ≤ g; omega) _
   obtain ⟨x0, x1, x2, x3⟩ := blk_cells3 BK6
   have x30 := x3 0
   have x31 := x3 1
   have x32 := x3 2
   have HW6 := Aside0.mk hW6
   have BKs6 := Aside0.mk BK6
   have HB6 := Aside0.mk hB6
   have e7 : (0 : Int) < (l.length : Int) + 1 := by omega
   have e8 : IntKind.i64.wrap ((l.length : Int) + 1) = (l.length : Int) + 1 := by rw [IntKind.wrap_i64]; have := HN.out; omega
   have e9 : 0 < l.length + 1 := by omega
   rw [hW6] at x0 x1 x2 x30 x31 x32
   clear hW6 BK6 hB6 x3 yf hM BK5 hb5 ho5
   go_wp2_with fail
   rw [← HW6.out]
   refine bodyPost_ret (results_tc rfl _ _ w.heap.size 34 #[.int .i64 0, .slice none 0 0, .int .i64 ((l.length : Int) + 1)] (0, 0) _ rfl (by refine blk_put (cs := #[.int .i64 0, .slice none 0 0, .int .i64 0]) ?_ 2 _ rfl; refine blk_put (cs := #[.int .i64 0, .slice none 0 0, .int .i64 0]) ?_ 1 _ rfl; refine blk_put (cs := #[.int .i64 0, .slice none 0 0, .int .i64 0]) ?_ 0 _ rfl; exact BKs6.out) Try.underlying34 rfl (by kernel_rfl)) rfl ?_
   have hf := HF.out
   have hp : (findR l k).1 = 0 := by rw [hf]
   rw [hp]
   have hl : (l.take 0 ++ (⟨k, v⟩ : S32) :: l.drop 0).length = l.length + 1 := by simp
   have hgb := HGB.out.1
   have hs0 := HS0.out
   refine ⟨some ⟨g, 0, none⟩, c3, _, by rw [hl]; rfl, by rw [hl]; exact HGB.out.2.1, ?_, Kd.R_nil _ _ _ _ _, ((HB6.out.setCell (Nat.le_refl _) _).setCell (Nat.le_refl _) _).setCell (Nat.le_refl _) _⟩
   refine Fr.lower (RowAt.Fr (HROW6.out.keep hgb (fun k a b => keep_put3 _ _ _ _ _ _ _ _ _ (by omega))) hgb (by rw [hl]; have := HGB.out.2.1; have := HGB.out.2.2.1; omega)) (by omega)
  ·
   have hlen : (l.take i ++ y :: l.drop i).length = l.length + 1 := by simp; omega
   have hbd := below_drew1 (Below.refl wr.heap.size wr)
   have HROWd := Aside0.mk (HROW.out.below HGB.out.1 hbd)
   obtain ⟨A0, c0, A1, c1, x0, x1, xf, xM⟩ := HROWd.out.get (i := i - 1) (by omega)
   obtain ⟨A2, c2, A3, c3', y0, y1, yf, _⟩ := HROWd.out.get (i := i) (by omega)
   rw [shift_get l y i h0 hi] at x0 x1 xM
   obtain ⟨_, _, he, xR0, xR1⟩ := k32_openM xM
   cases he
   have q1 := Kd.C_string (P := Try.prog) (A := A0) (c := c0) Try.underlying22 Try.underlying5 Try.underlying9 (by obtain ⟨A_, c_, he_, _, hC_⟩ := Kd.R_reads xR0; cases he_; exact hC_)
   have q2 := Kd.C_string (P := Try.prog) (A := B) (c := d) Try.underlying22 Try.underlying5 Try.underlying9 (Kd.C_below (Kd.C_below HK.out HBW.out) hbd)
   have e1 : IntKind.i64.wrap ((i : Int) - 1) = ((i - 1 : Nat) : Int) := by rw [IntKind.wrap_i64]; have := HN.out; omega
   have e2 : ((i - 1 : Nat) : Int) < (l.length : Int) + 1 := by omega
   have e3 : decide ((0 : Int) < (i : Int)) = true := decide_eq_true (by omega)
   have e4 : (0 : Int) < (i : Int) := by omega
   have e5 : i - 1 < l.length + 1 := by omega
   have XM := Aside0.mk xM
   have HBKd := Aside0.mk (show wr.drew.heap[w.heap.size]? = _ from HBK.out)
   have HBWd := Aside0.mk (below_drew1 HBW.out)
   have yf0 := yf (i * 2)
   have yf1 := yf (i * 2 + 1)
   clear hbd xR0 xR1 xM yf xf
   cases hs : lessB k (rd_T32 l ((i - 1 : Nat) : Int)).f0 with
   | true =>
    have hs' : Op.bytesLess (strOfNums k).toList (strOfNums (rd_T32 l ((i - 1 : Nat) : Int)).f0).toList = true := (lessB_eq _ _).trans hs
    have HL2 := Aside0.mk (show ∀ j, i - 1 ≤ j → j < l.length → lessB k (rd_T32 l (j : Int)).f0 = true from fun j a b => by
     rcases Nat.lt_or_ge j i with h | h
     ·
      obtain rfl : j = i - 1 := by omega
      exact hs
     ·
      exact HL.out j h b)
    have HROW2 := Aside0.mk (shift_set l y i h0 hi ▸ HROWd.out.set (i := i) (by omega) XM.out)
    have e7 : (i : Int) < (l.length : Int) + 1 := by omega
    have e9 : i < l.length + 1 := by omega
    clear hs
    go_wp2_with fail
    go_region
    clear q1 q2
    generalize wr.drew = U1 at HROWd HROW2 HBKd HBWd x0 x1 y0 y1 yf0 yf1 ⊢
    go_wp2_with fail
    go_roundw
    case rel => exact ⟨i - 1, _, by go_num, by omega, HL2, HROW2, ⟨blk_far (blk_far HBKd.out HGB.out.2.2.2 _) HGB.out.2.2.2 _⟩, ⟨(HBWd.out.setCell (p := ⟨g, _, none⟩) (by have := HGB.out.1; have := HS0.out; show _ ≤ g; omega) _).setCell (p := ⟨g, _, none⟩) (by have := HGB.out.1; have := HS0.out; show _ ≤ g; omega) _⟩⟩
    case measure => simp [intOf]; omega
   | false =>
    have hs' : Op.bytesLess (strOfNums k).toList (strOfNums (rd_T32 l ((i - 1 : Nat) : Int)).f0).toList = false := (lessB_eq _ _).trans hs
    have HS := Aside0.mk hs
    clear hs
    go_wp2_with fail
    go_region
    clear q1 q2 x0 x1 y0 y1 yf0 yf1 HROWd HBKd HBWd XM hs' e1 e2 e3 e4 e5
    have HF := Aside0.mk (find_f l k i hi (no_key HT.out) HL.out (.inr HS.out))
    have HROWd := Aside0.mk (HROW.out.below HGB.out.1 (below_drew1 (Below.refl _ _)))
    have HBKd := Aside0.mk (show wr.drew.heap[w.heap.size]? = _ from HBK.out)
    have HBWd := Aside0.mk (below_drew1 HBW.out)
    generalize wr.drew = U1 at HROWd HBKd HBWd ⊢
    go_wp2_with fail
    refine (own23 B d k U1 (Kd.C_below HK.out HBWd.out) HD.out (by have := H8.out.1; omega)).mono ?_
    rintro e w4 ⟨va, rfl, ho4, hb4⟩
    obtain ⟨Ak, ck, rfl⟩ := Kd.R_slice ho4
    have HO4 := Aside0.mk ho4
    have HB4 := Aside0.mk hb4
    have HROW4 := Aside0.mk (HROWd.out.below HGB.out.1 hb4)
    have HBW4 := Aside0.mk (below_then HBWd.out HBWd.out.size hb4)
    clear ho4 hb4
    go_wp2_with fail
    refine (own23 D f v w4 (Kd.C_below HV.out HBW4.out) HVF.out (by have := H8.out.2; omega)).mono ?_
    rintro e w5 ⟨va, rfl, ho5, hb5⟩
    obtain ⟨Av, cv, rfl⟩ := Kd.R_slice ho5
    have HROW5 := Aside0.mk (HROW4.out.below HGB.out.1 hb5)
    have HBW5 := Aside0.mk (below_then HBW4.out HBW4.out.size hb5)
    have BK5 := (hb5.block _ (Nat.lt_of_lt_of_le (blk_lt HBKd.out) HB4.out.size)).trans ((HB4.out.block _ (blk_lt HBKd.out)).trans HBKd.out)
    obtain ⟨B0, b0, B1, b1, y0, y1, yf, _⟩ := HROW5.out.get (i := i) (by simp <;> omega)
    have yf0 := yf (i * 2)
    have yf1 := yf (i * 2 + 1)
    have hgl := (World.block_lt_of_cell? U1 _ (HROWd.out.get (i := i) (by simp <;> omega)).choose_spec.choose_spec.choose_spec.choose_spec.1)
    have hM : k32.M w5 W0.heap.size (fun k => k ≠ g) ⟨k, v⟩ [.slice Ak k.length ck, .slice Av v.length cv] := by
     have h0 := HBWd.out.size
     have hs0 := HS0.out
     have h4 := HB4.out.size
     have hgb := HGB.out.1
     have hgl : g < U1.heap.size := hgl
     refine k32_mkM _ _ _ ⟨k, v⟩ (Kd.R_lower (Kd.R_mono (Kd.R_bound (R_keep3 HO4.out (fun k a b _ => hb5.block k b))) (fun k hk => ?_)) (by omega : W0.heap.size ≤ U1.heap.size)) (Kd.R_lower (Kd.R_mono (Kd.R_bound ho5) (fun k hk => ?_)) (by omega : W0.heap.size ≤ w4.heap.size))
     ·
      have := hk.2.1; omega
     ·
      have := hk.2.1; omega
    have HROW6 := Aside0.mk (shift_fin l y ⟨k, v⟩ i hi ▸ HROW5.out.set (i := i) (x := ⟨k, v⟩) (by simp <;> omega) hM)
    obtain ⟨W6, hW6⟩ : ∃ W6, W6 = (w5.setCell ⟨g, i * 2, none⟩ (.slice Ak k.length ck)).setCell ⟨g, i * 2 + 1, none⟩ (.slice Av v.length cv) := ⟨_, rfl⟩
    rw [← hW6] at HROW6
    have BK6 : W6.heap[w.heap.size]? = some (.cells #[.int .i64 0, .slice none 0 0, .int .i64 0] 34 (0, 0)) := by rw [hW6]; exact blk_far (blk_far BK5 HGB.out.2.2.2 _) HGB.out.2.2.2 _
    have hB6 : Below w.heap.size w W6 := by rw [hW6]; exact (HBW5.out.setCell (p := ⟨g, _, none⟩) (by have := HGB.out.1; have := HS0.out; show _ ≤ g; omega) _).setCell (p := ⟨g, _, none⟩) (by have := HGB.out.1; have := HS0.out; show _ ≤ g; omega) _
    obtain ⟨x0, x1, x2, x3⟩ := blk_cells3 BK6
    have x30 := x3 0
    have x31 := x3 1
    have x32 := x3 2
    have HW6 := Aside0.mk hW6
    have BKs6 := Aside0.mk BK6
    have HB6 := Aside0.mk hB6
    have e7 : (i : Int) < (l.length : Int) + 1 := by omega
    have e8 : IntKind.i64.wrap ((l.length : Int) + 1) = (l.length : Int) + 1 := by rw [IntKind.wrap_i64]; have := HN.out; omega
    have e9 : i < l.length + 1 := by omega
    rw [hW6] at x0 x1 x2 x30 x31 x32
    clear hW6 BK6 hB6 x3 yf hM BK5 hb5 ho5
    go_wp2_with fail
    rw [← HW6.out]
    refine bodyPost_ret (results_tc rfl _ _ w.heap.size 34 #[.int .i64 0, .slice none 0 0, .int .i64 ((l.length : Int) + 1)] (0, 0) _ rfl (by refine blk_put (cs := #[.int .i64 0, .slice none 0 0, .int .i64 0]) ?_ 2 _ rfl; refine blk_put (cs := #[.int .i64 0, .slice none 0 0, .int .i64 0]) ?_ 1 _ rfl; refine blk_put (cs := #[.int .i64 0, .slice none 0 0, .int .i64 0]) ?_ 0 _ rfl; exact BKs6.out) Try.underlying34 rfl (by kernel_rfl)) rfl ?_
    have hf := HF.out
    have hp : (findR l k).1 = i := by rw [hf]
    rw [hp]
    have hl : (l.take i ++ (⟨k, v⟩ : S32) :: l.drop i).length = l.length + 1 := by simp; omega
    have hgb := HGB.out.1
    have hs0 := HS0.out
    refine ⟨some ⟨g, 0, none⟩, c3, _, by rw [hl]; rfl, by rw [hl]; exact HGB.out.2.1, ?_, Kd.R_nil _ _ _ _ _, ((HB6.out.setCell (Nat.le_refl _) _).setCell (Nat.le_refl _) _).setCell (Nat.le_refl _) _⟩
    refine Fr.lower (RowAt.Fr (HROW6.out.keep hgb (fun k a b => keep_put3 _ _ _ _ _ _ _ _ _ (by omega))) hgb (by rw [hl]; have := HGB.out.2.1; have := HGB.out.2.2.1; omega)) (by omega)
set_option maxHeartbeats 1000000 in
set_option maxRecDepth 1000000 in
theorem rdel_some (A B : Option Addr) (c d : Nat) (l : List S32) (k : List Int) (w : World) (hr : Kd.C k32 w A l.length l) (hc : l.length ≤ c) (hn : l.length < 1000000) (hv : ∀ x ∈ l, x.f0.length < 140737488355328 ∧ x.f1.length < 140737488355328) (hk : Kd.C (Kd.int .u8) w B k.length k) (hd : k.length ≤ d) (ht : (findR l k).2 = true) :
    Calls Try.prog 54 #[.slice A l.length c, .slice B k.length d] w (PutEnd w (l.take (findR l k).1 ++ l.drop ((findR l k).1 + 1)) ⟨0, (rd_T32 l ((findR l k).1 : Int)).f1, 0⟩) := by
  obtain ⟨W0, hW0⟩ : ∃ W0, W0 = w.alloc (.cells #[.int .i64 0, .slice none 0 0, .int .i64 0] 34) := ⟨_, rfl⟩
  have hb0 : Below w.heap.size w W0 := by rw [hW0]; exact below_alloc (Below.refl _ _) _
  have hk0 : W0.heap[w.heap.size]? = some (.cells #[.int .i64 0, .slice none 0 0, .int .i64 0] 34 (0, 0)) := by rw [hW0]; exact heap_alloc_self w _
  have hs0 : W0.heap.size = w.heap.size + 1 := by rw [hW0]; simp
  have HI := Aside0.mk (pairs20 A c l W0 (Kd.C_below hr hb0) hc hn hv)
  have HB0 := Aside0.mk hb0
  have HK0 := Aside0.mk hk0
  have HS0 := Aside0.mk hs0
  have HR := Aside0.mk hr
  have HRc := Aside0.mk hc
  have HK := Aside0.mk hk
  have HD := Aside0.mk hd
  have HN := Aside0.mk hn
  clear hr hc hv hb0 hk0 hk hd hs0 hn
  go_enter Try.func54, Try.ntmps54
  go_wp2_with fail
  rw [← hW0]
  refine HI.out.mono ?_
  rintro e w1 ⟨A', c', rfl, hc', hS, hb1⟩
  clear HI
  have HS1 := Aside0.mk hS
  have HF1 := Aside0.mk (S_Fr hS)
  have HC1 := Aside0.mk hc'
  have HA1 := Aside0.mk (S_cap hS).2
  have HB1 := Aside0.mk hb1
  have HI := Aside0.mk (key22 A B c d l k w1 (Kd.C_below HR.out (below_then HB0.out HB0.out.size hb1)) HRc.out (Kd.C_below HK.out (below_then HB0.out HB0.out.size hb1)) HD.out)
  rw [keyR, ht, if_pos rfl] at HI
  clear hS hb1 hc'
  go_wp2_with fail
  refine HI.out.mono ?_
  rintro e w2 ⟨rfl, hb2⟩
  have BK : w2.heap[w.heap.size]? = some (.cells #[.int .i64 0, .slice none 0 0, .int .i64 0] 34 (0, 0)) := (hb2.block _ (by have := HB1.out.size; have := HS0.out; omega)).trans ((HB1.out.block _ (by have := HS0.out; omega)).trans HK0.out)
  have BKs := Aside0.mk BK
  have HB2 := Aside0.mk hb2
  clear BK hb2 HI
  have hlt : (findR l k).1 < l.length := findR_lt l k ht
  obtain ⟨g, cur, rfl, hgb, hg1, hnc, hcm, hcs', hgr⟩ := S_row HS1.out (fun h => by rw [h] at hlt; simp at hlt)
  have hcs' : cur.size = c' * 2 := hcs'
  have hgr : Reps (k32.M w1 W0.heap.size (fun k => k ≠ g)) 2 l (cur.toList.take (l.length * 2)) := hgr
  have hM := hgr.2 (findR l k).1 (rd_T32 l ((findR l k).1 : Int)) (by rw [rd_get l _ hlt]; exact List.getElem?_eq_getElem hlt)
  obtain ⟨u0, u1, hcs, hR0, hR1⟩ := k32_openM hM
  have hcell : ∀ j u, j < 2 → [u0, u1][j]? = some u → cur[(findR l k).1 * 2 + j]? = some u := fun j u hj hu => by
    rw [← hcs, List.getElem?_take, if_pos hj, List.getElem?_drop, List.getElem?_take, if_pos (show _ < l.length * 2 by omega), Array.getElem?_toList] at hu
    exact hu
  have hg2 : w2.heap[g]? = some (.cells cur 42 (0, 0)) := (HB2.out.block g (blk_lt hg1)).trans hg1
  obtain ⟨A1, c1', rfl⟩ := Kd.R_slice hR1
  have z1 : w2.cell? ⟨g, (findR l k).1 * 2 + 1, none⟩ = some (.slice A1 (rd_T32 l ((findR l k).1 : Int)).f1.length c1') := (cell_of_heap hg2).1.trans (hcell 1 _ (by decide) rfl)
  obtain ⟨i, hie⟩ : ∃ i, i = (findR l k).1 := ⟨_, rfl⟩
  rw [← hie] at z1 hlt hcell
  have hlt0 := hlt
  obtain ⟨i0, hi0, hzz⟩ := Option.map_eq_some_iff.1 info32
  simp only [Prod.mk.injEq] at hzz
  obtain ⟨hz0, hz1, hz2⟩ := hzz
  obtain ⟨news, hnews⟩ : ∃ news, news = (cur.toList.drop ((i + 1) * 2)).take ((l.length - (i + 1)) * 2) := ⟨_, rfl⟩
  have hlen : news.length = (l.length - (i + 1)) * 2 := by rw [hnews]; simp; omega
  have hone : ∀ v ∈ news, v.oneCell' = true := fun v hv => by
    rw [hnews] at hv
    obtain ⟨j, hj, rfl⟩ := List.mem_iff_getElem.1 hv
    simp only [List.length_take, List.length_drop, Array.length_toList] at hj
    rw [List.getElem_take, List.getElem_drop]
    refine reps_cells hgr _ (List.mem_iff_getElem.2 ⟨(i + 1) * 2 + j, by simp; omega, ?_⟩)
    rw [List.getElem_take]
  have hget : ∀ t u, news[t]? = some u → w2.drew.cell? ⟨g, (i + 1) * 2 + t, none⟩ = some u := fun t u hu => by
    rw [hnews, List.getElem?_take] at hu
    split at hu
    · rw [List.getElem?_drop, Array.getElem?_toList] at hu
      exact (cell_of_heap (w := w2.drew) hg2).1.trans hu
    · cases hu
  obtain ⟨Ad, hA, hsrc⟩ : ∃ Ad : Addr, (if c' = i + 1 then some (⟨g, 0, none⟩ : Addr) else some ⟨g, (i + 1) * 2, none⟩) = some Ad ∧ Hid (∀ t u, news[t]? = some u → w2.drew.cell? (Ad.add t) = some u) := by
    by_cases h : c' = i + 1
    · refine ⟨⟨g, 0, none⟩, by simp [h], fun t u hu => ?_⟩
      have h0 : news.length = 0 := by rw [hlen]; omega
      rw [List.length_eq_zero_iff.1 h0] at hu
      simp at hu
    · refine ⟨⟨g, (i + 1) * 2, none⟩, by simp only [if_neg h], fun t u hu => ?_⟩
      rw [Addr.add_lit]
      exact hget t u hu
  have s1 : Hid (news.length = (l.length - (i + 1)) * 2) := hlen
  have s2 : Hid (∀ u ∈ news, u.oneCell' = true) := hone
  have s3 : Hid (∀ t, t < news.length → (w2.drew.cell? ⟨g, 0 + i * 2 + t, none⟩).isSome = true ∧ w2.drew.frozen? ⟨g, 0 + i * 2 + t, none⟩ = false) := by
    intro t ht
    rw [hlen] at ht
    exact ⟨by rw [(cell_of_heap (w := w2.drew) hg2).1, Array.getElem?_eq_getElem (by omega)]; rfl, (cell_of_heap (w := w2.drew) hg2).2⟩
  obtain ⟨W1, hW1⟩ : ∃ W1, W1 = w2.drew.setCells g (0 + i * 2) news := ⟨_, rfl⟩
  have hr1 := setCells_row (w := w2.drew) (o := 0 + i * 2) hg2 (by rw [hlen]; omega) hone
  obtain ⟨cur1, hcur1⟩ : ∃ cur1, cur1 = (cur.toList.take (0 + i * 2) ++ news ++ cur.toList.drop (0 + i * 2 + news.length)).toArray := ⟨_, rfl⟩
  rw [← hcur1] at hr1
  have hne : w.heap.size ≠ g := by have := HS0.out; omega
  have hgW : W1.heap[g]? = some (.cells cur1 42 (0, 0)) := by rw [hW1, hr1]; exact setRow_heap w2.drew g cur cur1 42 (0, 0) hg2
  have hs1 : cur1.size = cur.size := by rw [hcur1]; simp [hlen]; omega
  have hbW : Below w.heap.size w W1 := by rw [hW1, hr1]; exact below_setRow (below_then (below_then HB0.out HB0.out.size HB1.out) (by have := HB1.out.size; have := HS0.out; omega) HB2.out).drew (by have := HS0.out; omega) _
  have hoW : ∀ k, k ≠ g → W1.heap[k]? = w2.heap[k]? := fun k hk => by rw [hW1, hr1]; exact setRow_other w2.drew g k _ hk
  have hzW : W1.heap.size = w2.heap.size := by rw [hW1, hr1]; simp
  have ht1 : cur1.toList.take ((i + (l.length - (i + 1))) * 2) = cur.toList.take (i * 2) ++ news := by
    rw [hcur1]
    show List.take _ (_ ++ _ ++ _) = _
    rw [List.take_append_of_le_length (by simp [hlen]; omega), Nat.zero_add, List.take_of_length_le (by simp [hlen]; omega)]
  have BK1 : W1.heap[w.heap.size]? = some (.cells #[.int .i64 0, .slice none 0 0, .int .i64 0] 34 (0, 0)) := (hoW _ hne).trans BKs.out
  obtain ⟨x0, x1, x2, x3⟩ := blk_cells3 BK1
  have x30 := x3 0
  have x31 := x3 1
  have x32 := x3 2
  have X := Aside0.mk (show _ ∧ _ ∧ _ ∧ _ ∧ _ ∧ _ from ⟨hgW, hs1, hbW, hoW, hzW, ht1⟩)
  have HG := Aside0.mk (show _ ∧ _ ∧ _ ∧ _ ∧ _ ∧ _ from ⟨hgb, hg1, hnc, hcm, hcs', hgr⟩)
  have hW : Hid (W1 = w2.drew.setCells g (0 + i * 2) news) := hW1
  have BKW := Aside0.mk BK1
  have HNE := Aside0.mk hne
  have HR1 := Aside0.mk hR1
  have HIE := Aside0.mk hie
  have HNW := Aside0.mk hnews
  have HLT := Aside0.mk hlt
  have ew : IntKind.i64.wrap ((i : Int) + 1) = (i : Int) + 1 := by rw [IntKind.wrap_i64]; have := HN.out; omega
  have e2 : ((i : Int) + 1).toNat = i + 1 := by omega
  have e3 : (0 : Int) ≤ (i : Int) + 1 := by omega
  have e4 : (i : Int) ≤ (c' : Int) := by omega
  have e5 : (i : Int) + 1 ≤ (l.length : Int) := by omega
  have e6 : i ≤ c' := by omega
  have e7 : (l.length : Int) ≤ (c' : Int) := by omega
  clear hW1 hr1 hcur1 hgW hs1 hbW hoW hzW ht1 BK1 x3 hgb hg1 hnc hcm hcs' hgr hM hcs hcell hR0 hR1 hg2 hlen hone hget hnews hne
  rw [← hie]
  clear hie
  go_wp2_with fail
  go_region_law (refine step_append_room rfl (.tmp 25) (.tmp 29) 30 rfl 42 i0 2 Try.underlying30 hi0 hz1 g 0 i c' (by simp [Act.eval, Act.put]) Ad (l.length - (i + 1)) (c' - (i + 1)) news (by simp [Act.eval, Act.put]) s1.out hsrc.out s2.out (by omega) s3.out ?_; rw [← hW.out])
  go_wp2_with fail
  refine bodyPost_ret (results_tc rfl _ _ w.heap.size 34 #[.int .i64 0, .slice A1 (rd_T32 l (i : Int)).f1.length c1', .int .i64 0] (0, 0) _ rfl (by refine blk_put (cs := #[.int .i64 0, .slice A1 (rd_T32 l (i : Int)).f1.length c1', .int .i64 0]) ?_ 2 _ rfl; refine blk_put (cs := #[.int .i64 0, .slice none 0 0, .int .i64 0]) ?_ 1 _ rfl; refine blk_put (cs := #[.int .i64 0, .slice none 0 0, .int .i64 0]) ?_ 0 _ rfl; exact BKW.out) Try.underlying34 rfl (by kernel_rfl)) rfl ?_
  obtain ⟨hgW, hs1, hbW, hoW, hzW, ht1⟩ := X.out
  obtain ⟨h1, h2, hnc, hcm, hcs', h5⟩ := HG.out
  have hs0 := HS0.out
  have h1s := HB1.out.size
  have h2s := HB2.out.size
  have hgl := blk_lt h2
  have hl : (l.take i ++ l.drop (i + 1)).length = i + (l.length - (i + 1)) := by simp; omega
  have hR1' := HR1.out
  rw [← HIE.out] at hR1' ⊢
  refine ⟨some ⟨g, 0, none⟩, c', _, by rw [hl]; rfl, by rw [hl]; omega, ?_, ?_, ((hbW.setCell (Nat.le_refl _) _).setCell (Nat.le_refl _) _).setCell (Nat.le_refl _) _⟩
  · refine .inr ⟨g, cur1, rfl, by omega, (keep_put3 _ _ _ _ _ _ _ _ _ HNE.out.symm).trans hgW, by rw [hl]; show _ * 2 ≤ _; omega, by rw [hl]; omega, ?_⟩
    rw [hl]
    show Reps _ 2 _ (List.take ((i + (l.length - (i + 1))) * 2) _)
    rw [ht1, HNW.out]
    have hR := reps_app (reps_take h5 i (by omega)) (reps_drop h5 (i + 1))
    rw [List.take_take, Nat.min_eq_left (by omega), List.drop_take, show l.length * 2 - (i + 1) * 2 = (l.length - (i + 1)) * 2 by omega] at hR
    exact hR.imp_ (fun y c hy => (k32.M_lower (show w.heap.size ≤ W0.heap.size by omega) (M_keep3 hy (fun k a b e => by rw [keep_put3 _ _ _ _ _ _ _ _ _ (by omega), hoW k e, HB2.out.block k (by omega)]))))
  · refine Kd.R_lower (Kd.R_mono (R_keep3 hR1' (fun k a b e => ?_)) (fun _ _ => trivial)) (show w.heap.size ≤ W0.heap.size by omega)
    rw [keep_put3 _ _ _ _ _ _ _ _ _ (by omega), hoW k e, HB2.out.block k (by omega)]
set_option maxHeartbeats 1000000 in
theorem rput_there (A B D : Option Addr) (c d f : Nat) (l : List S32) (k v : List Int) (w : World) (hr : Kd.C k32 w A l.length l) (hc : l.length ≤ c) (hn : l.length < 1000000) (hv : ∀ x ∈ l, x.f0.length < 140737488355328 ∧ x.f1.length < 140737488355328) (hk : Kd.C (Kd.int .u8) w B k.length k) (hd : k.length ≤ d) (hvr : Kd.C (Kd.int .u8) w D v.length v) (hvf : v.length ≤ f) (h8 : k.length ≤ 8) (h16 : v.length ≤ 16) (ht : (findR l k).2 = true) :
    Calls Try.prog 52 #[.slice A l.length c, .slice B k.length d, .slice D v.length f] w (PutEnd w (l.set (findR l k).1 ⟨(rd_T32 l ((findR l k).1 : Int)).f0, v⟩) ⟨0, (rd_T32 l ((findR l k).1 : Int)).f1, (l.length : Int)⟩) := by
  obtain ⟨W0, hW0⟩ : ∃ W0, W0 = w.alloc (.cells #[.int .i64 0, .slice none 0 0, .int .i64 0] 34) := ⟨_, rfl⟩
  have hb0 : Below w.heap.size w W0 := by rw [hW0]; exact below_alloc (Below.refl _ _) _
  have hk0 : W0.heap[w.heap.size]? = some (.cells #[.int .i64 0, .slice none 0 0, .int .i64 0] 34 (0, 0)) := by rw [hW0]; exact heap_alloc_self w _
  have hs0 : W0.heap.size = w.heap.size + 1 := by rw [hW0]; simp
  have HI := Aside0.mk (pairs20 A c l W0 (Kd.C_below hr hb0) hc hn hv)
  have HB0 := Aside0.mk hb0
  have HK0 := Aside0.mk hk0
  have HS0 := Aside0.mk hs0
  have HR := Aside0.mk hr
  have HRc := Aside0.mk hc
  have HK := Aside0.mk hk
  have HD := Aside0.mk hd
  have HN := Aside0.mk hn
  have c1 : decide ((8 : Int) < (k.length : Int)) = false := decide_eq_false (by omega)
  have c2 : decide ((16 : Int) < (v.length : Int)) = false := decide_eq_false (by omega)
  have HV := Aside0.mk hvr
  have HVF := Aside0.mk hvf
  clear hvr hvf
  clear hr hc hv hb0 hk0 hk hd hs0 hn
  go_enter Try.func52, Try.ntmps52
  go_wp2_with fail
  rw [← hW0]
  refine HI.out.mono ?_
  rintro e w1 ⟨A', c', rfl, hc', hS, hb1⟩
  clear HI
  have HS1 := Aside0.mk hS
  have HF1 := Aside0.mk (S_Fr hS)
  have HC1 := Aside0.mk hc'
  have HA1 := Aside0.mk (S_cap hS).2
  have HB1 := Aside0.mk hb1
  have HI := Aside0.mk (key22 A B c d l k w1 (Kd.C_below HR.out (below_then HB0.out HB0.out.size hb1)) HRc.out (Kd.C_below HK.out (below_then HB0.out HB0.out.size hb1)) HD.out)
  rw [keyR, ht, if_pos rfl] at HI
  clear hS hb1 hc'
  go_wp2_with fail
  refine HI.out.mono ?_
  rintro e w2 ⟨rfl, hb2⟩
  have BK : w2.heap[w.heap.size]? = some (.cells #[.int .i64 0, .slice none 0 0, .int .i64 0] 34 (0, 0)) := (hb2.block _ (by have := HB1.out.size; have := HS0.out; omega)).trans ((HB1.out.block _ (by have := HS0.out; omega)).trans HK0.out)
  have BKs := Aside0.mk BK
  have HB2 := Aside0.mk hb2
  clear BK hb2 HI
  have hlt : (findR l k).1 < l.length := findR_lt l k ht
  obtain ⟨g, cur, rfl, hgb, hg1, hnc, hcm, hcs', hgr⟩ := S_row HS1.out (fun h => by rw [h] at hlt; simp at hlt)
  have hcs' : cur.size = c' * 2 := hcs'
  have hgs : l.length * 2 ≤ cur.size := by omega
  have hgm : l.length ≤ maxLen := by omega
  have hgr : Reps (k32.M w1 W0.heap.size (fun k => k ≠ g)) 2 l (cur.toList.take (l.length * 2)) := hgr
  have hM := hgr.2 (findR l k).1 (rd_T32 l ((findR l k).1 : Int)) (by rw [rd_get l _ hlt]; exact List.getElem?_eq_getElem hlt)
  obtain ⟨u0, u1, hcs, hR0, hR1⟩ := k32_openM hM
  have hcell : ∀ j u, j < 2 → [u0, u1][j]? = some u → cur[(findR l k).1 * 2 + j]? = some u := fun j u hj hu => by
    rw [← hcs, List.getElem?_take, if_pos hj, List.getElem?_drop, List.getElem?_take, if_pos (show _ < l.length * 2 by omega), Array.getElem?_toList] at hu
    exact hu
  have hg2 : w2.heap[g]? = some (.cells cur 42 (0, 0)) := (HB2.out.block g (blk_lt hg1)).trans hg1
  obtain ⟨A1, c1', rfl⟩ := Kd.R_slice hR1
  have z1 : w2.cell? ⟨g, (findR l k).1 * 2 + 1, none⟩ = some (.slice A1 (rd_T32 l ((findR l k).1 : Int)).f1.length c1') := (cell_of_heap hg2).1.trans (hcell 1 _ (by decide) rfl)
  have HG := Aside0.mk (show _ ∧ _ ∧ _ ∧ _ ∧ _ from ⟨hgb, hg1, hgs, hgm, hgr⟩)
  have HC := Aside0.mk hcell
  have HR0 := Aside0.mk hR0
  have HR1 := Aside0.mk hR1
  have HG2 := Aside0.mk hg2
  have HLT := Aside0.mk hlt
  clear hgb hg1 hnc hcm hcs' hgs hgm hgr hM hcs hcell hR0 hR1 hg2
  go_wp2_with fail
  refine (own23 D f v w2 (Kd.C_below (Kd.C_below HV.out (below_then HB0.out HB0.out.size HB1.out)) HB2.out) HVF.out (by omega)).mono ?_
  rintro e w3 ⟨va, rfl, ho, hb3⟩
  obtain ⟨Av, cv, rfl⟩ := Kd.R_slice ho
  have hg3 : w3.heap[g]? = some (.cells cur 42 (0, 0)) := (hb3.block g (blk_lt HG2.out)).trans HG2.out
  have z3 : w3.cell? ⟨g, (findR l k).1 * 2 + 1, none⟩ = some (.slice A1 (rd_T32 l ((findR l k).1 : Int)).f1.length c1') := (cell_of_heap hg3).1.trans (HC.out 1 _ (by decide) rfl)
  have z4 : w3.frozen? ⟨g, (findR l k).1 * 2 + 1, none⟩ = false := (cell_of_heap hg3).2
  have BK3 : w3.heap[w.heap.size]? = some (.cells #[.int .i64 0, .slice none 0 0, .int .i64 0] 34 (0, 0)) := (hb3.block _ (blk_lt BKs.out)).trans BKs.out
  obtain ⟨W4, hW4⟩ : ∃ W4, W4 = w3.setCell ⟨g, (findR l k).1 * 2 + 1, none⟩ (.slice Av v.length cv) := ⟨_, rfl⟩
  have hne : w.heap.size ≠ g := by have := HG.out.1; have := HS0.out; omega
  have hg4 : W4.heap[g]? = some (.cells (cur.setIfInBounds ((findR l k).1 * 2 + 1) (.slice Av v.length cv)) 42 (0, 0)) := by rw [hW4]; exact heap_set_same _ hg3
  have BK4 : W4.heap[w.heap.size]? = some (.cells #[.int .i64 0, .slice none 0 0, .int .i64 0] 34 (0, 0)) := by rw [hW4]; exact blk_far BK3 hne _
  have hk4 : ∀ k, k ≠ g → W4.heap[k]? = w3.heap[k]? := fun k h => by rw [hW4]; exact Below.heap_setCell _ _ _ k h
  have hs4 : W4.heap.size = w3.heap.size := by rw [hW4]; simp [World.setCell]
  obtain ⟨x0, x1, x2, x3⟩ := blk_cells3 BK4
  have x30 := x3 0
  have x31 := x3 1
  have x32 := x3 2
  have HO := Aside0.mk ho
  have HB3 := Aside0.mk hb3
  have HG4 := Aside0.mk hg4
  have HK4 := Aside0.mk hk4
  have HS4 := Aside0.mk hs4
  have BKs4 := Aside0.mk BK4
  have HW4 := Aside0.mk hW4
  have HNE := Aside0.mk hne
  rw [hW4] at x0 x1 x2 x30 x31 x32
  clear BK3 ho hb3 x3 hg4 hk4 hs4 BK4 hg3 hne hW4
  go_wp2_with fail
  rw [← HW4.out]
  refine bodyPost_ret (results_tc rfl _ _ w.heap.size 34 #[.int .i64 0, .slice A1 (rd_T32 l ((findR l k).1 : Int)).f1.length c1', .int .i64 (l.length : Int)] (0, 0) _ rfl (by refine blk_put (cs := #[.int .i64 0, .slice A1 (rd_T32 l ((findR l k).1 : Int)).f1.length c1', .int .i64 0]) ?_ 2 _ rfl; refine blk_put (cs := #[.int .i64 0, .slice none 0 0, .int .i64 0]) ?_ 1 _ rfl; refine blk_put (cs := #[.int .i64 0, .slice none 0 0, .int .i64 0]) ?_ 0 _ rfl; exact BKs4.out) Try.underlying34 rfl (by kernel_rfl)) rfl ?_
  have hs0 := HS0.out
  have h1s := HB1.out.size
  have h2s := HB2.out.size
  have h3s := HB3.out.size
  have h4s := HS4.out
  obtain ⟨h1, h2, h3, h4, h5⟩ := HG.out
  have hB3 := below_then (below_then (below_then HB0.out HB0.out.size HB1.out) (by omega) HB2.out) (by omega) HB3.out
  have hB4 : Below w.heap.size w W4 := by rw [HW4.out]; exact hB3.setCell (p := ⟨g, _, none⟩) (by show w.heap.size ≤ g; omega) _
  have hgl := blk_lt h2
  refine ⟨some ⟨g, 0, none⟩, c', _, by rw [List.length_set]; rfl, by rw [List.length_set]; exact HC1.out, ?_, ?_, ((hB4.setCell (Nat.le_refl _) _).setCell (Nat.le_refl _) _).setCell (Nat.le_refl _) _⟩
  · refine Fr.lower (Fr_set1 (w := w1) (base := W0.heap.size) (u := .slice Av v.length cv) HLT.out h1 h3 h4 h5 (fun y cs hy => M_keep3 hy (fun k a b e => ?_)) (HC.out 0 _ (by decide) rfl) (k32_mkM _ _ _ ⟨(rd_T32 l ((findR l k).1 : Int)).f0, v⟩ (R_keep3 HR0.out (fun k a b e => ?_)) (Kd.R_lower (Kd.R_mono (Kd.R_bound (R_keep3 HO.out (fun k a b e => ?_))) (fun k hk => ?_)) (by omega : W0.heap.size ≤ w2.heap.size))) ?_) (by omega)
    · rw [keep_put3 _ _ _ _ _ _ _ _ _ (by omega), HK4.out k e, HB3.out.block k (by omega), HB2.out.block k (by omega)]
    · rw [keep_put3 _ _ _ _ _ _ _ _ _ (by omega), HK4.out k e, HB3.out.block k (by omega), HB2.out.block k (by omega)]
    · rw [keep_put3 _ _ _ _ _ _ _ _ _ (by omega), HK4.out k (by omega)]
    · have := hk.2.1; omega
    · rw [keep_put3 _ _ _ _ _ _ _ _ _ (by omega)]; exact HG4.out
  · refine Kd.R_lower (Kd.R_mono (R_keep3 HR1.out (fun k a b e => ?_)) (fun _ _ => trivial)) (by omega)
    rw [keep_put3 _ _ _ _ _ _ _ _ _ (by omega), HK4.out k e, HB3.out.block k (by omega), HB2.out.block k (by omega)]

theorem rput11 (A B D : Option Addr) (c d f : Nat) (l : List S32) (k v : List Int) (w : World) (hr : Kd.C k32 w A l.length l) (hc : l.length ≤ c) (hn : l.length < 1000000) (hv : ∀ x ∈ l, x.f0.length < 140737488355328 ∧ x.f1.length < 140737488355328) (hk : Kd.C (Kd.int .u8) w B k.length k) (hd : k.length ≤ d) (hvr : Kd.C (Kd.int .u8) w D v.length v) (hvf : v.length ≤ f) : Calls Try.prog 52 #[.slice A l.length c, .slice B k.length d, .slice D v.length f] w (PutEnd w (putR l k v).1 (putR l k v).2) := by
  unfold putR
  by_cases h8 : 8 < k.length
  · rw [if_pos (.inl h8)]; exact rput_long1 A B D c d f l k v w hr hc hn hv hk hd h8
  · by_cases h16 : 16 < v.length
    · rw [if_pos (.inr h16)]; exact rput_long2 A B D c d f l k v w hr hc hn hv hk hd (by omega) h16
    · rw [if_neg (by omega)]
      cases ht : (findR l k).2 with
      | true => rw [if_pos rfl]; exact rput_there A B D c d f l k v w hr hc hn hv hk hd hvr hvf (by omega) (by omega) ht
      | false =>
        rw [if_neg (by simp)]
        by_cases hf : 8 ≤ l.length
        · rw [if_pos hf]; exact rput_full A B D c d f l k v w hr hc hn hv hk hd (by omega) (by omega) ht hf
        · rw [if_neg hf]; exact rput_new A B D c d f l k v w hr hc hn hv hk hd hvr hvf (by omega) (by omega) ht (by omega)
theorem rdel13 (A B : Option Addr) (c d : Nat) (l : List S32) (k : List Int) (w : World) (hr : Kd.C k32 w A l.length l) (hc : l.length ≤ c) (hn : l.length < 1000000) (hv : ∀ x ∈ l, x.f0.length < 140737488355328 ∧ x.f1.length < 140737488355328) (hk : Kd.C (Kd.int .u8) w B k.length k) (hd : k.length ≤ d) : Calls Try.prog 54 #[.slice A l.length c, .slice B k.length d] w (PutEnd w (delR l k).1 (delR l k).2) := by
  unfold delR
  cases ht : (findR l k).2 with
  | true => rw [if_pos rfl]; exact rdel_some A B c d l k w hr hc hn hv hk hd ht
  | false => rw [if_neg (by simp)]; exact rdel_none A B c d l k w hr hc hn hv hk hd ht
end Go.Proofs.Ythfplgfpodmphaa.Ms
namespace Go.Proofs.Ythfplgfpodmphaa.Ob
open Go.RowKit Go.Proofs.YthfplgfpodmphaaW.PrintWords Go.Proofs.YthfplgfpodmphaaW.PrintLast Go.Proofs.YthfplgfpodmphaaW.PrintMore Go.Proofs.Ythfplgfpodmphaa.Ms
attribute [local go_sem] max2_int min2_int max_two min_two max_three min_three max_four min_four
set_option linter.unusedVariables false
set_option linter.unusedSimpArgs false
set_option maxRecDepth 100000
theorem own_f (l : List Int) (h : l.length < 140737488355328) : hocketref4_own.f l = some l := by simp [hocketref4_own.f, h]
theorem rows_l0 : ∀ (k i : Nat) (l : List (List Int)), i ≤ l.length → l.length < i + k → l.length < 1000000 → (∀ x ∈ l, x.length < 1000000) → hocketref4_rows.l0 k l (l.take i) (i : Int) = some l
  | 0, i, l, _, h, _, _ => absurd h (by omega)
  | k + 1, i, l, h1, h2, hn, hv => by
    simp only [hocketref4_rows.l0]
    by_cases hi : i < l.length
    · rw [if_pos (by omega), if_pos (by omega), rd_L1_get l i hi, own_f _ (by have := hv _ (List.getElem_mem hi); omega)]
      simp only [Option.bind_some]
      rw [if_pos (by rw [List.length_take]; omega), wrap_small _ (by omega) (by omega), show l.take i ++ [l[i]] = l.take (i + 1) from by simp]
      exact rows_l0 k (i + 1) l (by omega) (by omega) hn hv
    · obtain rfl : i = l.length := by omega
      rw [if_neg (by omega), List.take_length]
theorem rows_f (l : List (List Int)) (hn : l.length < 1000000) (hv : ∀ x ∈ l, x.length < 1000000) : hocketref4_rows.f (l.length + 1) l = some l := by
  unfold hocketref4_rows.f
  exact rows_l0 (l.length + 1) 0 l (by omega) (by omega) hn hv
theorem read44 (A0 : Option Addr) (c0 : Nat) (l0 : List Int) (w : World) (hr0 : Kd.C kb w A0 l0.length l0) (hc0 : l0.length ≤ c0) (hb0 : l0.length < 1000000) :
    Calls Try.prog 44 #[.slice A0 l0.length c0] w (T1 w ⟨0, l0, 0⟩) :=
  (hocketref4_Read.calls A0 c0 l0 0 l0 0 w hr0 hc0 (by unfold hocketref4_Read.f; rw [own_f _ (by omega)]; rfl)).mono (fun e w' ⟨v1, he, hR, hb⟩ => T1_R he hR hb)
theorem write45 (A0 : Option Addr) (c0 : Nat) (l0 : List Int) (A1 : Option Addr) (c1 : Nat) (l1 : List Int) (w : World) (hr0 : Kd.C kb w A0 l0.length l0) (hc0 : l0.length ≤ c0) (hb0 : l0.length < 1000000) (hr1 : Kd.C kb w A1 l1.length l1) (hc1 : l1.length ≤ c1) (hb1 : l1.length < 1000000) :
    Calls Try.prog 45 #[.slice A0 l0.length c0, .slice A1 l1.length c1] w (T2 kb w (writeR l0 l1).1 (writeR l0 l1).2) := by
  unfold writeR
  split
  · exact (hocketref4_Write.calls A0 c0 l0 A1 c1 l1 l0 1 [] 0 w hr0 hc0 hr1 hc1 (by unfold hocketref4_Write.f; rw [if_pos (by omega), own_f _ (by omega)]; rfl)).mono (fun e w' ⟨v0, v2, he, hR0, hR2, hb⟩ => T2_R he hR0 hR2 hb)
  · exact (hocketref4_Write.calls A0 c0 l0 A1 c1 l1 l1 0 [] 0 w hr0 hc0 hr1 hc1 (by unfold hocketref4_Write.f; rw [if_neg (by omega), own_f _ (by omega)]; rfl)).mono (fun e w' ⟨v0, v2, he, hR0, hR2, hb⟩ => T2_R he hR0 hR2 hb)
theorem cas46 (A0 : Option Addr) (c0 : Nat) (l0 : List Int) (A1 : Option Addr) (c1 : Nat) (l1 : List Int) (A2 : Option Addr) (c2 : Nat) (l2 : List Int) (w : World) (hr0 : Kd.C kb w A0 l0.length l0) (hc0 : l0.length ≤ c0) (hb0 : l0.length < 1000000) (hr1 : Kd.C kb w A1 l1.length l1) (hc1 : l1.length ≤ c1) (hr2 : Kd.C kb w A2 l2.length l2) (hc2 : l2.length ≤ c2) (hb2 : l2.length < 1000000) :
    Calls Try.prog 46 #[.slice A0 l0.length c0, .slice A1 l1.length c1, .slice A2 l2.length c2] w (T2 kb w (casR l0 l1 l2).1 (casR l0 l1 l2).2) := by
  unfold casR
  split
  · exact (hocketref4_Cas.calls A0 c0 l0 A1 c1 l1 A2 c2 l2 l0 1 [] 0 w hr0 hc0 hr1 hc1 hr2 hc2 (by unfold hocketref4_Cas.f; rw [if_pos (by omega), own_f _ (by omega)]; rfl)).mono (fun e w' ⟨v0, v2, he, hR0, hR2, hb⟩ => T2_R he hR0 hR2 hb)
  · split
    · rename_i he
      have he : (strOfNums l0).toList = (strOfNums l1).toList := beq_iff_eq.1 he
      exact (hocketref4_Cas.calls A0 c0 l0 A1 c1 l1 A2 c2 l2 l2 0 [] 0 w hr0 hc0 hr1 hc1 hr2 hc2 (by unfold hocketref4_Cas.f; rw [if_neg (by omega), if_pos he, own_f _ (by omega)]; rfl)).mono (fun e w' ⟨v0, v2, he, hR0, hR2, hb⟩ => T2_R he hR0 hR2 hb)
    · rename_i he
      have he : ¬ (strOfNums l0).toList = (strOfNums l1).toList := fun h => he (beq_iff_eq.2 h)
      exact (hocketref4_Cas.calls A0 c0 l0 A1 c1 l1 A2 c2 l2 l0 2 l0 0 w hr0 hc0 hr1 hc1 hr2 hc2 (by unfold hocketref4_Cas.f; rw [if_neg (by omega), if_neg he, own_f _ (by omega)]; rfl)).mono (fun e w' ⟨v0, v2, he, hR0, hR2, hb⟩ => T2_R he hR0 hR2 hb)
theorem push47 (A0 : Option Addr) (c0 : Nat) (l0 : List (List Int)) (A1 : Option Addr) (c1 : Nat) (l1 : List Int) (w : World) (hr0 : Kd.C kq w A0 l0.length l0) (hc0 : l0.length ≤ c0) (hb0 : l0.length < 1000000) (hv : ∀ x ∈ l0, x.length < 1000000) (hr1 : Kd.C kb w A1 l1.length l1) (hc1 : l1.length ≤ c1) (hb1 : l1.length < 1000000) :
    Calls Try.prog 47 #[.slice A0 l0.length c0, .slice A1 l1.length c1] w (T2 kq w (pushR l0 l1).1 (pushR l0 l1).2) := by
  unfold pushR
  split
  · exact (hocketref4_Push.calls (l0.length + 1) A0 c0 l0 A1 c1 l1 l0 1 [] 0 w hr0 hc0 hr1 hc1 (by unfold hocketref4_Push.f; rw [if_pos (by omega), rows_f _ hb0 hv]; rfl)).mono (fun e w' ⟨v0, v2, he, hR0, hR2, hb⟩ => T2_S he hR0 hR2 hb)
  · split
    · exact (hocketref4_Push.calls (l0.length + 1) A0 c0 l0 A1 c1 l1 l0 3 [] 0 w hr0 hc0 hr1 hc1 (by unfold hocketref4_Push.f; rw [if_neg (by omega), if_pos (by omega), rows_f _ hb0 hv]; rfl)).mono (fun e w' ⟨v0, v2, he, hR0, hR2, hb⟩ => T2_S he hR0 hR2 hb)
    · exact (hocketref4_Push.calls (l0.length + 1) A0 c0 l0 A1 c1 l1 (l0 ++ [l1]) 0 [] ((l0.length : Int) + 1) w hr0 hc0 hr1 hc1 (by unfold hocketref4_Push.f; rw [if_neg (by omega), if_neg (by omega), rows_f _ hb0 hv, Option.bind_some, own_f _ (by omega), Option.bind_some, if_pos (by omega), wrap_small _ (by omega) (by omega)])).mono (fun e w' ⟨v0, v2, he, hR0, hR2, hb⟩ => T2_S he hR0 hR2 hb)
theorem pop48 (A0 : Option Addr) (c0 : Nat) (l0 : List (List Int)) (w : World) (hr0 : Kd.C kq w A0 l0.length l0) (hc0 : l0.length ≤ c0) (hb0 : l0.length < 1000000) (hv : ∀ x ∈ l0, x.length < 1000000) :
    Calls Try.prog 48 #[.slice A0 l0.length c0] w (T2 kq w (popR l0).1 (popR l0).2) := by
  cases l0 with
  | nil => exact (hocketref4_Pop.calls 0 A0 c0 [] [] 4 [] 0 w hr0 hc0 (by unfold hocketref4_Pop.f; rw [if_pos (by simp)]; rfl)).mono (fun e w' ⟨v0, v2, he, hR0, hR2, hb⟩ => T2_S he hR0 hR2 hb)
  | cons x r => exact (hocketref4_Pop.calls (r.length + 1) A0 c0 (x :: r) r 0 x 0 w hr0 hc0 (by
      unfold hocketref4_Pop.f
      have hx : rd_L1 (x :: r) 0 = x := rfl
      have hr := rows_f r (by simp at hb0; omega) (fun y hy => hv y (List.mem_cons_of_mem _ hy))
      simp only [List.drop_succ_cons, List.drop_zero, hr, hx, own_f x (by have := hv x (List.mem_cons_self ..); omega), Option.bind_some]
      rw [if_neg (by simp <;> omega), if_pos (by simp <;> omega), if_pos (by simp <;> omega)])).mono (fun e w' ⟨v0, v2, he, hR0, hR2, hb⟩ => T2_S he hR0 hR2 hb)
theorem place_l0 : ∀ (k i : Nat) (l : List Int) (a : Int), i ≤ l.length → l.length < i + k → l.length < 1000000 → (∀ j (hj : j < i) (h2 : j < l.length), l[j] ≠ a) → hocketref4_place.l0 k l a (i : Int) = some (idxI l a)
  | 0, i, l, a, _, h, _, _ => absurd h (by omega)
  | k + 1, i, l, a, h1, h2, hn, hv => by
    simp only [hocketref4_place.l0]
    by_cases hi : i < l.length
    · rw [if_pos (by omega), if_pos (by omega), rd_get' l i hi]
      by_cases hx : l[i] = a
      · have he := idxR_eq l a i hi hx (fun j hj => hv j hj (by omega))
        rw [if_pos hx, idxI, he, if_pos hi]
      · rw [if_neg hx, wrap_small _ (by omega) (by omega)]
        exact place_l0 k (i + 1) l a (by omega) (by omega) hn (fun j hj h2 => by
          rcases Nat.lt_or_ge j i with h | h
          · exact hv j h h2
          · obtain rfl : j = i := by omega
            exact hx)
    · rw [if_neg (by omega), idxI, idxR_none l a (fun j hj => hv j (by omega) hj), if_neg (by omega)]
theorem place_f (l : List Int) (a : Int) (hn : l.length < 1000000) : hocketref4_place.f (l.length + 1) l a = some (idxI l a) := place_l0 _ 0 l a (by omega) (by omega) hn (fun j hj => absurd hj (by omega))
theorem take49 (A0 : Option Addr) (c0 : Nat) (l0 : List Int) (a : Int) (w : World) (hr0 : Kd.C ki w A0 l0.length l0) (hc0 : l0.length ≤ c0) (hb0 : l0.length < 1000000) : Calls Try.prog 49 #[.slice A0 l0.length c0, .int .i64 a] w (T2 ki w (takeR l0 a).1 (takeR l0 a).2) := by
  have hp := place_f l0 a hb0
  unfold takeR
  split
  · rename_i h
    exact (hocketref4_Take.calls (l0.length + 1) A0 c0 l0 a l0 6 [] 0 w hr0 hc0 (by
      unfold hocketref4_Take.f
      simp only [hp, idxI, if_pos h, Option.bind_some, List.length_nil, List.nil_append, hocketref4_bad.f]
      rw [if_pos (by omega), if_pos (by omega)])).mono (fun e w' ⟨v0, v2, he, hR0, hR2, hb⟩ => T2_R he hR0 hR2 hb)
  · rename_i h
    split
    · exact (hocketref4_Take.calls (l0.length + 1) A0 c0 l0 a l0 3 [] 0 w hr0 hc0 (by
        unfold hocketref4_Take.f
        simp only [hp, idxI, if_neg h, Option.bind_some, List.length_nil, List.nil_append, hocketref4_bad.f]
        rw [if_pos (by omega), if_neg (by omega), if_pos (by omega)])).mono (fun e w' ⟨v0, v2, he, hR0, hR2, hb⟩ => T2_R he hR0 hR2 hb)
    · exact (hocketref4_Take.calls (l0.length + 1) A0 c0 l0 a (l0 ++ [a]) 0 [] (l0.length : Int) w hr0 hc0 (by
        unfold hocketref4_Take.f
        simp only [hp, idxI, if_neg h, Option.bind_some, List.length_nil, List.nil_append, hocketref4_bad.f]
        rw [if_pos (by omega), if_neg (by omega), if_neg (by omega), if_pos (by omega)])).mono (fun e w' ⟨v0, v2, he, hR0, hR2, hb⟩ => T2_R he hR0 hR2 hb)
theorem free50 (A0 : Option Addr) (c0 : Nat) (l0 : List Int) (a : Int) (w : World) (hr0 : Kd.C ki w A0 l0.length l0) (hc0 : l0.length ≤ c0) (hb0 : l0.length < 1000000) : Calls Try.prog 50 #[.slice A0 l0.length c0, .int .i64 a] w (T2 ki w (freeR l0 a).1 (freeR l0 a).2) := by
  have hp := place_f l0 a hb0
  unfold freeR
  split
  · rename_i h
    have hw : wrap64 ((idxR l0 a : Int) + 1) = (idxR l0 a : Int) + 1 := wrap_small _ (by omega) (by omega)
    have ht1 : ((idxR l0 a : Int)).toNat = idxR l0 a := by omega
    have ht2 : ((idxR l0 a : Int) + 1).toNat = idxR l0 a + 1 := by omega
    have hlt : (l0.take (idxR l0 a)).length = idxR l0 a := by rw [List.length_take]; omega
    have hld : (l0.drop (idxR l0 a + 1)).length = l0.length - (idxR l0 a + 1) := List.length_drop
    have hf : ∀ q, (if ((dropR l0 a).length : Int) = 0 then some (([] : List Int), (0 : Int), ([] : List Int), (-1 : Int)) else if 0 < ((dropR l0 a).length : Int) then some (dropR l0 a, 0, ([] : List Int), rd (dropR l0 a) 0) else none) = some q → hocketref4_Free.f (l0.length + 1) l0 a = some q := by
      intro q hq
      unfold hocketref4_Free.f
      simp only [hp, idxI, if_pos h, Option.bind_some, List.length_nil, List.nil_append, hw, ht1, ht2]
      rw [if_neg (by omega), if_pos (by omega), if_pos (by omega), if_pos (by omega), if_pos (by omega), if_pos (by omega), if_pos (by omega)]
      exact hq
    cases hd : dropR l0 a with
    | nil =>
      rw [hd] at hf
      exact (hocketref4_Free.calls (l0.length + 1) A0 c0 l0 a [] 0 [] (-1) w hr0 hc0 (hf _ (by simp))).mono (fun e w' ⟨v0, v2, he, hR0, hR2, hb⟩ => T2_R he hR0 hR2 hb)
    | cons x r =>
      rw [hd] at hf
      exact (hocketref4_Free.calls (l0.length + 1) A0 c0 l0 a (x :: r) 0 [] x w hr0 hc0 (hf _ (by rw [if_neg (by simp <;> omega), if_pos (by simp <;> omega)]; rfl))).mono (fun e w' ⟨v0, v2, he, hR0, hR2, hb⟩ => T2_R he hR0 hR2 hb)
  · rename_i h
    exact (hocketref4_Free.calls (l0.length + 1) A0 c0 l0 a l0 5 [] 0 w hr0 hc0 (by
      unfold hocketref4_Free.f
      simp only [hp, idxI, if_neg h, Option.bind_some, List.length_nil, List.nil_append, hocketref4_bad.f]
      rw [if_pos (by omega), if_pos (by omega)])).mono (fun e w' ⟨v0, v2, he, hR0, hR2, hb⟩ => T2_R he hR0 hR2 hb)
theorem owner51 (A0 : Option Addr) (c0 : Nat) (l0 : List Int) (w : World) (hr0 : Kd.C ki w A0 l0.length l0) (hc0 : l0.length ≤ c0) : Calls Try.prog 51 #[.slice A0 l0.length c0] w (T1 w (ownerR l0)) := by
  cases l0 with
  | nil => exact (hocketref4_Owner.calls A0 c0 [] 5 [] 0 w hr0 hc0 (by simp [hocketref4_Owner.f, hocketref4_bad.f])).mono (fun e w' ⟨v1, he, hR, hb⟩ => T1_R he hR hb)
  | cons x r => exact (hocketref4_Owner.calls A0 c0 (x :: r) 0 [] x w hr0 hc0 (by unfold hocketref4_Owner.f; rw [if_neg (by simp <;> omega), if_pos (by simp <;> omega)]; rfl)).mono (fun e w' ⟨v1, he, hR, hb⟩ => T1_R he hR hb)
section
variable (A B D : Option Addr) (c d f : Nat) (l : List S32) (k v : List Int) (w : World) (hr : Kd.C km w A l.length l) (hc : l.length ≤ c) (hn : l.length < 1000000) (hv : ∀ x ∈ l, x.f0.length < 1000000 ∧ x.f1.length < 1000000) (hk : Kd.C kb w B k.length k) (hd : k.length ≤ d) (hvr : Kd.C kb w D v.length v) (hvf : v.length ≤ f)
include hr hc hn hv hk hd hvr hvf in
theorem put52 : Calls Try.prog 52 #[.slice A l.length c, .slice B k.length d, .slice D v.length f] w (T2 km w (putR l k v).1 (putR l k v).2) :=
  (rput11 A B D c d f l k v w hr hc hn (fun x hx => ⟨by have := (hv x hx).1; omega, by have := (hv x hx).2; omega⟩) hk hd hvr hvf).mono (fun e w' h => T2_Put h)
include hr hc hn hv hk hd in
theorem del54 : Calls Try.prog 54 #[.slice A l.length c, .slice B k.length d] w (T2 km w (delR l k).1 (delR l k).2) :=
  (rdel13 A B c d l k w hr hc hn (fun x hx => ⟨by have := (hv x hx).1; omega, by have := (hv x hx).2; omega⟩) hk hd).mono (fun e w' h => T2_Put h)
include hr hc hv hk hd in
theorem get53 : Calls Try.prog 53 #[.slice A l.length c, .slice B k.length d] w (T1 w (getR l k)) :=
  (rget14 A B c d l k w hr hc hk hd (fun x hx => by have := (hv x hx).2; omega)).mono (fun e w' h => T1_Res h)
end
def RowF {α : Type} (d : Kd α) (base : Nat) (g : Option Nat) (xs : List α) (v : Value) (W : World) : Prop := ∃ A c, v = .slice A xs.length c ∧ xs.length ≤ c ∧ Kd.F d W (fun k => base ≤ k ∧ some k ≠ g) A xs.length xs
def LitF (base : Nat) (g : Option Nat) (v : Value) (W : World) : Prop := ∃ gl, g = some gl ∧ v = .slice (some ⟨gl, 0, none⟩) 0 0 ∧ base ≤ gl ∧ W.heap[gl]? = some (.cells #[] 3 (0, 0))
theorem RowF.below {α : Type} {d : Kd α} {base : Nat} {g : Option Nat} {xs : List α} {v : Value} {W W' : World} (h : RowF d base g xs v W) (hb : Below W.heap.size W W') : RowF d base g xs v W' := by
  obtain ⟨A, c, e, hc, hF⟩ := h
  exact ⟨A, c, e, hc, Kd.F_below hF hb⟩
theorem RowF.lit {α : Type} {d : Kd α} {base : Nat} {xs : List α} {v : Value} {W : World} (h : RowF d base none xs v W) : RowF d base (some W.heap.size) xs v W := by
  obtain ⟨A, c, e, hc, hF⟩ := h
  exact ⟨A, c, e, hc, Kd.F_mono (Kd.F_bound hF) (fun k hk => ⟨hk.1.1, fun e => by cases e; have := hk.2; omega⟩)⟩
theorem LitF.below {base : Nat} {g : Option Nat} {v : Value} {W W' : World} (h : LitF base g v W) (hb : Below W.heap.size W W') : LitF base g v W' := by
  obtain ⟨gl, e, e2, h1, h2⟩ := h
  exact ⟨gl, e, e2, h1, blk_keep h2 hb⟩
def RowEnd {α : Type} (d : Kd α) (w : World) (xs : List α) (e : Ending) (w' : World) : Prop := ∃ A c, e = .returned (.slice A xs.length c) ∧ xs.length ≤ c ∧ Kd.F d w' (fun k => w.heap.size ≤ k) A xs.length xs ∧ Below w.heap.size w w'
theorem own40 (A0 : Option Addr) (c0 : Nat) (l0 : List Int) (w : World) (hr0 : Kd.C kb w A0 l0.length l0) (hc0 : l0.length ≤ c0) (hn : l0.length < 1000000) : Calls Try.prog 40 #[.slice A0 l0.length c0] w (RowEnd kb w l0) :=
  (hocketref4_own.calls A0 c0 l0 l0 w hr0 hc0 (own_f l0 (by omega))).mono (fun e w' ⟨v, he, hR, hb⟩ => by
    obtain ⟨A, c, rfl⟩ := Kd.R_slice hR
    exact ⟨A, c, he, (Kd.R_reads' hR).2.1, F_of_R hR, hb⟩)
theorem rows41 (A0 : Option Addr) (c0 : Nat) (l0 : List (List Int)) (w : World) (hr0 : Kd.C kq w A0 l0.length l0) (hc0 : l0.length ≤ c0) (hn : l0.length < 1000000) (hv : ∀ x ∈ l0, x.length < 1000000) : Calls Try.prog 41 #[.slice A0 l0.length c0] w (RowEnd kq w l0) :=
  (hocketref4_rows.calls (l0.length + 1) A0 c0 l0 l0 w hr0 hc0 (rows_f l0 hn hv)).mono (fun e w' ⟨v, he, hS, hb⟩ => by
    obtain ⟨A, c, rfl⟩ := Kd.S_slice hS
    exact ⟨A, c, he, (Kd.S_reads' hS).2.1, F_of_S hS, hb⟩)
theorem pairs42 (A0 : Option Addr) (c0 : Nat) (l0 : List S32) (w : World) (hr0 : Kd.C km w A0 l0.length l0) (hc0 : l0.length ≤ c0) (hn : l0.length < 1000000) (hv : ∀ x ∈ l0, x.f0.length < 1000000 ∧ x.f1.length < 1000000) : Calls Try.prog 42 #[.slice A0 l0.length c0] w (RowEnd km w l0) :=
  (pairs20 A0 c0 l0 w hr0 hc0 hn (fun x hx => ⟨by have := (hv x hx).1; omega, by have := (hv x hx).2; omega⟩)).mono (fun e w' ⟨A, c, he, hc, hS, hb⟩ => ⟨A, c, he, hc, F_of_S hS, hb⟩)
/-- append of a row to an empty one. -/
theorem app0 (W : World) (gl : Nat) (l : List Int) (A2 : Option Addr) (c2 : Nat) (hC : Kd.C ki W A2 l.length l) (hc : l.length ≤ c2) (hn : l.length < 1000000) (hg : W.heap[gl]? = some (.cells #[] 3 (0, 0))) :
    ∃ A c W', (∀ ty, (Builtin.append_ #[29, 29] ty #[.slice (some ⟨gl, 0, none⟩) 0 0, .slice A2 l.length c2]).run Try.prog W = .ok (.slice A l.length c) W') ∧ l.length ≤ c ∧ Below W.heap.size W W' ∧ Kd.F ki W' (fun k => W.heap.size ≤ k) A l.length l := by
  rcases Nat.eq_zero_or_pos l.length with h0 | h0
  · obtain rfl : l = [] := List.eq_nil_of_length_eq_zero h0
    obtain ⟨iv, hi, hzz⟩ := Option.map_eq_some_iff.1 info3
    refine ⟨some ⟨gl, 0, none⟩, 0, W, fun ty => ?_, Nat.le_refl _, Below.refl _ _, fun W' _ => ⟨rfl, by simp, fun h => absurd h (by simp)⟩⟩
    cases A2 with
    | none =>
      simp [Builtin.append_, run_underlying Try.underlying29, sizeOf, typeInfo, hi, Builtin.lenOf, run_firstCells_none]
      rfl
    | some a =>
      have h := run_append_room_cells (P := Try.prog) W 29 ty 3 iv Try.underlying29 hi gl 0 0 0 a 0 c2 [] (by simp) (by simp) (by simp) (Nat.le_refl _) (by simp) (by simp)
      have h2 : W.setCells gl 0 [] = W := rfl
      simpa [h2] using h
  · obtain ⟨ad, rfl, _⟩ := hC.2.2 h0
    obtain ⟨news, hr, hcell⟩ := ReadsRow.inner_ hC
    have hl : news.length = l.length * 1 := hr.1
    have hrun := fun ty => app_grow W 29 ty 3 (.int .i64 0) 1 8 Try.underlying29 info3 ⟨gl, 0, none⟩ 0 0 [] rfl (fun j v hj => by simp at hj) ad l.length c2 news hl hcell (by omega) (by omega) (by decide)
    simp only [Nat.zero_add] at hrun
    refine ⟨some ⟨W.heap.size, 0, none⟩, _, _, hrun, grownCap_ge _ _ _ _, below_alloc (below_drew (Below.refl _ _)) _, ?_⟩
    refine Kd.F_mono (F_block (ok := fun _ => False) (heap_alloc_self W.drew _) (by omega) ?_) (fun k hk => hk.elim False.elim (fun h => by rw [h]; exact Nat.le_refl _))
    have h2 : (([] : List Value) ++ news).length = l.length * ki.sz := by rw [List.nil_append, hl]; rfl
    have h3 := take_app3 [] news (Builtin.zeroCells (Value.int .i64 0).cells (grownCap W l.length 0 3 - l.length)) (l.length * ki.sz) h2
    have h4 : ∀ (c : Array Value), (#[] ++ news.toArray ++ c).toList.take (l.length * ki.sz) = news := fun c => by
      have := take_app3 [] news c (l.length * ki.sz) h2
      simpa using this
    rw [h4]
    exact hr.imp_ (fun x c h W'' _ => h)
theorem zero3 (w : World) : (zeroValue 3).run Try.prog w = .ok (.int .i64 0) w := by kernel_rfl
def DelEnd3 (g n c : Nat) (cur : Array Value) (ys : List Value) (w : World) (e : Ending) (w' : World) : Prop := e = .returned (.slice (some ⟨g, 0, none⟩) n c) ∧ (∃ cur', w'.heap[g]? = some (.cells cur' 3 (0, 0)) ∧ cur'.size = cur.size ∧ cur'.toList.take n = ys) ∧ (∀ k, k ≠ g → w'.heap[k]? = w.heap[k]?) ∧ w'.heap.size = w.heap.size ∧ ∀ B w0, Below B w0 w → B ≤ g → Below B w0 w'
set_option maxHeartbeats 4000000 in
set_option maxRecDepth 1000000 in
theorem del104 (g n i c : Nat) (cur : Array Value) (w : World) (hg : w.heap[g]? = some (.cells cur 3 (0, 0))) (hs : (n + 1) ≤ cur.size) (hn : n < 1000000) (hcc : n + 1 ≤ c) (hc63 : c ≤ 9223372036854775807) (hi : i ≤ n) (h1 : ∀ v ∈ cur.toList.take (n + 1), v.oneCell' = true) :
    Calls Try.prog 104 #[.slice (some ⟨g, 0, none⟩) (n + 1) c, .int .i64 (i : Nat), .int .i64 ((i : Int) + 1)] w (DelEnd3 g n c cur (cur.toList.take i ++ (cur.toList.drop (i + 1)).take (n - i)) w) := by
  obtain ⟨i0, hi0, hzz⟩ := Option.map_eq_some_iff.1 info3
  simp only [Prod.mk.injEq] at hzz
  obtain ⟨hz0, hz1, hz2⟩ := hzz
  obtain ⟨news, hnews⟩ : ∃ news, news = (cur.toList.drop (i + 1)).take (n - i) := ⟨_, rfl⟩
  have hlen : news.length = (n - i) := by rw [hnews]; simp; omega
  have hone : ∀ v ∈ news, v.oneCell' = true := fun v hv => by
    rw [hnews] at hv
    obtain ⟨j, hj, rfl⟩ := List.mem_iff_getElem.1 hv
    simp only [List.length_take, List.length_drop, Array.length_toList] at hj
    rw [List.getElem_take, List.getElem_drop]
    refine h1 _ (List.mem_iff_getElem.2 ⟨(i + 1) + j, by simp; omega, ?_⟩)
    rw [List.getElem_take]
  have hget : ∀ t u, news[t]? = some u → w.drew.cell? ⟨g, (i + 1) + t, none⟩ = some u := fun t u hu => by
    rw [hnews, List.getElem?_take] at hu
    split at hu
    · rw [List.getElem?_drop, Array.getElem?_toList] at hu
      exact (cell_of_heap (w := w.drew) hg).1.trans hu
    · cases hu
  obtain ⟨A, hA, hsrc⟩ : ∃ A : Addr, (if c = i + 1 then some (⟨g, 0, none⟩ : Addr) else some ⟨g, (i + 1), none⟩) = some A ∧ Hid (∀ t u, news[t]? = some u → w.drew.cell? (A.add t) = some u) := by
    by_cases h : c = i + 1
    · refine ⟨⟨g, 0, none⟩, by simp [h], fun t u hu => ?_⟩
      have h0 : news.length = 0 := by rw [hlen]; omega
      rw [List.length_eq_zero_iff.1 h0] at hu
      simp at hu
    · refine ⟨⟨g, (i + 1), none⟩, by simp only [if_neg h], fun t u hu => ?_⟩
      rw [Addr.add_lit]
      exact hget t u hu
  have s1 : Hid (news.length = (n - i) * 1) := by show news.length = (n - i) * 1; omega
  have s2 : Hid (∀ u ∈ news, u.oneCell' = true) := hone
  have s3 : Hid (∀ t, t < news.length → (w.drew.cell? ⟨g, 0 + i * 1 + t, none⟩).isSome = true ∧ w.drew.frozen? ⟨g, 0 + i * 1 + t, none⟩ = false) := by
    intro t ht
    rw [hlen] at ht
    exact ⟨by rw [(cell_of_heap (w := w.drew) hg).1, Array.getElem?_eq_getElem (by omega)]; rfl, (cell_of_heap (w := w.drew) hg).2⟩
  obtain ⟨W1, hW1⟩ : ∃ W1, W1 = w.drew.setCells g (0 + i * 1) news := ⟨_, rfl⟩
  have hr1 := setCells_row (w := w.drew) (o := 0 + i * 1) hg (by rw [hlen]; omega) hone
  obtain ⟨cur1, hcur1⟩ : ∃ cur1, cur1 = (cur.toList.take (0 + i * 1) ++ news ++ cur.toList.drop (0 + i * 1 + news.length)).toArray := ⟨_, rfl⟩
  rw [← hcur1] at hr1
  have hg1 : W1.heap[g]? = some (.cells cur1 3 (0, 0)) := by rw [hW1, hr1]; exact setRow_heap w.drew g cur cur1 3 (0, 0) hg
  have hs1 : cur1.size = cur.size := by rw [hcur1]; simp [hlen]; omega
  have hb1 : ∀ B w0, Below B w0 w → B ≤ g → Below B w0 W1 := fun B w0 h hB => by rw [hW1, hr1]; exact below_setRow h.drew hB _
  have ho1 : ∀ k, k ≠ g → W1.heap[k]? = w.heap[k]? := fun k hk => by rw [hW1, hr1]; exact setRow_other w.drew g k _ hk
  have hz1' : W1.heap.size = w.heap.size := by rw [hW1, hr1]; simp
  have ht1 : cur1.toList.take n = cur.toList.take i ++ news := by
    rw [hcur1]
    show List.take _ (_ ++ _ ++ _) = _
    rw [List.take_append_of_le_length (by simp [hlen]; omega), Nat.zero_add, Nat.mul_one, List.take_of_length_le (by simp [hlen]; omega)]
  have hcl : ∀ ty, (Builtin.clear_ #[29] ty #[.slice (some ⟨g, n, none⟩) 1 (c - n)]).run Try.prog W1 = .ok (.tuple #[]) (W1.setCells g n [.int .i64 0]) :=
    fun ty => run_clear_k W1 29 3 ty (.int .i64 0) Try.underlying29 zero3 g n 1 (c - n) _ (by kernel_rfl) (by decide) (by decide) (fun j hj => by
      have hj : j < 1 := hj
      rw [(cell_of_heap hg1).1, Array.getElem?_eq_getElem (by omega)]; rfl) (fun j hj => (cell_of_heap hg1).2)
  have hr2 := setCells_row (o := n) (vs := [.int .i64 0]) hg1 (by simp; omega) (by decide)
  have X := Aside0.mk (show _ ∧ _ ∧ _ ∧ _ ∧ _ ∧ _ from ⟨hg1, hs1, hb1, ho1, hz1', ht1⟩)
  have hW : Hid (W1 = w.drew.setCells g (0 + i * 1) news) := hW1
  have HR2 := Aside0.mk hr2
  have HS := Aside0.mk hs
  have e1 : (i : Int) ≤ (i : Int) + 1 := by omega
  have e2 : ((i : Int) + 1).toNat = i + 1 := by omega
  have e3 : (0 : Int) ≤ (i : Int) + 1 := by omega
  have e4 : (i : Int) + 1 ≤ ((n + 1 : Nat) : Int) := by omega
  have e10 : (i : Int) ≤ (n : Int) + 1 := by omega
  have e11 : (i : Int) + 1 ≤ (n : Int) + 1 := by omega
  have e12 : (i : Int) ≤ (n : Int) := by omega
  have e13 : (n : Int) ≤ (n : Int) + 1 := by omega
  have e5 : ¬ ((i : Int) = (i : Int) + 1) := by omega
  have e6 : n + 1 - (i + 1) = n - i := by omega
  have e7 : i + (n - i) = n := by omega
  have e8 : i ≤ n + 1 := by omega
  have e9 : n + 1 - n = 1 := by omega
  have f1 : (n : Int) + 1 ≤ (c : Int) := by omega
  have f2 : (n : Int) ≤ (c : Int) := by omega
  have f3 : ¬ c = n := by omega
  have f4 : (i : Int) ≤ (c : Int) := by omega
  have f5 : (i : Int) + 1 ≤ (c : Int) := by omega
  have f6 : i ≤ c := by omega
  have f7 : i + (n - i) ≤ c := by omega
  have HN := Aside0.mk hnews
  clear hW1 hr1 hcur1 hg1 hs1 hb1 ho1 hz1' ht1 hr2 hs hg h1 hlen hone hget hnews
  go_enter Try.func104, Try.ntmps104
  go_wp2_with fail
  go_region_law (refine step_append_room rfl (.tmp 22) (.tmp 25) 29 rfl 3 i0 1 Try.underlying29 hi0 hz1 g 0 i c (by simp [Act.eval, Act.put]) A (n - i) (c - (i + 1)) news (by simp [Act.eval, Act.put]) s1.out hsrc.out s2.out (by omega) s3.out ?_; rw [← hW.out])
  go_wp2
  go_ret
  obtain ⟨hg1, hs1, hb1, ho1, hz1', ht1⟩ := X.out
  have hs := HS.out
  show DelEnd3 g n c cur _ w _ (W1.setCells g n [.int .i64 0])
  rw [HR2.out]
  refine ⟨rfl, ⟨_, setRow_heap W1 g cur1 _ 3 (0, 0) hg1, by simp; omega, ?_⟩, fun k hk => (setRow_other W1 g k _ hk).trans (ho1 k hk), by simp [hz1'], fun B w0 h hB => below_setRow (hb1 B w0 h hB) hB _⟩
  show List.take _ (_ ++ _ ++ _) = _
  rw [List.append_assoc, List.take_append_of_le_length (by simp; omega), List.take_take, Nat.min_self, ht1, HN.out]
theorem ints_inner {w : World} {base : Nat} {ok : Nat → Prop} {l : List Int} {inner : List Value} (h : Reps (Kd.M ki w base ok) 1 l inner) : inner = l.map (fun x => Value.int .i64 x) := by
 apply List.ext_getElem?
 intro j
 rcases Nat.lt_or_ge j l.length with hj | hj
 ·
  have h1 := h.2 j l[j] (List.getElem?_eq_getElem hj)
  have h2 : (inner.drop (j * 1)).take 1 = [Value.int .i64 l[j]] := ki.K_of_M h1
  rw [Nat.mul_one] at h2
  rw [List.getElem?_map, List.getElem?_eq_getElem hj]
  have h3 := congrArg (fun q => q[0]?) h2
  simpa [List.getElem?_take, List.getElem?_drop] using h3
 ·
  rw [List.getElem?_eq_none (by have := h.1; omega), List.getElem?_eq_none (by simpa using hj)]
theorem ints_F {W : World} {g : Nat} {cur : Array Value} {l : List Int} (hg : W.heap[g]? = some (.cells cur 3 (0, 0))) (h : cur.toList.take l.length = l.map (fun x => Value.int .i64 x)) (hm : l.length < 9223372036854775807) : Kd.F ki W (fun k => False ∨ k = g) (some ⟨g, 0, none⟩) l.length l := by
 refine F_block hg hm ?_
 have h0 : l.length * ki.sz = l.length := Nat.mul_one _
 rw [h0, h]
 refine ⟨by simp [show ki.sz = 1 from rfl], fun j x hj => ?_⟩
 intro W' _
 show ((l.map (fun x => Value.int .i64 x)).drop (j * 1)).take 1 = [Value.int .i64 x]
 have hjl := (List.getElem?_eq_some_iff.1 hj).1
 rw [Nat.mul_one, List.drop_eq_getElem_cons (by simpa using hjl)]
 simp [(List.getElem?_eq_some_iff.1 hj).2]
set_option maxHeartbeats 1000000 in
theorem take_there (A0 : Option Addr) (c0 : Nat) (l0 : List Int) (a : Int) (w : World) (hr0 : Kd.C ki w A0 l0.length l0) (hc0 : l0.length ≤ c0) (hb0 : l0.length < 1000000) (ht : idxR l0 a < l0.length) :
  Calls Try.prog 78 #[.slice A0 l0.length c0, .int .i64 a] w (T2 ki w l0 ⟨6, [], 0⟩) := by
 have HT := Aside0.mk ht
 clear ht
 have HR0 := Aside0.mk hr0
 have HC0 := Aside0.mk hc0
 have HN := Aside0.mk hb0
 clear hr0 hc0 hb0
 have HB := Aside0.mk (Below.refl w.heap.size w)
 go_enter Try.func78, Try.ntmps78
 go_wp2_with fail
 generalize hV0 : World.alloc _ _ = V0
 obtain ⟨K0, hb_, SV0⟩ := al1 hV0
 clear hV0
 replace HB := HBs HB hb_
 clear hb_
 refine (clone75 A0 c0 l0 V0 (Kd.C_below HR0.out HB.out) HC0.out HN.out).mono ?_
 rintro e w1 ⟨v1, rfl, hR, hb_⟩
 obtain ⟨P0, p0, rfl⟩ := Kd.R_slice hR
 have HO := Aside0.mk hR
 have S1 := Aside0.mk hb_.size
 have F0 := Aside0.mk (Kd.F_mono (F_of_R hR) (fun k hk => (show w.heap.size + 1 ≤ k from by have h2 : V0.heap.size ≤ k := hk; have := SV0.out; omega)))
 clear hR
 replace HB := HBs HB hb_
 replace K0 := KB K0 hb_
 clear hb_
 have hcap := R_cap HO.out
 have HA := Aside0.mk hcap.2.2.1
 go_wp2_with fail
 refine (clip102 P0 p0 l0.length w1 hcap.1 hcap.2.1 hcap.2.2.1).mono ?_
 rintro e w1 ⟨rfl, rfl⟩
 clear hcap
 go_wp2_with fail
 refine (slices_Contains_int_int.calls (l0.length + 1) P0 l0.length l0 a true w1 (Kd.F_now F0.out) (Nat.le_refl _) (by rw [contains_f l0 a HN.out]; simp [HT.out])).mono ?_
 rintro e w2 ⟨rfl, hd⟩
 have hb_ := hd.below
 clear hd
 replace HB := HBs HB hb_
 replace K0 := KB K0 hb_
 replace F0 := FB F0 hb_
 have S2 := Aside0.mk hb_.size
 clear hb_
 obtain ⟨x0, x1, x2, x30, x31, x32⟩ := cel3 K0.out
 go_wp2_with fail
 clear x0 x1 x2 x30 x31 x32
 generalize hV3 : World.setCell (World.setCell (World.setCell w2 _ _) _ _) _ _ = V3
 have hge_ : w.heap.size ≤ w.heap.size := by omega
 have hst_ := st3 HB.out hge_ K0.out hV3
 replace HB := Aside0.mk hst_.1
 replace K0 := Aside0.mk hst_.2.1
 have e0_ : ∀ k_, (w.heap.size + 1 ≤ k_) → k_ ≠ w.heap.size := fun k_ h_ => by omega
 replace F0 := FS F0 hst_ e0_
 clear e0_
 have SV3 := Aside0.mk hst_.2.2.2
 clear hV3 hst_ hge_
 refine bodyPost_ret (results_tc rfl _ _ w.heap.size 34 #[.int .i64 6, .slice none 0 0, .int .i64 0] (0, 0) _ rfl K0.out Try.underlying34 rfl (by kernel_rfl)) rfl ?_
 exact ⟨P0, _, none, 0, rfl, Nat.le_refl _, Kd.F_mono F0.out (fun k hk => by have h2 : w.heap.size + 1 ≤ k := hk; show w.heap.size ≤ k; omega), Nat.le_refl _, Kd.F_nil _ _ _, HB.out⟩
set_option maxHeartbeats 1000000 in
theorem take_full (A0 : Option Addr) (c0 : Nat) (l0 : List Int) (a : Int) (w : World) (hr0 : Kd.C ki w A0 l0.length l0) (hc0 : l0.length ≤ c0) (hb0 : l0.length < 1000000) (ht : ¬ idxR l0 a < l0.length) (h5 : 5 ≤ l0.length) :
  Calls Try.prog 78 #[.slice A0 l0.length c0, .int .i64 a] w (T2 ki w l0 ⟨3, [], 0⟩) := by
 have HT := Aside0.mk ht
 have dc : decide ((5 : Int) ≤ (l0.length : Int)) = true := decide_eq_true (by omega)
 clear h5
 clear ht
 have HR0 := Aside0.mk hr0
 have HC0 := Aside0.mk hc0
 have HN := Aside0.mk hb0
 clear hr0 hc0 hb0
 have HB := Aside0.mk (Below.refl w.heap.size w)
 go_enter Try.func78, Try.ntmps78
 go_wp2_with fail
 generalize hV0 : World.alloc _ _ = V0
 obtain ⟨K0, hb_, SV0⟩ := al1 hV0
 clear hV0
 replace HB := HBs HB hb_
 clear hb_
 refine (clone75 A0 c0 l0 V0 (Kd.C_below HR0.out HB.out) HC0.out HN.out).mono ?_
 rintro e w1 ⟨v1, rfl, hR, hb_⟩
 obtain ⟨P0, p0, rfl⟩ := Kd.R_slice hR
 have HO := Aside0.mk hR
 have S1 := Aside0.mk hb_.size
 have F0 := Aside0.mk (Kd.F_mono (F_of_R hR) (fun k hk => (show w.heap.size + 1 ≤ k from by have h2 : V0.heap.size ≤ k := hk; have := SV0.out; omega)))
 clear hR
 replace HB := HBs HB hb_
 replace K0 := KB K0 hb_
 clear hb_
 have hcap := R_cap HO.out
 have HA := Aside0.mk hcap.2.2.1
 go_wp2_with fail
 refine (clip102 P0 p0 l0.length w1 hcap.1 hcap.2.1 hcap.2.2.1).mono ?_
 rintro e w1 ⟨rfl, rfl⟩
 clear hcap
 go_wp2_with fail
 refine (slices_Contains_int_int.calls (l0.length + 1) P0 l0.length l0 a false w1 (Kd.F_now F0.out) (Nat.le_refl _) (by rw [contains_f l0 a HN.out]; simp [HT.out])).mono ?_
 rintro e w2 ⟨rfl, hd⟩
 have hb_ := hd.below
 clear hd
 replace HB := HBs HB hb_
 replace K0 := KB K0 hb_
 replace F0 := FB F0 hb_
 have S2 := Aside0.mk hb_.size
 clear hb_
 obtain ⟨x0, x1, x2, x30, x31, x32⟩ := cel3 K0.out
 go_wp2_with fail
 clear x0 x1 x2 x30 x31 x32
 generalize hV3 : World.setCell (World.setCell (World.setCell w2 _ _) _ _) _ _ = V3
 have hge_ : w.heap.size ≤ w.heap.size := by omega
 have hst_ := st3 HB.out hge_ K0.out hV3
 replace HB := Aside0.mk hst_.1
 replace K0 := Aside0.mk hst_.2.1
 have e0_ : ∀ k_, (w.heap.size + 1 ≤ k_) → k_ ≠ w.heap.size := fun k_ h_ => by omega
 replace F0 := FS F0 hst_ e0_
 clear e0_
 have SV3 := Aside0.mk hst_.2.2.2
 clear hV3 hst_ hge_
 refine bodyPost_ret (results_tc rfl _ _ w.heap.size 34 #[.int .i64 3, .slice none 0 0, .int .i64 0] (0, 0) _ rfl K0.out Try.underlying34 rfl (by kernel_rfl)) rfl ?_
 exact ⟨P0, _, none, 0, rfl, Nat.le_refl _, Kd.F_mono F0.out (fun k hk => by have h2 : w.heap.size + 1 ≤ k := hk; show w.heap.size ≤ k; omega), Nat.le_refl _, Kd.F_nil _ _ _, HB.out⟩
set_option maxHeartbeats 1000000 in
theorem take_new (A0 : Option Addr) (c0 : Nat) (l0 : List Int) (a : Int) (w : World) (hr0 : Kd.C ki w A0 l0.length l0) (hc0 : l0.length ≤ c0) (hb0 : l0.length < 1000000) (ht : ¬ idxR l0 a < l0.length) (h5 : ¬ 5 ≤ l0.length) :
  Calls Try.prog 78 #[.slice A0 l0.length c0, .int .i64 a] w (T2 ki w (l0 ++ [a]) ⟨0, [], (l0.length : Int)⟩) := by
 have HT := Aside0.mk ht
 have dc : decide ((5 : Int) ≤ (l0.length : Int)) = false := decide_eq_false (by omega)
 clear h5
 clear ht
 have HR0 := Aside0.mk hr0
 have HC0 := Aside0.mk hc0
 have HN := Aside0.mk hb0
 clear hr0 hc0 hb0
 have HB := Aside0.mk (Below.refl w.heap.size w)
 go_enter Try.func78, Try.ntmps78
 go_wp2_with fail
 generalize hV0 : World.alloc _ _ = V0
 obtain ⟨K0, hb_, SV0⟩ := al1 hV0
 clear hV0
 replace HB := HBs HB hb_
 clear hb_
 refine (clone75 A0 c0 l0 V0 (Kd.C_below HR0.out HB.out) HC0.out HN.out).mono ?_
 rintro e w1 ⟨v1, rfl, hR, hb_⟩
 obtain ⟨P0, p0, rfl⟩ := Kd.R_slice hR
 have HO := Aside0.mk hR
 have S1 := Aside0.mk hb_.size
 have F0 := Aside0.mk (Kd.F_mono (F_of_R hR) (fun k hk => (show w.heap.size + 1 ≤ k from by have h2 : V0.heap.size ≤ k := hk; have := SV0.out; omega)))
 clear hR
 replace HB := HBs HB hb_
 replace K0 := KB K0 hb_
 clear hb_
 have hcap := R_cap HO.out
 have HA := Aside0.mk hcap.2.2.1
 go_wp2_with fail
 refine (clip102 P0 p0 l0.length w1 hcap.1 hcap.2.1 hcap.2.2.1).mono ?_
 rintro e w1 ⟨rfl, rfl⟩
 clear hcap
 go_wp2_with fail
 refine (slices_Contains_int_int.calls (l0.length + 1) P0 l0.length l0 a false w1 (Kd.F_now F0.out) (Nat.le_refl _) (by rw [contains_f l0 a HN.out]; simp [HT.out])).mono ?_
 rintro e w2 ⟨rfl, hd⟩
 have hb_ := hd.below
 clear hd
 replace HB := HBs HB hb_
 replace K0 := KB K0 hb_
 replace F0 := FB F0 hb_
 have S2 := Aside0.mk hb_.size
 clear hb_
 obtain ⟨x0, x1, x2, x30, x31, x32⟩ := cel3 K0.out
 go_wp2_with (
  (with_reducible refine gate_builtin (b := .append) (xs := #[.tmp 21, .tmp 23]) rfl ?_)
  at_builtin
  clear x0 x1 x2 x30 x31 x32
  generalize hV3 : World.alloc _ _ = V3
  obtain ⟨K1, hb_, SV3⟩ := al1 hV3
  clear hV3
  replace HB := HBs HB hb_
  replace K0 := KB K0 hb_
  replace F0 := FB F0 hb_
  clear hb_
  obtain ⟨g, c9, W4, hrun, hc9, hb_, hF9⟩ := app1 ki V3 29 3 (.int .i64 0) 1 8 rfl Try.underlying29 info3 (by decide) (by decide) _ P0 l0 F0.out HN.out HA.out ⟨w2.heap.size, 0, none⟩ 1 a [.int .i64 a] (fun j v hj => by rw [add_plain, (cell_of_heap K1.out).1, ← hj, ← Array.getElem?_toList]) FK_int
  have HR := Aside0.mk hrun
  have HC9 := Aside0.mk hc9
  have F9 := Aside0.mk (Kd.F_mono hF9 (fun k hk => hk.elim id (fun h => (show w.heap.size + 1 ≤ k from by have := S1.out; have := S2.out; have := SV3.out; have := SV0.out; omega))))
  clear hrun hc9 hF9
  clear K1
  replace HB := HBs HB hb_
  replace K0 := KB K0 hb_
  replace F0 := FB F0 hb_
  clear hb_
  obtain ⟨x0, x1, x2, x30, x31, x32⟩ := cel3 K0.out
  refine Lib.wpList_append_run _ rfl _ _ _ _ rfl _ _ rfl rfl _ _ (HR.out _) ?_)
 clear x0 x1 x2 x30 x31 x32
 generalize hV5 : World.setCell (World.setCell (World.setCell W4 _ _) _ _) _ _ = V5
 have hge_ : w.heap.size ≤ w.heap.size := by omega
 have hst_ := st3 HB.out hge_ K0.out hV5
 replace HB := Aside0.mk hst_.1
 replace K0 := Aside0.mk hst_.2.1
 have e0_ : ∀ k_, (w.heap.size + 1 ≤ k_) → k_ ≠ w.heap.size := fun k_ h_ => by omega
 replace F9 := FS F9 hst_ e0_
 clear e0_
 have SV5 := Aside0.mk hst_.2.2.2
 clear hV5 hst_ hge_
 refine bodyPost_ret (results_tc rfl _ _ w.heap.size 34 #[.int .i64 0, .slice none 0 0, .int .i64 (l0.length : Int)] (0, 0) _ rfl K0.out Try.underlying34 rfl (by kernel_rfl)) rfl ?_
 refine ⟨some ⟨g, 0, none⟩, c9, none, 0, by rw [List.length_append]; rfl, by rw [List.length_append]; exact HC9.out, Kd.F_mono F9.out (fun k hk => by have h2 : w.heap.size + 1 ≤ k := hk; show w.heap.size ≤ k; omega), Nat.le_refl _, Kd.F_nil _ _ _, HB.out⟩
set_option maxHeartbeats 1000000 in
theorem free_none (A0 : Option Addr) (c0 : Nat) (l0 : List Int) (a : Int) (w : World) (hr0 : Kd.C ki w A0 l0.length l0) (hc0 : l0.length ≤ c0) (hb0 : l0.length < 1000000) (ht : ¬ idxR l0 a < l0.length) :
  Calls Try.prog 79 #[.slice A0 l0.length c0, .int .i64 a] w (T2 ki w l0 ⟨5, [], 0⟩) := by
 have HT := Aside0.mk ht
 clear ht
 have HR0 := Aside0.mk hr0
 have HC0 := Aside0.mk hc0
 have HN := Aside0.mk hb0
 clear hr0 hc0 hb0
 have HB := Aside0.mk (Below.refl w.heap.size w)
 go_enter Try.func79, Try.ntmps79
 go_wp2_with fail
 generalize hV0 : World.alloc _ _ = V0
 obtain ⟨K0, hb_, SV0⟩ := al1 hV0
 clear hV0
 replace HB := HBs HB hb_
 clear hb_
 refine (clone75 A0 c0 l0 V0 (Kd.C_below HR0.out HB.out) HC0.out HN.out).mono ?_
 rintro e w1 ⟨v1, rfl, hR, hb_⟩
 obtain ⟨P0, p0, rfl⟩ := Kd.R_slice hR
 have HO := Aside0.mk hR
 have S1 := Aside0.mk hb_.size
 have F0 := Aside0.mk (Kd.F_mono (F_of_R hR) (fun k hk => (show w.heap.size + 1 ≤ k from by have h2 : V0.heap.size ≤ k := hk; have := SV0.out; omega)))
 clear hR
 replace HB := HBs HB hb_
 replace K0 := KB K0 hb_
 clear hb_
 go_wp2_with fail
 refine (slices_Index_int_int.calls (l0.length + 1) P0 p0 l0 a (-1) w1 (Kd.F_now F0.out) (R_cap HO.out).1 (by rw [index_f l0 a HN.out, idxI]; simp [HT.out])).mono ?_
 rintro e w2 ⟨rfl, hd⟩
 have hb_ := hd.below
 clear hd
 replace HB := HBs HB hb_
 replace K0 := KB K0 hb_
 replace F0 := FB F0 hb_
 have HO := Aside0.mk (R_keep3 HO.out (fun k a b e => hb_.block k b))
 have S2 := Aside0.mk hb_.size
 clear hb_
 obtain ⟨x0, x1, x2, x30, x31, x32⟩ := cel3 K0.out
 have hc1 := (R_cap HO.out).1
 have HC1 := Aside0.mk hc1
 clear hc1
 go_wp2_with fail
 clear x0 x1 x2 x30 x31 x32
 generalize hV3 : World.setCell (World.setCell (World.setCell w2 _ _) _ _) _ _ = V3
 have hge_ : w.heap.size ≤ w.heap.size := by omega
 have hst_ := st3 HB.out hge_ K0.out hV3
 replace HB := Aside0.mk hst_.1
 replace K0 := Aside0.mk hst_.2.1
 have e0_ : ∀ k_, (w.heap.size + 1 ≤ k_) → k_ ≠ w.heap.size := fun k_ h_ => by omega
 replace F0 := FS F0 hst_ e0_
 clear e0_
 have SV3 := Aside0.mk hst_.2.2.2
 clear hV3 hst_ hge_
 refine bodyPost_ret (results_tc rfl _ _ w.heap.size 34 #[.int .i64 5, .slice none 0 0, .int .i64 0] (0, 0) _ rfl K0.out Try.underlying34 rfl (by kernel_rfl)) rfl ?_
 exact ⟨P0, _, none, 0, rfl, HC1.out, Kd.F_mono F0.out (fun k hk => by have h2 : w.heap.size + 1 ≤ k := hk; show w.heap.size ≤ k; omega), Nat.le_refl _, Kd.F_nil _ _ _, HB.out⟩
set_option maxHeartbeats 1000000 in
theorem free_gone (A0 : Option Addr) (c0 : Nat) (l0 : List Int) (a : Int) (w : World) (hr0 : Kd.C ki w A0 l0.length l0) (hc0 : l0.length ≤ c0) (hb0 : l0.length < 1000000) (ht : idxR l0 a < l0.length) (hd0 : dropR l0 a = []) :
  Calls Try.prog 79 #[.slice A0 l0.length c0, .int .i64 a] w (T2 ki w ([] : List Int) ⟨0, [], -1⟩) := by
 have HT := Aside0.mk ht
 clear ht
 have HD := Aside0.mk hd0
 clear hd0
 have HR0 := Aside0.mk hr0
 have HC0 := Aside0.mk hc0
 have HN := Aside0.mk hb0
 clear hr0 hc0 hb0
 have HB := Aside0.mk (Below.refl w.heap.size w)
 go_enter Try.func79, Try.ntmps79
 go_wp2_with fail
 generalize hV0 : World.alloc _ _ = V0
 obtain ⟨K0, hb_, SV0⟩ := al1 hV0
 clear hV0
 replace HB := HBs HB hb_
 clear hb_
 refine (clone75 A0 c0 l0 V0 (Kd.C_below HR0.out HB.out) HC0.out HN.out).mono ?_
 rintro e w1 ⟨v1, rfl, hR, hb_⟩
 obtain ⟨P0, p0, rfl⟩ := Kd.R_slice hR
 have HO := Aside0.mk hR
 have S1 := Aside0.mk hb_.size
 have F0 := Aside0.mk (Kd.F_mono (F_of_R hR) (fun k hk => (show w.heap.size + 1 ≤ k from by have h2 : V0.heap.size ≤ k := hk; have := SV0.out; omega)))
 clear hR
 replace HB := HBs HB hb_
 replace K0 := KB K0 hb_
 clear hb_
 go_wp2_with fail
 refine (slices_Index_int_int.calls (l0.length + 1) P0 p0 l0 a ((idxR l0 a : Int)) w1 (Kd.F_now F0.out) (R_cap HO.out).1 (by rw [index_f l0 a HN.out, idxI]; simp [HT.out])).mono ?_
 rintro e w2 ⟨rfl, hd⟩
 have hb_ := hd.below
 clear hd
 replace HB := HBs HB hb_
 replace K0 := KB K0 hb_
 replace F0 := FB F0 hb_
 have HO := Aside0.mk (R_keep3 HO.out (fun k a b e => hb_.block k b))
 have S2 := Aside0.mk hb_.size
 clear hb_
 obtain ⟨x0, x1, x2, x30, x31, x32⟩ := cel3 K0.out
 have ht := HT.out
 have dneg : decide ((idxR l0 a : Int) < 0) = false := decide_eq_false (by omega)
 have e1 : IntKind.i64.wrap ((idxR l0 a : Int) + 1) = (idxR l0 a : Int) + 1 := by have := HN.out; rw [IntKind.wrap_i64]; omega
 obtain ⟨n, hn⟩ : ∃ n, l0.length = n + 1 := ⟨l0.length - 1, by omega⟩
 obtain ⟨_, inner, ho, hr⟩ := HO.out
 rcases ho.2 with ⟨h', h0⟩ | ⟨g, cap, cur, h', hbg, hg, h1, h2, h3, h4⟩
 ·
  omega
 simp only [Value.slice.injEq] at h'
 obtain ⟨rfl, _, rfl⟩ := h'
 have hin : inner = l0.map (fun x => Value.int .i64 x) := ints_inner hr
 have h3 : cur.size = p0 := h3.trans (Nat.mul_one _)
 have h4 : cur.toList.take l0.length = l0.map (fun x => Value.int .i64 x) := by rw [← hin, ← h4]; congr 1; exact (Nat.mul_one _).symm
 have HE := Aside0.mk h4
 have HN1 := Aside0.mk hn
 have HG := Aside0.mk (show _ ∧ _ ∧ _ ∧ _ from ⟨hbg, h1, h2, h3⟩)
 have hdel := del104 g n (idxR l0 a) p0 cur w2 hg (by rw [h3]; omega) (by have := HN.out; omega) (by omega) (by unfold maxLen at h2; omega) (by omega) (fun v hv => by rw [← hn, h4] at hv; obtain ⟨x, _, rfl⟩ := List.mem_map.1 hv; rfl)
 have HDL := Aside0.mk hdel
 clear hdel hin hr ho hg hbg h1 h2 h3 h4 HO
 rw [hn]
 clear hn ht F0
 go_wp2_with fail
 refine HDL.out.mono ?_
 rintro e w3 ⟨rfl, ⟨cur', hg', hs', ht'⟩, hk', hsz', hbl'⟩
 have hgw : w.heap.size + 1 ≤ g := by have := HG.out.1; have := SV0.out; omega
 replace HB := Aside0.mk (hbl' _ _ HB.out (by omega))
 clear x0 x1 x2 x30 x31 x32
 replace K0 := Aside0.mk ((hk' _ (by omega)).trans K0.out)
 have hq : cur'.toList.take n = (dropR l0 a).map (fun x => Value.int .i64 x) := by
  have ht := HT.out
  have hn := HN1.out
  have h5 : cur.toList.take (idxR l0 a) = (l0.take (idxR l0 a)).map (fun x => Value.int .i64 x) := by
   rw [List.map_take, ← HE.out, List.take_take, Nat.min_eq_left (by omega)]
  have h6 : (cur.toList.drop (idxR l0 a + 1)).take (n - idxR l0 a) = (l0.drop (idxR l0 a + 1)).map (fun x => Value.int .i64 x) := by
   rw [List.map_drop, ← HE.out, List.drop_take, hn, show n + 1 - (idxR l0 a + 1) = n - idxR l0 a from by omega]
  rw [ht', h5, h6, ← List.map_append]
  rfl
 have hl2 : (dropR l0 a).length = n := by have ht := HT.out; have hn := HN1.out; simp [dropR]; omega
 rw [← hl2] at hq
 have hF := ints_F hg' hq (by have := HN.out; have := HN1.out; omega)
 have F1 := Aside0.mk (Kd.F_mono hF (ok' := fun k => w.heap.size + 1 ≤ k) (fun k hk => hk.elim False.elim (fun h => by rw [h]; exact hgw)))
 have HG1 := Aside0.mk hgw
 have HL2 := Aside0.mk hl2
 have HCp := Aside0.mk HG.out.2.1
 clear hF hq hg' hs' ht' hk' hsz' hbl' hgw
 obtain ⟨x0, x1, x2, x30, x31, x32⟩ := cel3 K0.out
 have hn0 : n = 0 := by rw [← hl2, HD.out]; rfl
 subst hn0
 clear hl2
 go_wp2_with fail
 clear x0 x1 x2 x30 x31 x32
 generalize hV4 : World.setCell (World.setCell (World.setCell w3 _ _) _ _) _ _ = V4
 have hge_ : w.heap.size ≤ w.heap.size := by omega
 have hst_ := st3 HB.out hge_ K0.out hV4
 replace HB := Aside0.mk hst_.1
 replace K0 := Aside0.mk hst_.2.1
 have e0_ : ∀ k_, (w.heap.size + 1 ≤ k_) → k_ ≠ w.heap.size := fun k_ h_ => by omega
 replace F1 := FS F1 hst_ e0_
 clear e0_
 have SV4 := Aside0.mk hst_.2.2.2
 clear hV4 hst_ hge_
 refine bodyPost_ret (results_tc rfl _ _ w.heap.size 34 #[.int .i64 0, .slice none 0 0, .int .i64 (-1)] (0, 0) _ rfl K0.out Try.underlying34 rfl (by kernel_rfl)) rfl ?_
 exact ⟨none, 0, none, 0, rfl, Nat.le_refl _, Kd.F_nil _ _ _, Nat.le_refl _, Kd.F_nil _ _ _, HB.out⟩
set_option maxHeartbeats 1000000 in
theorem free_rest (A0 : Option Addr) (c0 : Nat) (l0 : List Int) (a : Int) (w : World) (hr0 : Kd.C ki w A0 l0.length l0) (hc0 : l0.length ≤ c0) (hb0 : l0.length < 1000000) (x : Int) (r : List Int) (ht : idxR l0 a < l0.length) (hd0 : dropR l0 a = x :: r) :
  Calls Try.prog 79 #[.slice A0 l0.length c0, .int .i64 a] w (T2 ki w (x :: r) ⟨0, [], x⟩) := by
 have HT := Aside0.mk ht
 clear ht
 have HD := Aside0.mk hd0
 clear hd0
 have HR0 := Aside0.mk hr0
 have HC0 := Aside0.mk hc0
 have HN := Aside0.mk hb0
 clear hr0 hc0 hb0
 have HB := Aside0.mk (Below.refl w.heap.size w)
 go_enter Try.func79, Try.ntmps79
 go_wp2_with fail
 generalize hV0 : World.alloc _ _ = V0
 obtain ⟨K0, hb_, SV0⟩ := al1 hV0
 clear hV0
 replace HB := HBs HB hb_
 clear hb_
 refine (clone75 A0 c0 l0 V0 (Kd.C_below HR0.out HB.out) HC0.out HN.out).mono ?_
 rintro e w1 ⟨v1, rfl, hR, hb_⟩
 obtain ⟨P0, p0, rfl⟩ := Kd.R_slice hR
 have HO := Aside0.mk hR
 have S1 := Aside0.mk hb_.size
 have F0 := Aside0.mk (Kd.F_mono (F_of_R hR) (fun k hk => (show w.heap.size + 1 ≤ k from by have h2 : V0.heap.size ≤ k := hk; have := SV0.out; omega)))
 clear hR
 replace HB := HBs HB hb_
 replace K0 := KB K0 hb_
 clear hb_
 go_wp2_with fail
 refine (slices_Index_int_int.calls (l0.length + 1) P0 p0 l0 a ((idxR l0 a : Int)) w1 (Kd.F_now F0.out) (R_cap HO.out).1 (by rw [index_f l0 a HN.out, idxI]; simp [HT.out])).mono ?_
 rintro e w2 ⟨rfl, hd⟩
 have hb_ := hd.below
 clear hd
 replace HB := HBs HB hb_
 replace K0 := KB K0 hb_
 replace F0 := FB F0 hb_
 have HO := Aside0.mk (R_keep3 HO.out (fun k a b e => hb_.block k b))
 have S2 := Aside0.mk hb_.size
 clear hb_
 obtain ⟨x0, x1, x2, x30, x31, x32⟩ := cel3 K0.out
 have ht := HT.out
 have dneg : decide ((idxR l0 a : Int) < 0) = false := decide_eq_false (by omega)
 have e1 : IntKind.i64.wrap ((idxR l0 a : Int) + 1) = (idxR l0 a : Int) + 1 := by have := HN.out; rw [IntKind.wrap_i64]; omega
 obtain ⟨n, hn⟩ : ∃ n, l0.length = n + 1 := ⟨l0.length - 1, by omega⟩
 obtain ⟨_, inner, ho, hr⟩ := HO.out
 rcases ho.2 with ⟨h', h0⟩ | ⟨g, cap, cur, h', hbg, hg, h1, h2, h3, h4⟩
 ·
  omega
 simp only [Value.slice.injEq] at h'
 obtain ⟨rfl, _, rfl⟩ := h'
 have hin : inner = l0.map (fun x => Value.int .i64 x) := ints_inner hr
 have h3 : cur.size = p0 := h3.trans (Nat.mul_one _)
 have h4 : cur.toList.take l0.length = l0.map (fun x => Value.int .i64 x) := by rw [← hin, ← h4]; congr 1; exact (Nat.mul_one _).symm
 have HE := Aside0.mk h4
 have HN1 := Aside0.mk hn
 have HG := Aside0.mk (show _ ∧ _ ∧ _ ∧ _ from ⟨hbg, h1, h2, h3⟩)
 have hdel := del104 g n (idxR l0 a) p0 cur w2 hg (by rw [h3]; omega) (by have := HN.out; omega) (by omega) (by unfold maxLen at h2; omega) (by omega) (fun v hv => by rw [← hn, h4] at hv; obtain ⟨x, _, rfl⟩ := List.mem_map.1 hv; rfl)
 have HDL := Aside0.mk hdel
 clear hdel hin hr ho hg hbg h1 h2 h3 h4 HO
 rw [hn]
 clear hn ht F0
 go_wp2_with fail
 refine HDL.out.mono ?_
 rintro e w3 ⟨rfl, ⟨cur', hg', hs', ht'⟩, hk', hsz', hbl'⟩
 have hgw : w.heap.size + 1 ≤ g := by have := HG.out.1; have := SV0.out; omega
 replace HB := Aside0.mk (hbl' _ _ HB.out (by omega))
 clear x0 x1 x2 x30 x31 x32
 replace K0 := Aside0.mk ((hk' _ (by omega)).trans K0.out)
 have hq : cur'.toList.take n = (dropR l0 a).map (fun x => Value.int .i64 x) := by
  have ht := HT.out
  have hn := HN1.out
  have h5 : cur.toList.take (idxR l0 a) = (l0.take (idxR l0 a)).map (fun x => Value.int .i64 x) := by
   rw [List.map_take, ← HE.out, List.take_take, Nat.min_eq_left (by omega)]
  have h6 : (cur.toList.drop (idxR l0 a + 1)).take (n - idxR l0 a) = (l0.drop (idxR l0 a + 1)).map (fun x => Value.int .i64 x) := by
   rw [List.map_drop, ← HE.out, List.drop_take, hn, show n + 1 - (idxR l0 a + 1) = n - idxR l0 a from by omega]
  rw [ht', h5, h6, ← List.map_append]
  rfl
 have hl2 : (dropR l0 a).length = n := by have ht := HT.out; have hn := HN1.out; simp [dropR]; omega
 rw [← hl2] at hq
 have hF := ints_F hg' hq (by have := HN.out; have := HN1.out; omega)
 have F1 := Aside0.mk (Kd.F_mono hF (ok' := fun k => w.heap.size + 1 ≤ k) (fun k hk => hk.elim False.elim (fun h => by rw [h]; exact hgw)))
 have HG1 := Aside0.mk hgw
 have HL2 := Aside0.mk hl2
 have HCp := Aside0.mk HG.out.2.1
 clear hF hq hg' hs' ht' hk' hsz' hbl' hgw
 obtain ⟨x0, x1, x2, x30, x31, x32⟩ := cel3 K0.out
 have hn0 : ¬ (n : Int) = 0 := by rw [← hl2, HD.out]; simp <;> omega
 have hn1 : (0 : Int) < (n : Int) := by omega
 have c0 : w3.cell? ⟨g, 0, none⟩ = some (.int .i64 x) := by
  have hF := F1.out
  rw [HD.out] at hF
  obtain ⟨ad, hA, hc⟩ := (Kd.F_now hF).2.2 (by simp)
  cases hA
  obtain ⟨c, hcl, hK, hcc⟩ := hc 0 x rfl
  have h9 := hcc 0 (.int .i64 x) (by rw [show c = [.int .i64 x] from hK]; rfl)
  simpa [add_plain] using h9
 have bd_ := below_drew1 (Below.refl w3.heap.size w3)
 clear hl2
 go_wp2_with fail
 go_region
 clear x0 x1 x2 x30 x31 x32
 clear c0 bd_
 generalize hV4 : World.setCell (World.setCell (World.setCell w3 _ _) _ _) _ _ = V4
 have hge_ : w.heap.size ≤ w.heap.size := by omega
 have hst_ := st3 HB.out hge_ K0.out hV4
 replace HB := Aside0.mk hst_.1
 replace K0 := Aside0.mk hst_.2.1
 have e0_ : ∀ k_, (w.heap.size + 1 ≤ k_) → k_ ≠ w.heap.size := fun k_ h_ => by omega
 replace F1 := FS F1 hst_ e0_
 clear e0_
 have SV4 := Aside0.mk hst_.2.2.2
 clear hV4 hst_ hge_
 have bd_ := below_drew1 (Below.refl V4.heap.size V4)
 replace HB := HBs HB bd_
 replace K0 := KB K0 bd_
 replace F1 := FB F1 bd_
 clear bd_
 go_wp2
 refine bodyPost_ret (results_tc rfl _ _ w.heap.size 34 #[.int .i64 0, .slice none 0 0, .int .i64 x] (0, 0) _ rfl K0.out Try.underlying34 rfl (by kernel_rfl)) rfl ?_
 have hF := F1.out
 have hl := HL2.out
 rw [HD.out] at hF hl
 refine ⟨some ⟨g, 0, none⟩, p0, none, 0, by rw [hl]; rfl, by rw [hl]; have := HCp.out; have := HN1.out; omega, Kd.F_mono hF (fun k hk => by have h2 : w.heap.size + 1 ≤ k := hk; show w.heap.size ≤ k; omega), Nat.le_refl _, Kd.F_nil _ _ _, HB.out⟩
theorem take78 (A0 : Option Addr) (c0 : Nat) (l0 : List Int) (a : Int) (w : World) (hr0 : Kd.C ki w A0 l0.length l0) (hc0 : l0.length ≤ c0) (hb0 : l0.length < 1000000) : Calls Try.prog 78 #[.slice A0 l0.length c0, .int .i64 a] w (T2 ki w (takeR l0 a).1 (takeR l0 a).2) := by
 unfold takeR
 split
 ·
  exact take_there A0 c0 l0 a w hr0 hc0 hb0 (by assumption)
 ·
  split
  ·
   exact take_full A0 c0 l0 a w hr0 hc0 hb0 (by assumption) (by assumption)
  ·
   exact take_new A0 c0 l0 a w hr0 hc0 hb0 (by assumption) (by assumption)
theorem free79 (A0 : Option Addr) (c0 : Nat) (l0 : List Int) (a : Int) (w : World) (hr0 : Kd.C ki w A0 l0.length l0) (hc0 : l0.length ≤ c0) (hb0 : l0.length < 1000000) : Calls Try.prog 79 #[.slice A0 l0.length c0, .int .i64 a] w (T2 ki w (freeR l0 a).1 (freeR l0 a).2) := by
 unfold freeR
 split
 ·
  cases hd : dropR l0 a with
  | nil => exact free_gone A0 c0 l0 a w hr0 hc0 hb0 (by assumption) hd
  | cons x r => exact free_rest A0 c0 l0 a w hr0 hc0 hb0 x r (by assumption) hd
 ·
  exact free_none A0 c0 l0 a w hr0 hc0 hb0 (by assumption)
/-- .. the row may be one that came in. -/
def T2g {α : Type} (d : Kd α) (ok : Nat → Prop) (w : World) (xs : List α) (r : S26) (e : Ending) (w' : World) : Prop := ∃ A c Av cv, e = .returned (.tuple #[.slice A xs.length c, .agg #[.int .i64 r.f0, .slice Av r.f1.length cv, .int .i64 r.f2]]) ∧ xs.length ≤ c ∧ Kd.F d w' (fun k => ok k ∨ w.heap.size ≤ k) A xs.length xs ∧ r.f1.length ≤ cv ∧ Kd.F kb w' (fun k => w.heap.size ≤ k) Av r.f1.length r.f1 ∧ Below w.heap.size w w'
set_option maxHeartbeats 1000000 in
theorem locks_owner (A0 : Option Addr) (c0 : Nat) (l0 : List Int) (kd a : Int) (K2 K3 K4 : Option Addr) (n2 d2 n3 d3 n4 d4 : Nat) (w : World) (ok : Nat → Prop) (hf : Kd.F ki w ok A0 l0.length l0) (hc0 : l0.length ≤ c0) (hb0 : l0.length < 1000000) (h8 : kd = 8) :
  Calls Try.prog 34 #[.slice A0 l0.length c0, .agg #[.int .i64 kd, .int .i64 a, .slice K2 n2 d2, .slice K3 n3 d3, .slice K4 n4 d4]] w (T2g ki ok w l0 (ownerR l0)) := by
 have q8 : (kd == 8) = true := beq_iff_eq.2 (by omega)
 have HF := Aside0.mk hf
 have HC0 := Aside0.mk hc0
 have HN := Aside0.mk hb0
 clear hf hc0 hb0
 clear h8
 have HB := Aside0.mk (Below.refl w.heap.size w)
 go_enter Try.func34, Try.ntmps34
 go_wp2_with fail
 generalize hV0 : World.alloc _ _ = V0
 obtain ⟨K0, K1, hb_, SV0⟩ := al2 hV0
 clear hV0
 replace HB := HBs HB hb_
 clear hb_
 have hV0 := SV0.out
 obtain ⟨y0, y1, y2, y3, y4, y50, y51, y52, y53, y54⟩ := cel5 K0.out
 go_wp2_with fail
 clear y0 y1 y2 y3 y4 y50 y51 y52 y53 y54
 refine (owner77 A0 c0 l0 V0 (Kd.C_below (Kd.F_now HF.out) HB.out) HC0.out).mono ?_
 rintro e w1 ⟨Av, cv, rfl, hcv, hFv, hb_⟩
 have LV := Aside0.mk hcv
 have FV := Aside0.mk (Kd.F_mono hFv (ok' := fun k => w.heap.size + 2 ≤ k) (fun k hk => by have h2 : V0.heap.size ≤ k := hk; show w.heap.size + 2 ≤ k; omega))
 clear hFv hcv
 replace HB := HBs HB hb_
 replace K0 := KB K0 hb_
 replace K1 := KB K1 hb_
 clear hb_
 obtain ⟨x0, x1, x2, x30, x31, x32⟩ := cel3 K1.out
 go_wp2_with fail
 clear x0 x1 x2 x30 x31 x32
 generalize hV3 : World.setCell (World.setCell (World.setCell w1 _ _) _ _) _ _ = V3
 have hge_ : w.heap.size ≤ w.heap.size + 1 := by omega
 have hst_ := st3 HB.out hge_ K1.out hV3
 replace HB := Aside0.mk hst_.1
 replace K1 := Aside0.mk hst_.2.1
 replace K0 := KS K0 hst_ (by omega)
 have e0_ : ∀ k_, (w.heap.size + 2 ≤ k_) → k_ ≠ w.heap.size + 1 := fun k_ h_ => by omega
 replace FV := FS FV hst_ e0_
 clear e0_
 have SV3 := Aside0.mk hst_.2.2.2
 clear hV3 hst_ hge_
 refine bodyPost_ret (results_tc rfl _ _ (w.heap.size + 1) 34 #[.int .i64 (ownerR l0).f0, .slice Av (ownerR l0).f1.length cv, .int .i64 (ownerR l0).f2] (0, 0) _ rfl K1.out Try.underlying34 rfl (by kernel_rfl)) rfl ?_
 exact ⟨A0, c0, Av, cv, rfl, HC0.out, Kd.F_mono (Kd.F_below HF.out HB.out) (fun k hk => .inl hk), LV.out, Kd.F_mono FV.out (fun k hk => by have h2 : w.heap.size + 2 ≤ k := hk; show w.heap.size ≤ k; omega), HB.out⟩
set_option maxHeartbeats 1000000 in
theorem locks_bad (A0 : Option Addr) (c0 : Nat) (l0 : List Int) (kd a : Int) (K2 K3 K4 : Option Addr) (n2 d2 n3 d3 n4 d4 : Nat) (w : World) (ok : Nat → Prop) (hf : Kd.F ki w ok A0 l0.length l0) (hc0 : l0.length ≤ c0) (hb0 : l0.length < 1000000) (h8 : ¬ kd = 8) (hw : ¬ (0 ≤ a ∧ a ≤ 999)) :
  Calls Try.prog 34 #[.slice A0 l0.length c0, .agg #[.int .i64 kd, .int .i64 a, .slice K2 n2 d2, .slice K3 n3 d3, .slice K4 n4 d4]] w (T2g ki ok w l0 ⟨7, [], 0⟩) := by
 have q8 : (kd == 8) = false := beq_eq_false_iff_ne.2 (by omega)
 have HF := Aside0.mk hf
 have HC0 := Aside0.mk hc0
 have HN := Aside0.mk hb0
 clear hf hc0 hb0
 have HW : objs_who.f a = some false := by unfold objs_who.f; split <;> simp <;> omega
 clear h8 hw
 have HB := Aside0.mk (Below.refl w.heap.size w)
 go_enter Try.func34, Try.ntmps34
 go_wp2_with fail
 generalize hV0 : World.alloc _ _ = V0
 obtain ⟨K0, K1, hb_, SV0⟩ := al2 hV0
 clear hV0
 replace HB := HBs HB hb_
 clear hb_
 have hV0 := SV0.out
 obtain ⟨y0, y1, y2, y3, y4, y50, y51, y52, y53, y54⟩ := cel5 K0.out
 go_wp2_with fail
 clear y0 y1 y2 y3 y4 y50 y51 y52 y53 y54
 refine (objs_who.calls a false V0 HW).mono ?_
 rintro e w1 ⟨rfl, hd⟩
 have hb_ := hd.below
 clear hd
 have S1 := hb_.size
 replace HB := HBs HB hb_
 replace K0 := KB K0 hb_
 replace K1 := KB K1 hb_
 clear hb_
 obtain ⟨y0, y1, y2, y3, y4, y50, y51, y52, y53, y54⟩ := cel5 K0.out
 obtain ⟨x0, x1, x2, x30, x31, x32⟩ := cel3 K1.out
 go_wp2_with fail
 clear y0 y1 y2 y3 y4 y50 y51 y52 y53 y54
 clear x0 x1 x2 x30 x31 x32
 generalize hV3 : World.setCell (World.setCell (World.setCell w1 _ _) _ _) _ _ = V3
 have hge_ : w.heap.size ≤ w.heap.size + 1 := by omega
 have hst_ := st3 HB.out hge_ K1.out hV3
 replace HB := Aside0.mk hst_.1
 replace K1 := Aside0.mk hst_.2.1
 replace K0 := KS K0 hst_ (by omega)
 have SV3 := Aside0.mk hst_.2.2.2
 clear hV3 hst_ hge_
 refine bodyPost_ret (results_tc rfl _ _ (w.heap.size + 1) 34 #[.int .i64 7, .slice none 0 0, .int .i64 0] (0, 0) _ rfl K1.out Try.underlying34 rfl (by kernel_rfl)) rfl ?_
 exact ⟨A0, c0, none, 0, rfl, HC0.out, Kd.F_mono (Kd.F_below HF.out HB.out) (fun k hk => .inl hk), Nat.le_refl _, Kd.F_nil _ _ _, HB.out⟩
set_option maxHeartbeats 1000000 in
theorem locks_take (A0 : Option Addr) (c0 : Nat) (l0 : List Int) (kd a : Int) (K2 K3 K4 : Option Addr) (n2 d2 n3 d3 n4 d4 : Nat) (w : World) (ok : Nat → Prop) (hf : Kd.F ki w ok A0 l0.length l0) (hc0 : l0.length ≤ c0) (hb0 : l0.length < 1000000) (h8 : ¬ kd = 8) (hw : 0 ≤ a ∧ a ≤ 999) (h6 : kd = 6) :
  Calls Try.prog 34 #[.slice A0 l0.length c0, .agg #[.int .i64 kd, .int .i64 a, .slice K2 n2 d2, .slice K3 n3 d3, .slice K4 n4 d4]] w (T2g ki ok w (takeR l0 a).1 (takeR l0 a).2) := by
 have q8 : (kd == 8) = false := beq_eq_false_iff_ne.2 (by omega)
 have q6 : (kd == 6) = true := beq_iff_eq.2 (by omega)
 have HF := Aside0.mk hf
 have HC0 := Aside0.mk hc0
 have HN := Aside0.mk hb0
 clear hf hc0 hb0
 have HW : objs_who.f a = some true := by unfold objs_who.f; rw [if_pos (by omega)]; simp; omega
 clear h8 hw h6
 have HB := Aside0.mk (Below.refl w.heap.size w)
 go_enter Try.func34, Try.ntmps34
 go_wp2_with fail
 generalize hV0 : World.alloc _ _ = V0
 obtain ⟨K0, K1, hb_, SV0⟩ := al2 hV0
 clear hV0
 replace HB := HBs HB hb_
 clear hb_
 have hV0 := SV0.out
 obtain ⟨y0, y1, y2, y3, y4, y50, y51, y52, y53, y54⟩ := cel5 K0.out
 go_wp2_with fail
 clear y0 y1 y2 y3 y4 y50 y51 y52 y53 y54
 refine (objs_who.calls a true V0 HW).mono ?_
 rintro e w1 ⟨rfl, hd⟩
 have hb_ := hd.below
 clear hd
 have S1 := hb_.size
 replace HB := HBs HB hb_
 replace K0 := KB K0 hb_
 replace K1 := KB K1 hb_
 clear hb_
 obtain ⟨y0, y1, y2, y3, y4, y50, y51, y52, y53, y54⟩ := cel5 K0.out
 go_wp2_with fail
 clear y0 y1 y2 y3 y4 y50 y51 y52 y53 y54
 refine (take78 A0 c0 l0 a w1 (Kd.C_below (Kd.F_now HF.out) HB.out) HC0.out HN.out).mono ?_
 rintro e w2 ⟨A, c, Av, cv, rfl, hc, hF, hcv, hFv, hb_⟩
 have LA := Aside0.mk hc
 have LV := Aside0.mk hcv
 have FA := Aside0.mk (Kd.F_mono hF (ok' := fun k => w.heap.size + 2 ≤ k) (fun k hk => by have h2 : w1.heap.size ≤ k := hk; show w.heap.size + 2 ≤ k; omega))
 have FV := Aside0.mk (Kd.F_mono hFv (ok' := fun k => w.heap.size + 2 ≤ k) (fun k hk => by have h2 : w1.heap.size ≤ k := hk; show w.heap.size + 2 ≤ k; omega))
 clear hFv hcv hF hc
 replace HB := HBs HB hb_
 replace K0 := KB K0 hb_
 replace K1 := KB K1 hb_
 clear hb_
 obtain ⟨x0, x1, x2, x30, x31, x32⟩ := cel3 K1.out
 go_wp2_with fail
 clear x0 x1 x2 x30 x31 x32
 generalize hV3 : World.setCell (World.setCell (World.setCell w2 _ _) _ _) _ _ = V3
 have hge_ : w.heap.size ≤ w.heap.size + 1 := by omega
 have hst_ := st3 HB.out hge_ K1.out hV3
 replace HB := Aside0.mk hst_.1
 replace K1 := Aside0.mk hst_.2.1
 replace K0 := KS K0 hst_ (by omega)
 have e0_ : ∀ k_, (w.heap.size + 2 ≤ k_) → k_ ≠ w.heap.size + 1 := fun k_ h_ => by omega
 replace FA := FS FA hst_ e0_
 replace FV := FS FV hst_ e0_
 clear e0_
 have SV3 := Aside0.mk hst_.2.2.2
 clear hV3 hst_ hge_
 refine bodyPost_ret (results_tc rfl _ _ (w.heap.size + 1) 34 #[.int .i64 (takeR l0 a).2.f0, .slice Av (takeR l0 a).2.f1.length cv, .int .i64 (takeR l0 a).2.f2] (0, 0) _ rfl K1.out Try.underlying34 rfl (by kernel_rfl)) rfl ?_
 exact ⟨A, c, Av, cv, rfl, LA.out, Kd.F_mono FA.out (fun k hk => by have h2 : w.heap.size + 2 ≤ k := hk; exact .inr (show w.heap.size ≤ k by omega)), LV.out, Kd.F_mono FV.out (fun k hk => by have h2 : w.heap.size + 2 ≤ k := hk; show w.heap.size ≤ k; omega), HB.out⟩
set_option maxHeartbeats 1000000 in
theorem locks_free (A0 : Option Addr) (c0 : Nat) (l0 : List Int) (kd a : Int) (K2 K3 K4 : Option Addr) (n2 d2 n3 d3 n4 d4 : Nat) (w : World) (ok : Nat → Prop) (hf : Kd.F ki w ok A0 l0.length l0) (hc0 : l0.length ≤ c0) (hb0 : l0.length < 1000000) (h8 : ¬ kd = 8) (hw : 0 ≤ a ∧ a ≤ 999) (h6 : ¬ kd = 6) :
  Calls Try.prog 34 #[.slice A0 l0.length c0, .agg #[.int .i64 kd, .int .i64 a, .slice K2 n2 d2, .slice K3 n3 d3, .slice K4 n4 d4]] w (T2g ki ok w (freeR l0 a).1 (freeR l0 a).2) := by
 have q8 : (kd == 8) = false := beq_eq_false_iff_ne.2 (by omega)
 have q6 : (kd == 6) = false := beq_eq_false_iff_ne.2 (by omega)
 have HF := Aside0.mk hf
 have HC0 := Aside0.mk hc0
 have HN := Aside0.mk hb0
 clear hf hc0 hb0
 have HW : objs_who.f a = some true := by unfold objs_who.f; rw [if_pos (by omega)]; simp; omega
 clear h8 hw h6
 have HB := Aside0.mk (Below.refl w.heap.size w)
 go_enter Try.func34, Try.ntmps34
 go_wp2_with fail
 generalize hV0 : World.alloc _ _ = V0
 obtain ⟨K0, K1, hb_, SV0⟩ := al2 hV0
 clear hV0
 replace HB := HBs HB hb_
 clear hb_
 have hV0 := SV0.out
 obtain ⟨y0, y1, y2, y3, y4, y50, y51, y52, y53, y54⟩ := cel5 K0.out
 go_wp2_with fail
 clear y0 y1 y2 y3 y4 y50 y51 y52 y53 y54
 refine (objs_who.calls a true V0 HW).mono ?_
 rintro e w1 ⟨rfl, hd⟩
 have hb_ := hd.below
 clear hd
 have S1 := hb_.size
 replace HB := HBs HB hb_
 replace K0 := KB K0 hb_
 replace K1 := KB K1 hb_
 clear hb_
 obtain ⟨y0, y1, y2, y3, y4, y50, y51, y52, y53, y54⟩ := cel5 K0.out
 go_wp2_with fail
 clear y0 y1 y2 y3 y4 y50 y51 y52 y53 y54
 refine (free79 A0 c0 l0 a w1 (Kd.C_below (Kd.F_now HF.out) HB.out) HC0.out HN.out).mono ?_
 rintro e w2 ⟨A, c, Av, cv, rfl, hc, hF, hcv, hFv, hb_⟩
 have LA := Aside0.mk hc
 have LV := Aside0.mk hcv
 have FA := Aside0.mk (Kd.F_mono hF (ok' := fun k => w.heap.size + 2 ≤ k) (fun k hk => by have h2 : w1.heap.size ≤ k := hk; show w.heap.size + 2 ≤ k; omega))
 have FV := Aside0.mk (Kd.F_mono hFv (ok' := fun k => w.heap.size + 2 ≤ k) (fun k hk => by have h2 : w1.heap.size ≤ k := hk; show w.heap.size + 2 ≤ k; omega))
 clear hFv hcv hF hc
 replace HB := HBs HB hb_
 replace K0 := KB K0 hb_
 replace K1 := KB K1 hb_
 clear hb_
 obtain ⟨x0, x1, x2, x30, x31, x32⟩ := cel3 K1.out
 go_wp2_with fail
 clear x0 x1 x2 x30 x31 x32
 generalize hV3 : World.setCell (World.setCell (World.setCell w2 _ _) _ _) _ _ = V3
 have hge_ : w.heap.size ≤ w.heap.size + 1 := by omega
 have hst_ := st3 HB.out hge_ K1.out hV3
 replace HB := Aside0.mk hst_.1
 replace K1 := Aside0.mk hst_.2.1
 replace K0 := KS K0 hst_ (by omega)
 have e0_ : ∀ k_, (w.heap.size + 2 ≤ k_) → k_ ≠ w.heap.size + 1 := fun k_ h_ => by omega
 replace FA := FS FA hst_ e0_
 replace FV := FS FV hst_ e0_
 clear e0_
 have SV3 := Aside0.mk hst_.2.2.2
 clear hV3 hst_ hge_
 refine bodyPost_ret (results_tc rfl _ _ (w.heap.size + 1) 34 #[.int .i64 (freeR l0 a).2.f0, .slice Av (freeR l0 a).2.f1.length cv, .int .i64 (freeR l0 a).2.f2] (0, 0) _ rfl K1.out Try.underlying34 rfl (by kernel_rfl)) rfl ?_
 exact ⟨A, c, Av, cv, rfl, LA.out, Kd.F_mono FA.out (fun k hk => by have h2 : w.heap.size + 2 ≤ k := hk; exact .inr (show w.heap.size ≤ k by omega)), LV.out, Kd.F_mono FV.out (fun k hk => by have h2 : w.heap.size + 2 ≤ k := hk; show w.heap.size ≤ k; omega), HB.out⟩
theorem locks34 (A0 : Option Addr) (c0 : Nat) (l0 : List Int) (kd a : Int) (K2 K3 K4 : Option Addr) (n2 d2 n3 d3 n4 d4 : Nat) (w : World) (ok : Nat → Prop) (hf : Kd.F ki w ok A0 l0.length l0) (hc0 : l0.length ≤ c0) (hb0 : l0.length < 1000000) : Calls Try.prog 34 #[.slice A0 l0.length c0, .agg #[.int .i64 kd, .int .i64 a, .slice K2 n2 d2, .slice K3 n3 d3, .slice K4 n4 d4]] w (T2g ki ok w (locksR l0 kd a).1 (locksR l0 kd a).2) := by
 unfold locksR
 split
 ·
  exact locks_owner A0 c0 l0 kd a K2 K3 K4 n2 d2 n3 d3 n4 d4 w ok hf hc0 hb0 (by assumption)
 ·
  split
  ·
   exact locks_bad A0 c0 l0 kd a K2 K3 K4 n2 d2 n3 d3 n4 d4 w ok hf hc0 hb0 (by assumption) (by assumption)
  ·
   split
   ·
    exact locks_take A0 c0 l0 kd a K2 K3 K4 n2 d2 n3 d3 n4 d4 w ok hf hc0 hb0 (by assumption) (by omega) (by assumption)
   ·
    exact locks_free A0 c0 l0 kd a K2 K3 K4 n2 d2 n3 d3 n4 d4 w ok hf hc0 hb0 (by assumption) (by omega) (by assumption)
theorem FK_open {W : World} {ok : Nat → Prop} {v : List Int} {c : List Value} (h : Kd.FK kq W ok v c) : ∃ A c0, c = [.slice A v.length c0] ∧ v.length ≤ c0 ∧ Kd.F kb W ok A v.length v := by
 obtain ⟨A, c0, rfl, hc, _⟩ := Foot.now h
 refine ⟨A, c0, rfl, hc, fun W' hW => ?_⟩
 obtain ⟨A2, c2, he, _, hC⟩ := h W' hW
 injection he with he _
 injection he with h1 _ _
 rw [h1]
 exact hC
set_option maxHeartbeats 1000000 in
theorem pop_nil (A0 : Option Addr) (c0 : Nat) (w : World) (hr0 : Kd.C kq w A0 ([] : List (List Int)).length ([] : List (List Int))) (hc0 : ([] : List (List Int)).length ≤ c0) (hb0 : ([] : List (List Int)).length < 1000000) (hv : ∀ y ∈ ([] : List (List Int)), y.length < 1000000) :
  Calls Try.prog 33 #[.slice A0 ([] : List (List Int)).length c0] w (T2 kq w [] ⟨4, [], 0⟩) := by
 have HR0 := Aside0.mk hr0
 have HC0 := Aside0.mk hc0
 have HN := Aside0.mk hb0
 have HV := Aside0.mk hv
 clear hr0 hc0 hb0 hv
 have HB := Aside0.mk (Below.refl w.heap.size w)
 go_enter Try.func33, Try.ntmps33
 go_wp2_with fail
 generalize hV0 : World.alloc _ _ = V0
 obtain ⟨K0, hb_, SV0⟩ := al1 hV0
 clear hV0
 replace HB := HBs HB hb_
 clear hb_
 refine (still74 A0 c0 ([] : List (List Int)) V0 (Kd.C_below HR0.out HB.out) HC0.out HN.out HV.out).mono ?_
 rintro e w1 ⟨P0, rfl, hF, hA, hb_⟩
 have S1 := Aside0.mk hb_.size
 obtain ⟨b1, hb1⟩ : ∃ b_, b_ = V0.heap.size := ⟨_, rfl⟩
 rw [← hb1] at hF
 have F0 := Aside0.mk hF
 have Zb1 := Aside0.mk (show w.heap.size + 1 ≤ b1 by have := SV0.out; omega)
 clear hb1 hF hA
 replace HB := HBs HB hb_
 replace K0 := KB K0 hb_
 clear hb_
 obtain ⟨x0, x1, x2, x30, x31, x32⟩ := cel3 K0.out
 go_wp2_with fail
 clear x0 x1 x2 x30 x31 x32
 generalize hV2 : World.setCell (World.setCell (World.setCell w1 _ _) _ _) _ _ = V2
 have hge_ : w.heap.size ≤ w.heap.size := by have z_ := Zb1.out; omega
 have hst_ := st3 HB.out hge_ K0.out hV2
 replace HB := Aside0.mk hst_.1
 replace K0 := Aside0.mk hst_.2.1
 have z_ := Zb1.out
 have e0_ : ∀ k_, (b1 ≤ k_) → k_ ≠ w.heap.size := fun k_ h_ => by omega
 replace F0 := FS F0 hst_ e0_
 clear e0_
 have SV2 := Aside0.mk hst_.2.2.2
 clear hV2 hst_ hge_ z_
 refine bodyPost_ret (results_tc rfl _ _ w.heap.size 34 #[.int .i64 4, .slice none 0 0, .int .i64 0] (0, 0) _ rfl K0.out Try.underlying34 rfl (by kernel_rfl)) rfl ?_
 exact ⟨P0, _, none, 0, rfl, Nat.le_refl _, Kd.F_mono F0.out (fun k hk => by have h2 : b1 ≤ k := hk; have := Zb1.out; show w.heap.size ≤ k; omega), Nat.le_refl _, Kd.F_nil _ _ _, HB.out⟩
set_option maxHeartbeats 1000000 in
theorem pop_cons (A0 : Option Addr) (c0 : Nat) (x : List Int) (r : List (List Int)) (w : World) (hr0 : Kd.C kq w A0 (x :: r).length (x :: r)) (hc0 : (x :: r).length ≤ c0) (hb0 : (x :: r).length < 1000000) (hv : ∀ y ∈ (x :: r), y.length < 1000000) :
  Calls Try.prog 33 #[.slice A0 (x :: r).length c0] w (T2 kq w r ⟨0, x, 0⟩) := by
 have HR0 := Aside0.mk hr0
 have HC0 := Aside0.mk hc0
 have HN := Aside0.mk hb0
 have HV := Aside0.mk hv
 clear hr0 hc0 hb0 hv
 have HB := Aside0.mk (Below.refl w.heap.size w)
 go_enter Try.func33, Try.ntmps33
 go_wp2_with fail
 generalize hV0 : World.alloc _ _ = V0
 obtain ⟨K0, hb_, SV0⟩ := al1 hV0
 clear hV0
 replace HB := HBs HB hb_
 clear hb_
 refine (still74 A0 c0 (x :: r) V0 (Kd.C_below HR0.out HB.out) HC0.out HN.out HV.out).mono ?_
 rintro e w1 ⟨P0, rfl, hF, hA, hb_⟩
 have S1 := Aside0.mk hb_.size
 obtain ⟨b1, hb1⟩ : ∃ b_, b_ = V0.heap.size := ⟨_, rfl⟩
 rw [← hb1] at hF
 have F0 := Aside0.mk hF
 have Zb1 := Aside0.mk (show w.heap.size + 1 ≤ b1 by have := SV0.out; omega)
 clear hb1 hF hA
 replace HB := HBs HB hb_
 replace K0 := KB K0 hb_
 clear hb_
 obtain ⟨x0, x1, x2, x30, x31, x32⟩ := cel3 K0.out
 obtain ⟨ad, cx, rfl, hl9, hK, hcx0, hb9⟩ := Kd.F_get F0.out ([] : List Int) 0 (by decide) (by simp)
 obtain ⟨Av, cv, rfl, hcv, hFv⟩ := FK_open hK
 rw [show (x :: r).getD (0 : Int).toNat [] = x from rfl] at *
 have hx0 := hcx0 0 _ rfl
 simp only [Int.toNat_zero, Nat.zero_mul, Nat.add_zero, Addr.add_zero'] at hx0
 have FV := Aside0.mk hFv
 have LV := Aside0.mk hcv
 clear hK hcx0 hcv hFv hl9 hb9
 have hcut := Kd.F_cut F0.out (m := 1) (c := (x :: r).length) (by simp) (Nat.le_refl _)
 have FC := Aside0.mk hcut
 clear hcut
 have dn0 : ((x :: r).length : Int) = (r.length : Int) + 1 := by simp
 have dn : ¬ ((x :: r).length : Int) = 0 := by rw [dn0]; omega
 have e1 : (1 : Int) ≤ (r.length : Int) + 1 := by omega
 have e2 : (0 : Int) < (r.length : Int) + 1 := by omega
 go_wp2_with fail
 go_region
 clear x0 x1 x2 x30 x31 x32
 generalize hV2 : World.setCell (World.setCell (World.setCell w1 _ _) _ _) _ _ = V2
 have hge_ : w.heap.size ≤ w.heap.size := by have z_ := Zb1.out; omega
 have hst_ := st3 HB.out hge_ K0.out hV2
 replace HB := Aside0.mk hst_.1
 replace K0 := Aside0.mk hst_.2.1
 have z_ := Zb1.out
 have e0_ : ∀ k_, (b1 ≤ k_) → k_ ≠ w.heap.size := fun k_ h_ => by omega
 replace F0 := FS F0 hst_ e0_
 replace FV := FS FV hst_ e0_
 replace FC := FS FC hst_ e0_
 clear e0_
 have SV2 := Aside0.mk hst_.2.2.2
 clear hV2 hst_ hge_ z_
 have bd_ := below_drew1 (Below.refl V2.heap.size V2)
 replace HB := HBs HB bd_
 replace K0 := KB K0 bd_
 replace F0 := FB F0 bd_
 replace FV := FB FV bd_
 replace FC := FB FC bd_
 clear bd_
 have HF := Aside0.mk (Kd.F_mono FC.out (ok' := fun k => w.heap.size ≤ k) (fun k hk => by have h2 : b1 ≤ k := hk; have := Zb1.out; show w.heap.size ≤ k; omega))
 have HFV := Aside0.mk (Kd.F_mono FV.out (ok' := fun k => w.heap.size ≤ k) (fun k hk => by have h2 : b1 ≤ k := hk; have := Zb1.out; show w.heap.size ≤ k; omega))
 clear FC FV F0 hx0 HR0 HC0 HV HN dn dn0 e1 e2
 go_wp2
 ·
  refine bodyPost_ret (results_tc rfl _ _ w.heap.size 34 #[.int .i64 0, .slice Av x.length cv, .int .i64 0] (0, 0) _ rfl K0.out Try.underlying34 rfl (by kernel_rfl)) rfl ?_
  refine ⟨_, _, Av, cv, rfl, Nat.le_refl _, ?_, LV.out, HFV.out, HB.out⟩
  have hr : r = [] := by assumption
  have hF := HF.out
  simp only [hr] at hF
  exact hF
 ·
  refine bodyPost_ret (results_tc rfl _ _ w.heap.size 34 #[.int .i64 0, .slice Av x.length cv, .int .i64 0] (0, 0) _ rfl K0.out Try.underlying34 rfl (by kernel_rfl)) rfl ?_
  refine ⟨_, _, Av, cv, rfl, Nat.le_refl _, ?_, LV.out, HFV.out, HB.out⟩
  have hF := HF.out
  have hne : ¬ r = [] := by assumption
  rw [if_neg (fun h => hne (List.eq_nil_of_length_eq_zero (by simpa using h)))] at hF
  exact hF
theorem pop33 (A0 : Option Addr) (c0 : Nat) (l0 : List (List Int)) (w : World) (hr0 : Kd.C kq w A0 l0.length l0) (hc0 : l0.length ≤ c0) (hb0 : l0.length < 1000000) (hv : ∀ x ∈ l0, x.length < 1000000) :
  Calls Try.prog 33 #[.slice A0 l0.length c0] w (T2 kq w (popR l0).1 (popR l0).2) := by
 cases l0 with
 | nil => exact pop_nil A0 c0 w hr0 hc0 hb0 hv
 | cons x r => exact pop_cons A0 c0 x r w hr0 hc0 hb0 hv
/-- A command that is read. -/
structure XC (W : World) (ke va ol : List Int) (E2 : Option Addr) (e2 : Nat) (E3 : Option Addr) (e3 : Nat) (E4 : Option Addr) (e4 : Nat) : Prop where
 h2 : ke.length ≤ e2
 r2 : Kd.C kb W E2 ke.length ke
 b2 : ke.length < 1000000
 h3 : va.length ≤ e3
 r3 : Kd.C kb W E3 va.length va
 b3 : va.length < 1000000
 h4 : ol.length ≤ e4
 r4 : Kd.C kb W E4 ol.length ol
 b4 : ol.length < 1000000
/-- Two results: objects and a Result. -/
def TA (w : World) (o : O) (r : S26) (e : Ending) (w' : World) : Prop := ∃ B0 d0 B1 d1 B2 d2 B3 d3 Av cv, e = .returned (.tuple #[.agg #[.slice B0 o.reg.length d0, .slice B1 o.que.length d1, .slice B2 o.loc.length d2, .slice B3 o.map.length d3], .agg #[.int .i64 r.f0, .slice Av r.f1.length cv, .int .i64 r.f2]]) ∧ OF w.heap.size w' o B0 d0 B1 d1 B2 d2 B3 d3 ∧ r.f1.length ≤ cv ∧ Kd.F kb w' (fun k => w.heap.size ≤ k) Av r.f1.length r.f1 ∧ Below w.heap.size w w'
end Go.Proofs.Ythfplgfpodmphaa.Ob
