/- What a number commands: walked. -/
import Derived.Test.YthfplgfpodmphaaOi
import Derived.Test.YthfplgfpodmphaaMky
namespace Go.Proofs.Ythfplgfpodmphaa.Ob
open Go.RowKit Go.Proofs.YthfplgfpodmphaaW.PrintWords Go.Proofs.YthfplgfpodmphaaW.PrintLast Go.Proofs.YthfplgfpodmphaaW.PrintMore Go.Proofs.Ythfplgfpodmphaa.Ms
attribute [local go_sem] max2_int min2_int max_two min_two max_three min_three max_four min_four
set_option linter.unusedVariables false
set_option linter.unusedSimpArgs false
set_option maxRecDepth 100000
theorem bits_lt (n : Int) (p m : Nat) (e : Int) (he : e = ((m : Nat) : Int)) (hm : m < 2 ^ p) (hp : p < 60) : ∃ N : Nat, Go.bits .and .i64 n e = (N : Int) ∧ N ≤ m := by
 subst he
 simp only [Go.bits, BitVec.ofInt_natCast, BitVec.toNat_and]
 have h : (BitVec.ofInt IntKind.i64.bits n).toNat &&& (BitVec.ofNat IntKind.i64.bits m).toNat ≤ m := Nat.le_trans Nat.and_le_right (by rw [BitVec.toNat_ofNat]; exact Nat.mod_le _ _)
 have h2 : m < 2 ^ 60 := Nat.lt_of_lt_of_le hm (Nat.pow_le_pow_right (by decide) (by omega))
 generalize (BitVec.ofInt IntKind.i64.bits n).toNat &&& (BitVec.ofNat IntKind.i64.bits m).toNat = t at h ⊢
 exact ⟨t, by rw [IntKind.wrap_i64]; omega, h⟩
def cs8 : List ByteArray := [⟨#[]⟩, ⟨#[97]⟩, ⟨#[98]⟩, ⟨#[97, 98]⟩, ⟨#[118, 97, 108, 117, 101]⟩, ⟨#[48, 49, 50, 51, 52, 53, 54, 55, 56, 57, 97, 98, 99, 100, 101, 102]⟩, ⟨#[48, 49, 50, 51, 52, 53, 54, 55, 56, 57, 97, 98, 99, 100, 101, 102, 103]⟩, ⟨#[0, 255]⟩]
def cs4 : List ByteArray := [⟨#[]⟩, ⟨#[97]⟩, ⟨#[98]⟩, ⟨#[97, 98]⟩]
theorem reps_strs {w : World} {base : Nat} {ok : Nat → Prop} (xs : List ByteArray) : Reps (Kd.string.M w base ok) 1 xs (xs.map .string) := by
 refine ⟨by simp, fun j p hj => ?_⟩
 show ((xs.map Value.string).drop (j * 1)).take 1 = [Value.string p]
 have hjl := (List.getElem?_eq_some_iff.1 hj).1
 rw [Nat.mul_one, List.drop_eq_getElem_cons (by simpa using hjl)]
 simp [(List.getElem?_eq_some_iff.1 hj).2]
def KeyF (n : Nat) (ke : List Int) (v : Value) (W : World) : Prop := ∃ A c, v = .slice A n c ∧ n ≤ c ∧ Kd.C kb W A n ke
def BldF (m : Nat) (S : ByteArray) (b q : Value) (W : World) : Prop := ∃ ad c, b = .slice (some ad) cs4.length c ∧ q = .pointer (some (ad.add m)) ∧ W.cell? (ad.add m) = some (.string S)
def AllF (base g : Nat) (W : World) : Prop := base ≤ g ∧ W.heap[g]? = some (.cells #[.int .i64 0, .int .i64 0, .slice none 0 0, .slice none 0 0, .slice none 0 0] 24 (0, 0))
theorem KeyF.below {n : Nat} {ke : List Int} {v : Value} {W W' : World} (h : KeyF n ke v W) (hb : Below W.heap.size W W') : KeyF n ke v W' := by
 obtain ⟨A, c, e, hc, hC⟩ := h
 exact ⟨A, c, e, hc, Kd.C_below hC hb⟩
theorem BldF.below {m : Nat} {S : ByteArray} {b q : Value} {W W' : World} (h : BldF m S b q W) (hb : Below W.heap.size W W') : BldF m S b q W' := by
 obtain ⟨ad, c, e, e2, h⟩ := h
 exact ⟨ad, c, e, e2, cell_old hb h⟩
theorem AllF.below {base g : Nat} {W W' : World} (h : AllF base g W) (hb : Below W.heap.size W W') : AllF base g W' := ⟨h.1, blk_keep h.2 hb⟩
theorem C_ne_at {W : World} {a : Addr} {g : Nat} {p : Int} {cs : Array Value} {t : TypeId} (h : W.cell? a = some (.int .u8 p)) (he : a.block = g) (hg : W.heap[g]? = some (.cells cs t (0, 0))) (hc : ∀ (o : Nat) (x : Int), cs[o]? ≠ some (.int .u8 x)) : False := by
 subst he
 unfold World.cell? at h
 rw [hg] at h
 simp only at h
 split at h
 ·
  cases h
 ·
  exact hc _ _ h
theorem C_ne {W W' : World} {A : Option Addr} {n g : Nat} {xs : List Int} {cs : Array Value} {t : TypeId} (h : Kd.C kb W A n xs) (hg : W.heap[g]? = some (.cells cs t (0, 0))) (hk : ∀ k, k ≠ g → W'.heap[k]? = W.heap[k]?) (hc : ∀ (o : Nat) (x : Int), cs[o]? ≠ some (.int .u8 x)) : Kd.C kb W' A n xs := by
 obtain ⟨hl, hm, hn⟩ := h
 refine ⟨hl, hm, fun hp => ?_⟩
 obtain ⟨ad, rfl, hcell⟩ := hn hp
 refine ⟨ad, rfl, fun j p hj => ?_⟩
 obtain ⟨c, hcl, hK, hcc⟩ := hcell j p hj
 refine ⟨c, hcl, hK, fun i u hu => ?_⟩
 have h1 := hcc i u hu
 have hne : (ad.add (j * (Kd.int IntKind.u8).sz + i)).block ≠ g := by
  intro he
  have hc1 : c = [.int .u8 p] := hK
  subst hc1
  have hi : i = 0 := by have := (List.getElem?_eq_some_iff.1 hu).1; simpa using this
  subst hi
  obtain rfl := Option.some.inj hu
  exact C_ne_at h1 he hg hc
 rw [World.cell?_of_block (hk _ hne)]
 exact h1
def cmdK (n : Int) : Int := if Go.bits .and .i64 (n / 524288) 31 = 0 then Go.bits .and .i64 (n / 16777216) 31 else if Int.tmod (Go.bits .and .i64 n 31) 13 = 0 ∨ Int.tmod (Go.bits .and .i64 n 31) 13 = 12 then ([1, 2, 4, 9] : List Int).getD (Go.bits .and .i64 (n / 131072) 3).toNat 0 else Int.tmod (Go.bits .and .i64 n 31) 13
def cmdW (n : Int) : Int := if Go.bits .and .i64 (n / 524288) 31 = 0 then Go.bits .and .i64 (n / 131072) 2047 - 20 else Go.bits .and .i64 (n / 256) 7
def cmdE (n : Int) : List Int := kk (Go.bits .and .i64 (n / 2048) 15).toNat
def cmdV (n : Int) : List Int := bytesOf (cs8.getD (Go.bits .and .i64 (n / 32) 7).toNat ⟨#[]⟩)
def cmdO (n : Int) : List Int := bytesOf (cs4.getD (Go.bits .and .i64 (n / 32768) 3).toNat ⟨#[]⟩)
def cmdKf (z19 z24 k0 m17 : Nat) : Int := if z19 = 0 then (z24 : Int) else if k0 = 0 ∨ k0 = 12 then ([1, 2, 4, 9] : List Int).getD m17 0 else (k0 : Int)
def cmdWf (z19 z17 m8 : Nat) : Int := if z19 = 0 then (z17 : Int) - 20 else (m8 : Int)
theorem reps_ints {w : World} {base : Nat} {ok : Nat → Prop} (xs : List Int) : Reps (ki.M w base ok) 1 xs (xs.map (fun x => .int .i64 x)) := by
 refine ⟨by simp, fun j p hj => ?_⟩
 show ((xs.map (fun x => Value.int .i64 x)).drop (j * 1)).take 1 = [Value.int .i64 p]
 have hjl := (List.getElem?_eq_some_iff.1 hj).1
 rw [Nat.mul_one, List.drop_eq_getElem_cons (by simpa using hjl)]
 simp [(List.getElem?_eq_some_iff.1 hj).2]
theorem cs8_size (m : Nat) : (cs8.getD m ⟨#[]⟩).size ≤ 9223372036854775807 := by
 match m with
 | 0 | 1 | 2 | 3 | 4 | 5 | 6 | 7 => decide
 | m + 8 => exact Nat.zero_le _
theorem cs4_size (m : Nat) : (cs4.getD m ⟨#[]⟩).size ≤ 9223372036854775807 := by
 match m with
 | 0 | 1 | 2 | 3 => decide
 | m + 4 => exact Nat.zero_le _
theorem kk_small (m : Nat) : (kk m).length < 1000000 := by
 match m with
 | 0 | 1 | 2 | 3 | 4 | 5 | 6 | 7 | 8 | 9 | 10 | 11 | 12 | 13 | 14 | 15 => decide
 | m + 16 => exact (by decide : 0 < 1000000)
set_option maxHeartbeats 4000000 in
theorem cmd_t (n : Int) (m0 m1 m2 m3 m8 k0 : Nat) (w : World) (hn0 : Go.bits .and .i64 n 31 = (m0 : Int)) (hk0 : Int.tmod (m0 : Int) 13 = (k0 : Int)) (hk13 : k0 < 13) (hn8 : Go.bits .and .i64 (n / 256) 7 = (m8 : Int)) (z19 z24 m17 z17 : Nat) (hn19 : Go.bits .and .i64 (n / 524288) 31 = (z19 : Int)) (hn24 : Go.bits .and .i64 (n / 16777216) 31 = (z24 : Int)) (hn17 : Go.bits .and .i64 (n / 131072) 3 = (m17 : Int)) (hm17 : m17 ≤ 3) (hz17 : Go.bits .and .i64 (n / 131072) 2047 = (z17 : Int)) (hz17b : z17 ≤ 2047) (hn1 : Go.bits .and .i64 (n / 32) 7 = (m1 : Int)) (hm1 : m1 ≤ 7) (hn2 : Go.bits .and .i64 (n / 32768) 3 = (m2 : Int)) (hm2 : m2 ≤ 3) (hn3 : Go.bits .and .i64 (n / 2048) 15 = (m3 : Int)) (hm3 : m3 ≤ 15) : Calls Try.prog 13 #[.int .i64 n] w fun e w' => ∃ Ak ck Aw cw Av av, e = .returned (.agg #[.int .i64 (cmdKf z19 z24 k0 m17), .int .i64 (cmdWf z19 z17 m8), .slice Ak (kk m3).length ck, .slice Aw (cs8.getD m1 ⟨#[]⟩).size cw, .slice Av (cs4.getD m2 ⟨#[]⟩).size av]) ∧ (kk m3).length ≤ ck ∧ Kd.C kb w' Ak (kk m3).length (kk m3) ∧ (cs8.getD m1 ⟨#[]⟩).size ≤ cw ∧ Kd.C kb w' Aw (cs8.getD m1 ⟨#[]⟩).size (bytesOf (cs8.getD m1 ⟨#[]⟩)) ∧ (cs4.getD m2 ⟨#[]⟩).size ≤ av ∧ Kd.C kb w' Av (cs4.getD m2 ⟨#[]⟩).size (bytesOf (cs4.getD m2 ⟨#[]⟩)) ∧ Below w.heap.size w w' := by
 have HM17 := Aside0.mk hm17
 have ez17 : IntKind.i64.wrap ((z17 : Int) - 20) = (z17 : Int) - 20 := by rw [IntKind.wrap_i64]; omega
 clear hm17 hz17b
 have ek0 : IntKind.i64.wrap (k0 : Int) = (k0 : Int) := by rw [IntKind.wrap_i64]; omega
 clear hk13
 obtain ⟨S4, hS4⟩ : ∃ S, S = cs4.getD m2 ⟨#[]⟩ := ⟨_, rfl⟩
 obtain ⟨S8, hS8⟩ : ∃ S, S = cs8.getD m1 ⟨#[]⟩ := ⟨_, rfl⟩
 have HS4 := Aside0.mk hS4
 have HS8 := Aside0.mk hS8
 clear hS4 hS8
 have HN3 := Aside0.mk hn3
 have HM3 := Aside0.mk hm3
 have HM2 := Aside0.mk hm2
 have HM1 := Aside0.mk hm1
 clear hn3 hm3 hm2 hm1
 have HB := Aside0.mk (Below.refl w.heap.size w)
 have kc := fun (w : World) (s : ByteArray) => run_bytes_of_string (P := Try.prog) w 9 22 5 s Try.underlying9 Try.underlying22 Try.underlying5
 go_enter Try.func13, Try.ntmps13
 go_wp2_with (
  (with_reducible refine gate_dst (N := 5) rfl ?_)
  obtain ⟨V0, hV0⟩ : ∃ V_, V_ = (w.alloc (.cells #[.int .i64 0, .int .i64 0, .slice none 0 0, .slice none 0 0, .slice none 0 0] 24)) := ⟨_, rfl⟩
  rw [← hV0]
  have hb_ : Below w.heap.size w V0 := by rw [hV0]; exact (below_alloc (Below.refl _ _) (.cells #[.int .i64 0, .int .i64 0, .slice none 0 0, .slice none 0 0, .slice none 0 0] 24))
  have K0 : Aside0 (V0.heap[w.heap.size]? = some (.cells #[.int .i64 0, .int .i64 0, .slice none 0 0, .slice none 0 0, .slice none 0 0] 24 (0, 0))) := Aside0.mk (by have h_ := heap_alloc_self w (.cells #[.int .i64 0, .int .i64 0, .slice none 0 0, .slice none 0 0, .slice none 0 0] 24); rw [hV0]; simpa using h_)
  have SV0 : Aside0 (V0.heap.size = w.heap.size + 1) := Aside0.mk (by rw [hV0]; simp)
  clear hV0
  replace HB := Aside0.mk (below_then HB.out HB.out.size hb_)
  clear hb_
  refine Kd.R_lit Kd.string V0.heap.size 9 ?hg (N := 5) ?hd (xs := cs8) (inner := [.string ⟨#[]⟩, .string ⟨#[97]⟩, .string ⟨#[98]⟩, .string ⟨#[97, 98]⟩, .string ⟨#[118, 97, 108, 117, 101]⟩, .string ⟨#[48, 49, 50, 51, 52, 53, 54, 55, 56, 57, 97, 98, 99, 100, 101, 102]⟩, .string ⟨#[48, 49, 50, 51, 52, 53, 54, 55, 56, 57, 97, 98, 99, 100, 101, 102, 103]⟩, .string ⟨#[0, 255]⟩]) (ok := fun _ => True) (okp := fun _ => True) ?hr ?hp (fun _ hk => hk) trivial (Below.refl _ _) (Nat.le_refl _) (by decide) ?_
  (case hd => rfl)
  (case hg => rfl)
  (case hr => first | (go_simp; done) | (go_simp; rfl))
  (case hp => exact reps_strs cs8)
  intro v5 V1 ho hb_ hg_ hnew_
  obtain ⟨B8, c8, rfl⟩ := Kd.R_slice ho
  obtain ⟨ad8, rfl, hcell⟩ := Kd.at_string (Kd.R_reads' ho).2.2 (m1 : Int) (by omega) (by have := HM1.out; simp [cs8]; omega)
  simp only [Int.toNat_natCast] at hcell
  have hcell8 : V1.cell? (ad8.add m1) = some (.string S8) := by rw [HS8.out]; exact hcell
  have e7 : (m1 : Int) < 8 := by have := HM1.out; omega
  have e8 : (0 : Int) ≤ (m1 : Int) := by omega
  have e9 : m1 < cs8.length := by have := HM1.out; simp [cs8]; omega
  have e10 : (m1 : Int) < (cs8.length : Int) := by omega
  replace HB := Aside0.mk (below_then HB.out HB.out.size hb_)
  replace K0 := Aside0.mk (blk_keep K0.out hb_)
  clear hcell hb_ hg_ hnew_ ho)
 obtain ⟨V2, hV2⟩ : ∃ V_, V_ = (V1.alloc (.cells (bytesRow S8 (grownCap V1 S8.size 0 5)) 5 ((bytesRow S8 (grownCap V1 S8.size 0 5)).size, (bytesRow S8 (grownCap V1 S8.size 0 5)).size + 1))).drew := ⟨_, rfl⟩
 rw [← hV2]
 have hb_ : Below V1.heap.size V1 V2 := by rw [hV2]; exact below_drew1 (below_alloc (Below.refl _ _) _)
 have hW := (bytes_C (w := V2) (by rw [hV2]; exact blk_drew (heap_alloc_self V1 _)) (by rw [HS8.out]; exact cs8_size m1) : Kd.C kb V2 (some ⟨V1.heap.size, 0, none⟩) S8.size (bytesOf S8))
 replace HB := Aside0.mk (below_then HB.out HB.out.size hb_)
 replace K0 := Aside0.mk (blk_keep K0.out hb_)
 have HVal := Aside0.mk hW
 clear hW hb_ hV2 kc hcell8 e7 e8 e9 e10
 have HW0 := Aside0.mk (show w.heap.size + 1 ≤ V2.heap.size from by have h_ := (Array.getElem?_eq_some_iff.1 K0.out).1; omega)
 have hw0_ := HW0.out
 have HWD := Aside0.mk (below_drew1 (Below.refl V2.heap.size V2))
 have HW0 := Aside0.mk (show w.heap.size + 1 ≤ V2.drew.heap.size from Nat.le_trans HW0.out HWD.out.size)
 clear hw0_
 replace HB := Aside0.mk (below_then HB.out HB.out.size HWD.out)
 replace K0 := Aside0.mk (blk_keep K0.out HWD.out)
 replace HVal := Aside0.mk (Kd.C_below HVal.out HWD.out)
 clear HWD
 have HCW := Aside0.mk (grownCap_ge V1 S8.size 0 5)
 generalize grownCap V1 S8.size 0 5 = cw at HCW ⊢
 generalize (some ⟨V1.heap.size, 0, none⟩ : Option Addr) = Aw at HVal ⊢
 refine start_ (n := 21) (S := fun w' => True) (ds := [20]) #[false, false, false, false, false, false, false, false, false, false, false, false, false, false, false, false, false, false, false, false, false] (by kernel_rfl) rfl rfl trivial (fun hHeld => ?_)
 generalize V2.drew = W0 at HB K0 HVal HW0 hHeld ⊢
 refine pure_ (i := 0) (N := some 12) (v := ?_) (a' := ?_) #[true, false, false, false, false, false, false, false, false, false, false, false, false, false, false, false, false, false, false, false, false] rfl rfl (by kernel_rfl) (fun _ _ _ h => h) (Or.inl ⟨by rfl, ?_⟩) ?_ ?_
 rotate_left
 ·
  intro w'
  go_simp
  with_reducible rfl
 rotate_left
 ·
  simp only [Act.put, List.setIfInBounds_toArray, List.set_cons_zero, List.set_cons_succ, i64_w, i32_w]
  rfl
 refine pure_ (i := 1) (N := some 13) (v := ?_) (a' := ?_) #[true, true, false, false, false, false, false, false, false, false, false, false, false, false, false, false, false, false, false, false, false] rfl rfl (by kernel_rfl) (fun _ _ _ h => h) (Or.inl ⟨by rfl, ?_⟩) ?_ ?_
 rotate_left
 ·
  intro w'
  go_simp
  with_reducible rfl
 rotate_left
 ·
  simp only [Act.put, List.setIfInBounds_toArray, List.set_cons_zero, List.set_cons_succ, i64_w, i32_w]
  rfl
 refine pure_ (i := 2) (N := some 14) (v := ?_) (a' := ?_) #[true, true, true, false, false, false, false, false, false, false, false, false, false, false, false, false, false, false, false, false, false] rfl rfl (by kernel_rfl) (fun _ _ _ h => h) (Or.inl ⟨by rfl, ?_⟩) ?_ ?_
 rotate_left
 ·
  intro w'
  go_simp
  with_reducible rfl
 rotate_left
 ·
  simp only [Act.put, List.setIfInBounds_toArray, List.set_cons_zero, List.set_cons_succ, i64_w, i32_w]
  rfl
 refine pure_ (i := 3) (N := some 15) (v := ?_) (a' := ?_) #[true, true, true, true, false, false, false, false, false, false, false, false, false, false, false, false, false, false, false, false, false] rfl rfl (by kernel_rfl) (fun _ _ _ h => h) (Or.inl ⟨by rfl, ?_⟩) ?_ ?_
 rotate_left
 ·
  intro w'
  go_simp
  with_reducible rfl
 rotate_left
 ·
  simp only [Act.put, List.setIfInBounds_toArray, List.set_cons_zero, List.set_cons_succ, i64_w, i32_w]
  rfl
 refine pure_ (i := 4) (N := some 16) (v := ?_) (a' := ?_) #[true, true, true, true, true, false, false, false, false, false, false, false, false, false, false, false, false, false, false, false, false] rfl rfl (by kernel_rfl) (fun _ _ _ h => h) (Or.inl ⟨by rfl, ?_⟩) ?_ ?_
 rotate_left
 ·
  intro w'
  go_simp
  with_reducible rfl
 rotate_left
 ·
  simp only [Act.put, List.setIfInBounds_toArray, List.set_cons_zero, List.set_cons_succ, i64_w, i32_w]
  rfl
 refine pure_ (i := 5) (N := some 17) (v := ?_) (a' := ?_) #[true, true, true, true, true, true, false, false, false, false, false, false, false, false, false, false, false, false, false, false, false] rfl rfl (by kernel_rfl) (fun _ _ _ h => h) (Or.inl ⟨by rfl, ?_⟩) ?_ ?_
 rotate_left
 ·
  intro w'
  go_simp
  with_reducible rfl
 rotate_left
 ·
  simp only [Act.put, List.setIfInBounds_toArray, List.set_cons_zero, List.set_cons_succ, i64_w, i32_w]
  rfl
 refine pure_ (i := 6) (N := some 18) (v := ?_) (a' := ?_) #[true, true, true, true, true, true, true, false, false, false, false, false, false, false, false, false, false, false, false, false, false] rfl rfl (by kernel_rfl) (fun _ _ _ h => h) (Or.inl ⟨by rfl, ?_⟩) ?_ ?_
 rotate_left
 ·
  intro w'
  go_simp
  with_reducible rfl
 rotate_left
 ·
  simp only [Act.put, List.setIfInBounds_toArray, List.set_cons_zero, List.set_cons_succ, i64_w, i32_w]
  rfl
 refine pure_ (i := 7) (N := some 19) (v := ?_) (a' := ?_) #[true, true, true, true, true, true, true, true, false, false, false, false, false, false, false, false, false, false, false, false, false] rfl rfl (by kernel_rfl) (fun _ _ _ h => h) (Or.inl ⟨by rfl, ?_⟩) ?_ ?_
 rotate_left
 ·
  intro w'
  go_simp
  with_reducible rfl
 rotate_left
 ·
  simp only [Act.put, List.setIfInBounds_toArray, List.set_cons_zero, List.set_cons_succ, i64_w, i32_w]
  rfl
 refine pure_ (i := 8) (N := some 20) (v := ?_) (a' := ?_) #[true, true, true, true, true, true, true, true, true, false, false, false, false, false, false, false, false, false, false, false, false] rfl rfl (by kernel_rfl) (fun _ _ _ h => h) (Or.inl ⟨by rfl, ?_⟩) ?_ ?_
 rotate_left
 ·
  intro w'
  go_simp
  with_reducible rfl
 rotate_left
 ·
  simp only [Act.put, List.setIfInBounds_toArray, List.set_cons_zero, List.set_cons_succ, i64_w, i32_w]
  rfl
 refine pure_ (i := 10) (N := some 22) (v := ?_) (a' := ?_) #[true, true, true, true, true, true, true, true, true, false, true, false, false, false, false, false, false, false, false, false, false] rfl rfl (by kernel_rfl) (fun _ _ _ h => h) (Or.inl ⟨by rfl, ?_⟩) ?_ ?_
 rotate_left
 ·
  intro w'
  go_simp
  with_reducible rfl
 rotate_left
 ·
  simp only [Act.put, List.setIfInBounds_toArray, List.set_cons_zero, List.set_cons_succ, i64_w, i32_w]
  rfl
 refine pure_ (i := 12) (N := some 24) (v := ?_) (a' := ?_) #[true, true, true, true, true, true, true, true, true, false, true, false, true, false, false, false, false, false, false, false, false] rfl rfl (by kernel_rfl) (fun _ _ _ h => h) (Or.inl ⟨by rfl, ?_⟩) ?_ ?_
 rotate_left
 ·
  intro w'
  go_simp
  with_reducible rfl
 rotate_left
 ·
  simp only [Act.put, List.setIfInBounds_toArray, List.set_cons_zero, List.set_cons_succ, i64_w, i32_w]
  rfl
 refine pure_ (i := 13) (N := some 25) (v := ?_) (a' := ?_) #[true, true, true, true, true, true, true, true, true, false, true, false, true, true, false, false, false, false, false, false, false] rfl rfl (by kernel_rfl) (fun _ _ _ h => h) (Or.inl ⟨by rfl, ?_⟩) ?_ ?_
 rotate_left
 ·
  intro w'
  go_simp
  with_reducible rfl
 rotate_left
 ·
  simp only [Act.put, List.setIfInBounds_toArray, List.set_cons_zero, List.set_cons_succ, i64_w, i32_w]
  rfl
 refine pure_ (i := 14) (N := some 26) (v := ?_) (a' := ?_) #[true, true, true, true, true, true, true, true, true, false, true, false, true, true, true, false, false, false, false, false, false] rfl rfl (by kernel_rfl) (fun _ _ _ h => h) (Or.inl ⟨by rfl, ?_⟩) ?_ ?_
 rotate_left
 ·
  intro w'
  go_simp
  with_reducible rfl
 rotate_left
 ·
  simp only [Act.put, List.setIfInBounds_toArray, List.set_cons_zero, List.set_cons_succ, i64_w, i32_w]
  rfl
 refine join_ (σ := Value × Value × Value × Value × Nat) 1 #[true, true, true, true, true, true, true, true, true, true, true, true, true, true, true, true, true, true, true, true, false] (fun s_ => [(21, s_.1), (23, s_.2.1), (27, s_.2.2.1), (28, .string S4), (29, s_.2.2.2.1), (30, .agg #[.int .i64 (k0 : Int), .int .i64 (m8 : Int), s_.1, .slice Aw S8.size cw, s_.2.2.2.1]), (4, .pointer (some ⟨s_.2.2.2.2, 0, none⟩))]) (fun s_ w' => True ∧ Below W0.heap.size W0 w' ∧ KeyF (kk m3).length (kk m3) s_.1 w' ∧ BldF m2 S4 s_.2.1 s_.2.2.1 w' ∧ KeyF S4.size (bytesOf S4) s_.2.2.2.1 w' ∧ AllF (w.heap.size + 1) s_.2.2.2.2 w') ?_ ?_
 rotate_left
 ·
  intro hJ9_11_16_17_19
  refine join_ (σ := Value × Value × Value × Value × Nat) 2 #[true, true, true, true, true, true, true, true, true, true, true, true, true, true, true, true, true, true, true, false, false] (fun s_ => [(21, s_.1), (23, s_.2.1), (27, s_.2.2.1), (28, .string S4), (29, s_.2.2.2.1), (30, .agg #[.int .i64 (k0 : Int), .int .i64 (m8 : Int), s_.1, .slice Aw S8.size cw, s_.2.2.2.1])]) (fun s_ w' => True ∧ Below W0.heap.size W0 w' ∧ KeyF (kk m3).length (kk m3) s_.1 w' ∧ BldF m2 S4 s_.2.1 s_.2.2.1 w' ∧ KeyF S4.size (bytesOf S4) s_.2.2.2.1 w') ?_ ?_
  rotate_left
  ·
   intro hJ9_11_16_17
   refine join_ (σ := Value × Value × Value × Value × Nat) 3 #[true, true, true, true, true, true, true, true, true, true, true, true, true, true, true, true, true, false, false, true, false] (fun s_ => [(21, s_.1), (23, s_.2.1), (27, s_.2.2.1), (28, .string S4), (4, .pointer (some ⟨s_.2.2.2.2, 0, none⟩))]) (fun s_ w' => True ∧ Below W0.heap.size W0 w' ∧ KeyF (kk m3).length (kk m3) s_.1 w' ∧ BldF m2 S4 s_.2.1 s_.2.2.1 w' ∧ AllF (w.heap.size + 1) s_.2.2.2.2 w') ?_ ?_
   rotate_left
   ·
    intro hJ9_11_16_19
    refine join_ (σ := Value × Value × Value × Value × Nat) 3 #[true, true, true, true, true, true, true, true, true, false, true, true, true, true, true, true, true, true, false, true, false] (fun s_ => [(23, s_.2.1), (27, s_.2.2.1), (28, .string S4), (29, s_.2.2.2.1), (4, .pointer (some ⟨s_.2.2.2.2, 0, none⟩))]) (fun s_ w' => True ∧ Below W0.heap.size W0 w' ∧ BldF m2 S4 s_.2.1 s_.2.2.1 w' ∧ KeyF S4.size (bytesOf S4) s_.2.2.2.1 w' ∧ AllF (w.heap.size + 1) s_.2.2.2.2 w') ?_ ?_
    rotate_left
    ·
     intro hJ11_16_17_19
     refine join_ (σ := Value × Value × Value × Value × Nat) 4 #[true, true, true, true, true, true, true, true, true, true, true, true, true, true, true, true, true, false, false, false, false] (fun s_ => [(21, s_.1), (23, s_.2.1), (27, s_.2.2.1), (28, .string S4)]) (fun s_ w' => True ∧ Below W0.heap.size W0 w' ∧ KeyF (kk m3).length (kk m3) s_.1 w' ∧ BldF m2 S4 s_.2.1 s_.2.2.1 w') ?_ ?_
     rotate_left
     ·
      intro hJ9_11_16
      refine join_ (σ := Value × Value × Value × Value × Nat) 4 #[true, true, true, true, true, true, true, true, true, true, true, true, true, true, true, true, false, false, false, true, false] (fun s_ => [(21, s_.1), (23, s_.2.1), (27, s_.2.2.1), (4, .pointer (some ⟨s_.2.2.2.2, 0, none⟩))]) (fun s_ w' => True ∧ Below W0.heap.size W0 w' ∧ KeyF (kk m3).length (kk m3) s_.1 w' ∧ BldF m2 S4 s_.2.1 s_.2.2.1 w' ∧ AllF (w.heap.size + 1) s_.2.2.2.2 w') ?_ ?_
      rotate_left
      ·
       intro hJ9_11_19
       refine join_ (σ := Value × Value × Value × Value × Nat) 4 #[true, true, true, true, true, true, true, true, true, false, true, true, true, true, true, true, true, true, false, false, false] (fun s_ => [(23, s_.2.1), (27, s_.2.2.1), (28, .string S4), (29, s_.2.2.2.1)]) (fun s_ w' => True ∧ Below W0.heap.size W0 w' ∧ BldF m2 S4 s_.2.1 s_.2.2.1 w' ∧ KeyF S4.size (bytesOf S4) s_.2.2.2.1 w') ?_ ?_
       rotate_left
       ·
        intro hJ11_16_17
        refine join_ (σ := Value × Value × Value × Value × Nat) 4 #[true, true, true, true, true, true, true, true, true, false, true, true, true, true, true, true, true, false, false, true, false] (fun s_ => [(23, s_.2.1), (27, s_.2.2.1), (28, .string S4), (4, .pointer (some ⟨s_.2.2.2.2, 0, none⟩))]) (fun s_ w' => True ∧ Below W0.heap.size W0 w' ∧ BldF m2 S4 s_.2.1 s_.2.2.1 w' ∧ AllF (w.heap.size + 1) s_.2.2.2.2 w') ?_ ?_
        rotate_left
        ·
         intro hJ11_16_19
         refine join_ (σ := Value × Value × Value × Value × Nat) 5 #[true, true, true, true, true, true, true, true, true, true, true, true, true, true, true, true, false, false, false, false, false] (fun s_ => [(21, s_.1), (23, s_.2.1), (27, s_.2.2.1)]) (fun s_ w' => True ∧ Below W0.heap.size W0 w' ∧ KeyF (kk m3).length (kk m3) s_.1 w' ∧ BldF m2 S4 s_.2.1 s_.2.2.1 w') ?_ ?_
         rotate_left
         ·
          intro hJ9_11
          refine join_ (σ := Value × Value × Value × Value × Nat) 6 #[true, true, true, true, true, true, true, true, true, true, true, false, true, true, true, false, false, false, false, true, false] (fun s_ => [(21, s_.1), (4, .pointer (some ⟨s_.2.2.2.2, 0, none⟩))]) (fun s_ w' => True ∧ Below W0.heap.size W0 w' ∧ KeyF (kk m3).length (kk m3) s_.1 w' ∧ AllF (w.heap.size + 1) s_.2.2.2.2 w') ?_ ?_
          rotate_left
          ·
           intro hJ9_19
           refine join_ (σ := Value × Value × Value × Value × Nat) 5 #[true, true, true, true, true, true, true, true, true, false, true, true, true, true, true, true, true, false, false, false, false] (fun s_ => [(23, s_.2.1), (27, s_.2.2.1), (28, .string S4)]) (fun s_ w' => True ∧ Below W0.heap.size W0 w' ∧ BldF m2 S4 s_.2.1 s_.2.2.1 w') ?_ ?_
           rotate_left
           ·
            intro hJ11_16
            refine join_ (σ := Value × Value × Value × Value × Nat) 5 #[true, true, true, true, true, true, true, true, true, false, true, true, true, true, true, true, false, false, false, true, false] (fun s_ => [(23, s_.2.1), (27, s_.2.2.1), (4, .pointer (some ⟨s_.2.2.2.2, 0, none⟩))]) (fun s_ w' => True ∧ Below W0.heap.size W0 w' ∧ BldF m2 S4 s_.2.1 s_.2.2.1 w' ∧ AllF (w.heap.size + 1) s_.2.2.2.2 w') ?_ ?_
            rotate_left
            ·
             intro hJ11_19
             refine join_ (σ := Value × Value × Value × Value × Nat) 7 #[true, true, true, true, true, true, true, true, true, true, true, false, true, true, true, false, false, false, false, false, false] (fun s_ => [(21, s_.1)]) (fun s_ w' => True ∧ Below W0.heap.size W0 w' ∧ KeyF (kk m3).length (kk m3) s_.1 w') ?_ ?_
             rotate_left
             ·
              intro hJ9
              refine join_ (σ := Value × Value × Value × Value × Nat) 6 #[true, true, true, true, true, true, true, true, true, false, true, true, true, true, true, true, false, false, false, false, false] (fun s_ => [(23, s_.2.1), (27, s_.2.2.1)]) (fun s_ w' => True ∧ Below W0.heap.size W0 w' ∧ BldF m2 S4 s_.2.1 s_.2.2.1 w') ?_ ?_
              rotate_left
              ·
               intro hJ11
               refine join_ (σ := Value × Value × Value × Value × Nat) 7 #[true, true, true, true, true, true, true, true, true, false, true, false, true, true, true, false, false, false, false, true, false] (fun s_ => [(4, .pointer (some ⟨s_.2.2.2.2, 0, none⟩))]) (fun s_ w' => True ∧ Below W0.heap.size W0 w' ∧ AllF (w.heap.size + 1) s_.2.2.2.2 w') ?_ ?_
               rotate_left
               ·
                intro hJ19
                refine three_ (i := 9) (j := 11) (k := 19) (Ni := some 21) (Nj := some 23) (Nk := some 4) #[true, true, true, true, true, true, true, true, true, true, true, false, true, true, true, false, false, false, false, false, false] #[true, true, true, true, true, true, true, true, true, false, true, true, true, true, true, false, false, false, false, false, false] #[true, true, true, true, true, true, true, true, true, false, true, false, true, true, true, false, false, false, false, true, false] rfl rfl rfl rfl rfl rfl (by kernel_rfl) (by decide) (by decide) (by decide) (fun K_ hK => ?_) (fun K_ hK => ?_) (fun K_ hK => ?_)
                ·
                 skip
                 refine goes_ Try.func39 (by kernel_rfl) rfl #[.int .i64 (n / 2048)] (by rfl) rfl rfl (by simp only [List.map_toArray, List.map_cons, List.map_nil]; rfl) ?_
                 with_reducible refine (keys10 (n / 2048) m3 W0 HN3.out HM3.out).mono ?_
                 rintro e u_ ⟨Ak, ck, rfl, hck, hCk, hb_⟩
                 have fB := hb_
                 have fK : KeyF (kk m3).length (kk m3) (.slice Ak (kk m3).length ck) u_ := ⟨Ak, ck, rfl, hck, hCk⟩
                 clear hck hCk hb_
                 refine ⟨_, rfl, ?_⟩
                 refine hK.out _ _ trivial (fun hHeld => ?_)
                 clear hK K_
                 refine norm_ (a' := ?_) ?_ ?_
                 rotate_left
                 ·
                  show Act.put _ (some 21) _ = _
                  simp only [Act.put, List.setIfInBounds_toArray, List.set_cons_zero, List.set_cons_succ, i64_w, i32_w]
                  rfl
                 exact norm_ (by first | (simp only [putAll, Act.put, List.setIfInBounds_toArray, List.set_cons_zero, List.set_cons_succ]; done) | (simp only [putAll, Act.put, List.setIfInBounds_toArray, List.set_cons_zero, List.set_cons_succ]; rfl)) (hJ9 (.slice Ak (kk m3).length ck, .bool false, .bool false, .bool false, 0) _ ⟨hHeld, fB, fK⟩)
                ·
                 skip
                 refine Kd.R_lit_step Kd.string W0.heap.size 9 ?hg (N := 23) ?hd (xs := cs4) (inner := [.string ⟨#[]⟩, .string ⟨#[97]⟩, .string ⟨#[98]⟩, .string ⟨#[97, 98]⟩]) (ok := fun _ => True) (okp := fun _ => True) ?hr ?hp (fun _ hk => hk) trivial (Below.refl _ _) (Nat.le_refl _) (by decide) ?_
                 (case hd => rfl)
                 (case hg => rfl)
                 (case hr => first | (go_simp; done) | (go_simp; rfl))
                 (case hp => exact reps_strs cs4)
                 intro v23 u_ ho hb_ hg_ hnew_
                 obtain ⟨B4, c4, rfl⟩ := Kd.R_slice ho
                 obtain ⟨ad, rfl, hcell⟩ := Kd.at_string (Kd.R_reads' ho).2.2 (m2 : Int) (by omega) (by have := HM2.out; simp [cs4]; omega)
                 simp only [Int.toNat_natCast] at hcell
                 have fB := hb_
                 have hcell2 : u_.cell? (ad.add m2) = some (.string S4) := by rw [HS4.out]; exact hcell
                 have fL : BldF m2 S4 (.slice (some ad) cs4.length c4) (.pointer (some (ad.add m2))) u_ := ⟨ad, c4, rfl, rfl, hcell2⟩
                 have e5 : (m2 : Int) < (cs4.length : Int) := by have := HM2.out; simp [cs4]; omega
                 have e7 : m2 < cs4.length := by have := HM2.out; simp [cs4]; omega
                 have e6 : (0 : Int) ≤ (m2 : Int) := by omega
                 clear hg_ hnew_ ho hb_ hcell hcell2
                 refine hK.out _ _ trivial (fun hHeld => ?_)
                 clear hK K_
                 refine norm_ (a' := ?_) ?_ ?_
                 rotate_left
                 ·
                  show Act.put _ (some 23) _ = _
                  simp only [Act.put, List.setIfInBounds_toArray, List.set_cons_zero, List.set_cons_succ, i64_w, i32_w]
                  rfl
                 refine pure_ (i := 15) (N := some 27) (v := ?_) (a' := ?_) #[true, true, true, true, true, true, true, true, true, false, true, true, true, true, true, true, false, false, false, false, false] rfl rfl (by kernel_rfl) (fun _ _ _ h => h) (Or.inl ⟨by rfl, ?_⟩) ?_ ?_
                 rotate_left
                 ·
                  intro w'
                  go_simp
                  with_reducible rfl
                 rotate_left
                 ·
                  simp only [Act.put, List.setIfInBounds_toArray, List.set_cons_zero, List.set_cons_succ, i64_w, i32_w]
                  rfl
                 exact norm_ (by first | (simp only [putAll, Act.put, List.setIfInBounds_toArray, List.set_cons_zero, List.set_cons_succ]; done) | (simp only [putAll, Act.put, List.setIfInBounds_toArray, List.set_cons_zero, List.set_cons_succ]; rfl)) (hJ11 (.bool false, .slice (some ad) cs4.length c4, .pointer (some (ad.add m2)), .bool false, 0) _ ⟨hHeld, fB, fL⟩)
                ·
                 skip
                 refine value_ (w1 := ?_) (v := ?_) (by rfl) rfl ?_ ?_
                 rotate_left 2
                 ·
                  go_simp
                  constructor
                  ·
                   rfl
                  ·
                   rfl
                 obtain ⟨u_, hu_⟩ : ∃ V_, V_ = (W0.alloc (.cells #[.int .i64 0, .int .i64 0, .slice none 0 0, .slice none 0 0, .slice none 0 0] 24)) := ⟨_, rfl⟩
                 rw [← hu_]
                 have hb_ : Below W0.heap.size W0 u_ := by rw [hu_]; exact below_alloc (Below.refl _ _) _
                 have fA : AllF (w.heap.size + 1) W0.heap.size u_ := ⟨by have := HW0.out; omega, by rw [hu_]; exact heap_alloc_self W0 _⟩
                 have fB := hb_
                 clear hb_ hu_
                 refine hK.out _ _ trivial (fun hHeld => ?_)
                 clear hK K_
                 refine norm_ (a' := ?_) ?_ ?_
                 rotate_left
                 ·
                  show Act.put _ (some 4) _ = _
                  simp only [Act.put, List.setIfInBounds_toArray, List.set_cons_zero, List.set_cons_succ, i64_w, i32_w]
                  rfl
                 exact norm_ (by first | (simp only [putAll, Act.put, List.setIfInBounds_toArray, List.set_cons_zero, List.set_cons_succ]; done) | (simp only [putAll, Act.put, List.setIfInBounds_toArray, List.set_cons_zero, List.set_cons_succ]; rfl)) (hJ19 (.bool false, .bool false, .bool false, .bool false, W0.heap.size) _ ⟨hHeld, fB, fA⟩)
               ·
                skip
                rintro ⟨k_, b_, q_, v_, g_⟩ W_ ⟨hHeld, fB, fA⟩
                dsimp only at fB fA
                refine norm_ (a' := ?_) ?_ ?_
                rotate_left
                ·
                 simp only [putAll, Act.put, List.setIfInBounds_toArray, List.set_cons_zero, List.set_cons_succ]
                 rfl
                refine two_ (i := 9) (j := 11) (Ni := some 21) (Nj := some 23) #[true, true, true, true, true, true, true, true, true, true, true, false, true, true, true, false, false, false, false, true, false] #[true, true, true, true, true, true, true, true, true, false, true, true, true, true, true, false, false, false, false, true, false] rfl rfl rfl rfl (by kernel_rfl) (by decide) (by decide) (fun K_ hK => ?_) (fun K_ hK => ?_)
                ·
                 skip
                 refine goes_ Try.func39 (by kernel_rfl) rfl #[.int .i64 (n / 2048)] (by rfl) rfl rfl (by simp only [List.map_toArray, List.map_cons, List.map_nil]; rfl) ?_
                 with_reducible refine (keys10 (n / 2048) m3 W_ HN3.out HM3.out).mono ?_
                 rintro e u_ ⟨Ak, ck, rfl, hck, hCk, hb_⟩
                 replace fB := below_then fB fB.size hb_
                 replace fA := fA.below hb_
                 have fK : KeyF (kk m3).length (kk m3) (.slice Ak (kk m3).length ck) u_ := ⟨Ak, ck, rfl, hck, hCk⟩
                 clear hck hCk hb_
                 refine ⟨_, rfl, ?_⟩
                 refine hK.out _ _ trivial (fun hHeld => ?_)
                 clear hK K_
                 refine norm_ (a' := ?_) ?_ ?_
                 rotate_left
                 ·
                  show Act.put _ (some 21) _ = _
                  simp only [Act.put, List.setIfInBounds_toArray, List.set_cons_zero, List.set_cons_succ, i64_w, i32_w]
                  rfl
                 exact norm_ (by first | (simp only [putAll, Act.put, List.setIfInBounds_toArray, List.set_cons_zero, List.set_cons_succ]; done) | (simp only [putAll, Act.put, List.setIfInBounds_toArray, List.set_cons_zero, List.set_cons_succ]; rfl)) (hJ9_19 (.slice Ak (kk m3).length ck, .bool false, .bool false, .bool false, g_) _ ⟨hHeld, fB, fK, fA⟩)
                ·
                 skip
                 refine Kd.R_lit_step Kd.string W_.heap.size 9 ?hg (N := 23) ?hd (xs := cs4) (inner := [.string ⟨#[]⟩, .string ⟨#[97]⟩, .string ⟨#[98]⟩, .string ⟨#[97, 98]⟩]) (ok := fun _ => True) (okp := fun _ => True) ?hr ?hp (fun _ hk => hk) trivial (Below.refl _ _) (Nat.le_refl _) (by decide) ?_
                 (case hd => rfl)
                 (case hg => rfl)
                 (case hr => first | (go_simp; done) | (go_simp; rfl))
                 (case hp => exact reps_strs cs4)
                 intro v23 u_ ho hb_ hg_ hnew_
                 obtain ⟨B4, c4, rfl⟩ := Kd.R_slice ho
                 obtain ⟨ad, rfl, hcell⟩ := Kd.at_string (Kd.R_reads' ho).2.2 (m2 : Int) (by omega) (by have := HM2.out; simp [cs4]; omega)
                 simp only [Int.toNat_natCast] at hcell
                 replace fB := below_then fB fB.size hb_
                 replace fA := fA.below hb_
                 have hcell2 : u_.cell? (ad.add m2) = some (.string S4) := by rw [HS4.out]; exact hcell
                 have fL : BldF m2 S4 (.slice (some ad) cs4.length c4) (.pointer (some (ad.add m2))) u_ := ⟨ad, c4, rfl, rfl, hcell2⟩
                 have e5 : (m2 : Int) < (cs4.length : Int) := by have := HM2.out; simp [cs4]; omega
                 have e7 : m2 < cs4.length := by have := HM2.out; simp [cs4]; omega
                 have e6 : (0 : Int) ≤ (m2 : Int) := by omega
                 clear hg_ hnew_ ho hb_ hcell hcell2
                 refine hK.out _ _ trivial (fun hHeld => ?_)
                 clear hK K_
                 refine norm_ (a' := ?_) ?_ ?_
                 rotate_left
                 ·
                  show Act.put _ (some 23) _ = _
                  simp only [Act.put, List.setIfInBounds_toArray, List.set_cons_zero, List.set_cons_succ, i64_w, i32_w]
                  rfl
                 refine pure_ (i := 15) (N := some 27) (v := ?_) (a' := ?_) #[true, true, true, true, true, true, true, true, true, false, true, true, true, true, true, true, false, false, false, true, false] rfl rfl (by kernel_rfl) (fun _ _ _ h => h) (Or.inl ⟨by rfl, ?_⟩) ?_ ?_
                 rotate_left
                 ·
                  intro w'
                  go_simp
                  with_reducible rfl
                 rotate_left
                 ·
                  simp only [Act.put, List.setIfInBounds_toArray, List.set_cons_zero, List.set_cons_succ, i64_w, i32_w]
                  rfl
                 exact norm_ (by first | (simp only [putAll, Act.put, List.setIfInBounds_toArray, List.set_cons_zero, List.set_cons_succ]; done) | (simp only [putAll, Act.put, List.setIfInBounds_toArray, List.set_cons_zero, List.set_cons_succ]; rfl)) (hJ11_19 (.bool false, .slice (some ad) cs4.length c4, .pointer (some (ad.add m2)), .bool false, g_) _ ⟨hHeld, fB, fL, fA⟩)
              ·
               skip
               rintro ⟨k_, b_, q_, v_, g_⟩ W_ ⟨hHeld, fB, fL⟩
               dsimp only at fB fL
               obtain ⟨ad, c4, rfl, rfl, hcell⟩ := fL
               have fL : BldF m2 S4 (.slice (some ad) cs4.length c4) (.pointer (some (ad.add m2))) W_ := ⟨ad, c4, rfl, rfl, hcell⟩
               clear hcell
               refine norm_ (a' := ?_) ?_ ?_
               rotate_left
               ·
                simp only [putAll, Act.put, List.setIfInBounds_toArray, List.set_cons_zero, List.set_cons_succ]
                rfl
               refine three_ (i := 9) (j := 16) (k := 19) (Ni := some 21) (Nj := some 28) (Nk := some 4) #[true, true, true, true, true, true, true, true, true, true, true, true, true, true, true, true, false, false, false, false, false] #[true, true, true, true, true, true, true, true, true, false, true, true, true, true, true, true, true, false, false, false, false] #[true, true, true, true, true, true, true, true, true, false, true, true, true, true, true, true, false, false, false, true, false] rfl rfl rfl rfl rfl rfl (by kernel_rfl) (by decide) (by decide) (by decide) (fun K_ hK => ?_) (fun K_ hK => ?_) (fun K_ hK => ?_)
               ·
                skip
                refine goes_ Try.func39 (by kernel_rfl) rfl #[.int .i64 (n / 2048)] (by rfl) rfl rfl (by simp only [List.map_toArray, List.map_cons, List.map_nil]; rfl) ?_
                with_reducible refine (keys10 (n / 2048) m3 W_ HN3.out HM3.out).mono ?_
                rintro e u_ ⟨Ak, ck, rfl, hck, hCk, hb_⟩
                replace fB := below_then fB fB.size hb_
                replace fL := fL.below hb_
                have fK : KeyF (kk m3).length (kk m3) (.slice Ak (kk m3).length ck) u_ := ⟨Ak, ck, rfl, hck, hCk⟩
                clear hck hCk hb_
                refine ⟨_, rfl, ?_⟩
                refine hK.out _ _ trivial (fun hHeld => ?_)
                clear hK K_
                refine norm_ (a' := ?_) ?_ ?_
                rotate_left
                ·
                 show Act.put _ (some 21) _ = _
                 simp only [Act.put, List.setIfInBounds_toArray, List.set_cons_zero, List.set_cons_succ, i64_w, i32_w]
                 rfl
                exact norm_ (by first | (simp only [putAll, Act.put, List.setIfInBounds_toArray, List.set_cons_zero, List.set_cons_succ]; done) | (simp only [putAll, Act.put, List.setIfInBounds_toArray, List.set_cons_zero, List.set_cons_succ]; rfl)) (hJ9_11 (.slice Ak (kk m3).length ck, .slice (some ad) cs4.length c4, .pointer (some (ad.add m2)), .bool false, 0) _ ⟨hHeld, fB, fK, fL⟩)
               ·
                skip
                obtain ⟨_, _, e1_, e2_, hcell⟩ := fL
                cases e1_
                cases e2_
                refine value_ (w1 := ?_) (v := ?_) (by rfl) rfl ?_ ?_
                rotate_left 2
                ·
                 go_simp
                 constructor
                 ·
                  rfl
                 ·
                  rfl
                have fL : BldF m2 S4 (.slice (some ad) cs4.length c4) (.pointer (some (ad.add m2))) W_ := ⟨ad, c4, rfl, rfl, hcell⟩
                clear hcell
                refine hK.out _ _ trivial (fun hHeld => ?_)
                clear hK K_
                refine norm_ (a' := ?_) ?_ ?_
                rotate_left
                ·
                 show Act.put _ (some 28) _ = _
                 simp only [Act.put, List.setIfInBounds_toArray, List.set_cons_zero, List.set_cons_succ, i64_w, i32_w]
                 rfl
                exact norm_ (by first | (simp only [putAll, Act.put, List.setIfInBounds_toArray, List.set_cons_zero, List.set_cons_succ]; done) | (simp only [putAll, Act.put, List.setIfInBounds_toArray, List.set_cons_zero, List.set_cons_succ]; rfl)) (hJ11_16 (.bool false, .slice (some ad) cs4.length c4, .pointer (some (ad.add m2)), .bool false, 0) _ ⟨hHeld, fB, fL⟩)
               ·
                skip
                refine value_ (w1 := ?_) (v := ?_) (by rfl) rfl ?_ ?_
                rotate_left 2
                ·
                 go_simp
                 constructor
                 ·
                  rfl
                 ·
                  rfl
                obtain ⟨u_, hu_⟩ : ∃ V_, V_ = (W_.alloc (.cells #[.int .i64 0, .int .i64 0, .slice none 0 0, .slice none 0 0, .slice none 0 0] 24)) := ⟨_, rfl⟩
                rw [← hu_]
                have hb_ : Below W_.heap.size W_ u_ := by rw [hu_]; exact below_alloc (Below.refl _ _) _
                have fA : AllF (w.heap.size + 1) W_.heap.size u_ := ⟨by have := HW0.out; have := fB.size; omega, by rw [hu_]; exact heap_alloc_self W_ _⟩
                replace fB := below_then fB fB.size hb_
                replace fL := fL.below hb_
                clear hb_ hu_
                refine hK.out _ _ trivial (fun hHeld => ?_)
                clear hK K_
                refine norm_ (a' := ?_) ?_ ?_
                rotate_left
                ·
                 show Act.put _ (some 4) _ = _
                 simp only [Act.put, List.setIfInBounds_toArray, List.set_cons_zero, List.set_cons_succ, i64_w, i32_w]
                 rfl
                exact norm_ (by first | (simp only [putAll, Act.put, List.setIfInBounds_toArray, List.set_cons_zero, List.set_cons_succ]; done) | (simp only [putAll, Act.put, List.setIfInBounds_toArray, List.set_cons_zero, List.set_cons_succ]; rfl)) (hJ11_19 (.bool false, .slice (some ad) cs4.length c4, .pointer (some (ad.add m2)), .bool false, W_.heap.size) _ ⟨hHeld, fB, fL, fA⟩)
             ·
              skip
              rintro ⟨k_, b_, q_, v_, g_⟩ W_ ⟨hHeld, fB, fK⟩
              dsimp only at fB fK
              obtain ⟨Ak, ck, rfl, hck, hCk⟩ := fK
              have fK : KeyF (kk m3).length (kk m3) (.slice Ak (kk m3).length ck) W_ := ⟨Ak, ck, rfl, hck, hCk⟩
              clear hck hCk
              refine norm_ (a' := ?_) ?_ ?_
              rotate_left
              ·
               simp only [putAll, Act.put, List.setIfInBounds_toArray, List.set_cons_zero, List.set_cons_succ]
               rfl
              refine two_ (i := 11) (j := 19) (Ni := some 23) (Nj := some 4) #[true, true, true, true, true, true, true, true, true, true, true, true, true, true, true, false, false, false, false, false, false] #[true, true, true, true, true, true, true, true, true, true, true, false, true, true, true, false, false, false, false, true, false] rfl rfl rfl rfl (by kernel_rfl) (by decide) (by decide) (fun K_ hK => ?_) (fun K_ hK => ?_)
              ·
               skip
               refine Kd.R_lit_step Kd.string W_.heap.size 9 ?hg (N := 23) ?hd (xs := cs4) (inner := [.string ⟨#[]⟩, .string ⟨#[97]⟩, .string ⟨#[98]⟩, .string ⟨#[97, 98]⟩]) (ok := fun _ => True) (okp := fun _ => True) ?hr ?hp (fun _ hk => hk) trivial (Below.refl _ _) (Nat.le_refl _) (by decide) ?_
               (case hd => rfl)
               (case hg => rfl)
               (case hr => first | (go_simp; done) | (go_simp; rfl))
               (case hp => exact reps_strs cs4)
               intro v23 u_ ho hb_ hg_ hnew_
               obtain ⟨B4, c4, rfl⟩ := Kd.R_slice ho
               obtain ⟨ad, rfl, hcell⟩ := Kd.at_string (Kd.R_reads' ho).2.2 (m2 : Int) (by omega) (by have := HM2.out; simp [cs4]; omega)
               simp only [Int.toNat_natCast] at hcell
               replace fB := below_then fB fB.size hb_
               replace fK := fK.below hb_
               have hcell2 : u_.cell? (ad.add m2) = some (.string S4) := by rw [HS4.out]; exact hcell
               have fL : BldF m2 S4 (.slice (some ad) cs4.length c4) (.pointer (some (ad.add m2))) u_ := ⟨ad, c4, rfl, rfl, hcell2⟩
               have e5 : (m2 : Int) < (cs4.length : Int) := by have := HM2.out; simp [cs4]; omega
               have e7 : m2 < cs4.length := by have := HM2.out; simp [cs4]; omega
               have e6 : (0 : Int) ≤ (m2 : Int) := by omega
               clear hg_ hnew_ ho hb_ hcell hcell2
               refine hK.out _ _ trivial (fun hHeld => ?_)
               clear hK K_
               refine norm_ (a' := ?_) ?_ ?_
               rotate_left
               ·
                show Act.put _ (some 23) _ = _
                simp only [Act.put, List.setIfInBounds_toArray, List.set_cons_zero, List.set_cons_succ, i64_w, i32_w]
                rfl
               refine pure_ (i := 15) (N := some 27) (v := ?_) (a' := ?_) #[true, true, true, true, true, true, true, true, true, true, true, true, true, true, true, true, false, false, false, false, false] rfl rfl (by kernel_rfl) (fun _ _ _ h => h) (Or.inl ⟨by rfl, ?_⟩) ?_ ?_
               rotate_left
               ·
                intro w'
                go_simp
                with_reducible rfl
               rotate_left
               ·
                simp only [Act.put, List.setIfInBounds_toArray, List.set_cons_zero, List.set_cons_succ, i64_w, i32_w]
                rfl
               exact norm_ (by first | (simp only [putAll, Act.put, List.setIfInBounds_toArray, List.set_cons_zero, List.set_cons_succ]; done) | (simp only [putAll, Act.put, List.setIfInBounds_toArray, List.set_cons_zero, List.set_cons_succ]; rfl)) (hJ9_11 (.slice Ak (kk m3).length ck, .slice (some ad) cs4.length c4, .pointer (some (ad.add m2)), .bool false, 0) _ ⟨hHeld, fB, fK, fL⟩)
              ·
               skip
               refine value_ (w1 := ?_) (v := ?_) (by rfl) rfl ?_ ?_
               rotate_left 2
               ·
                go_simp
                constructor
                ·
                 rfl
                ·
                 rfl
               obtain ⟨u_, hu_⟩ : ∃ V_, V_ = (W_.alloc (.cells #[.int .i64 0, .int .i64 0, .slice none 0 0, .slice none 0 0, .slice none 0 0] 24)) := ⟨_, rfl⟩
               rw [← hu_]
               have hb_ : Below W_.heap.size W_ u_ := by rw [hu_]; exact below_alloc (Below.refl _ _) _
               have fA : AllF (w.heap.size + 1) W_.heap.size u_ := ⟨by have := HW0.out; have := fB.size; omega, by rw [hu_]; exact heap_alloc_self W_ _⟩
               replace fB := below_then fB fB.size hb_
               replace fK := fK.below hb_
               clear hb_ hu_
               refine hK.out _ _ trivial (fun hHeld => ?_)
               clear hK K_
               refine norm_ (a' := ?_) ?_ ?_
               rotate_left
               ·
                show Act.put _ (some 4) _ = _
                simp only [Act.put, List.setIfInBounds_toArray, List.set_cons_zero, List.set_cons_succ, i64_w, i32_w]
                rfl
               exact norm_ (by first | (simp only [putAll, Act.put, List.setIfInBounds_toArray, List.set_cons_zero, List.set_cons_succ]; done) | (simp only [putAll, Act.put, List.setIfInBounds_toArray, List.set_cons_zero, List.set_cons_succ]; rfl)) (hJ9_19 (.slice Ak (kk m3).length ck, .bool false, .bool false, .bool false, W_.heap.size) _ ⟨hHeld, fB, fK, fA⟩)
            ·
             skip
             rintro ⟨k_, b_, q_, v_, g_⟩ W_ ⟨hHeld, fB, fL, fA⟩
             dsimp only at fB fL fA
             obtain ⟨ad, c4, rfl, rfl, hcell⟩ := fL
             have fL : BldF m2 S4 (.slice (some ad) cs4.length c4) (.pointer (some (ad.add m2))) W_ := ⟨ad, c4, rfl, rfl, hcell⟩
             clear hcell
             refine norm_ (a' := ?_) ?_ ?_
             rotate_left
             ·
              simp only [putAll, Act.put, List.setIfInBounds_toArray, List.set_cons_zero, List.set_cons_succ]
              rfl
             refine two_ (i := 9) (j := 16) (Ni := some 21) (Nj := some 28) #[true, true, true, true, true, true, true, true, true, true, true, true, true, true, true, true, false, false, false, true, false] #[true, true, true, true, true, true, true, true, true, false, true, true, true, true, true, true, true, false, false, true, false] rfl rfl rfl rfl (by kernel_rfl) (by decide) (by decide) (fun K_ hK => ?_) (fun K_ hK => ?_)
             ·
              skip
              refine goes_ Try.func39 (by kernel_rfl) rfl #[.int .i64 (n / 2048)] (by rfl) rfl rfl (by simp only [List.map_toArray, List.map_cons, List.map_nil]; rfl) ?_
              with_reducible refine (keys10 (n / 2048) m3 W_ HN3.out HM3.out).mono ?_
              rintro e u_ ⟨Ak, ck, rfl, hck, hCk, hb_⟩
              replace fB := below_then fB fB.size hb_
              replace fL := fL.below hb_
              replace fA := fA.below hb_
              have fK : KeyF (kk m3).length (kk m3) (.slice Ak (kk m3).length ck) u_ := ⟨Ak, ck, rfl, hck, hCk⟩
              clear hck hCk hb_
              refine ⟨_, rfl, ?_⟩
              refine hK.out _ _ trivial (fun hHeld => ?_)
              clear hK K_
              refine norm_ (a' := ?_) ?_ ?_
              rotate_left
              ·
               show Act.put _ (some 21) _ = _
               simp only [Act.put, List.setIfInBounds_toArray, List.set_cons_zero, List.set_cons_succ, i64_w, i32_w]
               rfl
              exact norm_ (by first | (simp only [putAll, Act.put, List.setIfInBounds_toArray, List.set_cons_zero, List.set_cons_succ]; done) | (simp only [putAll, Act.put, List.setIfInBounds_toArray, List.set_cons_zero, List.set_cons_succ]; rfl)) (hJ9_11_19 (.slice Ak (kk m3).length ck, .slice (some ad) cs4.length c4, .pointer (some (ad.add m2)), .bool false, g_) _ ⟨hHeld, fB, fK, fL, fA⟩)
             ·
              skip
              obtain ⟨_, _, e1_, e2_, hcell⟩ := fL
              cases e1_
              cases e2_
              refine value_ (w1 := ?_) (v := ?_) (by rfl) rfl ?_ ?_
              rotate_left 2
              ·
               go_simp
               constructor
               ·
                rfl
               ·
                rfl
              have fL : BldF m2 S4 (.slice (some ad) cs4.length c4) (.pointer (some (ad.add m2))) W_ := ⟨ad, c4, rfl, rfl, hcell⟩
              clear hcell
              refine hK.out _ _ trivial (fun hHeld => ?_)
              clear hK K_
              refine norm_ (a' := ?_) ?_ ?_
              rotate_left
              ·
               show Act.put _ (some 28) _ = _
               simp only [Act.put, List.setIfInBounds_toArray, List.set_cons_zero, List.set_cons_succ, i64_w, i32_w]
               rfl
              exact norm_ (by first | (simp only [putAll, Act.put, List.setIfInBounds_toArray, List.set_cons_zero, List.set_cons_succ]; done) | (simp only [putAll, Act.put, List.setIfInBounds_toArray, List.set_cons_zero, List.set_cons_succ]; rfl)) (hJ11_16_19 (.bool false, .slice (some ad) cs4.length c4, .pointer (some (ad.add m2)), .bool false, g_) _ ⟨hHeld, fB, fL, fA⟩)
           ·
            skip
            rintro ⟨k_, b_, q_, v_, g_⟩ W_ ⟨hHeld, fB, fL⟩
            dsimp only at fB fL
            obtain ⟨ad, c4, rfl, rfl, hcell⟩ := fL
            have fL : BldF m2 S4 (.slice (some ad) cs4.length c4) (.pointer (some (ad.add m2))) W_ := ⟨ad, c4, rfl, rfl, hcell⟩
            clear hcell
            refine norm_ (a' := ?_) ?_ ?_
            rotate_left
            ·
             simp only [putAll, Act.put, List.setIfInBounds_toArray, List.set_cons_zero, List.set_cons_succ]
             rfl
            refine three_ (i := 9) (j := 17) (k := 19) (Ni := some 21) (Nj := some 29) (Nk := some 4) #[true, true, true, true, true, true, true, true, true, true, true, true, true, true, true, true, true, false, false, false, false] #[true, true, true, true, true, true, true, true, true, false, true, true, true, true, true, true, true, true, false, false, false] #[true, true, true, true, true, true, true, true, true, false, true, true, true, true, true, true, true, false, false, true, false] rfl rfl rfl rfl rfl rfl (by kernel_rfl) (by decide) (by decide) (by decide) (fun K_ hK => ?_) (fun K_ hK => ?_) (fun K_ hK => ?_)
            ·
             skip
             refine goes_ Try.func39 (by kernel_rfl) rfl #[.int .i64 (n / 2048)] (by rfl) rfl rfl (by simp only [List.map_toArray, List.map_cons, List.map_nil]; rfl) ?_
             with_reducible refine (keys10 (n / 2048) m3 W_ HN3.out HM3.out).mono ?_
             rintro e u_ ⟨Ak, ck, rfl, hck, hCk, hb_⟩
             replace fB := below_then fB fB.size hb_
             replace fL := fL.below hb_
             have fK : KeyF (kk m3).length (kk m3) (.slice Ak (kk m3).length ck) u_ := ⟨Ak, ck, rfl, hck, hCk⟩
             clear hck hCk hb_
             refine ⟨_, rfl, ?_⟩
             refine hK.out _ _ trivial (fun hHeld => ?_)
             clear hK K_
             refine norm_ (a' := ?_) ?_ ?_
             rotate_left
             ·
              show Act.put _ (some 21) _ = _
              simp only [Act.put, List.setIfInBounds_toArray, List.set_cons_zero, List.set_cons_succ, i64_w, i32_w]
              rfl
             exact norm_ (by first | (simp only [putAll, Act.put, List.setIfInBounds_toArray, List.set_cons_zero, List.set_cons_succ]; done) | (simp only [putAll, Act.put, List.setIfInBounds_toArray, List.set_cons_zero, List.set_cons_succ]; rfl)) (hJ9_11_16 (.slice Ak (kk m3).length ck, .slice (some ad) cs4.length c4, .pointer (some (ad.add m2)), .bool false, 0) _ ⟨hHeld, fB, fK, fL⟩)
            ·
             skip
             have kc := fun (w : World) (s : ByteArray) => run_bytes_of_string (P := Try.prog) w 9 22 5 s Try.underlying9 Try.underlying22 Try.underlying5
             refine value_ (w1 := ?_) (v := ?_) (by rfl) rfl ?_ ?_
             rotate_left 2
             ·
              go_simp
              constructor
              ·
               rfl
              ·
               rfl
             clear kc
             obtain ⟨u_, hu_⟩ : ∃ V_, V_ = (W_.alloc (.cells (bytesRow S4 (grownCap W_ S4.size 0 5)) 5 ((bytesRow S4 (grownCap W_ S4.size 0 5)).size, (bytesRow S4 (grownCap W_ S4.size 0 5)).size + 1))).drew := ⟨_, rfl⟩
             rw [← hu_]
             have hb_ : Below W_.heap.size W_ u_ := by rw [hu_]; exact below_drew1 (below_alloc (Below.refl _ _) _)
             have fV : KeyF S4.size (bytesOf S4) (.slice (some ⟨W_.heap.size, 0, none⟩) S4.size (grownCap W_ S4.size 0 5)) u_ := ⟨_, _, rfl, grownCap_ge _ _ _ _, bytes_C (by rw [hu_]; exact blk_drew (heap_alloc_self W_ _)) (by rw [HS4.out]; exact cs4_size m2)⟩
             replace fB := below_then fB fB.size hb_
             replace fL := fL.below hb_
             clear hb_ hu_
             refine hK.out _ _ trivial (fun hHeld => ?_)
             clear hK K_
             refine norm_ (a' := ?_) ?_ ?_
             rotate_left
             ·
              show Act.put _ (some 29) _ = _
              simp only [Act.put, List.setIfInBounds_toArray, List.set_cons_zero, List.set_cons_succ, i64_w, i32_w]
              rfl
             exact norm_ (by first | (simp only [putAll, Act.put, List.setIfInBounds_toArray, List.set_cons_zero, List.set_cons_succ]; done) | (simp only [putAll, Act.put, List.setIfInBounds_toArray, List.set_cons_zero, List.set_cons_succ]; rfl)) (hJ11_16_17 (.bool false, .slice (some ad) cs4.length c4, .pointer (some (ad.add m2)), .slice (some ⟨W_.heap.size, 0, none⟩) S4.size (grownCap W_ S4.size 0 5), 0) _ ⟨hHeld, fB, fL, fV⟩)
            ·
             skip
             refine value_ (w1 := ?_) (v := ?_) (by rfl) rfl ?_ ?_
             rotate_left 2
             ·
              go_simp
              constructor
              ·
               rfl
              ·
               rfl
             obtain ⟨u_, hu_⟩ : ∃ V_, V_ = (W_.alloc (.cells #[.int .i64 0, .int .i64 0, .slice none 0 0, .slice none 0 0, .slice none 0 0] 24)) := ⟨_, rfl⟩
             rw [← hu_]
             have hb_ : Below W_.heap.size W_ u_ := by rw [hu_]; exact below_alloc (Below.refl _ _) _
             have fA : AllF (w.heap.size + 1) W_.heap.size u_ := ⟨by have := HW0.out; have := fB.size; omega, by rw [hu_]; exact heap_alloc_self W_ _⟩
             replace fB := below_then fB fB.size hb_
             replace fL := fL.below hb_
             clear hb_ hu_
             refine hK.out _ _ trivial (fun hHeld => ?_)
             clear hK K_
             refine norm_ (a' := ?_) ?_ ?_
             rotate_left
             ·
              show Act.put _ (some 4) _ = _
              simp only [Act.put, List.setIfInBounds_toArray, List.set_cons_zero, List.set_cons_succ, i64_w, i32_w]
              rfl
             exact norm_ (by first | (simp only [putAll, Act.put, List.setIfInBounds_toArray, List.set_cons_zero, List.set_cons_succ]; done) | (simp only [putAll, Act.put, List.setIfInBounds_toArray, List.set_cons_zero, List.set_cons_succ]; rfl)) (hJ11_16_19 (.bool false, .slice (some ad) cs4.length c4, .pointer (some (ad.add m2)), .bool false, W_.heap.size) _ ⟨hHeld, fB, fL, fA⟩)
          ·
           skip
           rintro ⟨k_, b_, q_, v_, g_⟩ W_ ⟨hHeld, fB, fK, fA⟩
           dsimp only at fB fK fA
           obtain ⟨Ak, ck, rfl, hck, hCk⟩ := fK
           have fK : KeyF (kk m3).length (kk m3) (.slice Ak (kk m3).length ck) W_ := ⟨Ak, ck, rfl, hck, hCk⟩
           clear hck hCk
           refine norm_ (a' := ?_) ?_ ?_
           rotate_left
           ·
            simp only [putAll, Act.put, List.setIfInBounds_toArray, List.set_cons_zero, List.set_cons_succ]
            rfl
           refine one_ (i := 11) (N := some 23) #[true, true, true, true, true, true, true, true, true, true, true, true, true, true, true, false, false, false, false, true, false] rfl rfl (by kernel_rfl) (by decide) (fun K_ hK => ?_)
           refine Kd.R_lit_step Kd.string W_.heap.size 9 ?hg (N := 23) ?hd (xs := cs4) (inner := [.string ⟨#[]⟩, .string ⟨#[97]⟩, .string ⟨#[98]⟩, .string ⟨#[97, 98]⟩]) (ok := fun _ => True) (okp := fun _ => True) ?hr ?hp (fun _ hk => hk) trivial (Below.refl _ _) (Nat.le_refl _) (by decide) ?_
           (case hd => rfl)
           (case hg => rfl)
           (case hr => first | (go_simp; done) | (go_simp; rfl))
           (case hp => exact reps_strs cs4)
           intro v23 u_ ho hb_ hg_ hnew_
           obtain ⟨B4, c4, rfl⟩ := Kd.R_slice ho
           obtain ⟨ad, rfl, hcell⟩ := Kd.at_string (Kd.R_reads' ho).2.2 (m2 : Int) (by omega) (by have := HM2.out; simp [cs4]; omega)
           simp only [Int.toNat_natCast] at hcell
           replace fB := below_then fB fB.size hb_
           replace fK := fK.below hb_
           replace fA := fA.below hb_
           have hcell2 : u_.cell? (ad.add m2) = some (.string S4) := by rw [HS4.out]; exact hcell
           have fL : BldF m2 S4 (.slice (some ad) cs4.length c4) (.pointer (some (ad.add m2))) u_ := ⟨ad, c4, rfl, rfl, hcell2⟩
           have e5 : (m2 : Int) < (cs4.length : Int) := by have := HM2.out; simp [cs4]; omega
           have e7 : m2 < cs4.length := by have := HM2.out; simp [cs4]; omega
           have e6 : (0 : Int) ≤ (m2 : Int) := by omega
           clear hg_ hnew_ ho hb_ hcell hcell2
           refine hK.out _ _ trivial (fun hHeld => ?_)
           clear hK K_
           refine norm_ (a' := ?_) ?_ ?_
           rotate_left
           ·
            show Act.put _ (some 23) _ = _
            simp only [Act.put, List.setIfInBounds_toArray, List.set_cons_zero, List.set_cons_succ, i64_w, i32_w]
            rfl
           refine pure_ (i := 15) (N := some 27) (v := ?_) (a' := ?_) #[true, true, true, true, true, true, true, true, true, true, true, true, true, true, true, true, false, false, false, true, false] rfl rfl (by kernel_rfl) (fun _ _ _ h => h) (Or.inl ⟨by rfl, ?_⟩) ?_ ?_
           rotate_left
           ·
            intro w'
            go_simp
            with_reducible rfl
           rotate_left
           ·
            simp only [Act.put, List.setIfInBounds_toArray, List.set_cons_zero, List.set_cons_succ, i64_w, i32_w]
            rfl
           exact norm_ (by first | (simp only [putAll, Act.put, List.setIfInBounds_toArray, List.set_cons_zero, List.set_cons_succ]; done) | (simp only [putAll, Act.put, List.setIfInBounds_toArray, List.set_cons_zero, List.set_cons_succ]; rfl)) (hJ9_11_19 (.slice Ak (kk m3).length ck, .slice (some ad) cs4.length c4, .pointer (some (ad.add m2)), .bool false, g_) _ ⟨hHeld, fB, fK, fL, fA⟩)
         ·
          skip
          rintro ⟨k_, b_, q_, v_, g_⟩ W_ ⟨hHeld, fB, fK, fL⟩
          dsimp only at fB fK fL
          obtain ⟨Ak, ck, rfl, hck, hCk⟩ := fK
          have fK : KeyF (kk m3).length (kk m3) (.slice Ak (kk m3).length ck) W_ := ⟨Ak, ck, rfl, hck, hCk⟩
          clear hck hCk
          obtain ⟨ad, c4, rfl, rfl, hcell⟩ := fL
          have fL : BldF m2 S4 (.slice (some ad) cs4.length c4) (.pointer (some (ad.add m2))) W_ := ⟨ad, c4, rfl, rfl, hcell⟩
          clear hcell
          refine norm_ (a' := ?_) ?_ ?_
          rotate_left
          ·
           simp only [putAll, Act.put, List.setIfInBounds_toArray, List.set_cons_zero, List.set_cons_succ]
           rfl
          refine two_ (i := 16) (j := 19) (Ni := some 28) (Nj := some 4) #[true, true, true, true, true, true, true, true, true, true, true, true, true, true, true, true, true, false, false, false, false] #[true, true, true, true, true, true, true, true, true, true, true, true, true, true, true, true, false, false, false, true, false] rfl rfl rfl rfl (by kernel_rfl) (by decide) (by decide) (fun K_ hK => ?_) (fun K_ hK => ?_)
          ·
           skip
           obtain ⟨_, _, e1_, e2_, hcell⟩ := fL
           cases e1_
           cases e2_
           refine value_ (w1 := ?_) (v := ?_) (by rfl) rfl ?_ ?_
           rotate_left 2
           ·
            go_simp
            constructor
            ·
             rfl
            ·
             rfl
           have fL : BldF m2 S4 (.slice (some ad) cs4.length c4) (.pointer (some (ad.add m2))) W_ := ⟨ad, c4, rfl, rfl, hcell⟩
           clear hcell
           refine hK.out _ _ trivial (fun hHeld => ?_)
           clear hK K_
           refine norm_ (a' := ?_) ?_ ?_
           rotate_left
           ·
            show Act.put _ (some 28) _ = _
            simp only [Act.put, List.setIfInBounds_toArray, List.set_cons_zero, List.set_cons_succ, i64_w, i32_w]
            rfl
           exact norm_ (by first | (simp only [putAll, Act.put, List.setIfInBounds_toArray, List.set_cons_zero, List.set_cons_succ]; done) | (simp only [putAll, Act.put, List.setIfInBounds_toArray, List.set_cons_zero, List.set_cons_succ]; rfl)) (hJ9_11_16 (.slice Ak (kk m3).length ck, .slice (some ad) cs4.length c4, .pointer (some (ad.add m2)), .bool false, 0) _ ⟨hHeld, fB, fK, fL⟩)
          ·
           skip
           refine value_ (w1 := ?_) (v := ?_) (by rfl) rfl ?_ ?_
           rotate_left 2
           ·
            go_simp
            constructor
            ·
             rfl
            ·
             rfl
           obtain ⟨u_, hu_⟩ : ∃ V_, V_ = (W_.alloc (.cells #[.int .i64 0, .int .i64 0, .slice none 0 0, .slice none 0 0, .slice none 0 0] 24)) := ⟨_, rfl⟩
           rw [← hu_]
           have hb_ : Below W_.heap.size W_ u_ := by rw [hu_]; exact below_alloc (Below.refl _ _) _
           have fA : AllF (w.heap.size + 1) W_.heap.size u_ := ⟨by have := HW0.out; have := fB.size; omega, by rw [hu_]; exact heap_alloc_self W_ _⟩
           replace fB := below_then fB fB.size hb_
           replace fK := fK.below hb_
           replace fL := fL.below hb_
           clear hb_ hu_
           refine hK.out _ _ trivial (fun hHeld => ?_)
           clear hK K_
           refine norm_ (a' := ?_) ?_ ?_
           rotate_left
           ·
            show Act.put _ (some 4) _ = _
            simp only [Act.put, List.setIfInBounds_toArray, List.set_cons_zero, List.set_cons_succ, i64_w, i32_w]
            rfl
           exact norm_ (by first | (simp only [putAll, Act.put, List.setIfInBounds_toArray, List.set_cons_zero, List.set_cons_succ]; done) | (simp only [putAll, Act.put, List.setIfInBounds_toArray, List.set_cons_zero, List.set_cons_succ]; rfl)) (hJ9_11_19 (.slice Ak (kk m3).length ck, .slice (some ad) cs4.length c4, .pointer (some (ad.add m2)), .bool false, W_.heap.size) _ ⟨hHeld, fB, fK, fL, fA⟩)
        ·
         skip
         rintro ⟨k_, b_, q_, v_, g_⟩ W_ ⟨hHeld, fB, fL, fA⟩
         dsimp only at fB fL fA
         obtain ⟨ad, c4, rfl, rfl, hcell⟩ := fL
         have fL : BldF m2 S4 (.slice (some ad) cs4.length c4) (.pointer (some (ad.add m2))) W_ := ⟨ad, c4, rfl, rfl, hcell⟩
         clear hcell
         refine norm_ (a' := ?_) ?_ ?_
         rotate_left
         ·
          simp only [putAll, Act.put, List.setIfInBounds_toArray, List.set_cons_zero, List.set_cons_succ]
          rfl
         refine two_ (i := 9) (j := 17) (Ni := some 21) (Nj := some 29) #[true, true, true, true, true, true, true, true, true, true, true, true, true, true, true, true, true, false, false, true, false] #[true, true, true, true, true, true, true, true, true, false, true, true, true, true, true, true, true, true, false, true, false] rfl rfl rfl rfl (by kernel_rfl) (by decide) (by decide) (fun K_ hK => ?_) (fun K_ hK => ?_)
         ·
          skip
          refine goes_ Try.func39 (by kernel_rfl) rfl #[.int .i64 (n / 2048)] (by rfl) rfl rfl (by simp only [List.map_toArray, List.map_cons, List.map_nil]; rfl) ?_
          with_reducible refine (keys10 (n / 2048) m3 W_ HN3.out HM3.out).mono ?_
          rintro e u_ ⟨Ak, ck, rfl, hck, hCk, hb_⟩
          replace fB := below_then fB fB.size hb_
          replace fL := fL.below hb_
          replace fA := fA.below hb_
          have fK : KeyF (kk m3).length (kk m3) (.slice Ak (kk m3).length ck) u_ := ⟨Ak, ck, rfl, hck, hCk⟩
          clear hck hCk hb_
          refine ⟨_, rfl, ?_⟩
          refine hK.out _ _ trivial (fun hHeld => ?_)
          clear hK K_
          refine norm_ (a' := ?_) ?_ ?_
          rotate_left
          ·
           show Act.put _ (some 21) _ = _
           simp only [Act.put, List.setIfInBounds_toArray, List.set_cons_zero, List.set_cons_succ, i64_w, i32_w]
           rfl
          exact norm_ (by first | (simp only [putAll, Act.put, List.setIfInBounds_toArray, List.set_cons_zero, List.set_cons_succ]; done) | (simp only [putAll, Act.put, List.setIfInBounds_toArray, List.set_cons_zero, List.set_cons_succ]; rfl)) (hJ9_11_16_19 (.slice Ak (kk m3).length ck, .slice (some ad) cs4.length c4, .pointer (some (ad.add m2)), .bool false, g_) _ ⟨hHeld, fB, fK, fL, fA⟩)
         ·
          skip
          have kc := fun (w : World) (s : ByteArray) => run_bytes_of_string (P := Try.prog) w 9 22 5 s Try.underlying9 Try.underlying22 Try.underlying5
          refine value_ (w1 := ?_) (v := ?_) (by rfl) rfl ?_ ?_
          rotate_left 2
          ·
           go_simp
           constructor
           ·
            rfl
           ·
            rfl
          clear kc
          obtain ⟨u_, hu_⟩ : ∃ V_, V_ = (W_.alloc (.cells (bytesRow S4 (grownCap W_ S4.size 0 5)) 5 ((bytesRow S4 (grownCap W_ S4.size 0 5)).size, (bytesRow S4 (grownCap W_ S4.size 0 5)).size + 1))).drew := ⟨_, rfl⟩
          rw [← hu_]
          have hb_ : Below W_.heap.size W_ u_ := by rw [hu_]; exact below_drew1 (below_alloc (Below.refl _ _) _)
          have fV : KeyF S4.size (bytesOf S4) (.slice (some ⟨W_.heap.size, 0, none⟩) S4.size (grownCap W_ S4.size 0 5)) u_ := ⟨_, _, rfl, grownCap_ge _ _ _ _, bytes_C (by rw [hu_]; exact blk_drew (heap_alloc_self W_ _)) (by rw [HS4.out]; exact cs4_size m2)⟩
          replace fB := below_then fB fB.size hb_
          replace fL := fL.below hb_
          replace fA := fA.below hb_
          clear hb_ hu_
          refine hK.out _ _ trivial (fun hHeld => ?_)
          clear hK K_
          refine norm_ (a' := ?_) ?_ ?_
          rotate_left
          ·
           show Act.put _ (some 29) _ = _
           simp only [Act.put, List.setIfInBounds_toArray, List.set_cons_zero, List.set_cons_succ, i64_w, i32_w]
           rfl
          exact norm_ (by first | (simp only [putAll, Act.put, List.setIfInBounds_toArray, List.set_cons_zero, List.set_cons_succ]; done) | (simp only [putAll, Act.put, List.setIfInBounds_toArray, List.set_cons_zero, List.set_cons_succ]; rfl)) (hJ11_16_17_19 (.bool false, .slice (some ad) cs4.length c4, .pointer (some (ad.add m2)), .slice (some ⟨W_.heap.size, 0, none⟩) S4.size (grownCap W_ S4.size 0 5), g_) _ ⟨hHeld, fB, fL, fV, fA⟩)
       ·
        skip
        rintro ⟨k_, b_, q_, v_, g_⟩ W_ ⟨hHeld, fB, fL, fV⟩
        dsimp only at fB fL fV
        obtain ⟨ad, c4, rfl, rfl, hcell⟩ := fL
        have fL : BldF m2 S4 (.slice (some ad) cs4.length c4) (.pointer (some (ad.add m2))) W_ := ⟨ad, c4, rfl, rfl, hcell⟩
        clear hcell
        obtain ⟨Av, av, rfl, hav, hCv⟩ := fV
        have fV : KeyF S4.size (bytesOf S4) (.slice Av S4.size av) W_ := ⟨Av, av, rfl, hav, hCv⟩
        clear hav hCv
        refine norm_ (a' := ?_) ?_ ?_
        rotate_left
        ·
         simp only [putAll, Act.put, List.setIfInBounds_toArray, List.set_cons_zero, List.set_cons_succ]
         rfl
        refine two_ (i := 9) (j := 19) (Ni := some 21) (Nj := some 4) #[true, true, true, true, true, true, true, true, true, true, true, true, true, true, true, true, true, true, false, false, false] #[true, true, true, true, true, true, true, true, true, false, true, true, true, true, true, true, true, true, false, true, false] rfl rfl rfl rfl (by kernel_rfl) (by decide) (by decide) (fun K_ hK => ?_) (fun K_ hK => ?_)
        ·
         skip
         refine goes_ Try.func39 (by kernel_rfl) rfl #[.int .i64 (n / 2048)] (by rfl) rfl rfl (by simp only [List.map_toArray, List.map_cons, List.map_nil]; rfl) ?_
         with_reducible refine (keys10 (n / 2048) m3 W_ HN3.out HM3.out).mono ?_
         rintro e u_ ⟨Ak, ck, rfl, hck, hCk, hb_⟩
         replace fB := below_then fB fB.size hb_
         replace fL := fL.below hb_
         replace fV := fV.below hb_
         have fK : KeyF (kk m3).length (kk m3) (.slice Ak (kk m3).length ck) u_ := ⟨Ak, ck, rfl, hck, hCk⟩
         clear hck hCk hb_
         refine ⟨_, rfl, ?_⟩
         refine hK.out _ _ trivial (fun hHeld => ?_)
         clear hK K_
         refine norm_ (a' := ?_) ?_ ?_
         rotate_left
         ·
          show Act.put _ (some 21) _ = _
          simp only [Act.put, List.setIfInBounds_toArray, List.set_cons_zero, List.set_cons_succ, i64_w, i32_w]
          rfl
         refine pure_ (i := 18) (N := some 30) (v := ?_) (a' := ?_) #[true, true, true, true, true, true, true, true, true, true, true, true, true, true, true, true, true, true, true, false, false] rfl rfl (by kernel_rfl) (fun _ _ _ h => h) (Or.inl ⟨by rfl, ?_⟩) ?_ ?_
         rotate_left
         ·
          intro w'
          go_simp
          with_reducible rfl
         rotate_left
         ·
          simp only [Act.put, List.setIfInBounds_toArray, List.set_cons_zero, List.set_cons_succ, i64_w, i32_w]
          rfl
         exact norm_ (by first | (simp only [putAll, Act.put, List.setIfInBounds_toArray, List.set_cons_zero, List.set_cons_succ]; done) | (simp only [putAll, Act.put, List.setIfInBounds_toArray, List.set_cons_zero, List.set_cons_succ]; rfl)) (hJ9_11_16_17 (.slice Ak (kk m3).length ck, .slice (some ad) cs4.length c4, .pointer (some (ad.add m2)), .slice Av S4.size av, 0) _ ⟨hHeld, fB, fK, fL, fV⟩)
        ·
         skip
         refine value_ (w1 := ?_) (v := ?_) (by rfl) rfl ?_ ?_
         rotate_left 2
         ·
          go_simp
          constructor
          ·
           rfl
          ·
           rfl
         obtain ⟨u_, hu_⟩ : ∃ V_, V_ = (W_.alloc (.cells #[.int .i64 0, .int .i64 0, .slice none 0 0, .slice none 0 0, .slice none 0 0] 24)) := ⟨_, rfl⟩
         rw [← hu_]
         have hb_ : Below W_.heap.size W_ u_ := by rw [hu_]; exact below_alloc (Below.refl _ _) _
         have fA : AllF (w.heap.size + 1) W_.heap.size u_ := ⟨by have := HW0.out; have := fB.size; omega, by rw [hu_]; exact heap_alloc_self W_ _⟩
         replace fB := below_then fB fB.size hb_
         replace fL := fL.below hb_
         replace fV := fV.below hb_
         clear hb_ hu_
         refine hK.out _ _ trivial (fun hHeld => ?_)
         clear hK K_
         refine norm_ (a' := ?_) ?_ ?_
         rotate_left
         ·
          show Act.put _ (some 4) _ = _
          simp only [Act.put, List.setIfInBounds_toArray, List.set_cons_zero, List.set_cons_succ, i64_w, i32_w]
          rfl
         exact norm_ (by first | (simp only [putAll, Act.put, List.setIfInBounds_toArray, List.set_cons_zero, List.set_cons_succ]; done) | (simp only [putAll, Act.put, List.setIfInBounds_toArray, List.set_cons_zero, List.set_cons_succ]; rfl)) (hJ11_16_17_19 (.bool false, .slice (some ad) cs4.length c4, .pointer (some (ad.add m2)), .slice Av S4.size av, W_.heap.size) _ ⟨hHeld, fB, fL, fV, fA⟩)
      ·
       skip
       rintro ⟨k_, b_, q_, v_, g_⟩ W_ ⟨hHeld, fB, fK, fL, fA⟩
       dsimp only at fB fK fL fA
       obtain ⟨Ak, ck, rfl, hck, hCk⟩ := fK
       have fK : KeyF (kk m3).length (kk m3) (.slice Ak (kk m3).length ck) W_ := ⟨Ak, ck, rfl, hck, hCk⟩
       clear hck hCk
       obtain ⟨ad, c4, rfl, rfl, hcell⟩ := fL
       have fL : BldF m2 S4 (.slice (some ad) cs4.length c4) (.pointer (some (ad.add m2))) W_ := ⟨ad, c4, rfl, rfl, hcell⟩
       clear hcell
       refine norm_ (a' := ?_) ?_ ?_
       rotate_left
       ·
        simp only [putAll, Act.put, List.setIfInBounds_toArray, List.set_cons_zero, List.set_cons_succ]
        rfl
       refine one_ (i := 16) (N := some 28) #[true, true, true, true, true, true, true, true, true, true, true, true, true, true, true, true, true, false, false, true, false] rfl rfl (by kernel_rfl) (by decide) (fun K_ hK => ?_)
       obtain ⟨_, _, e1_, e2_, hcell⟩ := fL
       cases e1_
       cases e2_
       refine value_ (w1 := ?_) (v := ?_) (by rfl) rfl ?_ ?_
       rotate_left 2
       ·
        go_simp
        constructor
        ·
         rfl
        ·
         rfl
       have fL : BldF m2 S4 (.slice (some ad) cs4.length c4) (.pointer (some (ad.add m2))) W_ := ⟨ad, c4, rfl, rfl, hcell⟩
       clear hcell
       refine hK.out _ _ trivial (fun hHeld => ?_)
       clear hK K_
       refine norm_ (a' := ?_) ?_ ?_
       rotate_left
       ·
        show Act.put _ (some 28) _ = _
        simp only [Act.put, List.setIfInBounds_toArray, List.set_cons_zero, List.set_cons_succ, i64_w, i32_w]
        rfl
       exact norm_ (by first | (simp only [putAll, Act.put, List.setIfInBounds_toArray, List.set_cons_zero, List.set_cons_succ]; done) | (simp only [putAll, Act.put, List.setIfInBounds_toArray, List.set_cons_zero, List.set_cons_succ]; rfl)) (hJ9_11_16_19 (.slice Ak (kk m3).length ck, .slice (some ad) cs4.length c4, .pointer (some (ad.add m2)), .bool false, g_) _ ⟨hHeld, fB, fK, fL, fA⟩)
     ·
      skip
      rintro ⟨k_, b_, q_, v_, g_⟩ W_ ⟨hHeld, fB, fK, fL⟩
      dsimp only at fB fK fL
      obtain ⟨Ak, ck, rfl, hck, hCk⟩ := fK
      have fK : KeyF (kk m3).length (kk m3) (.slice Ak (kk m3).length ck) W_ := ⟨Ak, ck, rfl, hck, hCk⟩
      clear hck hCk
      obtain ⟨ad, c4, rfl, rfl, hcell⟩ := fL
      have fL : BldF m2 S4 (.slice (some ad) cs4.length c4) (.pointer (some (ad.add m2))) W_ := ⟨ad, c4, rfl, rfl, hcell⟩
      clear hcell
      refine norm_ (a' := ?_) ?_ ?_
      rotate_left
      ·
       simp only [putAll, Act.put, List.setIfInBounds_toArray, List.set_cons_zero, List.set_cons_succ]
       rfl
      refine two_ (i := 17) (j := 19) (Ni := some 29) (Nj := some 4) #[true, true, true, true, true, true, true, true, true, true, true, true, true, true, true, true, true, true, false, false, false] #[true, true, true, true, true, true, true, true, true, true, true, true, true, true, true, true, true, false, false, true, false] rfl rfl rfl rfl (by kernel_rfl) (by decide) (by decide) (fun K_ hK => ?_) (fun K_ hK => ?_)
      ·
       skip
       have kc := fun (w : World) (s : ByteArray) => run_bytes_of_string (P := Try.prog) w 9 22 5 s Try.underlying9 Try.underlying22 Try.underlying5
       refine value_ (w1 := ?_) (v := ?_) (by rfl) rfl ?_ ?_
       rotate_left 2
       ·
        go_simp
        constructor
        ·
         rfl
        ·
         rfl
       clear kc
       obtain ⟨u_, hu_⟩ : ∃ V_, V_ = (W_.alloc (.cells (bytesRow S4 (grownCap W_ S4.size 0 5)) 5 ((bytesRow S4 (grownCap W_ S4.size 0 5)).size, (bytesRow S4 (grownCap W_ S4.size 0 5)).size + 1))).drew := ⟨_, rfl⟩
       rw [← hu_]
       have hb_ : Below W_.heap.size W_ u_ := by rw [hu_]; exact below_drew1 (below_alloc (Below.refl _ _) _)
       have fV : KeyF S4.size (bytesOf S4) (.slice (some ⟨W_.heap.size, 0, none⟩) S4.size (grownCap W_ S4.size 0 5)) u_ := ⟨_, _, rfl, grownCap_ge _ _ _ _, bytes_C (by rw [hu_]; exact blk_drew (heap_alloc_self W_ _)) (by rw [HS4.out]; exact cs4_size m2)⟩
       replace fB := below_then fB fB.size hb_
       replace fK := fK.below hb_
       replace fL := fL.below hb_
       clear hb_ hu_
       refine hK.out _ _ trivial (fun hHeld => ?_)
       clear hK K_
       refine norm_ (a' := ?_) ?_ ?_
       rotate_left
       ·
        show Act.put _ (some 29) _ = _
        simp only [Act.put, List.setIfInBounds_toArray, List.set_cons_zero, List.set_cons_succ, i64_w, i32_w]
        rfl
       refine pure_ (i := 18) (N := some 30) (v := ?_) (a' := ?_) #[true, true, true, true, true, true, true, true, true, true, true, true, true, true, true, true, true, true, true, false, false] rfl rfl (by kernel_rfl) (fun _ _ _ h => h) (Or.inl ⟨by rfl, ?_⟩) ?_ ?_
       rotate_left
       ·
        intro w'
        go_simp
        with_reducible rfl
       rotate_left
       ·
        simp only [Act.put, List.setIfInBounds_toArray, List.set_cons_zero, List.set_cons_succ, i64_w, i32_w]
        rfl
       exact norm_ (by first | (simp only [putAll, Act.put, List.setIfInBounds_toArray, List.set_cons_zero, List.set_cons_succ]; done) | (simp only [putAll, Act.put, List.setIfInBounds_toArray, List.set_cons_zero, List.set_cons_succ]; rfl)) (hJ9_11_16_17 (.slice Ak (kk m3).length ck, .slice (some ad) cs4.length c4, .pointer (some (ad.add m2)), .slice (some ⟨W_.heap.size, 0, none⟩) S4.size (grownCap W_ S4.size 0 5), 0) _ ⟨hHeld, fB, fK, fL, fV⟩)
      ·
       skip
       refine value_ (w1 := ?_) (v := ?_) (by rfl) rfl ?_ ?_
       rotate_left 2
       ·
        go_simp
        constructor
        ·
         rfl
        ·
         rfl
       obtain ⟨u_, hu_⟩ : ∃ V_, V_ = (W_.alloc (.cells #[.int .i64 0, .int .i64 0, .slice none 0 0, .slice none 0 0, .slice none 0 0] 24)) := ⟨_, rfl⟩
       rw [← hu_]
       have hb_ : Below W_.heap.size W_ u_ := by rw [hu_]; exact below_alloc (Below.refl _ _) _
       have fA : AllF (w.heap.size + 1) W_.heap.size u_ := ⟨by have := HW0.out; have := fB.size; omega, by rw [hu_]; exact heap_alloc_self W_ _⟩
       replace fB := below_then fB fB.size hb_
       replace fK := fK.below hb_
       replace fL := fL.below hb_
       clear hb_ hu_
       refine hK.out _ _ trivial (fun hHeld => ?_)
       clear hK K_
       refine norm_ (a' := ?_) ?_ ?_
       rotate_left
       ·
        show Act.put _ (some 4) _ = _
        simp only [Act.put, List.setIfInBounds_toArray, List.set_cons_zero, List.set_cons_succ, i64_w, i32_w]
        rfl
       exact norm_ (by first | (simp only [putAll, Act.put, List.setIfInBounds_toArray, List.set_cons_zero, List.set_cons_succ]; done) | (simp only [putAll, Act.put, List.setIfInBounds_toArray, List.set_cons_zero, List.set_cons_succ]; rfl)) (hJ9_11_16_19 (.slice Ak (kk m3).length ck, .slice (some ad) cs4.length c4, .pointer (some (ad.add m2)), .bool false, W_.heap.size) _ ⟨hHeld, fB, fK, fL, fA⟩)
    ·
     skip
     rintro ⟨k_, b_, q_, v_, g_⟩ W_ ⟨hHeld, fB, fL, fV, fA⟩
     dsimp only at fB fL fV fA
     obtain ⟨ad, c4, rfl, rfl, hcell⟩ := fL
     have fL : BldF m2 S4 (.slice (some ad) cs4.length c4) (.pointer (some (ad.add m2))) W_ := ⟨ad, c4, rfl, rfl, hcell⟩
     clear hcell
     obtain ⟨Av, av, rfl, hav, hCv⟩ := fV
     have fV : KeyF S4.size (bytesOf S4) (.slice Av S4.size av) W_ := ⟨Av, av, rfl, hav, hCv⟩
     clear hav hCv
     refine norm_ (a' := ?_) ?_ ?_
     rotate_left
     ·
      simp only [putAll, Act.put, List.setIfInBounds_toArray, List.set_cons_zero, List.set_cons_succ]
      rfl
     refine one_ (i := 9) (N := some 21) #[true, true, true, true, true, true, true, true, true, true, true, true, true, true, true, true, true, true, false, true, false] rfl rfl (by kernel_rfl) (by decide) (fun K_ hK => ?_)
     refine goes_ Try.func39 (by kernel_rfl) rfl #[.int .i64 (n / 2048)] (by rfl) rfl rfl (by simp only [List.map_toArray, List.map_cons, List.map_nil]; rfl) ?_
     with_reducible refine (keys10 (n / 2048) m3 W_ HN3.out HM3.out).mono ?_
     rintro e u_ ⟨Ak, ck, rfl, hck, hCk, hb_⟩
     replace fB := below_then fB fB.size hb_
     replace fL := fL.below hb_
     replace fV := fV.below hb_
     replace fA := fA.below hb_
     have fK : KeyF (kk m3).length (kk m3) (.slice Ak (kk m3).length ck) u_ := ⟨Ak, ck, rfl, hck, hCk⟩
     clear hck hCk hb_
     refine ⟨_, rfl, ?_⟩
     refine hK.out _ _ trivial (fun hHeld => ?_)
     clear hK K_
     refine norm_ (a' := ?_) ?_ ?_
     rotate_left
     ·
      show Act.put _ (some 21) _ = _
      simp only [Act.put, List.setIfInBounds_toArray, List.set_cons_zero, List.set_cons_succ, i64_w, i32_w]
      rfl
     refine pure_ (i := 18) (N := some 30) (v := ?_) (a' := ?_) #[true, true, true, true, true, true, true, true, true, true, true, true, true, true, true, true, true, true, true, true, false] rfl rfl (by kernel_rfl) (fun _ _ _ h => h) (Or.inl ⟨by rfl, ?_⟩) ?_ ?_
     rotate_left
     ·
      intro w'
      go_simp
      with_reducible rfl
     rotate_left
     ·
      simp only [Act.put, List.setIfInBounds_toArray, List.set_cons_zero, List.set_cons_succ, i64_w, i32_w]
      rfl
     exact norm_ (by first | (simp only [putAll, Act.put, List.setIfInBounds_toArray, List.set_cons_zero, List.set_cons_succ]; done) | (simp only [putAll, Act.put, List.setIfInBounds_toArray, List.set_cons_zero, List.set_cons_succ]; rfl)) (hJ9_11_16_17_19 (.slice Ak (kk m3).length ck, .slice (some ad) cs4.length c4, .pointer (some (ad.add m2)), .slice Av S4.size av, g_) _ ⟨hHeld, fB, fK, fL, fV, fA⟩)
   ·
    skip
    rintro ⟨k_, b_, q_, v_, g_⟩ W_ ⟨hHeld, fB, fK, fL, fA⟩
    dsimp only at fB fK fL fA
    obtain ⟨Ak, ck, rfl, hck, hCk⟩ := fK
    have fK : KeyF (kk m3).length (kk m3) (.slice Ak (kk m3).length ck) W_ := ⟨Ak, ck, rfl, hck, hCk⟩
    clear hck hCk
    obtain ⟨ad, c4, rfl, rfl, hcell⟩ := fL
    have fL : BldF m2 S4 (.slice (some ad) cs4.length c4) (.pointer (some (ad.add m2))) W_ := ⟨ad, c4, rfl, rfl, hcell⟩
    clear hcell
    refine norm_ (a' := ?_) ?_ ?_
    rotate_left
    ·
     simp only [putAll, Act.put, List.setIfInBounds_toArray, List.set_cons_zero, List.set_cons_succ]
     rfl
    refine one_ (i := 17) (N := some 29) #[true, true, true, true, true, true, true, true, true, true, true, true, true, true, true, true, true, true, false, true, false] rfl rfl (by kernel_rfl) (by decide) (fun K_ hK => ?_)
    have kc := fun (w : World) (s : ByteArray) => run_bytes_of_string (P := Try.prog) w 9 22 5 s Try.underlying9 Try.underlying22 Try.underlying5
    refine value_ (w1 := ?_) (v := ?_) (by rfl) rfl ?_ ?_
    rotate_left 2
    ·
     go_simp
     constructor
     ·
      rfl
     ·
      rfl
    clear kc
    obtain ⟨u_, hu_⟩ : ∃ V_, V_ = (W_.alloc (.cells (bytesRow S4 (grownCap W_ S4.size 0 5)) 5 ((bytesRow S4 (grownCap W_ S4.size 0 5)).size, (bytesRow S4 (grownCap W_ S4.size 0 5)).size + 1))).drew := ⟨_, rfl⟩
    rw [← hu_]
    have hb_ : Below W_.heap.size W_ u_ := by rw [hu_]; exact below_drew1 (below_alloc (Below.refl _ _) _)
    have fV : KeyF S4.size (bytesOf S4) (.slice (some ⟨W_.heap.size, 0, none⟩) S4.size (grownCap W_ S4.size 0 5)) u_ := ⟨_, _, rfl, grownCap_ge _ _ _ _, bytes_C (by rw [hu_]; exact blk_drew (heap_alloc_self W_ _)) (by rw [HS4.out]; exact cs4_size m2)⟩
    replace fB := below_then fB fB.size hb_
    replace fK := fK.below hb_
    replace fL := fL.below hb_
    replace fA := fA.below hb_
    clear hb_ hu_
    refine hK.out _ _ trivial (fun hHeld => ?_)
    clear hK K_
    refine norm_ (a' := ?_) ?_ ?_
    rotate_left
    ·
     show Act.put _ (some 29) _ = _
     simp only [Act.put, List.setIfInBounds_toArray, List.set_cons_zero, List.set_cons_succ, i64_w, i32_w]
     rfl
    refine pure_ (i := 18) (N := some 30) (v := ?_) (a' := ?_) #[true, true, true, true, true, true, true, true, true, true, true, true, true, true, true, true, true, true, true, true, false] rfl rfl (by kernel_rfl) (fun _ _ _ h => h) (Or.inl ⟨by rfl, ?_⟩) ?_ ?_
    rotate_left
    ·
     intro w'
     go_simp
     with_reducible rfl
    rotate_left
    ·
     simp only [Act.put, List.setIfInBounds_toArray, List.set_cons_zero, List.set_cons_succ, i64_w, i32_w]
     rfl
    exact norm_ (by first | (simp only [putAll, Act.put, List.setIfInBounds_toArray, List.set_cons_zero, List.set_cons_succ]; done) | (simp only [putAll, Act.put, List.setIfInBounds_toArray, List.set_cons_zero, List.set_cons_succ]; rfl)) (hJ9_11_16_17_19 (.slice Ak (kk m3).length ck, .slice (some ad) cs4.length c4, .pointer (some (ad.add m2)), .slice (some ⟨W_.heap.size, 0, none⟩) S4.size (grownCap W_ S4.size 0 5), g_) _ ⟨hHeld, fB, fK, fL, fV, fA⟩)
  ·
   skip
   rintro ⟨k_, b_, q_, v_, g_⟩ W_ ⟨hHeld, fB, fK, fL, fV⟩
   dsimp only at fB fK fL fV
   obtain ⟨Ak, ck, rfl, hck, hCk⟩ := fK
   have fK : KeyF (kk m3).length (kk m3) (.slice Ak (kk m3).length ck) W_ := ⟨Ak, ck, rfl, hck, hCk⟩
   clear hck hCk
   obtain ⟨ad, c4, rfl, rfl, hcell⟩ := fL
   have fL : BldF m2 S4 (.slice (some ad) cs4.length c4) (.pointer (some (ad.add m2))) W_ := ⟨ad, c4, rfl, rfl, hcell⟩
   clear hcell
   obtain ⟨Av, av, rfl, hav, hCv⟩ := fV
   have fV : KeyF S4.size (bytesOf S4) (.slice Av S4.size av) W_ := ⟨Av, av, rfl, hav, hCv⟩
   clear hav hCv
   refine norm_ (a' := ?_) ?_ ?_
   rotate_left
   ·
    simp only [putAll, Act.put, List.setIfInBounds_toArray, List.set_cons_zero, List.set_cons_succ]
    rfl
   refine one_ (i := 19) (N := some 4) #[true, true, true, true, true, true, true, true, true, true, true, true, true, true, true, true, true, true, true, true, false] rfl rfl (by kernel_rfl) (by decide) (fun K_ hK => ?_)
   refine value_ (w1 := ?_) (v := ?_) (by rfl) rfl ?_ ?_
   rotate_left 2
   ·
    go_simp
    constructor
    ·
     rfl
    ·
     rfl
   obtain ⟨u_, hu_⟩ : ∃ V_, V_ = (W_.alloc (.cells #[.int .i64 0, .int .i64 0, .slice none 0 0, .slice none 0 0, .slice none 0 0] 24)) := ⟨_, rfl⟩
   rw [← hu_]
   have hb_ : Below W_.heap.size W_ u_ := by rw [hu_]; exact below_alloc (Below.refl _ _) _
   have fA : AllF (w.heap.size + 1) W_.heap.size u_ := ⟨by have := HW0.out; have := fB.size; omega, by rw [hu_]; exact heap_alloc_self W_ _⟩
   replace fB := below_then fB fB.size hb_
   replace fK := fK.below hb_
   replace fL := fL.below hb_
   replace fV := fV.below hb_
   clear hb_ hu_
   refine hK.out _ _ trivial (fun hHeld => ?_)
   clear hK K_
   refine norm_ (a' := ?_) ?_ ?_
   rotate_left
   ·
    show Act.put _ (some 4) _ = _
    simp only [Act.put, List.setIfInBounds_toArray, List.set_cons_zero, List.set_cons_succ, i64_w, i32_w]
    rfl
   exact norm_ (by first | (simp only [putAll, Act.put, List.setIfInBounds_toArray, List.set_cons_zero, List.set_cons_succ]; done) | (simp only [putAll, Act.put, List.setIfInBounds_toArray, List.set_cons_zero, List.set_cons_succ]; rfl)) (hJ9_11_16_17_19 (.slice Ak (kk m3).length ck, .slice (some ad) cs4.length c4, .pointer (some (ad.add m2)), .slice Av S4.size av, W_.heap.size) _ ⟨hHeld, fB, fK, fL, fV, fA⟩)
 rintro ⟨k_, b_, q_, v_, g_⟩ W_ ⟨hHeld, fB, fK, fL, fV, fA⟩
 dsimp only at fB fK fL fV fA
 obtain ⟨Ak, ck, rfl, hck, hCk⟩ := fK
 have fK : KeyF (kk m3).length (kk m3) (.slice Ak (kk m3).length ck) W_ := ⟨Ak, ck, rfl, hck, hCk⟩
 clear hck hCk
 obtain ⟨ad, c4, rfl, rfl, hcell⟩ := fL
 have fL : BldF m2 S4 (.slice (some ad) cs4.length c4) (.pointer (some (ad.add m2))) W_ := ⟨ad, c4, rfl, rfl, hcell⟩
 clear hcell
 obtain ⟨Av, av, rfl, hav, hCv⟩ := fV
 have fV : KeyF S4.size (bytesOf S4) (.slice Av S4.size av) W_ := ⟨Av, av, rfl, hav, hCv⟩
 clear hav hCv
 refine norm_ (a' := ?_) ?_ ?_
 rotate_left
 ·
  simp only [putAll, Act.put, List.setIfInBounds_toArray, List.set_cons_zero, List.set_cons_succ]
  rfl
 refine last_ (i := 20) (N := none) #[true, true, true, true, true, true, true, true, true, true, true, true, true, true, true, true, true, true, true, true, true] rfl rfl (by kernel_rfl) (by decide) (fun K_ hK => ?_)
 obtain ⟨hAb, hAh⟩ := fA
 obtain ⟨z0, z1, z2, z3, z4, z5⟩ := cells5 hAh
 have z50 := z5 0
 have z51 := z5 1
 have z52 := z5 2
 have z53 := z5 3
 have z54 := z5 4
 clear z5
 refine skip_ (w1 := ?_) (by rfl) rfl ?_ ?_
 rotate_left
 ·
  go_simp
  rfl
 refine hK.out _ _ ?_
 clear hK K_
 refine done_ (by kernel_rfl) ?_
 obtain ⟨_, _, e1_, hck, hCk⟩ := fK
 cases e1_
 obtain ⟨_, _, e1_, hav, hCv⟩ := fV
 cases e1_
 clear z0 z1 z2 z3 z4 z50 z51 z52 z53 z54 fL
 have K4 := Aside0.mk hAh
 have HG4 := Aside0.mk hAb
 have HKy := Aside0.mk hCk
 have LKy := Aside0.mk hck
 have HVl := Aside0.mk hCv
 have LVl := Aside0.mk hav
 clear hAh hAb hCk hck hCv hav hHeld
 replace HB := Aside0.mk (below_then HB.out HB.out.size fB)
 replace K0 := Aside0.mk (blk_keep K0.out fB)
 replace HVal := Aside0.mk (Kd.C_below HVal.out fB)
 clear fB
 obtain ⟨V3, hV3⟩ : ∃ V_, V_ = (((((W_.setCell ⟨g_, 0, none⟩ (.int .i64 (k0 : Int))).setCell ⟨g_, 1, none⟩ (.int .i64 (m8 : Int))).setCell ⟨g_, 2, none⟩ (.slice Ak (kk m3).length ck)).setCell ⟨g_, 3, none⟩ (.slice Aw S8.size cw)).setCell ⟨g_, 4, none⟩ (.slice Av S4.size av)) := ⟨_, rfl⟩
 rw [← hV3]
 have old_ := K4.out
 have hge_ : w.heap.size ≤ g_ := by have z_ := HG4.out; omega
 have hst_ : St w.heap.size w (g_) 24 #[.int .i64 (k0 : Int), .int .i64 (m8 : Int), .slice Ak (kk m3).length ck, .slice Aw S8.size cw, .slice Av S4.size av] W_ V3 := by rw [hV3]; exact (St.next (St.next (St.next (St.next (St.first HB.out hge_ K4.out 0 _ rfl) hge_ 1 _ rfl) hge_ 2 _ rfl) hge_ 3 _ rfl) hge_ 4 _ rfl)
 replace HB := Aside0.mk hst_.1
 replace K4 := Aside0.mk hst_.2.1
 replace K0 := Aside0.mk ((hst_.2.2.1 (w.heap.size) (by have z_ := HG4.out; omega)).trans K0.out)
 replace HVal := Aside0.mk (C_ne HVal.out old_ hst_.2.2.1 (by rintro (_ | _ | _ | _ | _ | o) x <;> simp))
 replace HKy := Aside0.mk (C_ne HKy.out old_ hst_.2.2.1 (by rintro (_ | _ | _ | _ | _ | o) x <;> simp))
 replace HVl := Aside0.mk (C_ne HVl.out old_ hst_.2.2.1 (by rintro (_ | _ | _ | _ | _ | o) x <;> simp))
 have SV3 := Aside0.mk hst_.2.2.2
 clear hV3 hst_ hge_ old_
 have n1 : ¬ g_ = w.heap.size := by have z_ := HG4.out; omega
 have n2 : ¬ w.heap.size = g_ := by have z_ := HG4.out; omega
 by_cases hA : k0 = 0 ∨ k0 = 12
 ·
  by_cases hZ : z19 = 0
  ·
   have a1 : ((k0 : Int) == 0 || (k0 : Int) == 12) = true := by rcases hA with h | h <;> simp [h]
   have q2 : ((z19 : Int) == 0) = true := by simp [hZ]
   clear a1
   rcases (show (k0 = 0 ∨ (k0 ≠ 0 ∧ k0 = 12)) by omega) with h0 | ⟨h0, h1⟩
   ·
    have q1 : ((k0 : Int) == 0) = true := by simp [h0]
    clear h0
    obtain ⟨y0, y1, y2, y3, y4, y5⟩ := cells5 K4.out
    have y50 := y5 0
    have y51 := y5 1
    have y52 := y5 2
    have y53 := y5 3
    have y54 := y5 4
    clear y5
    go_wp2_with (
     (with_reducible refine gate_dst (N := 39) rfl ?_)
     clear y0 y1 y2 y3 y4 y50 y51 y52 y53 y54
     refine Kd.R_lit ki V3.heap.size 3 ?hg (N := 39) ?hd (xs := [1, 2, 4, 9]) (inner := [.int .i64 1, .int .i64 2, .int .i64 4, .int .i64 9]) (ok := fun _ => True) (okp := fun _ => True) ?hr ?hp (fun _ hk => hk) trivial (Below.refl _ _) (Nat.le_refl _) (by decide) ?_
     (case hd => rfl)
     (case hg => rfl)
     (case hr => first | (go_simp; done) | (go_simp; rfl))
     (case hp => exact reps_ints [1, 2, 4, 9])
     intro v39 V4 ho hb_ hg_ hnew_
     obtain ⟨Bq, cq, rfl⟩ := Kd.R_slice ho
     obtain ⟨adq, cc, rfl, _, hKq, hcq⟩ := Kd.C_get (Kd.R_reads' ho).2.2 0 (m17 : Int) (by omega) (by have := HM17.out; simp; omega)
     have hcell := hcq 0 (.int .i64 (([1, 2, 4, 9] : List Int).getD (m17 : Int).toNat 0)) (by rw [show cc = [.int .i64 (([1, 2, 4, 9] : List Int).getD (m17 : Int).toNat 0)] from hKq]; rfl)
     simp only [Int.toNat_natCast, show ki.sz = 1 from rfl, Nat.mul_one, Nat.add_zero] at hcell
     obtain ⟨X17, hX17⟩ : ∃ x, x = ([1, 2, 4, 9] : List Int).getD m17 0 := ⟨_, rfl⟩
     have HX17 := Aside0.mk hX17
     rw [← hX17] at hcell
     have e5 : (m17 : Int) < 4 := by have := HM17.out; omega
     have e6 : (0 : Int) ≤ (m17 : Int) := by omega
     have e7 : m17 < 4 := by have := HM17.out; omega
     clear hX17 hKq hcq ho hg_ hnew_
     replace HB := Aside0.mk (below_then HB.out HB.out.size hb_)
     replace K0 := Aside0.mk (blk_keep K0.out hb_)
     replace K4 := Aside0.mk (blk_keep K4.out hb_)
     replace HVal := Aside0.mk (Kd.C_below HVal.out hb_)
     replace HKy := Aside0.mk (Kd.C_below HKy.out hb_)
     replace HVl := Aside0.mk (Kd.C_below HVl.out hb_)
     clear hb_
     obtain ⟨y0, y1, y2, y3, y4, y5⟩ := cells5 K4.out
     have y50 := y5 0
     have y51 := y5 1
     have y52 := y5 2
     have y53 := y5 3
     have y54 := y5 4
     clear y5
     obtain ⟨x0, x1, x2, x3, x4, x5⟩ := cells5 K0.out
     have x50 := x5 0
     have x51 := x5 1
     have x52 := x5 2
     have x53 := x5 3
     have x54 := x5 4
     clear x5)
    clear y0 y1 y2 y3 y4 y50 y51 y52 y53 y54
    clear x0 x1 x2 x3 x4 x50 x51 x52 x53 x54
    clear hcell e5 e6 e7 n1 n2
    obtain ⟨Y1, hY1⟩ : ∃ V_, V_ = (V4.setCell ⟨g_, 0, none⟩ (.int .i64 (X17 : Int))) := ⟨_, rfl⟩
    rw [← hY1]
    have old_ := K4.out
    have hge_ : w.heap.size ≤ g_ := by have z_ := HG4.out; omega
    have hst_ : St w.heap.size w (g_) 24 #[.int .i64 (X17 : Int), .int .i64 (m8 : Int), .slice Ak (kk m3).length ck, .slice Aw S8.size cw, .slice Av S4.size av] V4 Y1 := by rw [hY1]; exact (St.first HB.out hge_ K4.out 0 _ rfl)
    replace HB := Aside0.mk hst_.1
    replace K4 := Aside0.mk hst_.2.1
    replace K0 := Aside0.mk ((hst_.2.2.1 (w.heap.size) (by have z_ := HG4.out; omega)).trans K0.out)
    replace HVal := Aside0.mk (C_ne HVal.out old_ hst_.2.2.1 (by rintro (_ | _ | _ | _ | _ | o) x <;> simp))
    replace HKy := Aside0.mk (C_ne HKy.out old_ hst_.2.2.1 (by rintro (_ | _ | _ | _ | _ | o) x <;> simp))
    replace HVl := Aside0.mk (C_ne HVl.out old_ hst_.2.2.1 (by rintro (_ | _ | _ | _ | _ | o) x <;> simp))
    have SY1 := Aside0.mk hst_.2.2.2
    clear hY1 hst_ hge_ old_
    obtain ⟨Y2, hY2⟩ : ∃ V_, V_ = (Y1.setCell ⟨g_, 0, none⟩ (.int .i64 (z24 : Int))) := ⟨_, rfl⟩
    rw [← hY2]
    have old_ := K4.out
    have hge_ : w.heap.size ≤ g_ := by have z_ := HG4.out; omega
    have hst_ : St w.heap.size w (g_) 24 #[.int .i64 (z24 : Int), .int .i64 (m8 : Int), .slice Ak (kk m3).length ck, .slice Aw S8.size cw, .slice Av S4.size av] Y1 Y2 := by rw [hY2]; exact (St.first HB.out hge_ K4.out 0 _ rfl)
    replace HB := Aside0.mk hst_.1
    replace K4 := Aside0.mk hst_.2.1
    replace K0 := Aside0.mk ((hst_.2.2.1 (w.heap.size) (by have z_ := HG4.out; omega)).trans K0.out)
    replace HVal := Aside0.mk (C_ne HVal.out old_ hst_.2.2.1 (by rintro (_ | _ | _ | _ | _ | o) x <;> simp))
    replace HKy := Aside0.mk (C_ne HKy.out old_ hst_.2.2.1 (by rintro (_ | _ | _ | _ | _ | o) x <;> simp))
    replace HVl := Aside0.mk (C_ne HVl.out old_ hst_.2.2.1 (by rintro (_ | _ | _ | _ | _ | o) x <;> simp))
    have SY2 := Aside0.mk hst_.2.2.2
    clear hY2 hst_ hge_ old_
    obtain ⟨Y3, hY3⟩ : ∃ V_, V_ = (Y2.setCell ⟨g_, 1, none⟩ (.int .i64 ((z17 : Int) - 20))) := ⟨_, rfl⟩
    rw [← hY3]
    have old_ := K4.out
    have hge_ : w.heap.size ≤ g_ := by have z_ := HG4.out; omega
    have hst_ : St w.heap.size w (g_) 24 #[.int .i64 (z24 : Int), .int .i64 ((z17 : Int) - 20), .slice Ak (kk m3).length ck, .slice Aw S8.size cw, .slice Av S4.size av] Y2 Y3 := by rw [hY3]; exact (St.first HB.out hge_ K4.out 1 _ rfl)
    replace HB := Aside0.mk hst_.1
    replace K4 := Aside0.mk hst_.2.1
    replace K0 := Aside0.mk ((hst_.2.2.1 (w.heap.size) (by have z_ := HG4.out; omega)).trans K0.out)
    replace HVal := Aside0.mk (C_ne HVal.out old_ hst_.2.2.1 (by rintro (_ | _ | _ | _ | _ | o) x <;> simp))
    replace HKy := Aside0.mk (C_ne HKy.out old_ hst_.2.2.1 (by rintro (_ | _ | _ | _ | _ | o) x <;> simp))
    replace HVl := Aside0.mk (C_ne HVl.out old_ hst_.2.2.1 (by rintro (_ | _ | _ | _ | _ | o) x <;> simp))
    have SY3 := Aside0.mk hst_.2.2.2
    clear hY3 hst_ hge_ old_
    obtain ⟨Y9, hY9⟩ : ∃ V_, V_ = (((((Y3.setCell ⟨w.heap.size, 0, none⟩ (.int .i64 (z24 : Int))).setCell ⟨w.heap.size, 1, none⟩ (.int .i64 ((z17 : Int) - 20))).setCell ⟨w.heap.size, 2, none⟩ (.slice Ak (kk m3).length ck)).setCell ⟨w.heap.size, 3, none⟩ (.slice Aw S8.size cw)).setCell ⟨w.heap.size, 4, none⟩ (.slice Av S4.size av)) := ⟨_, rfl⟩
    rw [← hY9]
    have old_ := K0.out
    have hge_ : w.heap.size ≤ w.heap.size := by have z_ := HG4.out; omega
    have hst_ : St w.heap.size w (w.heap.size) 24 #[.int .i64 (z24 : Int), .int .i64 ((z17 : Int) - 20), .slice Ak (kk m3).length ck, .slice Aw S8.size cw, .slice Av S4.size av] Y3 Y9 := by rw [hY9]; exact (St.next (St.next (St.next (St.next (St.first HB.out hge_ K0.out 0 _ rfl) hge_ 1 _ rfl) hge_ 2 _ rfl) hge_ 3 _ rfl) hge_ 4 _ rfl)
    replace HB := Aside0.mk hst_.1
    replace K0 := Aside0.mk hst_.2.1
    replace K4 := Aside0.mk ((hst_.2.2.1 (g_) (by have z_ := HG4.out; omega)).trans K4.out)
    replace HVal := Aside0.mk (C_ne HVal.out old_ hst_.2.2.1 (by rintro (_ | _ | _ | _ | _ | o) x <;> simp))
    replace HKy := Aside0.mk (C_ne HKy.out old_ hst_.2.2.1 (by rintro (_ | _ | _ | _ | _ | o) x <;> simp))
    replace HVl := Aside0.mk (C_ne HVl.out old_ hst_.2.2.1 (by rintro (_ | _ | _ | _ | _ | o) x <;> simp))
    have SY9 := Aside0.mk hst_.2.2.2
    clear hY9 hst_ hge_ old_
    refine bodyPost_ret (results_cell_row rfl _ _ w.heap.size 24 #[.int .i64 (z24 : Int), .int .i64 ((z17 : Int) - 20), .slice Ak (kk m3).length ck, .slice Aw S8.size cw, .slice Av S4.size av] (0, 0) _ rfl K0.out Try.underlying24 rfl (by kernel_rfl)) rfl ?_
    rw [show cmdKf z19 z24 k0 m17 = (z24 : Int) from by unfold cmdKf; rw [if_pos hZ], show cmdWf z19 z17 m8 = ((z17 : Int) - 20) from by unfold cmdWf; rw [if_pos hZ]]
    exact ⟨Ak, ck, Aw, cw, Av, av, by rw [← HS8.out, ← HS4.out], LKy.out, HKy.out, by rw [← HS8.out]; exact HCW.out, by rw [← HS8.out]; exact HVal.out, by rw [← HS4.out]; exact LVl.out, by rw [← HS4.out]; exact HVl.out, HB.out⟩
   ·
    have q1 : ((k0 : Int) == 0) = false := by simp [h0]
    have q3 : ((k0 : Int) == 12) = true := by simp [h1]
    clear h0 h1
    obtain ⟨y0, y1, y2, y3, y4, y5⟩ := cells5 K4.out
    have y50 := y5 0
    have y51 := y5 1
    have y52 := y5 2
    have y53 := y5 3
    have y54 := y5 4
    clear y5
    go_wp2_with (
     (with_reducible refine gate_dst (N := 39) rfl ?_)
     clear y0 y1 y2 y3 y4 y50 y51 y52 y53 y54
     refine Kd.R_lit ki V3.heap.size 3 ?hg (N := 39) ?hd (xs := [1, 2, 4, 9]) (inner := [.int .i64 1, .int .i64 2, .int .i64 4, .int .i64 9]) (ok := fun _ => True) (okp := fun _ => True) ?hr ?hp (fun _ hk => hk) trivial (Below.refl _ _) (Nat.le_refl _) (by decide) ?_
     (case hd => rfl)
     (case hg => rfl)
     (case hr => first | (go_simp; done) | (go_simp; rfl))
     (case hp => exact reps_ints [1, 2, 4, 9])
     intro v39 V4 ho hb_ hg_ hnew_
     obtain ⟨Bq, cq, rfl⟩ := Kd.R_slice ho
     obtain ⟨adq, cc, rfl, _, hKq, hcq⟩ := Kd.C_get (Kd.R_reads' ho).2.2 0 (m17 : Int) (by omega) (by have := HM17.out; simp; omega)
     have hcell := hcq 0 (.int .i64 (([1, 2, 4, 9] : List Int).getD (m17 : Int).toNat 0)) (by rw [show cc = [.int .i64 (([1, 2, 4, 9] : List Int).getD (m17 : Int).toNat 0)] from hKq]; rfl)
     simp only [Int.toNat_natCast, show ki.sz = 1 from rfl, Nat.mul_one, Nat.add_zero] at hcell
     obtain ⟨X17, hX17⟩ : ∃ x, x = ([1, 2, 4, 9] : List Int).getD m17 0 := ⟨_, rfl⟩
     have HX17 := Aside0.mk hX17
     rw [← hX17] at hcell
     have e5 : (m17 : Int) < 4 := by have := HM17.out; omega
     have e6 : (0 : Int) ≤ (m17 : Int) := by omega
     have e7 : m17 < 4 := by have := HM17.out; omega
     clear hX17 hKq hcq ho hg_ hnew_
     replace HB := Aside0.mk (below_then HB.out HB.out.size hb_)
     replace K0 := Aside0.mk (blk_keep K0.out hb_)
     replace K4 := Aside0.mk (blk_keep K4.out hb_)
     replace HVal := Aside0.mk (Kd.C_below HVal.out hb_)
     replace HKy := Aside0.mk (Kd.C_below HKy.out hb_)
     replace HVl := Aside0.mk (Kd.C_below HVl.out hb_)
     clear hb_
     obtain ⟨y0, y1, y2, y3, y4, y5⟩ := cells5 K4.out
     have y50 := y5 0
     have y51 := y5 1
     have y52 := y5 2
     have y53 := y5 3
     have y54 := y5 4
     clear y5
     obtain ⟨x0, x1, x2, x3, x4, x5⟩ := cells5 K0.out
     have x50 := x5 0
     have x51 := x5 1
     have x52 := x5 2
     have x53 := x5 3
     have x54 := x5 4
     clear x5)
    clear y0 y1 y2 y3 y4 y50 y51 y52 y53 y54
    clear x0 x1 x2 x3 x4 x50 x51 x52 x53 x54
    clear hcell e5 e6 e7 n1 n2
    obtain ⟨Y1, hY1⟩ : ∃ V_, V_ = (V4.setCell ⟨g_, 0, none⟩ (.int .i64 (X17 : Int))) := ⟨_, rfl⟩
    rw [← hY1]
    have old_ := K4.out
    have hge_ : w.heap.size ≤ g_ := by have z_ := HG4.out; omega
    have hst_ : St w.heap.size w (g_) 24 #[.int .i64 (X17 : Int), .int .i64 (m8 : Int), .slice Ak (kk m3).length ck, .slice Aw S8.size cw, .slice Av S4.size av] V4 Y1 := by rw [hY1]; exact (St.first HB.out hge_ K4.out 0 _ rfl)
    replace HB := Aside0.mk hst_.1
    replace K4 := Aside0.mk hst_.2.1
    replace K0 := Aside0.mk ((hst_.2.2.1 (w.heap.size) (by have z_ := HG4.out; omega)).trans K0.out)
    replace HVal := Aside0.mk (C_ne HVal.out old_ hst_.2.2.1 (by rintro (_ | _ | _ | _ | _ | o) x <;> simp))
    replace HKy := Aside0.mk (C_ne HKy.out old_ hst_.2.2.1 (by rintro (_ | _ | _ | _ | _ | o) x <;> simp))
    replace HVl := Aside0.mk (C_ne HVl.out old_ hst_.2.2.1 (by rintro (_ | _ | _ | _ | _ | o) x <;> simp))
    have SY1 := Aside0.mk hst_.2.2.2
    clear hY1 hst_ hge_ old_
    obtain ⟨Y2, hY2⟩ : ∃ V_, V_ = (Y1.setCell ⟨g_, 0, none⟩ (.int .i64 (z24 : Int))) := ⟨_, rfl⟩
    rw [← hY2]
    have old_ := K4.out
    have hge_ : w.heap.size ≤ g_ := by have z_ := HG4.out; omega
    have hst_ : St w.heap.size w (g_) 24 #[.int .i64 (z24 : Int), .int .i64 (m8 : Int), .slice Ak (kk m3).length ck, .slice Aw S8.size cw, .slice Av S4.size av] Y1 Y2 := by rw [hY2]; exact (St.first HB.out hge_ K4.out 0 _ rfl)
    replace HB := Aside0.mk hst_.1
    replace K4 := Aside0.mk hst_.2.1
    replace K0 := Aside0.mk ((hst_.2.2.1 (w.heap.size) (by have z_ := HG4.out; omega)).trans K0.out)
    replace HVal := Aside0.mk (C_ne HVal.out old_ hst_.2.2.1 (by rintro (_ | _ | _ | _ | _ | o) x <;> simp))
    replace HKy := Aside0.mk (C_ne HKy.out old_ hst_.2.2.1 (by rintro (_ | _ | _ | _ | _ | o) x <;> simp))
    replace HVl := Aside0.mk (C_ne HVl.out old_ hst_.2.2.1 (by rintro (_ | _ | _ | _ | _ | o) x <;> simp))
    have SY2 := Aside0.mk hst_.2.2.2
    clear hY2 hst_ hge_ old_
    obtain ⟨Y3, hY3⟩ : ∃ V_, V_ = (Y2.setCell ⟨g_, 1, none⟩ (.int .i64 ((z17 : Int) - 20))) := ⟨_, rfl⟩
    rw [← hY3]
    have old_ := K4.out
    have hge_ : w.heap.size ≤ g_ := by have z_ := HG4.out; omega
    have hst_ : St w.heap.size w (g_) 24 #[.int .i64 (z24 : Int), .int .i64 ((z17 : Int) - 20), .slice Ak (kk m3).length ck, .slice Aw S8.size cw, .slice Av S4.size av] Y2 Y3 := by rw [hY3]; exact (St.first HB.out hge_ K4.out 1 _ rfl)
    replace HB := Aside0.mk hst_.1
    replace K4 := Aside0.mk hst_.2.1
    replace K0 := Aside0.mk ((hst_.2.2.1 (w.heap.size) (by have z_ := HG4.out; omega)).trans K0.out)
    replace HVal := Aside0.mk (C_ne HVal.out old_ hst_.2.2.1 (by rintro (_ | _ | _ | _ | _ | o) x <;> simp))
    replace HKy := Aside0.mk (C_ne HKy.out old_ hst_.2.2.1 (by rintro (_ | _ | _ | _ | _ | o) x <;> simp))
    replace HVl := Aside0.mk (C_ne HVl.out old_ hst_.2.2.1 (by rintro (_ | _ | _ | _ | _ | o) x <;> simp))
    have SY3 := Aside0.mk hst_.2.2.2
    clear hY3 hst_ hge_ old_
    obtain ⟨Y9, hY9⟩ : ∃ V_, V_ = (((((Y3.setCell ⟨w.heap.size, 0, none⟩ (.int .i64 (z24 : Int))).setCell ⟨w.heap.size, 1, none⟩ (.int .i64 ((z17 : Int) - 20))).setCell ⟨w.heap.size, 2, none⟩ (.slice Ak (kk m3).length ck)).setCell ⟨w.heap.size, 3, none⟩ (.slice Aw S8.size cw)).setCell ⟨w.heap.size, 4, none⟩ (.slice Av S4.size av)) := ⟨_, rfl⟩
    rw [← hY9]
    have old_ := K0.out
    have hge_ : w.heap.size ≤ w.heap.size := by have z_ := HG4.out; omega
    have hst_ : St w.heap.size w (w.heap.size) 24 #[.int .i64 (z24 : Int), .int .i64 ((z17 : Int) - 20), .slice Ak (kk m3).length ck, .slice Aw S8.size cw, .slice Av S4.size av] Y3 Y9 := by rw [hY9]; exact (St.next (St.next (St.next (St.next (St.first HB.out hge_ K0.out 0 _ rfl) hge_ 1 _ rfl) hge_ 2 _ rfl) hge_ 3 _ rfl) hge_ 4 _ rfl)
    replace HB := Aside0.mk hst_.1
    replace K0 := Aside0.mk hst_.2.1
    replace K4 := Aside0.mk ((hst_.2.2.1 (g_) (by have z_ := HG4.out; omega)).trans K4.out)
    replace HVal := Aside0.mk (C_ne HVal.out old_ hst_.2.2.1 (by rintro (_ | _ | _ | _ | _ | o) x <;> simp))
    replace HKy := Aside0.mk (C_ne HKy.out old_ hst_.2.2.1 (by rintro (_ | _ | _ | _ | _ | o) x <;> simp))
    replace HVl := Aside0.mk (C_ne HVl.out old_ hst_.2.2.1 (by rintro (_ | _ | _ | _ | _ | o) x <;> simp))
    have SY9 := Aside0.mk hst_.2.2.2
    clear hY9 hst_ hge_ old_
    refine bodyPost_ret (results_cell_row rfl _ _ w.heap.size 24 #[.int .i64 (z24 : Int), .int .i64 ((z17 : Int) - 20), .slice Ak (kk m3).length ck, .slice Aw S8.size cw, .slice Av S4.size av] (0, 0) _ rfl K0.out Try.underlying24 rfl (by kernel_rfl)) rfl ?_
    rw [show cmdKf z19 z24 k0 m17 = (z24 : Int) from by unfold cmdKf; rw [if_pos hZ], show cmdWf z19 z17 m8 = ((z17 : Int) - 20) from by unfold cmdWf; rw [if_pos hZ]]
    exact ⟨Ak, ck, Aw, cw, Av, av, by rw [← HS8.out, ← HS4.out], LKy.out, HKy.out, by rw [← HS8.out]; exact HCW.out, by rw [← HS8.out]; exact HVal.out, by rw [← HS4.out]; exact LVl.out, by rw [← HS4.out]; exact HVl.out, HB.out⟩
  ·
   have a1 : ((k0 : Int) == 0 || (k0 : Int) == 12) = true := by rcases hA with h | h <;> simp [h]
   have q2 : ((z19 : Int) == 0) = false := by simp [hZ]
   clear a1
   rcases (show (k0 = 0 ∨ (k0 ≠ 0 ∧ k0 = 12)) by omega) with h0 | ⟨h0, h1⟩
   ·
    have q1 : ((k0 : Int) == 0) = true := by simp [h0]
    clear h0
    obtain ⟨y0, y1, y2, y3, y4, y5⟩ := cells5 K4.out
    have y50 := y5 0
    have y51 := y5 1
    have y52 := y5 2
    have y53 := y5 3
    have y54 := y5 4
    clear y5
    go_wp2_with (
     (with_reducible refine gate_dst (N := 39) rfl ?_)
     clear y0 y1 y2 y3 y4 y50 y51 y52 y53 y54
     refine Kd.R_lit ki V3.heap.size 3 ?hg (N := 39) ?hd (xs := [1, 2, 4, 9]) (inner := [.int .i64 1, .int .i64 2, .int .i64 4, .int .i64 9]) (ok := fun _ => True) (okp := fun _ => True) ?hr ?hp (fun _ hk => hk) trivial (Below.refl _ _) (Nat.le_refl _) (by decide) ?_
     (case hd => rfl)
     (case hg => rfl)
     (case hr => first | (go_simp; done) | (go_simp; rfl))
     (case hp => exact reps_ints [1, 2, 4, 9])
     intro v39 V4 ho hb_ hg_ hnew_
     obtain ⟨Bq, cq, rfl⟩ := Kd.R_slice ho
     obtain ⟨adq, cc, rfl, _, hKq, hcq⟩ := Kd.C_get (Kd.R_reads' ho).2.2 0 (m17 : Int) (by omega) (by have := HM17.out; simp; omega)
     have hcell := hcq 0 (.int .i64 (([1, 2, 4, 9] : List Int).getD (m17 : Int).toNat 0)) (by rw [show cc = [.int .i64 (([1, 2, 4, 9] : List Int).getD (m17 : Int).toNat 0)] from hKq]; rfl)
     simp only [Int.toNat_natCast, show ki.sz = 1 from rfl, Nat.mul_one, Nat.add_zero] at hcell
     obtain ⟨X17, hX17⟩ : ∃ x, x = ([1, 2, 4, 9] : List Int).getD m17 0 := ⟨_, rfl⟩
     have HX17 := Aside0.mk hX17
     rw [← hX17] at hcell
     have e5 : (m17 : Int) < 4 := by have := HM17.out; omega
     have e6 : (0 : Int) ≤ (m17 : Int) := by omega
     have e7 : m17 < 4 := by have := HM17.out; omega
     clear hX17 hKq hcq ho hg_ hnew_
     replace HB := Aside0.mk (below_then HB.out HB.out.size hb_)
     replace K0 := Aside0.mk (blk_keep K0.out hb_)
     replace K4 := Aside0.mk (blk_keep K4.out hb_)
     replace HVal := Aside0.mk (Kd.C_below HVal.out hb_)
     replace HKy := Aside0.mk (Kd.C_below HKy.out hb_)
     replace HVl := Aside0.mk (Kd.C_below HVl.out hb_)
     clear hb_
     obtain ⟨y0, y1, y2, y3, y4, y5⟩ := cells5 K4.out
     have y50 := y5 0
     have y51 := y5 1
     have y52 := y5 2
     have y53 := y5 3
     have y54 := y5 4
     clear y5
     obtain ⟨x0, x1, x2, x3, x4, x5⟩ := cells5 K0.out
     have x50 := x5 0
     have x51 := x5 1
     have x52 := x5 2
     have x53 := x5 3
     have x54 := x5 4
     clear x5)
    clear y0 y1 y2 y3 y4 y50 y51 y52 y53 y54
    clear x0 x1 x2 x3 x4 x50 x51 x52 x53 x54
    clear hcell e5 e6 e7 n1 n2
    obtain ⟨Y1, hY1⟩ : ∃ V_, V_ = (V4.setCell ⟨g_, 0, none⟩ (.int .i64 (X17 : Int))) := ⟨_, rfl⟩
    rw [← hY1]
    have old_ := K4.out
    have hge_ : w.heap.size ≤ g_ := by have z_ := HG4.out; omega
    have hst_ : St w.heap.size w (g_) 24 #[.int .i64 (X17 : Int), .int .i64 (m8 : Int), .slice Ak (kk m3).length ck, .slice Aw S8.size cw, .slice Av S4.size av] V4 Y1 := by rw [hY1]; exact (St.first HB.out hge_ K4.out 0 _ rfl)
    replace HB := Aside0.mk hst_.1
    replace K4 := Aside0.mk hst_.2.1
    replace K0 := Aside0.mk ((hst_.2.2.1 (w.heap.size) (by have z_ := HG4.out; omega)).trans K0.out)
    replace HVal := Aside0.mk (C_ne HVal.out old_ hst_.2.2.1 (by rintro (_ | _ | _ | _ | _ | o) x <;> simp))
    replace HKy := Aside0.mk (C_ne HKy.out old_ hst_.2.2.1 (by rintro (_ | _ | _ | _ | _ | o) x <;> simp))
    replace HVl := Aside0.mk (C_ne HVl.out old_ hst_.2.2.1 (by rintro (_ | _ | _ | _ | _ | o) x <;> simp))
    have SY1 := Aside0.mk hst_.2.2.2
    clear hY1 hst_ hge_ old_
    obtain ⟨Y9, hY9⟩ : ∃ V_, V_ = (((((Y1.setCell ⟨w.heap.size, 0, none⟩ (.int .i64 (X17 : Int))).setCell ⟨w.heap.size, 1, none⟩ (.int .i64 (m8 : Int))).setCell ⟨w.heap.size, 2, none⟩ (.slice Ak (kk m3).length ck)).setCell ⟨w.heap.size, 3, none⟩ (.slice Aw S8.size cw)).setCell ⟨w.heap.size, 4, none⟩ (.slice Av S4.size av)) := ⟨_, rfl⟩
    rw [← hY9]
    have old_ := K0.out
    have hge_ : w.heap.size ≤ w.heap.size := by have z_ := HG4.out; omega
    have hst_ : St w.heap.size w (w.heap.size) 24 #[.int .i64 (X17 : Int), .int .i64 (m8 : Int), .slice Ak (kk m3).length ck, .slice Aw S8.size cw, .slice Av S4.size av] Y1 Y9 := by rw [hY9]; exact (St.next (St.next (St.next (St.next (St.first HB.out hge_ K0.out 0 _ rfl) hge_ 1 _ rfl) hge_ 2 _ rfl) hge_ 3 _ rfl) hge_ 4 _ rfl)
    replace HB := Aside0.mk hst_.1
    replace K0 := Aside0.mk hst_.2.1
    replace K4 := Aside0.mk ((hst_.2.2.1 (g_) (by have z_ := HG4.out; omega)).trans K4.out)
    replace HVal := Aside0.mk (C_ne HVal.out old_ hst_.2.2.1 (by rintro (_ | _ | _ | _ | _ | o) x <;> simp))
    replace HKy := Aside0.mk (C_ne HKy.out old_ hst_.2.2.1 (by rintro (_ | _ | _ | _ | _ | o) x <;> simp))
    replace HVl := Aside0.mk (C_ne HVl.out old_ hst_.2.2.1 (by rintro (_ | _ | _ | _ | _ | o) x <;> simp))
    have SY9 := Aside0.mk hst_.2.2.2
    clear hY9 hst_ hge_ old_
    refine bodyPost_ret (results_cell_row rfl _ _ w.heap.size 24 #[.int .i64 (X17 : Int), .int .i64 (m8 : Int), .slice Ak (kk m3).length ck, .slice Aw S8.size cw, .slice Av S4.size av] (0, 0) _ rfl K0.out Try.underlying24 rfl (by kernel_rfl)) rfl ?_
    rw [show cmdKf z19 z24 k0 m17 = (X17 : Int) from by unfold cmdKf; rw [if_neg hZ, if_pos hA]; exact HX17.out.symm, show cmdWf z19 z17 m8 = (m8 : Int) from by unfold cmdWf; rw [if_neg hZ]]
    exact ⟨Ak, ck, Aw, cw, Av, av, by rw [← HS8.out, ← HS4.out], LKy.out, HKy.out, by rw [← HS8.out]; exact HCW.out, by rw [← HS8.out]; exact HVal.out, by rw [← HS4.out]; exact LVl.out, by rw [← HS4.out]; exact HVl.out, HB.out⟩
   ·
    have q1 : ((k0 : Int) == 0) = false := by simp [h0]
    have q3 : ((k0 : Int) == 12) = true := by simp [h1]
    clear h0 h1
    obtain ⟨y0, y1, y2, y3, y4, y5⟩ := cells5 K4.out
    have y50 := y5 0
    have y51 := y5 1
    have y52 := y5 2
    have y53 := y5 3
    have y54 := y5 4
    clear y5
    go_wp2_with (
     (with_reducible refine gate_dst (N := 39) rfl ?_)
     clear y0 y1 y2 y3 y4 y50 y51 y52 y53 y54
     refine Kd.R_lit ki V3.heap.size 3 ?hg (N := 39) ?hd (xs := [1, 2, 4, 9]) (inner := [.int .i64 1, .int .i64 2, .int .i64 4, .int .i64 9]) (ok := fun _ => True) (okp := fun _ => True) ?hr ?hp (fun _ hk => hk) trivial (Below.refl _ _) (Nat.le_refl _) (by decide) ?_
     (case hd => rfl)
     (case hg => rfl)
     (case hr => first | (go_simp; done) | (go_simp; rfl))
     (case hp => exact reps_ints [1, 2, 4, 9])
     intro v39 V4 ho hb_ hg_ hnew_
     obtain ⟨Bq, cq, rfl⟩ := Kd.R_slice ho
     obtain ⟨adq, cc, rfl, _, hKq, hcq⟩ := Kd.C_get (Kd.R_reads' ho).2.2 0 (m17 : Int) (by omega) (by have := HM17.out; simp; omega)
     have hcell := hcq 0 (.int .i64 (([1, 2, 4, 9] : List Int).getD (m17 : Int).toNat 0)) (by rw [show cc = [.int .i64 (([1, 2, 4, 9] : List Int).getD (m17 : Int).toNat 0)] from hKq]; rfl)
     simp only [Int.toNat_natCast, show ki.sz = 1 from rfl, Nat.mul_one, Nat.add_zero] at hcell
     obtain ⟨X17, hX17⟩ : ∃ x, x = ([1, 2, 4, 9] : List Int).getD m17 0 := ⟨_, rfl⟩
     have HX17 := Aside0.mk hX17
     rw [← hX17] at hcell
     have e5 : (m17 : Int) < 4 := by have := HM17.out; omega
     have e6 : (0 : Int) ≤ (m17 : Int) := by omega
     have e7 : m17 < 4 := by have := HM17.out; omega
     clear hX17 hKq hcq ho hg_ hnew_
     replace HB := Aside0.mk (below_then HB.out HB.out.size hb_)
     replace K0 := Aside0.mk (blk_keep K0.out hb_)
     replace K4 := Aside0.mk (blk_keep K4.out hb_)
     replace HVal := Aside0.mk (Kd.C_below HVal.out hb_)
     replace HKy := Aside0.mk (Kd.C_below HKy.out hb_)
     replace HVl := Aside0.mk (Kd.C_below HVl.out hb_)
     clear hb_
     obtain ⟨y0, y1, y2, y3, y4, y5⟩ := cells5 K4.out
     have y50 := y5 0
     have y51 := y5 1
     have y52 := y5 2
     have y53 := y5 3
     have y54 := y5 4
     clear y5
     obtain ⟨x0, x1, x2, x3, x4, x5⟩ := cells5 K0.out
     have x50 := x5 0
     have x51 := x5 1
     have x52 := x5 2
     have x53 := x5 3
     have x54 := x5 4
     clear x5)
    clear y0 y1 y2 y3 y4 y50 y51 y52 y53 y54
    clear x0 x1 x2 x3 x4 x50 x51 x52 x53 x54
    clear hcell e5 e6 e7 n1 n2
    obtain ⟨Y1, hY1⟩ : ∃ V_, V_ = (V4.setCell ⟨g_, 0, none⟩ (.int .i64 (X17 : Int))) := ⟨_, rfl⟩
    rw [← hY1]
    have old_ := K4.out
    have hge_ : w.heap.size ≤ g_ := by have z_ := HG4.out; omega
    have hst_ : St w.heap.size w (g_) 24 #[.int .i64 (X17 : Int), .int .i64 (m8 : Int), .slice Ak (kk m3).length ck, .slice Aw S8.size cw, .slice Av S4.size av] V4 Y1 := by rw [hY1]; exact (St.first HB.out hge_ K4.out 0 _ rfl)
    replace HB := Aside0.mk hst_.1
    replace K4 := Aside0.mk hst_.2.1
    replace K0 := Aside0.mk ((hst_.2.2.1 (w.heap.size) (by have z_ := HG4.out; omega)).trans K0.out)
    replace HVal := Aside0.mk (C_ne HVal.out old_ hst_.2.2.1 (by rintro (_ | _ | _ | _ | _ | o) x <;> simp))
    replace HKy := Aside0.mk (C_ne HKy.out old_ hst_.2.2.1 (by rintro (_ | _ | _ | _ | _ | o) x <;> simp))
    replace HVl := Aside0.mk (C_ne HVl.out old_ hst_.2.2.1 (by rintro (_ | _ | _ | _ | _ | o) x <;> simp))
    have SY1 := Aside0.mk hst_.2.2.2
    clear hY1 hst_ hge_ old_
    obtain ⟨Y9, hY9⟩ : ∃ V_, V_ = (((((Y1.setCell ⟨w.heap.size, 0, none⟩ (.int .i64 (X17 : Int))).setCell ⟨w.heap.size, 1, none⟩ (.int .i64 (m8 : Int))).setCell ⟨w.heap.size, 2, none⟩ (.slice Ak (kk m3).length ck)).setCell ⟨w.heap.size, 3, none⟩ (.slice Aw S8.size cw)).setCell ⟨w.heap.size, 4, none⟩ (.slice Av S4.size av)) := ⟨_, rfl⟩
    rw [← hY9]
    have old_ := K0.out
    have hge_ : w.heap.size ≤ w.heap.size := by have z_ := HG4.out; omega
    have hst_ : St w.heap.size w (w.heap.size) 24 #[.int .i64 (X17 : Int), .int .i64 (m8 : Int), .slice Ak (kk m3).length ck, .slice Aw S8.size cw, .slice Av S4.size av] Y1 Y9 := by rw [hY9]; exact (St.next (St.next (St.next (St.next (St.first HB.out hge_ K0.out 0 _ rfl) hge_ 1 _ rfl) hge_ 2 _ rfl) hge_ 3 _ rfl) hge_ 4 _ rfl)
    replace HB := Aside0.mk hst_.1
    replace K0 := Aside0.mk hst_.2.1
    replace K4 := Aside0.mk ((hst_.2.2.1 (g_) (by have z_ := HG4.out; omega)).trans K4.out)
    replace HVal := Aside0.mk (C_ne HVal.out old_ hst_.2.2.1 (by rintro (_ | _ | _ | _ | _ | o) x <;> simp))
    replace HKy := Aside0.mk (C_ne HKy.out old_ hst_.2.2.1 (by rintro (_ | _ | _ | _ | _ | o) x <;> simp))
    replace HVl := Aside0.mk (C_ne HVl.out old_ hst_.2.2.1 (by rintro (_ | _ | _ | _ | _ | o) x <;> simp))
    have SY9 := Aside0.mk hst_.2.2.2
    clear hY9 hst_ hge_ old_
    refine bodyPost_ret (results_cell_row rfl _ _ w.heap.size 24 #[.int .i64 (X17 : Int), .int .i64 (m8 : Int), .slice Ak (kk m3).length ck, .slice Aw S8.size cw, .slice Av S4.size av] (0, 0) _ rfl K0.out Try.underlying24 rfl (by kernel_rfl)) rfl ?_
    rw [show cmdKf z19 z24 k0 m17 = (X17 : Int) from by unfold cmdKf; rw [if_neg hZ, if_pos hA]; exact HX17.out.symm, show cmdWf z19 z17 m8 = (m8 : Int) from by unfold cmdWf; rw [if_neg hZ]]
    exact ⟨Ak, ck, Aw, cw, Av, av, by rw [← HS8.out, ← HS4.out], LKy.out, HKy.out, by rw [← HS8.out]; exact HCW.out, by rw [← HS8.out]; exact HVal.out, by rw [← HS4.out]; exact LVl.out, by rw [← HS4.out]; exact HVl.out, HB.out⟩
 ·
  by_cases hZ : z19 = 0
  ·
   have q2 : ((z19 : Int) == 0) = true := by simp [hZ]
   have q1 : ((k0 : Int) == 0) = false := by simp; omega
   have q3 : ((k0 : Int) == 12) = false := by simp; omega
   obtain ⟨y0, y1, y2, y3, y4, y5⟩ := cells5 K4.out
   have y50 := y5 0
   have y51 := y5 1
   have y52 := y5 2
   have y53 := y5 3
   have y54 := y5 4
   clear y5
   obtain ⟨x0, x1, x2, x3, x4, x5⟩ := cells5 K0.out
   have x50 := x5 0
   have x51 := x5 1
   have x52 := x5 2
   have x53 := x5 3
   have x54 := x5 4
   clear x5
   go_wp2_with fail
   clear y0 y1 y2 y3 y4 y50 y51 y52 y53 y54
   clear x0 x1 x2 x3 x4 x50 x51 x52 x53 x54
   clear n1 n2
   obtain ⟨Y1, hY1⟩ : ∃ V_, V_ = (V3.setCell ⟨g_, 0, none⟩ (.int .i64 (z24 : Int))) := ⟨_, rfl⟩
   rw [← hY1]
   have old_ := K4.out
   have hge_ : w.heap.size ≤ g_ := by have z_ := HG4.out; omega
   have hst_ : St w.heap.size w (g_) 24 #[.int .i64 (z24 : Int), .int .i64 (m8 : Int), .slice Ak (kk m3).length ck, .slice Aw S8.size cw, .slice Av S4.size av] V3 Y1 := by rw [hY1]; exact (St.first HB.out hge_ K4.out 0 _ rfl)
   replace HB := Aside0.mk hst_.1
   replace K4 := Aside0.mk hst_.2.1
   replace K0 := Aside0.mk ((hst_.2.2.1 (w.heap.size) (by have z_ := HG4.out; omega)).trans K0.out)
   replace HVal := Aside0.mk (C_ne HVal.out old_ hst_.2.2.1 (by rintro (_ | _ | _ | _ | _ | o) x <;> simp))
   replace HKy := Aside0.mk (C_ne HKy.out old_ hst_.2.2.1 (by rintro (_ | _ | _ | _ | _ | o) x <;> simp))
   replace HVl := Aside0.mk (C_ne HVl.out old_ hst_.2.2.1 (by rintro (_ | _ | _ | _ | _ | o) x <;> simp))
   have SY1 := Aside0.mk hst_.2.2.2
   clear hY1 hst_ hge_ old_
   obtain ⟨Y2, hY2⟩ : ∃ V_, V_ = (Y1.setCell ⟨g_, 1, none⟩ (.int .i64 ((z17 : Int) - 20))) := ⟨_, rfl⟩
   rw [← hY2]
   have old_ := K4.out
   have hge_ : w.heap.size ≤ g_ := by have z_ := HG4.out; omega
   have hst_ : St w.heap.size w (g_) 24 #[.int .i64 (z24 : Int), .int .i64 ((z17 : Int) - 20), .slice Ak (kk m3).length ck, .slice Aw S8.size cw, .slice Av S4.size av] Y1 Y2 := by rw [hY2]; exact (St.first HB.out hge_ K4.out 1 _ rfl)
   replace HB := Aside0.mk hst_.1
   replace K4 := Aside0.mk hst_.2.1
   replace K0 := Aside0.mk ((hst_.2.2.1 (w.heap.size) (by have z_ := HG4.out; omega)).trans K0.out)
   replace HVal := Aside0.mk (C_ne HVal.out old_ hst_.2.2.1 (by rintro (_ | _ | _ | _ | _ | o) x <;> simp))
   replace HKy := Aside0.mk (C_ne HKy.out old_ hst_.2.2.1 (by rintro (_ | _ | _ | _ | _ | o) x <;> simp))
   replace HVl := Aside0.mk (C_ne HVl.out old_ hst_.2.2.1 (by rintro (_ | _ | _ | _ | _ | o) x <;> simp))
   have SY2 := Aside0.mk hst_.2.2.2
   clear hY2 hst_ hge_ old_
   obtain ⟨Y9, hY9⟩ : ∃ V_, V_ = (((((Y2.setCell ⟨w.heap.size, 0, none⟩ (.int .i64 (z24 : Int))).setCell ⟨w.heap.size, 1, none⟩ (.int .i64 ((z17 : Int) - 20))).setCell ⟨w.heap.size, 2, none⟩ (.slice Ak (kk m3).length ck)).setCell ⟨w.heap.size, 3, none⟩ (.slice Aw S8.size cw)).setCell ⟨w.heap.size, 4, none⟩ (.slice Av S4.size av)) := ⟨_, rfl⟩
   rw [← hY9]
   have old_ := K0.out
   have hge_ : w.heap.size ≤ w.heap.size := by have z_ := HG4.out; omega
   have hst_ : St w.heap.size w (w.heap.size) 24 #[.int .i64 (z24 : Int), .int .i64 ((z17 : Int) - 20), .slice Ak (kk m3).length ck, .slice Aw S8.size cw, .slice Av S4.size av] Y2 Y9 := by rw [hY9]; exact (St.next (St.next (St.next (St.next (St.first HB.out hge_ K0.out 0 _ rfl) hge_ 1 _ rfl) hge_ 2 _ rfl) hge_ 3 _ rfl) hge_ 4 _ rfl)
   replace HB := Aside0.mk hst_.1
   replace K0 := Aside0.mk hst_.2.1
   replace K4 := Aside0.mk ((hst_.2.2.1 (g_) (by have z_ := HG4.out; omega)).trans K4.out)
   replace HVal := Aside0.mk (C_ne HVal.out old_ hst_.2.2.1 (by rintro (_ | _ | _ | _ | _ | o) x <;> simp))
   replace HKy := Aside0.mk (C_ne HKy.out old_ hst_.2.2.1 (by rintro (_ | _ | _ | _ | _ | o) x <;> simp))
   replace HVl := Aside0.mk (C_ne HVl.out old_ hst_.2.2.1 (by rintro (_ | _ | _ | _ | _ | o) x <;> simp))
   have SY9 := Aside0.mk hst_.2.2.2
   clear hY9 hst_ hge_ old_
   refine bodyPost_ret (results_cell_row rfl _ _ w.heap.size 24 #[.int .i64 (z24 : Int), .int .i64 ((z17 : Int) - 20), .slice Ak (kk m3).length ck, .slice Aw S8.size cw, .slice Av S4.size av] (0, 0) _ rfl K0.out Try.underlying24 rfl (by kernel_rfl)) rfl ?_
   rw [show cmdKf z19 z24 k0 m17 = (z24 : Int) from by unfold cmdKf; rw [if_pos hZ], show cmdWf z19 z17 m8 = ((z17 : Int) - 20) from by unfold cmdWf; rw [if_pos hZ]]
   exact ⟨Ak, ck, Aw, cw, Av, av, by rw [← HS8.out, ← HS4.out], LKy.out, HKy.out, by rw [← HS8.out]; exact HCW.out, by rw [← HS8.out]; exact HVal.out, by rw [← HS4.out]; exact LVl.out, by rw [← HS4.out]; exact HVl.out, HB.out⟩
  ·
   have q2 : ((z19 : Int) == 0) = false := by simp [hZ]
   have q1 : ((k0 : Int) == 0) = false := by simp; omega
   have q3 : ((k0 : Int) == 12) = false := by simp; omega
   obtain ⟨y0, y1, y2, y3, y4, y5⟩ := cells5 K4.out
   have y50 := y5 0
   have y51 := y5 1
   have y52 := y5 2
   have y53 := y5 3
   have y54 := y5 4
   clear y5
   obtain ⟨x0, x1, x2, x3, x4, x5⟩ := cells5 K0.out
   have x50 := x5 0
   have x51 := x5 1
   have x52 := x5 2
   have x53 := x5 3
   have x54 := x5 4
   clear x5
   go_wp2_with fail
   clear y0 y1 y2 y3 y4 y50 y51 y52 y53 y54
   clear x0 x1 x2 x3 x4 x50 x51 x52 x53 x54
   clear n1 n2
   obtain ⟨Y9, hY9⟩ : ∃ V_, V_ = (((((V3.setCell ⟨w.heap.size, 0, none⟩ (.int .i64 (k0 : Int))).setCell ⟨w.heap.size, 1, none⟩ (.int .i64 (m8 : Int))).setCell ⟨w.heap.size, 2, none⟩ (.slice Ak (kk m3).length ck)).setCell ⟨w.heap.size, 3, none⟩ (.slice Aw S8.size cw)).setCell ⟨w.heap.size, 4, none⟩ (.slice Av S4.size av)) := ⟨_, rfl⟩
   rw [← hY9]
   have old_ := K0.out
   have hge_ : w.heap.size ≤ w.heap.size := by have z_ := HG4.out; omega
   have hst_ : St w.heap.size w (w.heap.size) 24 #[.int .i64 (k0 : Int), .int .i64 (m8 : Int), .slice Ak (kk m3).length ck, .slice Aw S8.size cw, .slice Av S4.size av] V3 Y9 := by rw [hY9]; exact (St.next (St.next (St.next (St.next (St.first HB.out hge_ K0.out 0 _ rfl) hge_ 1 _ rfl) hge_ 2 _ rfl) hge_ 3 _ rfl) hge_ 4 _ rfl)
   replace HB := Aside0.mk hst_.1
   replace K0 := Aside0.mk hst_.2.1
   replace K4 := Aside0.mk ((hst_.2.2.1 (g_) (by have z_ := HG4.out; omega)).trans K4.out)
   replace HVal := Aside0.mk (C_ne HVal.out old_ hst_.2.2.1 (by rintro (_ | _ | _ | _ | _ | o) x <;> simp))
   replace HKy := Aside0.mk (C_ne HKy.out old_ hst_.2.2.1 (by rintro (_ | _ | _ | _ | _ | o) x <;> simp))
   replace HVl := Aside0.mk (C_ne HVl.out old_ hst_.2.2.1 (by rintro (_ | _ | _ | _ | _ | o) x <;> simp))
   have SY9 := Aside0.mk hst_.2.2.2
   clear hY9 hst_ hge_ old_
   refine bodyPost_ret (results_cell_row rfl _ _ w.heap.size 24 #[.int .i64 (k0 : Int), .int .i64 (m8 : Int), .slice Ak (kk m3).length ck, .slice Aw S8.size cw, .slice Av S4.size av] (0, 0) _ rfl K0.out Try.underlying24 rfl (by kernel_rfl)) rfl ?_
   rw [show cmdKf z19 z24 k0 m17 = (k0 : Int) from by unfold cmdKf; rw [if_neg hZ, if_neg hA], show cmdWf z19 z17 m8 = (m8 : Int) from by unfold cmdWf; rw [if_neg hZ]]
   exact ⟨Ak, ck, Aw, cw, Av, av, by rw [← HS8.out, ← HS4.out], LKy.out, HKy.out, by rw [← HS8.out]; exact HCW.out, by rw [← HS8.out]; exact HVal.out, by rw [← HS4.out]; exact LVl.out, by rw [← HS4.out]; exact HVl.out, HB.out⟩
def CmdEnd (w : World) (n : Int) (e : Ending) (w' : World) : Prop := ∃ E2 e2 E3 e3 E4 e4, e = .returned (.agg #[.int .i64 (cmdK n), .int .i64 (cmdW n), .slice E2 (cmdE n).length e2, .slice E3 (cmdV n).length e3, .slice E4 (cmdO n).length e4]) ∧ (cmdE n).length ≤ e2 ∧ Kd.C kb w' E2 (cmdE n).length (cmdE n) ∧ (cmdV n).length ≤ e3 ∧ Kd.C kb w' E3 (cmdV n).length (cmdV n) ∧ (cmdO n).length ≤ e4 ∧ Kd.C kb w' E4 (cmdO n).length (cmdO n) ∧ Below w.heap.size w w'
theorem cmd13 (n : Int) (w : World) : Calls Try.prog 13 #[.int .i64 n] w (CmdEnd w n) := by
 obtain ⟨m0, h0, l0⟩ := bits_lt n 5 31 31 rfl (by decide) (by decide)
 obtain ⟨m1, h1, l1⟩ := bits_lt (n / 32) 3 7 7 rfl (by decide) (by decide)
 obtain ⟨m2, h2, l2⟩ := bits_lt (n / 32768) 2 3 3 rfl (by decide) (by decide)
 obtain ⟨m3, h3, l3⟩ := bits_lt (n / 2048) 4 15 15 rfl (by decide) (by decide)
 obtain ⟨m8, h8, l8⟩ := bits_lt (n / 256) 3 7 7 rfl (by decide) (by decide)
 obtain ⟨z19, h19, l19⟩ := bits_lt (n / 524288) 5 31 31 rfl (by decide) (by decide)
 obtain ⟨z24, h24, l24⟩ := bits_lt (n / 16777216) 5 31 31 rfl (by decide) (by decide)
 obtain ⟨m17, h17, l17⟩ := bits_lt (n / 131072) 2 3 3 rfl (by decide) (by decide)
 obtain ⟨z17, hz17, lz17⟩ := bits_lt (n / 131072) 11 2047 2047 rfl (by decide) (by decide)
 have hk : Int.tmod (m0 : Int) 13 = ((m0 % 13 : Nat) : Int) := rfl
 have hK : cmdK n = cmdKf z19 z24 (m0 % 13) m17 := by
  unfold cmdK cmdKf
  rw [h19, h24, h0, h17, hk, Int.toNat_natCast]
  by_cases c1 : z19 = 0
  ·
   rw [if_pos c1, if_pos (by omega)]
  ·
   rw [if_neg c1, if_neg (by omega)]
   by_cases c2 : m0 % 13 = 0 ∨ m0 % 13 = 12
   ·
    rw [if_pos c2, if_pos (by omega)]
   ·
    rw [if_neg c2, if_neg (by omega)]
 have hW : cmdW n = cmdWf z19 z17 m8 := by
  unfold cmdW cmdWf
  rw [h19, hz17, h8]
  by_cases c1 : z19 = 0
  ·
   rw [if_pos c1, if_pos (by omega)]
  ·
   rw [if_neg c1, if_neg (by omega)]
 have hE : cmdE n = kk m3 := by unfold cmdE; rw [h3, Int.toNat_natCast]
 have hV : cmdV n = bytesOf (cs8.getD m1 ⟨#[]⟩) := by unfold cmdV; rw [h1, Int.toNat_natCast]
 have hO : cmdO n = bytesOf (cs4.getD m2 ⟨#[]⟩) := by unfold cmdO; rw [h2, Int.toNat_natCast]
 refine (cmd_t n m0 m1 m2 m3 m8 (m0 % 13) w h0 hk (Nat.mod_lt _ (by decide)) h8 z19 z24 m17 z17 h19 h24 h17 l17 hz17 lz17 h1 l1 h2 l2 h3 l3).mono ?_
 rintro e w' ⟨Ak, ck, Aw, cw, Av, av, rfl, g1, g2, g3, g4, g5, g6, hb⟩
 unfold CmdEnd
 rw [hK, hW, hE, hV, hO, bytesOf_length, bytesOf_length]
 exact ⟨Ak, ck, Aw, cw, Av, av, rfl, g1, g2, g3, g4, g5, g6, hb⟩
theorem cmd_small (n : Int) : (cmdE n).length < 1000000 ∧ (cmdV n).length < 1000000 ∧ (cmdO n).length < 1000000 := by
 refine ⟨?_, ?_, ?_⟩
 ·
  unfold cmdE
  generalize (Go.bits .and .i64 (n / 2048) 15).toNat = m
  exact kk_small m
 ·
  unfold cmdV
  rw [bytesOf_length]
  generalize (Go.bits .and .i64 (n / 32) 7).toNat = m
  match m with
  | 0 | 1 | 2 | 3 | 4 | 5 | 6 | 7 => decide
  | m + 8 => exact (by decide : 0 < 1000000)
 ·
  unfold cmdO
  rw [bytesOf_length]
  generalize (Go.bits .and .i64 (n / 32768) 3).toNat = m
  match m with
  | 0 | 1 | 2 | 3 => decide
  | m + 4 => exact (by decide : 0 < 1000000)
end Go.Proofs.Ythfplgfpodmphaa.Ob
