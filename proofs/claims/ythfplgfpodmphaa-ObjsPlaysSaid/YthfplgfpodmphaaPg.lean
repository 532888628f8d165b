/- Texts of this claim, merged by a program: Ocm Oz Opl Opf -/
import Derived.BigGuard
import Derived.BigCall
import Derived.Deep.Slices
import Derived.ChangeSlices
import Derived.ProofKit
import Derived.OpenShut
import Derived.Test.YthfplgfpodmphaaPf
namespace Go.Proofs.Ythfplgfpodmphaa.Ob
open Go.RowKit Go.Proofs.YthfplgfpodmphaaW.PrintWords Go.Proofs.YthfplgfpodmphaaW.PrintLast Go.Proofs.YthfplgfpodmphaaW.PrintMore Go.Proofs.Ythfplgfpodmphaa.Ms
attribute [local go_sem] max2_int min2_int max_two min_two max_three min_three max_four min_four
set_option linter.unusedVariables false
set_option linter.unusedSimpArgs false
set_option maxRecDepth 100000
theorem bits_lt (n : Int) (p m : Nat) (e : Int) (he : e = ((m : Nat) : Int)) (hm : m < 2 ^ p) (hp : p < 60) : ∃ N : Nat, Go.bits .and .i64 n e = (N : Int) ∧ N ≤ m := by
 subst he
 simp only [Go.bits, BitVec.ofInt_natCast, BitVec.toNat_and]
 have h : (BitVec.ofInt IntKind.i64.bits n).toNat &&& (BitVec.ofNat IntKind.i64.bits m).toNat ≤ m := Nat.le_trans Nat.and_le_right (by rw [BitVec.toNat_ofNat]; exact Nat.mod_le _ _)
 have h2 : m < 2 ^ 60 := Nat.lt_of_lt_of_le hm (Nat.pow_le_pow_right (by decide) (by omega))
 generalize (BitVec.ofInt IntKind.i64.bits n).toNat &&& (BitVec.ofNat IntKind.i64.bits m).toNat = t at h ⊢
 exact ⟨t, by rw [IntKind.wrap_i64]; omega, h⟩
def cs8 : List ByteArray := [⟨#[]⟩, ⟨#[97]⟩, ⟨#[98]⟩, ⟨#[97, 98]⟩, ⟨#[118, 97, 108, 117, 101]⟩, ⟨#[48, 49, 50, 51, 52, 53, 54, 55, 56, 57, 97, 98, 99, 100, 101, 102]⟩, ⟨#[48, 49, 50, 51, 52, 53, 54, 55, 56, 57, 97, 98, 99, 100, 101, 102, 103]⟩, ⟨#[0, 255]⟩]
def cs4 : List ByteArray := [⟨#[]⟩, ⟨#[97]⟩, ⟨#[98]⟩, ⟨#[97, 98]⟩]
theorem reps_strs {w : World} {base : Nat} {ok : Nat → Prop} (xs : List ByteArray) : Reps (Kd.string.M w base ok) 1 xs (xs.map .string) := by
 refine ⟨by simp, fun j p hj => ?_⟩
 show ((xs.map Value.string).drop (j * 1)).take 1 = [Value.string p]
 have hjl := (List.getElem?_eq_some_iff.1 hj).1
 rw [Nat.mul_one, List.drop_eq_getElem_cons (by simpa using hjl)]
 simp [(List.getElem?_eq_some_iff.1 hj).2]
def KeyF (n : Nat) (ke : List Int) (v : Value) (W : World) : Prop := ∃ A c, v = .slice A n c ∧ n ≤ c ∧ Kd.C kb W A n ke
def BldF (m : Nat) (S : ByteArray) (b q : Value) (W : World) : Prop := ∃ ad c, b = .slice (some ad) cs4.length c ∧ q = .pointer (some (ad.add m)) ∧ W.cell? (ad.add m) = some (.string S)
def AllF (base g : Nat) (W : World) : Prop := base ≤ g ∧ W.heap[g]? = some (.cells #[.int .i64 0, .int .i64 0, .slice none 0 0, .slice none 0 0, .slice none 0 0] 24 (0, 0))
theorem KeyF.below {n : Nat} {ke : List Int} {v : Value} {W W' : World} (h : KeyF n ke v W) (hb : Below W.heap.size W W') : KeyF n ke v W' := by
 obtain ⟨A, c, e, hc, hC⟩ := h
 exact ⟨A, c, e, hc, Kd.C_below hC hb⟩
theorem BldF.below {m : Nat} {S : ByteArray} {b q : Value} {W W' : World} (h : BldF m S b q W) (hb : Below W.heap.size W W') : BldF m S b q W' := by
 obtain ⟨ad, c, e, e2, h⟩ := h
 exact ⟨ad, c, e, e2, cell_old hb h⟩
theorem AllF.below {base g : Nat} {W W' : World} (h : AllF base g W) (hb : Below W.heap.size W W') : AllF base g W' := ⟨h.1, blk_keep h.2 hb⟩
theorem C_ne_at {W : World} {a : Addr} {g : Nat} {p : Int} {cs : Array Value} {t : TypeId} (h : W.cell? a = some (.int .u8 p)) (he : a.block = g) (hg : W.heap[g]? = some (.cells cs t (0, 0))) (hc : ∀ (o : Nat) (x : Int), cs[o]? ≠ some (.int .u8 x)) : False := by
 subst he
 unfold World.cell? at h
 rw [hg] at h
 simp only at h
 split at h
 ·
  cases h
 ·
  exact hc _ _ h
theorem C_ne {W W' : World} {A : Option Addr} {n g : Nat} {xs : List Int} {cs : Array Value} {t : TypeId} (h : Kd.C kb W A n xs) (hg : W.heap[g]? = some (.cells cs t (0, 0))) (hk : ∀ k, k ≠ g → W'.heap[k]? = W.heap[k]?) (hc : ∀ (o : Nat) (x : Int), cs[o]? ≠ some (.int .u8 x)) : Kd.C kb W' A n xs := by
 obtain ⟨hl, hm, hn⟩ := h
 refine ⟨hl, hm, fun hp => ?_⟩
 obtain ⟨ad, rfl, hcell⟩ := hn hp
 refine ⟨ad, rfl, fun j p hj => ?_⟩
 obtain ⟨c, hcl, hK, hcc⟩ := hcell j p hj
 refine ⟨c, hcl, hK, fun i u hu => ?_⟩
 have h1 := hcc i u hu
 have hne : (ad.add (j * (Kd.int IntKind.u8).sz + i)).block ≠ g := by
  intro he
  have hc1 : c = [.int .u8 p] := hK
  subst hc1
  have hi : i = 0 := by have := (List.getElem?_eq_some_iff.1 hu).1; simpa using this
  subst hi
  obtain rfl := Option.some.inj hu
  exact C_ne_at h1 he hg hc
 rw [World.cell?_of_block (hk _ hne)]
 exact h1
def cmdK (n : Int) : Int := if Go.bits .and .i64 (n / 524288) 31 = 0 then Go.bits .and .i64 (n / 16777216) 31 else if Int.tmod (Go.bits .and .i64 n 31) 13 = 0 ∨ Int.tmod (Go.bits .and .i64 n 31) 13 = 12 then ([1, 2, 4, 9] : List Int).getD (Go.bits .and .i64 (n / 131072) 3).toNat 0 else Int.tmod (Go.bits .and .i64 n 31) 13
def cmdW (n : Int) : Int := if Go.bits .and .i64 (n / 524288) 31 = 0 then Go.bits .and .i64 (n / 131072) 2047 - 20 else Go.bits .and .i64 (n / 256) 7
def cmdE (n : Int) : List Int := kk (Go.bits .and .i64 (n / 2048) 15).toNat
def cmdV (n : Int) : List Int := bytesOf (cs8.getD (Go.bits .and .i64 (n / 32) 7).toNat ⟨#[]⟩)
def cmdO (n : Int) : List Int := bytesOf (cs4.getD (Go.bits .and .i64 (n / 32768) 3).toNat ⟨#[]⟩)
def cmdKf (z19 z24 k0 m17 : Nat) : Int := if z19 = 0 then (z24 : Int) else if k0 = 0 ∨ k0 = 12 then ([1, 2, 4, 9] : List Int).getD m17 0 else (k0 : Int)
def cmdWf (z19 z17 m8 : Nat) : Int := if z19 = 0 then (z17 : Int) - 20 else (m8 : Int)
theorem reps_ints {w : World} {base : Nat} {ok : Nat → Prop} (xs : List Int) : Reps (ki.M w base ok) 1 xs (xs.map (fun x => .int .i64 x)) := by
 refine ⟨by simp, fun j p hj => ?_⟩
 show ((xs.map (fun x => Value.int .i64 x)).drop (j * 1)).take 1 = [Value.int .i64 p]
 have hjl := (List.getElem?_eq_some_iff.1 hj).1
 rw [Nat.mul_one, List.drop_eq_getElem_cons (by simpa using hjl)]
 simp [(List.getElem?_eq_some_iff.1 hj).2]
theorem cs8_size (m : Nat) : (cs8.getD m ⟨#[]⟩).size ≤ 9223372036854775807 := by
 match m with
 | 0 | 1 | 2 | 3 | 4 | 5 | 6 | 7 => decide
 | m + 8 => exact Nat.zero_le _
theorem cs4_size (m : Nat) : (cs4.getD m ⟨#[]⟩).size ≤ 9223372036854775807 := by
 match m with
 | 0 | 1 | 2 | 3 => decide
 | m + 4 => exact Nat.zero_le _
theorem kk_small (m : Nat) : (kk m).length < 1000000 := by
 match m with
 | 0 | 1 | 2 | 3 | 4 | 5 | 6 | 7 | 8 | 9 | 10 | 11 | 12 | 13 | 14 | 15 => decide
 | m + 16 => exact (by decide : 0 < 1000000)
set_option maxHeartbeats 4000000 in
theorem cmd_t (n : Int) (m0 m1 m2 m3 m8 k0 : Nat) (w : World) (hn0 : Go.bits .and .i64 n 31 = (m0 : Int)) (hk0 : Int.tmod (m0 : Int) 13 = (k0 : Int)) (hk13 : k0 < 13) (hn8 : Go.bits .and .i64 (n / 256) 7 = (m8 : Int)) (z19 z24 m17 z17 : Nat) (hn19 : Go.bits .and .i64 (n / 524288) 31 = (z19 : Int)) (hn24 : Go.bits .and .i64 (n / 16777216) 31 = (z24 : Int)) (hn17 : Go.bits .and .i64 (n / 131072) 3 = (m17 : Int)) (hm17 : m17 ≤ 3) (hz17 : Go.bits .and .i64 (n / 131072) 2047 = (z17 : Int)) (hz17b : z17 ≤ 2047) (hn1 : Go.bits .and .i64 (n / 32) 7 = (m1 : Int)) (hm1 : m1 ≤ 7) (hn2 : Go.bits .and .i64 (n / 32768) 3 = (m2 : Int)) (hm2 : m2 ≤ 3) (hn3 : Go.bits .and .i64 (n / 2048) 15 = (m3 : Int)) (hm3 : m3 ≤ 15) : Calls Try.prog 13 #[.int .i64 n] w fun e w' => ∃ Ak ck Aw cw Av av, e = .returned (.agg #[.int .i64 (cmdKf z19 z24 k0 m17), .int .i64 (cmdWf z19 z17 m8), .slice Ak (kk m3).length ck, .slice Aw (cs8.getD m1 ⟨#[]⟩).size cw, .slice Av (cs4.getD m2 ⟨#[]⟩).size av]) ∧ (kk m3).length ≤ ck ∧ Kd.C kb w' Ak (kk m3).length (kk m3) ∧ (cs8.getD m1 ⟨#[]⟩).size ≤ cw ∧ Kd.C kb w' Aw (cs8.getD m1 ⟨#[]⟩).size (bytesOf (cs8.getD m1 ⟨#[]⟩)) ∧ (cs4.getD m2 ⟨#[]⟩).size ≤ av ∧ Kd.C kb w' Av (cs4.getD m2 ⟨#[]⟩).size (bytesOf (cs4.getD m2 ⟨#[]⟩)) ∧ Below w.heap.size w w' := by
 have HM17 := Aside0.mk hm17
 have ez17 : IntKind.i64.wrap ((z17 : Int) - 20) = (z17 : Int) - 20 := by rw [IntKind.wrap_i64]; omega
 clear hm17 hz17b
 have ek0 : IntKind.i64.wrap (k0 : Int) = (k0 : Int) := by rw [IntKind.wrap_i64]; omega
 clear hk13
 obtain ⟨S4, hS4⟩ : ∃ S, S = cs4.getD m2 ⟨#[]⟩ := ⟨_, rfl⟩
 obtain ⟨S8, hS8⟩ : ∃ S, S = cs8.getD m1 ⟨#[]⟩ := ⟨_, rfl⟩
 have HS4 := Aside0.mk hS4
 have HS8 := Aside0.mk hS8
 clear hS4 hS8
 have HN3 := Aside0.mk hn3
 have HM3 := Aside0.mk hm3
 have HM2 := Aside0.mk hm2
 have HM1 := Aside0.mk hm1
 clear hn3 hm3 hm2 hm1
 have HB := Aside0.mk (Below.refl w.heap.size w)
 have kc := fun (w : World) (s : ByteArray) => run_bytes_of_string (P := Try.prog) w 9 22 5 s Try.underlying9 Try.underlying22 Try.underlying5
 go_enter Try.func13, Try.ntmps13
 go_wp2_with (
  (with_reducible refine gate_dst (N := 5) rfl ?_)
  generalize hV0 : World.alloc _ _ = V0
  obtain ⟨K0, hb_, SV0⟩ := al1 hV0
  clear hV0
  replace HB := HBs HB hb_
  clear hb_
  refine Kd.R_lit Kd.string V0.heap.size 9 ?hg (N := 5) ?hd (xs := cs8) (inner := [.string ⟨#[]⟩, .string ⟨#[97]⟩, .string ⟨#[98]⟩, .string ⟨#[97, 98]⟩, .string ⟨#[118, 97, 108, 117, 101]⟩, .string ⟨#[48, 49, 50, 51, 52, 53, 54, 55, 56, 57, 97, 98, 99, 100, 101, 102]⟩, .string ⟨#[48, 49, 50, 51, 52, 53, 54, 55, 56, 57, 97, 98, 99, 100, 101, 102, 103]⟩, .string ⟨#[0, 255]⟩]) (ok := fun _ => True) (okp := fun _ => True) ?hr ?hp (fun _ hk => hk) trivial (Below.refl _ _) (Nat.le_refl _) (by decide) ?_
  (case hd => rfl)
  (case hg => rfl)
  (case hr => go_simp <;> rfl)
  (case hp => exact reps_strs cs8)
  intro v5 V1 ho hb_ hg_ hnew_
  obtain ⟨B8, c8, rfl⟩ := Kd.R_slice ho
  obtain ⟨ad8, rfl, hcell⟩ := Kd.at_string (Kd.R_reads' ho).2.2 (m1 : Int) (by omega) (by have := HM1.out; simp [cs8]; omega)
  simp only [Int.toNat_natCast] at hcell
  have hcell8 : V1.cell? (ad8.add m1) = some (.string S8) := by rw [HS8.out]; exact hcell
  have e7 : (m1 : Int) < 8 := by have := HM1.out; omega
  have e8 : (0 : Int) ≤ (m1 : Int) := by omega
  have e9 : m1 < cs8.length := by have := HM1.out; simp [cs8]; omega
  have e10 : (m1 : Int) < (cs8.length : Int) := by omega
  replace HB := HBs HB hb_
  replace K0 := KB K0 hb_
  clear hcell hb_ hg_ hnew_ ho)
 obtain ⟨V2, hV2⟩ : ∃ V_, V_ = (V1.alloc (.cells (bytesRow S8 (grownCap V1 S8.size 0 5)) 5 ((bytesRow S8 (grownCap V1 S8.size 0 5)).size, (bytesRow S8 (grownCap V1 S8.size 0 5)).size + 1))).drew := ⟨_, rfl⟩
 rw [← hV2]
 have hb_ : Below V1.heap.size V1 V2 := by rw [hV2]; exact below_drew1 (below_alloc (Below.refl _ _) _)
 have hW := (bytes_C (w := V2) (by rw [hV2]; exact blk_drew (heap_alloc_self V1 _)) (by rw [HS8.out]; exact cs8_size m1) : Kd.C kb V2 (some ⟨V1.heap.size, 0, none⟩) S8.size (bytesOf S8))
 replace HB := HBs HB hb_
 replace K0 := KB K0 hb_
 have HVal := Aside0.mk hW
 clear hW hb_ hV2 kc hcell8 e7 e8 e9 e10
 have HW0 := Aside0.mk (show w.heap.size + 1 ≤ V2.heap.size from by have h_ := (Array.getElem?_eq_some_iff.1 K0.out).1; omega)
 have hw0_ := HW0.out
 have HWD := Aside0.mk (below_drew1 (Below.refl V2.heap.size V2))
 have HW0 := Aside0.mk (show w.heap.size + 1 ≤ V2.drew.heap.size from Nat.le_trans HW0.out HWD.out.size)
 clear hw0_
 replace HB := HBs HB HWD.out
 replace K0 := KB K0 HWD.out
 replace HVal := Aside0.mk (Kd.C_below HVal.out HWD.out)
 clear HWD
 have HCW := Aside0.mk (grownCap_ge V1 S8.size 0 5)
 generalize grownCap V1 S8.size 0 5 = cw at HCW ⊢
 generalize (some ⟨V1.heap.size, 0, none⟩ : Option Addr) = Aw at HVal ⊢
 refine start_ (n := 21) (S := fun w' => True) (ds := [20]) #[false, false, false, false, false, false, false, false, false, false, false, false, false, false, false, false, false, false, false, false, false] (by kernel_rfl) rfl rfl trivial (fun hHeld => ?_)
 generalize V2.drew = W0 at HB K0 HVal HW0 hHeld ⊢
 refine pure_ (i := 0) (N := some 12) (v := ?_) (a' := ?_) #[true, false, false, false, false, false, false, false, false, false, false, false, false, false, false, false, false, false, false, false, false] rfl rfl (by kernel_rfl) (fun _ _ _ h => h) (Or.inl ⟨by rfl, ?_⟩) ?_ ?_
 rotate_left
 ·
  intro w'
  go_simp
  with_reducible rfl
 rotate_left
 ·
  simp only [Act.put, List.setIfInBounds_toArray, List.set_cons_zero, List.set_cons_succ, i64_w, i32_w]
  rfl
 refine pure_ (i := 1) (N := some 13) (v := ?_) (a' := ?_) #[true, true, false, false, false, false, false, false, false, false, false, false, false, false, false, false, false, false, false, false, false] rfl rfl (by kernel_rfl) (fun _ _ _ h => h) (Or.inl ⟨by rfl, ?_⟩) ?_ ?_
 rotate_left
 ·
  intro w'
  go_simp
  with_reducible rfl
 rotate_left
 ·
  simp only [Act.put, List.setIfInBounds_toArray, List.set_cons_zero, List.set_cons_succ, i64_w, i32_w]
  rfl
 refine pure_ (i := 2) (N := some 14) (v := ?_) (a' := ?_) #[true, true, true, false, false, false, false, false, false, false, false, false, false, false, false, false, false, false, false, false, false] rfl rfl (by kernel_rfl) (fun _ _ _ h => h) (Or.inl ⟨by rfl, ?_⟩) ?_ ?_
 rotate_left
 ·
  intro w'
  go_simp
  with_reducible rfl
 rotate_left
 ·
  simp only [Act.put, List.setIfInBounds_toArray, List.set_cons_zero, List.set_cons_succ, i64_w, i32_w]
  rfl
 refine pure_ (i := 3) (N := some 15) (v := ?_) (a' := ?_) #[true, true, true, true, false, false, false, false, false, false, false, false, false, false, false, false, false, false, false, false, false] rfl rfl (by kernel_rfl) (fun _ _ _ h => h) (Or.inl ⟨by rfl, ?_⟩) ?_ ?_
 rotate_left
 ·
  intro w'
  go_simp
  with_reducible rfl
 rotate_left
 ·
  simp only [Act.put, List.setIfInBounds_toArray, List.set_cons_zero, List.set_cons_succ, i64_w, i32_w]
  rfl
 refine pure_ (i := 4) (N := some 16) (v := ?_) (a' := ?_) #[true, true, true, true, true, false, false, false, false, false, false, false, false, false, false, false, false, false, false, false, false] rfl rfl (by kernel_rfl) (fun _ _ _ h => h) (Or.inl ⟨by rfl, ?_⟩) ?_ ?_
 rotate_left
 ·
  intro w'
  go_simp
  with_reducible rfl
 rotate_left
 ·
  simp only [Act.put, List.setIfInBounds_toArray, List.set_cons_zero, List.set_cons_succ, i64_w, i32_w]
  rfl
 refine pure_ (i := 5) (N := some 17) (v := ?_) (a' := ?_) #[true, true, true, true, true, true, false, false, false, false, false, false, false, false, false, false, false, false, false, false, false] rfl rfl (by kernel_rfl) (fun _ _ _ h => h) (Or.inl ⟨by rfl, ?_⟩) ?_ ?_
 rotate_left
 ·
  intro w'
  go_simp
  with_reducible rfl
 rotate_left
 ·
  simp only [Act.put, List.setIfInBounds_toArray, List.set_cons_zero, List.set_cons_succ, i64_w, i32_w]
  rfl
 refine pure_ (i := 6) (N := some 18) (v := ?_) (a' := ?_) #[true, true, true, true, true, true, true, false, false, false, false, false, false, false, false, false, false, false, false, false, false] rfl rfl (by kernel_rfl) (fun _ _ _ h => h) (Or.inl ⟨by rfl, ?_⟩) ?_ ?_
 rotate_left
 ·
  intro w'
  go_simp
  with_reducible rfl
 rotate_left
 ·
  simp only [Act.put, List.setIfInBounds_toArray, List.set_cons_zero, List.set_cons_succ, i64_w, i32_w]
  rfl
 refine pure_ (i := 7) (N := some 19) (v := ?_) (a' := ?_) #[true, true, true, true, true, true, true, true, false, false, false, false, false, false, false, false, false, false, false, false, false] rfl rfl (by kernel_rfl) (fun _ _ _ h => h) (Or.inl ⟨by rfl, ?_⟩) ?_ ?_
 rotate_left
 ·
  intro w'
  go_simp
  with_reducible rfl
 rotate_left
 ·
  simp only [Act.put, List.setIfInBounds_toArray, List.set_cons_zero, List.set_cons_succ, i64_w, i32_w]
  rfl
 refine pure_ (i := 8) (N := some 20) (v := ?_) (a' := ?_) #[true, true, true, true, true, true, true, true, true, false, false, false, false, false, false, false, false, false, false, false, false] rfl rfl (by kernel_rfl) (fun _ _ _ h => h) (Or.inl ⟨by rfl, ?_⟩) ?_ ?_
 rotate_left
 ·
  intro w'
  go_simp
  with_reducible rfl
 rotate_left
 ·
  simp only [Act.put, List.setIfInBounds_toArray, List.set_cons_zero, List.set_cons_succ, i64_w, i32_w]
  rfl
 refine pure_ (i := 10) (N := some 22) (v := ?_) (a' := ?_) #[true, true, true, true, true, true, true, true, true, false, true, false, false, false, false, false, false, false, false, false, false] rfl rfl (by kernel_rfl) (fun _ _ _ h => h) (Or.inl ⟨by rfl, ?_⟩) ?_ ?_
 rotate_left
 ·
  intro w'
  go_simp
  with_reducible rfl
 rotate_left
 ·
  simp only [Act.put, List.setIfInBounds_toArray, List.set_cons_zero, List.set_cons_succ, i64_w, i32_w]
  rfl
 refine pure_ (i := 12) (N := some 24) (v := ?_) (a' := ?_) #[true, true, true, true, true, true, true, true, true, false, true, false, true, false, false, false, false, false, false, false, false] rfl rfl (by kernel_rfl) (fun _ _ _ h => h) (Or.inl ⟨by rfl, ?_⟩) ?_ ?_
 rotate_left
 ·
  intro w'
  go_simp
  with_reducible rfl
 rotate_left
 ·
  simp only [Act.put, List.setIfInBounds_toArray, List.set_cons_zero, List.set_cons_succ, i64_w, i32_w]
  rfl
 refine pure_ (i := 13) (N := some 25) (v := ?_) (a' := ?_) #[true, true, true, true, true, true, true, true, true, false, true, false, true, true, false, false, false, false, false, false, false] rfl rfl (by kernel_rfl) (fun _ _ _ h => h) (Or.inl ⟨by rfl, ?_⟩) ?_ ?_
 rotate_left
 ·
  intro w'
  go_simp
  with_reducible rfl
 rotate_left
 ·
  simp only [Act.put, List.setIfInBounds_toArray, List.set_cons_zero, List.set_cons_succ, i64_w, i32_w]
  rfl
 refine pure_ (i := 14) (N := some 26) (v := ?_) (a' := ?_) #[true, true, true, true, true, true, true, true, true, false, true, false, true, true, true, false, false, false, false, false, false] rfl rfl (by kernel_rfl) (fun _ _ _ h => h) (Or.inl ⟨by rfl, ?_⟩) ?_ ?_
 rotate_left
 ·
  intro w'
  go_simp
  with_reducible rfl
 rotate_left
 ·
  simp only [Act.put, List.setIfInBounds_toArray, List.set_cons_zero, List.set_cons_succ, i64_w, i32_w]
  rfl
 refine join_ (σ := Value × Value × Value × Value × Nat) 1 #[true, true, true, true, true, true, true, true, true, true, true, true, true, true, true, true, true, true, true, true, false] (fun s_ => [(21, s_.1), (23, s_.2.1), (27, s_.2.2.1), (28, .string S4), (29, s_.2.2.2.1), (30, .agg #[.int .i64 (k0 : Int), .int .i64 (m8 : Int), s_.1, .slice Aw S8.size cw, s_.2.2.2.1]), (4, .pointer (some ⟨s_.2.2.2.2, 0, none⟩))]) (fun s_ w' => True ∧ Below W0.heap.size W0 w' ∧ KeyF (kk m3).length (kk m3) s_.1 w' ∧ BldF m2 S4 s_.2.1 s_.2.2.1 w' ∧ KeyF S4.size (bytesOf S4) s_.2.2.2.1 w' ∧ AllF (w.heap.size + 1) s_.2.2.2.2 w') ?_ ?_
 rotate_left
 ·
  intro hJ9_11_16_17_19
  refine join_ (σ := Value × Value × Value × Value × Nat) 2 #[true, true, true, true, true, true, true, true, true, true, true, true, true, true, true, true, true, true, true, false, false] (fun s_ => [(21, s_.1), (23, s_.2.1), (27, s_.2.2.1), (28, .string S4), (29, s_.2.2.2.1), (30, .agg #[.int .i64 (k0 : Int), .int .i64 (m8 : Int), s_.1, .slice Aw S8.size cw, s_.2.2.2.1])]) (fun s_ w' => True ∧ Below W0.heap.size W0 w' ∧ KeyF (kk m3).length (kk m3) s_.1 w' ∧ BldF m2 S4 s_.2.1 s_.2.2.1 w' ∧ KeyF S4.size (bytesOf S4) s_.2.2.2.1 w') ?_ ?_
  rotate_left
  ·
   intro hJ9_11_16_17
   refine join_ (σ := Value × Value × Value × Value × Nat) 3 #[true, true, true, true, true, true, true, true, true, true, true, true, true, true, true, true, true, false, false, true, false] (fun s_ => [(21, s_.1), (23, s_.2.1), (27, s_.2.2.1), (28, .string S4), (4, .pointer (some ⟨s_.2.2.2.2, 0, none⟩))]) (fun s_ w' => True ∧ Below W0.heap.size W0 w' ∧ KeyF (kk m3).length (kk m3) s_.1 w' ∧ BldF m2 S4 s_.2.1 s_.2.2.1 w' ∧ AllF (w.heap.size + 1) s_.2.2.2.2 w') ?_ ?_
   rotate_left
   ·
    intro hJ9_11_16_19
    refine join_ (σ := Value × Value × Value × Value × Nat) 3 #[true, true, true, true, true, true, true, true, true, false, true, true, true, true, true, true, true, true, false, true, false] (fun s_ => [(23, s_.2.1), (27, s_.2.2.1), (28, .string S4), (29, s_.2.2.2.1), (4, .pointer (some ⟨s_.2.2.2.2, 0, none⟩))]) (fun s_ w' => True ∧ Below W0.heap.size W0 w' ∧ BldF m2 S4 s_.2.1 s_.2.2.1 w' ∧ KeyF S4.size (bytesOf S4) s_.2.2.2.1 w' ∧ AllF (w.heap.size + 1) s_.2.2.2.2 w') ?_ ?_
    rotate_left
    ·
     intro hJ11_16_17_19
     refine join_ (σ := Value × Value × Value × Value × Nat) 4 #[true, true, true, true, true, true, true, true, true, true, true, true, true, true, true, true, true, false, false, false, false] (fun s_ => [(21, s_.1), (23, s_.2.1), (27, s_.2.2.1), (28, .string S4)]) (fun s_ w' => True ∧ Below W0.heap.size W0 w' ∧ KeyF (kk m3).length (kk m3) s_.1 w' ∧ BldF m2 S4 s_.2.1 s_.2.2.1 w') ?_ ?_
     rotate_left
     ·
      intro hJ9_11_16
      refine join_ (σ := Value × Value × Value × Value × Nat) 4 #[true, true, true, true, true, true, true, true, true, true, true, true, true, true, true, true, false, false, false, true, false] (fun s_ => [(21, s_.1), (23, s_.2.1), (27, s_.2.2.1), (4, .pointer (some ⟨s_.2.2.2.2, 0, none⟩))]) (fun s_ w' => True ∧ Below W0.heap.size W0 w' ∧ KeyF (kk m3).length (kk m3) s_.1 w' ∧ BldF m2 S4 s_.2.1 s_.2.2.1 w' ∧ AllF (w.heap.size + 1) s_.2.2.2.2 w') ?_ ?_
      rotate_left
      ·
       intro hJ9_11_19
       refine join_ (σ := Value × Value × Value × Value × Nat) 4 #[true, true, true, true, true, true, true, true, true, false, true, true, true, true, true, true, true, true, false, false, false] (fun s_ => [(23, s_.2.1), (27, s_.2.2.1), (28, .string S4), (29, s_.2.2.2.1)]) (fun s_ w' => True ∧ Below W0.heap.size W0 w' ∧ BldF m2 S4 s_.2.1 s_.2.2.1 w' ∧ KeyF S4.size (bytesOf S4) s_.2.2.2.1 w') ?_ ?_
       rotate_left
       ·
        intro hJ11_16_17
        refine join_ (σ := Value × Value × Value × Value × Nat) 4 #[true, true, true, true, true, true, true, true, true, false, true, true, true, true, true, true, true, false, false, true, false] (fun s_ => [(23, s_.2.1), (27, s_.2.2.1), (28, .string S4), (4, .pointer (some ⟨s_.2.2.2.2, 0, none⟩))]) (fun s_ w' => True ∧ Below W0.heap.size W0 w' ∧ BldF m2 S4 s_.2.1 s_.2.2.1 w' ∧ AllF (w.heap.size + 1) s_.2.2.2.2 w') ?_ ?_
        rotate_left
        ·
         intro hJ11_16_19
         refine join_ (σ := Value × Value × Value × Value × Nat) 5 #[true, true, true, true, true, true, true, true, true, true, true, true, true, true, true, true, false, false, false, false, false] (fun s_ => [(21, s_.1), (23, s_.2.1), (27, s_.2.2.1)]) (fun s_ w' => True ∧ Below W0.heap.size W0 w' ∧ KeyF (kk m3).length (kk m3) s_.1 w' ∧ BldF m2 S4 s_.2.1 s_.2.2.1 w') ?_ ?_
         rotate_left
         ·
          intro hJ9_11
          refine join_ (σ := Value × Value × Value × Value × Nat) 6 #[true, true, true, true, true, true, true, true, true, true, true, false, true, true, true, false, false, false, false, true, false] (fun s_ => [(21, s_.1), (4, .pointer (some ⟨s_.2.2.2.2, 0, none⟩))]) (fun s_ w' => True ∧ Below W0.heap.size W0 w' ∧ KeyF (kk m3).length (kk m3) s_.1 w' ∧ AllF (w.heap.size + 1) s_.2.2.2.2 w') ?_ ?_
          rotate_left
          ·
           intro hJ9_19
           refine join_ (σ := Value × Value × Value × Value × Nat) 5 #[true, true, true, true, true, true, true, true, true, false, true, true, true, true, true, true, true, false, false, false, false] (fun s_ => [(23, s_.2.1), (27, s_.2.2.1), (28, .string S4)]) (fun s_ w' => True ∧ Below W0.heap.size W0 w' ∧ BldF m2 S4 s_.2.1 s_.2.2.1 w') ?_ ?_
           rotate_left
           ·
            intro hJ11_16
            refine join_ (σ := Value × Value × Value × Value × Nat) 5 #[true, true, true, true, true, true, true, true, true, false, true, true, true, true, true, true, false, false, false, true, false] (fun s_ => [(23, s_.2.1), (27, s_.2.2.1), (4, .pointer (some ⟨s_.2.2.2.2, 0, none⟩))]) (fun s_ w' => True ∧ Below W0.heap.size W0 w' ∧ BldF m2 S4 s_.2.1 s_.2.2.1 w' ∧ AllF (w.heap.size + 1) s_.2.2.2.2 w') ?_ ?_
            rotate_left
            ·
             intro hJ11_19
             refine join_ (σ := Value × Value × Value × Value × Nat) 7 #[true, true, true, true, true, true, true, true, true, true, true, false, true, true, true, false, false, false, false, false, false] (fun s_ => [(21, s_.1)]) (fun s_ w' => True ∧ Below W0.heap.size W0 w' ∧ KeyF (kk m3).length (kk m3) s_.1 w') ?_ ?_
             rotate_left
             ·
              intro hJ9
              refine join_ (σ := Value × Value × Value × Value × Nat) 6 #[true, true, true, true, true, true, true, true, true, false, true, true, true, true, true, true, false, false, false, false, false] (fun s_ => [(23, s_.2.1), (27, s_.2.2.1)]) (fun s_ w' => True ∧ Below W0.heap.size W0 w' ∧ BldF m2 S4 s_.2.1 s_.2.2.1 w') ?_ ?_
              rotate_left
              ·
               intro hJ11
               refine join_ (σ := Value × Value × Value × Value × Nat) 7 #[true, true, true, true, true, true, true, true, true, false, true, false, true, true, true, false, false, false, false, true, false] (fun s_ => [(4, .pointer (some ⟨s_.2.2.2.2, 0, none⟩))]) (fun s_ w' => True ∧ Below W0.heap.size W0 w' ∧ AllF (w.heap.size + 1) s_.2.2.2.2 w') ?_ ?_
               rotate_left
               ·
                intro hJ19
                refine three_ (i := 9) (j := 11) (k := 19) (Ni := some 21) (Nj := some 23) (Nk := some 4) #[true, true, true, true, true, true, true, true, true, true, true, false, true, true, true, false, false, false, false, false, false] #[true, true, true, true, true, true, true, true, true, false, true, true, true, true, true, false, false, false, false, false, false] #[true, true, true, true, true, true, true, true, true, false, true, false, true, true, true, false, false, false, false, true, false] rfl rfl rfl rfl rfl rfl (by kernel_rfl) (by decide) (by decide) (by decide) (fun K_ hK => ?_) (fun K_ hK => ?_) (fun K_ hK => ?_)
                ·
                 skip
                 refine goes_ Try.func39 (by kernel_rfl) rfl #[.int .i64 (n / 2048)] (by rfl) rfl rfl (by simp only [List.map_toArray, List.map_cons, List.map_nil]; rfl) ?_
                 with_reducible refine (keys10 (n / 2048) m3 W0 HN3.out HM3.out).mono ?_
                 rintro e u_ ⟨Ak, ck, rfl, hck, hCk, hb_⟩
                 have fB := hb_
                 have fK : KeyF (kk m3).length (kk m3) (.slice Ak (kk m3).length ck) u_ := ⟨Ak, ck, rfl, hck, hCk⟩
                 clear hck hCk hb_
                 refine ⟨_, rfl, ?_⟩
                 refine hK.out _ _ trivial (fun hHeld => ?_)
                 clear hK K_
                 refine norm_ (a' := ?_) ?_ ?_
                 rotate_left
                 ·
                  show Act.put _ (some 21) _ = _
                  simp only [Act.put, List.setIfInBounds_toArray, List.set_cons_zero, List.set_cons_succ, i64_w, i32_w]
                  rfl
                 exact norm_ (by simp only [putAll, Act.put, List.setIfInBounds_toArray, List.set_cons_zero, List.set_cons_succ] <;> rfl) (hJ9 (.slice Ak (kk m3).length ck, .bool false, .bool false, .bool false, 0) _ ⟨hHeld, fB, fK⟩)
                ·
                 skip
                 refine Kd.R_lit_step Kd.string W0.heap.size 9 ?hg (N := 23) ?hd (xs := cs4) (inner := [.string ⟨#[]⟩, .string ⟨#[97]⟩, .string ⟨#[98]⟩, .string ⟨#[97, 98]⟩]) (ok := fun _ => True) (okp := fun _ => True) ?hr ?hp (fun _ hk => hk) trivial (Below.refl _ _) (Nat.le_refl _) (by decide) ?_
                 (case hd => rfl)
                 (case hg => rfl)
                 (case hr => go_simp <;> rfl)
                 (case hp => exact reps_strs cs4)
                 intro v23 u_ ho hb_ hg_ hnew_
                 obtain ⟨B4, c4, rfl⟩ := Kd.R_slice ho
                 obtain ⟨ad, rfl, hcell⟩ := Kd.at_string (Kd.R_reads' ho).2.2 (m2 : Int) (by omega) (by have := HM2.out; simp [cs4]; omega)
                 simp only [Int.toNat_natCast] at hcell
                 have fB := hb_
                 have hcell2 : u_.cell? (ad.add m2) = some (.string S4) := by rw [HS4.out]; exact hcell
                 have fL : BldF m2 S4 (.slice (some ad) cs4.length c4) (.pointer (some (ad.add m2))) u_ := ⟨ad, c4, rfl, rfl, hcell2⟩
                 have e5 : (m2 : Int) < (cs4.length : Int) := by have := HM2.out; simp [cs4]; omega
                 have e7 : m2 < cs4.length := by have := HM2.out; simp [cs4]; omega
                 have e6 : (0 : Int) ≤ (m2 : Int) := by omega
                 clear hg_ hnew_ ho hb_ hcell hcell2
                 refine hK.out _ _ trivial (fun hHeld => ?_)
                 clear hK K_
                 refine norm_ (a' := ?_) ?_ ?_
                 rotate_left
                 ·
                  show Act.put _ (some 23) _ = _
                  simp only [Act.put, List.setIfInBounds_toArray, List.set_cons_zero, List.set_cons_succ, i64_w, i32_w]
                  rfl
                 refine pure_ (i := 15) (N := some 27) (v := ?_) (a' := ?_) #[true, true, true, true, true, true, true, true, true, false, true, true, true, true, true, true, false, false, false, false, false] rfl rfl (by kernel_rfl) (fun _ _ _ h => h) (Or.inl ⟨by rfl, ?_⟩) ?_ ?_
                 rotate_left
                 ·
                  intro w'
                  go_simp
                  with_reducible rfl
                 rotate_left
                 ·
                  simp only [Act.put, List.setIfInBounds_toArray, List.set_cons_zero, List.set_cons_succ, i64_w, i32_w]
                  rfl
                 exact norm_ (by simp only [putAll, Act.put, List.setIfInBounds_toArray, List.set_cons_zero, List.set_cons_succ] <;> rfl) (hJ11 (.bool false, .slice (some ad) cs4.length c4, .pointer (some (ad.add m2)), .bool false, 0) _ ⟨hHeld, fB, fL⟩)
                ·
                 skip
                 refine value_ (w1 := ?_) (v := ?_) (by rfl) rfl ?_ ?_
                 rotate_left 2
                 ·
                  go_simp
                  constructor
                  ·
                   rfl
                  ·
                   rfl
                 obtain ⟨u_, hu_⟩ : ∃ V_, V_ = (W0.alloc (.cells #[.int .i64 0, .int .i64 0, .slice none 0 0, .slice none 0 0, .slice none 0 0] 24)) := ⟨_, rfl⟩
                 rw [← hu_]
                 have hb_ : Below W0.heap.size W0 u_ := by rw [hu_]; exact below_alloc (Below.refl _ _) _
                 have fA : AllF (w.heap.size + 1) W0.heap.size u_ := ⟨by have := HW0.out; omega, by rw [hu_]; exact heap_alloc_self W0 _⟩
                 have fB := hb_
                 clear hb_ hu_
                 refine hK.out _ _ trivial (fun hHeld => ?_)
                 clear hK K_
                 refine norm_ (a' := ?_) ?_ ?_
                 rotate_left
                 ·
                  show Act.put _ (some 4) _ = _
                  simp only [Act.put, List.setIfInBounds_toArray, List.set_cons_zero, List.set_cons_succ, i64_w, i32_w]
                  rfl
                 exact norm_ (by simp only [putAll, Act.put, List.setIfInBounds_toArray, List.set_cons_zero, List.set_cons_succ] <;> rfl) (hJ19 (.bool false, .bool false, .bool false, .bool false, W0.heap.size) _ ⟨hHeld, fB, fA⟩)
               ·
                skip
                rintro ⟨k_, b_, q_, v_, g_⟩ W_ ⟨hHeld, fB, fA⟩
                dsimp only at fB fA
                refine norm_ (a' := ?_) ?_ ?_
                rotate_left
                ·
                 simp only [putAll, Act.put, List.setIfInBounds_toArray, List.set_cons_zero, List.set_cons_succ]
                 rfl
                refine two_ (i := 9) (j := 11) (Ni := some 21) (Nj := some 23) #[true, true, true, true, true, true, true, true, true, true, true, false, true, true, true, false, false, false, false, true, false] #[true, true, true, true, true, true, true, true, true, false, true, true, true, true, true, false, false, false, false, true, false] rfl rfl rfl rfl (by kernel_rfl) (by decide) (by decide) (fun K_ hK => ?_) (fun K_ hK => ?_)
                ·
                 skip
                 refine goes_ Try.func39 (by kernel_rfl) rfl #[.int .i64 (n / 2048)] (by rfl) rfl rfl (by simp only [List.map_toArray, List.map_cons, List.map_nil]; rfl) ?_
                 with_reducible refine (keys10 (n / 2048) m3 W_ HN3.out HM3.out).mono ?_
                 rintro e u_ ⟨Ak, ck, rfl, hck, hCk, hb_⟩
                 replace fB := below_then fB fB.size hb_
                 replace fA := fA.below hb_
                 have fK : KeyF (kk m3).length (kk m3) (.slice Ak (kk m3).length ck) u_ := ⟨Ak, ck, rfl, hck, hCk⟩
                 clear hck hCk hb_
                 refine ⟨_, rfl, ?_⟩
                 refine hK.out _ _ trivial (fun hHeld => ?_)
                 clear hK K_
                 refine norm_ (a' := ?_) ?_ ?_
                 rotate_left
                 ·
                  show Act.put _ (some 21) _ = _
                  simp only [Act.put, List.setIfInBounds_toArray, List.set_cons_zero, List.set_cons_succ, i64_w, i32_w]
                  rfl
                 exact norm_ (by simp only [putAll, Act.put, List.setIfInBounds_toArray, List.set_cons_zero, List.set_cons_succ] <;> rfl) (hJ9_19 (.slice Ak (kk m3).length ck, .bool false, .bool false, .bool false, g_) _ ⟨hHeld, fB, fK, fA⟩)
                ·
                 skip
                 refine Kd.R_lit_step Kd.string W_.heap.size 9 ?hg (N := 23) ?hd (xs := cs4) (inner := [.string ⟨#[]⟩, .string ⟨#[97]⟩, .string ⟨#[98]⟩, .string ⟨#[97, 98]⟩]) (ok := fun _ => True) (okp := fun _ => True) ?hr ?hp (fun _ hk => hk) trivial (Below.refl _ _) (Nat.le_refl _) (by decide) ?_
                 (case hd => rfl)
                 (case hg => rfl)
                 (case hr => go_simp <;> rfl)
                 (case hp => exact reps_strs cs4)
                 intro v23 u_ ho hb_ hg_ hnew_
                 obtain ⟨B4, c4, rfl⟩ := Kd.R_slice ho
                 obtain ⟨ad, rfl, hcell⟩ := Kd.at_string (Kd.R_reads' ho).2.2 (m2 : Int) (by omega) (by have := HM2.out; simp [cs4]; omega)
                 simp only [Int.toNat_natCast] at hcell
                 replace fB := below_then fB fB.size hb_
                 replace fA := fA.below hb_
                 have hcell2 : u_.cell? (ad.add m2) = some (.string S4) := by rw [HS4.out]; exact hcell
                 have fL : BldF m2 S4 (.slice (some ad) cs4.length c4) (.pointer (some (ad.add m2))) u_ := ⟨ad, c4, rfl, rfl, hcell2⟩
                 have e5 : (m2 : Int) < (cs4.length : Int) := by have := HM2.out; simp [cs4]; omega
                 have e7 : m2 < cs4.length := by have := HM2.out; simp [cs4]; omega
                 have e6 : (0 : Int) ≤ (m2 : Int) := by omega
                 clear hg_ hnew_ ho hb_ hcell hcell2
                 refine hK.out _ _ trivial (fun hHeld => ?_)
                 clear hK K_
                 refine norm_ (a' := ?_) ?_ ?_
                 rotate_left
                 ·
                  show Act.put _ (some 23) _ = _
                  simp only [Act.put, List.setIfInBounds_toArray, List.set_cons_zero, List.set_cons_succ, i64_w, i32_w]
                  rfl
                 refine pure_ (i := 15) (N := some 27) (v := ?_) (a' := ?_) #[true, true, true, true, true, true, true, true, true, false, true, true, true, true, true, true, false, false, false, true, false] rfl rfl (by kernel_rfl) (fun _ _ _ h => h) (Or.inl ⟨by rfl, ?_⟩) ?_ ?_
                 rotate_left
                 ·
                  intro w'
                  go_simp
                  with_reducible rfl
                 rotate_left
                 ·
                  simp only [Act.put, List.setIfInBounds_toArray, List.set_cons_zero, List.set_cons_succ, i64_w, i32_w]
                  rfl
                 exact norm_ (by simp only [putAll, Act.put, List.setIfInBounds_toArray, List.set_cons_zero, List.set_cons_succ] <;> rfl) (hJ11_19 (.bool false, .slice (some ad) cs4.length c4, .pointer (some (ad.add m2)), .bool false, g_) _ ⟨hHeld, fB, fL, fA⟩)
              ·
               skip
               rintro ⟨k_, b_, q_, v_, g_⟩ W_ ⟨hHeld, fB, fL⟩
               dsimp only at fB fL
               obtain ⟨ad, c4, rfl, rfl, hcell⟩ := fL
               have fL : BldF m2 S4 (.slice (some ad) cs4.length c4) (.pointer (some (ad.add m2))) W_ := ⟨ad, c4, rfl, rfl, hcell⟩
               clear hcell
               refine norm_ (a' := ?_) ?_ ?_
               rotate_left
               ·
                simp only [putAll, Act.put, List.setIfInBounds_toArray, List.set_cons_zero, List.set_cons_succ]
                rfl
               refine three_ (i := 9) (j := 16) (k := 19) (Ni := some 21) (Nj := some 28) (Nk := some 4) #[true, true, true, true, true, true, true, true, true, true, true, true, true, true, true, true, false, false, false, false, false] #[true, true, true, true, true, true, true, true, true, false, true, true, true, true, true, true, true, false, false, false, false] #[true, true, true, true, true, true, true, true, true, false, true, true, true, true, true, true, false, false, false, true, false] rfl rfl rfl rfl rfl rfl (by kernel_rfl) (by decide) (by decide) (by decide) (fun K_ hK => ?_) (fun K_ hK => ?_) (fun K_ hK => ?_)
               ·
                skip
                refine goes_ Try.func39 (by kernel_rfl) rfl #[.int .i64 (n / 2048)] (by rfl) rfl rfl (by simp only [List.map_toArray, List.map_cons, List.map_nil]; rfl) ?_
                with_reducible refine (keys10 (n / 2048) m3 W_ HN3.out HM3.out).mono ?_
                rintro e u_ ⟨Ak, ck, rfl, hck, hCk, hb_⟩
                replace fB := below_then fB fB.size hb_
                replace fL := fL.below hb_
                have fK : KeyF (kk m3).length (kk m3) (.slice Ak (kk m3).length ck) u_ := ⟨Ak, ck, rfl, hck, hCk⟩
                clear hck hCk hb_
                refine ⟨_, rfl, ?_⟩
                refine hK.out _ _ trivial (fun hHeld => ?_)
                clear hK K_
                refine norm_ (a' := ?_) ?_ ?_
                rotate_left
                ·
                 show Act.put _ (some 21) _ = _
                 simp only [Act.put, List.setIfInBounds_toArray, List.set_cons_zero, List.set_cons_succ, i64_w, i32_w]
                 rfl
                exact norm_ (by simp only [putAll, Act.put, List.setIfInBounds_toArray, List.set_cons_zero, List.set_cons_succ] <;> rfl) (hJ9_11 (.slice Ak (kk m3).length ck, .slice (some ad) cs4.length c4, .pointer (some (ad.add m2)), .bool false, 0) _ ⟨hHeld, fB, fK, fL⟩)
               ·
                skip
                obtain ⟨_, _, e1_, e2_, hcell⟩ := fL
                cases e1_
                cases e2_
                refine value_ (w1 := ?_) (v := ?_) (by rfl) rfl ?_ ?_
                rotate_left 2
                ·
                 go_simp
                 constructor
                 ·
                  rfl
                 ·
                  rfl
                have fL : BldF m2 S4 (.slice (some ad) cs4.length c4) (.pointer (some (ad.add m2))) W_ := ⟨ad, c4, rfl, rfl, hcell⟩
                clear hcell
                refine hK.out _ _ trivial (fun hHeld => ?_)
                clear hK K_
                refine norm_ (a' := ?_) ?_ ?_
                rotate_left
                ·
                 show Act.put _ (some 28) _ = _
                 simp only [Act.put, List.setIfInBounds_toArray, List.set_cons_zero, List.set_cons_succ, i64_w, i32_w]
                 rfl
                exact norm_ (by simp only [putAll, Act.put, List.setIfInBounds_toArray, List.set_cons_zero, List.set_cons_succ] <;> rfl) (hJ11_16 (.bool false, .slice (some ad) cs4.length c4, .pointer (some (ad.add m2)), .bool false, 0) _ ⟨hHeld, fB, fL⟩)
               ·
                skip
                refine value_ (w1 := ?_) (v := ?_) (by rfl) rfl ?_ ?_
                rotate_left 2
                ·
                 go_simp
                 constructor
                 ·
                  rfl
                 ·
                  rfl
                obtain ⟨u_, hu_⟩ : ∃ V_, V_ = (W_.alloc (.cells #[.int .i64 0, .int .i64 0, .slice none 0 0, .slice none 0 0, .slice none 0 0] 24)) := ⟨_, rfl⟩
                rw [← hu_]
                have hb_ : Below W_.heap.size W_ u_ := by rw [hu_]; exact below_alloc (Below.refl _ _) _
                have fA : AllF (w.heap.size + 1) W_.heap.size u_ := ⟨by have := HW0.out; have := fB.size; omega, by rw [hu_]; exact heap_alloc_self W_ _⟩
                replace fB := below_then fB fB.size hb_
                replace fL := fL.below hb_
                clear hb_ hu_
                refine hK.out _ _ trivial (fun hHeld => ?_)
                clear hK K_
                refine norm_ (a' := ?_) ?_ ?_
                rotate_left
                ·
                 show Act.put _ (some 4) _ = _
                 simp only [Act.put, List.setIfInBounds_toArray, List.set_cons_zero, List.set_cons_succ, i64_w, i32_w]
                 rfl
                exact norm_ (by simp only [putAll, Act.put, List.setIfInBounds_toArray, List.set_cons_zero, List.set_cons_succ] <;> rfl) (hJ11_19 (.bool false, .slice (some ad) cs4.length c4, .pointer (some (ad.add m2)), .bool false, W_.heap.size) _ ⟨hHeld, fB, fL, fA⟩)
             ·
              skip
              rintro ⟨k_, b_, q_, v_, g_⟩ W_ ⟨hHeld, fB, fK⟩
              dsimp only at fB fK
              obtain ⟨Ak, ck, rfl, hck, hCk⟩ := fK
              have fK : KeyF (kk m3).length (kk m3) (.slice Ak (kk m3).length ck) W_ := ⟨Ak, ck, rfl, hck, hCk⟩
              clear hck hCk
              refine norm_ (a' := ?_) ?_ ?_
              rotate_left
              ·
               simp only [putAll, Act.put, List.setIfInBounds_toArray, List.set_cons_zero, List.set_cons_succ]
               rfl
              refine two_ (i := 11) (j := 19) (Ni := some 23) (Nj := some 4) #[true, true, true, true, true, true, true, true, true, true, true, true, true, true, true, false, false, false, false, false, false] #[true, true, true, true, true, true, true, true, true, true, true, false, true, true, true, false, false, false, false, true, false] rfl rfl rfl rfl (by kernel_rfl) (by decide) (by decide) (fun K_ hK => ?_) (fun K_ hK => ?_)
              ·
               skip
               refine Kd.R_lit_step Kd.string W_.heap.size 9 ?hg (N := 23) ?hd (xs := cs4) (inner := [.string ⟨#[]⟩, .string ⟨#[97]⟩, .string ⟨#[98]⟩, .string ⟨#[97, 98]⟩]) (ok := fun _ => True) (okp := fun _ => True) ?hr ?hp (fun _ hk => hk) trivial (Below.refl _ _) (Nat.le_refl _) (by decide) ?_
               (case hd => rfl)
               (case hg => rfl)
               (case hr => go_simp <;> rfl)
               (case hp => exact reps_strs cs4)
               intro v23 u_ ho hb_ hg_ hnew_
               obtain ⟨B4, c4, rfl⟩ := Kd.R_slice ho
               obtain ⟨ad, rfl, hcell⟩ := Kd.at_string (Kd.R_reads' ho).2.2 (m2 : Int) (by omega) (by have := HM2.out; simp [cs4]; omega)
               simp only [Int.toNat_natCast] at hcell
               replace fB := below_then fB fB.size hb_
               replace fK := fK.below hb_
               have hcell2 : u_.cell? (ad.add m2) = some (.string S4) := by rw [HS4.out]; exact hcell
               have fL : BldF m2 S4 (.slice (some ad) cs4.length c4) (.pointer (some (ad.add m2))) u_ := ⟨ad, c4, rfl, rfl, hcell2⟩
               have e5 : (m2 : Int) < (cs4.length : Int) := by have := HM2.out; simp [cs4]; omega
               have e7 : m2 < cs4.length := by have := HM2.out; simp [cs4]; omega
               have e6 : (0 : Int) ≤ (m2 : Int) := by omega
               clear hg_ hnew_ ho hb_ hcell hcell2
               refine hK.out _ _ trivial (fun hHeld => ?_)
               clear hK K_
               refine norm_ (a' := ?_) ?_ ?_
               rotate_left
               ·
                show Act.put _ (some 23) _ = _
                simp only [Act.put, List.setIfInBounds_toArray, List.set_cons_zero, List.set_cons_succ, i64_w, i32_w]
                rfl
               refine pure_ (i := 15) (N := some 27) (v := ?_) (a' := ?_) #[true, true, true, true, true, true, true, true, true, true, true, true, true, true, true, true, false, false, false, false, false] rfl rfl (by kernel_rfl) (fun _ _ _ h => h) (Or.inl ⟨by rfl, ?_⟩) ?_ ?_
               rotate_left
               ·
                intro w'
                go_simp
                with_reducible rfl
               rotate_left
               ·
                simp only [Act.put, List.setIfInBounds_toArray, List.set_cons_zero, List.set_cons_succ, i64_w, i32_w]
                rfl
               exact norm_ (by simp only [putAll, Act.put, List.setIfInBounds_toArray, List.set_cons_zero, List.set_cons_succ] <;> rfl) (hJ9_11 (.slice Ak (kk m3).length ck, .slice (some ad) cs4.length c4, .pointer (some (ad.add m2)), .bool false, 0) _ ⟨hHeld, fB, fK, fL⟩)
              ·
               skip
               refine value_ (w1 := ?_) (v := ?_) (by rfl) rfl ?_ ?_
               rotate_left 2
               ·
                go_simp
                constructor
                ·
                 rfl
                ·
                 rfl
               obtain ⟨u_, hu_⟩ : ∃ V_, V_ = (W_.alloc (.cells #[.int .i64 0, .int .i64 0, .slice none 0 0, .slice none 0 0, .slice none 0 0] 24)) := ⟨_, rfl⟩
               rw [← hu_]
               have hb_ : Below W_.heap.size W_ u_ := by rw [hu_]; exact below_alloc (Below.refl _ _) _
               have fA : AllF (w.heap.size + 1) W_.heap.size u_ := ⟨by have := HW0.out; have := fB.size; omega, by rw [hu_]; exact heap_alloc_self W_ _⟩
               replace fB := below_then fB fB.size hb_
               replace fK := fK.below hb_
               clear hb_ hu_
               refine hK.out _ _ trivial (fun hHeld => ?_)
               clear hK K_
               refine norm_ (a' := ?_) ?_ ?_
               rotate_left
               ·
                show Act.put _ (some 4) _ = _
                simp only [Act.put, List.setIfInBounds_toArray, List.set_cons_zero, List.set_cons_succ, i64_w, i32_w]
                rfl
               exact norm_ (by simp only [putAll, Act.put, List.setIfInBounds_toArray, List.set_cons_zero, List.set_cons_succ] <;> rfl) (hJ9_19 (.slice Ak (kk m3).length ck, .bool false, .bool false, .bool false, W_.heap.size) _ ⟨hHeld, fB, fK, fA⟩)
            ·
             skip
             rintro ⟨k_, b_, q_, v_, g_⟩ W_ ⟨hHeld, fB, fL, fA⟩
             dsimp only at fB fL fA
             obtain ⟨ad, c4, rfl, rfl, hcell⟩ := fL
             have fL : BldF m2 S4 (.slice (some ad) cs4.length c4) (.pointer (some (ad.add m2))) W_ := ⟨ad, c4, rfl, rfl, hcell⟩
             clear hcell
             refine norm_ (a' := ?_) ?_ ?_
             rotate_left
             ·
              simp only [putAll, Act.put, List.setIfInBounds_toArray, List.set_cons_zero, List.set_cons_succ]
              rfl
             refine two_ (i := 9) (j := 16) (Ni := some 21) (Nj := some 28) #[true, true, true, true, true, true, true, true, true, true, true, true, true, true, true, true, false, false, false, true, false] #[true, true, true, true, true, true, true, true, true, false, true, true, true, true, true, true, true, false, false, true, false] rfl rfl rfl rfl (by kernel_rfl) (by decide) (by decide) (fun K_ hK => ?_) (fun K_ hK => ?_)
             ·
              skip
              refine goes_ Try.func39 (by kernel_rfl) rfl #[.int .i64 (n / 2048)] (by rfl) rfl rfl (by simp only [List.map_toArray, List.map_cons, List.map_nil]; rfl) ?_
              with_reducible refine (keys10 (n / 2048) m3 W_ HN3.out HM3.out).mono ?_
              rintro e u_ ⟨Ak, ck, rfl, hck, hCk, hb_⟩
              replace fB := below_then fB fB.size hb_
              replace fL := fL.below hb_
              replace fA := fA.below hb_
              have fK : KeyF (kk m3).length (kk m3) (.slice Ak (kk m3).length ck) u_ := ⟨Ak, ck, rfl, hck, hCk⟩
              clear hck hCk hb_
              refine ⟨_, rfl, ?_⟩
              refine hK.out _ _ trivial (fun hHeld => ?_)
              clear hK K_
              refine norm_ (a' := ?_) ?_ ?_
              rotate_left
              ·
               show Act.put _ (some 21) _ = _
               simp only [Act.put, List.setIfInBounds_toArray, List.set_cons_zero, List.set_cons_succ, i64_w, i32_w]
               rfl
              exact norm_ (by simp only [putAll, Act.put, List.setIfInBounds_toArray, List.set_cons_zero, List.set_cons_succ] <;> rfl) (hJ9_11_19 (.slice Ak (kk m3).length ck, .slice (some ad) cs4.length c4, .pointer (some (ad.add m2)), .bool false, g_) _ ⟨hHeld, fB, fK, fL, fA⟩)
             ·
              skip
              obtain ⟨_, _, e1_, e2_, hcell⟩ := fL
              cases e1_
              cases e2_
              refine value_ (w1 := ?_) (v := ?_) (by rfl) rfl ?_ ?_
              rotate_left 2
              ·
               go_simp
               constructor
               ·
                rfl
               ·
                rfl
              have fL : BldF m2 S4 (.slice (some ad) cs4.length c4) (.pointer (some (ad.add m2))) W_ := ⟨ad, c4, rfl, rfl, hcell⟩
              clear hcell
              refine hK.out _ _ trivial (fun hHeld => ?_)
              clear hK K_
              refine norm_ (a' := ?_) ?_ ?_
              rotate_left
              ·
               show Act.put _ (some 28) _ = _
               simp only [Act.put, List.setIfInBounds_toArray, List.set_cons_zero, List.set_cons_succ, i64_w, i32_w]
               rfl
              exact norm_ (by simp only [putAll, Act.put, List.setIfInBounds_toArray, List.set_cons_zero, List.set_cons_succ] <;> rfl) (hJ11_16_19 (.bool false, .slice (some ad) cs4.length c4, .pointer (some (ad.add m2)), .bool false, g_) _ ⟨hHeld, fB, fL, fA⟩)
           ·
            skip
            rintro ⟨k_, b_, q_, v_, g_⟩ W_ ⟨hHeld, fB, fL⟩
            dsimp only at fB fL
            obtain ⟨ad, c4, rfl, rfl, hcell⟩ := fL
            have fL : BldF m2 S4 (.slice (some ad) cs4.length c4) (.pointer (some (ad.add m2))) W_ := ⟨ad, c4, rfl, rfl, hcell⟩
            clear hcell
            refine norm_ (a' := ?_) ?_ ?_
            rotate_left
            ·
             simp only [putAll, Act.put, List.setIfInBounds_toArray, List.set_cons_zero, List.set_cons_succ]
             rfl
            refine three_ (i := 9) (j := 17) (k := 19) (Ni := some 21) (Nj := some 29) (Nk := some 4) #[true, true, true, true, true, true, true, true, true, true, true, true, true, true, true, true, true, false, false, false, false] #[true, true, true, true, true, true, true, true, true, false, true, true, true, true, true, true, true, true, false, false, false] #[true, true, true, true, true, true, true, true, true, false, true, true, true, true, true, true, true, false, false, true, false] rfl rfl rfl rfl rfl rfl (by kernel_rfl) (by decide) (by decide) (by decide) (fun K_ hK => ?_) (fun K_ hK => ?_) (fun K_ hK => ?_)
            ·
             skip
             refine goes_ Try.func39 (by kernel_rfl) rfl #[.int .i64 (n / 2048)] (by rfl) rfl rfl (by simp only [List.map_toArray, List.map_cons, List.map_nil]; rfl) ?_
             with_reducible refine (keys10 (n / 2048) m3 W_ HN3.out HM3.out).mono ?_
             rintro e u_ ⟨Ak, ck, rfl, hck, hCk, hb_⟩
             replace fB := below_then fB fB.size hb_
             replace fL := fL.below hb_
             have fK : KeyF (kk m3).length (kk m3) (.slice Ak (kk m3).length ck) u_ := ⟨Ak, ck, rfl, hck, hCk⟩
             clear hck hCk hb_
             refine ⟨_, rfl, ?_⟩
             refine hK.out _ _ trivial (fun hHeld => ?_)
             clear hK K_
             refine norm_ (a' := ?_) ?_ ?_
             rotate_left
             ·
              show Act.put _ (some 21) _ = _
              simp only [Act.put, List.setIfInBounds_toArray, List.set_cons_zero, List.set_cons_succ, i64_w, i32_w]
              rfl
             exact norm_ (by simp only [putAll, Act.put, List.setIfInBounds_toArray, List.set_cons_zero, List.set_cons_succ] <;> rfl) (hJ9_11_16 (.slice Ak (kk m3).length ck, .slice (some ad) cs4.length c4, .pointer (some (ad.add m2)), .bool false, 0) _ ⟨hHeld, fB, fK, fL⟩)
            ·
             skip
             have kc := fun (w : World) (s : ByteArray) => run_bytes_of_string (P := Try.prog) w 9 22 5 s Try.underlying9 Try.underlying22 Try.underlying5
             refine value_ (w1 := ?_) (v := ?_) (by rfl) rfl ?_ ?_
             rotate_left 2
             ·
              go_simp
              constructor
              ·
               rfl
              ·
               rfl
             clear kc
             obtain ⟨u_, hu_⟩ : ∃ V_, V_ = (W_.alloc (.cells (bytesRow S4 (grownCap W_ S4.size 0 5)) 5 ((bytesRow S4 (grownCap W_ S4.size 0 5)).size, (bytesRow S4 (grownCap W_ S4.size 0 5)).size + 1))).drew := ⟨_, rfl⟩
             rw [← hu_]
             have hb_ : Below W_.heap.size W_ u_ := by rw [hu_]; exact below_drew1 (below_alloc (Below.refl _ _) _)
             have fV : KeyF S4.size (bytesOf S4) (.slice (some ⟨W_.heap.size, 0, none⟩) S4.size (grownCap W_ S4.size 0 5)) u_ := ⟨_, _, rfl, grownCap_ge _ _ _ _, bytes_C (by rw [hu_]; exact blk_drew (heap_alloc_self W_ _)) (by rw [HS4.out]; exact cs4_size m2)⟩
             replace fB := below_then fB fB.size hb_
             replace fL := fL.below hb_
             clear hb_ hu_
             refine hK.out _ _ trivial (fun hHeld => ?_)
             clear hK K_
             refine norm_ (a' := ?_) ?_ ?_
             rotate_left
             ·
              show Act.put _ (some 29) _ = _
              simp only [Act.put, List.setIfInBounds_toArray, List.set_cons_zero, List.set_cons_succ, i64_w, i32_w]
              rfl
             exact norm_ (by simp only [putAll, Act.put, List.setIfInBounds_toArray, List.set_cons_zero, List.set_cons_succ] <;> rfl) (hJ11_16_17 (.bool false, .slice (some ad) cs4.length c4, .pointer (some (ad.add m2)), .slice (some ⟨W_.heap.size, 0, none⟩) S4.size (grownCap W_ S4.size 0 5), 0) _ ⟨hHeld, fB, fL, fV⟩)
            ·
             skip
             refine value_ (w1 := ?_) (v := ?_) (by rfl) rfl ?_ ?_
             rotate_left 2
             ·
              go_simp
              constructor
              ·
               rfl
              ·
               rfl
             obtain ⟨u_, hu_⟩ : ∃ V_, V_ = (W_.alloc (.cells #[.int .i64 0, .int .i64 0, .slice none 0 0, .slice none 0 0, .slice none 0 0] 24)) := ⟨_, rfl⟩
             rw [← hu_]
             have hb_ : Below W_.heap.size W_ u_ := by rw [hu_]; exact below_alloc (Below.refl _ _) _
             have fA : AllF (w.heap.size + 1) W_.heap.size u_ := ⟨by have := HW0.out; have := fB.size; omega, by rw [hu_]; exact heap_alloc_self W_ _⟩
             replace fB := below_then fB fB.size hb_
             replace fL := fL.below hb_
             clear hb_ hu_
             refine hK.out _ _ trivial (fun hHeld => ?_)
             clear hK K_
             refine norm_ (a' := ?_) ?_ ?_
             rotate_left
             ·
              show Act.put _ (some 4) _ = _
              simp only [Act.put, List.setIfInBounds_toArray, List.set_cons_zero, List.set_cons_succ, i64_w, i32_w]
              rfl
             exact norm_ (by simp only [putAll, Act.put, List.setIfInBounds_toArray, List.set_cons_zero, List.set_cons_succ] <;> rfl) (hJ11_16_19 (.bool false, .slice (some ad) cs4.length c4, .pointer (some (ad.add m2)), .bool false, W_.heap.size) _ ⟨hHeld, fB, fL, fA⟩)
          ·
           skip
           rintro ⟨k_, b_, q_, v_, g_⟩ W_ ⟨hHeld, fB, fK, fA⟩
           dsimp only at fB fK fA
           obtain ⟨Ak, ck, rfl, hck, hCk⟩ := fK
           have fK : KeyF (kk m3).length (kk m3) (.slice Ak (kk m3).length ck) W_ := ⟨Ak, ck, rfl, hck, hCk⟩
           clear hck hCk
           refine norm_ (a' := ?_) ?_ ?_
           rotate_left
           ·
            simp only [putAll, Act.put, List.setIfInBounds_toArray, List.set_cons_zero, List.set_cons_succ]
            rfl
           refine one_ (i := 11) (N := some 23) #[true, true, true, true, true, true, true, true, true, true, true, true, true, true, true, false, false, false, false, true, false] rfl rfl (by kernel_rfl) (by decide) (fun K_ hK => ?_)
           refine Kd.R_lit_step Kd.string W_.heap.size 9 ?hg (N := 23) ?hd (xs := cs4) (inner := [.string ⟨#[]⟩, .string ⟨#[97]⟩, .string ⟨#[98]⟩, .string ⟨#[97, 98]⟩]) (ok := fun _ => True) (okp := fun _ => True) ?hr ?hp (fun _ hk => hk) trivial (Below.refl _ _) (Nat.le_refl _) (by decide) ?_
           (case hd => rfl)
           (case hg => rfl)
           (case hr => go_simp <;> rfl)
           (case hp => exact reps_strs cs4)
           intro v23 u_ ho hb_ hg_ hnew_
           obtain ⟨B4, c4, rfl⟩ := Kd.R_slice ho
           obtain ⟨ad, rfl, hcell⟩ := Kd.at_string (Kd.R_reads' ho).2.2 (m2 : Int) (by omega) (by have := HM2.out; simp [cs4]; omega)
           simp only [Int.toNat_natCast] at hcell
           replace fB := below_then fB fB.size hb_
           replace fK := fK.below hb_
           replace fA := fA.below hb_
           have hcell2 : u_.cell? (ad.add m2) = some (.string S4) := by rw [HS4.out]; exact hcell
           have fL : BldF m2 S4 (.slice (some ad) cs4.length c4) (.pointer (some (ad.add m2))) u_ := ⟨ad, c4, rfl, rfl, hcell2⟩
           have e5 : (m2 : Int) < (cs4.length : Int) := by have := HM2.out; simp [cs4]; omega
           have e7 : m2 < cs4.length := by have := HM2.out; simp [cs4]; omega
           have e6 : (0 : Int) ≤ (m2 : Int) := by omega
           clear hg_ hnew_ ho hb_ hcell hcell2
           refine hK.out _ _ trivial (fun hHeld => ?_)
           clear hK K_
           refine norm_ (a' := ?_) ?_ ?_
           rotate_left
           ·
            show Act.put _ (some 23) _ = _
            simp only [Act.put, List.setIfInBounds_toArray, List.set_cons_zero, List.set_cons_succ, i64_w, i32_w]
            rfl
           refine pure_ (i := 15) (N := some 27) (v := ?_) (a' := ?_) #[true, true, true, true, true, true, true, true, true, true, true, true, true, true, true, true, false, false, false, true, false] rfl rfl (by kernel_rfl) (fun _ _ _ h => h) (Or.inl ⟨by rfl, ?_⟩) ?_ ?_
           rotate_left
           ·
            intro w'
            go_simp
            with_reducible rfl
           rotate_left
           ·
            simp only [Act.put, List.setIfInBounds_toArray, List.set_cons_zero, List.set_cons_succ, i64_w, i32_w]
            rfl
           exact norm_ (by simp only [putAll, Act.put, List.setIfInBounds_toArray, List.set_cons_zero, List.set_cons_succ] <;> rfl) (hJ9_11_19 (.slice Ak (kk m3).length ck, .slice (some ad) cs4.length c4, .pointer (some (ad.add m2)), .bool false, g_) _ ⟨hHeld, fB, fK, fL, fA⟩)
         ·
          skip
          rintro ⟨k_, b_, q_, v_, g_⟩ W_ ⟨hHeld, fB, fK, fL⟩
          dsimp only at fB fK fL
          obtain ⟨Ak, ck, rfl, hck, hCk⟩ := fK
          have fK : KeyF (kk m3).length (kk m3) (.slice Ak (kk m3).length ck) W_ := ⟨Ak, ck, rfl, hck, hCk⟩
          clear hck hCk
          obtain ⟨ad, c4, rfl, rfl, hcell⟩ := fL
          have fL : BldF m2 S4 (.slice (some ad) cs4.length c4) (.pointer (some (ad.add m2))) W_ := ⟨ad, c4, rfl, rfl, hcell⟩
          clear hcell
          refine norm_ (a' := ?_) ?_ ?_
          rotate_left
          ·
           simp only [putAll, Act.put, List.setIfInBounds_toArray, List.set_cons_zero, List.set_cons_succ]
           rfl
          refine two_ (i := 16) (j := 19) (Ni := some 28) (Nj := some 4) #[true, true, true, true, true, true, true, true, true, true, true, true, true, true, true, true, true, false, false, false, false] #[true, true, true, true, true, true, true, true, true, true, true, true, true, true, true, true, false, false, false, true, false] rfl rfl rfl rfl (by kernel_rfl) (by decide) (by decide) (fun K_ hK => ?_) (fun K_ hK => ?_)
          ·
           skip
           obtain ⟨_, _, e1_, e2_, hcell⟩ := fL
           cases e1_
           cases e2_
           refine value_ (w1 := ?_) (v := ?_) (by rfl) rfl ?_ ?_
           rotate_left 2
           ·
            go_simp
            constructor
            ·
             rfl
            ·
             rfl
           have fL : BldF m2 S4 (.slice (some ad) cs4.length c4) (.pointer (some (ad.add m2))) W_ := ⟨ad, c4, rfl, rfl, hcell⟩
           clear hcell
           refine hK.out _ _ trivial (fun hHeld => ?_)
           clear hK K_
           refine norm_ (a' := ?_) ?_ ?_
           rotate_left
           ·
            show Act.put _ (some 28) _ = _
            simp only [Act.put, List.setIfInBounds_toArray, List.set_cons_zero, List.set_cons_succ, i64_w, i32_w]
            rfl
           exact norm_ (by simp only [putAll, Act.put, List.setIfInBounds_toArray, List.set_cons_zero, List.set_cons_succ] <;> rfl) (hJ9_11_16 (.slice Ak (kk m3).length ck, .slice (some ad) cs4.length c4, .pointer (some (ad.add m2)), .bool false, 0) _ ⟨hHeld, fB, fK, fL⟩)
          ·
           skip
           refine value_ (w1 := ?_) (v := ?_) (by rfl) rfl ?_ ?_
           rotate_left 2
           ·
            go_simp
            constructor
            ·
             rfl
            ·
             rfl
           obtain ⟨u_, hu_⟩ : ∃ V_, V_ = (W_.alloc (.cells #[.int .i64 0, .int .i64 0, .slice none 0 0, .slice none 0 0, .slice none 0 0] 24)) := ⟨_, rfl⟩
           rw [← hu_]
           have hb_ : Below W_.heap.size W_ u_ := by rw [hu_]; exact below_alloc (Below.refl _ _) _
           have fA : AllF (w.heap.size + 1) W_.heap.size u_ := ⟨by have := HW0.out; have := fB.size; omega, by rw [hu_]; exact heap_alloc_self W_ _⟩
           replace fB := below_then fB fB.size hb_
           replace fK := fK.below hb_
           replace fL := fL.below hb_
           clear hb_ hu_
           refine hK.out _ _ trivial (fun hHeld => ?_)
           clear hK K_
           refine norm_ (a' := ?_) ?_ ?_
           rotate_left
           ·
            show Act.put _ (some 4) _ = _
            simp only [Act.put, List.setIfInBounds_toArray, List.set_cons_zero, List.set_cons_succ, i64_w, i32_w]
            rfl
           exact norm_ (by simp only [putAll, Act.put, List.setIfInBounds_toArray, List.set_cons_zero, List.set_cons_succ] <;> rfl) (hJ9_11_19 (.slice Ak (kk m3).length ck, .slice (some ad) cs4.length c4, .pointer (some (ad.add m2)), .bool false, W_.heap.size) _ ⟨hHeld, fB, fK, fL, fA⟩)
        ·
         skip
         rintro ⟨k_, b_, q_, v_, g_⟩ W_ ⟨hHeld, fB, fL, fA⟩
         dsimp only at fB fL fA
         obtain ⟨ad, c4, rfl, rfl, hcell⟩ := fL
         have fL : BldF m2 S4 (.slice (some ad) cs4.length c4) (.pointer (some (ad.add m2))) W_ := ⟨ad, c4, rfl, rfl, hcell⟩
         clear hcell
         refine norm_ (a' := ?_) ?_ ?_
         rotate_left
         ·
          simp only [putAll, Act.put, List.setIfInBounds_toArray, List.set_cons_zero, List.set_cons_succ]
          rfl
         refine two_ (i := 9) (j := 17) (Ni := some 21) (Nj := some 29) #[true, true, true, true, true, true, true, true, true, true, true, true, true, true, true, true, true, false, false, true, false] #[true, true, true, true, true, true, true, true, true, false, true, true, true, true, true, true, true, true, false, true, false] rfl rfl rfl rfl (by kernel_rfl) (by decide) (by decide) (fun K_ hK => ?_) (fun K_ hK => ?_)
         ·
          skip
          refine goes_ Try.func39 (by kernel_rfl) rfl #[.int .i64 (n / 2048)] (by rfl) rfl rfl (by simp only [List.map_toArray, List.map_cons, List.map_nil]; rfl) ?_
          with_reducible refine (keys10 (n / 2048) m3 W_ HN3.out HM3.out).mono ?_
          rintro e u_ ⟨Ak, ck, rfl, hck, hCk, hb_⟩
          replace fB := below_then fB fB.size hb_
          replace fL := fL.below hb_
          replace fA := fA.below hb_
          have fK : KeyF (kk m3).length (kk m3) (.slice Ak (kk m3).length ck) u_ := ⟨Ak, ck, rfl, hck, hCk⟩
          clear hck hCk hb_
          refine ⟨_, rfl, ?_⟩
          refine hK.out _ _ trivial (fun hHeld => ?_)
          clear hK K_
          refine norm_ (a' := ?_) ?_ ?_
          rotate_left
          ·
           show Act.put _ (some 21) _ = _
           simp only [Act.put, List.setIfInBounds_toArray, List.set_cons_zero, List.set_cons_succ, i64_w, i32_w]
           rfl
          exact norm_ (by simp only [putAll, Act.put, List.setIfInBounds_toArray, List.set_cons_zero, List.set_cons_succ] <;> rfl) (hJ9_11_16_19 (.slice Ak (kk m3).length ck, .slice (some ad) cs4.length c4, .pointer (some (ad.add m2)), .bool false, g_) _ ⟨hHeld, fB, fK, fL, fA⟩)
         ·
          skip
          have kc := fun (w : World) (s : ByteArray) => run_bytes_of_string (P := Try.prog) w 9 22 5 s Try.underlying9 Try.underlying22 Try.underlying5
          refine value_ (w1 := ?_) (v := ?_) (by rfl) rfl ?_ ?_
          rotate_left 2
          ·
           go_simp
           constructor
           ·
            rfl
           ·
            rfl
          clear kc
          obtain ⟨u_, hu_⟩ : ∃ V_, V_ = (W_.alloc (.cells (bytesRow S4 (grownCap W_ S4.size 0 5)) 5 ((bytesRow S4 (grownCap W_ S4.size 0 5)).size, (bytesRow S4 (grownCap W_ S4.size 0 5)).size + 1))).drew := ⟨_, rfl⟩
          rw [← hu_]
          have hb_ : Below W_.heap.size W_ u_ := by rw [hu_]; exact below_drew1 (below_alloc (Below.refl _ _) _)
          have fV : KeyF S4.size (bytesOf S4) (.slice (some ⟨W_.heap.size, 0, none⟩) S4.size (grownCap W_ S4.size 0 5)) u_ := ⟨_, _, rfl, grownCap_ge _ _ _ _, bytes_C (by rw [hu_]; exact blk_drew (heap_alloc_self W_ _)) (by rw [HS4.out]; exact cs4_size m2)⟩
          replace fB := below_then fB fB.size hb_
          replace fL := fL.below hb_
          replace fA := fA.below hb_
          clear hb_ hu_
          refine hK.out _ _ trivial (fun hHeld => ?_)
          clear hK K_
          refine norm_ (a' := ?_) ?_ ?_
          rotate_left
          ·
           show Act.put _ (some 29) _ = _
           simp only [Act.put, List.setIfInBounds_toArray, List.set_cons_zero, List.set_cons_succ, i64_w, i32_w]
           rfl
          exact norm_ (by simp only [putAll, Act.put, List.setIfInBounds_toArray, List.set_cons_zero, List.set_cons_succ] <;> rfl) (hJ11_16_17_19 (.bool false, .slice (some ad) cs4.length c4, .pointer (some (ad.add m2)), .slice (some ⟨W_.heap.size, 0, none⟩) S4.size (grownCap W_ S4.size 0 5), g_) _ ⟨hHeld, fB, fL, fV, fA⟩)
       ·
        skip
        rintro ⟨k_, b_, q_, v_, g_⟩ W_ ⟨hHeld, fB, fL, fV⟩
        dsimp only at fB fL fV
        obtain ⟨ad, c4, rfl, rfl, hcell⟩ := fL
        have fL : BldF m2 S4 (.slice (some ad) cs4.length c4) (.pointer (some (ad.add m2))) W_ := ⟨ad, c4, rfl, rfl, hcell⟩
        clear hcell
        obtain ⟨Av, av, rfl, hav, hCv⟩ := fV
        have fV : KeyF S4.size (bytesOf S4) (.slice Av S4.size av) W_ := ⟨Av, av, rfl, hav, hCv⟩
        clear hav hCv
        refine norm_ (a' := ?_) ?_ ?_
        rotate_left
        ·
         simp only [putAll, Act.put, List.setIfInBounds_toArray, List.set_cons_zero, List.set_cons_succ]
         rfl
        refine two_ (i := 9) (j := 19) (Ni := some 21) (Nj := some 4) #[true, true, true, true, true, true, true, true, true, true, true, true, true, true, true, true, true, true, false, false, false] #[true, true, true, true, true, true, true, true, true, false, true, true, true, true, true, true, true, true, false, true, false] rfl rfl rfl rfl (by kernel_rfl) (by decide) (by decide) (fun K_ hK => ?_) (fun K_ hK => ?_)
        ·
         skip
         refine goes_ Try.func39 (by kernel_rfl) rfl #[.int .i64 (n / 2048)] (by rfl) rfl rfl (by simp only [List.map_toArray, List.map_cons, List.map_nil]; rfl) ?_
         with_reducible refine (keys10 (n / 2048) m3 W_ HN3.out HM3.out).mono ?_
         rintro e u_ ⟨Ak, ck, rfl, hck, hCk, hb_⟩
         replace fB := below_then fB fB.size hb_
         replace fL := fL.below hb_
         replace fV := fV.below hb_
         have fK : KeyF (kk m3).length (kk m3) (.slice Ak (kk m3).length ck) u_ := ⟨Ak, ck, rfl, hck, hCk⟩
         clear hck hCk hb_
         refine ⟨_, rfl, ?_⟩
         refine hK.out _ _ trivial (fun hHeld => ?_)
         clear hK K_
         refine norm_ (a' := ?_) ?_ ?_
         rotate_left
         ·
          show Act.put _ (some 21) _ = _
          simp only [Act.put, List.setIfInBounds_toArray, List.set_cons_zero, List.set_cons_succ, i64_w, i32_w]
          rfl
         refine pure_ (i := 18) (N := some 30) (v := ?_) (a' := ?_) #[true, true, true, true, true, true, true, true, true, true, true, true, true, true, true, true, true, true, true, false, false] rfl rfl (by kernel_rfl) (fun _ _ _ h => h) (Or.inl ⟨by rfl, ?_⟩) ?_ ?_
         rotate_left
         ·
          intro w'
          go_simp
          with_reducible rfl
         rotate_left
         ·
          simp only [Act.put, List.setIfInBounds_toArray, List.set_cons_zero, List.set_cons_succ, i64_w, i32_w]
          rfl
         exact norm_ (by simp only [putAll, Act.put, List.setIfInBounds_toArray, List.set_cons_zero, List.set_cons_succ] <;> rfl) (hJ9_11_16_17 (.slice Ak (kk m3).length ck, .slice (some ad) cs4.length c4, .pointer (some (ad.add m2)), .slice Av S4.size av, 0) _ ⟨hHeld, fB, fK, fL, fV⟩)
        ·
         skip
         refine value_ (w1 := ?_) (v := ?_) (by rfl) rfl ?_ ?_
         rotate_left 2
         ·
          go_simp
          constructor
          ·
           rfl
          ·
           rfl
         obtain ⟨u_, hu_⟩ : ∃ V_, V_ = (W_.alloc (.cells #[.int .i64 0, .int .i64 0, .slice none 0 0, .slice none 0 0, .slice none 0 0] 24)) := ⟨_, rfl⟩
         rw [← hu_]
         have hb_ : Below W_.heap.size W_ u_ := by rw [hu_]; exact below_alloc (Below.refl _ _) _
         have fA : AllF (w.heap.size + 1) W_.heap.size u_ := ⟨by have := HW0.out; have := fB.size; omega, by rw [hu_]; exact heap_alloc_self W_ _⟩
         replace fB := below_then fB fB.size hb_
         replace fL := fL.below hb_
         replace fV := fV.below hb_
         clear hb_ hu_
         refine hK.out _ _ trivial (fun hHeld => ?_)
         clear hK K_
         refine norm_ (a' := ?_) ?_ ?_
         rotate_left
         ·
          show Act.put _ (some 4) _ = _
          simp only [Act.put, List.setIfInBounds_toArray, List.set_cons_zero, List.set_cons_succ, i64_w, i32_w]
          rfl
         exact norm_ (by simp only [putAll, Act.put, List.setIfInBounds_toArray, List.set_cons_zero, List.set_cons_succ] <;> rfl) (hJ11_16_17_19 (.bool false, .slice (some ad) cs4.length c4, .pointer (some (ad.add m2)), .slice Av S4.size av, W_.heap.size) _ ⟨hHeld, fB, fL, fV, fA⟩)
      ·
       skip
       rintro ⟨k_, b_, q_, v_, g_⟩ W_ ⟨hHeld, fB, fK, fL, fA⟩
       dsimp only at fB fK fL fA
       obtain ⟨Ak, ck, rfl, hck, hCk⟩ := fK
       have fK : KeyF (kk m3).length (kk m3) (.slice Ak (kk m3).length ck) W_ := ⟨Ak, ck, rfl, hck, hCk⟩
       clear hck hCk
       obtain ⟨ad, c4, rfl, rfl, hcell⟩ := fL
       have fL : BldF m2 S4 (.slice (some ad) cs4.length c4) (.pointer (some (ad.add m2))) W_ := ⟨ad, c4, rfl, rfl, hcell⟩
       clear hcell
       refine norm_ (a' := ?_) ?_ ?_
       rotate_left
       ·
        simp only [putAll, Act.put, List.setIfInBounds_toArray, List.set_cons_zero, List.set_cons_succ]
        rfl
       refine one_ (i := 16) (N := some 28) #[true, true, true, true, true, true, true, true, true, true, true, true, true, true, true, true, true, false, false, true, false] rfl rfl (by kernel_rfl) (by decide) (fun K_ hK => ?_)
       obtain ⟨_, _, e1_, e2_, hcell⟩ := fL
       cases e1_
       cases e2_
       refine value_ (w1 := ?_) (v := ?_) (by rfl) rfl ?_ ?_
       rotate_left 2
       ·
        go_simp
        constructor
        ·
         rfl
        ·
         rfl
       have fL : BldF m2 S4 (.slice (some ad) cs4.length c4) (.pointer (some (ad.add m2))) W_ := ⟨ad, c4, rfl, rfl, hcell⟩
       clear hcell
       refine hK.out _ _ trivial (fun hHeld => ?_)
       clear hK K_
       refine norm_ (a' := ?_) ?_ ?_
       rotate_left
       ·
        show Act.put _ (some 28) _ = _
        simp only [Act.put, List.setIfInBounds_toArray, List.set_cons_zero, List.set_cons_succ, i64_w, i32_w]
        rfl
       exact norm_ (by simp only [putAll, Act.put, List.setIfInBounds_toArray, List.set_cons_zero, List.set_cons_succ] <;> rfl) (hJ9_11_16_19 (.slice Ak (kk m3).length ck, .slice (some ad) cs4.length c4, .pointer (some (ad.add m2)), .bool false, g_) _ ⟨hHeld, fB, fK, fL, fA⟩)
     ·
      skip
      rintro ⟨k_, b_, q_, v_, g_⟩ W_ ⟨hHeld, fB, fK, fL⟩
      dsimp only at fB fK fL
      obtain ⟨Ak, ck, rfl, hck, hCk⟩ := fK
      have fK : KeyF (kk m3).length (kk m3) (.slice Ak (kk m3).length ck) W_ := ⟨Ak, ck, rfl, hck, hCk⟩
      clear hck hCk
      obtain ⟨ad, c4, rfl, rfl, hcell⟩ := fL
      have fL : BldF m2 S4 (.slice (some ad) cs4.length c4) (.pointer (some (ad.add m2))) W_ := ⟨ad, c4, rfl, rfl, hcell⟩
      clear hcell
      refine norm_ (a' := ?_) ?_ ?_
      rotate_left
      ·
       simp only [putAll, Act.put, List.setIfInBounds_toArray, List.set_cons_zero, List.set_cons_succ]
       rfl
      refine two_ (i := 17) (j := 19) (Ni := some 29) (Nj := some 4) #[true, true, true, true, true, true, true, true, true, true, true, true, true, true, true, true, true, true, false, false, false] #[true, true, true, true, true, true, true, true, true, true, true, true, true, true, true, true, true, false, false, true, false] rfl rfl rfl rfl (by kernel_rfl) (by decide) (by decide) (fun K_ hK => ?_) (fun K_ hK => ?_)
      ·
       skip
       have kc := fun (w : World) (s : ByteArray) => run_bytes_of_string (P := Try.prog) w 9 22 5 s Try.underlying9 Try.underlying22 Try.underlying5
       refine value_ (w1 := ?_) (v := ?_) (by rfl) rfl ?_ ?_
       rotate_left 2
       ·
        go_simp
        constructor
        ·
         rfl
        ·
         rfl
       clear kc
       obtain ⟨u_, hu_⟩ : ∃ V_, V_ = (W_.alloc (.cells (bytesRow S4 (grownCap W_ S4.size 0 5)) 5 ((bytesRow S4 (grownCap W_ S4.size 0 5)).size, (bytesRow S4 (grownCap W_ S4.size 0 5)).size + 1))).drew := ⟨_, rfl⟩
       rw [← hu_]
       have hb_ : Below W_.heap.size W_ u_ := by rw [hu_]; exact below_drew1 (below_alloc (Below.refl _ _) _)
       have fV : KeyF S4.size (bytesOf S4) (.slice (some ⟨W_.heap.size, 0, none⟩) S4.size (grownCap W_ S4.size 0 5)) u_ := ⟨_, _, rfl, grownCap_ge _ _ _ _, bytes_C (by rw [hu_]; exact blk_drew (heap_alloc_self W_ _)) (by rw [HS4.out]; exact cs4_size m2)⟩
       replace fB := below_then fB fB.size hb_
       replace fK := fK.below hb_
       replace fL := fL.below hb_
       clear hb_ hu_
       refine hK.out _ _ trivial (fun hHeld => ?_)
       clear hK K_
       refine norm_ (a' := ?_) ?_ ?_
       rotate_left
       ·
        show Act.put _ (some 29) _ = _
        simp only [Act.put, List.setIfInBounds_toArray, List.set_cons_zero, List.set_cons_succ, i64_w, i32_w]
        rfl
       refine pure_ (i := 18) (N := some 30) (v := ?_) (a' := ?_) #[true, true, true, true, true, true, true, true, true, true, true, true, true, true, true, true, true, true, true, false, false] rfl rfl (by kernel_rfl) (fun _ _ _ h => h) (Or.inl ⟨by rfl, ?_⟩) ?_ ?_
       rotate_left
       ·
        intro w'
        go_simp
        with_reducible rfl
       rotate_left
       ·
        simp only [Act.put, List.setIfInBounds_toArray, List.set_cons_zero, List.set_cons_succ, i64_w, i32_w]
        rfl
       exact norm_ (by simp only [putAll, Act.put, List.setIfInBounds_toArray, List.set_cons_zero, List.set_cons_succ] <;> rfl) (hJ9_11_16_17 (.slice Ak (kk m3).length ck, .slice (some ad) cs4.length c4, .pointer (some (ad.add m2)), .slice (some ⟨W_.heap.size, 0, none⟩) S4.size (grownCap W_ S4.size 0 5), 0) _ ⟨hHeld, fB, fK, fL, fV⟩)
      ·
       skip
       refine value_ (w1 := ?_) (v := ?_) (by rfl) rfl ?_ ?_
       rotate_left 2
       ·
        go_simp
        constructor
        ·
         rfl
        ·
         rfl
       obtain ⟨u_, hu_⟩ : ∃ V_, V_ = (W_.alloc (.cells #[.int .i64 0, .int .i64 0, .slice none 0 0, .slice none 0 0, .slice none 0 0] 24)) := ⟨_, rfl⟩
       rw [← hu_]
       have hb_ : Below W_.heap.size W_ u_ := by rw [hu_]; exact below_alloc (Below.refl _ _) _
       have fA : AllF (w.heap.size + 1) W_.heap.size u_ := ⟨by have := HW0.out; have := fB.size; omega, by rw [hu_]; exact heap_alloc_self W_ _⟩
       replace fB := below_then fB fB.size hb_
       replace fK := fK.below hb_
       replace fL := fL.below hb_
       clear hb_ hu_
       refine hK.out _ _ trivial (fun hHeld => ?_)
       clear hK K_
       refine norm_ (a' := ?_) ?_ ?_
       rotate_left
       ·
        show Act.put _ (some 4) _ = _
        simp only [Act.put, List.setIfInBounds_toArray, List.set_cons_zero, List.set_cons_succ, i64_w, i32_w]
        rfl
       exact norm_ (by simp only [putAll, Act.put, List.setIfInBounds_toArray, List.set_cons_zero, List.set_cons_succ] <;> rfl) (hJ9_11_16_19 (.slice Ak (kk m3).length ck, .slice (some ad) cs4.length c4, .pointer (some (ad.add m2)), .bool false, W_.heap.size) _ ⟨hHeld, fB, fK, fL, fA⟩)
    ·
     skip
     rintro ⟨k_, b_, q_, v_, g_⟩ W_ ⟨hHeld, fB, fL, fV, fA⟩
     dsimp only at fB fL fV fA
     obtain ⟨ad, c4, rfl, rfl, hcell⟩ := fL
     have fL : BldF m2 S4 (.slice (some ad) cs4.length c4) (.pointer (some (ad.add m2))) W_ := ⟨ad, c4, rfl, rfl, hcell⟩
     clear hcell
     obtain ⟨Av, av, rfl, hav, hCv⟩ := fV
     have fV : KeyF S4.size (bytesOf S4) (.slice Av S4.size av) W_ := ⟨Av, av, rfl, hav, hCv⟩
     clear hav hCv
     refine norm_ (a' := ?_) ?_ ?_
     rotate_left
     ·
      simp only [putAll, Act.put, List.setIfInBounds_toArray, List.set_cons_zero, List.set_cons_succ]
      rfl
     refine one_ (i := 9) (N := some 21) #[true, true, true, true, true, true, true, true, true, true, true, true, true, true, true, true, true, true, false, true, false] rfl rfl (by kernel_rfl) (by decide) (fun K_ hK => ?_)
     refine goes_ Try.func39 (by kernel_rfl) rfl #[.int .i64 (n / 2048)] (by rfl) rfl rfl (by simp only [List.map_toArray, List.map_cons, List.map_nil]; rfl) ?_
     with_reducible refine (keys10 (n / 2048) m3 W_ HN3.out HM3.out).mono ?_
     rintro e u_ ⟨Ak, ck, rfl, hck, hCk, hb_⟩
     replace fB := below_then fB fB.size hb_
     replace fL := fL.below hb_
     replace fV := fV.below hb_
     replace fA := fA.below hb_
     have fK : KeyF (kk m3).length (kk m3) (.slice Ak (kk m3).length ck) u_ := ⟨Ak, ck, rfl, hck, hCk⟩
     clear hck hCk hb_
     refine ⟨_, rfl, ?_⟩
     refine hK.out _ _ trivial (fun hHeld => ?_)
     clear hK K_
     refine norm_ (a' := ?_) ?_ ?_
     rotate_left
     ·
      show Act.put _ (some 21) _ = _
      simp only [Act.put, List.setIfInBounds_toArray, List.set_cons_zero, List.set_cons_succ, i64_w, i32_w]
      rfl
     refine pure_ (i := 18) (N := some 30) (v := ?_) (a' := ?_) #[true, true, true, true, true, true, true, true, true, true, true, true, true, true, true, true, true, true, true, true, false] rfl rfl (by kernel_rfl) (fun _ _ _ h => h) (Or.inl ⟨by rfl, ?_⟩) ?_ ?_
     rotate_left
     ·
      intro w'
      go_simp
      with_reducible rfl
     rotate_left
     ·
      simp only [Act.put, List.setIfInBounds_toArray, List.set_cons_zero, List.set_cons_succ, i64_w, i32_w]
      rfl
     exact norm_ (by simp only [putAll, Act.put, List.setIfInBounds_toArray, List.set_cons_zero, List.set_cons_succ] <;> rfl) (hJ9_11_16_17_19 (.slice Ak (kk m3).length ck, .slice (some ad) cs4.length c4, .pointer (some (ad.add m2)), .slice Av S4.size av, g_) _ ⟨hHeld, fB, fK, fL, fV, fA⟩)
   ·
    skip
    rintro ⟨k_, b_, q_, v_, g_⟩ W_ ⟨hHeld, fB, fK, fL, fA⟩
    dsimp only at fB fK fL fA
    obtain ⟨Ak, ck, rfl, hck, hCk⟩ := fK
    have fK : KeyF (kk m3).length (kk m3) (.slice Ak (kk m3).length ck) W_ := ⟨Ak, ck, rfl, hck, hCk⟩
    clear hck hCk
    obtain ⟨ad, c4, rfl, rfl, hcell⟩ := fL
    have fL : BldF m2 S4 (.slice (some ad) cs4.length c4) (.pointer (some (ad.add m2))) W_ := ⟨ad, c4, rfl, rfl, hcell⟩
    clear hcell
    refine norm_ (a' := ?_) ?_ ?_
    rotate_left
    ·
     simp only [putAll, Act.put, List.setIfInBounds_toArray, List.set_cons_zero, List.set_cons_succ]
     rfl
    refine one_ (i := 17) (N := some 29) #[true, true, true, true, true, true, true, true, true, true, true, true, true, true, true, true, true, true, false, true, false] rfl rfl (by kernel_rfl) (by decide) (fun K_ hK => ?_)
    have kc := fun (w : World) (s : ByteArray) => run_bytes_of_string (P := Try.prog) w 9 22 5 s Try.underlying9 Try.underlying22 Try.underlying5
    refine value_ (w1 := ?_) (v := ?_) (by rfl) rfl ?_ ?_
    rotate_left 2
    ·
     go_simp
     constructor
     ·
      rfl
     ·
      rfl
    clear kc
    obtain ⟨u_, hu_⟩ : ∃ V_, V_ = (W_.alloc (.cells (bytesRow S4 (grownCap W_ S4.size 0 5)) 5 ((bytesRow S4 (grownCap W_ S4.size 0 5)).size, (bytesRow S4 (grownCap W_ S4.size 0 5)).size + 1))).drew := ⟨_, rfl⟩
    rw [← hu_]
    have hb_ : Below W_.heap.size W_ u_ := by rw [hu_]; exact below_drew1 (below_alloc (Below.refl _ _) _)
    have fV : KeyF S4.size (bytesOf S4) (.slice (some ⟨W_.heap.size, 0, none⟩) S4.size (grownCap W_ S4.size 0 5)) u_ := ⟨_, _, rfl, grownCap_ge _ _ _ _, bytes_C (by rw [hu_]; exact blk_drew (heap_alloc_self W_ _)) (by rw [HS4.out]; exact cs4_size m2)⟩
    replace fB := below_then fB fB.size hb_
    replace fK := fK.below hb_
    replace fL := fL.below hb_
    replace fA := fA.below hb_
    clear hb_ hu_
    refine hK.out _ _ trivial (fun hHeld => ?_)
    clear hK K_
    refine norm_ (a' := ?_) ?_ ?_
    rotate_left
    ·
     show Act.put _ (some 29) _ = _
     simp only [Act.put, List.setIfInBounds_toArray, List.set_cons_zero, List.set_cons_succ, i64_w, i32_w]
     rfl
    refine pure_ (i := 18) (N := some 30) (v := ?_) (a' := ?_) #[true, true, true, true, true, true, true, true, true, true, true, true, true, true, true, true, true, true, true, true, false] rfl rfl (by kernel_rfl) (fun _ _ _ h => h) (Or.inl ⟨by rfl, ?_⟩) ?_ ?_
    rotate_left
    ·
     intro w'
     go_simp
     with_reducible rfl
    rotate_left
    ·
     simp only [Act.put, List.setIfInBounds_toArray, List.set_cons_zero, List.set_cons_succ, i64_w, i32_w]
     rfl
    exact norm_ (by simp only [putAll, Act.put, List.setIfInBounds_toArray, List.set_cons_zero, List.set_cons_succ] <;> rfl) (hJ9_11_16_17_19 (.slice Ak (kk m3).length ck, .slice (some ad) cs4.length c4, .pointer (some (ad.add m2)), .slice (some ⟨W_.heap.size, 0, none⟩) S4.size (grownCap W_ S4.size 0 5), g_) _ ⟨hHeld, fB, fK, fL, fV, fA⟩)
  ·
   skip
   rintro ⟨k_, b_, q_, v_, g_⟩ W_ ⟨hHeld, fB, fK, fL, fV⟩
   dsimp only at fB fK fL fV
   obtain ⟨Ak, ck, rfl, hck, hCk⟩ := fK
   have fK : KeyF (kk m3).length (kk m3) (.slice Ak (kk m3).length ck) W_ := ⟨Ak, ck, rfl, hck, hCk⟩
   clear hck hCk
   obtain ⟨ad, c4, rfl, rfl, hcell⟩ := fL
   have fL : BldF m2 S4 (.slice (some ad) cs4.length c4) (.pointer (some (ad.add m2))) W_ := ⟨ad, c4, rfl, rfl, hcell⟩
   clear hcell
   obtain ⟨Av, av, rfl, hav, hCv⟩ := fV
   have fV : KeyF S4.size (bytesOf S4) (.slice Av S4.size av) W_ := ⟨Av, av, rfl, hav, hCv⟩
   clear hav hCv
   refine norm_ (a' := ?_) ?_ ?_
   rotate_left
   ·
    simp only [putAll, Act.put, List.setIfInBounds_toArray, List.set_cons_zero, List.set_cons_succ]
    rfl
   refine one_ (i := 19) (N := some 4) #[true, true, true, true, true, true, true, true, true, true, true, true, true, true, true, true, true, true, true, true, false] rfl rfl (by kernel_rfl) (by decide) (fun K_ hK => ?_)
   refine value_ (w1 := ?_) (v := ?_) (by rfl) rfl ?_ ?_
   rotate_left 2
   ·
    go_simp
    constructor
    ·
     rfl
    ·
     rfl
   obtain ⟨u_, hu_⟩ : ∃ V_, V_ = (W_.alloc (.cells #[.int .i64 0, .int .i64 0, .slice none 0 0, .slice none 0 0, .slice none 0 0] 24)) := ⟨_, rfl⟩
   rw [← hu_]
   have hb_ : Below W_.heap.size W_ u_ := by rw [hu_]; exact below_alloc (Below.refl _ _) _
   have fA : AllF (w.heap.size + 1) W_.heap.size u_ := ⟨by have := HW0.out; have := fB.size; omega, by rw [hu_]; exact heap_alloc_self W_ _⟩
   replace fB := below_then fB fB.size hb_
   replace fK := fK.below hb_
   replace fL := fL.below hb_
   replace fV := fV.below hb_
   clear hb_ hu_
   refine hK.out _ _ trivial (fun hHeld => ?_)
   clear hK K_
   refine norm_ (a' := ?_) ?_ ?_
   rotate_left
   ·
    show Act.put _ (some 4) _ = _
    simp only [Act.put, List.setIfInBounds_toArray, List.set_cons_zero, List.set_cons_succ, i64_w, i32_w]
    rfl
   exact norm_ (by simp only [putAll, Act.put, List.setIfInBounds_toArray, List.set_cons_zero, List.set_cons_succ] <;> rfl) (hJ9_11_16_17_19 (.slice Ak (kk m3).length ck, .slice (some ad) cs4.length c4, .pointer (some (ad.add m2)), .slice Av S4.size av, W_.heap.size) _ ⟨hHeld, fB, fK, fL, fV, fA⟩)
 rintro ⟨k_, b_, q_, v_, g_⟩ W_ ⟨hHeld, fB, fK, fL, fV, fA⟩
 dsimp only at fB fK fL fV fA
 obtain ⟨Ak, ck, rfl, hck, hCk⟩ := fK
 have fK : KeyF (kk m3).length (kk m3) (.slice Ak (kk m3).length ck) W_ := ⟨Ak, ck, rfl, hck, hCk⟩
 clear hck hCk
 obtain ⟨ad, c4, rfl, rfl, hcell⟩ := fL
 have fL : BldF m2 S4 (.slice (some ad) cs4.length c4) (.pointer (some (ad.add m2))) W_ := ⟨ad, c4, rfl, rfl, hcell⟩
 clear hcell
 obtain ⟨Av, av, rfl, hav, hCv⟩ := fV
 have fV : KeyF S4.size (bytesOf S4) (.slice Av S4.size av) W_ := ⟨Av, av, rfl, hav, hCv⟩
 clear hav hCv
 refine norm_ (a' := ?_) ?_ ?_
 rotate_left
 ·
  simp only [putAll, Act.put, List.setIfInBounds_toArray, List.set_cons_zero, List.set_cons_succ]
  rfl
 refine last_ (i := 20) (N := none) #[true, true, true, true, true, true, true, true, true, true, true, true, true, true, true, true, true, true, true, true, true] rfl rfl (by kernel_rfl) (by decide) (fun K_ hK => ?_)
 obtain ⟨hAb, hAh⟩ := fA
 obtain ⟨z0, z1, z2, z3, z4, z5⟩ := cells5 hAh
 have z50 := z5 0
 have z51 := z5 1
 have z52 := z5 2
 have z53 := z5 3
 have z54 := z5 4
 clear z5
 refine skip_ (w1 := ?_) (by rfl) rfl ?_ ?_
 rotate_left
 ·
  go_simp
  rfl
 refine hK.out _ _ ?_
 clear hK K_
 refine done_ (by kernel_rfl) ?_
 obtain ⟨_, _, e1_, hck, hCk⟩ := fK
 cases e1_
 obtain ⟨_, _, e1_, hav, hCv⟩ := fV
 cases e1_
 clear z0 z1 z2 z3 z4 z50 z51 z52 z53 z54 fL
 have K4 := Aside0.mk hAh
 have HG4 := Aside0.mk hAb
 have HKy := Aside0.mk hCk
 have LKy := Aside0.mk hck
 have HVl := Aside0.mk hCv
 have LVl := Aside0.mk hav
 clear hAh hAb hCk hck hCv hav hHeld
 replace HB := HBs HB fB
 replace K0 := KB K0 fB
 replace HVal := Aside0.mk (Kd.C_below HVal.out fB)
 clear fB
 generalize hV3 : World.setCell (World.setCell (World.setCell (World.setCell (World.setCell W_ _ _) _ _) _ _) _ _) _ _ = V3
 have old_ := K4.out
 have hge_ : w.heap.size ≤ g_ := by have z_ := HG4.out; omega
 have hst_ := st5 HB.out hge_ K4.out hV3
 replace HB := Aside0.mk hst_.1
 replace K4 := Aside0.mk hst_.2.1
 have z_ := HG4.out
 replace K0 := KS K0 hst_ (by omega)
 replace HVal := Aside0.mk (C_ne HVal.out old_ hst_.2.2.1 (by rintro (_ | _ | _ | _ | _ | o) x <;> simp))
 replace HKy := Aside0.mk (C_ne HKy.out old_ hst_.2.2.1 (by rintro (_ | _ | _ | _ | _ | o) x <;> simp))
 replace HVl := Aside0.mk (C_ne HVl.out old_ hst_.2.2.1 (by rintro (_ | _ | _ | _ | _ | o) x <;> simp))
 have SV3 := Aside0.mk hst_.2.2.2
 clear hV3 hst_ hge_ z_ old_
 have n1 : ¬ g_ = w.heap.size := by have z_ := HG4.out; omega
 have n2 : ¬ w.heap.size = g_ := by have z_ := HG4.out; omega
 by_cases hA : k0 = 0 ∨ k0 = 12
 ·
  by_cases hZ : z19 = 0
  ·
   have a1 : ((k0 : Int) == 0 || (k0 : Int) == 12) = true := by rcases hA with h | h <;> simp [h]
   have q2 : ((z19 : Int) == 0) = true := by simp [hZ]
   clear a1
   rcases (show (k0 = 0 ∨ (k0 ≠ 0 ∧ k0 = 12)) by omega) with h0 | ⟨h0, h1⟩
   ·
    have q1 : ((k0 : Int) == 0) = true := by simp [h0]
    clear h0
    obtain ⟨y0, y1, y2, y3, y4, y50, y51, y52, y53, y54⟩ := cel5 K4.out
    go_wp2_with (
     (with_reducible refine gate_dst (N := 39) rfl ?_)
     clear y0 y1 y2 y3 y4 y50 y51 y52 y53 y54
     refine Kd.R_lit ki V3.heap.size 3 ?hg (N := 39) ?hd (xs := [1, 2, 4, 9]) (inner := [.int .i64 1, .int .i64 2, .int .i64 4, .int .i64 9]) (ok := fun _ => True) (okp := fun _ => True) ?hr ?hp (fun _ hk => hk) trivial (Below.refl _ _) (Nat.le_refl _) (by decide) ?_
     (case hd => rfl)
     (case hg => rfl)
     (case hr => go_simp <;> rfl)
     (case hp => exact reps_ints [1, 2, 4, 9])
     intro v39 V4 ho hb_ hg_ hnew_
     obtain ⟨Bq, cq, rfl⟩ := Kd.R_slice ho
     obtain ⟨adq, cc, rfl, _, hKq, hcq⟩ := Kd.C_get (Kd.R_reads' ho).2.2 0 (m17 : Int) (by omega) (by have := HM17.out; simp; omega)
     have hcell := hcq 0 (.int .i64 (([1, 2, 4, 9] : List Int).getD (m17 : Int).toNat 0)) (by rw [show cc = [.int .i64 (([1, 2, 4, 9] : List Int).getD (m17 : Int).toNat 0)] from hKq]; rfl)
     simp only [Int.toNat_natCast, show ki.sz = 1 from rfl, Nat.mul_one, Nat.add_zero] at hcell
     obtain ⟨X17, hX17⟩ : ∃ x, x = ([1, 2, 4, 9] : List Int).getD m17 0 := ⟨_, rfl⟩
     have HX17 := Aside0.mk hX17
     rw [← hX17] at hcell
     have e5 : (m17 : Int) < 4 := by have := HM17.out; omega
     have e6 : (0 : Int) ≤ (m17 : Int) := by omega
     have e7 : m17 < 4 := by have := HM17.out; omega
     clear hX17 hKq hcq ho hg_ hnew_
     replace HB := HBs HB hb_
     replace K0 := KB K0 hb_
     replace K4 := KB K4 hb_
     replace HVal := Aside0.mk (Kd.C_below HVal.out hb_)
     replace HKy := Aside0.mk (Kd.C_below HKy.out hb_)
     replace HVl := Aside0.mk (Kd.C_below HVl.out hb_)
     clear hb_
     obtain ⟨y0, y1, y2, y3, y4, y50, y51, y52, y53, y54⟩ := cel5 K4.out
     obtain ⟨x0, x1, x2, x3, x4, x50, x51, x52, x53, x54⟩ := cel5 K0.out)
    clear y0 y1 y2 y3 y4 y50 y51 y52 y53 y54
    clear x0 x1 x2 x3 x4 x50 x51 x52 x53 x54
    clear hcell e5 e6 e7 n1 n2
    obtain ⟨Y1, hY1⟩ : ∃ V_, V_ = (V4.setCell ⟨g_, 0, none⟩ (.int .i64 (X17 : Int))) := ⟨_, rfl⟩
    rw [← hY1]
    have old_ := K4.out
    have hge_ : w.heap.size ≤ g_ := by have z_ := HG4.out; omega
    have hst_ : St w.heap.size w (g_) 24 #[.int .i64 (X17 : Int), .int .i64 (m8 : Int), .slice Ak (kk m3).length ck, .slice Aw S8.size cw, .slice Av S4.size av] V4 Y1 := by rw [hY1]; exact (St.first HB.out hge_ K4.out 0 _ rfl)
    replace HB := Aside0.mk hst_.1
    replace K4 := Aside0.mk hst_.2.1
    have z_ := HG4.out
    replace K0 := KS K0 hst_ (by omega)
    replace HVal := Aside0.mk (C_ne HVal.out old_ hst_.2.2.1 (by rintro (_ | _ | _ | _ | _ | o) x <;> simp))
    replace HKy := Aside0.mk (C_ne HKy.out old_ hst_.2.2.1 (by rintro (_ | _ | _ | _ | _ | o) x <;> simp))
    replace HVl := Aside0.mk (C_ne HVl.out old_ hst_.2.2.1 (by rintro (_ | _ | _ | _ | _ | o) x <;> simp))
    have SY1 := Aside0.mk hst_.2.2.2
    clear hY1 hst_ hge_ z_ old_
    obtain ⟨Y2, hY2⟩ : ∃ V_, V_ = (Y1.setCell ⟨g_, 0, none⟩ (.int .i64 (z24 : Int))) := ⟨_, rfl⟩
    rw [← hY2]
    have old_ := K4.out
    have hge_ : w.heap.size ≤ g_ := by have z_ := HG4.out; omega
    have hst_ : St w.heap.size w (g_) 24 #[.int .i64 (z24 : Int), .int .i64 (m8 : Int), .slice Ak (kk m3).length ck, .slice Aw S8.size cw, .slice Av S4.size av] Y1 Y2 := by rw [hY2]; exact (St.first HB.out hge_ K4.out 0 _ rfl)
    replace HB := Aside0.mk hst_.1
    replace K4 := Aside0.mk hst_.2.1
    have z_ := HG4.out
    replace K0 := KS K0 hst_ (by omega)
    replace HVal := Aside0.mk (C_ne HVal.out old_ hst_.2.2.1 (by rintro (_ | _ | _ | _ | _ | o) x <;> simp))
    replace HKy := Aside0.mk (C_ne HKy.out old_ hst_.2.2.1 (by rintro (_ | _ | _ | _ | _ | o) x <;> simp))
    replace HVl := Aside0.mk (C_ne HVl.out old_ hst_.2.2.1 (by rintro (_ | _ | _ | _ | _ | o) x <;> simp))
    have SY2 := Aside0.mk hst_.2.2.2
    clear hY2 hst_ hge_ z_ old_
    obtain ⟨Y3, hY3⟩ : ∃ V_, V_ = (Y2.setCell ⟨g_, 1, none⟩ (.int .i64 ((z17 : Int) - 20))) := ⟨_, rfl⟩
    rw [← hY3]
    have old_ := K4.out
    have hge_ : w.heap.size ≤ g_ := by have z_ := HG4.out; omega
    have hst_ : St w.heap.size w (g_) 24 #[.int .i64 (z24 : Int), .int .i64 ((z17 : Int) - 20), .slice Ak (kk m3).length ck, .slice Aw S8.size cw, .slice Av S4.size av] Y2 Y3 := by rw [hY3]; exact (St.first HB.out hge_ K4.out 1 _ rfl)
    replace HB := Aside0.mk hst_.1
    replace K4 := Aside0.mk hst_.2.1
    have z_ := HG4.out
    replace K0 := KS K0 hst_ (by omega)
    replace HVal := Aside0.mk (C_ne HVal.out old_ hst_.2.2.1 (by rintro (_ | _ | _ | _ | _ | o) x <;> simp))
    replace HKy := Aside0.mk (C_ne HKy.out old_ hst_.2.2.1 (by rintro (_ | _ | _ | _ | _ | o) x <;> simp))
    replace HVl := Aside0.mk (C_ne HVl.out old_ hst_.2.2.1 (by rintro (_ | _ | _ | _ | _ | o) x <;> simp))
    have SY3 := Aside0.mk hst_.2.2.2
    clear hY3 hst_ hge_ z_ old_
    generalize hY9 : World.setCell (World.setCell (World.setCell (World.setCell (World.setCell Y3 _ _) _ _) _ _) _ _) _ _ = Y9
    have old_ := K0.out
    have hge_ : w.heap.size ≤ w.heap.size := by have z_ := HG4.out; omega
    have hst_ := st5 HB.out hge_ K0.out hY9
    replace HB := Aside0.mk hst_.1
    replace K0 := Aside0.mk hst_.2.1
    have z_ := HG4.out
    replace K4 := KS K4 hst_ (by omega)
    replace HVal := Aside0.mk (C_ne HVal.out old_ hst_.2.2.1 (by rintro (_ | _ | _ | _ | _ | o) x <;> simp))
    replace HKy := Aside0.mk (C_ne HKy.out old_ hst_.2.2.1 (by rintro (_ | _ | _ | _ | _ | o) x <;> simp))
    replace HVl := Aside0.mk (C_ne HVl.out old_ hst_.2.2.1 (by rintro (_ | _ | _ | _ | _ | o) x <;> simp))
    have SY9 := Aside0.mk hst_.2.2.2
    clear hY9 hst_ hge_ z_ old_
    refine bodyPost_ret (results_cell_row rfl _ _ w.heap.size 24 #[.int .i64 (z24 : Int), .int .i64 ((z17 : Int) - 20), .slice Ak (kk m3).length ck, .slice Aw S8.size cw, .slice Av S4.size av] (0, 0) _ rfl K0.out Try.underlying24 rfl (by kernel_rfl)) rfl ?_
    rw [show cmdKf z19 z24 k0 m17 = (z24 : Int) from by unfold cmdKf; rw [if_pos hZ], show cmdWf z19 z17 m8 = ((z17 : Int) - 20) from by unfold cmdWf; rw [if_pos hZ]]
    exact ⟨Ak, ck, Aw, cw, Av, av, by rw [← HS8.out, ← HS4.out], LKy.out, HKy.out, by rw [← HS8.out]; exact HCW.out, by rw [← HS8.out]; exact HVal.out, by rw [← HS4.out]; exact LVl.out, by rw [← HS4.out]; exact HVl.out, HB.out⟩
   ·
    have q1 : ((k0 : Int) == 0) = false := by simp [h0]
    have q3 : ((k0 : Int) == 12) = true := by simp [h1]
    clear h0 h1
    obtain ⟨y0, y1, y2, y3, y4, y50, y51, y52, y53, y54⟩ := cel5 K4.out
    go_wp2_with (
     (with_reducible refine gate_dst (N := 39) rfl ?_)
     clear y0 y1 y2 y3 y4 y50 y51 y52 y53 y54
     refine Kd.R_lit ki V3.heap.size 3 ?hg (N := 39) ?hd (xs := [1, 2, 4, 9]) (inner := [.int .i64 1, .int .i64 2, .int .i64 4, .int .i64 9]) (ok := fun _ => True) (okp := fun _ => True) ?hr ?hp (fun _ hk => hk) trivial (Below.refl _ _) (Nat.le_refl _) (by decide) ?_
     (case hd => rfl)
     (case hg => rfl)
     (case hr => go_simp <;> rfl)
     (case hp => exact reps_ints [1, 2, 4, 9])
     intro v39 V4 ho hb_ hg_ hnew_
     obtain ⟨Bq, cq, rfl⟩ := Kd.R_slice ho
     obtain ⟨adq, cc, rfl, _, hKq, hcq⟩ := Kd.C_get (Kd.R_reads' ho).2.2 0 (m17 : Int) (by omega) (by have := HM17.out; simp; omega)
     have hcell := hcq 0 (.int .i64 (([1, 2, 4, 9] : List Int).getD (m17 : Int).toNat 0)) (by rw [show cc = [.int .i64 (([1, 2, 4, 9] : List Int).getD (m17 : Int).toNat 0)] from hKq]; rfl)
     simp only [Int.toNat_natCast, show ki.sz = 1 from rfl, Nat.mul_one, Nat.add_zero] at hcell
     obtain ⟨X17, hX17⟩ : ∃ x, x = ([1, 2, 4, 9] : List Int).getD m17 0 := ⟨_, rfl⟩
     have HX17 := Aside0.mk hX17
     rw [← hX17] at hcell
     have e5 : (m17 : Int) < 4 := by have := HM17.out; omega
     have e6 : (0 : Int) ≤ (m17 : Int) := by omega
     have e7 : m17 < 4 := by have := HM17.out; omega
     clear hX17 hKq hcq ho hg_ hnew_
     replace HB := HBs HB hb_
     replace K0 := KB K0 hb_
     replace K4 := KB K4 hb_
     replace HVal := Aside0.mk (Kd.C_below HVal.out hb_)
     replace HKy := Aside0.mk (Kd.C_below HKy.out hb_)
     replace HVl := Aside0.mk (Kd.C_below HVl.out hb_)
     clear hb_
     obtain ⟨y0, y1, y2, y3, y4, y50, y51, y52, y53, y54⟩ := cel5 K4.out
     obtain ⟨x0, x1, x2, x3, x4, x50, x51, x52, x53, x54⟩ := cel5 K0.out)
    clear y0 y1 y2 y3 y4 y50 y51 y52 y53 y54
    clear x0 x1 x2 x3 x4 x50 x51 x52 x53 x54
    clear hcell e5 e6 e7 n1 n2
    obtain ⟨Y1, hY1⟩ : ∃ V_, V_ = (V4.setCell ⟨g_, 0, none⟩ (.int .i64 (X17 : Int))) := ⟨_, rfl⟩
    rw [← hY1]
    have old_ := K4.out
    have hge_ : w.heap.size ≤ g_ := by have z_ := HG4.out; omega
    have hst_ : St w.heap.size w (g_) 24 #[.int .i64 (X17 : Int), .int .i64 (m8 : Int), .slice Ak (kk m3).length ck, .slice Aw S8.size cw, .slice Av S4.size av] V4 Y1 := by rw [hY1]; exact (St.first HB.out hge_ K4.out 0 _ rfl)
    replace HB := Aside0.mk hst_.1
    replace K4 := Aside0.mk hst_.2.1
    have z_ := HG4.out
    replace K0 := KS K0 hst_ (by omega)
    replace HVal := Aside0.mk (C_ne HVal.out old_ hst_.2.2.1 (by rintro (_ | _ | _ | _ | _ | o) x <;> simp))
    replace HKy := Aside0.mk (C_ne HKy.out old_ hst_.2.2.1 (by rintro (_ | _ | _ | _ | _ | o) x <;> simp))
    replace HVl := Aside0.mk (C_ne HVl.out old_ hst_.2.2.1 (by rintro (_ | _ | _ | _ | _ | o) x <;> simp))
    have SY1 := Aside0.mk hst_.2.2.2
    clear hY1 hst_ hge_ z_ old_
    obtain ⟨Y2, hY2⟩ : ∃ V_, V_ = (Y1.setCell ⟨g_, 0, none⟩ (.int .i64 (z24 : Int))) := ⟨_, rfl⟩
    rw [← hY2]
    have old_ := K4.out
    have hge_ : w.heap.size ≤ g_ := by have z_ := HG4.out; omega
    have hst_ : St w.heap.size w (g_) 24 #[.int .i64 (z24 : Int), .int .i64 (m8 : Int), .slice Ak (kk m3).length ck, .slice Aw S8.size cw, .slice Av S4.size av] Y1 Y2 := by rw [hY2]; exact (St.first HB.out hge_ K4.out 0 _ rfl)
    replace HB := Aside0.mk hst_.1
    replace K4 := Aside0.mk hst_.2.1
    have z_ := HG4.out
    replace K0 := KS K0 hst_ (by omega)
    replace HVal := Aside0.mk (C_ne HVal.out old_ hst_.2.2.1 (by rintro (_ | _ | _ | _ | _ | o) x <;> simp))
    replace HKy := Aside0.mk (C_ne HKy.out old_ hst_.2.2.1 (by rintro (_ | _ | _ | _ | _ | o) x <;> simp))
    replace HVl := Aside0.mk (C_ne HVl.out old_ hst_.2.2.1 (by rintro (_ | _ | _ | _ | _ | o) x <;> simp))
    have SY2 := Aside0.mk hst_.2.2.2
    clear hY2 hst_ hge_ z_ old_
    obtain ⟨Y3, hY3⟩ : ∃ V_, V_ = (Y2.setCell ⟨g_, 1, none⟩ (.int .i64 ((z17 : Int) - 20))) := ⟨_, rfl⟩
    rw [← hY3]
    have old_ := K4.out
    have hge_ : w.heap.size ≤ g_ := by have z_ := HG4.out; omega
    have hst_ : St w.heap.size w (g_) 24 #[.int .i64 (z24 : Int), .int .i64 ((z17 : Int) - 20), .slice Ak (kk m3).length ck, .slice Aw S8.size cw, .slice Av S4.size av] Y2 Y3 := by rw [hY3]; exact (St.first HB.out hge_ K4.out 1 _ rfl)
    replace HB := Aside0.mk hst_.1
    replace K4 := Aside0.mk hst_.2.1
    have z_ := HG4.out
    replace K0 := KS K0 hst_ (by omega)
    replace HVal := Aside0.mk (C_ne HVal.out old_ hst_.2.2.1 (by rintro (_ | _ | _ | _ | _ | o) x <;> simp))
    replace HKy := Aside0.mk (C_ne HKy.out old_ hst_.2.2.1 (by rintro (_ | _ | _ | _ | _ | o) x <;> simp))
    replace HVl := Aside0.mk (C_ne HVl.out old_ hst_.2.2.1 (by rintro (_ | _ | _ | _ | _ | o) x <;> simp))
    have SY3 := Aside0.mk hst_.2.2.2
    clear hY3 hst_ hge_ z_ old_
    generalize hY9 : World.setCell (World.setCell (World.setCell (World.setCell (World.setCell Y3 _ _) _ _) _ _) _ _) _ _ = Y9
    have old_ := K0.out
    have hge_ : w.heap.size ≤ w.heap.size := by have z_ := HG4.out; omega
    have hst_ := st5 HB.out hge_ K0.out hY9
    replace HB := Aside0.mk hst_.1
    replace K0 := Aside0.mk hst_.2.1
    have z_ := HG4.out
    replace K4 := KS K4 hst_ (by omega)
    replace HVal := Aside0.mk (C_ne HVal.out old_ hst_.2.2.1 (by rintro (_ | _ | _ | _ | _ | o) x <;> simp))
    replace HKy := Aside0.mk (C_ne HKy.out old_ hst_.2.2.1 (by rintro (_ | _ | _ | _ | _ | o) x <;> simp))
    replace HVl := Aside0.mk (C_ne HVl.out old_ hst_.2.2.1 (by rintro (_ | _ | _ | _ | _ | o) x <;> simp))
    have SY9 := Aside0.mk hst_.2.2.2
    clear hY9 hst_ hge_ z_ old_
    refine bodyPost_ret (results_cell_row rfl _ _ w.heap.size 24 #[.int .i64 (z24 : Int), .int .i64 ((z17 : Int) - 20), .slice Ak (kk m3).length ck, .slice Aw S8.size cw, .slice Av S4.size av] (0, 0) _ rfl K0.out Try.underlying24 rfl (by kernel_rfl)) rfl ?_
    rw [show cmdKf z19 z24 k0 m17 = (z24 : Int) from by unfold cmdKf; rw [if_pos hZ], show cmdWf z19 z17 m8 = ((z17 : Int) - 20) from by unfold cmdWf; rw [if_pos hZ]]
    exact ⟨Ak, ck, Aw, cw, Av, av, by rw [← HS8.out, ← HS4.out], LKy.out, HKy.out, by rw [← HS8.out]; exact HCW.out, by rw [← HS8.out]; exact HVal.out, by rw [← HS4.out]; exact LVl.out, by rw [← HS4.out]; exact HVl.out, HB.out⟩
  ·
   have a1 : ((k0 : Int) == 0 || (k0 : Int) == 12) = true := by rcases hA with h | h <;> simp [h]
   have q2 : ((z19 : Int) == 0) = false := by simp [hZ]
   clear a1
   rcases (show (k0 = 0 ∨ (k0 ≠ 0 ∧ k0 = 12)) by omega) with h0 | ⟨h0, h1⟩
   ·
    have q1 : ((k0 : Int) == 0) = true := by simp [h0]
    clear h0
    obtain ⟨y0, y1, y2, y3, y4, y50, y51, y52, y53, y54⟩ := cel5 K4.out
    go_wp2_with (
     (with_reducible refine gate_dst (N := 39) rfl ?_)
     clear y0 y1 y2 y3 y4 y50 y51 y52 y53 y54
     refine Kd.R_lit ki V3.heap.size 3 ?hg (N := 39) ?hd (xs := [1, 2, 4, 9]) (inner := [.int .i64 1, .int .i64 2, .int .i64 4, .int .i64 9]) (ok := fun _ => True) (okp := fun _ => True) ?hr ?hp (fun _ hk => hk) trivial (Below.refl _ _) (Nat.le_refl _) (by decide) ?_
     (case hd => rfl)
     (case hg => rfl)
     (case hr => go_simp <;> rfl)
     (case hp => exact reps_ints [1, 2, 4, 9])
     intro v39 V4 ho hb_ hg_ hnew_
     obtain ⟨Bq, cq, rfl⟩ := Kd.R_slice ho
     obtain ⟨adq, cc, rfl, _, hKq, hcq⟩ := Kd.C_get (Kd.R_reads' ho).2.2 0 (m17 : Int) (by omega) (by have := HM17.out; simp; omega)
     have hcell := hcq 0 (.int .i64 (([1, 2, 4, 9] : List Int).getD (m17 : Int).toNat 0)) (by rw [show cc = [.int .i64 (([1, 2, 4, 9] : List Int).getD (m17 : Int).toNat 0)] from hKq]; rfl)
     simp only [Int.toNat_natCast, show ki.sz = 1 from rfl, Nat.mul_one, Nat.add_zero] at hcell
     obtain ⟨X17, hX17⟩ : ∃ x, x = ([1, 2, 4, 9] : List Int).getD m17 0 := ⟨_, rfl⟩
     have HX17 := Aside0.mk hX17
     rw [← hX17] at hcell
     have e5 : (m17 : Int) < 4 := by have := HM17.out; omega
     have e6 : (0 : Int) ≤ (m17 : Int) := by omega
     have e7 : m17 < 4 := by have := HM17.out; omega
     clear hX17 hKq hcq ho hg_ hnew_
     replace HB := HBs HB hb_
     replace K0 := KB K0 hb_
     replace K4 := KB K4 hb_
     replace HVal := Aside0.mk (Kd.C_below HVal.out hb_)
     replace HKy := Aside0.mk (Kd.C_below HKy.out hb_)
     replace HVl := Aside0.mk (Kd.C_below HVl.out hb_)
     clear hb_
     obtain ⟨y0, y1, y2, y3, y4, y50, y51, y52, y53, y54⟩ := cel5 K4.out
     obtain ⟨x0, x1, x2, x3, x4, x50, x51, x52, x53, x54⟩ := cel5 K0.out)
    clear y0 y1 y2 y3 y4 y50 y51 y52 y53 y54
    clear x0 x1 x2 x3 x4 x50 x51 x52 x53 x54
    clear hcell e5 e6 e7 n1 n2
    obtain ⟨Y1, hY1⟩ : ∃ V_, V_ = (V4.setCell ⟨g_, 0, none⟩ (.int .i64 (X17 : Int))) := ⟨_, rfl⟩
    rw [← hY1]
    have old_ := K4.out
    have hge_ : w.heap.size ≤ g_ := by have z_ := HG4.out; omega
    have hst_ : St w.heap.size w (g_) 24 #[.int .i64 (X17 : Int), .int .i64 (m8 : Int), .slice Ak (kk m3).length ck, .slice Aw S8.size cw, .slice Av S4.size av] V4 Y1 := by rw [hY1]; exact (St.first HB.out hge_ K4.out 0 _ rfl)
    replace HB := Aside0.mk hst_.1
    replace K4 := Aside0.mk hst_.2.1
    have z_ := HG4.out
    replace K0 := KS K0 hst_ (by omega)
    replace HVal := Aside0.mk (C_ne HVal.out old_ hst_.2.2.1 (by rintro (_ | _ | _ | _ | _ | o) x <;> simp))
    replace HKy := Aside0.mk (C_ne HKy.out old_ hst_.2.2.1 (by rintro (_ | _ | _ | _ | _ | o) x <;> simp))
    replace HVl := Aside0.mk (C_ne HVl.out old_ hst_.2.2.1 (by rintro (_ | _ | _ | _ | _ | o) x <;> simp))
    have SY1 := Aside0.mk hst_.2.2.2
    clear hY1 hst_ hge_ z_ old_
    generalize hY9 : World.setCell (World.setCell (World.setCell (World.setCell (World.setCell Y1 _ _) _ _) _ _) _ _) _ _ = Y9
    have old_ := K0.out
    have hge_ : w.heap.size ≤ w.heap.size := by have z_ := HG4.out; omega
    have hst_ := st5 HB.out hge_ K0.out hY9
    replace HB := Aside0.mk hst_.1
    replace K0 := Aside0.mk hst_.2.1
    have z_ := HG4.out
    replace K4 := KS K4 hst_ (by omega)
    replace HVal := Aside0.mk (C_ne HVal.out old_ hst_.2.2.1 (by rintro (_ | _ | _ | _ | _ | o) x <;> simp))
    replace HKy := Aside0.mk (C_ne HKy.out old_ hst_.2.2.1 (by rintro (_ | _ | _ | _ | _ | o) x <;> simp))
    replace HVl := Aside0.mk (C_ne HVl.out old_ hst_.2.2.1 (by rintro (_ | _ | _ | _ | _ | o) x <;> simp))
    have SY9 := Aside0.mk hst_.2.2.2
    clear hY9 hst_ hge_ z_ old_
    refine bodyPost_ret (results_cell_row rfl _ _ w.heap.size 24 #[.int .i64 (X17 : Int), .int .i64 (m8 : Int), .slice Ak (kk m3).length ck, .slice Aw S8.size cw, .slice Av S4.size av] (0, 0) _ rfl K0.out Try.underlying24 rfl (by kernel_rfl)) rfl ?_
    rw [show cmdKf z19 z24 k0 m17 = (X17 : Int) from by unfold cmdKf; rw [if_neg hZ, if_pos hA]; exact HX17.out.symm, show cmdWf z19 z17 m8 = (m8 : Int) from by unfold cmdWf; rw [if_neg hZ]]
    exact ⟨Ak, ck, Aw, cw, Av, av, by rw [← HS8.out, ← HS4.out], LKy.out, HKy.out, by rw [← HS8.out]; exact HCW.out, by rw [← HS8.out]; exact HVal.out, by rw [← HS4.out]; exact LVl.out, by rw [← HS4.out]; exact HVl.out, HB.out⟩
   ·
    have q1 : ((k0 : Int) == 0) = false := by simp [h0]
    have q3 : ((k0 : Int) == 12) = true := by simp [h1]
    clear h0 h1
    obtain ⟨y0, y1, y2, y3, y4, y50, y51, y52, y53, y54⟩ := cel5 K4.out
    go_wp2_with (
     (with_reducible refine gate_dst (N := 39) rfl ?_)
     clear y0 y1 y2 y3 y4 y50 y51 y52 y53 y54
     refine Kd.R_lit ki V3.heap.size 3 ?hg (N := 39) ?hd (xs := [1, 2, 4, 9]) (inner := [.int .i64 1, .int .i64 2, .int .i64 4, .int .i64 9]) (ok := fun _ => True) (okp := fun _ => True) ?hr ?hp (fun _ hk => hk) trivial (Below.refl _ _) (Nat.le_refl _) (by decide) ?_
     (case hd => rfl)
     (case hg => rfl)
     (case hr => go_simp <;> rfl)
     (case hp => exact reps_ints [1, 2, 4, 9])
     intro v39 V4 ho hb_ hg_ hnew_
     obtain ⟨Bq, cq, rfl⟩ := Kd.R_slice ho
     obtain ⟨adq, cc, rfl, _, hKq, hcq⟩ := Kd.C_get (Kd.R_reads' ho).2.2 0 (m17 : Int) (by omega) (by have := HM17.out; simp; omega)
     have hcell := hcq 0 (.int .i64 (([1, 2, 4, 9] : List Int).getD (m17 : Int).toNat 0)) (by rw [show cc = [.int .i64 (([1, 2, 4, 9] : List Int).getD (m17 : Int).toNat 0)] from hKq]; rfl)
     simp only [Int.toNat_natCast, show ki.sz = 1 from rfl, Nat.mul_one, Nat.add_zero] at hcell
     obtain ⟨X17, hX17⟩ : ∃ x, x = ([1, 2, 4, 9] : List Int).getD m17 0 := ⟨_, rfl⟩
     have HX17 := Aside0.mk hX17
     rw [← hX17] at hcell
     have e5 : (m17 : Int) < 4 := by have := HM17.out; omega
     have e6 : (0 : Int) ≤ (m17 : Int) := by omega
     have e7 : m17 < 4 := by have := HM17.out; omega
     clear hX17 hKq hcq ho hg_ hnew_
     replace HB := HBs HB hb_
     replace K0 := KB K0 hb_
     replace K4 := KB K4 hb_
     replace HVal := Aside0.mk (Kd.C_below HVal.out hb_)
     replace HKy := Aside0.mk (Kd.C_below HKy.out hb_)
     replace HVl := Aside0.mk (Kd.C_below HVl.out hb_)
     clear hb_
     obtain ⟨y0, y1, y2, y3, y4, y50, y51, y52, y53, y54⟩ := cel5 K4.out
     obtain ⟨x0, x1, x2, x3, x4, x50, x51, x52, x53, x54⟩ := cel5 K0.out)
    clear y0 y1 y2 y3 y4 y50 y51 y52 y53 y54
    clear x0 x1 x2 x3 x4 x50 x51 x52 x53 x54
    clear hcell e5 e6 e7 n1 n2
    obtain ⟨Y1, hY1⟩ : ∃ V_, V_ = (V4.setCell ⟨g_, 0, none⟩ (.int .i64 (X17 : Int))) := ⟨_, rfl⟩
    rw [← hY1]
    have old_ := K4.out
    have hge_ : w.heap.size ≤ g_ := by have z_ := HG4.out; omega
    have hst_ : St w.heap.size w (g_) 24 #[.int .i64 (X17 : Int), .int .i64 (m8 : Int), .slice Ak (kk m3).length ck, .slice Aw S8.size cw, .slice Av S4.size av] V4 Y1 := by rw [hY1]; exact (St.first HB.out hge_ K4.out 0 _ rfl)
    replace HB := Aside0.mk hst_.1
    replace K4 := Aside0.mk hst_.2.1
    have z_ := HG4.out
    replace K0 := KS K0 hst_ (by omega)
    replace HVal := Aside0.mk (C_ne HVal.out old_ hst_.2.2.1 (by rintro (_ | _ | _ | _ | _ | o) x <;> simp))
    replace HKy := Aside0.mk (C_ne HKy.out old_ hst_.2.2.1 (by rintro (_ | _ | _ | _ | _ | o) x <;> simp))
    replace HVl := Aside0.mk (C_ne HVl.out old_ hst_.2.2.1 (by rintro (_ | _ | _ | _ | _ | o) x <;> simp))
    have SY1 := Aside0.mk hst_.2.2.2
    clear hY1 hst_ hge_ z_ old_
    generalize hY9 : World.setCell (World.setCell (World.setCell (World.setCell (World.setCell Y1 _ _) _ _) _ _) _ _) _ _ = Y9
    have old_ := K0.out
    have hge_ : w.heap.size ≤ w.heap.size := by have z_ := HG4.out; omega
    have hst_ := st5 HB.out hge_ K0.out hY9
    replace HB := Aside0.mk hst_.1
    replace K0 := Aside0.mk hst_.2.1
    have z_ := HG4.out
    replace K4 := KS K4 hst_ (by omega)
    replace HVal := Aside0.mk (C_ne HVal.out old_ hst_.2.2.1 (by rintro (_ | _ | _ | _ | _ | o) x <;> simp))
    replace HKy := Aside0.mk (C_ne HKy.out old_ hst_.2.2.1 (by rintro (_ | _ | _ | _ | _ | o) x <;> simp))
    replace HVl := Aside0.mk (C_ne HVl.out old_ hst_.2.2.1 (by rintro (_ | _ | _ | _ | _ | o) x <;> simp))
    have SY9 := Aside0.mk hst_.2.2.2
    clear hY9 hst_ hge_ z_ old_
    refine bodyPost_ret (results_cell_row rfl _ _ w.heap.size 24 #[.int .i64 (X17 : Int), .int .i64 (m8 : Int), .slice Ak (kk m3).length ck, .slice Aw S8.size cw, .slice Av S4.size av] (0, 0) _ rfl K0.out Try.underlying24 rfl (by kernel_rfl)) rfl ?_
    rw [show cmdKf z19 z24 k0 m17 = (X17 : Int) from by unfold cmdKf; rw [if_neg hZ, if_pos hA]; exact HX17.out.symm, show cmdWf z19 z17 m8 = (m8 : Int) from by unfold cmdWf; rw [if_neg hZ]]
    exact ⟨Ak, ck, Aw, cw, Av, av, by rw [← HS8.out, ← HS4.out], LKy.out, HKy.out, by rw [← HS8.out]; exact HCW.out, by rw [← HS8.out]; exact HVal.out, by rw [← HS4.out]; exact LVl.out, by rw [← HS4.out]; exact HVl.out, HB.out⟩
 ·
  by_cases hZ : z19 = 0
  ·
   have q2 : ((z19 : Int) == 0) = true := by simp [hZ]
   have q1 : ((k0 : Int) == 0) = false := by simp; omega
   have q3 : ((k0 : Int) == 12) = false := by simp; omega
   obtain ⟨y0, y1, y2, y3, y4, y50, y51, y52, y53, y54⟩ := cel5 K4.out
   obtain ⟨x0, x1, x2, x3, x4, x50, x51, x52, x53, x54⟩ := cel5 K0.out
   go_wp2_with fail
   clear y0 y1 y2 y3 y4 y50 y51 y52 y53 y54
   clear x0 x1 x2 x3 x4 x50 x51 x52 x53 x54
   clear n1 n2
   obtain ⟨Y1, hY1⟩ : ∃ V_, V_ = (V3.setCell ⟨g_, 0, none⟩ (.int .i64 (z24 : Int))) := ⟨_, rfl⟩
   rw [← hY1]
   have old_ := K4.out
   have hge_ : w.heap.size ≤ g_ := by have z_ := HG4.out; omega
   have hst_ : St w.heap.size w (g_) 24 #[.int .i64 (z24 : Int), .int .i64 (m8 : Int), .slice Ak (kk m3).length ck, .slice Aw S8.size cw, .slice Av S4.size av] V3 Y1 := by rw [hY1]; exact (St.first HB.out hge_ K4.out 0 _ rfl)
   replace HB := Aside0.mk hst_.1
   replace K4 := Aside0.mk hst_.2.1
   have z_ := HG4.out
   replace K0 := KS K0 hst_ (by omega)
   replace HVal := Aside0.mk (C_ne HVal.out old_ hst_.2.2.1 (by rintro (_ | _ | _ | _ | _ | o) x <;> simp))
   replace HKy := Aside0.mk (C_ne HKy.out old_ hst_.2.2.1 (by rintro (_ | _ | _ | _ | _ | o) x <;> simp))
   replace HVl := Aside0.mk (C_ne HVl.out old_ hst_.2.2.1 (by rintro (_ | _ | _ | _ | _ | o) x <;> simp))
   have SY1 := Aside0.mk hst_.2.2.2
   clear hY1 hst_ hge_ z_ old_
   obtain ⟨Y2, hY2⟩ : ∃ V_, V_ = (Y1.setCell ⟨g_, 1, none⟩ (.int .i64 ((z17 : Int) - 20))) := ⟨_, rfl⟩
   rw [← hY2]
   have old_ := K4.out
   have hge_ : w.heap.size ≤ g_ := by have z_ := HG4.out; omega
   have hst_ : St w.heap.size w (g_) 24 #[.int .i64 (z24 : Int), .int .i64 ((z17 : Int) - 20), .slice Ak (kk m3).length ck, .slice Aw S8.size cw, .slice Av S4.size av] Y1 Y2 := by rw [hY2]; exact (St.first HB.out hge_ K4.out 1 _ rfl)
   replace HB := Aside0.mk hst_.1
   replace K4 := Aside0.mk hst_.2.1
   have z_ := HG4.out
   replace K0 := KS K0 hst_ (by omega)
   replace HVal := Aside0.mk (C_ne HVal.out old_ hst_.2.2.1 (by rintro (_ | _ | _ | _ | _ | o) x <;> simp))
   replace HKy := Aside0.mk (C_ne HKy.out old_ hst_.2.2.1 (by rintro (_ | _ | _ | _ | _ | o) x <;> simp))
   replace HVl := Aside0.mk (C_ne HVl.out old_ hst_.2.2.1 (by rintro (_ | _ | _ | _ | _ | o) x <;> simp))
   have SY2 := Aside0.mk hst_.2.2.2
   clear hY2 hst_ hge_ z_ old_
   generalize hY9 : World.setCell (World.setCell (World.setCell (World.setCell (World.setCell Y2 _ _) _ _) _ _) _ _) _ _ = Y9
   have old_ := K0.out
   have hge_ : w.heap.size ≤ w.heap.size := by have z_ := HG4.out; omega
   have hst_ := st5 HB.out hge_ K0.out hY9
   replace HB := Aside0.mk hst_.1
   replace K0 := Aside0.mk hst_.2.1
   have z_ := HG4.out
   replace K4 := KS K4 hst_ (by omega)
   replace HVal := Aside0.mk (C_ne HVal.out old_ hst_.2.2.1 (by rintro (_ | _ | _ | _ | _ | o) x <;> simp))
   replace HKy := Aside0.mk (C_ne HKy.out old_ hst_.2.2.1 (by rintro (_ | _ | _ | _ | _ | o) x <;> simp))
   replace HVl := Aside0.mk (C_ne HVl.out old_ hst_.2.2.1 (by rintro (_ | _ | _ | _ | _ | o) x <;> simp))
   have SY9 := Aside0.mk hst_.2.2.2
   clear hY9 hst_ hge_ z_ old_
   refine bodyPost_ret (results_cell_row rfl _ _ w.heap.size 24 #[.int .i64 (z24 : Int), .int .i64 ((z17 : Int) - 20), .slice Ak (kk m3).length ck, .slice Aw S8.size cw, .slice Av S4.size av] (0, 0) _ rfl K0.out Try.underlying24 rfl (by kernel_rfl)) rfl ?_
   rw [show cmdKf z19 z24 k0 m17 = (z24 : Int) from by unfold cmdKf; rw [if_pos hZ], show cmdWf z19 z17 m8 = ((z17 : Int) - 20) from by unfold cmdWf; rw [if_pos hZ]]
   exact ⟨Ak, ck, Aw, cw, Av, av, by rw [← HS8.out, ← HS4.out], LKy.out, HKy.out, by rw [← HS8.out]; exact HCW.out, by rw [← HS8.out]; exact HVal.out, by rw [← HS4.out]; exact LVl.out, by rw [← HS4.out]; exact HVl.out, HB.out⟩
  ·
   have q2 : ((z19 : Int) == 0) = false := by simp [hZ]
   have q1 : ((k0 : Int) == 0) = false := by simp; omega
   have q3 : ((k0 : Int) == 12) = false := by simp; omega
   obtain ⟨y0, y1, y2, y3, y4, y50, y51, y52, y53, y54⟩ := cel5 K4.out
   obtain ⟨x0, x1, x2, x3, x4, x50, x51, x52, x53, x54⟩ := cel5 K0.out
   go_wp2_with fail
   clear y0 y1 y2 y3 y4 y50 y51 y52 y53 y54
   clear x0 x1 x2 x3 x4 x50 x51 x52 x53 x54
   clear n1 n2
   generalize hY9 : World.setCell (World.setCell (World.setCell (World.setCell (World.setCell V3 _ _) _ _) _ _) _ _) _ _ = Y9
   have old_ := K0.out
   have hge_ : w.heap.size ≤ w.heap.size := by have z_ := HG4.out; omega
   have hst_ := st5 HB.out hge_ K0.out hY9
   replace HB := Aside0.mk hst_.1
   replace K0 := Aside0.mk hst_.2.1
   have z_ := HG4.out
   replace K4 := KS K4 hst_ (by omega)
   replace HVal := Aside0.mk (C_ne HVal.out old_ hst_.2.2.1 (by rintro (_ | _ | _ | _ | _ | o) x <;> simp))
   replace HKy := Aside0.mk (C_ne HKy.out old_ hst_.2.2.1 (by rintro (_ | _ | _ | _ | _ | o) x <;> simp))
   replace HVl := Aside0.mk (C_ne HVl.out old_ hst_.2.2.1 (by rintro (_ | _ | _ | _ | _ | o) x <;> simp))
   have SY9 := Aside0.mk hst_.2.2.2
   clear hY9 hst_ hge_ z_ old_
   refine bodyPost_ret (results_cell_row rfl _ _ w.heap.size 24 #[.int .i64 (k0 : Int), .int .i64 (m8 : Int), .slice Ak (kk m3).length ck, .slice Aw S8.size cw, .slice Av S4.size av] (0, 0) _ rfl K0.out Try.underlying24 rfl (by kernel_rfl)) rfl ?_
   rw [show cmdKf z19 z24 k0 m17 = (k0 : Int) from by unfold cmdKf; rw [if_neg hZ, if_neg hA], show cmdWf z19 z17 m8 = (m8 : Int) from by unfold cmdWf; rw [if_neg hZ]]
   exact ⟨Ak, ck, Aw, cw, Av, av, by rw [← HS8.out, ← HS4.out], LKy.out, HKy.out, by rw [← HS8.out]; exact HCW.out, by rw [← HS8.out]; exact HVal.out, by rw [← HS4.out]; exact LVl.out, by rw [← HS4.out]; exact HVl.out, HB.out⟩
def CmdEnd (w : World) (n : Int) (e : Ending) (w' : World) : Prop := ∃ E2 e2 E3 e3 E4 e4, e = .returned (.agg #[.int .i64 (cmdK n), .int .i64 (cmdW n), .slice E2 (cmdE n).length e2, .slice E3 (cmdV n).length e3, .slice E4 (cmdO n).length e4]) ∧ (cmdE n).length ≤ e2 ∧ Kd.C kb w' E2 (cmdE n).length (cmdE n) ∧ (cmdV n).length ≤ e3 ∧ Kd.C kb w' E3 (cmdV n).length (cmdV n) ∧ (cmdO n).length ≤ e4 ∧ Kd.C kb w' E4 (cmdO n).length (cmdO n) ∧ Below w.heap.size w w'
theorem cmd13 (n : Int) (w : World) : Calls Try.prog 13 #[.int .i64 n] w (CmdEnd w n) := by
 obtain ⟨m0, h0, l0⟩ := bits_lt n 5 31 31 rfl (by decide) (by decide)
 obtain ⟨m1, h1, l1⟩ := bits_lt (n / 32) 3 7 7 rfl (by decide) (by decide)
 obtain ⟨m2, h2, l2⟩ := bits_lt (n / 32768) 2 3 3 rfl (by decide) (by decide)
 obtain ⟨m3, h3, l3⟩ := bits_lt (n / 2048) 4 15 15 rfl (by decide) (by decide)
 obtain ⟨m8, h8, l8⟩ := bits_lt (n / 256) 3 7 7 rfl (by decide) (by decide)
 obtain ⟨z19, h19, l19⟩ := bits_lt (n / 524288) 5 31 31 rfl (by decide) (by decide)
 obtain ⟨z24, h24, l24⟩ := bits_lt (n / 16777216) 5 31 31 rfl (by decide) (by decide)
 obtain ⟨m17, h17, l17⟩ := bits_lt (n / 131072) 2 3 3 rfl (by decide) (by decide)
 obtain ⟨z17, hz17, lz17⟩ := bits_lt (n / 131072) 11 2047 2047 rfl (by decide) (by decide)
 have hk : Int.tmod (m0 : Int) 13 = ((m0 % 13 : Nat) : Int) := rfl
 have hK : cmdK n = cmdKf z19 z24 (m0 % 13) m17 := by
  unfold cmdK cmdKf
  rw [h19, h24, h0, h17, hk, Int.toNat_natCast]
  by_cases c1 : z19 = 0
  ·
   rw [if_pos c1, if_pos (by omega)]
  ·
   rw [if_neg c1, if_neg (by omega)]
   by_cases c2 : m0 % 13 = 0 ∨ m0 % 13 = 12
   ·
    rw [if_pos c2, if_pos (by omega)]
   ·
    rw [if_neg c2, if_neg (by omega)]
 have hW : cmdW n = cmdWf z19 z17 m8 := by
  unfold cmdW cmdWf
  rw [h19, hz17, h8]
  by_cases c1 : z19 = 0
  ·
   rw [if_pos c1, if_pos (by omega)]
  ·
   rw [if_neg c1, if_neg (by omega)]
 have hE : cmdE n = kk m3 := by unfold cmdE; rw [h3, Int.toNat_natCast]
 have hV : cmdV n = bytesOf (cs8.getD m1 ⟨#[]⟩) := by unfold cmdV; rw [h1, Int.toNat_natCast]
 have hO : cmdO n = bytesOf (cs4.getD m2 ⟨#[]⟩) := by unfold cmdO; rw [h2, Int.toNat_natCast]
 refine (cmd_t n m0 m1 m2 m3 m8 (m0 % 13) w h0 hk (Nat.mod_lt _ (by decide)) h8 z19 z24 m17 z17 h19 h24 h17 l17 hz17 lz17 h1 l1 h2 l2 h3 l3).mono ?_
 rintro e w' ⟨Ak, ck, Aw, cw, Av, av, rfl, g1, g2, g3, g4, g5, g6, hb⟩
 unfold CmdEnd
 rw [hK, hW, hE, hV, hO, bytesOf_length, bytesOf_length]
 exact ⟨Ak, ck, Aw, cw, Av, av, rfl, g1, g2, g3, g4, g5, g6, hb⟩
theorem cmd_small (n : Int) : (cmdE n).length < 1000000 ∧ (cmdV n).length < 1000000 ∧ (cmdO n).length < 1000000 := by
 refine ⟨?_, ?_, ?_⟩
 ·
  unfold cmdE
  generalize (Go.bits .and .i64 (n / 2048) 15).toNat = m
  exact kk_small m
 ·
  unfold cmdV
  rw [bytesOf_length]
  generalize (Go.bits .and .i64 (n / 32) 7).toNat = m
  match m with
  | 0 | 1 | 2 | 3 | 4 | 5 | 6 | 7 => decide
  | m + 8 => exact (by decide : 0 < 1000000)
 ·
  unfold cmdO
  rw [bytesOf_length]
  generalize (Go.bits .and .i64 (n / 32768) 3).toNat = m
  match m with
  | 0 | 1 | 2 | 3 => decide
  | m + 4 => exact (by decide : 0 < 1000000)
theorem writeR_err (s v : List Int) : (writeR s v).2.f0 = 0 ∨ (writeR s v).1 = s := by unfold writeR; split <;> simp
theorem casR_err (s o v : List Int) : (casR s o v).2.f0 = 0 ∨ (casR s o v).1 = s := by
  unfold casR
  split
  · simp
  · split <;> simp
theorem pushR_err (s : List (List Int)) (v : List Int) : (pushR s v).2.f0 = 0 ∨ (pushR s v).1 = s := by
  unfold pushR
  split
  · simp
  · split <;> simp
theorem popR_err (s : List (List Int)) : (popR s).2.f0 = 0 ∨ (popR s).1 = s := by cases s <;> simp [popR]
theorem takeR_err (s : List Int) (a : Int) : (takeR s a).2.f0 = 0 ∨ (takeR s a).1 = s := by
  unfold takeR
  split
  · simp
  · split <;> simp
theorem freeR_err (s : List Int) (a : Int) : (freeR s a).2.f0 = 0 ∨ (freeR s a).1 = s := by
  unfold freeR
  split
  · cases dropR s a <;> simp
  · simp
theorem putR_err (l : List S32) (k v : List Int) : (putR l k v).2.f0 = 0 ∨ (putR l k v).1 = l := by
  unfold putR
  split
  · simp
  · split
    · simp
    · split <;> simp
theorem delR_err (l : List S32) (k : List Int) : (delR l k).2.f0 = 0 ∨ (delR l k).1 = l := by
  unfold delR
  split <;> simp
theorem eqQ_refl (a : List (List Int)) : eqQ a a = true := eqL_refl eqB eqB_refl a
theorem eqM_refl (a : List S32) : eqM a a = true := eqL_refl eqP (fun x => by simp [eqP, eqB_refl]) a
theorem eqI_refl (a : List Int) : eqI a a = true := eqL_refl (fun x y : Int => x == y) (fun x => by simp) a
/-- What a command turns, and when. -/
def Apart (e k : Int) (b1 b2 b3 b4 : Bool) : Prop := (b1 = true ∧ b2 = true ∧ b3 = true ∧ b4 = true) ∨ (e = 0 ∧ ((b1 = false ∧ b2 = true ∧ b3 = true ∧ b4 = true ∧ (k = 2 ∨ k = 3)) ∨ (b1 = true ∧ b2 = false ∧ b3 = true ∧ b4 = true ∧ (k = 4 ∨ k = 5)) ∨ (b1 = true ∧ b2 = true ∧ b3 = false ∧ b4 = true ∧ (k = 6 ∨ k = 7)) ∨ (b1 = true ∧ b2 = true ∧ b3 = true ∧ b4 = false ∧ (k = 9 ∨ k = 11))))
theorem apart (o : O) (k a : Int) (ke va ol : List Int) : Apart (applyR o k a ke va ol).2.f0 k (eqB o.reg (applyR o k a ke va ol).1.reg) (eqQ o.que (applyR o k a ke va ol).1.que) (eqI o.loc (applyR o k a ke va ol).1.loc) (eqM o.map (applyR o k a ke va ol).1.map) := by
  have r1 := eqB_refl o.reg
  have r2 := eqQ_refl o.que
  have r3 := eqI_refl o.loc
  have r4 := eqM_refl o.map
  unfold applyR
  split
  · exact .inl ⟨r1, r2, r3, r4⟩
  split
  · rename_i hk
    rcases Bool.eq_false_or_eq_true (eqB o.reg (writeR o.reg va).1) with hb | hb
    · exact .inl ⟨hb, r2, r3, r4⟩
    ·
      rcases writeR_err o.reg va with h | h
      · exact .inr ⟨h, .inl ⟨hb, r2, r3, r4, .inl hk⟩⟩
      · rw [h, r1] at hb; cases hb
  split
  · rename_i hk
    rcases Bool.eq_false_or_eq_true (eqB o.reg (casR o.reg ol va).1) with hb | hb
    · exact .inl ⟨hb, r2, r3, r4⟩
    ·
      rcases casR_err o.reg ol va with h | h
      · exact .inr ⟨h, .inl ⟨hb, r2, r3, r4, .inr hk⟩⟩
      · rw [h, r1] at hb; cases hb
  split
  · rename_i hk
    rcases Bool.eq_false_or_eq_true (eqQ o.que (pushR o.que va).1) with hb | hb
    · exact .inl ⟨r1, hb, r3, r4⟩
    ·
      rcases pushR_err o.que va with h | h
      · exact .inr ⟨h, .inr (.inl ⟨r1, hb, r3, r4, .inl hk⟩)⟩
      · rw [h, r2] at hb; cases hb
  split
  · rename_i hk
    rcases Bool.eq_false_or_eq_true (eqQ o.que (popR o.que).1) with hb | hb
    · exact .inl ⟨r1, hb, r3, r4⟩
    ·
      rcases popR_err o.que with h | h
      · exact .inr ⟨h, .inr (.inl ⟨r1, hb, r3, r4, .inr hk⟩)⟩
      · rw [h, r2] at hb; cases hb
  split
  · rename_i hk
    rcases Bool.eq_false_or_eq_true (eqI o.loc (locksR o.loc k a).1) with hb | hb
    · exact .inl ⟨r1, r2, hb, r4⟩
    ·
      have hl : (locksR o.loc k a).2.f0 = 0 ∨ (locksR o.loc k a).1 = o.loc := by
        unfold locksR
        split
        · exact .inr rfl
        split
        · exact .inr rfl
        split
        · exact takeR_err _ _
        · exact freeR_err _ _
      have h8 : k ≠ 8 := by
        intro h8
        unfold locksR at hb
        rw [if_pos h8, r3] at hb
        cases hb
      rcases hl with h | h
      · exact .inr ⟨h, .inr (.inr (.inl ⟨r1, r2, hb, r4, by omega⟩))⟩
      · rw [h, r3] at hb; cases hb
  split
  · rename_i hk
    rcases Bool.eq_false_or_eq_true (eqM o.map (putR o.map ke va).1) with hb | hb
    · exact .inl ⟨r1, r2, r3, hb⟩
    ·
      rcases putR_err o.map ke va with h | h
      · exact .inr ⟨h, .inr (.inr (.inr ⟨r1, r2, r3, hb, .inl hk⟩))⟩
      · rw [h, r4] at hb; cases hb
  split
  · exact .inl ⟨r1, r2, r3, r4⟩
  split
  · rename_i hk
    rcases Bool.eq_false_or_eq_true (eqM o.map (delR o.map ke).1) with hb | hb
    · exact .inl ⟨r1, r2, r3, hb⟩
    ·
      rcases delR_err o.map ke with h | h
      · exact .inr ⟨h, .inr (.inr (.inr ⟨r1, r2, r3, hb, .inr hk⟩))⟩
      · rw [h, r4] at hb; cases hb
  · exact .inl ⟨r1, r2, r3, r4⟩
theorem dropR_len (l : List Int) (a : Int) : (dropR l a).length ≤ l.length := by simp [dropR]; have := idxR_le l a; omega
theorem rd_T_mem (l : List S32) (i : Nat) (h : i < l.length) : rd_T32 l (i : Int) ∈ l := by rw [rd_T_get l i h]; exact List.getElem_mem h
theorem ob_apply (o : O) (k a : Int) (ke va ol : List Int) (h : OB o) (hk : ke.length < 1000000) (hv : va.length < 1000000) : OB (applyR o k a ke va ol).1 := by
  unfold applyR
  split
  · exact h
  split
  · refine ⟨?_, h.b1, h.e1, h.b2, h.b3, h.e3⟩
    show (writeR o.reg va).1.length < _
    unfold writeR
    split
    · exact h.b0
    · exact hv
  split
  · refine ⟨?_, h.b1, h.e1, h.b2, h.b3, h.e3⟩
    show (casR o.reg ol va).1.length < _
    unfold casR
    split
    · exact h.b0
    · split
      · exact hv
      · exact h.b0
  split
  · have h1 : (pushR o.que va).1.length < 1000000 ∧ ∀ x ∈ (pushR o.que va).1, x.length < 1000000 := by
      unfold pushR
      split
      · exact ⟨h.b1, h.e1⟩
      · split
        · exact ⟨h.b1, h.e1⟩
        · exact ⟨by simp; omega, fun x hx => by
            rcases List.mem_append.1 hx with hx | hx
            · exact h.e1 x hx
            · rw [List.mem_singleton.1 hx]; exact hv⟩
    exact ⟨h.b0, h1.1, h1.2, h.b2, h.b3, h.e3⟩
  split
  · have h1 : (popR o.que).1.length < 1000000 ∧ ∀ x ∈ (popR o.que).1, x.length < 1000000 := by
      have hb := h.b1
      have he := h.e1
      cases hq : o.que with
      | nil => simp [popR]
      | cons y r =>
        rw [hq] at hb he
        exact ⟨by simp at hb; simp [popR]; omega, fun x hx => he x (List.mem_cons_of_mem _ hx)⟩
    exact ⟨h.b0, h1.1, h1.2, h.b2, h.b3, h.e3⟩
  split
  · have h1 : (locksR o.loc k a).1.length < 1000000 := by
      have hb := h.b2
      unfold locksR
      split
      · exact hb
      split
      · exact hb
      split
      · unfold takeR
        split
        · exact hb
        · split
          · exact hb
          · simp; omega
      · unfold freeR
        split
        · have := dropR_len o.loc a
          cases hd : dropR o.loc a with
          | nil => simp
          | cons x r => rw [hd] at this; show (x :: r).length < _; omega
        · exact hb
    exact ⟨h.b0, h.b1, h.e1, h1, h.b3, h.e3⟩
  split
  · have h1 : (putR o.map ke va).1.length < 1000000 ∧ ∀ x ∈ (putR o.map ke va).1, x.f0.length < 1000000 ∧ x.f1.length < 1000000 := by
      unfold putR
      split
      · exact ⟨h.b3, h.e3⟩
      · split
        · refine ⟨by simpa using h.b3, fun x hx => ?_⟩
          rcases List.mem_or_eq_of_mem_set hx with hx | rfl
          · exact h.e3 x hx
          · refine ⟨?_, hv⟩
            show (rd_T32 o.map _).f0.length < _
            rcases Nat.lt_or_ge (findR o.map ke).1 o.map.length with hlt | hge
            · exact (h.e3 _ (rd_T_mem o.map _ hlt)).1
            · simp [rd_T32, List.getD_eq_getElem?_getD, List.getElem?_eq_none hge, z32]
        · split
          · exact ⟨h.b3, h.e3⟩
          · refine ⟨by have := findR_le o.map ke; simp; omega, fun x hx => ?_⟩
            rcases List.mem_append.1 hx with hx | hx
            · exact h.e3 x (List.mem_of_mem_take hx)
            · rcases List.mem_cons.1 hx with rfl | hx
              · exact ⟨hk, hv⟩
              · exact h.e3 x (List.mem_of_mem_drop hx)
    exact ⟨h.b0, h.b1, h.e1, h.b2, h1.1, h1.2⟩
  split
  · exact h
  split
  · have h1 : (delR o.map ke).1.length < 1000000 ∧ ∀ x ∈ (delR o.map ke).1, x.f0.length < 1000000 ∧ x.f1.length < 1000000 := by
      unfold delR
      split
      · refine ⟨by have := h.b3; simp; omega, fun x hx => ?_⟩
        rcases List.mem_append.1 hx with hx | hx
        · exact h.e3 x (List.mem_of_mem_take hx)
        · exact h.e3 x (List.mem_of_mem_drop hx)
      · exact ⟨h.b3, h.e3⟩
    exact ⟨h.b0, h.b1, h.e1, h.b2, h1.1, h1.2⟩
  · exact h
structure Cm where
 kd : Int
 a : Int
 ke : List Int
 va : List Int
 ol : List Int
 E2 : Option Addr
 e2 : Nat
 E3 : Option Addr
 e3 : Nat
 E4 : Option Addr
 e4 : Nat
def Small (c : Cm) : Prop := c.ke.length ≤ 60 ∧ c.va.length ≤ 60 ∧ c.ol.length ≤ 60
/-- A row of commands that were handed in. -/
def RawC (w : World) (A : Option Addr) (n : Nat) (f : Nat → Cm) : Prop := ∀ j, j < n → ∃ b o, A = some ⟨b, o, none⟩ ∧ w.cell? ⟨b, o + j * 5, none⟩ = some (.int .i64 (f j).kd) ∧ w.cell? ⟨b, o + j * 5 + 1, none⟩ = some (.int .i64 (f j).a) ∧
 w.cell? ⟨b, o + j * 5 + 2, none⟩ = some (.slice (f j).E2 (f j).ke.length (f j).e2) ∧ w.cell? ⟨b, o + j * 5 + 3, none⟩ = some (.slice (f j).E3 (f j).va.length (f j).e3) ∧ w.cell? ⟨b, o + j * 5 + 4, none⟩ = some (.slice (f j).E4 (f j).ol.length (f j).e4) ∧
 (f j).ke.length ≤ (f j).e2 ∧ Kd.C kb w (f j).E2 (f j).ke.length (f j).ke ∧ (f j).va.length ≤ (f j).e3 ∧ Kd.C kb w (f j).E3 (f j).va.length (f j).va ∧ (f j).ol.length ≤ (f j).e4 ∧ Kd.C kb w (f j).E4 (f j).ol.length (f j).ol
theorem add_mid (b o n : Nat) : (⟨b, o, none⟩ : Addr).add n = ⟨b, o + n, none⟩ := by
 unfold Addr.add
 split
 ·
  subst n; rfl
 ·
  rfl
def RowI (w : World) (a : Option Addr) (n : Nat) : Prop := 0 < n → ∃ x, a = some x ∧ ∀ j, j < n → ∃ v : Int, w.cell? (x.add j) = some (.int .i64 v)
theorem XC.below {W W' : World} {ke va ol : List Int} {E2 E3 E4 : Option Addr} {e2 e3 e4 : Nat} (h : XC W ke va ol E2 e2 E3 e3 E4 e4) (hb : Below W.heap.size W W') : XC W' ke va ol E2 e2 E3 e3 E4 e4 :=
 ⟨h.h2, Kd.C_below h.r2 hb, h.b2, h.h3, Kd.C_below h.r3 hb, h.b3, h.h4, Kd.C_below h.r4 hb, h.b4⟩
/-- The law between two rounds: two blocks that hold the same. -/
structure LI (w : World) (o : O) (B0 : Option Addr) (d0 : Nat) (B1 : Option Addr) (d1 : Nat) (B2 : Option Addr) (d2 : Nat) (B3 : Option Addr) (d3 : Nat) (G0 : Option Addr) (g0 : Nat) (G1 : Option Addr) (g1 : Nat) (G2 : Option Addr) (g2 : Nat) (G3 : Option Addr) (g3 : Nat) (W : World) : Prop where
 bo : OB o
 t6 : W.heap[w.heap.size]? = some (.cells #[.slice B0 o.reg.length d0, .slice B1 o.que.length d1, .slice B2 o.loc.length d2, .slice B3 o.map.length d3] 32 (0, 0))
 t7 : W.heap[w.heap.size + 1]? = some (.cells #[.slice G0 o.reg.length g0, .slice G1 o.que.length g1, .slice G2 o.loc.length g2, .slice G3 o.map.length g3] 32 (0, 0))
 fb : OF (w.heap.size + 2) W o B0 d0 B1 d1 B2 d2 B3 d3
 fg : OF (w.heap.size + 2) W o G0 g0 G1 g1 G2 g2 G3 g3
 hb : Below w.heap.size w W
theorem LI.lt {w : World} {o : O} {B0 : Option Addr} {d0 : Nat} {B1 : Option Addr} {d1 : Nat} {B2 : Option Addr} {d2 : Nat} {B3 : Option Addr} {d3 : Nat} {G0 : Option Addr} {g0 : Nat} {G1 : Option Addr} {g1 : Nat} {G2 : Option Addr} {g2 : Nat} {G3 : Option Addr} {g3 : Nat} {W : World} (h : LI w o B0 d0 B1 d1 B2 d2 B3 d3 G0 g0 G1 g1 G2 g2 G3 g3 W) : w.heap.size + 2 ≤ W.heap.size := (Array.getElem?_eq_some_iff.1 h.t7).1
theorem LI.below {w : World} {o : O} {B0 : Option Addr} {d0 : Nat} {B1 : Option Addr} {d1 : Nat} {B2 : Option Addr} {d2 : Nat} {B3 : Option Addr} {d3 : Nat} {G0 : Option Addr} {g0 : Nat} {G1 : Option Addr} {g1 : Nat} {G2 : Option Addr} {g2 : Nat} {G3 : Option Addr} {g3 : Nat} {W W' : World} (h : LI w o B0 d0 B1 d1 B2 d2 B3 d3 G0 g0 G1 g1 G2 g2 G3 g3 W) (hb : Below W.heap.size W W') : LI w o B0 d0 B1 d1 B2 d2 B3 d3 G0 g0 G1 g1 G2 g2 G3 g3 W' :=
 ⟨h.bo, blk_keep h.t6 hb, blk_keep h.t7 hb, h.fb.below hb, h.fg.below hb, below_then h.hb h.hb.size hb⟩
theorem OF.skip {base b9 : Nat} {W W1 W2 : World} {o : O} {B0 : Option Addr} {d0 : Nat} {B1 : Option Addr} {d1 : Nat} {B2 : Option Addr} {d2 : Nat} {B3 : Option Addr} {d3 : Nat} (h : OF base W o B0 d0 B1 d1 B2 d2 B3 d3) (hb : Below W.heap.size W W1) (h9 : W.heap.size ≤ b9) (hs : ∀ k, k ≠ b9 → W2.heap[k]? = W1.heap[k]?) : OF base W2 o B0 d0 B1 d1 B2 d2 B3 d3 :=
 ⟨h.h0, Kd.F_mono (Kd.F_step (Kd.F_below (Kd.F_bound h.r0) hb) (fun k hk _ => hs k (by have := hk.2; omega))) (fun k hk => hk.1), h.h1, Kd.F_mono (Kd.F_step (Kd.F_below (Kd.F_bound h.r1) hb) (fun k hk _ => hs k (by have := hk.2; omega))) (fun k hk => hk.1),
  h.h2, Kd.F_mono (Kd.F_step (Kd.F_below (Kd.F_bound h.r2) hb) (fun k hk _ => hs k (by have := hk.2; omega))) (fun k hk => hk.1), h.h3, Kd.F_mono (Kd.F_step (Kd.F_below (Kd.F_bound h.r3) hb) (fun k hk _ => hs k (by have := hk.2; omega))) (fun k hk => hk.1)⟩
theorem LI.st {w : World} {o : O} {B0 : Option Addr} {d0 : Nat} {B1 : Option Addr} {d1 : Nat} {B2 : Option Addr} {d2 : Nat} {B3 : Option Addr} {d3 : Nat} {G0 : Option Addr} {g0 : Nat} {G1 : Option Addr} {g1 : Nat} {G2 : Option Addr} {g2 : Nat} {G3 : Option Addr} {g3 : Nat} {W W1 W2 : World} {b9 : Nat} {t : TypeId} {cs : Array Value} (h : LI w o B0 d0 B1 d1 B2 d2 B3 d3 G0 g0 G1 g1 G2 g2 G3 g3 W) (hb : Below W.heap.size W W1) (h9 : W.heap.size ≤ b9) (hs : St w.heap.size w b9 t cs W1 W2) : LI w o B0 d0 B1 d1 B2 d2 B3 d3 G0 g0 G1 g1 G2 g2 G3 g3 W2 := by
 have hl := h.lt
 exact ⟨h.bo, (hs.2.2.1 _ (by omega)).trans (blk_keep h.t6 hb), (hs.2.2.1 _ (by omega)).trans (blk_keep h.t7 hb), h.fb.skip hb h9 hs.2.2.1, h.fg.skip hb h9 hs.2.2.1, hs.1⟩
theorem xc_raw {w W : World} {c : Cm} (hs : Small c) (h : c.ke.length ≤ c.e2 ∧ Kd.C kb w c.E2 c.ke.length c.ke ∧ c.va.length ≤ c.e3 ∧ Kd.C kb w c.E3 c.va.length c.va ∧ c.ol.length ≤ c.e4 ∧ Kd.C kb w c.E4 c.ol.length c.ol) (hb : Below w.heap.size w W) :
  XC W c.ke c.va c.ol c.E2 c.e2 c.E3 c.e3 c.E4 c.e4 := by
 obtain ⟨s1, s2, s3⟩ := hs
 obtain ⟨h1, h2, h3, h4, h5, h6⟩ := h
 exact ⟨h1, Kd.C_below h2 hb, by omega, h3, Kd.C_below h4 hb, by omega, h5, Kd.C_below h6 hb, by omega⟩
theorem XC_below {W W' : World} {ke va ol : List Int} {E2 E3 E4 : Option Addr} {e2 e3 e4 : Nat} (h : XC W ke va ol E2 e2 E3 e3 E4 e4) (hb : Below W.heap.size W W') : XC W' ke va ol E2 e2 E3 e3 E4 e4 := h.below hb
theorem sameR_refl (p : S26) : sameR p p = true := by simp [sameR, eqB_refl]
theorem s16t (Av : Option Addr) (av : Nat) (Bv : Option Addr) (bv : Nat) (p : S26) (w : World) (hp : Kd.C kb w Av p.f1.length p.f1) (lp : p.f1.length ≤ av) (hq : Kd.C kb w Bv p.f1.length p.f1) (lq : p.f1.length ≤ bv) : Calls Try.prog 16 #[.agg #[.int .i64 p.f0, .slice Av p.f1.length av, .int .i64 p.f2], .agg #[.int .i64 p.f0, .slice Bv p.f1.length bv, .int .i64 p.f2]] w fun e w' => e = .returned (.bool true) ∧ Below w.heap.size w w' := by
 have h := same16 Av av Bv bv p p w hp lp hq lq
 rwa [sameR_refl] at h
theorem s19t (Av : Option Addr) (av : Nat) (Bv : Option Addr) (bv : Nat) (p : S26) (w : World) (hp : Kd.C kb w Av p.f1.length p.f1) (lp : p.f1.length ≤ av) (hq : Kd.C kb w Bv p.f1.length p.f1) (lq : p.f1.length ≤ bv) : Calls Try.prog 19 #[.agg #[.int .i64 p.f0, .slice Av p.f1.length av, .int .i64 p.f2], .agg #[.int .i64 p.f0, .slice Bv p.f1.length bv, .int .i64 p.f2]] w fun e w' => e = .returned (.bool true) ∧ Below w.heap.size w w' := by
 have h := same19 Av av Bv bv p p w hp lp hq lq
 rwa [sameR_refl] at h
theorem s15t (B0 : Option Addr) (d0 : Nat) (B1 : Option Addr) (d1 : Nat) (B2 : Option Addr) (d2 : Nat) (B3 : Option Addr) (d3 : Nat) (G0 : Option Addr) (g0 : Nat) (G1 : Option Addr) (g1 : Nat) (G2 : Option Addr) (g2 : Nat) (G3 : Option Addr) (g3 : Nat) (o : O) (w : World) (ha : OC w o B0 d0 B1 d1 B2 d2 B3 d3) (hb : OC w o G0 g0 G1 g1 G2 g2 G3 g3) : Calls Try.prog 15 #[.agg #[.slice B0 o.reg.length d0, .slice B1 o.que.length d1, .slice B2 o.loc.length d2, .slice B3 o.map.length d3], .agg #[.slice G0 o.reg.length g0, .slice G1 o.que.length g1, .slice G2 o.loc.length g2, .slice G3 o.map.length g3]] w fun e w' => e = .returned (.bool true) ∧ Below w.heap.size w w' := by
 have h := same15 B0 d0 B1 d1 B2 d2 B3 d3 G0 g0 G1 g1 G2 g2 G3 g3 o o w ha hb
 rwa [sameO_refl] at h
set_option maxHeartbeats 8000000 in
theorem plays_calls (a : Option Addr) (len cap : Nat) (a1 : Option Addr) (len1 cap1 : Nat) (f : Nat → Cm) (w : World) (hl : RowI w a len) (hr : RawC w a1 len1 f) (HLL : Aside0 (len1 ≤ maxLen)) : Calls Try.prog 5 #[.slice a len cap, .slice a1 len1 cap1] w fun e w' => e = .returned (.bool true) ∧ Below w.heap.size w w' := by
 have HL := Aside0.mk hl
 have HR := Aside0.mk hr
 clear hl hr
 have HB := Aside0.mk (Below.refl w.heap.size w)
 go_enter Try.func5, Try.ntmps5
 go_wp2_with fail
 go_loopw [16] (fun v16 w' => ∃ j : Nat, v16 = .int .i64 j ∧ j ≤ len1 ∧ Aside0 (∀ i, i < j → Small (f i)) ∧ Aside0 (w = w')) (fun v16 _ => len1 - (intOf v16).toNat)
 case atStart => exact ⟨0, rfl, Nat.zero_le _, ⟨fun i h => by omega⟩, ⟨rfl⟩⟩
 case round =>
  obtain ⟨j, rfl, hj, HSM, ⟨rfl⟩⟩ := hrel
  by_cases hgo : j < len1
  ·
   have c1 : (j : Int) < (len1 : Int) := by omega
   have e2 : IntKind.i64.wrap ((j : Int) + 1) = (j : Int) + 1 := by rw [IntKind.wrap_i64]; have h_ := HLL.out; have h2_ : maxLen = 9223372036854775807 := rfl; omega
   obtain ⟨b, o, rfl, k0, k1, k2, k3, k4, hxc⟩ := HR.out j hgo
   clear hxc
   have hadd := add_mid b o (j * 5)
   by_cases h2 : 60 < (f j).ke.length
   ·
    have h2i : (60 : Int) < ((f j).ke.length : Int) := by omega
    go_wp2_with fail
    refine (awake12 w).mono ?_
    rintro e w2 ⟨rfl, hb_⟩
    go_wp2_with fail
    go_ret
    exact ⟨rfl, hb_⟩
   have h2i : ¬ (60 : Int) < ((f j).ke.length : Int) := by omega
   by_cases h3 : 60 < (f j).va.length
   ·
    have h3i : (60 : Int) < ((f j).va.length : Int) := by omega
    go_wp2_with fail
    refine (awake12 w).mono ?_
    rintro e w2 ⟨rfl, hb_⟩
    go_wp2_with fail
    go_ret
    exact ⟨rfl, hb_⟩
   have h3i : ¬ (60 : Int) < ((f j).va.length : Int) := by omega
   by_cases h4 : 60 < (f j).ol.length
   ·
    have h4i : (60 : Int) < ((f j).ol.length : Int) := by omega
    go_wp2_with fail
    refine (awake12 w).mono ?_
    rintro e w2 ⟨rfl, hb_⟩
    go_wp2_with fail
    go_ret
    exact ⟨rfl, hb_⟩
   have h4i : ¬ (60 : Int) < ((f j).ol.length : Int) := by omega
   go_wp2_with fail
   go_roundw
   case rel => exact ⟨j + 1, by go_num, by omega, ⟨fun i h => by
    rcases Nat.lt_or_ge i j with h5 | h5
    ·
     exact HSM.out i h5
    ·
     obtain rfl : i = j := by omega
     exact ⟨by omega, by omega, by omega⟩⟩, ⟨by first | rfl | trivial⟩⟩
   case measure => simp [intOf]; omega
  obtain rfl : len1 = j := by omega
  go_wp2_with fail
  generalize hV0 : World.alloc _ _ = V0
  obtain ⟨K6, K7, hb_, SV0⟩ := al2 hV0
  clear hV0
  replace HB := HBs HB hb_
  clear hb_
  go_loopw [8] (fun v8 w' => ∃ j : Nat, v8 = .int .i64 j ∧ j ≤ len ∧ j ≤ 60 ∧ ∃ (o : O) (B0 : Option Addr) (d0 : Nat) (B1 : Option Addr) (d1 : Nat) (B2 : Option Addr) (d2 : Nat) (B3 : Option Addr) (d3 : Nat) (G0 : Option Addr) (g0 : Nat) (G1 : Option Addr) (g1 : Nat) (G2 : Option Addr) (g2 : Nat) (G3 : Option Addr) (g3 : Nat), Aside0 (LI w o B0 d0 B1 d1 B2 d2 B3 d3 G0 g0 G1 g1 G2 g2 G3 g3 w')) (fun v8 _ => 60 - (intOf v8).toNat)
  case atStart => exact ⟨0, rfl, by omega, by omega, (⟨[], [], [], []⟩ : O), none, 0, none, 0, none, 0, none, 0, none, 0, none, 0, none, 0, none, 0, ⟨⟨⟨by decide, by decide, by simp, by decide, by decide, by simp⟩, K6.out, K7.out, ⟨Nat.le_refl _, Kd.F_nil _ _ _, Nat.le_refl _, Kd.F_nil _ _ _, Nat.le_refl _, Kd.F_nil _ _ _, Nat.le_refl _, Kd.F_nil _ _ _⟩, ⟨Nat.le_refl _, Kd.F_nil _ _ _, Nat.le_refl _, Kd.F_nil _ _ _, Nat.le_refl _, Kd.F_nil _ _ _, Nat.le_refl _, Kd.F_nil _ _ _⟩, HB.out⟩⟩⟩
  case round =>
   clear HB K6 K7 SV0
   obtain ⟨j, rfl, hj, hj60, o, B0, d0, B1, d1, B2, d2, B3, d3, G0, g0, G1, g1, G2, g2, G3, g3, HLI⟩ := hrel
   by_cases hgo : j < len ∧ j < 60
   ·
    have c1 : decide ((j : Int) < (len : Int)) = true := decide_eq_true (by omega)
    have c2 : decide ((j : Int) < 60) = true := decide_eq_true (by omega)
    have c3 : (j : Int) < (len : Int) := by omega
    obtain ⟨ad, rfl, hrow⟩ := HL.out (by omega)
    obtain ⟨n, hn⟩ := hrow j hgo.1
    have HN0 := Aside0.mk hn
    replace hn := cell_old HLI.out.hb hn
    have e2 : IntKind.i64.wrap ((j : Int) + 1) = (j : Int) + 1 := by rw [IntKind.wrap_i64]; omega
    clear hrow
    go_wp2_with fail
    refine (cmd13 n wr).mono ?_
    rintro e w2 ⟨E2, e2_, E3, e3, E4, e4, rfl, hc2, hC2, hc3, hC3, hc4, hC4, hb_⟩
    have hs := cmd_small n
    have HX2 := Aside0.mk (show XC w2 (cmdE n) (cmdV n) (cmdO n) E2 e2_ E3 e3 E4 e4 from ⟨hc2, hC2, hs.1, hc3, hC3, hs.2.1, hc4, hC4, hs.2.2⟩)
    have HLI0 := HLI
    have HW1 := Aside0.mk hb_
    replace HLI := Aside0.mk (HLI.out.below hb_)
    clear hc2 hC2 hc3 hC3 hc4 hC4 hs hn hb_
    go_upto_region 12 with fail
    obtain ⟨V1, hV1⟩ : ∃ V_, V_ = w2.alloc (.cells #[.int .i64 (cmdK n), .int .i64 (cmdW n), .slice E2 (cmdE n).length e2_, .slice E3 (cmdV n).length e3, .slice E4 (cmdO n).length e4] 24) := ⟨_, rfl⟩
    rw [← hV1]
    obtain ⟨b9, hb9⟩ : ∃ b_, b_ = w2.heap.size := ⟨_, rfl⟩
    rw [← hb9]
    have hb_ : Below w2.heap.size w2 V1 := by rw [hV1]; exact below_alloc (Below.refl _ _) _
    have K9 : Aside0 (V1.heap[b9]? = some (.cells #[.int .i64 (cmdK n), .int .i64 (cmdW n), .slice E2 (cmdE n).length e2_, .slice E3 (cmdV n).length e3, .slice E4 (cmdO n).length e4] 24 (0, 0))) := ⟨by rw [hV1, hb9]; exact heap_alloc_self w2 _⟩
    have HB9 : Aside0 (w.heap.size + 2 ≤ b9) := ⟨by rw [hb9]; exact HLI.out.lt⟩
    have HG9 : Aside0 (wr.heap.size ≤ b9) := ⟨by rw [hb9]; exact HW1.out.size⟩
    replace HX2 := Aside0.mk (HX2.out.below hb_)
    replace HLI := Aside0.mk (HLI.out.below hb_)
    replace HW1 := Aside0.mk (below_then HW1.out HW1.out.size hb_)
    clear hV1 hb9 hb_
    obtain ⟨m28, hm28, lm28⟩ := bits_lt (n / 268435456) 2 3 3 rfl (by decide) (by decide)
    have hn1 := cell_old HLI.out.hb HN0.out
    go_cut [73] from 61 to 73 (fun s73 wx => Aside0 (V1 = wx) ∧ s73 = .bool (decide (m28 = 0 ∧ j < len1)))
    case first =>
     by_cases h0 : m28 = 0
     ·
      subst h0
      by_cases h1 : j < len1
      ·
       have h1i : (j : Int) < (len1 : Int) := by omega
       go_wp2_with fail
       go_meet
       exact ⟨⟨rfl⟩, by simp [h1]⟩
      ·
       have h1i : ¬ (j : Int) < (len1 : Int) := by omega
       go_wp2_with fail
       go_meet
       exact ⟨⟨rfl⟩, by simp [h1]⟩
     ·
      have h0i : ((m28 : Int) == 0) = false := by simp; omega
      go_wp2_with fail
      go_meet
      exact ⟨⟨rfl⟩, by simp [h0]⟩
    case rest =>
     obtain ⟨⟨rfl⟩, rfl⟩ := hcut
     clear hn1
     go_upto_if 73 with fail
     obtain ⟨bR, hbR⟩ : ∃ b_, b_ = decide (m28 = 0 ∧ j < len1) := ⟨_, rfl⟩
     rw [← hbR]
     have HbR := Aside0.mk hbR
     clear hbR
     go_cut [] from 74 to 77 (fun wx => ∃ (V2 : World) (kd ca : Int) (ke va ol : List Int) (Q2 Q3 Q4 : Option Addr) (q2 q3 q4 : Nat), V2 = wx ∧ Aside0 (V2.heap[b9]? = some (.cells #[.int .i64 kd, .int .i64 ca, .slice Q2 ke.length q2, .slice Q3 va.length q3, .slice Q4 ol.length q4] 24 (0, 0))) ∧ Aside0 (XC V2 ke va ol Q2 q2 Q3 q3 Q4 q4) ∧ Aside0 (LI w o B0 d0 B1 d1 B2 d2 B3 d3 G0 g0 G1 g1 G2 g2 G3 g3 V2))
     case first =>
      cases bR with
      | true =>
       have hR : m28 = 0 ∧ j < len1 := of_decide_eq_true HbR.out.symm
       obtain ⟨b, o_, rfl, k0, k1, k2, k3, k4, hxc⟩ := HR.out j hR.2
       have HXC := Aside0.mk hxc
       clear hxc
       have hadd := add_mid b o_ (j * 5)
       have h1i : (j : Int) < (len1 : Int) := by have := hR.2; omega
       replace k0 := cell_old HLI.out.hb k0
       replace k1 := cell_old HLI.out.hb k1
       replace k2 := cell_old HLI.out.hb k2
       replace k3 := cell_old HLI.out.hb k3
       replace k4 := cell_old HLI.out.hb k4
       have hsm := Aside0.mk (HSM.out j hR.2)
       clear hR
       obtain ⟨y0, y1, y2, y3, y4, y50, y51, y52, y53, y54⟩ := cel5 K9.out
       go_wp2_with fail
       clear y0 y1 y2 y3 y4 y50 y51 y52 y53 y54
       obtain ⟨V2, hV2⟩ : ∃ V_, V_ = (((((V1.setCell ⟨b9, 0, none⟩ (.int .i64 (f j).kd)).setCell ⟨b9, 1, none⟩ (.int .i64 (f j).a)).setCell ⟨b9, 2, none⟩ (.slice (f j).E2 (f j).ke.length (f j).e2)).setCell ⟨b9, 3, none⟩ (.slice (f j).E3 (f j).va.length (f j).e3)).setCell ⟨b9, 4, none⟩ (.slice (f j).E4 (f j).ol.length (f j).e4)) := ⟨_, rfl⟩
       rw [← hV2]
       have hge_ : w.heap.size ≤ b9 := by have := HB9.out; omega
       have hst_ : St w.heap.size w b9 24 #[.int .i64 (f j).kd, .int .i64 (f j).a, .slice (f j).E2 (f j).ke.length (f j).e2, .slice (f j).E3 (f j).va.length (f j).e3, .slice (f j).E4 (f j).ol.length (f j).e4] V1 V2 := by rw [hV2]; exact (St.next (St.next (St.next (St.next (St.first HLI.out.hb hge_ K9.out 0 _ rfl) hge_ 1 _ rfl) hge_ 2 _ rfl) hge_ 3 _ rfl) hge_ 4 _ rfl)
       have hx2 := xc_raw hsm.out HXC.out hst_.1
       have hl2 := HLI0.out.st HW1.out HG9.out hst_
       clear hV2 hge_
       go_meet
       exact ⟨V2, (f j).kd, (f j).a, (f j).ke, (f j).va, (f j).ol, (f j).E2, (f j).E3, (f j).E4, (f j).e2, (f j).e3, (f j).e4, rfl, ⟨hst_.2.1⟩, ⟨hx2⟩, ⟨hl2⟩⟩
      | false =>
       go_wp2_with fail
       go_meet
       exact ⟨V1, cmdK n, cmdW n, cmdE n, cmdV n, cmdO n, E2, E3, E4, e2_, e3, e4, rfl, K9, HX2, HLI⟩
     case rest =>
      clear HLI HLI0 HW1 HG9 HbR K9 HX2
      obtain ⟨V2, kd, ca, ke, va, ol, Q2, Q3, Q4, q2, q3, q4, rfl, K9, HX, HLI⟩ := hcut
      have HO := Aside0.mk HLI.out.bo
      have HB := Aside0.mk HLI.out.hb
      have K6 := Aside0.mk HLI.out.t6
      have K7 := Aside0.mk HLI.out.t7
      have FO := Aside0.mk HLI.out.fb
      have FG := Aside0.mk HLI.out.fg
      have ZL := Aside0.mk HLI.out.lt
      clear HLI hm28 lm28
      obtain ⟨x0, x1, x2, x3, x40, x41, x42, x43⟩ := cel4 K6.out
      obtain ⟨y0, y1, y2, y3, y4, y50, y51, y52, y53, y54⟩ := cel5 K9.out
      go_wp2_with fail
      clear x0 x1 x2 x3 x40 x41 x42 x43
      clear y0 y1 y2 y3 y4 y50 y51 y52 y53 y54
      obtain ⟨q, hq⟩ : ∃ q, q = applyR o kd ca ke va ol := ⟨_, rfl⟩
      have HO2 : Aside0 (OB q.1) := Aside0.mk (by rw [hq]; exact ob_apply o _ _ _ _ _ HO.out HX.out.b2 HX.out.b3)
      have con := apply10 B0 d0 B1 d1 B2 d2 B3 d3 o kd ca Q2 q2 Q3 q3 Q4 q4 ke va ol V2 FO.out.C HO.out HX.out
      rw [← hq] at con
      have HQ := Aside0.mk hq
      clear hq
      refine con.mono ?_
      rintro e w3 ⟨D0, f0, D1, f1, D2, f2, D3, f3, Av, av, rfl, hF, hcv, hFv, hb_⟩
      clear con
      have HT := Aside0.mk (hF.lower (b' := w.heap.size + 2) ZL.out)
      have FA := Aside0.mk (Kd.F_now hFv)
      have HAv := Aside0.mk hcv
      clear hF hcv hFv
      replace HB := HBs HB hb_
      replace K6 := KB K6 hb_
      replace K7 := KB K7 hb_
      replace K9 := KB K9 hb_
      replace FO := Aside0.mk (FO.out.below hb_)
      replace FG := Aside0.mk (FG.out.below hb_)
      replace HX := Aside0.mk (XC_below HX.out hb_)
      replace ZL := Aside0.mk (Nat.le_trans ZL.out hb_.size)
      clear hb_
      go_upto_region 15 with fail
      generalize hV3 : World.alloc _ _ = V3
      obtain ⟨K10, K11, hb_, SV3⟩ := al2 hV3
      clear hV3
      replace HB := HBs HB hb_
      replace K6 := KB K6 hb_
      replace K7 := KB K7 hb_
      replace K9 := KB K9 hb_
      replace FO := Aside0.mk (FO.out.below hb_)
      replace FG := Aside0.mk (FG.out.below hb_)
      replace HX := Aside0.mk (XC_below HX.out hb_)
      replace HT := Aside0.mk (HT.out.below hb_)
      replace FA := Aside0.mk (Kd.C_below FA.out hb_)
      clear hb_
      have ZV : Aside0 (w.heap.size + 2 ≤ w3.heap.size ∧ w3.heap.size + 2 ≤ V3.heap.size) := ⟨ZL.out, by have := SV3.out; omega⟩
      obtain ⟨x0, x1, x2, x3, x40, x41, x42, x43⟩ := cel4 K7.out
      obtain ⟨y0, y1, y2, y3, y4, y50, y51, y52, y53, y54⟩ := cel5 K9.out
      go_wp2_with fail
      clear x0 x1 x2 x3 x40 x41 x42 x43
      clear y0 y1 y2 y3 y4 y50 y51 y52 y53 y54
      have con := apply14 G0 g0 G1 g1 G2 g2 G3 g3 o kd ca Q2 q2 Q3 q3 Q4 q4 ke va ol V3 FG.out.C HO.out HX.out
      rw [← HQ.out] at con
      refine con.mono ?_
      rintro e w4 ⟨J0, j0, J1, j1, J2, j2, J3, j3, Cv, cv, rfl, hF, hcv, hFv, hb_⟩
      clear con
      have HU := Aside0.mk (hF.lower (b' := w.heap.size + 2) (by have := ZV.out; omega))
      have FC := Aside0.mk (Kd.F_now hFv)
      have HCv := Aside0.mk hcv
      clear hF hcv hFv
      replace HB := HBs HB hb_
      replace K6 := KB K6 hb_
      replace K7 := KB K7 hb_
      replace K9 := KB K9 hb_
      replace K10 := KB K10 hb_
      replace K11 := KB K11 hb_
      replace FO := Aside0.mk (FO.out.below hb_)
      replace FG := Aside0.mk (FG.out.below hb_)
      replace HX := Aside0.mk (XC_below HX.out hb_)
      replace HT := Aside0.mk (HT.out.below hb_)
      replace FA := Aside0.mk (Kd.C_below FA.out hb_)
      replace ZV : Aside0 (w.heap.size + 2 ≤ w3.heap.size ∧ w3.heap.size + 2 ≤ w4.heap.size) := ⟨ZV.out.1, Nat.le_trans ZV.out.2 hb_.size⟩
      clear hb_
      go_upto_region 16 with fail
      generalize hV4 : World.alloc _ _ = V4
      obtain ⟨K12, K13, hb_, SV4⟩ := al2 hV4
      clear hV4
      replace HB := HBs HB hb_
      replace K6 := KB K6 hb_
      replace K7 := KB K7 hb_
      replace K9 := KB K9 hb_
      replace K10 := KB K10 hb_
      replace K11 := KB K11 hb_
      replace FO := Aside0.mk (FO.out.below hb_)
      replace FG := Aside0.mk (FG.out.below hb_)
      replace HX := Aside0.mk (XC_below HX.out hb_)
      replace HT := Aside0.mk (HT.out.below hb_)
      replace FA := Aside0.mk (Kd.C_below FA.out hb_)
      replace HU := Aside0.mk (HU.out.below hb_)
      replace FC := Aside0.mk (Kd.C_below FC.out hb_)
      clear hb_
      have HD := Aside0.mk (below_drew1 (Below.refl V4.heap.size V4))
      refine start_ (n := 35) (S := fun w' => w'.cell? ⟨w3.heap.size, 0, none⟩ = some (.slice D0 q.1.reg.length f0) ∧ w'.cell? ⟨w3.heap.size, 1, none⟩ = some (.slice D1 q.1.que.length f1) ∧ w'.cell? ⟨w3.heap.size, 2, none⟩ = some (.slice D2 q.1.loc.length f2) ∧ w'.cell? ⟨w3.heap.size, 3, none⟩ = some (.slice D3 q.1.map.length f3) ∧ w'.cell? ⟨w4.heap.size, 0, none⟩ = some (.slice J0 q.1.reg.length j0) ∧ w'.cell? ⟨w4.heap.size, 1, none⟩ = some (.slice J1 q.1.que.length j1) ∧ w'.cell? ⟨w4.heap.size, 2, none⟩ = some (.slice J2 q.1.loc.length j2) ∧ w'.cell? ⟨w4.heap.size, 3, none⟩ = some (.slice J3 q.1.map.length j3) ∧ w'.cell? ⟨w3.heap.size + 1, 0, none⟩ = some (.int .i64 q.2.f0) ∧ w'.cell? ⟨w3.heap.size + 1, 1, none⟩ = some (.slice Av q.2.f1.length av) ∧ w'.cell? ⟨w3.heap.size + 1, 2, none⟩ = some (.int .i64 q.2.f2) ∧ w'.cell? ⟨w4.heap.size + 1, 0, none⟩ = some (.int .i64 q.2.f0) ∧ w'.cell? ⟨w4.heap.size + 1, 1, none⟩ = some (.slice Cv q.2.f1.length cv) ∧ w'.cell? ⟨w4.heap.size + 1, 2, none⟩ = some (.int .i64 q.2.f2) ∧ w'.cell? ⟨w.heap.size, 0, none⟩ = some (.slice B0 o.reg.length d0) ∧ w'.cell? ⟨w.heap.size, 1, none⟩ = some (.slice B1 o.que.length d1) ∧ w'.cell? ⟨w.heap.size, 2, none⟩ = some (.slice B2 o.loc.length d2) ∧ w'.cell? ⟨w.heap.size, 3, none⟩ = some (.slice B3 o.map.length d3) ∧ w'.cell? ⟨w.heap.size + 1, 0, none⟩ = some (.slice G0 o.reg.length g0) ∧ w'.cell? ⟨w.heap.size + 1, 1, none⟩ = some (.slice G1 o.que.length g1) ∧ w'.cell? ⟨w.heap.size + 1, 2, none⟩ = some (.slice G2 o.loc.length g2) ∧ w'.cell? ⟨w.heap.size + 1, 3, none⟩ = some (.slice G3 o.map.length g3) ∧ w'.cell? ⟨b9, 0, none⟩ = some (.int .i64 kd) ∧ w'.cell? ⟨b9, 1, none⟩ = some (.int .i64 ca) ∧ w'.cell? ⟨b9, 2, none⟩ = some (.slice Q2 ke.length q2) ∧ w'.cell? ⟨b9, 3, none⟩ = some (.slice Q3 va.length q3) ∧ w'.cell? ⟨b9, 4, none⟩ = some (.slice Q4 ol.length q4)) (ds := []) #[false, false, false, false, false, false, false, false, false, false, false, false, false, false, false, false, false, false, false, false, false, false, false, false, false, false, false, false, false, false, false, false, false, false, false] (by kernel_rfl) rfl rfl ⟨(cells4 (blk_keep K10.out HD.out)).1, (cells4 (blk_keep K10.out HD.out)).2.1, (cells4 (blk_keep K10.out HD.out)).2.2.1, (cells4 (blk_keep K10.out HD.out)).2.2.2.1, (cells4 (blk_keep K12.out HD.out)).1, (cells4 (blk_keep K12.out HD.out)).2.1, (cells4 (blk_keep K12.out HD.out)).2.2.1, (cells4 (blk_keep K12.out HD.out)).2.2.2.1, (cells3 (blk_keep K11.out HD.out)).1, (cells3 (blk_keep K11.out HD.out)).2.1, (cells3 (blk_keep K11.out HD.out)).2.2.1, (cells3 (blk_keep K13.out HD.out)).1, (cells3 (blk_keep K13.out HD.out)).2.1, (cells3 (blk_keep K13.out HD.out)).2.2.1, (cells4 (blk_keep K6.out HD.out)).1, (cells4 (blk_keep K6.out HD.out)).2.1, (cells4 (blk_keep K6.out HD.out)).2.2.1, (cells4 (blk_keep K6.out HD.out)).2.2.2.1, (cells4 (blk_keep K7.out HD.out)).1, (cells4 (blk_keep K7.out HD.out)).2.1, (cells4 (blk_keep K7.out HD.out)).2.2.1, (cells4 (blk_keep K7.out HD.out)).2.2.2.1, (cells5 (blk_keep K9.out HD.out)).1, (cells5 (blk_keep K9.out HD.out)).2.1, (cells5 (blk_keep K9.out HD.out)).2.2.1, (cells5 (blk_keep K9.out HD.out)).2.2.2.1, (cells5 (blk_keep K9.out HD.out)).2.2.2.2.1⟩ (fun hHeld => ?_)
      refine take_ (i := 0) (N := some 90) (v := ?_) (a' := ?_) #[true, false, false, false, false, false, false, false, false, false, false, false, false, false, false, false, false, false, false, false, false, false, false, false, false, false, false, false, false, false, false, false, false, false, false] rfl rfl (by kernel_rfl) (fun _ _ _ h => h) (Or.inl ⟨by rfl, ?_⟩) hHeld ?_ ?_
      rotate_left
      ·
       rintro w' ⟨s0, s1, s2, s3, s4, s5, s6, s7, s8, s9, s10, s11, s12, s13, s14, s15, s16, s17, s18, s19, s20, s21, s22, s23, s24, s25, s26⟩
       go_simp
       with_reducible rfl
      rotate_left
      ·
       simp only [Act.put, List.setIfInBounds_toArray, List.set_cons_zero, List.set_cons_succ, i64_w, i32_w]
       rfl
      refine take_ (i := 1) (N := some 91) (v := ?_) (a' := ?_) #[true, true, false, false, false, false, false, false, false, false, false, false, false, false, false, false, false, false, false, false, false, false, false, false, false, false, false, false, false, false, false, false, false, false, false] rfl rfl (by kernel_rfl) (fun _ _ _ h => h) (Or.inl ⟨by rfl, ?_⟩) hHeld ?_ ?_
      rotate_left
      ·
       rintro w' ⟨s0, s1, s2, s3, s4, s5, s6, s7, s8, s9, s10, s11, s12, s13, s14, s15, s16, s17, s18, s19, s20, s21, s22, s23, s24, s25, s26⟩
       go_simp
       with_reducible rfl
      rotate_left
      ·
       simp only [Act.put, List.setIfInBounds_toArray, List.set_cons_zero, List.set_cons_succ, i64_w, i32_w]
       rfl
      refine one_ (i := 2) (N := some 92) #[true, true, true, false, false, false, false, false, false, false, false, false, false, false, false, false, false, false, false, false, false, false, false, false, false, false, false, false, false, false, false, false, false, false, false] rfl rfl (by kernel_rfl) (by decide) (fun K_ hK => ?_)
      refine goes_ Try.func16 (by kernel_rfl) rfl #[.agg #[.int .i64 q.2.f0, .slice Av q.2.f1.length av, .int .i64 q.2.f2], .agg #[.int .i64 q.2.f0, .slice Cv q.2.f1.length cv, .int .i64 q.2.f2]] (by rfl) rfl rfl (by simp only [List.map_toArray, List.map_cons, List.map_nil]; rfl) ?_
      with_reducible refine (s16t Av av Cv cv q.2 _ (Kd.C_below FA.out HD.out) HAv.out (Kd.C_below FC.out HD.out) HCv.out).mono ?_
      rintro e u1 ⟨rfl, hb_⟩
      have HE1 := Aside0.mk (below_then HD.out HD.out.size hb_)
      clear hb_
      refine ⟨_, rfl, ?_⟩
      refine hK.out _ _ ⟨(cells4 (blk_keep K10.out HE1.out)).1, (cells4 (blk_keep K10.out HE1.out)).2.1, (cells4 (blk_keep K10.out HE1.out)).2.2.1, (cells4 (blk_keep K10.out HE1.out)).2.2.2.1, (cells4 (blk_keep K12.out HE1.out)).1, (cells4 (blk_keep K12.out HE1.out)).2.1, (cells4 (blk_keep K12.out HE1.out)).2.2.1, (cells4 (blk_keep K12.out HE1.out)).2.2.2.1, (cells3 (blk_keep K11.out HE1.out)).1, (cells3 (blk_keep K11.out HE1.out)).2.1, (cells3 (blk_keep K11.out HE1.out)).2.2.1, (cells3 (blk_keep K13.out HE1.out)).1, (cells3 (blk_keep K13.out HE1.out)).2.1, (cells3 (blk_keep K13.out HE1.out)).2.2.1, (cells4 (blk_keep K6.out HE1.out)).1, (cells4 (blk_keep K6.out HE1.out)).2.1, (cells4 (blk_keep K6.out HE1.out)).2.2.1, (cells4 (blk_keep K6.out HE1.out)).2.2.2.1, (cells4 (blk_keep K7.out HE1.out)).1, (cells4 (blk_keep K7.out HE1.out)).2.1, (cells4 (blk_keep K7.out HE1.out)).2.2.1, (cells4 (blk_keep K7.out HE1.out)).2.2.2.1, (cells5 (blk_keep K9.out HE1.out)).1, (cells5 (blk_keep K9.out HE1.out)).2.1, (cells5 (blk_keep K9.out HE1.out)).2.2.1, (cells5 (blk_keep K9.out HE1.out)).2.2.2.1, (cells5 (blk_keep K9.out HE1.out)).2.2.2.2.1⟩ (fun hHeld => ?_)
      clear hK K_
      refine norm_ (a' := ?_) ?_ ?_
      rotate_left
      ·
       show Act.put _ (some 92) _ = _
       simp only [Act.put, List.setIfInBounds_toArray, List.set_cons_zero, List.set_cons_succ, i64_w, i32_w]
       rfl
      refine pure_ (i := 3) (N := some 93) (v := ?_) (a' := ?_) #[true, true, true, true, false, false, false, false, false, false, false, false, false, false, false, false, false, false, false, false, false, false, false, false, false, false, false, false, false, false, false, false, false, false, false] rfl rfl (by kernel_rfl) (fun _ _ _ h => h) (Or.inl ⟨by rfl, ?_⟩) ?_ ?_
      rotate_left
      ·
       intro w'
       go_simp
       with_reducible rfl
      rotate_left
      ·
       simp only [Act.put, List.setIfInBounds_toArray, List.set_cons_zero, List.set_cons_succ, i64_w, i32_w]
       rfl
      refine pure_ (i := 4) (N := some 94) (v := ?_) (a' := ?_) #[true, true, true, true, true, false, false, false, false, false, false, false, false, false, false, false, false, false, false, false, false, false, false, false, false, false, false, false, false, false, false, false, false, false, false] rfl rfl (by kernel_rfl) (fun _ _ _ h => h) (Or.inl ⟨by rfl, ?_⟩) ?_ ?_
      rotate_left
      ·
       intro w'
       go_simp
       with_reducible rfl
      rotate_left
      ·
       simp only [Act.put, List.setIfInBounds_toArray, List.set_cons_zero, List.set_cons_succ, i64_w, i32_w]
       rfl
      refine take_ (i := 5) (N := some 95) (v := ?_) (a' := ?_) #[true, true, true, true, true, true, false, false, false, false, false, false, false, false, false, false, false, false, false, false, false, false, false, false, false, false, false, false, false, false, false, false, false, false, false] rfl rfl (by kernel_rfl) (fun _ _ _ h => h) (Or.inl ⟨by rfl, ?_⟩) hHeld ?_ ?_
      rotate_left
      ·
       rintro w' ⟨s0, s1, s2, s3, s4, s5, s6, s7, s8, s9, s10, s11, s12, s13, s14, s15, s16, s17, s18, s19, s20, s21, s22, s23, s24, s25, s26⟩
       go_simp
       with_reducible rfl
      rotate_left
      ·
       simp only [Act.put, List.setIfInBounds_toArray, List.set_cons_zero, List.set_cons_succ, i64_w, i32_w]
       rfl
      refine take_ (i := 6) (N := some 96) (v := ?_) (a' := ?_) #[true, true, true, true, true, true, true, false, false, false, false, false, false, false, false, false, false, false, false, false, false, false, false, false, false, false, false, false, false, false, false, false, false, false, false] rfl rfl (by kernel_rfl) (fun _ _ _ h => h) (Or.inl ⟨by rfl, ?_⟩) hHeld ?_ ?_
      rotate_left
      ·
       rintro w' ⟨s0, s1, s2, s3, s4, s5, s6, s7, s8, s9, s10, s11, s12, s13, s14, s15, s16, s17, s18, s19, s20, s21, s22, s23, s24, s25, s26⟩
       go_simp
       with_reducible rfl
      rotate_left
      ·
       simp only [Act.put, List.setIfInBounds_toArray, List.set_cons_zero, List.set_cons_succ, i64_w, i32_w]
       rfl
      refine one_ (i := 7) (N := some 97) #[true, true, true, true, true, true, true, true, false, false, false, false, false, false, false, false, false, false, false, false, false, false, false, false, false, false, false, false, false, false, false, false, false, false, false] rfl rfl (by kernel_rfl) (by decide) (fun K_ hK => ?_)
      refine goes_ Try.func15 (by kernel_rfl) rfl #[.agg #[.slice D0 q.1.reg.length f0, .slice D1 q.1.que.length f1, .slice D2 q.1.loc.length f2, .slice D3 q.1.map.length f3], .agg #[.slice J0 q.1.reg.length j0, .slice J1 q.1.que.length j1, .slice J2 q.1.loc.length j2, .slice J3 q.1.map.length j3]] (by rfl) rfl rfl (by simp only [List.map_toArray, List.map_cons, List.map_nil]; rfl) ?_
      with_reducible refine (s15t D0 f0 D1 f1 D2 f2 D3 f3 J0 j0 J1 j1 J2 j2 J3 j3 q.1 _ (HT.out.C.below HE1.out) (HU.out.C.below HE1.out)).mono ?_
      rintro e u2 ⟨rfl, hb_⟩
      have HE2 := Aside0.mk (below_then HE1.out HE1.out.size hb_)
      clear hb_
      refine ⟨_, rfl, ?_⟩
      refine hK.out _ _ ⟨(cells4 (blk_keep K10.out HE2.out)).1, (cells4 (blk_keep K10.out HE2.out)).2.1, (cells4 (blk_keep K10.out HE2.out)).2.2.1, (cells4 (blk_keep K10.out HE2.out)).2.2.2.1, (cells4 (blk_keep K12.out HE2.out)).1, (cells4 (blk_keep K12.out HE2.out)).2.1, (cells4 (blk_keep K12.out HE2.out)).2.2.1, (cells4 (blk_keep K12.out HE2.out)).2.2.2.1, (cells3 (blk_keep K11.out HE2.out)).1, (cells3 (blk_keep K11.out HE2.out)).2.1, (cells3 (blk_keep K11.out HE2.out)).2.2.1, (cells3 (blk_keep K13.out HE2.out)).1, (cells3 (blk_keep K13.out HE2.out)).2.1, (cells3 (blk_keep K13.out HE2.out)).2.2.1, (cells4 (blk_keep K6.out HE2.out)).1, (cells4 (blk_keep K6.out HE2.out)).2.1, (cells4 (blk_keep K6.out HE2.out)).2.2.1, (cells4 (blk_keep K6.out HE2.out)).2.2.2.1, (cells4 (blk_keep K7.out HE2.out)).1, (cells4 (blk_keep K7.out HE2.out)).2.1, (cells4 (blk_keep K7.out HE2.out)).2.2.1, (cells4 (blk_keep K7.out HE2.out)).2.2.2.1, (cells5 (blk_keep K9.out HE2.out)).1, (cells5 (blk_keep K9.out HE2.out)).2.1, (cells5 (blk_keep K9.out HE2.out)).2.2.1, (cells5 (blk_keep K9.out HE2.out)).2.2.2.1, (cells5 (blk_keep K9.out HE2.out)).2.2.2.2.1⟩ (fun hHeld => ?_)
      clear hK K_
      refine norm_ (a' := ?_) ?_ ?_
      rotate_left
      ·
       show Act.put _ (some 97) _ = _
       simp only [Act.put, List.setIfInBounds_toArray, List.set_cons_zero, List.set_cons_succ, i64_w, i32_w]
       rfl
      refine pure_ (i := 8) (N := some 98) (v := ?_) (a' := ?_) #[true, true, true, true, true, true, true, true, true, false, false, false, false, false, false, false, false, false, false, false, false, false, false, false, false, false, false, false, false, false, false, false, false, false, false] rfl rfl (by kernel_rfl) (fun _ _ _ h => h) (Or.inl ⟨by rfl, ?_⟩) ?_ ?_
      rotate_left
      ·
       intro w'
       go_simp
       with_reducible rfl
      rotate_left
      ·
       simp only [Act.put, List.setIfInBounds_toArray, List.set_cons_zero, List.set_cons_succ, i64_w, i32_w]
       rfl
      refine pure_ (i := 9) (N := some 99) (v := ?_) (a' := ?_) #[true, true, true, true, true, true, true, true, true, true, false, false, false, false, false, false, false, false, false, false, false, false, false, false, false, false, false, false, false, false, false, false, false, false, false] rfl rfl (by kernel_rfl) (fun _ _ _ h => h) (Or.inl ⟨by rfl, ?_⟩) ?_ ?_
      rotate_left
      ·
       intro w'
       go_simp
       with_reducible rfl
      rotate_left
      ·
       simp only [Act.put, List.setIfInBounds_toArray, List.set_cons_zero, List.set_cons_succ, i64_w, i32_w]
       rfl
      refine pure_ (i := 10) (N := some 100) (v := ?_) (a' := ?_) #[true, true, true, true, true, true, true, true, true, true, true, false, false, false, false, false, false, false, false, false, false, false, false, false, false, false, false, false, false, false, false, false, false, false, false] rfl rfl (by kernel_rfl) (fun _ _ _ h => h) (Or.inl ⟨by rfl, ?_⟩) ?_ ?_
      rotate_left
      ·
       intro w'
       go_simp
       with_reducible rfl
      rotate_left
      ·
       simp only [Act.put, List.setIfInBounds_toArray, List.set_cons_zero, List.set_cons_succ, i64_w, i32_w]
       rfl
      refine take_ (i := 11) (N := some 101) (v := ?_) (a' := ?_) #[true, true, true, true, true, true, true, true, true, true, true, true, false, false, false, false, false, false, false, false, false, false, false, false, false, false, false, false, false, false, false, false, false, false, false] rfl rfl (by kernel_rfl) (fun _ _ _ h => h) (Or.inl ⟨by rfl, ?_⟩) hHeld ?_ ?_
      rotate_left
      ·
       rintro w' ⟨s0, s1, s2, s3, s4, s5, s6, s7, s8, s9, s10, s11, s12, s13, s14, s15, s16, s17, s18, s19, s20, s21, s22, s23, s24, s25, s26⟩
       go_simp
       with_reducible rfl
      rotate_left
      ·
       simp only [Act.put, List.setIfInBounds_toArray, List.set_cons_zero, List.set_cons_succ, i64_w, i32_w]
       rfl
      refine take_ (i := 12) (N := some 102) (v := ?_) (a' := ?_) #[true, true, true, true, true, true, true, true, true, true, true, true, true, false, false, false, false, false, false, false, false, false, false, false, false, false, false, false, false, false, false, false, false, false, false] rfl rfl (by kernel_rfl) (fun _ _ _ h => h) (Or.inl ⟨by rfl, ?_⟩) hHeld ?_ ?_
      rotate_left
      ·
       rintro w' ⟨s0, s1, s2, s3, s4, s5, s6, s7, s8, s9, s10, s11, s12, s13, s14, s15, s16, s17, s18, s19, s20, s21, s22, s23, s24, s25, s26⟩
       go_simp
       with_reducible rfl
      rotate_left
      ·
       simp only [Act.put, List.setIfInBounds_toArray, List.set_cons_zero, List.set_cons_succ, i64_w, i32_w]
       rfl
      refine take_ (i := 14) (N := some 104) (v := ?_) (a' := ?_) #[true, true, true, true, true, true, true, true, true, true, true, true, true, false, true, false, false, false, false, false, false, false, false, false, false, false, false, false, false, false, false, false, false, false, false] rfl rfl (by kernel_rfl) (fun _ _ _ h => h) (Or.inl ⟨by rfl, ?_⟩) hHeld ?_ ?_
      rotate_left
      ·
       rintro w' ⟨s0, s1, s2, s3, s4, s5, s6, s7, s8, s9, s10, s11, s12, s13, s14, s15, s16, s17, s18, s19, s20, s21, s22, s23, s24, s25, s26⟩
       go_simp
       with_reducible rfl
      rotate_left
      ·
       simp only [Act.put, List.setIfInBounds_toArray, List.set_cons_zero, List.set_cons_succ, i64_w, i32_w]
       rfl
      refine take_ (i := 15) (N := some 105) (v := ?_) (a' := ?_) #[true, true, true, true, true, true, true, true, true, true, true, true, true, false, true, true, false, false, false, false, false, false, false, false, false, false, false, false, false, false, false, false, false, false, false] rfl rfl (by kernel_rfl) (fun _ _ _ h => h) (Or.inl ⟨by rfl, ?_⟩) hHeld ?_ ?_
      rotate_left
      ·
       rintro w' ⟨s0, s1, s2, s3, s4, s5, s6, s7, s8, s9, s10, s11, s12, s13, s14, s15, s16, s17, s18, s19, s20, s21, s22, s23, s24, s25, s26⟩
       go_simp
       with_reducible rfl
      rotate_left
      ·
       simp only [Act.put, List.setIfInBounds_toArray, List.set_cons_zero, List.set_cons_succ, i64_w, i32_w]
       rfl
      refine one_ (i := 13) (N := some 103) #[true, true, true, true, true, true, true, true, true, true, true, true, true, true, true, true, false, false, false, false, false, false, false, false, false, false, false, false, false, false, false, false, false, false, false] rfl rfl (by kernel_rfl) (by decide) (fun K_ hK => ?_)
      refine goes_ Try.func17 (by kernel_rfl) rfl #[.agg #[.slice B0 o.reg.length d0, .slice B1 o.que.length d1, .slice B2 o.loc.length d2, .slice B3 o.map.length d3], .agg #[.slice D0 q.1.reg.length f0, .slice D1 q.1.que.length f1, .slice D2 q.1.loc.length f2, .slice D3 q.1.map.length f3]] (by rfl) rfl rfl (by simp only [List.map_toArray, List.map_cons, List.map_nil]; rfl) ?_
      with_reducible refine (same17 B0 d0 B1 d1 B2 d2 B3 d3 D0 f0 D1 f1 D2 f2 D3 f3 o q.1 _ (FO.out.C.below HE2.out) (HT.out.C.below HE2.out)).mono ?_
      rintro e u3 ⟨rfl, hb_⟩
      have HE3 := Aside0.mk (below_then HE2.out HE2.out.size hb_)
      clear hb_
      refine ⟨_, rfl, ?_⟩
      refine hK.out _ _ ⟨(cells4 (blk_keep K10.out HE3.out)).1, (cells4 (blk_keep K10.out HE3.out)).2.1, (cells4 (blk_keep K10.out HE3.out)).2.2.1, (cells4 (blk_keep K10.out HE3.out)).2.2.2.1, (cells4 (blk_keep K12.out HE3.out)).1, (cells4 (blk_keep K12.out HE3.out)).2.1, (cells4 (blk_keep K12.out HE3.out)).2.2.1, (cells4 (blk_keep K12.out HE3.out)).2.2.2.1, (cells3 (blk_keep K11.out HE3.out)).1, (cells3 (blk_keep K11.out HE3.out)).2.1, (cells3 (blk_keep K11.out HE3.out)).2.2.1, (cells3 (blk_keep K13.out HE3.out)).1, (cells3 (blk_keep K13.out HE3.out)).2.1, (cells3 (blk_keep K13.out HE3.out)).2.2.1, (cells4 (blk_keep K6.out HE3.out)).1, (cells4 (blk_keep K6.out HE3.out)).2.1, (cells4 (blk_keep K6.out HE3.out)).2.2.1, (cells4 (blk_keep K6.out HE3.out)).2.2.2.1, (cells4 (blk_keep K7.out HE3.out)).1, (cells4 (blk_keep K7.out HE3.out)).2.1, (cells4 (blk_keep K7.out HE3.out)).2.2.1, (cells4 (blk_keep K7.out HE3.out)).2.2.2.1, (cells5 (blk_keep K9.out HE3.out)).1, (cells5 (blk_keep K9.out HE3.out)).2.1, (cells5 (blk_keep K9.out HE3.out)).2.2.1, (cells5 (blk_keep K9.out HE3.out)).2.2.2.1, (cells5 (blk_keep K9.out HE3.out)).2.2.2.2.1⟩ (fun hHeld => ?_)
      clear hK K_
      refine norm_ (a' := ?_) ?_ ?_
      rotate_left
      ·
       show Act.put _ (some 103) _ = _
       simp only [Act.put, List.setIfInBounds_toArray, List.set_cons_zero, List.set_cons_succ, i64_w, i32_w]
       rfl
      refine one_ (i := 16) (N := some 106) #[true, true, true, true, true, true, true, true, true, true, true, true, true, true, true, true, true, false, false, false, false, false, false, false, false, false, false, false, false, false, false, false, false, false, false] rfl rfl (by kernel_rfl) (by decide) (fun K_ hK => ?_)
      refine goes_ Try.func15 (by kernel_rfl) rfl #[.agg #[.slice G0 o.reg.length g0, .slice G1 o.que.length g1, .slice G2 o.loc.length g2, .slice G3 o.map.length g3], .agg #[.slice J0 q.1.reg.length j0, .slice J1 q.1.que.length j1, .slice J2 q.1.loc.length j2, .slice J3 q.1.map.length j3]] (by rfl) rfl rfl (by simp only [List.map_toArray, List.map_cons, List.map_nil]; rfl) ?_
      with_reducible refine (same15 G0 g0 G1 g1 G2 g2 G3 g3 J0 j0 J1 j1 J2 j2 J3 j3 o q.1 _ (FG.out.C.below HE3.out) (HU.out.C.below HE3.out)).mono ?_
      rintro e u4 ⟨rfl, hb_⟩
      have HE4 := Aside0.mk (below_then HE3.out HE3.out.size hb_)
      clear hb_
      refine ⟨_, rfl, ?_⟩
      refine hK.out _ _ ⟨(cells4 (blk_keep K10.out HE4.out)).1, (cells4 (blk_keep K10.out HE4.out)).2.1, (cells4 (blk_keep K10.out HE4.out)).2.2.1, (cells4 (blk_keep K10.out HE4.out)).2.2.2.1, (cells4 (blk_keep K12.out HE4.out)).1, (cells4 (blk_keep K12.out HE4.out)).2.1, (cells4 (blk_keep K12.out HE4.out)).2.2.1, (cells4 (blk_keep K12.out HE4.out)).2.2.2.1, (cells3 (blk_keep K11.out HE4.out)).1, (cells3 (blk_keep K11.out HE4.out)).2.1, (cells3 (blk_keep K11.out HE4.out)).2.2.1, (cells3 (blk_keep K13.out HE4.out)).1, (cells3 (blk_keep K13.out HE4.out)).2.1, (cells3 (blk_keep K13.out HE4.out)).2.2.1, (cells4 (blk_keep K6.out HE4.out)).1, (cells4 (blk_keep K6.out HE4.out)).2.1, (cells4 (blk_keep K6.out HE4.out)).2.2.1, (cells4 (blk_keep K6.out HE4.out)).2.2.2.1, (cells4 (blk_keep K7.out HE4.out)).1, (cells4 (blk_keep K7.out HE4.out)).2.1, (cells4 (blk_keep K7.out HE4.out)).2.2.1, (cells4 (blk_keep K7.out HE4.out)).2.2.2.1, (cells5 (blk_keep K9.out HE4.out)).1, (cells5 (blk_keep K9.out HE4.out)).2.1, (cells5 (blk_keep K9.out HE4.out)).2.2.1, (cells5 (blk_keep K9.out HE4.out)).2.2.2.1, (cells5 (blk_keep K9.out HE4.out)).2.2.2.2.1⟩ (fun hHeld => ?_)
      clear hK K_
      refine norm_ (a' := ?_) ?_ ?_
      rotate_left
      ·
       show Act.put _ (some 106) _ = _
       simp only [Act.put, List.setIfInBounds_toArray, List.set_cons_zero, List.set_cons_succ, i64_w, i32_w]
       rfl
      refine pure_ (i := 17) (N := some 107) (v := ?_) (a' := ?_) #[true, true, true, true, true, true, true, true, true, true, true, true, true, true, true, true, true, true, false, false, false, false, false, false, false, false, false, false, false, false, false, false, false, false, false] rfl rfl (by kernel_rfl) (fun _ _ _ h => h) (Or.inl ⟨by rfl, ?_⟩) ?_ ?_
      rotate_left
      ·
       intro w'
       go_simp
       with_reducible rfl
      rotate_left
      ·
       simp only [Act.put, List.setIfInBounds_toArray, List.set_cons_zero, List.set_cons_succ, i64_w, i32_w]
       rfl
      refine pure_ (i := 18) (N := some 108) (v := ?_) (a' := ?_) #[true, true, true, true, true, true, true, true, true, true, true, true, true, true, true, true, true, true, true, false, false, false, false, false, false, false, false, false, false, false, false, false, false, false, false] rfl rfl (by kernel_rfl) (fun _ _ _ h => h) (Or.inl ⟨by rfl, ?_⟩) ?_ ?_
      rotate_left
      ·
       intro w'
       go_simp
       with_reducible rfl
      rotate_left
      ·
       simp only [Act.put, List.setIfInBounds_toArray, List.set_cons_zero, List.set_cons_succ, i64_w, i32_w]
       rfl
      refine pure_ (i := 19) (N := some 109) (v := ?_) (a' := ?_) #[true, true, true, true, true, true, true, true, true, true, true, true, true, true, true, true, true, true, true, true, false, false, false, false, false, false, false, false, false, false, false, false, false, false, false] rfl rfl (by kernel_rfl) (fun _ _ _ h => h) (Or.inl ⟨by rfl, ?_⟩) ?_ ?_
      rotate_left
      ·
       intro w'
       go_simp
       with_reducible rfl
      rotate_left
      ·
       simp only [Act.put, List.setIfInBounds_toArray, List.set_cons_zero, List.set_cons_succ, i64_w, i32_w]
       rfl
      refine take_ (i := 20) (N := some 110) (v := ?_) (a' := ?_) #[true, true, true, true, true, true, true, true, true, true, true, true, true, true, true, true, true, true, true, true, true, false, false, false, false, false, false, false, false, false, false, false, false, false, false] rfl rfl (by kernel_rfl) (fun _ _ _ h => h) (Or.inl ⟨by rfl, ?_⟩) hHeld ?_ ?_
      rotate_left
      ·
       rintro w' ⟨s0, s1, s2, s3, s4, s5, s6, s7, s8, s9, s10, s11, s12, s13, s14, s15, s16, s17, s18, s19, s20, s21, s22, s23, s24, s25, s26⟩
       go_simp
       with_reducible rfl
      rotate_left
      ·
       simp only [Act.put, List.setIfInBounds_toArray, List.set_cons_zero, List.set_cons_succ, i64_w, i32_w]
       rfl
      refine take_ (i := 22) (N := some 112) (v := ?_) (a' := ?_) #[true, true, true, true, true, true, true, true, true, true, true, true, true, true, true, true, true, true, true, true, true, false, true, false, false, false, false, false, false, false, false, false, false, false, false] rfl rfl (by kernel_rfl) (fun _ _ _ h => h) (Or.inl ⟨by rfl, ?_⟩) hHeld ?_ ?_
      rotate_left
      ·
       rintro w' ⟨s0, s1, s2, s3, s4, s5, s6, s7, s8, s9, s10, s11, s12, s13, s14, s15, s16, s17, s18, s19, s20, s21, s22, s23, s24, s25, s26⟩
       go_simp
       with_reducible rfl
      rotate_left
      ·
       simp only [Act.put, List.setIfInBounds_toArray, List.set_cons_zero, List.set_cons_succ, i64_w, i32_w]
       rfl
      refine one_ (i := 21) (N := some 111) #[true, true, true, true, true, true, true, true, true, true, true, true, true, true, true, true, true, true, true, true, true, true, true, false, false, false, false, false, false, false, false, false, false, false, false] rfl rfl (by kernel_rfl) (by decide) (fun K_ hK => ?_)
      refine goes_ Try.func11 (by kernel_rfl) rfl #[.agg #[.int .i64 kd, .int .i64 ca, .slice Q2 ke.length q2, .slice Q3 va.length q3, .slice Q4 ol.length q4]] (by rfl) rfl rfl (by simp only [List.map_toArray, List.map_cons, List.map_nil]; rfl) ?_
      with_reducible refine (ok11 kd ca Q2 q2 Q3 q3 Q4 q4 ke va ol _).mono ?_
      rintro e u5 ⟨rfl, hb_⟩
      have HE5 := Aside0.mk (below_then HE4.out HE4.out.size hb_)
      clear hb_
      refine ⟨_, rfl, ?_⟩
      refine hK.out _ _ ⟨(cells4 (blk_keep K10.out HE5.out)).1, (cells4 (blk_keep K10.out HE5.out)).2.1, (cells4 (blk_keep K10.out HE5.out)).2.2.1, (cells4 (blk_keep K10.out HE5.out)).2.2.2.1, (cells4 (blk_keep K12.out HE5.out)).1, (cells4 (blk_keep K12.out HE5.out)).2.1, (cells4 (blk_keep K12.out HE5.out)).2.2.1, (cells4 (blk_keep K12.out HE5.out)).2.2.2.1, (cells3 (blk_keep K11.out HE5.out)).1, (cells3 (blk_keep K11.out HE5.out)).2.1, (cells3 (blk_keep K11.out HE5.out)).2.2.1, (cells3 (blk_keep K13.out HE5.out)).1, (cells3 (blk_keep K13.out HE5.out)).2.1, (cells3 (blk_keep K13.out HE5.out)).2.2.1, (cells4 (blk_keep K6.out HE5.out)).1, (cells4 (blk_keep K6.out HE5.out)).2.1, (cells4 (blk_keep K6.out HE5.out)).2.2.1, (cells4 (blk_keep K6.out HE5.out)).2.2.2.1, (cells4 (blk_keep K7.out HE5.out)).1, (cells4 (blk_keep K7.out HE5.out)).2.1, (cells4 (blk_keep K7.out HE5.out)).2.2.1, (cells4 (blk_keep K7.out HE5.out)).2.2.2.1, (cells5 (blk_keep K9.out HE5.out)).1, (cells5 (blk_keep K9.out HE5.out)).2.1, (cells5 (blk_keep K9.out HE5.out)).2.2.1, (cells5 (blk_keep K9.out HE5.out)).2.2.2.1, (cells5 (blk_keep K9.out HE5.out)).2.2.2.2.1⟩ (fun hHeld => ?_)
      clear hK K_
      refine norm_ (a' := ?_) ?_ ?_
      rotate_left
      ·
       show Act.put _ (some 111) _ = _
       simp only [Act.put, List.setIfInBounds_toArray, List.set_cons_zero, List.set_cons_succ, i64_w, i32_w]
       rfl
      refine one_ (i := 23) (N := some 113) #[true, true, true, true, true, true, true, true, true, true, true, true, true, true, true, true, true, true, true, true, true, true, true, true, false, false, false, false, false, false, false, false, false, false, false] rfl rfl (by kernel_rfl) (by decide) (fun K_ hK => ?_)
      refine goes_ Try.func18 (by kernel_rfl) rfl #[.agg #[.int .i64 kd, .int .i64 ca, .slice Q2 ke.length q2, .slice Q3 va.length q3, .slice Q4 ol.length q4]] (by rfl) rfl rfl (by simp only [List.map_toArray, List.map_cons, List.map_nil]; rfl) ?_
      with_reducible refine (ok18 kd ca Q2 q2 Q3 q3 Q4 q4 ke va ol _).mono ?_
      rintro e u6 ⟨rfl, hb_⟩
      have HE6 := Aside0.mk (below_then HE5.out HE5.out.size hb_)
      clear hb_
      refine ⟨_, rfl, ?_⟩
      refine hK.out _ _ ⟨(cells4 (blk_keep K10.out HE6.out)).1, (cells4 (blk_keep K10.out HE6.out)).2.1, (cells4 (blk_keep K10.out HE6.out)).2.2.1, (cells4 (blk_keep K10.out HE6.out)).2.2.2.1, (cells4 (blk_keep K12.out HE6.out)).1, (cells4 (blk_keep K12.out HE6.out)).2.1, (cells4 (blk_keep K12.out HE6.out)).2.2.1, (cells4 (blk_keep K12.out HE6.out)).2.2.2.1, (cells3 (blk_keep K11.out HE6.out)).1, (cells3 (blk_keep K11.out HE6.out)).2.1, (cells3 (blk_keep K11.out HE6.out)).2.2.1, (cells3 (blk_keep K13.out HE6.out)).1, (cells3 (blk_keep K13.out HE6.out)).2.1, (cells3 (blk_keep K13.out HE6.out)).2.2.1, (cells4 (blk_keep K6.out HE6.out)).1, (cells4 (blk_keep K6.out HE6.out)).2.1, (cells4 (blk_keep K6.out HE6.out)).2.2.1, (cells4 (blk_keep K6.out HE6.out)).2.2.2.1, (cells4 (blk_keep K7.out HE6.out)).1, (cells4 (blk_keep K7.out HE6.out)).2.1, (cells4 (blk_keep K7.out HE6.out)).2.2.1, (cells4 (blk_keep K7.out HE6.out)).2.2.2.1, (cells5 (blk_keep K9.out HE6.out)).1, (cells5 (blk_keep K9.out HE6.out)).2.1, (cells5 (blk_keep K9.out HE6.out)).2.2.1, (cells5 (blk_keep K9.out HE6.out)).2.2.2.1, (cells5 (blk_keep K9.out HE6.out)).2.2.2.2.1⟩ (fun hHeld => ?_)
      clear hK K_
      refine norm_ (a' := ?_) ?_ ?_
      rotate_left
      ·
       show Act.put _ (some 113) _ = _
       simp only [Act.put, List.setIfInBounds_toArray, List.set_cons_zero, List.set_cons_succ, i64_w, i32_w]
       rfl
      refine pure_ (i := 24) (N := some 114) (v := ?_) (a' := ?_) #[true, true, true, true, true, true, true, true, true, true, true, true, true, true, true, true, true, true, true, true, true, true, true, true, true, false, false, false, false, false, false, false, false, false, false] rfl rfl (by kernel_rfl) (fun _ _ _ h => h) (Or.inl ⟨by rfl, ?_⟩) ?_ ?_
      rotate_left
      ·
       intro w'
       go_simp
       with_reducible rfl
      rotate_left
      ·
       simp only [Act.put, List.setIfInBounds_toArray, List.set_cons_zero, List.set_cons_succ, i64_w, i32_w]
       rfl
      refine pure_ (i := 25) (N := some 115) (v := ?_) (a' := ?_) #[true, true, true, true, true, true, true, true, true, true, true, true, true, true, true, true, true, true, true, true, true, true, true, true, true, true, false, false, false, false, false, false, false, false, false] rfl rfl (by kernel_rfl) (fun _ _ _ h => h) (Or.inl ⟨by rfl, ?_⟩) ?_ ?_
      rotate_left
      ·
       intro w'
       go_simp
       with_reducible rfl
      rotate_left
      ·
       simp only [Act.put, List.setIfInBounds_toArray, List.set_cons_zero, List.set_cons_succ, i64_w, i32_w]
       rfl
      refine pure_ (i := 26) (N := some 116) (v := ?_) (a' := ?_) #[true, true, true, true, true, true, true, true, true, true, true, true, true, true, true, true, true, true, true, true, true, true, true, true, true, true, true, false, false, false, false, false, false, false, false] rfl rfl (by kernel_rfl) (fun _ _ _ h => h) (Or.inl ⟨by rfl, ?_⟩) ?_ ?_
      rotate_left
      ·
       intro w'
       go_simp
       with_reducible rfl
      rotate_left
      ·
       simp only [Act.put, List.setIfInBounds_toArray, List.set_cons_zero, List.set_cons_succ, i64_w, i32_w]
       rfl
      refine take_ (i := 27) (N := some 117) (v := ?_) (a' := ?_) #[true, true, true, true, true, true, true, true, true, true, true, true, true, true, true, true, true, true, true, true, true, true, true, true, true, true, true, true, false, false, false, false, false, false, false] rfl rfl (by kernel_rfl) (fun _ _ _ h => h) (Or.inl ⟨by rfl, ?_⟩) hHeld ?_ ?_
      rotate_left
      ·
       rintro w' ⟨s0, s1, s2, s3, s4, s5, s6, s7, s8, s9, s10, s11, s12, s13, s14, s15, s16, s17, s18, s19, s20, s21, s22, s23, s24, s25, s26⟩
       go_simp
       with_reducible rfl
      rotate_left
      ·
       simp only [Act.put, List.setIfInBounds_toArray, List.set_cons_zero, List.set_cons_succ, i64_w, i32_w]
       rfl
      refine take_ (i := 28) (N := some 118) (v := ?_) (a' := ?_) #[true, true, true, true, true, true, true, true, true, true, true, true, true, true, true, true, true, true, true, true, true, true, true, true, true, true, true, true, true, false, false, false, false, false, false] rfl rfl (by kernel_rfl) (fun _ _ _ h => h) (Or.inl ⟨by rfl, ?_⟩) hHeld ?_ ?_
      rotate_left
      ·
       rintro w' ⟨s0, s1, s2, s3, s4, s5, s6, s7, s8, s9, s10, s11, s12, s13, s14, s15, s16, s17, s18, s19, s20, s21, s22, s23, s24, s25, s26⟩
       go_simp
       with_reducible rfl
      rotate_left
      ·
       simp only [Act.put, List.setIfInBounds_toArray, List.set_cons_zero, List.set_cons_succ, i64_w, i32_w]
       rfl
      refine take_ (i := 30) (N := some 120) (v := ?_) (a' := ?_) #[true, true, true, true, true, true, true, true, true, true, true, true, true, true, true, true, true, true, true, true, true, true, true, true, true, true, true, true, true, false, true, false, false, false, false] rfl rfl (by kernel_rfl) (fun _ _ _ h => h) (Or.inl ⟨by rfl, ?_⟩) hHeld ?_ ?_
      rotate_left
      ·
       rintro w' ⟨s0, s1, s2, s3, s4, s5, s6, s7, s8, s9, s10, s11, s12, s13, s14, s15, s16, s17, s18, s19, s20, s21, s22, s23, s24, s25, s26⟩
       go_simp
       with_reducible rfl
      rotate_left
      ·
       simp only [Act.put, List.setIfInBounds_toArray, List.set_cons_zero, List.set_cons_succ, i64_w, i32_w]
       rfl
      refine take_ (i := 31) (N := some 121) (v := ?_) (a' := ?_) #[true, true, true, true, true, true, true, true, true, true, true, true, true, true, true, true, true, true, true, true, true, true, true, true, true, true, true, true, true, false, true, true, false, false, false] rfl rfl (by kernel_rfl) (fun _ _ _ h => h) (Or.inl ⟨by rfl, ?_⟩) hHeld ?_ ?_
      rotate_left
      ·
       rintro w' ⟨s0, s1, s2, s3, s4, s5, s6, s7, s8, s9, s10, s11, s12, s13, s14, s15, s16, s17, s18, s19, s20, s21, s22, s23, s24, s25, s26⟩
       go_simp
       with_reducible rfl
      rotate_left
      ·
       simp only [Act.put, List.setIfInBounds_toArray, List.set_cons_zero, List.set_cons_succ, i64_w, i32_w]
       rfl
      refine one_ (i := 29) (N := some 119) #[true, true, true, true, true, true, true, true, true, true, true, true, true, true, true, true, true, true, true, true, true, true, true, true, true, true, true, true, true, true, true, true, false, false, false] rfl rfl (by kernel_rfl) (by decide) (fun K_ hK => ?_)
      refine goes_ Try.func19 (by kernel_rfl) rfl #[.agg #[.int .i64 q.2.f0, .slice Av q.2.f1.length av, .int .i64 q.2.f2], .agg #[.int .i64 q.2.f0, .slice Cv q.2.f1.length cv, .int .i64 q.2.f2]] (by rfl) rfl rfl (by simp only [List.map_toArray, List.map_cons, List.map_nil]; rfl) ?_
      with_reducible refine (s19t Av av Cv cv q.2 _ (Kd.C_below FA.out HE6.out) HAv.out (Kd.C_below FC.out HE6.out) HCv.out).mono ?_
      rintro e u7 ⟨rfl, hb_⟩
      have HE7 := Aside0.mk (below_then HE6.out HE6.out.size hb_)
      clear hb_
      refine ⟨_, rfl, ?_⟩
      refine hK.out _ _ ⟨(cells4 (blk_keep K10.out HE7.out)).1, (cells4 (blk_keep K10.out HE7.out)).2.1, (cells4 (blk_keep K10.out HE7.out)).2.2.1, (cells4 (blk_keep K10.out HE7.out)).2.2.2.1, (cells4 (blk_keep K12.out HE7.out)).1, (cells4 (blk_keep K12.out HE7.out)).2.1, (cells4 (blk_keep K12.out HE7.out)).2.2.1, (cells4 (blk_keep K12.out HE7.out)).2.2.2.1, (cells3 (blk_keep K11.out HE7.out)).1, (cells3 (blk_keep K11.out HE7.out)).2.1, (cells3 (blk_keep K11.out HE7.out)).2.2.1, (cells3 (blk_keep K13.out HE7.out)).1, (cells3 (blk_keep K13.out HE7.out)).2.1, (cells3 (blk_keep K13.out HE7.out)).2.2.1, (cells4 (blk_keep K6.out HE7.out)).1, (cells4 (blk_keep K6.out HE7.out)).2.1, (cells4 (blk_keep K6.out HE7.out)).2.2.1, (cells4 (blk_keep K6.out HE7.out)).2.2.2.1, (cells4 (blk_keep K7.out HE7.out)).1, (cells4 (blk_keep K7.out HE7.out)).2.1, (cells4 (blk_keep K7.out HE7.out)).2.2.1, (cells4 (blk_keep K7.out HE7.out)).2.2.2.1, (cells5 (blk_keep K9.out HE7.out)).1, (cells5 (blk_keep K9.out HE7.out)).2.1, (cells5 (blk_keep K9.out HE7.out)).2.2.1, (cells5 (blk_keep K9.out HE7.out)).2.2.2.1, (cells5 (blk_keep K9.out HE7.out)).2.2.2.2.1⟩ (fun hHeld => ?_)
      clear hK K_
      refine norm_ (a' := ?_) ?_ ?_
      rotate_left
      ·
       show Act.put _ (some 119) _ = _
       simp only [Act.put, List.setIfInBounds_toArray, List.set_cons_zero, List.set_cons_succ, i64_w, i32_w]
       rfl
      refine one_ (i := 32) (N := some 122) #[true, true, true, true, true, true, true, true, true, true, true, true, true, true, true, true, true, true, true, true, true, true, true, true, true, true, true, true, true, true, true, true, true, false, false] rfl rfl (by kernel_rfl) (by decide) (fun K_ hK => ?_)
      refine goes_ Try.func16 (by kernel_rfl) rfl #[.agg #[.int .i64 q.2.f0, .slice Av q.2.f1.length av, .int .i64 q.2.f2], .agg #[.int .i64 q.2.f0, .slice Cv q.2.f1.length cv, .int .i64 q.2.f2]] (by rfl) rfl rfl (by simp only [List.map_toArray, List.map_cons, List.map_nil]; rfl) ?_
      with_reducible refine (s16t Av av Cv cv q.2 _ (Kd.C_below FA.out HE7.out) HAv.out (Kd.C_below FC.out HE7.out) HCv.out).mono ?_
      rintro e u8 ⟨rfl, hb_⟩
      have HE8 := Aside0.mk (below_then HE7.out HE7.out.size hb_)
      clear hb_
      refine ⟨_, rfl, ?_⟩
      refine hK.out _ _ ⟨(cells4 (blk_keep K10.out HE8.out)).1, (cells4 (blk_keep K10.out HE8.out)).2.1, (cells4 (blk_keep K10.out HE8.out)).2.2.1, (cells4 (blk_keep K10.out HE8.out)).2.2.2.1, (cells4 (blk_keep K12.out HE8.out)).1, (cells4 (blk_keep K12.out HE8.out)).2.1, (cells4 (blk_keep K12.out HE8.out)).2.2.1, (cells4 (blk_keep K12.out HE8.out)).2.2.2.1, (cells3 (blk_keep K11.out HE8.out)).1, (cells3 (blk_keep K11.out HE8.out)).2.1, (cells3 (blk_keep K11.out HE8.out)).2.2.1, (cells3 (blk_keep K13.out HE8.out)).1, (cells3 (blk_keep K13.out HE8.out)).2.1, (cells3 (blk_keep K13.out HE8.out)).2.2.1, (cells4 (blk_keep K6.out HE8.out)).1, (cells4 (blk_keep K6.out HE8.out)).2.1, (cells4 (blk_keep K6.out HE8.out)).2.2.1, (cells4 (blk_keep K6.out HE8.out)).2.2.2.1, (cells4 (blk_keep K7.out HE8.out)).1, (cells4 (blk_keep K7.out HE8.out)).2.1, (cells4 (blk_keep K7.out HE8.out)).2.2.1, (cells4 (blk_keep K7.out HE8.out)).2.2.2.1, (cells5 (blk_keep K9.out HE8.out)).1, (cells5 (blk_keep K9.out HE8.out)).2.1, (cells5 (blk_keep K9.out HE8.out)).2.2.1, (cells5 (blk_keep K9.out HE8.out)).2.2.2.1, (cells5 (blk_keep K9.out HE8.out)).2.2.2.2.1⟩ (fun hHeld => ?_)
      clear hK K_
      refine norm_ (a' := ?_) ?_ ?_
      rotate_left
      ·
       show Act.put _ (some 122) _ = _
       simp only [Act.put, List.setIfInBounds_toArray, List.set_cons_zero, List.set_cons_succ, i64_w, i32_w]
       rfl
      refine pure_ (i := 33) (N := some 123) (v := ?_) (a' := ?_) #[true, true, true, true, true, true, true, true, true, true, true, true, true, true, true, true, true, true, true, true, true, true, true, true, true, true, true, true, true, true, true, true, true, true, false] rfl rfl (by kernel_rfl) (fun _ _ _ h => h) (Or.inl ⟨by rfl, ?_⟩) ?_ ?_
      rotate_left
      ·
       intro w'
       go_simp
       with_reducible rfl
      rotate_left
      ·
       simp only [Act.put, List.setIfInBounds_toArray, List.set_cons_zero, List.set_cons_succ, i64_w, i32_w]
       rfl
      refine pure_ (i := 34) (N := some 124) (v := ?_) (a' := ?_) #[true, true, true, true, true, true, true, true, true, true, true, true, true, true, true, true, true, true, true, true, true, true, true, true, true, true, true, true, true, true, true, true, true, true, true] rfl rfl (by kernel_rfl) (fun _ _ _ h => h) (Or.inl ⟨by rfl, ?_⟩) ?_ ?_
      rotate_left
      ·
       intro w'
       go_simp
       with_reducible rfl
      rotate_left
      ·
       simp only [Act.put, List.setIfInBounds_toArray, List.set_cons_zero, List.set_cons_succ, i64_w, i32_w]
       rfl
      refine done_ (by kernel_rfl) ?_
      replace HB := HBs HB HE8.out
      replace K6 := KB K6 HE8.out
      replace K7 := KB K7 HE8.out
      replace K9 := KB K9 HE8.out
      replace K10 := KB K10 HE8.out
      replace K11 := KB K11 HE8.out
      replace K12 := KB K12 HE8.out
      replace K13 := KB K13 HE8.out
      replace FO := Aside0.mk (FO.out.below HE8.out)
      replace FG := Aside0.mk (FG.out.below HE8.out)
      replace HX := Aside0.mk (XC_below HX.out HE8.out)
      replace HT := Aside0.mk (HT.out.below HE8.out)
      replace FA := Aside0.mk (Kd.C_below FA.out HE8.out)
      replace HU := Aside0.mk (HU.out.below HE8.out)
      replace FC := Aside0.mk (Kd.C_below FC.out HE8.out)
      clear HD HE1 HE2 HE3 HE4 HE5 HE6 HE7 HE8 hHeld
      go_upto_region 18 with fail
      have HD := Aside0.mk (below_drew1 (Below.refl u8.heap.size u8))
      replace HB := HBs HB HD.out
      replace K6 := KB K6 HD.out
      replace K7 := KB K7 HD.out
      replace K10 := KB K10 HD.out
      replace K12 := KB K12 HD.out
      replace HT := Aside0.mk (HT.out.below HD.out)
      replace HU := Aside0.mk (HU.out.below HD.out)
      clear HD FO FG HX FA FC K9 K11 K13
      refine start_ (n := 4) (S := fun w' => w'.cell? ⟨w3.heap.size, 0, none⟩ = some (.slice D0 q.1.reg.length f0) ∧ w'.cell? ⟨w3.heap.size, 1, none⟩ = some (.slice D1 q.1.que.length f1) ∧ w'.cell? ⟨w3.heap.size, 2, none⟩ = some (.slice D2 q.1.loc.length f2) ∧ w'.cell? ⟨w3.heap.size, 3, none⟩ = some (.slice D3 q.1.map.length f3) ∧ w'.cell? ⟨w4.heap.size, 0, none⟩ = some (.slice J0 q.1.reg.length j0) ∧ w'.cell? ⟨w4.heap.size, 1, none⟩ = some (.slice J1 q.1.que.length j1) ∧ w'.cell? ⟨w4.heap.size, 2, none⟩ = some (.slice J2 q.1.loc.length j2) ∧ w'.cell? ⟨w4.heap.size, 3, none⟩ = some (.slice J3 q.1.map.length j3)) (ds := []) #[false, false, false, false] (by kernel_rfl) rfl rfl ⟨(cells4 K10.out).1, (cells4 K10.out).2.1, (cells4 K10.out).2.2.1, (cells4 K10.out).2.2.2.1, (cells4 K12.out).1, (cells4 K12.out).2.1, (cells4 K12.out).2.2.1, (cells4 K12.out).2.2.2.1⟩ (fun hHeld => ?_)
      refine take_ (i := 0) (N := some 125) (v := ?_) (a' := ?_) #[true, false, false, false] rfl rfl (by kernel_rfl) (fun _ _ _ h => h) (Or.inl ⟨by rfl, ?_⟩) hHeld ?_ ?_
      rotate_left
      ·
       rintro w' ⟨s0, s1, s2, s3, s4, s5, s6, s7⟩
       go_simp
       with_reducible rfl
      rotate_left
      ·
       simp only [Act.put, List.setIfInBounds_toArray, List.set_cons_zero, List.set_cons_succ, i64_w, i32_w]
       rfl
      refine take_ (i := 1) (N := some 126) (v := ?_) (a' := ?_) #[true, true, false, false] rfl rfl (by kernel_rfl) (fun _ _ _ h => h) (Or.inl ⟨by rfl, ?_⟩) hHeld ?_ ?_
      rotate_left
      ·
       rintro w' ⟨s0, s1, s2, s3, s4, s5, s6, s7⟩
       go_simp
       with_reducible rfl
      rotate_left
      ·
       simp only [Act.put, List.setIfInBounds_toArray, List.set_cons_zero, List.set_cons_succ, i64_w, i32_w]
       rfl
      refine one_ (i := 2) (N := none) #[true, true, true, false] rfl rfl (by kernel_rfl) (by decide) (fun K_ hK => ?_)
      obtain ⟨W5, hW5⟩ : ∃ V_, V_ = u8.drew := ⟨_, rfl⟩
      rw [← hW5] at K6 K7 K10 K12 HT HU HB ⊢
      clear hHeld hW5
      obtain ⟨z0, z1, z2, z3, z40, z41, z42, z43⟩ := cel4 K6.out
      refine skip_ (w1 := ?_) (by rfl) rfl ?_ ?_
      rotate_left
      ·
       go_simp
       rfl
      clear z0 z1 z2 z3 z40 z41 z42 z43
      generalize hU1 : World.setCell (World.setCell (World.setCell (World.setCell W5 _ _) _ _) _ _) _ _ = U1
      have hge_ : w.heap.size ≤ w.heap.size := by have z_ := ZV.out; omega
      have hst_ := st4 HB.out hge_ K6.out hU1
      replace HB := Aside0.mk hst_.1
      replace K6 := Aside0.mk hst_.2.1
      have z_ := ZV.out
      replace K7 := KS K7 hst_ (by omega)
      replace K10 := KS K10 hst_ (by omega)
      replace K12 := KS K12 hst_ (by omega)
      replace HT := Aside0.mk (HT.out.step (fun k_ hk_ _ => hst_.2.2.1 k_ (by have hk2_ : w.heap.size + 2 ≤ k_ := hk_; have z_ := ZV.out; omega)))
      replace HU := Aside0.mk (HU.out.step (fun k_ hk_ _ => hst_.2.2.1 k_ (by have hk2_ : w.heap.size + 2 ≤ k_ := hk_; have z_ := ZV.out; omega)))
      have SU1 := Aside0.mk hst_.2.2.2
      clear hU1 hst_ hge_ z_
      refine hK.out _ _ ⟨(cells4 K10.out).1, (cells4 K10.out).2.1, (cells4 K10.out).2.2.1, (cells4 K10.out).2.2.2.1, (cells4 K12.out).1, (cells4 K12.out).2.1, (cells4 K12.out).2.2.1, (cells4 K12.out).2.2.2.1⟩ (fun hHeld => ?_)
      clear hK K_
      refine one_ (i := 3) (N := none) #[true, true, true, true] rfl rfl (by kernel_rfl) (by decide) (fun K_ hK => ?_)
      obtain ⟨z0, z1, z2, z3, z40, z41, z42, z43⟩ := cel4 K7.out
      refine skip_ (w1 := ?_) (by rfl) rfl ?_ ?_
      rotate_left
      ·
       go_simp
       rfl
      clear z0 z1 z2 z3 z40 z41 z42 z43
      generalize hU2 : World.setCell (World.setCell (World.setCell (World.setCell U1 _ _) _ _) _ _) _ _ = U2
      have hge_ : w.heap.size ≤ w.heap.size + 1 := by have z_ := ZV.out; omega
      have hst_ := st4 HB.out hge_ K7.out hU2
      replace HB := Aside0.mk hst_.1
      replace K7 := Aside0.mk hst_.2.1
      have z_ := ZV.out
      replace K6 := KS K6 hst_ (by omega)
      replace K10 := KS K10 hst_ (by omega)
      replace K12 := KS K12 hst_ (by omega)
      replace HT := Aside0.mk (HT.out.step (fun k_ hk_ _ => hst_.2.2.1 k_ (by have hk2_ : w.heap.size + 2 ≤ k_ := hk_; have z_ := ZV.out; omega)))
      replace HU := Aside0.mk (HU.out.step (fun k_ hk_ _ => hst_.2.2.1 k_ (by have hk2_ : w.heap.size + 2 ≤ k_ := hk_; have z_ := ZV.out; omega)))
      have SU2 := Aside0.mk hst_.2.2.2
      clear hU2 hst_ hge_ z_
      refine hK.out _ _ ⟨(cells4 K10.out).1, (cells4 K10.out).2.1, (cells4 K10.out).2.2.1, (cells4 K10.out).2.2.2.1, (cells4 K12.out).1, (cells4 K12.out).2.1, (cells4 K12.out).2.2.1, (cells4 K12.out).2.2.2.1⟩ (fun hHeld => ?_)
      clear hK K_
      refine done_ (by kernel_rfl) ?_
      clear hHeld
      go_wp2_with fail
      go_roundw
      case rel => exact ⟨j + 1, by go_num, by omega, by omega, q.1, D0, f0, D1, f1, D2, f2, D3, f3, J0, j0, J1, j1, J2, j2, J3, j3, ⟨⟨HO2.out, K6.out, K7.out, HT.out, HU.out, HB.out⟩⟩⟩
      case measure => simp [intOf]; omega
   ·
    by_cases hl : j < len
    ·
     have c1 : decide ((j : Int) < (len : Int)) = true := decide_eq_true (by omega)
     have c2 : decide ((j : Int) < 60) = false := decide_eq_false (by omega)
     go_wp2_with fail
     refine (awake12 wr).mono ?_
     rintro e w2 ⟨rfl, hb_⟩
     have HB := Aside0.mk (below_then HLI.out.hb HLI.out.hb.size hb_)
     clear hb_
     go_wp2_with fail
     go_ret
     exact ⟨rfl, HB.out⟩
    ·
     have c1 : decide ((j : Int) < (len : Int)) = false := decide_eq_false (by omega)
     go_wp2_with fail
     refine (awake12 wr).mono ?_
     rintro e w2 ⟨rfl, hb_⟩
     have HB := Aside0.mk (below_then HLI.out.hb HLI.out.hb.size hb_)
     clear hb_
     go_wp2_with fail
     go_ret
     exact ⟨rfl, HB.out⟩
end Go.Proofs.Ythfplgfpodmphaa.Ob
namespace Go.Proofs.Ythfplgfpodmphaa.Ob
open Go.RowKit Go.Proofs.YthfplgfpodmphaaW.PrintWords Go.Proofs.YthfplgfpodmphaaW.PrintLast Go.Proofs.YthfplgfpodmphaaW.PrintMore Go.Proofs.Ythfplgfpodmphaa.Ms
attribute [local go_sem] max2_int min2_int max_two min_two max_three min_three max_four min_four
set_option linter.unusedVariables false
set_option linter.unusedSimpArgs false
set_option maxRecDepth 100000
open Go.ChangeShapes Go.WideShapes Go.ChangeAt
section
variable {H : Type} {enc : TypeId × Value → H} {W : World}
theorem open_bytes {v : Value} {fuel : Nat} {x : DataW H × List MemPlace} (h : DataW.trod enc Try.prog W 0 (fun _ => true) true fuel 22 [v] = some x) :
    ∃ (E : Option Addr) (e : Nat) (l : List Int), v = .slice E l.length e ∧ l.length ≤ e ∧ Kd.C kb W E l.length l := by
  rcases open_ints Try.underlying22 Try.underlying5 (by kernel_rfl) h with ⟨hcs, _⟩ | ⟨a, len, cap, zs, hcs, _, hl, hm, hz, _, hcell, hwz⟩
  · simp at hcs
    subst hcs
    exact ⟨none, 0, [], rfl, Nat.le_refl _, Kd.C_nil _ _⟩
  · simp at hcs
    subst hcs
    obtain ⟨l, rfl, hr, _, _, hc⟩ := ReadsInt.ofRowC (.inr ⟨a, rfl, hl, hm, by simpa using hz, hcell, hwz⟩)
    exact ⟨some a, cap, l, rfl, hc, Kd.C_of_reads (d := (0 : Int)) (h1 := fun _ => rfl) hr⟩
theorem spot_none {w : World} {a : Addr} {v : Value} (h : w.cell? a = some v) : a.spot = none := by
  unfold World.cell? at h
  split at h
  · split at h
    · cases h
    · rename_i hs
      cases hsp : a.spot with
      | none => rfl
      | some _ => rw [hsp] at hs; exact absurd rfl hs
  · cases h
instance : Inhabited Cm := ⟨⟨0, 0, [], [], [], none, 0, none, 0, none, 0⟩⟩
theorem open_cmds {cs : List Value} {fuel : Nat} {x : DataW H × List MemPlace} (h : DataW.trod enc Try.prog W 0 (fun _ => true) true fuel 45 cs = some x) :
    cs = [.slice none 0 0] ∨ ∃ (A : Addr) (len cap : Nat) (f : Nat → Cm), cs = [.slice (some A) len cap] ∧ len ≤ cap ∧ cap ≤ maxLen ∧ RawC W (some A) len f := by
  rcases Go.Deep.open_slice Try.underlying45 h with h0 | ⟨a, len, cap, m, n, D, Pl, rfl, hb, hl, hm, hmm, rfl, hx⟩
  · exact .inl h0.1
  right
  simp only [if_true] at hmm
  subst hmm
  have each : ∀ i, i < m → ∃ c : Cm, ∃ vs : List Value, vs = [.int .i64 c.kd, .int .i64 c.a, .slice c.E2 c.ke.length c.e2, .slice c.E3 c.va.length c.e3, .slice c.E4 c.ol.length c.e4] ∧ (∀ k, k < 5 → W.cell? ((a.add (i * 5)).add k) = vs[k]?) ∧
      c.ke.length ≤ c.e2 ∧ Kd.C kb W c.E2 c.ke.length c.ke ∧ c.va.length ≤ c.e3 ∧ Kd.C kb W c.E3 c.va.length c.va ∧ c.ol.length ≤ c.e4 ∧ Kd.C kb W c.E4 c.ol.length c.ol := by
    intro i hi
    obtain ⟨cs', h1, h2⟩ := hx i hi
    rw [show Try.prog.cellsOf 24 = 5 by kernel_rfl] at h1
    obtain ⟨_, hlen, hcell⟩ := World.cells?_some h1
    obtain ⟨xs, k, hk, hxy, _, hxl, hf⟩ := DataW.trod_struct Try.underlying24 h2
    match xs, hxl, cs', hlen with
    | [y0, y1, y2, y3, y4], _, [v0, v1, v2, v3, v4], _ =>
      have g0 := hf 0 _ rfl
      have g1 := hf 1 _ rfl
      have g2 := hf 2 _ rfl
      have g3 := hf 3 _ rfl
      have g4 := hf 4 _ rfl
      have c3 : Try.prog.cellsOf 3 = 1 := by kernel_rfl
      have c22 : Try.prog.cellsOf 22 = 1 := by kernel_rfl
      simp [c3] at g0 g1
      simp [c22] at g2 g3 g4
      obtain ⟨n0, e0, _⟩ := DataW.trod_int Try.underlying3 g0
      obtain ⟨n1, e1, _⟩ := DataW.trod_int Try.underlying3 g1
      simp at e0 e1
      obtain ⟨E2, e2, ke, hv2, l2, r2⟩ := open_bytes g2
      obtain ⟨E3, e3, va, hv3, l3, r3⟩ := open_bytes g3
      obtain ⟨E4, e4, ol, hv4, l4, r4⟩ := open_bytes g4
      subst e0 e1 hv2 hv3 hv4
      exact ⟨⟨n0, n1, ke, va, ol, E2, e2, E3, e3, E4, e4⟩, _, rfl, fun k hk => hcell k hk, l2, r2, l3, r3, l4, r4⟩
  obtain ⟨f, hf⟩ := Go.Deep.choose_lt each
  refine ⟨a, len, m, f, rfl, hl, hm, fun j hj => ?_⟩
  have s0 : a.spot = none := by
    obtain ⟨vs, rfl, hc, _⟩ := hf 0 (by omega)
    have h0 := hc 0 (by omega)
    simp [Addr.add] at h0
    exact spot_none h0
  obtain ⟨b, o, s⟩ := a
  simp only at s0
  subst s0
  obtain ⟨vs, rfl, hc, hr⟩ := hf j (by omega)
  have h0 := hc 0 (by omega)
  have h1 := hc 1 (by omega)
  have h2 := hc 2 (by omega)
  have h3 := hc 3 (by omega)
  have h4 := hc 4 (by omega)
  rw [add_mid, add_mid] at h0 h1 h2 h3 h4
  exact ⟨b, o, rfl, h0, h1, h2, h3, h4, hr⟩
end
end Go.Proofs.Ythfplgfpodmphaa.Ob
