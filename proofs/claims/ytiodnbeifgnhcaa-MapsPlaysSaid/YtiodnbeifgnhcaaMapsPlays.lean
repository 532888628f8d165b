/- MapsPlays: keys are put, got and let go as the document says: for any row of whole numbers and any rows of bytes that fit in memory. -/
import Derived.Lib.SliceRun
import Derived.Outline
import Derived.Test.YtiodnbeifgnhcaaRows
import Derived.WalkKit
import Derived.ProofKit
import Derived.OpenShut
import Derived.ShutString
import Derived.ChangeOld
import Derived.Below
import Derived.SizedLaws
import Derived.Test.YtiodnbeifgnhcaaWSized
import Derived.Deep.Matrix
import Derived.Test.YtiodnbeifgnhcaaMaw
import Derived.Test.YtiodnbeifgnhcaaMq
import Derived.Test.YtiodnbeifgnhcaaMrj
import Derived.Test.YtiodnbeifgnhcaaMky
namespace Go.Proofs.Ytiodnbeifgnhcaa.Ms
open Go.RowKit Go.Proofs.YtiodnbeifgnhcaaW.PrintWords Go.Proofs.YtiodnbeifgnhcaaW.PrintLast Go.Proofs.YtiodnbeifgnhcaaW.PrintMore
attribute [local go_sem] max2_int min2_int max_two min_two max_three min_three max_four min_four
set_option linter.unusedVariables false
set_option linter.unusedSimpArgs false

def lv (l : List S32) : Prop := l.length ≤ 8 ∧ ∀ x ∈ l, x.f0.length ≤ 60 ∧ x.f1.length ≤ 60
theorem lv_rd {l : List S32} (h : lv l) (i : Nat) (hi : i < l.length) : (rd_T32 l (i : Int)).f0.length ≤ 60 ∧ (rd_T32 l (i : Int)).f1.length ≤ 60 := by
  rw [rd_get l i hi]
  exact h.2 _ (List.getElem_mem hi)
theorem lv_put {l : List S32} {k v : List Int} (h : lv l) : lv (putR l k v).1 ∧ (putR l k v).2.f1.length ≤ 60 := by
  unfold putR
  split
  · exact ⟨h, Nat.zero_le _⟩
  · rename_i hkv
    split
    · rename_i ht
      have hx := lv_rd h _ (findR_lt l k ht)
      refine ⟨⟨by rw [List.length_set]; exact h.1, fun x hx' => ?_⟩, hx.2⟩
      rcases List.mem_or_eq_of_mem_set hx' with h' | rfl
      · exact h.2 x h'
      · exact ⟨hx.1, by show v.length ≤ 60; omega⟩
    · split
      · exact ⟨h, Nat.zero_le _⟩
      · have hfi := findR_le l k
        refine ⟨⟨by simp; omega, fun x hx => ?_⟩, Nat.zero_le _⟩
        rcases List.mem_append.1 hx with hx | hx
        · exact h.2 x (List.mem_of_mem_take hx)
        · rcases List.mem_cons.1 hx with rfl | hx
          · exact ⟨by show k.length ≤ 60; omega, by show v.length ≤ 60; omega⟩
          · exact h.2 x (List.mem_of_mem_drop hx)
theorem lv_del {l : List S32} {k : List Int} (h : lv l) : lv (delR l k).1 ∧ (delR l k).2.f1.length ≤ 60 := by
  unfold delR
  split
  · rename_i ht
    have hlt := findR_lt l k ht
    refine ⟨⟨by have := h.1; simp; omega, fun x hx => ?_⟩, (lv_rd h _ hlt).2⟩
    rcases List.mem_append.1 hx with hx | hx
    · exact h.2 x (List.mem_of_mem_take hx)
    · exact h.2 x (List.mem_of_mem_drop hx)
  · exact ⟨h, Nat.zero_le _⟩
theorem lv_get {l : List S32} {k : List Int} (h : lv l) : (getR l k).f1.length ≤ 60 := by
  unfold getR
  split
  · rename_i ht
    exact (lv_rd h _ (findR_lt l k ht)).2
  · exact Nat.zero_le _
def Same (w0 w w' : World) : Prop := ∀ k, w0.heap.size ≤ k → k < w.heap.size → w'.heap[k]? = w.heap[k]?
theorem Same.refl (w0 w : World) : Same w0 w w := fun _ _ _ => rfl
theorem Same.step {w0 w u u' : World} (h : Same w0 w u) (hs : w.heap.size ≤ u.heap.size) (hb : Below u.heap.size u u') : Same w0 w u' := fun k a b => (hb.block k (Nat.lt_of_lt_of_le b hs)).trans (h k a b)
theorem Same.put3 {w0 w u : World} {g o0 o1 o2 : Nat} {a0 a1 a2 : Value} (h : Same w0 w u) (hg : g < w0.heap.size) : Same w0 w (((u.setCell ⟨g, o0, none⟩ a0).setCell ⟨g, o1, none⟩ a1).setCell ⟨g, o2, none⟩ a2) := fun k a b => (keep_put3 _ _ _ _ _ _ _ _ _ (by omega)).trans (h k a b)
theorem Same.at {w0 w u : World} (h : Same w0 w u) : ∀ k, w0.heap.size ≤ k → k < w.heap.size → u.heap[k]? = w.heap[k]? := h
def Out (w w' : World) (P : World → Prop) : Prop := ∀ W, (∀ k, w.heap.size ≤ k → k < w'.heap.size → W.heap[k]? = w'.heap[k]?) → P W
theorem size3 (W : World) (g o0 o1 o2 : Nat) (a0 a1 a2 : Value) : (((W.setCell ⟨g, o0, none⟩ a0).setCell ⟨g, o1, none⟩ a1).setCell ⟨g, o2, none⟩ a2).heap.size = W.heap.size := by simp [World.setCell]
def PutAt2 (w : World) (l' : List S32) (r : S26) (e : Ending) (w' : World) : Prop := ∃ A' c' Av cv, e = .returned (.tuple #[.slice A' l'.length c', .agg #[.int .i64 r.f0, .slice Av r.f1.length cv, .int .i64 r.f2]]) ∧ l'.length ≤ c' ∧ Out w w' (fun W => Kd.C k32 W A' l'.length l') ∧ r.f1.length ≤ cv ∧ Out w w' (fun W => Kd.C (Kd.int .u8) W Av r.f1.length r.f1) ∧ Below w.heap.size w w'
theorem out_R {w w' : World} {v : Value} {xs : List Int} {A : Option Addr} {c n : Nat} (h : Kd.R (Kd.int .u8) 5 w' w.heap.size (fun _ => True) v xs) (e : v = .slice A n c) (en : n = xs.length) : Out w w' (fun W => Kd.C (Kd.int .u8) W A n xs) := by
  intro W hW
  obtain ⟨A', c', e', _, hC⟩ := Kd.R_reads (R_keep3 h (fun k a b _ => hW k a b))
  rw [e'] at e
  cases e
  exact hC
theorem PutEnd.at2 {w w' : World} {l' : List S32} {r : S26} {e : Ending} (h : PutEnd w l' r e w') : PutAt2 w l' r e w' := by
  obtain ⟨A, c, v, rfl, hc, hF, hV, hb⟩ := h
  obtain ⟨Av, cv, rfl, hcv, _⟩ := Kd.R_reads hV
  exact ⟨A, c, Av, cv, rfl, hc, fun W hW => Fr.C (Fr.keep hF hW), hcv, out_R hV rfl rfl, hb⟩
theorem put_x6 {A B D : Option Addr} {c d f n a b : Nat} {l : List S32} {k v : List Int} {w : World} (hl : lv l) (e1 : l.length = n) (e2 : k.length = a) (e3 : v.length = b) (hr : Kd.C k32 w A l.length l) (hc : n ≤ c) (hk : Kd.C (Kd.int .u8) w B k.length k) (hd : a ≤ d) (hvr : Kd.C (Kd.int .u8) w D v.length v) (hvf : b ≤ f) :
    Calls Try.prog 6 #[.slice A n c, .slice B a d, .slice D b f] w (PutAt2 w (putR l k v).1 (putR l k v).2) := by
  subst e1 e2 e3
  exact (put6 A B D c d f l k v w hr hc (by have := hl.1; omega) (fun x hx => by have := hl.2 x hx; omega) hk hd hvr hvf).mono (fun _ _ h => h.at2)
theorem put_x11 {A B D : Option Addr} {c d f n a b : Nat} {l : List S32} {k v : List Int} {w : World} (hl : lv l) (e1 : l.length = n) (e2 : k.length = a) (e3 : v.length = b) (hr : Kd.C k32 w A l.length l) (hc : n ≤ c) (hk : Kd.C (Kd.int .u8) w B k.length k) (hd : a ≤ d) (hvr : Kd.C (Kd.int .u8) w D v.length v) (hvf : b ≤ f) :
    Calls Try.prog 11 #[.slice A n c, .slice B a d, .slice D b f] w (PutAt2 w (putR l k v).1 (putR l k v).2) := by
  subst e1 e2 e3
  exact (rput11 A B D c d f l k v w hr hc (by have := hl.1; omega) (fun x hx => by have := hl.2 x hx; omega) hk hd hvr hvf).mono (fun _ _ h => h.at2)
theorem del_x12 {A B : Option Addr} {c d n a : Nat} {l : List S32} {k : List Int} {w : World} (hl : lv l) (e1 : l.length = n) (e2 : k.length = a) (hr : Kd.C k32 w A l.length l) (hc : n ≤ c) (hk : Kd.C (Kd.int .u8) w B k.length k) (hd : a ≤ d) :
    Calls Try.prog 12 #[.slice A n c, .slice B a d] w (PutAt2 w (delR l k).1 (delR l k).2) := by
  subst e1 e2
  exact (del12 A B c d l k w hr hc (by have := hl.1; omega) (fun x hx => by have := hl.2 x hx; omega) hk hd).mono (fun _ _ h => h.at2)
theorem del_x13 {A B : Option Addr} {c d n a : Nat} {l : List S32} {k : List Int} {w : World} (hl : lv l) (e1 : l.length = n) (e2 : k.length = a) (hr : Kd.C k32 w A l.length l) (hc : n ≤ c) (hk : Kd.C (Kd.int .u8) w B k.length k) (hd : a ≤ d) :
    Calls Try.prog 13 #[.slice A n c, .slice B a d] w (PutAt2 w (delR l k).1 (delR l k).2) := by
  subst e1 e2
  exact (rdel13 A B c d l k w hr hc (by have := hl.1; omega) (fun x hx => by have := hl.2 x hx; omega) hk hd).mono (fun _ _ h => h.at2)
theorem get_x8 {A B : Option Addr} {c d n a : Nat} {l : List S32} {k : List Int} {w : World} (hl : lv l) (e1 : l.length = n) (e2 : k.length = a) (hr : Kd.C k32 w A l.length l) (hc : n ≤ c) (hk : Kd.C (Kd.int .u8) w B k.length k) (hd : a ≤ d) :
    Calls Try.prog 8 #[.slice A n c, .slice B a d] w fun e w' => ∃ Av cv, e = .returned (.agg #[.int .i64 (getR l k).f0, .slice Av (getR l k).f1.length cv, .int .i64 (getR l k).f2]) ∧ (getR l k).f1.length ≤ cv ∧ Out w w' (fun W => Kd.C (Kd.int .u8) W Av (getR l k).f1.length (getR l k).f1) ∧ Below w.heap.size w w' := by
  subst e1 e2
  refine (get8 A B c d l k w hr hc hk hd (fun x hx => by have := hl.2 x hx; omega)).mono ?_
  rintro e w' ⟨v, rfl, hV, hb⟩
  obtain ⟨Av, cv, rfl, hcv, _⟩ := Kd.R_reads hV
  exact ⟨Av, cv, rfl, hcv, out_R hV rfl rfl, hb⟩
theorem get_x14 {A B : Option Addr} {c d n a : Nat} {l : List S32} {k : List Int} {w : World} (hl : lv l) (e1 : l.length = n) (e2 : k.length = a) (hr : Kd.C k32 w A l.length l) (hc : n ≤ c) (hk : Kd.C (Kd.int .u8) w B k.length k) (hd : a ≤ d) :
    Calls Try.prog 14 #[.slice A n c, .slice B a d] w fun e w' => ∃ Av cv, e = .returned (.agg #[.int .i64 (getR l k).f0, .slice Av (getR l k).f1.length cv, .int .i64 (getR l k).f2]) ∧ (getR l k).f1.length ≤ cv ∧ Out w w' (fun W => Kd.C (Kd.int .u8) W Av (getR l k).f1.length (getR l k).f1) ∧ Below w.heap.size w w' := by
  subst e1 e2
  refine (rget14 A B c d l k w hr hc hk hd (fun x hx => by have := hl.2 x hx; omega)).mono ?_
  rintro e w' ⟨v, rfl, hV, hb⟩
  obtain ⟨Av, cv, rfl, hcv, _⟩ := Kd.R_reads hV
  exact ⟨Av, cv, rfl, hcv, out_R hV rfl rfl, hb⟩
theorem bits_lt (n : Int) (p m : Nat) (e : Int) (he : e = ((m : Nat) : Int)) (hm : m < 2 ^ p) (hp : p < 60) : ∃ N : Nat, Go.bits .and .i64 n e = (N : Int) ∧ N ≤ m := by
  subst he
  simp only [Go.bits, BitVec.ofInt_natCast, BitVec.toNat_and]
  have h : (BitVec.ofInt IntKind.i64.bits n).toNat &&& (BitVec.ofNat IntKind.i64.bits m).toNat ≤ m := Nat.le_trans Nat.and_le_right (by rw [BitVec.toNat_ofNat]; exact Nat.mod_le _ _)
  have h2 : m < 2 ^ 60 := Nat.lt_of_lt_of_le hm (Nat.pow_le_pow_right (by decide) (by omega))
  generalize (BitVec.ofInt IntKind.i64.bits n).toNat &&& (BitVec.ofNat IntKind.i64.bits m).toNat = t at h ⊢
  exact ⟨t, by rw [IntKind.wrap_i64]; omega, h⟩
theorem keys_any (n : Int) (w : World) : Calls Try.prog 10 #[.int .i64 n] w fun e w' => ∃ N, N ≤ 15 ∧ KeyEnd w (kk N) e w' := by
  obtain ⟨N, hN, hn⟩ := bits_lt n 4 15 15 rfl (by decide) (by decide)
  exact (keys10 n N w hN hn).mono (fun _ _ h => ⟨N, hn, h⟩)
theorem same15 {A B : Option Addr} {c d n : Nat} {r : S26} {w : World} (e1 : r.f1.length = n) (hA : Kd.C (Kd.int .u8) w A r.f1.length r.f1) (hc : n ≤ c) (hB : Kd.C (Kd.int .u8) w B r.f1.length r.f1) (hd : n ≤ d) :
    Calls Try.prog 15 #[.agg #[.int .i64 r.f0, .slice A n c, .int .i64 r.f2], .agg #[.int .i64 r.f0, .slice B n d, .int .i64 r.f2]] w fun e w' => e = .returned (.bool true) ∧ Below w.heap.size w w' := by
  subst e1
  exact hocketref4_SameResult.calls r.f0 A c r.f1 r.f2 r.f0 B d r.f1 r.f2 true w hA hc hB hd (by simp [hocketref4_SameResult.f])
theorem rows_C {W : World} {x : Addr} {l c : Nat} {A : Nat → Option Addr} {L C : Nat → Nat} {Z : Nat → List Int} (hl : l ≤ c) (hm : c ≤ maxLen) (h : ∀ r, r < c → W.cell? (x.add r) = some (.slice (A r) (L r) (C r)) ∧ L r ≤ C r ∧ C r ≤ maxLen ∧ (Z r).length = C r ∧ (∀ n ∈ Z r, (Lit.int .u8 n).wf = true) ∧ (A r = none → C r = 0) ∧ ∀ a', A r = some a' → 0 ≤ a'.block ∧ ∀ j, j < C r → W.cell? (a'.add j) = some (.int .u8 ((Z r).getD j 0))) :
    ∃ vs : List (List Int), vs.length = l ∧ Kd.C (Kd.slice 5 (Kd.int .u8)) W (some x) vs.length vs := by
  refine ⟨(List.range l).map fun r => (Z r).take (L r), by simp, rfl, by simp; unfold maxLen at hm; omega, fun _ => ⟨x, rfl, fun j p hj => ?_⟩⟩
  have hjl : j < l := by have := (List.getElem?_eq_some_iff.1 hj).1; simpa using this
  rw [List.getElem?_map, List.getElem?_range hjl] at hj
  obtain rfl : (Z j).take (L j) = p := Option.some.inj hj
  obtain ⟨h1, h2, h3, h4, _, h6, h7⟩ := h j (by omega)
  have hlen : ((Z j).take (L j)).length = L j := by rw [List.length_take]; omega
  refine ⟨[.slice (A j) (L j) (C j)], rfl, ⟨A j, C j, by rw [hlen], by omega, rfl, by unfold maxLen at h3; omega, fun h0 => ?_⟩, fun i u hu => ?_⟩
  · cases hA : A j with
    | none => have := h6 hA; omega
    | some a' =>
      refine ⟨a', rfl, fun m p hm2 => ⟨[.int .u8 p], rfl, rfl, fun i u hu => ?_⟩⟩
      cases i with
      | zero =>
        obtain rfl := Option.some.inj hu
        have hml : m < L j := by have := (List.getElem?_eq_some_iff.1 hm2).1; omega
        have h8 := (h7 a' hA).2 m (by omega)
        rw [List.getElem?_take, if_pos hml] at hm2
        show W.cell? (a'.add (m * 1 + 0)) = _
        rw [Nat.mul_one, Nat.add_zero, h8, List.getD_eq_getElem?_getD, hm2]
        rfl
      | succ i => simp at hu
  · cases i with
    | zero =>
      obtain rfl := Option.some.inj hu
      show W.cell? (x.add (j * 1 + 0)) = _
      rw [Nat.mul_one, Nat.add_zero, h1]
    | succ i => simp at hu
def RowI (w : World) (a : Option Addr) (n : Nat) : Prop := 0 < n → ∃ ad, a = some ad ∧ ∀ j, j < n → ∃ v, w.cell? (ad.add j) = some (.int .i64 v)
def PI (w : World) (n : Nat) (A : Option Addr) (c : Nat) (B : Option Addr) (d : Nat) (w' : World) : Prop := ∃ l, lv l ∧ l.length = n ∧ n ≤ c ∧ n ≤ d ∧ Kd.C k32 w' A l.length l ∧ Kd.C k32 w' B l.length l ∧ Below w.heap.size w w'
set_option maxHeartbeats 40000000 in
set_option maxRecDepth 100000 in
theorem plays_calls (a b : Option Addr) (la ca cb : Nat) (vs : List (List Int)) (w : World) (ha : RowI w a la) (hla : la ≤ 9223372036854775807) (hb : Kd.C (Kd.slice 5 (Kd.int .u8)) w b vs.length vs) :
    Calls Try.prog 4 #[.slice a la ca, .slice b vs.length cb] w fun e w' => e = .returned (.bool true) ∧ Below w.heap.size w w' := by
  have HA := Aside0.mk ha
  have HVS := Aside0.mk hb
  have hlen : vs.length ≤ 9223372036854775807 := hb.2.1
  clear ha hb
  go_enter Try.func4, Try.ntmps4
  go_wp2_with fail
  go_loopw [15] (fun v15 w' => ∃ j : Nat, v15 = .int .i64 j ∧ j ≤ vs.length ∧ Aside0 (∀ i, i < j → (rd_L1 vs (i : Int)).length ≤ 60) ∧ Aside0 (Below w.heap.size w w')) (fun v15 _ => vs.length - (intOf v15).toNat)
  case atStart => exact ⟨0, rfl, Nat.zero_le _, ⟨fun i hi => absurd hi (Nat.not_lt_zero i)⟩, ⟨Below.refl _ _⟩⟩
  case round =>
    obtain ⟨j, rfl, hj, HL, HB⟩ := hrel
    by_cases hjl : j < vs.length
    · obtain ⟨ad, A0, c0, e, h0, l0, g0⟩ := at_L1 (Kd.C_below HVS.out HB.out) (j : Int) (by omega) (by omega)
      cases e
      simp only [Int.toNat_natCast] at h0
      have e1 : IntKind.i64.wrap ((j : Int) + 1) = (j : Int) + 1 := by rw [IntKind.wrap_i64]; omega
      clear l0 g0
      by_cases h60 : 60 < (rd_L1 vs (j : Int)).length
      · have d1 : decide ((60 : Int) < ((rd_L1 vs (j : Int)).length : Int)) = true := decide_eq_true (by omega)
        go_wp2_with fail
        refine (awake9 _).mono ?_
        rintro e w1 ⟨rfl, hb1⟩
        have HB1 := Aside0.mk (below_then HB.out HB.out.size hb1)
        clear hb1
        go_wp2_with fail
        go_ret
        exact ⟨rfl, HB1.out⟩
      · have d1 : decide ((60 : Int) < ((rd_L1 vs (j : Int)).length : Int)) = false := decide_eq_false (by omega)
        have HL2 := Aside0.mk (show ∀ i, i < j + 1 → (rd_L1 vs (i : Int)).length ≤ 60 from fun i hi => by
          rcases Nat.lt_or_eq_of_le (Nat.le_of_lt_succ hi) with h | rfl
          · exact HL.out i h
          · omega)
        go_wp2_with fail
        go_roundw
        case rel => exact ⟨j + 1, by go_num, by omega, HL2, HB⟩
        case measure => simp [intOf]; omega
    · obtain rfl : j = vs.length := by omega
      go_wp2_with fail
      go_loopw [5, 6, 8] (fun v5 v6 v8 w' => ∃ (i n : Nat) (A : Option Addr) (c : Nat) (B : Option Addr) (d : Nat), v8 = .int .i64 i ∧ v5 = .slice A n c ∧ v6 = .slice B n d ∧ i ≤ 50 ∧ Aside0 (PI w n A c B d w')) (fun _ _ v8 _ => 50 - (intOf v8).toNat)
      case atStart => exact ⟨0, 0, none, 0, none, 0, rfl, rfl, rfl, by omega, ⟨⟨[], ⟨by decide, fun _ h => by simp at h⟩, rfl, Nat.zero_le _, Nat.zero_le _, ⟨rfl, by decide, fun h => absurd h (by decide)⟩, ⟨rfl, by decide, fun h => absurd h (by decide)⟩, HB.out⟩⟩⟩
      case round =>
        clear HB
        obtain ⟨i, n, A, c, B, d, rfl, rfl, rfl, hi, HI⟩ := hrel
        by_cases h1 : i < la
        · by_cases h3 : i < 50
          · obtain ⟨l, hlv, hn, hc, hd, hCA, hCB, hB⟩ := HI.out
            obtain ⟨ad, rfl, hca⟩ := HA.out (by omega)
            obtain ⟨va, hva⟩ := hca i h1
            have k1 := (hB.cell (World.block_lt_of_cell? w _ hva)).trans hva
            have HCA := Aside0.mk hCA
            have HCB := Aside0.mk hCB
            have HB := Aside0.mk hB
            have Hc := Aside0.mk hc
            have Hd := Aside0.mk hd
            have Hn := Aside0.mk hn
            have HLV := Aside0.mk hlv
            have HVA := Aside0.mk hva
            have HW := Aside0.mk (HVS.out)
            have d2 : decide ((i : Int) < (la : Int)) = true := decide_eq_true (by omega)
            have d3 : decide ((i : Int) < 50) = true := decide_eq_true (by omega)
            have e2 : IntKind.u8.wrap (i : Int) = (i : Int) := by rw [IntKind.wrap_u8]; omega
            have e3 : IntKind.i64.wrap ((i : Int) + 1) = (i : Int) + 1 := by rw [IntKind.wrap_i64]; omega
            clear hCA hCB hB hc hd hn hlv hca HI hva
            go_wp2_with fail
            refine (keys_any _ _).mono ?_
            rintro e w1 ⟨N, hN, Ak, ck, rfl, hck, hCk, hb_⟩
            have HK := Aside0.mk hCk
            have Hck := Aside0.mk hck
            replace HCA := Aside0.mk (Kd.C_below HCA.out hb_)
            replace HCB := Aside0.mk (Kd.C_below HCB.out hb_)
            replace HB := Aside0.mk (below_then HB.out HB.out.size hb_)
            clear hb_ hCk hck k1
            obtain ⟨q, hq, hq3⟩ := bits_lt va 2 3 3 rfl (by decide) (by decide)
            have hq4 : q = 0 ∨ q = 1 ∨ q = 2 ∨ q = 3 := by omega
            rcases Nat.eq_zero_or_pos vs.length with hv0 | hv0
            · rcases hq4 with rfl | rfl | rfl | rfl
              · skip
                have k2 := cell_old HB.out HVA.out
                have k3 := cell_old (below_alloc (Below.refl w1.heap.size w1) (.cells #[.int .u8 (i : Int)] 5)) k2
                have k4 := cell_old (below_alloc (below_alloc (below_alloc (Below.refl w1.heap.size w1) (.cells #[.int .u8 (i : Int)] 5)) (.cells #[.int .i64 0, .slice none 0 0, .int .i64 0] 26)) (.cells #[.int .i64 0, .slice none 0 0, .int .i64 0] 26)) k2
                have d4 : decide ((0 : Int) < (vs.length : Int)) = false := decide_eq_false (by omega)
                have d6 : decide (0 < vs.length) = false := decide_eq_false (by omega)
                clear hv0
                have hq : Go.bits .and .i64 va 3 = 0 := by assumption
                have HW1 := HB
                go_wp2_with fail
                clear k2 k3 k4 hq d4 d6
                have HX := Aside0.mk (Below.refl w1.heap.size w1)
                obtain ⟨V3, hV3⟩ : ∃ V_, V_ = (((w1.alloc (.cells #[.int .u8 (i : Int)] 5)).alloc (.cells #[.int .i64 0, .slice none 0 0, .int .i64 0] 26)).alloc (.cells #[.int .i64 0, .slice none 0 0, .int .i64 0] 26)) := ⟨_, rfl⟩
                rw [← hV3]
                replace HX := Aside0.mk (show Below w1.heap.size w1 V3 by rw [hV3]; exact (below_alloc (below_alloc (below_alloc (Below.refl w1.heap.size w1) (.cells #[.int .u8 (i : Int)] 5)) (.cells #[.int .i64 0, .slice none 0 0, .int .i64 0] 26)) (.cells #[.int .i64 0, .slice none 0 0, .int .i64 0] 26)))
                have HL0 : Aside0 (V3.heap[w1.heap.size]? = some (.cells #[.int .u8 (i : Int)] 5 (0, 0))) := Aside0.mk (by rw [hV3]; have h_ := blk_alloc (blk_alloc (heap_alloc_self w1 (.cells #[.int .u8 (i : Int)] 5)) (.cells #[.int .i64 0, .slice none 0 0, .int .i64 0] 26)) (.cells #[.int .i64 0, .slice none 0 0, .int .i64 0] 26); simpa using h_)
                have P1 : Aside0 (V3.heap[(w1.heap.size + 1)]? = some (.cells #[.int .i64 0, .slice none 0 0, .int .i64 0] 26 (0, 0))) := Aside0.mk (by rw [hV3]; have h_ := blk_alloc (heap_alloc_self (w1.alloc (.cells #[.int .u8 (i : Int)] 5)) (.cells #[.int .i64 0, .slice none 0 0, .int .i64 0] 26)) (.cells #[.int .i64 0, .slice none 0 0, .int .i64 0] 26); simpa using h_)
                have P2 : Aside0 (V3.heap[(w1.heap.size + 2)]? = some (.cells #[.int .i64 0, .slice none 0 0, .int .i64 0] 26 (0, 0))) := Aside0.mk (by rw [hV3]; have h_ := heap_alloc_self ((w1.alloc (.cells #[.int .u8 (i : Int)] 5)).alloc (.cells #[.int .i64 0, .slice none 0 0, .int .i64 0] 26)) (.cells #[.int .i64 0, .slice none 0 0, .int .i64 0] 26); simpa using h_)
                have HV3 : Aside0 (V3.heap.size = w1.heap.size + 3) := Aside0.mk (by rw [hV3]; simp)
                have HLO := Aside0.mk (Nat.le_refl V3.heap.size)
                clear hV3
                refine (put_x6 (l := l) (k := (kk N)) (v := [(i : Int)]) HLV.out Hn.out rfl rfl (Kd.C_below HCA.out HX.out) Hc.out (Kd.C_below HK.out HX.out) Hck.out (lit_u8 [(i : Int)] HL0.out (show 1 ≤ _ by decide) rfl) (Nat.le_refl 1)).mono ?_
                rintro e w4 ⟨A4, c4, Av4, cv4, rfl, hc4, hO4, hcv4, hV4, hb_⟩
                replace HX := Aside0.mk (below_then HX.out HX.out.size hb_)
                replace HL0 := Aside0.mk (blk3_keep HL0.out hb_)
                replace P1 := Aside0.mk (blk3_keep P1.out hb_)
                replace P2 := Aside0.mk (blk3_keep P2.out hb_)
                have LFw4 := HLO
                have Fw4 := Aside0.mk (Same.refl V3 w4)
                have ZFw4 := Aside0.mk (Nat.le_refl w4.heap.size)
                replace HLO := Aside0.mk (Nat.le_trans HLO.out hb_.size)
                have O4 := Aside0.mk (show _ ∧ _ ∧ _ ∧ _ from ⟨hc4, hO4, hcv4, hV4⟩)
                clear hc4 hO4 hcv4 hV4 hb_
                obtain ⟨x0, x1, x2, x3⟩ := blk_cells3 P1.out
                have x30 := x3 0
                have x31 := x3 1
                have x32 := x3 2
                clear x3
                go_wp2_with fail
                clear x0 x1 x2 x30 x31 x32
                obtain ⟨U4, hU4⟩ : ∃ V_, V_ = (((w4.setCell ⟨(w1.heap.size + 1), 0, none⟩ (.int .i64 (putR l (kk N) [(i : Int)]).2.f0)).setCell ⟨(w1.heap.size + 1), 1, none⟩ (.slice Av4 (putR l (kk N) [(i : Int)]).2.f1.length cv4)).setCell ⟨(w1.heap.size + 1), 2, none⟩ (.int .i64 (putR l (kk N) [(i : Int)]).2.f2)) := ⟨_, rfl⟩
                rw [← hU4]
                have hv3_ := HV3.out
                replace HX := Aside0.mk (show Below w1.heap.size w1 U4 by rw [hU4]; exact ((HX.out.setCell (p := ⟨(w1.heap.size + 1), 0, none⟩) (by show w1.heap.size ≤ (w1.heap.size + 1); omega) _).setCell (p := ⟨(w1.heap.size + 1), 1, none⟩) (by show w1.heap.size ≤ (w1.heap.size + 1); omega) _).setCell (p := ⟨(w1.heap.size + 1), 2, none⟩) (by show w1.heap.size ≤ (w1.heap.size + 1); omega) _)
                replace HL0 := Aside0.mk (show U4.heap[w1.heap.size]? = some (.cells #[.int .u8 (i : Int)] 5 (0, 0)) by rw [hU4]; exact (keep_put3 _ _ _ _ _ _ _ _ _ (by omega)).trans HL0.out)
                replace P1 := Aside0.mk (show U4.heap[(w1.heap.size + 1)]? = some (.cells #[.int .i64 (putR l (kk N) [(i : Int)]).2.f0, .slice Av4 (putR l (kk N) [(i : Int)]).2.f1.length cv4, .int .i64 (putR l (kk N) [(i : Int)]).2.f2] 26 (0, 0)) by rw [hU4]; exact blk_put (cs := #[.int .i64 (putR l (kk N) [(i : Int)]).2.f0, .slice Av4 (putR l (kk N) [(i : Int)]).2.f1.length cv4, .int .i64 0]) (blk_put (cs := #[.int .i64 (putR l (kk N) [(i : Int)]).2.f0, .slice none 0 0, .int .i64 0]) (blk_put (cs := #[.int .i64 0, .slice none 0 0, .int .i64 0]) P1.out 0 _ rfl) 1 _ rfl) 2 _ rfl)
                replace P2 := Aside0.mk (show U4.heap[(w1.heap.size + 2)]? = some (.cells #[.int .i64 0, .slice none 0 0, .int .i64 0] 26 (0, 0)) by rw [hU4]; exact (keep_put3 _ _ _ _ _ _ _ _ _ (by omega)).trans P2.out)
                replace Fw4 := Aside0.mk (show Same _ _ U4 by rw [hU4]; exact Fw4.out.put3 (by have := LFw4.out; omega))
                replace ZFw4 := Aside0.mk (show _ ≤ U4.heap.size by rw [hU4, size3]; exact ZFw4.out)
                replace HLO := Aside0.mk (show _ ≤ U4.heap.size by rw [hU4, size3]; exact HLO.out)
                clear hU4 hv3_
                refine (put_x11 (l := l) (k := (kk N)) (v := [(i : Int)]) HLV.out Hn.out rfl rfl (Kd.C_below HCB.out HX.out) Hd.out (Kd.C_below HK.out HX.out) Hck.out (lit_u8 [(i : Int)] HL0.out (show 1 ≤ _ by decide) rfl) (Nat.le_refl 1)).mono ?_
                rintro e w5 ⟨A5, c5, Av5, cv5, rfl, hc5, hO5, hcv5, hV5, hb_⟩
                replace HX := Aside0.mk (below_then HX.out HX.out.size hb_)
                replace HL0 := Aside0.mk (blk3_keep HL0.out hb_)
                replace P1 := Aside0.mk (blk3_keep P1.out hb_)
                replace P2 := Aside0.mk (blk3_keep P2.out hb_)
                replace Fw4 := Aside0.mk (Fw4.out.step ZFw4.out hb_)
                replace ZFw4 := Aside0.mk (Nat.le_trans ZFw4.out hb_.size)
                have LFw5 := HLO
                have Fw5 := Aside0.mk (Same.refl U4 w5)
                have ZFw5 := Aside0.mk (Nat.le_refl w5.heap.size)
                replace HLO := Aside0.mk (Nat.le_trans HLO.out hb_.size)
                have O5 := Aside0.mk (show _ ∧ _ ∧ _ ∧ _ from ⟨hc5, hO5, hcv5, hV5⟩)
                clear hc5 hO5 hcv5 hV5 hb_
                obtain ⟨y0, y1, y2, y3⟩ := blk_cells3 P1.out
                have y30 := y3 0
                have y31 := y3 1
                have y32 := y3 2
                clear y3
                obtain ⟨x0, x1, x2, x3⟩ := blk_cells3 P2.out
                have x30 := x3 0
                have x31 := x3 1
                have x32 := x3 2
                clear x3
                go_wp2_with fail
                clear x0 x1 x2 x30 x31 x32
                clear y0 y1 y2 y30 y31 y32
                obtain ⟨U5, hU5⟩ : ∃ V_, V_ = (((w5.setCell ⟨(w1.heap.size + 2), 0, none⟩ (.int .i64 (putR l (kk N) [(i : Int)]).2.f0)).setCell ⟨(w1.heap.size + 2), 1, none⟩ (.slice Av5 (putR l (kk N) [(i : Int)]).2.f1.length cv5)).setCell ⟨(w1.heap.size + 2), 2, none⟩ (.int .i64 (putR l (kk N) [(i : Int)]).2.f2)) := ⟨_, rfl⟩
                rw [← hU5]
                have hv3_ := HV3.out
                replace HX := Aside0.mk (show Below w1.heap.size w1 U5 by rw [hU5]; exact ((HX.out.setCell (p := ⟨(w1.heap.size + 2), 0, none⟩) (by show w1.heap.size ≤ (w1.heap.size + 2); omega) _).setCell (p := ⟨(w1.heap.size + 2), 1, none⟩) (by show w1.heap.size ≤ (w1.heap.size + 2); omega) _).setCell (p := ⟨(w1.heap.size + 2), 2, none⟩) (by show w1.heap.size ≤ (w1.heap.size + 2); omega) _)
                replace HL0 := Aside0.mk (show U5.heap[w1.heap.size]? = some (.cells #[.int .u8 (i : Int)] 5 (0, 0)) by rw [hU5]; exact (keep_put3 _ _ _ _ _ _ _ _ _ (by omega)).trans HL0.out)
                replace P1 := Aside0.mk (show U5.heap[(w1.heap.size + 1)]? = some (.cells #[.int .i64 (putR l (kk N) [(i : Int)]).2.f0, .slice Av4 (putR l (kk N) [(i : Int)]).2.f1.length cv4, .int .i64 (putR l (kk N) [(i : Int)]).2.f2] 26 (0, 0)) by rw [hU5]; exact (keep_put3 _ _ _ _ _ _ _ _ _ (by omega)).trans P1.out)
                replace P2 := Aside0.mk (show U5.heap[(w1.heap.size + 2)]? = some (.cells #[.int .i64 (putR l (kk N) [(i : Int)]).2.f0, .slice Av5 (putR l (kk N) [(i : Int)]).2.f1.length cv5, .int .i64 (putR l (kk N) [(i : Int)]).2.f2] 26 (0, 0)) by rw [hU5]; exact blk_put (cs := #[.int .i64 (putR l (kk N) [(i : Int)]).2.f0, .slice Av5 (putR l (kk N) [(i : Int)]).2.f1.length cv5, .int .i64 0]) (blk_put (cs := #[.int .i64 (putR l (kk N) [(i : Int)]).2.f0, .slice none 0 0, .int .i64 0]) (blk_put (cs := #[.int .i64 0, .slice none 0 0, .int .i64 0]) P2.out 0 _ rfl) 1 _ rfl) 2 _ rfl)
                replace Fw4 := Aside0.mk (show Same _ _ U5 by rw [hU5]; exact Fw4.out.put3 (by have := LFw4.out; omega))
                replace ZFw4 := Aside0.mk (show _ ≤ U5.heap.size by rw [hU5, size3]; exact ZFw4.out)
                replace Fw5 := Aside0.mk (show Same _ _ U5 by rw [hU5]; exact Fw5.out.put3 (by have := LFw5.out; omega))
                replace ZFw5 := Aside0.mk (show _ ≤ U5.heap.size by rw [hU5, size3]; exact ZFw5.out)
                replace HLO := Aside0.mk (show _ ≤ U5.heap.size by rw [hU5, size3]; exact HLO.out)
                clear hU5 hv3_
                refine (same15 (r := (putR l (kk N) [(i : Int)]).2) rfl (O4.out.2.2.2 _ Fw4.out.at) O4.out.2.2.1 (O5.out.2.2.2 _ Fw5.out.at) O5.out.2.2.1).mono ?_
                rintro e w6 ⟨rfl, hb_⟩
                have C4 := Aside0.mk (Kd.C_below (O4.out.2.1 _ Fw4.out.at) hb_)
                have C5 := Aside0.mk (Kd.C_below (O5.out.2.1 _ Fw5.out.at) hb_)
                replace HX := Aside0.mk (below_then HX.out HX.out.size hb_)
                clear hb_
                go_wp2_with fail
                refine (same7 A4 A5 c4 c5 (putR l (kk N) [(i : Int)]).1.length (putR l (kk N) [(i : Int)]).1 w6 rfl C4.out C5.out).mono ?_
                rintro e w7 ⟨rfl, hb_⟩
                have HPI := Aside0.mk (show PI w (putR l (kk N) [(i : Int)]).1.length A4 c4 A5 c5 w7 from ⟨(putR l (kk N) [(i : Int)]).1, (lv_put HLV.out).1, rfl, O4.out.1, O5.out.1, Kd.C_below C4.out hb_, Kd.C_below C5.out hb_, below_then (below_then HW1.out HW1.out.size HX.out) (Nat.le_trans HW1.out.size HX.out.size) hb_⟩)
                clear hb_
                go_wp2_with fail
                go_roundw
                case rel => exact ⟨i + 1, (putR l (kk N) [(i : Int)]).1.length, A4, c4, A5, c5, by go_num, rfl, rfl, by omega, HPI⟩
                case measure => simp [intOf]; omega
              · skip
                have k2 := cell_old HB.out HVA.out
                have k3 := cell_old (below_alloc (Below.refl w1.heap.size w1) (.cells #[.int .u8 (i : Int)] 5)) k2
                have k4 := cell_old (below_alloc (below_alloc (below_alloc (Below.refl w1.heap.size w1) (.cells #[.int .u8 (i : Int)] 5)) (.cells #[.int .i64 0, .slice none 0 0, .int .i64 0] 26)) (.cells #[.int .i64 0, .slice none 0 0, .int .i64 0] 26)) k2
                have d4 : decide ((0 : Int) < (vs.length : Int)) = false := decide_eq_false (by omega)
                have d6 : decide (0 < vs.length) = false := decide_eq_false (by omega)
                clear hv0
                have hq : Go.bits .and .i64 va 3 = 1 := by assumption
                have HW1 := HB
                go_wp2_with fail
                clear k2 k3 k4 hq d4 d6
                have HX := Aside0.mk (Below.refl w1.heap.size w1)
                obtain ⟨V3, hV3⟩ : ∃ V_, V_ = (((w1.alloc (.cells #[.int .u8 (i : Int)] 5)).alloc (.cells #[.int .i64 0, .slice none 0 0, .int .i64 0] 26)).alloc (.cells #[.int .i64 0, .slice none 0 0, .int .i64 0] 26)) := ⟨_, rfl⟩
                rw [← hV3]
                replace HX := Aside0.mk (show Below w1.heap.size w1 V3 by rw [hV3]; exact (below_alloc (below_alloc (below_alloc (Below.refl w1.heap.size w1) (.cells #[.int .u8 (i : Int)] 5)) (.cells #[.int .i64 0, .slice none 0 0, .int .i64 0] 26)) (.cells #[.int .i64 0, .slice none 0 0, .int .i64 0] 26)))
                have HL0 : Aside0 (V3.heap[w1.heap.size]? = some (.cells #[.int .u8 (i : Int)] 5 (0, 0))) := Aside0.mk (by rw [hV3]; have h_ := blk_alloc (blk_alloc (heap_alloc_self w1 (.cells #[.int .u8 (i : Int)] 5)) (.cells #[.int .i64 0, .slice none 0 0, .int .i64 0] 26)) (.cells #[.int .i64 0, .slice none 0 0, .int .i64 0] 26); simpa using h_)
                have P1 : Aside0 (V3.heap[(w1.heap.size + 1)]? = some (.cells #[.int .i64 0, .slice none 0 0, .int .i64 0] 26 (0, 0))) := Aside0.mk (by rw [hV3]; have h_ := blk_alloc (heap_alloc_self (w1.alloc (.cells #[.int .u8 (i : Int)] 5)) (.cells #[.int .i64 0, .slice none 0 0, .int .i64 0] 26)) (.cells #[.int .i64 0, .slice none 0 0, .int .i64 0] 26); simpa using h_)
                have P2 : Aside0 (V3.heap[(w1.heap.size + 2)]? = some (.cells #[.int .i64 0, .slice none 0 0, .int .i64 0] 26 (0, 0))) := Aside0.mk (by rw [hV3]; have h_ := heap_alloc_self ((w1.alloc (.cells #[.int .u8 (i : Int)] 5)).alloc (.cells #[.int .i64 0, .slice none 0 0, .int .i64 0] 26)) (.cells #[.int .i64 0, .slice none 0 0, .int .i64 0] 26); simpa using h_)
                have HV3 : Aside0 (V3.heap.size = w1.heap.size + 3) := Aside0.mk (by rw [hV3]; simp)
                have HLO := Aside0.mk (Nat.le_refl V3.heap.size)
                clear hV3
                refine (put_x6 (l := l) (k := (kk N)) (v := [(i : Int)]) HLV.out Hn.out rfl rfl (Kd.C_below HCA.out HX.out) Hc.out (Kd.C_below HK.out HX.out) Hck.out (lit_u8 [(i : Int)] HL0.out (show 1 ≤ _ by decide) rfl) (Nat.le_refl 1)).mono ?_
                rintro e w4 ⟨A4, c4, Av4, cv4, rfl, hc4, hO4, hcv4, hV4, hb_⟩
                replace HX := Aside0.mk (below_then HX.out HX.out.size hb_)
                replace HL0 := Aside0.mk (blk3_keep HL0.out hb_)
                replace P1 := Aside0.mk (blk3_keep P1.out hb_)
                replace P2 := Aside0.mk (blk3_keep P2.out hb_)
                have LFw4 := HLO
                have Fw4 := Aside0.mk (Same.refl V3 w4)
                have ZFw4 := Aside0.mk (Nat.le_refl w4.heap.size)
                replace HLO := Aside0.mk (Nat.le_trans HLO.out hb_.size)
                have O4 := Aside0.mk (show _ ∧ _ ∧ _ ∧ _ from ⟨hc4, hO4, hcv4, hV4⟩)
                clear hc4 hO4 hcv4 hV4 hb_
                obtain ⟨x0, x1, x2, x3⟩ := blk_cells3 P1.out
                have x30 := x3 0
                have x31 := x3 1
                have x32 := x3 2
                clear x3
                go_wp2_with fail
                clear x0 x1 x2 x30 x31 x32
                obtain ⟨U4, hU4⟩ : ∃ V_, V_ = (((w4.setCell ⟨(w1.heap.size + 1), 0, none⟩ (.int .i64 (putR l (kk N) [(i : Int)]).2.f0)).setCell ⟨(w1.heap.size + 1), 1, none⟩ (.slice Av4 (putR l (kk N) [(i : Int)]).2.f1.length cv4)).setCell ⟨(w1.heap.size + 1), 2, none⟩ (.int .i64 (putR l (kk N) [(i : Int)]).2.f2)) := ⟨_, rfl⟩
                rw [← hU4]
                have hv3_ := HV3.out
                replace HX := Aside0.mk (show Below w1.heap.size w1 U4 by rw [hU4]; exact ((HX.out.setCell (p := ⟨(w1.heap.size + 1), 0, none⟩) (by show w1.heap.size ≤ (w1.heap.size + 1); omega) _).setCell (p := ⟨(w1.heap.size + 1), 1, none⟩) (by show w1.heap.size ≤ (w1.heap.size + 1); omega) _).setCell (p := ⟨(w1.heap.size + 1), 2, none⟩) (by show w1.heap.size ≤ (w1.heap.size + 1); omega) _)
                replace HL0 := Aside0.mk (show U4.heap[w1.heap.size]? = some (.cells #[.int .u8 (i : Int)] 5 (0, 0)) by rw [hU4]; exact (keep_put3 _ _ _ _ _ _ _ _ _ (by omega)).trans HL0.out)
                replace P1 := Aside0.mk (show U4.heap[(w1.heap.size + 1)]? = some (.cells #[.int .i64 (putR l (kk N) [(i : Int)]).2.f0, .slice Av4 (putR l (kk N) [(i : Int)]).2.f1.length cv4, .int .i64 (putR l (kk N) [(i : Int)]).2.f2] 26 (0, 0)) by rw [hU4]; exact blk_put (cs := #[.int .i64 (putR l (kk N) [(i : Int)]).2.f0, .slice Av4 (putR l (kk N) [(i : Int)]).2.f1.length cv4, .int .i64 0]) (blk_put (cs := #[.int .i64 (putR l (kk N) [(i : Int)]).2.f0, .slice none 0 0, .int .i64 0]) (blk_put (cs := #[.int .i64 0, .slice none 0 0, .int .i64 0]) P1.out 0 _ rfl) 1 _ rfl) 2 _ rfl)
                replace P2 := Aside0.mk (show U4.heap[(w1.heap.size + 2)]? = some (.cells #[.int .i64 0, .slice none 0 0, .int .i64 0] 26 (0, 0)) by rw [hU4]; exact (keep_put3 _ _ _ _ _ _ _ _ _ (by omega)).trans P2.out)
                replace Fw4 := Aside0.mk (show Same _ _ U4 by rw [hU4]; exact Fw4.out.put3 (by have := LFw4.out; omega))
                replace ZFw4 := Aside0.mk (show _ ≤ U4.heap.size by rw [hU4, size3]; exact ZFw4.out)
                replace HLO := Aside0.mk (show _ ≤ U4.heap.size by rw [hU4, size3]; exact HLO.out)
                clear hU4 hv3_
                refine (put_x11 (l := l) (k := (kk N)) (v := [(i : Int)]) HLV.out Hn.out rfl rfl (Kd.C_below HCB.out HX.out) Hd.out (Kd.C_below HK.out HX.out) Hck.out (lit_u8 [(i : Int)] HL0.out (show 1 ≤ _ by decide) rfl) (Nat.le_refl 1)).mono ?_
                rintro e w5 ⟨A5, c5, Av5, cv5, rfl, hc5, hO5, hcv5, hV5, hb_⟩
                replace HX := Aside0.mk (below_then HX.out HX.out.size hb_)
                replace HL0 := Aside0.mk (blk3_keep HL0.out hb_)
                replace P1 := Aside0.mk (blk3_keep P1.out hb_)
                replace P2 := Aside0.mk (blk3_keep P2.out hb_)
                replace Fw4 := Aside0.mk (Fw4.out.step ZFw4.out hb_)
                replace ZFw4 := Aside0.mk (Nat.le_trans ZFw4.out hb_.size)
                have LFw5 := HLO
                have Fw5 := Aside0.mk (Same.refl U4 w5)
                have ZFw5 := Aside0.mk (Nat.le_refl w5.heap.size)
                replace HLO := Aside0.mk (Nat.le_trans HLO.out hb_.size)
                have O5 := Aside0.mk (show _ ∧ _ ∧ _ ∧ _ from ⟨hc5, hO5, hcv5, hV5⟩)
                clear hc5 hO5 hcv5 hV5 hb_
                obtain ⟨y0, y1, y2, y3⟩ := blk_cells3 P1.out
                have y30 := y3 0
                have y31 := y3 1
                have y32 := y3 2
                clear y3
                obtain ⟨x0, x1, x2, x3⟩ := blk_cells3 P2.out
                have x30 := x3 0
                have x31 := x3 1
                have x32 := x3 2
                clear x3
                go_wp2_with fail
                clear x0 x1 x2 x30 x31 x32
                clear y0 y1 y2 y30 y31 y32
                obtain ⟨U5, hU5⟩ : ∃ V_, V_ = (((w5.setCell ⟨(w1.heap.size + 2), 0, none⟩ (.int .i64 (putR l (kk N) [(i : Int)]).2.f0)).setCell ⟨(w1.heap.size + 2), 1, none⟩ (.slice Av5 (putR l (kk N) [(i : Int)]).2.f1.length cv5)).setCell ⟨(w1.heap.size + 2), 2, none⟩ (.int .i64 (putR l (kk N) [(i : Int)]).2.f2)) := ⟨_, rfl⟩
                rw [← hU5]
                have hv3_ := HV3.out
                replace HX := Aside0.mk (show Below w1.heap.size w1 U5 by rw [hU5]; exact ((HX.out.setCell (p := ⟨(w1.heap.size + 2), 0, none⟩) (by show w1.heap.size ≤ (w1.heap.size + 2); omega) _).setCell (p := ⟨(w1.heap.size + 2), 1, none⟩) (by show w1.heap.size ≤ (w1.heap.size + 2); omega) _).setCell (p := ⟨(w1.heap.size + 2), 2, none⟩) (by show w1.heap.size ≤ (w1.heap.size + 2); omega) _)
                replace HL0 := Aside0.mk (show U5.heap[w1.heap.size]? = some (.cells #[.int .u8 (i : Int)] 5 (0, 0)) by rw [hU5]; exact (keep_put3 _ _ _ _ _ _ _ _ _ (by omega)).trans HL0.out)
                replace P1 := Aside0.mk (show U5.heap[(w1.heap.size + 1)]? = some (.cells #[.int .i64 (putR l (kk N) [(i : Int)]).2.f0, .slice Av4 (putR l (kk N) [(i : Int)]).2.f1.length cv4, .int .i64 (putR l (kk N) [(i : Int)]).2.f2] 26 (0, 0)) by rw [hU5]; exact (keep_put3 _ _ _ _ _ _ _ _ _ (by omega)).trans P1.out)
                replace P2 := Aside0.mk (show U5.heap[(w1.heap.size + 2)]? = some (.cells #[.int .i64 (putR l (kk N) [(i : Int)]).2.f0, .slice Av5 (putR l (kk N) [(i : Int)]).2.f1.length cv5, .int .i64 (putR l (kk N) [(i : Int)]).2.f2] 26 (0, 0)) by rw [hU5]; exact blk_put (cs := #[.int .i64 (putR l (kk N) [(i : Int)]).2.f0, .slice Av5 (putR l (kk N) [(i : Int)]).2.f1.length cv5, .int .i64 0]) (blk_put (cs := #[.int .i64 (putR l (kk N) [(i : Int)]).2.f0, .slice none 0 0, .int .i64 0]) (blk_put (cs := #[.int .i64 0, .slice none 0 0, .int .i64 0]) P2.out 0 _ rfl) 1 _ rfl) 2 _ rfl)
                replace Fw4 := Aside0.mk (show Same _ _ U5 by rw [hU5]; exact Fw4.out.put3 (by have := LFw4.out; omega))
                replace ZFw4 := Aside0.mk (show _ ≤ U5.heap.size by rw [hU5, size3]; exact ZFw4.out)
                replace Fw5 := Aside0.mk (show Same _ _ U5 by rw [hU5]; exact Fw5.out.put3 (by have := LFw5.out; omega))
                replace ZFw5 := Aside0.mk (show _ ≤ U5.heap.size by rw [hU5, size3]; exact ZFw5.out)
                replace HLO := Aside0.mk (show _ ≤ U5.heap.size by rw [hU5, size3]; exact HLO.out)
                clear hU5 hv3_
                refine (same15 (r := (putR l (kk N) [(i : Int)]).2) rfl (O4.out.2.2.2 _ Fw4.out.at) O4.out.2.2.1 (O5.out.2.2.2 _ Fw5.out.at) O5.out.2.2.1).mono ?_
                rintro e w6 ⟨rfl, hb_⟩
                have C4 := Aside0.mk (Kd.C_below (O4.out.2.1 _ Fw4.out.at) hb_)
                have C5 := Aside0.mk (Kd.C_below (O5.out.2.1 _ Fw5.out.at) hb_)
                replace HX := Aside0.mk (below_then HX.out HX.out.size hb_)
                clear hb_
                go_wp2_with fail
                refine (same7 A4 A5 c4 c5 (putR l (kk N) [(i : Int)]).1.length (putR l (kk N) [(i : Int)]).1 w6 rfl C4.out C5.out).mono ?_
                rintro e w7 ⟨rfl, hb_⟩
                have HPI := Aside0.mk (show PI w (putR l (kk N) [(i : Int)]).1.length A4 c4 A5 c5 w7 from ⟨(putR l (kk N) [(i : Int)]).1, (lv_put HLV.out).1, rfl, O4.out.1, O5.out.1, Kd.C_below C4.out hb_, Kd.C_below C5.out hb_, below_then (below_then HW1.out HW1.out.size HX.out) (Nat.le_trans HW1.out.size HX.out.size) hb_⟩)
                clear hb_
                go_wp2_with fail
                go_roundw
                case rel => exact ⟨i + 1, (putR l (kk N) [(i : Int)]).1.length, A4, c4, A5, c5, by go_num, rfl, rfl, by omega, HPI⟩
                case measure => simp [intOf]; omega
              · skip
                have k2 := cell_old HB.out HVA.out
                have k3 := cell_old (below_alloc (Below.refl w1.heap.size w1) (.cells #[.int .u8 (i : Int)] 5)) k2
                have k4 := cell_old (below_alloc (below_alloc (below_alloc (Below.refl w1.heap.size w1) (.cells #[.int .u8 (i : Int)] 5)) (.cells #[.int .i64 0, .slice none 0 0, .int .i64 0] 26)) (.cells #[.int .i64 0, .slice none 0 0, .int .i64 0] 26)) k2
                have d4 : decide ((0 : Int) < (vs.length : Int)) = false := decide_eq_false (by omega)
                have d6 : decide (0 < vs.length) = false := decide_eq_false (by omega)
                clear hv0
                have hq : Go.bits .and .i64 va 3 = 2 := by assumption
                have HW1 := HB
                go_wp2_with fail
                clear k2 k3 k4 hq d4 d6
                have HX := Aside0.mk (Below.refl w1.heap.size w1)
                obtain ⟨V3, hV3⟩ : ∃ V_, V_ = (((w1.alloc (.cells #[.int .u8 (i : Int)] 5)).alloc (.cells #[.int .i64 0, .slice none 0 0, .int .i64 0] 26)).alloc (.cells #[.int .i64 0, .slice none 0 0, .int .i64 0] 26)) := ⟨_, rfl⟩
                rw [← hV3]
                replace HX := Aside0.mk (show Below w1.heap.size w1 V3 by rw [hV3]; exact (below_alloc (below_alloc (below_alloc (Below.refl w1.heap.size w1) (.cells #[.int .u8 (i : Int)] 5)) (.cells #[.int .i64 0, .slice none 0 0, .int .i64 0] 26)) (.cells #[.int .i64 0, .slice none 0 0, .int .i64 0] 26)))
                have HL0 : Aside0 (V3.heap[w1.heap.size]? = some (.cells #[.int .u8 (i : Int)] 5 (0, 0))) := Aside0.mk (by rw [hV3]; have h_ := blk_alloc (blk_alloc (heap_alloc_self w1 (.cells #[.int .u8 (i : Int)] 5)) (.cells #[.int .i64 0, .slice none 0 0, .int .i64 0] 26)) (.cells #[.int .i64 0, .slice none 0 0, .int .i64 0] 26); simpa using h_)
                have P1 : Aside0 (V3.heap[(w1.heap.size + 1)]? = some (.cells #[.int .i64 0, .slice none 0 0, .int .i64 0] 26 (0, 0))) := Aside0.mk (by rw [hV3]; have h_ := blk_alloc (heap_alloc_self (w1.alloc (.cells #[.int .u8 (i : Int)] 5)) (.cells #[.int .i64 0, .slice none 0 0, .int .i64 0] 26)) (.cells #[.int .i64 0, .slice none 0 0, .int .i64 0] 26); simpa using h_)
                have P2 : Aside0 (V3.heap[(w1.heap.size + 2)]? = some (.cells #[.int .i64 0, .slice none 0 0, .int .i64 0] 26 (0, 0))) := Aside0.mk (by rw [hV3]; have h_ := heap_alloc_self ((w1.alloc (.cells #[.int .u8 (i : Int)] 5)).alloc (.cells #[.int .i64 0, .slice none 0 0, .int .i64 0] 26)) (.cells #[.int .i64 0, .slice none 0 0, .int .i64 0] 26); simpa using h_)
                have HV3 : Aside0 (V3.heap.size = w1.heap.size + 3) := Aside0.mk (by rw [hV3]; simp)
                have HLO := Aside0.mk (Nat.le_refl V3.heap.size)
                clear hV3
                refine (del_x12 (l := l) (k := (kk N)) HLV.out Hn.out rfl (Kd.C_below HCA.out HX.out) Hc.out (Kd.C_below HK.out HX.out) Hck.out).mono ?_
                rintro e w4 ⟨A4, c4, Av4, cv4, rfl, hc4, hO4, hcv4, hV4, hb_⟩
                replace HX := Aside0.mk (below_then HX.out HX.out.size hb_)
                replace HL0 := Aside0.mk (blk3_keep HL0.out hb_)
                replace P1 := Aside0.mk (blk3_keep P1.out hb_)
                replace P2 := Aside0.mk (blk3_keep P2.out hb_)
                have LFw4 := HLO
                have Fw4 := Aside0.mk (Same.refl V3 w4)
                have ZFw4 := Aside0.mk (Nat.le_refl w4.heap.size)
                replace HLO := Aside0.mk (Nat.le_trans HLO.out hb_.size)
                have O4 := Aside0.mk (show _ ∧ _ ∧ _ ∧ _ from ⟨hc4, hO4, hcv4, hV4⟩)
                clear hc4 hO4 hcv4 hV4 hb_
                obtain ⟨x0, x1, x2, x3⟩ := blk_cells3 P1.out
                have x30 := x3 0
                have x31 := x3 1
                have x32 := x3 2
                clear x3
                go_wp2_with fail
                clear x0 x1 x2 x30 x31 x32
                obtain ⟨U4, hU4⟩ : ∃ V_, V_ = (((w4.setCell ⟨(w1.heap.size + 1), 0, none⟩ (.int .i64 (delR l (kk N)).2.f0)).setCell ⟨(w1.heap.size + 1), 1, none⟩ (.slice Av4 (delR l (kk N)).2.f1.length cv4)).setCell ⟨(w1.heap.size + 1), 2, none⟩ (.int .i64 (delR l (kk N)).2.f2)) := ⟨_, rfl⟩
                rw [← hU4]
                have hv3_ := HV3.out
                replace HX := Aside0.mk (show Below w1.heap.size w1 U4 by rw [hU4]; exact ((HX.out.setCell (p := ⟨(w1.heap.size + 1), 0, none⟩) (by show w1.heap.size ≤ (w1.heap.size + 1); omega) _).setCell (p := ⟨(w1.heap.size + 1), 1, none⟩) (by show w1.heap.size ≤ (w1.heap.size + 1); omega) _).setCell (p := ⟨(w1.heap.size + 1), 2, none⟩) (by show w1.heap.size ≤ (w1.heap.size + 1); omega) _)
                replace HL0 := Aside0.mk (show U4.heap[w1.heap.size]? = some (.cells #[.int .u8 (i : Int)] 5 (0, 0)) by rw [hU4]; exact (keep_put3 _ _ _ _ _ _ _ _ _ (by omega)).trans HL0.out)
                replace P1 := Aside0.mk (show U4.heap[(w1.heap.size + 1)]? = some (.cells #[.int .i64 (delR l (kk N)).2.f0, .slice Av4 (delR l (kk N)).2.f1.length cv4, .int .i64 (delR l (kk N)).2.f2] 26 (0, 0)) by rw [hU4]; exact blk_put (cs := #[.int .i64 (delR l (kk N)).2.f0, .slice Av4 (delR l (kk N)).2.f1.length cv4, .int .i64 0]) (blk_put (cs := #[.int .i64 (delR l (kk N)).2.f0, .slice none 0 0, .int .i64 0]) (blk_put (cs := #[.int .i64 0, .slice none 0 0, .int .i64 0]) P1.out 0 _ rfl) 1 _ rfl) 2 _ rfl)
                replace P2 := Aside0.mk (show U4.heap[(w1.heap.size + 2)]? = some (.cells #[.int .i64 0, .slice none 0 0, .int .i64 0] 26 (0, 0)) by rw [hU4]; exact (keep_put3 _ _ _ _ _ _ _ _ _ (by omega)).trans P2.out)
                replace Fw4 := Aside0.mk (show Same _ _ U4 by rw [hU4]; exact Fw4.out.put3 (by have := LFw4.out; omega))
                replace ZFw4 := Aside0.mk (show _ ≤ U4.heap.size by rw [hU4, size3]; exact ZFw4.out)
                replace HLO := Aside0.mk (show _ ≤ U4.heap.size by rw [hU4, size3]; exact HLO.out)
                clear hU4 hv3_
                refine (del_x13 (l := l) (k := (kk N)) HLV.out Hn.out rfl (Kd.C_below HCB.out HX.out) Hd.out (Kd.C_below HK.out HX.out) Hck.out).mono ?_
                rintro e w5 ⟨A5, c5, Av5, cv5, rfl, hc5, hO5, hcv5, hV5, hb_⟩
                replace HX := Aside0.mk (below_then HX.out HX.out.size hb_)
                replace HL0 := Aside0.mk (blk3_keep HL0.out hb_)
                replace P1 := Aside0.mk (blk3_keep P1.out hb_)
                replace P2 := Aside0.mk (blk3_keep P2.out hb_)
                replace Fw4 := Aside0.mk (Fw4.out.step ZFw4.out hb_)
                replace ZFw4 := Aside0.mk (Nat.le_trans ZFw4.out hb_.size)
                have LFw5 := HLO
                have Fw5 := Aside0.mk (Same.refl U4 w5)
                have ZFw5 := Aside0.mk (Nat.le_refl w5.heap.size)
                replace HLO := Aside0.mk (Nat.le_trans HLO.out hb_.size)
                have O5 := Aside0.mk (show _ ∧ _ ∧ _ ∧ _ from ⟨hc5, hO5, hcv5, hV5⟩)
                clear hc5 hO5 hcv5 hV5 hb_
                obtain ⟨y0, y1, y2, y3⟩ := blk_cells3 P1.out
                have y30 := y3 0
                have y31 := y3 1
                have y32 := y3 2
                clear y3
                obtain ⟨x0, x1, x2, x3⟩ := blk_cells3 P2.out
                have x30 := x3 0
                have x31 := x3 1
                have x32 := x3 2
                clear x3
                go_wp2_with fail
                clear x0 x1 x2 x30 x31 x32
                clear y0 y1 y2 y30 y31 y32
                obtain ⟨U5, hU5⟩ : ∃ V_, V_ = (((w5.setCell ⟨(w1.heap.size + 2), 0, none⟩ (.int .i64 (delR l (kk N)).2.f0)).setCell ⟨(w1.heap.size + 2), 1, none⟩ (.slice Av5 (delR l (kk N)).2.f1.length cv5)).setCell ⟨(w1.heap.size + 2), 2, none⟩ (.int .i64 (delR l (kk N)).2.f2)) := ⟨_, rfl⟩
                rw [← hU5]
                have hv3_ := HV3.out
                replace HX := Aside0.mk (show Below w1.heap.size w1 U5 by rw [hU5]; exact ((HX.out.setCell (p := ⟨(w1.heap.size + 2), 0, none⟩) (by show w1.heap.size ≤ (w1.heap.size + 2); omega) _).setCell (p := ⟨(w1.heap.size + 2), 1, none⟩) (by show w1.heap.size ≤ (w1.heap.size + 2); omega) _).setCell (p := ⟨(w1.heap.size + 2), 2, none⟩) (by show w1.heap.size ≤ (w1.heap.size + 2); omega) _)
                replace HL0 := Aside0.mk (show U5.heap[w1.heap.size]? = some (.cells #[.int .u8 (i : Int)] 5 (0, 0)) by rw [hU5]; exact (keep_put3 _ _ _ _ _ _ _ _ _ (by omega)).trans HL0.out)
                replace P1 := Aside0.mk (show U5.heap[(w1.heap.size + 1)]? = some (.cells #[.int .i64 (delR l (kk N)).2.f0, .slice Av4 (delR l (kk N)).2.f1.length cv4, .int .i64 (delR l (kk N)).2.f2] 26 (0, 0)) by rw [hU5]; exact (keep_put3 _ _ _ _ _ _ _ _ _ (by omega)).trans P1.out)
                replace P2 := Aside0.mk (show U5.heap[(w1.heap.size + 2)]? = some (.cells #[.int .i64 (delR l (kk N)).2.f0, .slice Av5 (delR l (kk N)).2.f1.length cv5, .int .i64 (delR l (kk N)).2.f2] 26 (0, 0)) by rw [hU5]; exact blk_put (cs := #[.int .i64 (delR l (kk N)).2.f0, .slice Av5 (delR l (kk N)).2.f1.length cv5, .int .i64 0]) (blk_put (cs := #[.int .i64 (delR l (kk N)).2.f0, .slice none 0 0, .int .i64 0]) (blk_put (cs := #[.int .i64 0, .slice none 0 0, .int .i64 0]) P2.out 0 _ rfl) 1 _ rfl) 2 _ rfl)
                replace Fw4 := Aside0.mk (show Same _ _ U5 by rw [hU5]; exact Fw4.out.put3 (by have := LFw4.out; omega))
                replace ZFw4 := Aside0.mk (show _ ≤ U5.heap.size by rw [hU5, size3]; exact ZFw4.out)
                replace Fw5 := Aside0.mk (show Same _ _ U5 by rw [hU5]; exact Fw5.out.put3 (by have := LFw5.out; omega))
                replace ZFw5 := Aside0.mk (show _ ≤ U5.heap.size by rw [hU5, size3]; exact ZFw5.out)
                replace HLO := Aside0.mk (show _ ≤ U5.heap.size by rw [hU5, size3]; exact HLO.out)
                clear hU5 hv3_
                refine (same15 (r := (delR l (kk N)).2) rfl (O4.out.2.2.2 _ Fw4.out.at) O4.out.2.2.1 (O5.out.2.2.2 _ Fw5.out.at) O5.out.2.2.1).mono ?_
                rintro e w6 ⟨rfl, hb_⟩
                have C4 := Aside0.mk (Kd.C_below (O4.out.2.1 _ Fw4.out.at) hb_)
                have C5 := Aside0.mk (Kd.C_below (O5.out.2.1 _ Fw5.out.at) hb_)
                replace HX := Aside0.mk (below_then HX.out HX.out.size hb_)
                clear hb_
                go_wp2_with fail
                refine (same7 A4 A5 c4 c5 (delR l (kk N)).1.length (delR l (kk N)).1 w6 rfl C4.out C5.out).mono ?_
                rintro e w7 ⟨rfl, hb_⟩
                have HPI := Aside0.mk (show PI w (delR l (kk N)).1.length A4 c4 A5 c5 w7 from ⟨(delR l (kk N)).1, (lv_del HLV.out).1, rfl, O4.out.1, O5.out.1, Kd.C_below C4.out hb_, Kd.C_below C5.out hb_, below_then (below_then HW1.out HW1.out.size HX.out) (Nat.le_trans HW1.out.size HX.out.size) hb_⟩)
                clear hb_
                go_wp2_with fail
                go_roundw
                case rel => exact ⟨i + 1, (delR l (kk N)).1.length, A4, c4, A5, c5, by go_num, rfl, rfl, by omega, HPI⟩
                case measure => simp [intOf]; omega
              · skip
                have k2 := cell_old HB.out HVA.out
                have k3 := cell_old (below_alloc (Below.refl w1.heap.size w1) (.cells #[.int .u8 (i : Int)] 5)) k2
                have k4 := cell_old (below_alloc (below_alloc (below_alloc (Below.refl w1.heap.size w1) (.cells #[.int .u8 (i : Int)] 5)) (.cells #[.int .i64 0, .slice none 0 0, .int .i64 0] 26)) (.cells #[.int .i64 0, .slice none 0 0, .int .i64 0] 26)) k2
                have d4 : decide ((0 : Int) < (vs.length : Int)) = false := decide_eq_false (by omega)
                have d6 : decide (0 < vs.length) = false := decide_eq_false (by omega)
                clear hv0
                have hq : Go.bits .and .i64 va 3 = 3 := by assumption
                have HW1 := HB
                go_wp2_with fail
                clear k2 k3 k4 hq d4 d6
                have HX := Aside0.mk (Below.refl w1.heap.size w1)
                obtain ⟨V3, hV3⟩ : ∃ V_, V_ = (((w1.alloc (.cells #[.int .u8 (i : Int)] 5)).alloc (.cells #[.int .i64 0, .slice none 0 0, .int .i64 0] 26)).alloc (.cells #[.int .i64 0, .slice none 0 0, .int .i64 0] 26)) := ⟨_, rfl⟩
                rw [← hV3]
                replace HX := Aside0.mk (show Below w1.heap.size w1 V3 by rw [hV3]; exact (below_alloc (below_alloc (below_alloc (Below.refl w1.heap.size w1) (.cells #[.int .u8 (i : Int)] 5)) (.cells #[.int .i64 0, .slice none 0 0, .int .i64 0] 26)) (.cells #[.int .i64 0, .slice none 0 0, .int .i64 0] 26)))
                have HL0 : Aside0 (V3.heap[w1.heap.size]? = some (.cells #[.int .u8 (i : Int)] 5 (0, 0))) := Aside0.mk (by rw [hV3]; have h_ := blk_alloc (blk_alloc (heap_alloc_self w1 (.cells #[.int .u8 (i : Int)] 5)) (.cells #[.int .i64 0, .slice none 0 0, .int .i64 0] 26)) (.cells #[.int .i64 0, .slice none 0 0, .int .i64 0] 26); simpa using h_)
                have P1 : Aside0 (V3.heap[(w1.heap.size + 1)]? = some (.cells #[.int .i64 0, .slice none 0 0, .int .i64 0] 26 (0, 0))) := Aside0.mk (by rw [hV3]; have h_ := blk_alloc (heap_alloc_self (w1.alloc (.cells #[.int .u8 (i : Int)] 5)) (.cells #[.int .i64 0, .slice none 0 0, .int .i64 0] 26)) (.cells #[.int .i64 0, .slice none 0 0, .int .i64 0] 26); simpa using h_)
                have P2 : Aside0 (V3.heap[(w1.heap.size + 2)]? = some (.cells #[.int .i64 0, .slice none 0 0, .int .i64 0] 26 (0, 0))) := Aside0.mk (by rw [hV3]; have h_ := heap_alloc_self ((w1.alloc (.cells #[.int .u8 (i : Int)] 5)).alloc (.cells #[.int .i64 0, .slice none 0 0, .int .i64 0] 26)) (.cells #[.int .i64 0, .slice none 0 0, .int .i64 0] 26); simpa using h_)
                have HV3 : Aside0 (V3.heap.size = w1.heap.size + 3) := Aside0.mk (by rw [hV3]; simp)
                have HLO := Aside0.mk (Nat.le_refl V3.heap.size)
                clear hV3
                refine (get_x8 (l := l) (k := (kk N)) HLV.out Hn.out rfl (Kd.C_below HCA.out HX.out) Hc.out (Kd.C_below HK.out HX.out) Hck.out).mono ?_
                rintro e w4 ⟨Av4, cv4, rfl, hcv4, hV4, hb_⟩
                replace HX := Aside0.mk (below_then HX.out HX.out.size hb_)
                replace HL0 := Aside0.mk (blk3_keep HL0.out hb_)
                replace P1 := Aside0.mk (blk3_keep P1.out hb_)
                replace P2 := Aside0.mk (blk3_keep P2.out hb_)
                have LFw4 := HLO
                have Fw4 := Aside0.mk (Same.refl V3 w4)
                have ZFw4 := Aside0.mk (Nat.le_refl w4.heap.size)
                replace HLO := Aside0.mk (Nat.le_trans HLO.out hb_.size)
                have O4 := Aside0.mk (show _ ∧ _ from ⟨hcv4, hV4⟩)
                clear hcv4 hV4 hb_
                go_wp2_with fail
                refine (get_x14 (l := l) (k := (kk N)) HLV.out Hn.out rfl (Kd.C_below HCB.out HX.out) Hd.out (Kd.C_below HK.out HX.out) Hck.out).mono ?_
                rintro e w5 ⟨Av5, cv5, rfl, hcv5, hV5, hb_⟩
                replace HX := Aside0.mk (below_then HX.out HX.out.size hb_)
                replace HL0 := Aside0.mk (blk3_keep HL0.out hb_)
                replace P1 := Aside0.mk (blk3_keep P1.out hb_)
                replace P2 := Aside0.mk (blk3_keep P2.out hb_)
                replace Fw4 := Aside0.mk (Fw4.out.step ZFw4.out hb_)
                replace ZFw4 := Aside0.mk (Nat.le_trans ZFw4.out hb_.size)
                have LFw5 := HLO
                have Fw5 := Aside0.mk (Same.refl w4 w5)
                have ZFw5 := Aside0.mk (Nat.le_refl w5.heap.size)
                replace HLO := Aside0.mk (Nat.le_trans HLO.out hb_.size)
                have O5 := Aside0.mk (show _ ∧ _ from ⟨hcv5, hV5⟩)
                clear hcv5 hV5 hb_
                obtain ⟨y0, y1, y2, y3⟩ := blk_cells3 P1.out
                have y30 := y3 0
                have y31 := y3 1
                have y32 := y3 2
                clear y3
                obtain ⟨x0, x1, x2, x3⟩ := blk_cells3 P2.out
                have x30 := x3 0
                have x31 := x3 1
                have x32 := x3 2
                clear x3
                go_wp2_with fail
                clear x0 x1 x2 x30 x31 x32
                clear y0 y1 y2 y30 y31 y32
                obtain ⟨U4, hU4⟩ : ∃ V_, V_ = (((w5.setCell ⟨(w1.heap.size + 1), 0, none⟩ (.int .i64 (getR l (kk N)).f0)).setCell ⟨(w1.heap.size + 1), 1, none⟩ (.slice Av4 (getR l (kk N)).f1.length cv4)).setCell ⟨(w1.heap.size + 1), 2, none⟩ (.int .i64 (getR l (kk N)).f2)) := ⟨_, rfl⟩
                rw [← hU4]
                have hv3_ := HV3.out
                replace HX := Aside0.mk (show Below w1.heap.size w1 U4 by rw [hU4]; exact ((HX.out.setCell (p := ⟨(w1.heap.size + 1), 0, none⟩) (by show w1.heap.size ≤ (w1.heap.size + 1); omega) _).setCell (p := ⟨(w1.heap.size + 1), 1, none⟩) (by show w1.heap.size ≤ (w1.heap.size + 1); omega) _).setCell (p := ⟨(w1.heap.size + 1), 2, none⟩) (by show w1.heap.size ≤ (w1.heap.size + 1); omega) _)
                replace HL0 := Aside0.mk (show U4.heap[w1.heap.size]? = some (.cells #[.int .u8 (i : Int)] 5 (0, 0)) by rw [hU4]; exact (keep_put3 _ _ _ _ _ _ _ _ _ (by omega)).trans HL0.out)
                replace P1 := Aside0.mk (show U4.heap[(w1.heap.size + 1)]? = some (.cells #[.int .i64 (getR l (kk N)).f0, .slice Av4 (getR l (kk N)).f1.length cv4, .int .i64 (getR l (kk N)).f2] 26 (0, 0)) by rw [hU4]; exact blk_put (cs := #[.int .i64 (getR l (kk N)).f0, .slice Av4 (getR l (kk N)).f1.length cv4, .int .i64 0]) (blk_put (cs := #[.int .i64 (getR l (kk N)).f0, .slice none 0 0, .int .i64 0]) (blk_put (cs := #[.int .i64 0, .slice none 0 0, .int .i64 0]) P1.out 0 _ rfl) 1 _ rfl) 2 _ rfl)
                replace P2 := Aside0.mk (show U4.heap[(w1.heap.size + 2)]? = some (.cells #[.int .i64 0, .slice none 0 0, .int .i64 0] 26 (0, 0)) by rw [hU4]; exact (keep_put3 _ _ _ _ _ _ _ _ _ (by omega)).trans P2.out)
                replace Fw4 := Aside0.mk (show Same _ _ U4 by rw [hU4]; exact Fw4.out.put3 (by have := LFw4.out; omega))
                replace ZFw4 := Aside0.mk (show _ ≤ U4.heap.size by rw [hU4, size3]; exact ZFw4.out)
                replace Fw5 := Aside0.mk (show Same _ _ U4 by rw [hU4]; exact Fw5.out.put3 (by have := LFw5.out; omega))
                replace ZFw5 := Aside0.mk (show _ ≤ U4.heap.size by rw [hU4, size3]; exact ZFw5.out)
                replace HLO := Aside0.mk (show _ ≤ U4.heap.size by rw [hU4, size3]; exact HLO.out)
                clear hU4 hv3_
                obtain ⟨U5, hU5⟩ : ∃ V_, V_ = (((U4.setCell ⟨(w1.heap.size + 2), 0, none⟩ (.int .i64 (getR l (kk N)).f0)).setCell ⟨(w1.heap.size + 2), 1, none⟩ (.slice Av5 (getR l (kk N)).f1.length cv5)).setCell ⟨(w1.heap.size + 2), 2, none⟩ (.int .i64 (getR l (kk N)).f2)) := ⟨_, rfl⟩
                rw [← hU5]
                have hv3_ := HV3.out
                replace HX := Aside0.mk (show Below w1.heap.size w1 U5 by rw [hU5]; exact ((HX.out.setCell (p := ⟨(w1.heap.size + 2), 0, none⟩) (by show w1.heap.size ≤ (w1.heap.size + 2); omega) _).setCell (p := ⟨(w1.heap.size + 2), 1, none⟩) (by show w1.heap.size ≤ (w1.heap.size + 2); omega) _).setCell (p := ⟨(w1.heap.size + 2), 2, none⟩) (by show w1.heap.size ≤ (w1.heap.size + 2); omega) _)
                replace HL0 := Aside0.mk (show U5.heap[w1.heap.size]? = some (.cells #[.int .u8 (i : Int)] 5 (0, 0)) by rw [hU5]; exact (keep_put3 _ _ _ _ _ _ _ _ _ (by omega)).trans HL0.out)
                replace P1 := Aside0.mk (show U5.heap[(w1.heap.size + 1)]? = some (.cells #[.int .i64 (getR l (kk N)).f0, .slice Av4 (getR l (kk N)).f1.length cv4, .int .i64 (getR l (kk N)).f2] 26 (0, 0)) by rw [hU5]; exact (keep_put3 _ _ _ _ _ _ _ _ _ (by omega)).trans P1.out)
                replace P2 := Aside0.mk (show U5.heap[(w1.heap.size + 2)]? = some (.cells #[.int .i64 (getR l (kk N)).f0, .slice Av5 (getR l (kk N)).f1.length cv5, .int .i64 (getR l (kk N)).f2] 26 (0, 0)) by rw [hU5]; exact blk_put (cs := #[.int .i64 (getR l (kk N)).f0, .slice Av5 (getR l (kk N)).f1.length cv5, .int .i64 0]) (blk_put (cs := #[.int .i64 (getR l (kk N)).f0, .slice none 0 0, .int .i64 0]) (blk_put (cs := #[.int .i64 0, .slice none 0 0, .int .i64 0]) P2.out 0 _ rfl) 1 _ rfl) 2 _ rfl)
                replace Fw4 := Aside0.mk (show Same _ _ U5 by rw [hU5]; exact Fw4.out.put3 (by have := LFw4.out; omega))
                replace ZFw4 := Aside0.mk (show _ ≤ U5.heap.size by rw [hU5, size3]; exact ZFw4.out)
                replace Fw5 := Aside0.mk (show Same _ _ U5 by rw [hU5]; exact Fw5.out.put3 (by have := LFw5.out; omega))
                replace ZFw5 := Aside0.mk (show _ ≤ U5.heap.size by rw [hU5, size3]; exact ZFw5.out)
                replace HLO := Aside0.mk (show _ ≤ U5.heap.size by rw [hU5, size3]; exact HLO.out)
                clear hU5 hv3_
                refine (same15 (r := (getR l (kk N))) rfl (O4.out.2 _ Fw4.out.at) O4.out.1 (O5.out.2 _ Fw5.out.at) O5.out.1).mono ?_
                rintro e w6 ⟨rfl, hb_⟩
                replace HX := Aside0.mk (below_then HX.out HX.out.size hb_)
                clear hb_
                have C4 := Aside0.mk (Kd.C_below HCA.out HX.out)
                have C5 := Aside0.mk (Kd.C_below HCB.out HX.out)
                go_wp2_with fail
                refine (same7 A B c d n l w6 Hn.out C4.out C5.out).mono ?_
                rintro e w7 ⟨rfl, hb_⟩
                have HPI := Aside0.mk (show PI w n A c B d w7 from ⟨l, HLV.out, Hn.out, Hc.out, Hd.out, Kd.C_below C4.out hb_, Kd.C_below C5.out hb_, below_then (below_then HW1.out HW1.out.size HX.out) (Nat.le_trans HW1.out.size HX.out.size) hb_⟩)
                clear hb_
                go_wp2_with fail
                go_roundw
                case rel => exact ⟨i + 1, n, A, c, B, d, by go_num, rfl, rfl, by omega, HPI⟩
                case measure => simp [intOf]; omega
            · rcases hq4 with rfl | rfl | rfl | rfl
              · skip
                have k2 := cell_old HB.out HVA.out
                have k3 := cell_old (below_alloc (Below.refl w1.heap.size w1) (.cells #[.int .u8 (i : Int)] 5)) k2
                have k4 := cell_old (below_alloc (below_alloc (below_alloc (Below.refl w1.heap.size w1) (.cells #[.int .u8 (i : Int)] 5)) (.cells #[.int .i64 0, .slice none 0 0, .int .i64 0] 26)) (.cells #[.int .i64 0, .slice none 0 0, .int .i64 0] 26)) k2
                have d4 : decide ((0 : Int) < (vs.length : Int)) = true := decide_eq_true (by omega)
                have d5 : ¬ ((vs.length : Int) = 0) := by omega
                obtain ⟨m, hm, hml⟩ : ∃ m : Nat, Int.tmod (Go.bits .and .i64 (va / 64) 255) (vs.length : Int) = (m : Int) ∧ m < vs.length := by
                  obtain ⟨t, ht, _⟩ := bits_lt (va / 64) 8 255 255 rfl (by decide) (by decide)
                  rw [ht]
                  have h2 := Int.tmod_lt_of_pos (t : Int) (show (0 : Int) < (vs.length : Int) by omega)
                  have h3 := Int.tmod_nonneg (vs.length : Int) (show (0 : Int) ≤ (t : Int) by omega)
                  exact ⟨(Int.tmod (t : Int) (vs.length : Int)).toNat, by omega, by omega⟩
                obtain ⟨bd, D, f, eb, h0, l0, gD⟩ := at_L1 (Kd.C_below HVS.out HB.out) (m : Int) (by omega) (by omega)
                cases eb
                simp only [Int.toNat_natCast] at h0
                have k5 := cell_old (below_alloc (Below.refl w1.heap.size w1) (.cells #[.int .u8 (i : Int)] 5)) h0
                have HD := Aside0.mk gD
                have HDf := Aside0.mk l0
                have H60 := Aside0.mk (HL.out m hml)
                clear gD l0 h0
                have hq : Go.bits .and .i64 va 3 = 0 := by assumption
                have HW1 := HB
                go_wp2_with fail
                clear k2 k3 k4 hq d4 hm d5 k5
                have HX := Aside0.mk (Below.refl w1.heap.size w1)
                obtain ⟨V3, hV3⟩ : ∃ V_, V_ = (((w1.alloc (.cells #[.int .u8 (i : Int)] 5)).alloc (.cells #[.int .i64 0, .slice none 0 0, .int .i64 0] 26)).alloc (.cells #[.int .i64 0, .slice none 0 0, .int .i64 0] 26)) := ⟨_, rfl⟩
                rw [← hV3]
                replace HX := Aside0.mk (show Below w1.heap.size w1 V3 by rw [hV3]; exact (below_alloc (below_alloc (below_alloc (Below.refl w1.heap.size w1) (.cells #[.int .u8 (i : Int)] 5)) (.cells #[.int .i64 0, .slice none 0 0, .int .i64 0] 26)) (.cells #[.int .i64 0, .slice none 0 0, .int .i64 0] 26)))
                have HL0 : Aside0 (V3.heap[w1.heap.size]? = some (.cells #[.int .u8 (i : Int)] 5 (0, 0))) := Aside0.mk (by rw [hV3]; have h_ := blk_alloc (blk_alloc (heap_alloc_self w1 (.cells #[.int .u8 (i : Int)] 5)) (.cells #[.int .i64 0, .slice none 0 0, .int .i64 0] 26)) (.cells #[.int .i64 0, .slice none 0 0, .int .i64 0] 26); simpa using h_)
                have P1 : Aside0 (V3.heap[(w1.heap.size + 1)]? = some (.cells #[.int .i64 0, .slice none 0 0, .int .i64 0] 26 (0, 0))) := Aside0.mk (by rw [hV3]; have h_ := blk_alloc (heap_alloc_self (w1.alloc (.cells #[.int .u8 (i : Int)] 5)) (.cells #[.int .i64 0, .slice none 0 0, .int .i64 0] 26)) (.cells #[.int .i64 0, .slice none 0 0, .int .i64 0] 26); simpa using h_)
                have P2 : Aside0 (V3.heap[(w1.heap.size + 2)]? = some (.cells #[.int .i64 0, .slice none 0 0, .int .i64 0] 26 (0, 0))) := Aside0.mk (by rw [hV3]; have h_ := heap_alloc_self ((w1.alloc (.cells #[.int .u8 (i : Int)] 5)).alloc (.cells #[.int .i64 0, .slice none 0 0, .int .i64 0] 26)) (.cells #[.int .i64 0, .slice none 0 0, .int .i64 0] 26); simpa using h_)
                have HV3 : Aside0 (V3.heap.size = w1.heap.size + 3) := Aside0.mk (by rw [hV3]; simp)
                have HLO := Aside0.mk (Nat.le_refl V3.heap.size)
                clear hV3
                refine (put_x6 (l := l) (k := (kk N)) (v := (rd_L1 vs (m : Int))) HLV.out Hn.out rfl rfl (Kd.C_below HCA.out HX.out) Hc.out (Kd.C_below HK.out HX.out) Hck.out (Kd.C_below HD.out HX.out) HDf.out).mono ?_
                rintro e w4 ⟨A4, c4, Av4, cv4, rfl, hc4, hO4, hcv4, hV4, hb_⟩
                replace HX := Aside0.mk (below_then HX.out HX.out.size hb_)
                replace HL0 := Aside0.mk (blk3_keep HL0.out hb_)
                replace P1 := Aside0.mk (blk3_keep P1.out hb_)
                replace P2 := Aside0.mk (blk3_keep P2.out hb_)
                have LFw4 := HLO
                have Fw4 := Aside0.mk (Same.refl V3 w4)
                have ZFw4 := Aside0.mk (Nat.le_refl w4.heap.size)
                replace HLO := Aside0.mk (Nat.le_trans HLO.out hb_.size)
                have O4 := Aside0.mk (show _ ∧ _ ∧ _ ∧ _ from ⟨hc4, hO4, hcv4, hV4⟩)
                clear hc4 hO4 hcv4 hV4 hb_
                obtain ⟨x0, x1, x2, x3⟩ := blk_cells3 P1.out
                have x30 := x3 0
                have x31 := x3 1
                have x32 := x3 2
                clear x3
                go_wp2_with fail
                clear x0 x1 x2 x30 x31 x32
                obtain ⟨U4, hU4⟩ : ∃ V_, V_ = (((w4.setCell ⟨(w1.heap.size + 1), 0, none⟩ (.int .i64 (putR l (kk N) (rd_L1 vs (m : Int))).2.f0)).setCell ⟨(w1.heap.size + 1), 1, none⟩ (.slice Av4 (putR l (kk N) (rd_L1 vs (m : Int))).2.f1.length cv4)).setCell ⟨(w1.heap.size + 1), 2, none⟩ (.int .i64 (putR l (kk N) (rd_L1 vs (m : Int))).2.f2)) := ⟨_, rfl⟩
                rw [← hU4]
                have hv3_ := HV3.out
                replace HX := Aside0.mk (show Below w1.heap.size w1 U4 by rw [hU4]; exact ((HX.out.setCell (p := ⟨(w1.heap.size + 1), 0, none⟩) (by show w1.heap.size ≤ (w1.heap.size + 1); omega) _).setCell (p := ⟨(w1.heap.size + 1), 1, none⟩) (by show w1.heap.size ≤ (w1.heap.size + 1); omega) _).setCell (p := ⟨(w1.heap.size + 1), 2, none⟩) (by show w1.heap.size ≤ (w1.heap.size + 1); omega) _)
                replace HL0 := Aside0.mk (show U4.heap[w1.heap.size]? = some (.cells #[.int .u8 (i : Int)] 5 (0, 0)) by rw [hU4]; exact (keep_put3 _ _ _ _ _ _ _ _ _ (by omega)).trans HL0.out)
                replace P1 := Aside0.mk (show U4.heap[(w1.heap.size + 1)]? = some (.cells #[.int .i64 (putR l (kk N) (rd_L1 vs (m : Int))).2.f0, .slice Av4 (putR l (kk N) (rd_L1 vs (m : Int))).2.f1.length cv4, .int .i64 (putR l (kk N) (rd_L1 vs (m : Int))).2.f2] 26 (0, 0)) by rw [hU4]; exact blk_put (cs := #[.int .i64 (putR l (kk N) (rd_L1 vs (m : Int))).2.f0, .slice Av4 (putR l (kk N) (rd_L1 vs (m : Int))).2.f1.length cv4, .int .i64 0]) (blk_put (cs := #[.int .i64 (putR l (kk N) (rd_L1 vs (m : Int))).2.f0, .slice none 0 0, .int .i64 0]) (blk_put (cs := #[.int .i64 0, .slice none 0 0, .int .i64 0]) P1.out 0 _ rfl) 1 _ rfl) 2 _ rfl)
                replace P2 := Aside0.mk (show U4.heap[(w1.heap.size + 2)]? = some (.cells #[.int .i64 0, .slice none 0 0, .int .i64 0] 26 (0, 0)) by rw [hU4]; exact (keep_put3 _ _ _ _ _ _ _ _ _ (by omega)).trans P2.out)
                replace Fw4 := Aside0.mk (show Same _ _ U4 by rw [hU4]; exact Fw4.out.put3 (by have := LFw4.out; omega))
                replace ZFw4 := Aside0.mk (show _ ≤ U4.heap.size by rw [hU4, size3]; exact ZFw4.out)
                replace HLO := Aside0.mk (show _ ≤ U4.heap.size by rw [hU4, size3]; exact HLO.out)
                clear hU4 hv3_
                refine (put_x11 (l := l) (k := (kk N)) (v := (rd_L1 vs (m : Int))) HLV.out Hn.out rfl rfl (Kd.C_below HCB.out HX.out) Hd.out (Kd.C_below HK.out HX.out) Hck.out (Kd.C_below HD.out HX.out) HDf.out).mono ?_
                rintro e w5 ⟨A5, c5, Av5, cv5, rfl, hc5, hO5, hcv5, hV5, hb_⟩
                replace HX := Aside0.mk (below_then HX.out HX.out.size hb_)
                replace HL0 := Aside0.mk (blk3_keep HL0.out hb_)
                replace P1 := Aside0.mk (blk3_keep P1.out hb_)
                replace P2 := Aside0.mk (blk3_keep P2.out hb_)
                replace Fw4 := Aside0.mk (Fw4.out.step ZFw4.out hb_)
                replace ZFw4 := Aside0.mk (Nat.le_trans ZFw4.out hb_.size)
                have LFw5 := HLO
                have Fw5 := Aside0.mk (Same.refl U4 w5)
                have ZFw5 := Aside0.mk (Nat.le_refl w5.heap.size)
                replace HLO := Aside0.mk (Nat.le_trans HLO.out hb_.size)
                have O5 := Aside0.mk (show _ ∧ _ ∧ _ ∧ _ from ⟨hc5, hO5, hcv5, hV5⟩)
                clear hc5 hO5 hcv5 hV5 hb_
                obtain ⟨y0, y1, y2, y3⟩ := blk_cells3 P1.out
                have y30 := y3 0
                have y31 := y3 1
                have y32 := y3 2
                clear y3
                obtain ⟨x0, x1, x2, x3⟩ := blk_cells3 P2.out
                have x30 := x3 0
                have x31 := x3 1
                have x32 := x3 2
                clear x3
                go_wp2_with fail
                clear x0 x1 x2 x30 x31 x32
                clear y0 y1 y2 y30 y31 y32
                obtain ⟨U5, hU5⟩ : ∃ V_, V_ = (((w5.setCell ⟨(w1.heap.size + 2), 0, none⟩ (.int .i64 (putR l (kk N) (rd_L1 vs (m : Int))).2.f0)).setCell ⟨(w1.heap.size + 2), 1, none⟩ (.slice Av5 (putR l (kk N) (rd_L1 vs (m : Int))).2.f1.length cv5)).setCell ⟨(w1.heap.size + 2), 2, none⟩ (.int .i64 (putR l (kk N) (rd_L1 vs (m : Int))).2.f2)) := ⟨_, rfl⟩
                rw [← hU5]
                have hv3_ := HV3.out
                replace HX := Aside0.mk (show Below w1.heap.size w1 U5 by rw [hU5]; exact ((HX.out.setCell (p := ⟨(w1.heap.size + 2), 0, none⟩) (by show w1.heap.size ≤ (w1.heap.size + 2); omega) _).setCell (p := ⟨(w1.heap.size + 2), 1, none⟩) (by show w1.heap.size ≤ (w1.heap.size + 2); omega) _).setCell (p := ⟨(w1.heap.size + 2), 2, none⟩) (by show w1.heap.size ≤ (w1.heap.size + 2); omega) _)
                replace HL0 := Aside0.mk (show U5.heap[w1.heap.size]? = some (.cells #[.int .u8 (i : Int)] 5 (0, 0)) by rw [hU5]; exact (keep_put3 _ _ _ _ _ _ _ _ _ (by omega)).trans HL0.out)
                replace P1 := Aside0.mk (show U5.heap[(w1.heap.size + 1)]? = some (.cells #[.int .i64 (putR l (kk N) (rd_L1 vs (m : Int))).2.f0, .slice Av4 (putR l (kk N) (rd_L1 vs (m : Int))).2.f1.length cv4, .int .i64 (putR l (kk N) (rd_L1 vs (m : Int))).2.f2] 26 (0, 0)) by rw [hU5]; exact (keep_put3 _ _ _ _ _ _ _ _ _ (by omega)).trans P1.out)
                replace P2 := Aside0.mk (show U5.heap[(w1.heap.size + 2)]? = some (.cells #[.int .i64 (putR l (kk N) (rd_L1 vs (m : Int))).2.f0, .slice Av5 (putR l (kk N) (rd_L1 vs (m : Int))).2.f1.length cv5, .int .i64 (putR l (kk N) (rd_L1 vs (m : Int))).2.f2] 26 (0, 0)) by rw [hU5]; exact blk_put (cs := #[.int .i64 (putR l (kk N) (rd_L1 vs (m : Int))).2.f0, .slice Av5 (putR l (kk N) (rd_L1 vs (m : Int))).2.f1.length cv5, .int .i64 0]) (blk_put (cs := #[.int .i64 (putR l (kk N) (rd_L1 vs (m : Int))).2.f0, .slice none 0 0, .int .i64 0]) (blk_put (cs := #[.int .i64 0, .slice none 0 0, .int .i64 0]) P2.out 0 _ rfl) 1 _ rfl) 2 _ rfl)
                replace Fw4 := Aside0.mk (show Same _ _ U5 by rw [hU5]; exact Fw4.out.put3 (by have := LFw4.out; omega))
                replace ZFw4 := Aside0.mk (show _ ≤ U5.heap.size by rw [hU5, size3]; exact ZFw4.out)
                replace Fw5 := Aside0.mk (show Same _ _ U5 by rw [hU5]; exact Fw5.out.put3 (by have := LFw5.out; omega))
                replace ZFw5 := Aside0.mk (show _ ≤ U5.heap.size by rw [hU5, size3]; exact ZFw5.out)
                replace HLO := Aside0.mk (show _ ≤ U5.heap.size by rw [hU5, size3]; exact HLO.out)
                clear hU5 hv3_
                refine (same15 (r := (putR l (kk N) (rd_L1 vs (m : Int))).2) rfl (O4.out.2.2.2 _ Fw4.out.at) O4.out.2.2.1 (O5.out.2.2.2 _ Fw5.out.at) O5.out.2.2.1).mono ?_
                rintro e w6 ⟨rfl, hb_⟩
                have C4 := Aside0.mk (Kd.C_below (O4.out.2.1 _ Fw4.out.at) hb_)
                have C5 := Aside0.mk (Kd.C_below (O5.out.2.1 _ Fw5.out.at) hb_)
                replace HX := Aside0.mk (below_then HX.out HX.out.size hb_)
                clear hb_
                go_wp2_with fail
                refine (same7 A4 A5 c4 c5 (putR l (kk N) (rd_L1 vs (m : Int))).1.length (putR l (kk N) (rd_L1 vs (m : Int))).1 w6 rfl C4.out C5.out).mono ?_
                rintro e w7 ⟨rfl, hb_⟩
                have HPI := Aside0.mk (show PI w (putR l (kk N) (rd_L1 vs (m : Int))).1.length A4 c4 A5 c5 w7 from ⟨(putR l (kk N) (rd_L1 vs (m : Int))).1, (lv_put HLV.out).1, rfl, O4.out.1, O5.out.1, Kd.C_below C4.out hb_, Kd.C_below C5.out hb_, below_then (below_then HW1.out HW1.out.size HX.out) (Nat.le_trans HW1.out.size HX.out.size) hb_⟩)
                clear hb_
                go_wp2_with fail
                go_roundw
                case rel => exact ⟨i + 1, (putR l (kk N) (rd_L1 vs (m : Int))).1.length, A4, c4, A5, c5, by go_num, rfl, rfl, by omega, HPI⟩
                case measure => simp [intOf]; omega
              · skip
                have k2 := cell_old HB.out HVA.out
                have k3 := cell_old (below_alloc (Below.refl w1.heap.size w1) (.cells #[.int .u8 (i : Int)] 5)) k2
                have k4 := cell_old (below_alloc (below_alloc (below_alloc (Below.refl w1.heap.size w1) (.cells #[.int .u8 (i : Int)] 5)) (.cells #[.int .i64 0, .slice none 0 0, .int .i64 0] 26)) (.cells #[.int .i64 0, .slice none 0 0, .int .i64 0] 26)) k2
                have d4 : decide ((0 : Int) < (vs.length : Int)) = true := decide_eq_true (by omega)
                have d5 : ¬ ((vs.length : Int) = 0) := by omega
                obtain ⟨m, hm, hml⟩ : ∃ m : Nat, Int.tmod (Go.bits .and .i64 (va / 64) 255) (vs.length : Int) = (m : Int) ∧ m < vs.length := by
                  obtain ⟨t, ht, _⟩ := bits_lt (va / 64) 8 255 255 rfl (by decide) (by decide)
                  rw [ht]
                  have h2 := Int.tmod_lt_of_pos (t : Int) (show (0 : Int) < (vs.length : Int) by omega)
                  have h3 := Int.tmod_nonneg (vs.length : Int) (show (0 : Int) ≤ (t : Int) by omega)
                  exact ⟨(Int.tmod (t : Int) (vs.length : Int)).toNat, by omega, by omega⟩
                obtain ⟨bd, D, f, eb, h0, l0, gD⟩ := at_L1 (Kd.C_below HVS.out HB.out) (m : Int) (by omega) (by omega)
                cases eb
                simp only [Int.toNat_natCast] at h0
                have k5 := cell_old (below_alloc (Below.refl w1.heap.size w1) (.cells #[.int .u8 (i : Int)] 5)) h0
                have HD := Aside0.mk gD
                have HDf := Aside0.mk l0
                have H60 := Aside0.mk (HL.out m hml)
                clear gD l0 h0
                have hq : Go.bits .and .i64 va 3 = 1 := by assumption
                have HW1 := HB
                go_wp2_with fail
                clear k2 k3 k4 hq d4 hm d5 k5
                have HX := Aside0.mk (Below.refl w1.heap.size w1)
                obtain ⟨V3, hV3⟩ : ∃ V_, V_ = (((w1.alloc (.cells #[.int .u8 (i : Int)] 5)).alloc (.cells #[.int .i64 0, .slice none 0 0, .int .i64 0] 26)).alloc (.cells #[.int .i64 0, .slice none 0 0, .int .i64 0] 26)) := ⟨_, rfl⟩
                rw [← hV3]
                replace HX := Aside0.mk (show Below w1.heap.size w1 V3 by rw [hV3]; exact (below_alloc (below_alloc (below_alloc (Below.refl w1.heap.size w1) (.cells #[.int .u8 (i : Int)] 5)) (.cells #[.int .i64 0, .slice none 0 0, .int .i64 0] 26)) (.cells #[.int .i64 0, .slice none 0 0, .int .i64 0] 26)))
                have HL0 : Aside0 (V3.heap[w1.heap.size]? = some (.cells #[.int .u8 (i : Int)] 5 (0, 0))) := Aside0.mk (by rw [hV3]; have h_ := blk_alloc (blk_alloc (heap_alloc_self w1 (.cells #[.int .u8 (i : Int)] 5)) (.cells #[.int .i64 0, .slice none 0 0, .int .i64 0] 26)) (.cells #[.int .i64 0, .slice none 0 0, .int .i64 0] 26); simpa using h_)
                have P1 : Aside0 (V3.heap[(w1.heap.size + 1)]? = some (.cells #[.int .i64 0, .slice none 0 0, .int .i64 0] 26 (0, 0))) := Aside0.mk (by rw [hV3]; have h_ := blk_alloc (heap_alloc_self (w1.alloc (.cells #[.int .u8 (i : Int)] 5)) (.cells #[.int .i64 0, .slice none 0 0, .int .i64 0] 26)) (.cells #[.int .i64 0, .slice none 0 0, .int .i64 0] 26); simpa using h_)
                have P2 : Aside0 (V3.heap[(w1.heap.size + 2)]? = some (.cells #[.int .i64 0, .slice none 0 0, .int .i64 0] 26 (0, 0))) := Aside0.mk (by rw [hV3]; have h_ := heap_alloc_self ((w1.alloc (.cells #[.int .u8 (i : Int)] 5)).alloc (.cells #[.int .i64 0, .slice none 0 0, .int .i64 0] 26)) (.cells #[.int .i64 0, .slice none 0 0, .int .i64 0] 26); simpa using h_)
                have HV3 : Aside0 (V3.heap.size = w1.heap.size + 3) := Aside0.mk (by rw [hV3]; simp)
                have HLO := Aside0.mk (Nat.le_refl V3.heap.size)
                clear hV3
                refine (put_x6 (l := l) (k := (kk N)) (v := (rd_L1 vs (m : Int))) HLV.out Hn.out rfl rfl (Kd.C_below HCA.out HX.out) Hc.out (Kd.C_below HK.out HX.out) Hck.out (Kd.C_below HD.out HX.out) HDf.out).mono ?_
                rintro e w4 ⟨A4, c4, Av4, cv4, rfl, hc4, hO4, hcv4, hV4, hb_⟩
                replace HX := Aside0.mk (below_then HX.out HX.out.size hb_)
                replace HL0 := Aside0.mk (blk3_keep HL0.out hb_)
                replace P1 := Aside0.mk (blk3_keep P1.out hb_)
                replace P2 := Aside0.mk (blk3_keep P2.out hb_)
                have LFw4 := HLO
                have Fw4 := Aside0.mk (Same.refl V3 w4)
                have ZFw4 := Aside0.mk (Nat.le_refl w4.heap.size)
                replace HLO := Aside0.mk (Nat.le_trans HLO.out hb_.size)
                have O4 := Aside0.mk (show _ ∧ _ ∧ _ ∧ _ from ⟨hc4, hO4, hcv4, hV4⟩)
                clear hc4 hO4 hcv4 hV4 hb_
                obtain ⟨x0, x1, x2, x3⟩ := blk_cells3 P1.out
                have x30 := x3 0
                have x31 := x3 1
                have x32 := x3 2
                clear x3
                go_wp2_with fail
                clear x0 x1 x2 x30 x31 x32
                obtain ⟨U4, hU4⟩ : ∃ V_, V_ = (((w4.setCell ⟨(w1.heap.size + 1), 0, none⟩ (.int .i64 (putR l (kk N) (rd_L1 vs (m : Int))).2.f0)).setCell ⟨(w1.heap.size + 1), 1, none⟩ (.slice Av4 (putR l (kk N) (rd_L1 vs (m : Int))).2.f1.length cv4)).setCell ⟨(w1.heap.size + 1), 2, none⟩ (.int .i64 (putR l (kk N) (rd_L1 vs (m : Int))).2.f2)) := ⟨_, rfl⟩
                rw [← hU4]
                have hv3_ := HV3.out
                replace HX := Aside0.mk (show Below w1.heap.size w1 U4 by rw [hU4]; exact ((HX.out.setCell (p := ⟨(w1.heap.size + 1), 0, none⟩) (by show w1.heap.size ≤ (w1.heap.size + 1); omega) _).setCell (p := ⟨(w1.heap.size + 1), 1, none⟩) (by show w1.heap.size ≤ (w1.heap.size + 1); omega) _).setCell (p := ⟨(w1.heap.size + 1), 2, none⟩) (by show w1.heap.size ≤ (w1.heap.size + 1); omega) _)
                replace HL0 := Aside0.mk (show U4.heap[w1.heap.size]? = some (.cells #[.int .u8 (i : Int)] 5 (0, 0)) by rw [hU4]; exact (keep_put3 _ _ _ _ _ _ _ _ _ (by omega)).trans HL0.out)
                replace P1 := Aside0.mk (show U4.heap[(w1.heap.size + 1)]? = some (.cells #[.int .i64 (putR l (kk N) (rd_L1 vs (m : Int))).2.f0, .slice Av4 (putR l (kk N) (rd_L1 vs (m : Int))).2.f1.length cv4, .int .i64 (putR l (kk N) (rd_L1 vs (m : Int))).2.f2] 26 (0, 0)) by rw [hU4]; exact blk_put (cs := #[.int .i64 (putR l (kk N) (rd_L1 vs (m : Int))).2.f0, .slice Av4 (putR l (kk N) (rd_L1 vs (m : Int))).2.f1.length cv4, .int .i64 0]) (blk_put (cs := #[.int .i64 (putR l (kk N) (rd_L1 vs (m : Int))).2.f0, .slice none 0 0, .int .i64 0]) (blk_put (cs := #[.int .i64 0, .slice none 0 0, .int .i64 0]) P1.out 0 _ rfl) 1 _ rfl) 2 _ rfl)
                replace P2 := Aside0.mk (show U4.heap[(w1.heap.size + 2)]? = some (.cells #[.int .i64 0, .slice none 0 0, .int .i64 0] 26 (0, 0)) by rw [hU4]; exact (keep_put3 _ _ _ _ _ _ _ _ _ (by omega)).trans P2.out)
                replace Fw4 := Aside0.mk (show Same _ _ U4 by rw [hU4]; exact Fw4.out.put3 (by have := LFw4.out; omega))
                replace ZFw4 := Aside0.mk (show _ ≤ U4.heap.size by rw [hU4, size3]; exact ZFw4.out)
                replace HLO := Aside0.mk (show _ ≤ U4.heap.size by rw [hU4, size3]; exact HLO.out)
                clear hU4 hv3_
                refine (put_x11 (l := l) (k := (kk N)) (v := (rd_L1 vs (m : Int))) HLV.out Hn.out rfl rfl (Kd.C_below HCB.out HX.out) Hd.out (Kd.C_below HK.out HX.out) Hck.out (Kd.C_below HD.out HX.out) HDf.out).mono ?_
                rintro e w5 ⟨A5, c5, Av5, cv5, rfl, hc5, hO5, hcv5, hV5, hb_⟩
                replace HX := Aside0.mk (below_then HX.out HX.out.size hb_)
                replace HL0 := Aside0.mk (blk3_keep HL0.out hb_)
                replace P1 := Aside0.mk (blk3_keep P1.out hb_)
                replace P2 := Aside0.mk (blk3_keep P2.out hb_)
                replace Fw4 := Aside0.mk (Fw4.out.step ZFw4.out hb_)
                replace ZFw4 := Aside0.mk (Nat.le_trans ZFw4.out hb_.size)
                have LFw5 := HLO
                have Fw5 := Aside0.mk (Same.refl U4 w5)
                have ZFw5 := Aside0.mk (Nat.le_refl w5.heap.size)
                replace HLO := Aside0.mk (Nat.le_trans HLO.out hb_.size)
                have O5 := Aside0.mk (show _ ∧ _ ∧ _ ∧ _ from ⟨hc5, hO5, hcv5, hV5⟩)
                clear hc5 hO5 hcv5 hV5 hb_
                obtain ⟨y0, y1, y2, y3⟩ := blk_cells3 P1.out
                have y30 := y3 0
                have y31 := y3 1
                have y32 := y3 2
                clear y3
                obtain ⟨x0, x1, x2, x3⟩ := blk_cells3 P2.out
                have x30 := x3 0
                have x31 := x3 1
                have x32 := x3 2
                clear x3
                go_wp2_with fail
                clear x0 x1 x2 x30 x31 x32
                clear y0 y1 y2 y30 y31 y32
                obtain ⟨U5, hU5⟩ : ∃ V_, V_ = (((w5.setCell ⟨(w1.heap.size + 2), 0, none⟩ (.int .i64 (putR l (kk N) (rd_L1 vs (m : Int))).2.f0)).setCell ⟨(w1.heap.size + 2), 1, none⟩ (.slice Av5 (putR l (kk N) (rd_L1 vs (m : Int))).2.f1.length cv5)).setCell ⟨(w1.heap.size + 2), 2, none⟩ (.int .i64 (putR l (kk N) (rd_L1 vs (m : Int))).2.f2)) := ⟨_, rfl⟩
                rw [← hU5]
                have hv3_ := HV3.out
                replace HX := Aside0.mk (show Below w1.heap.size w1 U5 by rw [hU5]; exact ((HX.out.setCell (p := ⟨(w1.heap.size + 2), 0, none⟩) (by show w1.heap.size ≤ (w1.heap.size + 2); omega) _).setCell (p := ⟨(w1.heap.size + 2), 1, none⟩) (by show w1.heap.size ≤ (w1.heap.size + 2); omega) _).setCell (p := ⟨(w1.heap.size + 2), 2, none⟩) (by show w1.heap.size ≤ (w1.heap.size + 2); omega) _)
                replace HL0 := Aside0.mk (show U5.heap[w1.heap.size]? = some (.cells #[.int .u8 (i : Int)] 5 (0, 0)) by rw [hU5]; exact (keep_put3 _ _ _ _ _ _ _ _ _ (by omega)).trans HL0.out)
                replace P1 := Aside0.mk (show U5.heap[(w1.heap.size + 1)]? = some (.cells #[.int .i64 (putR l (kk N) (rd_L1 vs (m : Int))).2.f0, .slice Av4 (putR l (kk N) (rd_L1 vs (m : Int))).2.f1.length cv4, .int .i64 (putR l (kk N) (rd_L1 vs (m : Int))).2.f2] 26 (0, 0)) by rw [hU5]; exact (keep_put3 _ _ _ _ _ _ _ _ _ (by omega)).trans P1.out)
                replace P2 := Aside0.mk (show U5.heap[(w1.heap.size + 2)]? = some (.cells #[.int .i64 (putR l (kk N) (rd_L1 vs (m : Int))).2.f0, .slice Av5 (putR l (kk N) (rd_L1 vs (m : Int))).2.f1.length cv5, .int .i64 (putR l (kk N) (rd_L1 vs (m : Int))).2.f2] 26 (0, 0)) by rw [hU5]; exact blk_put (cs := #[.int .i64 (putR l (kk N) (rd_L1 vs (m : Int))).2.f0, .slice Av5 (putR l (kk N) (rd_L1 vs (m : Int))).2.f1.length cv5, .int .i64 0]) (blk_put (cs := #[.int .i64 (putR l (kk N) (rd_L1 vs (m : Int))).2.f0, .slice none 0 0, .int .i64 0]) (blk_put (cs := #[.int .i64 0, .slice none 0 0, .int .i64 0]) P2.out 0 _ rfl) 1 _ rfl) 2 _ rfl)
                replace Fw4 := Aside0.mk (show Same _ _ U5 by rw [hU5]; exact Fw4.out.put3 (by have := LFw4.out; omega))
                replace ZFw4 := Aside0.mk (show _ ≤ U5.heap.size by rw [hU5, size3]; exact ZFw4.out)
                replace Fw5 := Aside0.mk (show Same _ _ U5 by rw [hU5]; exact Fw5.out.put3 (by have := LFw5.out; omega))
                replace ZFw5 := Aside0.mk (show _ ≤ U5.heap.size by rw [hU5, size3]; exact ZFw5.out)
                replace HLO := Aside0.mk (show _ ≤ U5.heap.size by rw [hU5, size3]; exact HLO.out)
                clear hU5 hv3_
                refine (same15 (r := (putR l (kk N) (rd_L1 vs (m : Int))).2) rfl (O4.out.2.2.2 _ Fw4.out.at) O4.out.2.2.1 (O5.out.2.2.2 _ Fw5.out.at) O5.out.2.2.1).mono ?_
                rintro e w6 ⟨rfl, hb_⟩
                have C4 := Aside0.mk (Kd.C_below (O4.out.2.1 _ Fw4.out.at) hb_)
                have C5 := Aside0.mk (Kd.C_below (O5.out.2.1 _ Fw5.out.at) hb_)
                replace HX := Aside0.mk (below_then HX.out HX.out.size hb_)
                clear hb_
                go_wp2_with fail
                refine (same7 A4 A5 c4 c5 (putR l (kk N) (rd_L1 vs (m : Int))).1.length (putR l (kk N) (rd_L1 vs (m : Int))).1 w6 rfl C4.out C5.out).mono ?_
                rintro e w7 ⟨rfl, hb_⟩
                have HPI := Aside0.mk (show PI w (putR l (kk N) (rd_L1 vs (m : Int))).1.length A4 c4 A5 c5 w7 from ⟨(putR l (kk N) (rd_L1 vs (m : Int))).1, (lv_put HLV.out).1, rfl, O4.out.1, O5.out.1, Kd.C_below C4.out hb_, Kd.C_below C5.out hb_, below_then (below_then HW1.out HW1.out.size HX.out) (Nat.le_trans HW1.out.size HX.out.size) hb_⟩)
                clear hb_
                go_wp2_with fail
                go_roundw
                case rel => exact ⟨i + 1, (putR l (kk N) (rd_L1 vs (m : Int))).1.length, A4, c4, A5, c5, by go_num, rfl, rfl, by omega, HPI⟩
                case measure => simp [intOf]; omega
              · skip
                have k2 := cell_old HB.out HVA.out
                have k3 := cell_old (below_alloc (Below.refl w1.heap.size w1) (.cells #[.int .u8 (i : Int)] 5)) k2
                have k4 := cell_old (below_alloc (below_alloc (below_alloc (Below.refl w1.heap.size w1) (.cells #[.int .u8 (i : Int)] 5)) (.cells #[.int .i64 0, .slice none 0 0, .int .i64 0] 26)) (.cells #[.int .i64 0, .slice none 0 0, .int .i64 0] 26)) k2
                have d4 : decide ((0 : Int) < (vs.length : Int)) = true := decide_eq_true (by omega)
                have d5 : ¬ ((vs.length : Int) = 0) := by omega
                obtain ⟨m, hm, hml⟩ : ∃ m : Nat, Int.tmod (Go.bits .and .i64 (va / 64) 255) (vs.length : Int) = (m : Int) ∧ m < vs.length := by
                  obtain ⟨t, ht, _⟩ := bits_lt (va / 64) 8 255 255 rfl (by decide) (by decide)
                  rw [ht]
                  have h2 := Int.tmod_lt_of_pos (t : Int) (show (0 : Int) < (vs.length : Int) by omega)
                  have h3 := Int.tmod_nonneg (vs.length : Int) (show (0 : Int) ≤ (t : Int) by omega)
                  exact ⟨(Int.tmod (t : Int) (vs.length : Int)).toNat, by omega, by omega⟩
                obtain ⟨bd, D, f, eb, h0, l0, gD⟩ := at_L1 (Kd.C_below HVS.out HB.out) (m : Int) (by omega) (by omega)
                cases eb
                simp only [Int.toNat_natCast] at h0
                have k5 := cell_old (below_alloc (Below.refl w1.heap.size w1) (.cells #[.int .u8 (i : Int)] 5)) h0
                have HD := Aside0.mk gD
                have HDf := Aside0.mk l0
                have H60 := Aside0.mk (HL.out m hml)
                clear gD l0 h0
                have hq : Go.bits .and .i64 va 3 = 2 := by assumption
                have HW1 := HB
                go_wp2_with fail
                clear k2 k3 k4 hq d4 hm d5 k5
                have HX := Aside0.mk (Below.refl w1.heap.size w1)
                obtain ⟨V3, hV3⟩ : ∃ V_, V_ = (((w1.alloc (.cells #[.int .u8 (i : Int)] 5)).alloc (.cells #[.int .i64 0, .slice none 0 0, .int .i64 0] 26)).alloc (.cells #[.int .i64 0, .slice none 0 0, .int .i64 0] 26)) := ⟨_, rfl⟩
                rw [← hV3]
                replace HX := Aside0.mk (show Below w1.heap.size w1 V3 by rw [hV3]; exact (below_alloc (below_alloc (below_alloc (Below.refl w1.heap.size w1) (.cells #[.int .u8 (i : Int)] 5)) (.cells #[.int .i64 0, .slice none 0 0, .int .i64 0] 26)) (.cells #[.int .i64 0, .slice none 0 0, .int .i64 0] 26)))
                have HL0 : Aside0 (V3.heap[w1.heap.size]? = some (.cells #[.int .u8 (i : Int)] 5 (0, 0))) := Aside0.mk (by rw [hV3]; have h_ := blk_alloc (blk_alloc (heap_alloc_self w1 (.cells #[.int .u8 (i : Int)] 5)) (.cells #[.int .i64 0, .slice none 0 0, .int .i64 0] 26)) (.cells #[.int .i64 0, .slice none 0 0, .int .i64 0] 26); simpa using h_)
                have P1 : Aside0 (V3.heap[(w1.heap.size + 1)]? = some (.cells #[.int .i64 0, .slice none 0 0, .int .i64 0] 26 (0, 0))) := Aside0.mk (by rw [hV3]; have h_ := blk_alloc (heap_alloc_self (w1.alloc (.cells #[.int .u8 (i : Int)] 5)) (.cells #[.int .i64 0, .slice none 0 0, .int .i64 0] 26)) (.cells #[.int .i64 0, .slice none 0 0, .int .i64 0] 26); simpa using h_)
                have P2 : Aside0 (V3.heap[(w1.heap.size + 2)]? = some (.cells #[.int .i64 0, .slice none 0 0, .int .i64 0] 26 (0, 0))) := Aside0.mk (by rw [hV3]; have h_ := heap_alloc_self ((w1.alloc (.cells #[.int .u8 (i : Int)] 5)).alloc (.cells #[.int .i64 0, .slice none 0 0, .int .i64 0] 26)) (.cells #[.int .i64 0, .slice none 0 0, .int .i64 0] 26); simpa using h_)
                have HV3 : Aside0 (V3.heap.size = w1.heap.size + 3) := Aside0.mk (by rw [hV3]; simp)
                have HLO := Aside0.mk (Nat.le_refl V3.heap.size)
                clear hV3
                refine (del_x12 (l := l) (k := (kk N)) HLV.out Hn.out rfl (Kd.C_below HCA.out HX.out) Hc.out (Kd.C_below HK.out HX.out) Hck.out).mono ?_
                rintro e w4 ⟨A4, c4, Av4, cv4, rfl, hc4, hO4, hcv4, hV4, hb_⟩
                replace HX := Aside0.mk (below_then HX.out HX.out.size hb_)
                replace HL0 := Aside0.mk (blk3_keep HL0.out hb_)
                replace P1 := Aside0.mk (blk3_keep P1.out hb_)
                replace P2 := Aside0.mk (blk3_keep P2.out hb_)
                have LFw4 := HLO
                have Fw4 := Aside0.mk (Same.refl V3 w4)
                have ZFw4 := Aside0.mk (Nat.le_refl w4.heap.size)
                replace HLO := Aside0.mk (Nat.le_trans HLO.out hb_.size)
                have O4 := Aside0.mk (show _ ∧ _ ∧ _ ∧ _ from ⟨hc4, hO4, hcv4, hV4⟩)
                clear hc4 hO4 hcv4 hV4 hb_
                obtain ⟨x0, x1, x2, x3⟩ := blk_cells3 P1.out
                have x30 := x3 0
                have x31 := x3 1
                have x32 := x3 2
                clear x3
                go_wp2_with fail
                clear x0 x1 x2 x30 x31 x32
                obtain ⟨U4, hU4⟩ : ∃ V_, V_ = (((w4.setCell ⟨(w1.heap.size + 1), 0, none⟩ (.int .i64 (delR l (kk N)).2.f0)).setCell ⟨(w1.heap.size + 1), 1, none⟩ (.slice Av4 (delR l (kk N)).2.f1.length cv4)).setCell ⟨(w1.heap.size + 1), 2, none⟩ (.int .i64 (delR l (kk N)).2.f2)) := ⟨_, rfl⟩
                rw [← hU4]
                have hv3_ := HV3.out
                replace HX := Aside0.mk (show Below w1.heap.size w1 U4 by rw [hU4]; exact ((HX.out.setCell (p := ⟨(w1.heap.size + 1), 0, none⟩) (by show w1.heap.size ≤ (w1.heap.size + 1); omega) _).setCell (p := ⟨(w1.heap.size + 1), 1, none⟩) (by show w1.heap.size ≤ (w1.heap.size + 1); omega) _).setCell (p := ⟨(w1.heap.size + 1), 2, none⟩) (by show w1.heap.size ≤ (w1.heap.size + 1); omega) _)
                replace HL0 := Aside0.mk (show U4.heap[w1.heap.size]? = some (.cells #[.int .u8 (i : Int)] 5 (0, 0)) by rw [hU4]; exact (keep_put3 _ _ _ _ _ _ _ _ _ (by omega)).trans HL0.out)
                replace P1 := Aside0.mk (show U4.heap[(w1.heap.size + 1)]? = some (.cells #[.int .i64 (delR l (kk N)).2.f0, .slice Av4 (delR l (kk N)).2.f1.length cv4, .int .i64 (delR l (kk N)).2.f2] 26 (0, 0)) by rw [hU4]; exact blk_put (cs := #[.int .i64 (delR l (kk N)).2.f0, .slice Av4 (delR l (kk N)).2.f1.length cv4, .int .i64 0]) (blk_put (cs := #[.int .i64 (delR l (kk N)).2.f0, .slice none 0 0, .int .i64 0]) (blk_put (cs := #[.int .i64 0, .slice none 0 0, .int .i64 0]) P1.out 0 _ rfl) 1 _ rfl) 2 _ rfl)
                replace P2 := Aside0.mk (show U4.heap[(w1.heap.size + 2)]? = some (.cells #[.int .i64 0, .slice none 0 0, .int .i64 0] 26 (0, 0)) by rw [hU4]; exact (keep_put3 _ _ _ _ _ _ _ _ _ (by omega)).trans P2.out)
                replace Fw4 := Aside0.mk (show Same _ _ U4 by rw [hU4]; exact Fw4.out.put3 (by have := LFw4.out; omega))
                replace ZFw4 := Aside0.mk (show _ ≤ U4.heap.size by rw [hU4, size3]; exact ZFw4.out)
                replace HLO := Aside0.mk (show _ ≤ U4.heap.size by rw [hU4, size3]; exact HLO.out)
                clear hU4 hv3_
                refine (del_x13 (l := l) (k := (kk N)) HLV.out Hn.out rfl (Kd.C_below HCB.out HX.out) Hd.out (Kd.C_below HK.out HX.out) Hck.out).mono ?_
                rintro e w5 ⟨A5, c5, Av5, cv5, rfl, hc5, hO5, hcv5, hV5, hb_⟩
                replace HX := Aside0.mk (below_then HX.out HX.out.size hb_)
                replace HL0 := Aside0.mk (blk3_keep HL0.out hb_)
                replace P1 := Aside0.mk (blk3_keep P1.out hb_)
                replace P2 := Aside0.mk (blk3_keep P2.out hb_)
                replace Fw4 := Aside0.mk (Fw4.out.step ZFw4.out hb_)
                replace ZFw4 := Aside0.mk (Nat.le_trans ZFw4.out hb_.size)
                have LFw5 := HLO
                have Fw5 := Aside0.mk (Same.refl U4 w5)
                have ZFw5 := Aside0.mk (Nat.le_refl w5.heap.size)
                replace HLO := Aside0.mk (Nat.le_trans HLO.out hb_.size)
                have O5 := Aside0.mk (show _ ∧ _ ∧ _ ∧ _ from ⟨hc5, hO5, hcv5, hV5⟩)
                clear hc5 hO5 hcv5 hV5 hb_
                obtain ⟨y0, y1, y2, y3⟩ := blk_cells3 P1.out
                have y30 := y3 0
                have y31 := y3 1
                have y32 := y3 2
                clear y3
                obtain ⟨x0, x1, x2, x3⟩ := blk_cells3 P2.out
                have x30 := x3 0
                have x31 := x3 1
                have x32 := x3 2
                clear x3
                go_wp2_with fail
                clear x0 x1 x2 x30 x31 x32
                clear y0 y1 y2 y30 y31 y32
                obtain ⟨U5, hU5⟩ : ∃ V_, V_ = (((w5.setCell ⟨(w1.heap.size + 2), 0, none⟩ (.int .i64 (delR l (kk N)).2.f0)).setCell ⟨(w1.heap.size + 2), 1, none⟩ (.slice Av5 (delR l (kk N)).2.f1.length cv5)).setCell ⟨(w1.heap.size + 2), 2, none⟩ (.int .i64 (delR l (kk N)).2.f2)) := ⟨_, rfl⟩
                rw [← hU5]
                have hv3_ := HV3.out
                replace HX := Aside0.mk (show Below w1.heap.size w1 U5 by rw [hU5]; exact ((HX.out.setCell (p := ⟨(w1.heap.size + 2), 0, none⟩) (by show w1.heap.size ≤ (w1.heap.size + 2); omega) _).setCell (p := ⟨(w1.heap.size + 2), 1, none⟩) (by show w1.heap.size ≤ (w1.heap.size + 2); omega) _).setCell (p := ⟨(w1.heap.size + 2), 2, none⟩) (by show w1.heap.size ≤ (w1.heap.size + 2); omega) _)
                replace HL0 := Aside0.mk (show U5.heap[w1.heap.size]? = some (.cells #[.int .u8 (i : Int)] 5 (0, 0)) by rw [hU5]; exact (keep_put3 _ _ _ _ _ _ _ _ _ (by omega)).trans HL0.out)
                replace P1 := Aside0.mk (show U5.heap[(w1.heap.size + 1)]? = some (.cells #[.int .i64 (delR l (kk N)).2.f0, .slice Av4 (delR l (kk N)).2.f1.length cv4, .int .i64 (delR l (kk N)).2.f2] 26 (0, 0)) by rw [hU5]; exact (keep_put3 _ _ _ _ _ _ _ _ _ (by omega)).trans P1.out)
                replace P2 := Aside0.mk (show U5.heap[(w1.heap.size + 2)]? = some (.cells #[.int .i64 (delR l (kk N)).2.f0, .slice Av5 (delR l (kk N)).2.f1.length cv5, .int .i64 (delR l (kk N)).2.f2] 26 (0, 0)) by rw [hU5]; exact blk_put (cs := #[.int .i64 (delR l (kk N)).2.f0, .slice Av5 (delR l (kk N)).2.f1.length cv5, .int .i64 0]) (blk_put (cs := #[.int .i64 (delR l (kk N)).2.f0, .slice none 0 0, .int .i64 0]) (blk_put (cs := #[.int .i64 0, .slice none 0 0, .int .i64 0]) P2.out 0 _ rfl) 1 _ rfl) 2 _ rfl)
                replace Fw4 := Aside0.mk (show Same _ _ U5 by rw [hU5]; exact Fw4.out.put3 (by have := LFw4.out; omega))
                replace ZFw4 := Aside0.mk (show _ ≤ U5.heap.size by rw [hU5, size3]; exact ZFw4.out)
                replace Fw5 := Aside0.mk (show Same _ _ U5 by rw [hU5]; exact Fw5.out.put3 (by have := LFw5.out; omega))
                replace ZFw5 := Aside0.mk (show _ ≤ U5.heap.size by rw [hU5, size3]; exact ZFw5.out)
                replace HLO := Aside0.mk (show _ ≤ U5.heap.size by rw [hU5, size3]; exact HLO.out)
                clear hU5 hv3_
                refine (same15 (r := (delR l (kk N)).2) rfl (O4.out.2.2.2 _ Fw4.out.at) O4.out.2.2.1 (O5.out.2.2.2 _ Fw5.out.at) O5.out.2.2.1).mono ?_
                rintro e w6 ⟨rfl, hb_⟩
                have C4 := Aside0.mk (Kd.C_below (O4.out.2.1 _ Fw4.out.at) hb_)
                have C5 := Aside0.mk (Kd.C_below (O5.out.2.1 _ Fw5.out.at) hb_)
                replace HX := Aside0.mk (below_then HX.out HX.out.size hb_)
                clear hb_
                go_wp2_with fail
                refine (same7 A4 A5 c4 c5 (delR l (kk N)).1.length (delR l (kk N)).1 w6 rfl C4.out C5.out).mono ?_
                rintro e w7 ⟨rfl, hb_⟩
                have HPI := Aside0.mk (show PI w (delR l (kk N)).1.length A4 c4 A5 c5 w7 from ⟨(delR l (kk N)).1, (lv_del HLV.out).1, rfl, O4.out.1, O5.out.1, Kd.C_below C4.out hb_, Kd.C_below C5.out hb_, below_then (below_then HW1.out HW1.out.size HX.out) (Nat.le_trans HW1.out.size HX.out.size) hb_⟩)
                clear hb_
                go_wp2_with fail
                go_roundw
                case rel => exact ⟨i + 1, (delR l (kk N)).1.length, A4, c4, A5, c5, by go_num, rfl, rfl, by omega, HPI⟩
                case measure => simp [intOf]; omega
              · skip
                have k2 := cell_old HB.out HVA.out
                have k3 := cell_old (below_alloc (Below.refl w1.heap.size w1) (.cells #[.int .u8 (i : Int)] 5)) k2
                have k4 := cell_old (below_alloc (below_alloc (below_alloc (Below.refl w1.heap.size w1) (.cells #[.int .u8 (i : Int)] 5)) (.cells #[.int .i64 0, .slice none 0 0, .int .i64 0] 26)) (.cells #[.int .i64 0, .slice none 0 0, .int .i64 0] 26)) k2
                have d4 : decide ((0 : Int) < (vs.length : Int)) = true := decide_eq_true (by omega)
                have d5 : ¬ ((vs.length : Int) = 0) := by omega
                obtain ⟨m, hm, hml⟩ : ∃ m : Nat, Int.tmod (Go.bits .and .i64 (va / 64) 255) (vs.length : Int) = (m : Int) ∧ m < vs.length := by
                  obtain ⟨t, ht, _⟩ := bits_lt (va / 64) 8 255 255 rfl (by decide) (by decide)
                  rw [ht]
                  have h2 := Int.tmod_lt_of_pos (t : Int) (show (0 : Int) < (vs.length : Int) by omega)
                  have h3 := Int.tmod_nonneg (vs.length : Int) (show (0 : Int) ≤ (t : Int) by omega)
                  exact ⟨(Int.tmod (t : Int) (vs.length : Int)).toNat, by omega, by omega⟩
                obtain ⟨bd, D, f, eb, h0, l0, gD⟩ := at_L1 (Kd.C_below HVS.out HB.out) (m : Int) (by omega) (by omega)
                cases eb
                simp only [Int.toNat_natCast] at h0
                have k5 := cell_old (below_alloc (Below.refl w1.heap.size w1) (.cells #[.int .u8 (i : Int)] 5)) h0
                have HD := Aside0.mk gD
                have HDf := Aside0.mk l0
                have H60 := Aside0.mk (HL.out m hml)
                clear gD l0 h0
                have hq : Go.bits .and .i64 va 3 = 3 := by assumption
                have HW1 := HB
                go_wp2_with fail
                clear k2 k3 k4 hq d4 hm d5 k5
                have HX := Aside0.mk (Below.refl w1.heap.size w1)
                obtain ⟨V3, hV3⟩ : ∃ V_, V_ = (((w1.alloc (.cells #[.int .u8 (i : Int)] 5)).alloc (.cells #[.int .i64 0, .slice none 0 0, .int .i64 0] 26)).alloc (.cells #[.int .i64 0, .slice none 0 0, .int .i64 0] 26)) := ⟨_, rfl⟩
                rw [← hV3]
                replace HX := Aside0.mk (show Below w1.heap.size w1 V3 by rw [hV3]; exact (below_alloc (below_alloc (below_alloc (Below.refl w1.heap.size w1) (.cells #[.int .u8 (i : Int)] 5)) (.cells #[.int .i64 0, .slice none 0 0, .int .i64 0] 26)) (.cells #[.int .i64 0, .slice none 0 0, .int .i64 0] 26)))
                have HL0 : Aside0 (V3.heap[w1.heap.size]? = some (.cells #[.int .u8 (i : Int)] 5 (0, 0))) := Aside0.mk (by rw [hV3]; have h_ := blk_alloc (blk_alloc (heap_alloc_self w1 (.cells #[.int .u8 (i : Int)] 5)) (.cells #[.int .i64 0, .slice none 0 0, .int .i64 0] 26)) (.cells #[.int .i64 0, .slice none 0 0, .int .i64 0] 26); simpa using h_)
                have P1 : Aside0 (V3.heap[(w1.heap.size + 1)]? = some (.cells #[.int .i64 0, .slice none 0 0, .int .i64 0] 26 (0, 0))) := Aside0.mk (by rw [hV3]; have h_ := blk_alloc (heap_alloc_self (w1.alloc (.cells #[.int .u8 (i : Int)] 5)) (.cells #[.int .i64 0, .slice none 0 0, .int .i64 0] 26)) (.cells #[.int .i64 0, .slice none 0 0, .int .i64 0] 26); simpa using h_)
                have P2 : Aside0 (V3.heap[(w1.heap.size + 2)]? = some (.cells #[.int .i64 0, .slice none 0 0, .int .i64 0] 26 (0, 0))) := Aside0.mk (by rw [hV3]; have h_ := heap_alloc_self ((w1.alloc (.cells #[.int .u8 (i : Int)] 5)).alloc (.cells #[.int .i64 0, .slice none 0 0, .int .i64 0] 26)) (.cells #[.int .i64 0, .slice none 0 0, .int .i64 0] 26); simpa using h_)
                have HV3 : Aside0 (V3.heap.size = w1.heap.size + 3) := Aside0.mk (by rw [hV3]; simp)
                have HLO := Aside0.mk (Nat.le_refl V3.heap.size)
                clear hV3
                refine (get_x8 (l := l) (k := (kk N)) HLV.out Hn.out rfl (Kd.C_below HCA.out HX.out) Hc.out (Kd.C_below HK.out HX.out) Hck.out).mono ?_
                rintro e w4 ⟨Av4, cv4, rfl, hcv4, hV4, hb_⟩
                replace HX := Aside0.mk (below_then HX.out HX.out.size hb_)
                replace HL0 := Aside0.mk (blk3_keep HL0.out hb_)
                replace P1 := Aside0.mk (blk3_keep P1.out hb_)
                replace P2 := Aside0.mk (blk3_keep P2.out hb_)
                have LFw4 := HLO
                have Fw4 := Aside0.mk (Same.refl V3 w4)
                have ZFw4 := Aside0.mk (Nat.le_refl w4.heap.size)
                replace HLO := Aside0.mk (Nat.le_trans HLO.out hb_.size)
                have O4 := Aside0.mk (show _ ∧ _ from ⟨hcv4, hV4⟩)
                clear hcv4 hV4 hb_
                go_wp2_with fail
                refine (get_x14 (l := l) (k := (kk N)) HLV.out Hn.out rfl (Kd.C_below HCB.out HX.out) Hd.out (Kd.C_below HK.out HX.out) Hck.out).mono ?_
                rintro e w5 ⟨Av5, cv5, rfl, hcv5, hV5, hb_⟩
                replace HX := Aside0.mk (below_then HX.out HX.out.size hb_)
                replace HL0 := Aside0.mk (blk3_keep HL0.out hb_)
                replace P1 := Aside0.mk (blk3_keep P1.out hb_)
                replace P2 := Aside0.mk (blk3_keep P2.out hb_)
                replace Fw4 := Aside0.mk (Fw4.out.step ZFw4.out hb_)
                replace ZFw4 := Aside0.mk (Nat.le_trans ZFw4.out hb_.size)
                have LFw5 := HLO
                have Fw5 := Aside0.mk (Same.refl w4 w5)
                have ZFw5 := Aside0.mk (Nat.le_refl w5.heap.size)
                replace HLO := Aside0.mk (Nat.le_trans HLO.out hb_.size)
                have O5 := Aside0.mk (show _ ∧ _ from ⟨hcv5, hV5⟩)
                clear hcv5 hV5 hb_
                obtain ⟨y0, y1, y2, y3⟩ := blk_cells3 P1.out
                have y30 := y3 0
                have y31 := y3 1
                have y32 := y3 2
                clear y3
                obtain ⟨x0, x1, x2, x3⟩ := blk_cells3 P2.out
                have x30 := x3 0
                have x31 := x3 1
                have x32 := x3 2
                clear x3
                go_wp2_with fail
                clear x0 x1 x2 x30 x31 x32
                clear y0 y1 y2 y30 y31 y32
                obtain ⟨U4, hU4⟩ : ∃ V_, V_ = (((w5.setCell ⟨(w1.heap.size + 1), 0, none⟩ (.int .i64 (getR l (kk N)).f0)).setCell ⟨(w1.heap.size + 1), 1, none⟩ (.slice Av4 (getR l (kk N)).f1.length cv4)).setCell ⟨(w1.heap.size + 1), 2, none⟩ (.int .i64 (getR l (kk N)).f2)) := ⟨_, rfl⟩
                rw [← hU4]
                have hv3_ := HV3.out
                replace HX := Aside0.mk (show Below w1.heap.size w1 U4 by rw [hU4]; exact ((HX.out.setCell (p := ⟨(w1.heap.size + 1), 0, none⟩) (by show w1.heap.size ≤ (w1.heap.size + 1); omega) _).setCell (p := ⟨(w1.heap.size + 1), 1, none⟩) (by show w1.heap.size ≤ (w1.heap.size + 1); omega) _).setCell (p := ⟨(w1.heap.size + 1), 2, none⟩) (by show w1.heap.size ≤ (w1.heap.size + 1); omega) _)
                replace HL0 := Aside0.mk (show U4.heap[w1.heap.size]? = some (.cells #[.int .u8 (i : Int)] 5 (0, 0)) by rw [hU4]; exact (keep_put3 _ _ _ _ _ _ _ _ _ (by omega)).trans HL0.out)
                replace P1 := Aside0.mk (show U4.heap[(w1.heap.size + 1)]? = some (.cells #[.int .i64 (getR l (kk N)).f0, .slice Av4 (getR l (kk N)).f1.length cv4, .int .i64 (getR l (kk N)).f2] 26 (0, 0)) by rw [hU4]; exact blk_put (cs := #[.int .i64 (getR l (kk N)).f0, .slice Av4 (getR l (kk N)).f1.length cv4, .int .i64 0]) (blk_put (cs := #[.int .i64 (getR l (kk N)).f0, .slice none 0 0, .int .i64 0]) (blk_put (cs := #[.int .i64 0, .slice none 0 0, .int .i64 0]) P1.out 0 _ rfl) 1 _ rfl) 2 _ rfl)
                replace P2 := Aside0.mk (show U4.heap[(w1.heap.size + 2)]? = some (.cells #[.int .i64 0, .slice none 0 0, .int .i64 0] 26 (0, 0)) by rw [hU4]; exact (keep_put3 _ _ _ _ _ _ _ _ _ (by omega)).trans P2.out)
                replace Fw4 := Aside0.mk (show Same _ _ U4 by rw [hU4]; exact Fw4.out.put3 (by have := LFw4.out; omega))
                replace ZFw4 := Aside0.mk (show _ ≤ U4.heap.size by rw [hU4, size3]; exact ZFw4.out)
                replace Fw5 := Aside0.mk (show Same _ _ U4 by rw [hU4]; exact Fw5.out.put3 (by have := LFw5.out; omega))
                replace ZFw5 := Aside0.mk (show _ ≤ U4.heap.size by rw [hU4, size3]; exact ZFw5.out)
                replace HLO := Aside0.mk (show _ ≤ U4.heap.size by rw [hU4, size3]; exact HLO.out)
                clear hU4 hv3_
                obtain ⟨U5, hU5⟩ : ∃ V_, V_ = (((U4.setCell ⟨(w1.heap.size + 2), 0, none⟩ (.int .i64 (getR l (kk N)).f0)).setCell ⟨(w1.heap.size + 2), 1, none⟩ (.slice Av5 (getR l (kk N)).f1.length cv5)).setCell ⟨(w1.heap.size + 2), 2, none⟩ (.int .i64 (getR l (kk N)).f2)) := ⟨_, rfl⟩
                rw [← hU5]
                have hv3_ := HV3.out
                replace HX := Aside0.mk (show Below w1.heap.size w1 U5 by rw [hU5]; exact ((HX.out.setCell (p := ⟨(w1.heap.size + 2), 0, none⟩) (by show w1.heap.size ≤ (w1.heap.size + 2); omega) _).setCell (p := ⟨(w1.heap.size + 2), 1, none⟩) (by show w1.heap.size ≤ (w1.heap.size + 2); omega) _).setCell (p := ⟨(w1.heap.size + 2), 2, none⟩) (by show w1.heap.size ≤ (w1.heap.size + 2); omega) _)
                replace HL0 := Aside0.mk (show U5.heap[w1.heap.size]? = some (.cells #[.int .u8 (i : Int)] 5 (0, 0)) by rw [hU5]; exact (keep_put3 _ _ _ _ _ _ _ _ _ (by omega)).trans HL0.out)
                replace P1 := Aside0.mk (show U5.heap[(w1.heap.size + 1)]? = some (.cells #[.int .i64 (getR l (kk N)).f0, .slice Av4 (getR l (kk N)).f1.length cv4, .int .i64 (getR l (kk N)).f2] 26 (0, 0)) by rw [hU5]; exact (keep_put3 _ _ _ _ _ _ _ _ _ (by omega)).trans P1.out)
                replace P2 := Aside0.mk (show U5.heap[(w1.heap.size + 2)]? = some (.cells #[.int .i64 (getR l (kk N)).f0, .slice Av5 (getR l (kk N)).f1.length cv5, .int .i64 (getR l (kk N)).f2] 26 (0, 0)) by rw [hU5]; exact blk_put (cs := #[.int .i64 (getR l (kk N)).f0, .slice Av5 (getR l (kk N)).f1.length cv5, .int .i64 0]) (blk_put (cs := #[.int .i64 (getR l (kk N)).f0, .slice none 0 0, .int .i64 0]) (blk_put (cs := #[.int .i64 0, .slice none 0 0, .int .i64 0]) P2.out 0 _ rfl) 1 _ rfl) 2 _ rfl)
                replace Fw4 := Aside0.mk (show Same _ _ U5 by rw [hU5]; exact Fw4.out.put3 (by have := LFw4.out; omega))
                replace ZFw4 := Aside0.mk (show _ ≤ U5.heap.size by rw [hU5, size3]; exact ZFw4.out)
                replace Fw5 := Aside0.mk (show Same _ _ U5 by rw [hU5]; exact Fw5.out.put3 (by have := LFw5.out; omega))
                replace ZFw5 := Aside0.mk (show _ ≤ U5.heap.size by rw [hU5, size3]; exact ZFw5.out)
                replace HLO := Aside0.mk (show _ ≤ U5.heap.size by rw [hU5, size3]; exact HLO.out)
                clear hU5 hv3_
                refine (same15 (r := (getR l (kk N))) rfl (O4.out.2 _ Fw4.out.at) O4.out.1 (O5.out.2 _ Fw5.out.at) O5.out.1).mono ?_
                rintro e w6 ⟨rfl, hb_⟩
                replace HX := Aside0.mk (below_then HX.out HX.out.size hb_)
                clear hb_
                have C4 := Aside0.mk (Kd.C_below HCA.out HX.out)
                have C5 := Aside0.mk (Kd.C_below HCB.out HX.out)
                go_wp2_with fail
                refine (same7 A B c d n l w6 Hn.out C4.out C5.out).mono ?_
                rintro e w7 ⟨rfl, hb_⟩
                have HPI := Aside0.mk (show PI w n A c B d w7 from ⟨l, HLV.out, Hn.out, Hc.out, Hd.out, Kd.C_below C4.out hb_, Kd.C_below C5.out hb_, below_then (below_then HW1.out HW1.out.size HX.out) (Nat.le_trans HW1.out.size HX.out.size) hb_⟩)
                clear hb_
                go_wp2_with fail
                go_roundw
                case rel => exact ⟨i + 1, n, A, c, B, d, by go_num, rfl, rfl, by omega, HPI⟩
                case measure => simp [intOf]; omega
          · have d2 : decide ((i : Int) < (la : Int)) = true := decide_eq_true (by omega)
            obtain rfl : i = 50 := by omega
            have HB := Aside0.mk HI.out.choose_spec.2.2.2.2.2.2
            clear HI
            go_wp2_with fail
            refine (awake9 _).mono ?_
            rintro e w1 ⟨rfl, hb1⟩
            have HB1 := Aside0.mk (below_then HB.out HB.out.size hb1)
            clear hb1
            go_wp2_with fail
            go_ret
            exact ⟨rfl, HB1.out⟩
        · have d2 : decide ((i : Int) < (la : Int)) = false := decide_eq_false (by omega)
          have HB := Aside0.mk HI.out.choose_spec.2.2.2.2.2.2
          clear HI
          go_wp2_with fail
          refine (awake9 _).mono ?_
          rintro e w1 ⟨rfl, hb1⟩
          have HB1 := Aside0.mk (below_then HB.out HB.out.size hb1)
          clear hb1
          go_wp2_with fail
          go_ret
          exact ⟨rfl, HB1.out⟩
end Go.Proofs.Ytiodnbeifgnhcaa.Ms
namespace Go.Proofs.Ytiodnbeifgnhcaa.mapsPlays
open Go.ChangeShapes Go.WideShapes Go.ChangeAt Go.RowKit Go.Proofs.YtiodnbeifgnhcaaW
open Go.ChangeMaps (open_string shut_string)
theorem own : ownKnob Try.prog.godebug = none := by kernel_rfl
theorem laidOut : laidOutB Try.prog = true := by kernel_rfl
def IsRow (k : IntKind) (w : World) (a : Option Addr) (len cap : Nat) (zs : List Int) : Prop :=
  (a = none ∧ len = 0 ∧ cap = 0 ∧ zs = []) ∨
  ∃ x, a = some x ∧ len ≤ cap ∧ cap ≤ maxLen ∧ zs.length = cap ∧ (∀ i, i < zs.length → w.cell? (x.add i) = some (.int k (zs.getD i 0))) ∧ ∀ n ∈ zs, (Lit.int k n).wf = true
theorem rowI {w : World} {a : Option Addr} {len cap : Nat} {zs : List Int} (h : IsRow .i64 w a len cap zs) : Ms.RowI w a len := by
  intro h0
  rcases h with ⟨_, rfl, _⟩ | ⟨x, rfl, h1, h2, h3, h4, _⟩
  · exact absurd h0 (Nat.lt_irrefl 0)
  · exact ⟨x, rfl, fun j hj => ⟨_, h4 j (by omega)⟩⟩
set_option maxRecDepth 100000 in
theorem lifted (os : Os) (started : os.Started) (H : Type) (enc : TypeId × Value → H) :
    ReturnsInHanded {} Try.checked os 4 .any (Rows.mapsPlaysSpec.pre6 enc Try.prog Try.f4 Rows.mapsPlaysRow.domain false) (Rows.mapsPlaysSpec.post enc Try.prog Try.f4 false true false false) := by
  refine returnsInHanded_of_change_sized (C := Try.checked) own started (by kernel_rfl) Try.func4
    (ChangeSpec.witness6 (enc := enc) (C := Try.checked) false ⟨#[], #[.slice none 0 0, .slice none 0 0], []⟩ 8 (by kernel_rfl) (by kernel_rfl) (by kernel_rfl) (by kernel_rfl)) ?_
  intro W base args ds gs before hval0 hW hcnd hsz0 _
  have hsz : (DataW.weightsEach Try.prog (Try.f4.params.toList ++ Rows.mapsPlaysSpec.plain.varTypes Try.prog) (ds ++ gs)).all (· ≤ reachBytes) = true := hsz0
  have hval : ∀ (j : Nat) t v, Try.f4.params[j]? = some t → args[j]? = some v → Value.okWide Try.prog W .any base t v := hval0
  have hW' := hW
  obtain ⟨p, q, hA0, hV, rfl, hfz, hnd⟩ := hW
  have hA : DataW.TrodAll enc Try.prog W 0 (fun _ => true) true Try.f4.params.toList args.toList ds p := hA0
  rw [Try.params4] at hA hval hsz
  obtain ⟨v0, vs0, d0, ds0, p0, q0, hargs, rfl, rfl, h0, r0⟩ := trodAll_cons hA
  obtain ⟨v1, vs1, d1, ds1, p1, q1, rfl, rfl, rfl, h1, r1⟩ := trodAll_cons r0
  obtain ⟨rfl, rfl, rfl⟩ := trodAll_nil r1
  obtain rfl : args = #[v0, v1] := by cases args; simp_all
  obtain ⟨rfl, rfl⟩ := trodVars_none hV
  obtain ⟨a0, len0, cap0, rfl⟩ := okWide_slice Try.underlying35 (hval 0 35 v0 rfl rfl)
  have k0 := h0
  have lt0 : ∀ x ∈ p0, x.block < W.heap.size := by obtain ⟨m, hm⟩ := k0; exact DataW.trod_lt m _ _ _ hm
  obtain ⟨z0, w0⟩ : ∃ zs, IsRow .i64 W a0 len0 cap0 zs := by
    obtain ⟨fuel, hf⟩ := h0
    rcases open_ints Try.underlying35 Try.underlying3 (by kernel_rfl) hf with ⟨hcs, _⟩ | ⟨x, l, c, zs, hcs, _, hl, hm, hz, _, hcell, hwz⟩
    · simp [Value.cells] at hcs
      obtain ⟨rfl, rfl, rfl⟩ := hcs
      exact ⟨[], .inl ⟨rfl, rfl, rfl, rfl⟩⟩
    · simp [Value.cells] at hcs
      obtain ⟨rfl, rfl, rfl⟩ := hcs
      exact ⟨zs, .inr ⟨_, rfl, hl, hm, by simpa using hz, hcell, hwz⟩⟩
  have y0 : len0 * 8 ≤ 140737488351232 := PrintWords.sized_ints hsz (j := 0) (t := 35) rfl rfl Try.underlying35 Try.underlying3 (by kernel_rfl) (by kernel_rfl) h0
  obtain ⟨a1, len1, cap1, rfl⟩ := okWide_slice Try.underlying36 (hval 1 36 v1 rfl rfl)
  have k1 := h1
  have lt1 : ∀ x ∈ p1, x.block < W.heap.size := by obtain ⟨m, hm⟩ := k1; exact DataW.trod_lt m _ _ _ hm
  obtain ⟨z1, hz1, w1⟩ : ∃ vs : List (List Int), vs.length = len1 ∧ PrintWords.Kd.C (PrintWords.Kd.slice 5 (PrintWords.Kd.int .u8)) W a1 vs.length vs := by
    obtain ⟨fuel, hf⟩ := h1
    rcases Go.Deep.open_int_rows Try.underlying36 Try.underlying24 Try.underlying5 (by kernel_rfl) (by kernel_rfl) hf with ⟨hcs, _⟩ | ⟨x, l, c, A, L, C, Z, hcs, _, hl, hm, _, hrow⟩
    · simp [Value.cells] at hcs
      obtain ⟨rfl, rfl, rfl⟩ := hcs
      exact ⟨[], rfl, rfl, by decide, fun h => absurd h (by decide)⟩
    · simp [Value.cells] at hcs
      obtain ⟨rfl, rfl, rfl⟩ := hcs
      exact Ms.rows_C hl hm hrow
  subst hz1
  clear hA0 hval0 hsz0 hsz
  refine (Ms.plays_calls a0 a1 len0 cap0 cap1 z1 W (rowI w0) (by omega) w1).mono fun e W' ⟨he, bel⟩ => ?_
  subst he
  exact ⟨_, rfl, _, _, _, [], _, [], hW', trodAll_mk1 (shut_bool Try.underlying4 _), (trodAll_cons_mk (Below.trod laidOut (by kernel_rfl) (of_decide_eq_true (by kernel_rfl)) k0 bel lt0) (trodAll_cons_mk (Below.trod laidOut (by kernel_rfl) (of_decide_eq_true (by kernel_rfl)) k1 bel lt1) trodAll_mk0)), rfl, bel.frame _, fun h => by cases h⟩
theorem over : Rows.mapsPlaysRow.holds Try.pinned (OpenSpec.ofChange Rows.mapsPlaysSpec) :=
  OpenClaim.holds_of_wide 4 Try.f4 rfl rfl rfl rfl rfl rfl rfl ⟨rfl, rfl, rfl, rfl, rfl⟩ rfl rfl rfl rfl rfl (by kernel_rfl) Try.func4 (by kernel_rfl)
    (of_decide_eq_true (by kernel_rfl)) (by unfold Func.isWrapper; first | (rw [if_pos (by decide +kernel)]; kernel_rfl) | (rw [if_neg (by decide +kernel)]; exact ⟨rfl, rfl⟩))
    (fun os started H enc _ => lifted os started H enc)
theorem proved : Rows.MapsPlaysSaid := over
end Go.Proofs.Ytiodnbeifgnhcaa.mapsPlays
namespace Go.Proofs.Ytiodnbeifgnhcaa
/-- The row, under a short name, for the claim. -/
theorem mapsPlays_holds : Rows.MapsPlaysSaid := mapsPlays.proved
end Go.Proofs.Ytiodnbeifgnhcaa
