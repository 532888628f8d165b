/- MapsLast: a key holds what was put last, and is there just if it was put and not let go since: for any row of whole numbers that fits in memory. -/
import Derived.Lib.SliceRun
import Derived.Outline
import Derived.Test.YtiodnbeifgnhcaaRows
import Derived.WalkKit
import Derived.ProofKit
import Derived.OpenShut
import Derived.ShutString
import Derived.ChangeOld
import Derived.Below
import Derived.SizedLaws
import Derived.Test.YtiodnbeifgnhcaaWSized
import Derived.Deep.Matrix
import Derived.StringKeys
import Derived.Laws.Cover1
import Derived.Test.YtiodnbeifgnhcaaMaw
import Derived.Test.YtiodnbeifgnhcaaMm
import Derived.Test.YtiodnbeifgnhcaaMq
import Derived.Test.YtiodnbeifgnhcaaMky
namespace Go.Proofs.Ytiodnbeifgnhcaa.Ms
open Go.RowKit Go.Proofs.YtiodnbeifgnhcaaW.PrintWords Go.Proofs.YtiodnbeifgnhcaaW.PrintLast Go.Proofs.YtiodnbeifgnhcaaW.PrintMore
attribute [local go_sem] max2_int min2_int max_two min_two max_three min_three max_four min_four
set_option linter.unusedVariables false
set_option linter.unusedSimpArgs false

def lv (l : List S32) : Prop := l.length ≤ 8 ∧ ∀ x ∈ l, x.f0.length ≤ 60 ∧ x.f1.length ≤ 60
theorem lv_rd {l : List S32} (h : lv l) (i : Nat) (hi : i < l.length) : (rd_T32 l (i : Int)).f0.length ≤ 60 ∧ (rd_T32 l (i : Int)).f1.length ≤ 60 := by
  rw [rd_get l i hi]
  exact h.2 _ (List.getElem_mem hi)
theorem lv_put {l : List S32} {k v : List Int} (h : lv l) : lv (putR l k v).1 ∧ (putR l k v).2.f1.length ≤ 60 := by
  unfold putR
  split
  · exact ⟨h, Nat.zero_le _⟩
  · rename_i hkv
    split
    · rename_i ht
      have hx := lv_rd h _ (findR_lt l k ht)
      refine ⟨⟨by rw [List.length_set]; exact h.1, fun x hx' => ?_⟩, hx.2⟩
      rcases List.mem_or_eq_of_mem_set hx' with h' | rfl
      · exact h.2 x h'
      · exact ⟨hx.1, by show v.length ≤ 60; omega⟩
    · split
      · exact ⟨h, Nat.zero_le _⟩
      · have hfi := findR_le l k
        refine ⟨⟨by simp; omega, fun x hx => ?_⟩, Nat.zero_le _⟩
        rcases List.mem_append.1 hx with hx | hx
        · exact h.2 x (List.mem_of_mem_take hx)
        · rcases List.mem_cons.1 hx with rfl | hx
          · exact ⟨by show k.length ≤ 60; omega, by show v.length ≤ 60; omega⟩
          · exact h.2 x (List.mem_of_mem_drop hx)
theorem lv_del {l : List S32} {k : List Int} (h : lv l) : lv (delR l k).1 ∧ (delR l k).2.f1.length ≤ 60 := by
  unfold delR
  split
  · rename_i ht
    have hlt := findR_lt l k ht
    refine ⟨⟨by have := h.1; simp; omega, fun x hx => ?_⟩, (lv_rd h _ hlt).2⟩
    rcases List.mem_append.1 hx with hx | hx
    · exact h.2 x (List.mem_of_mem_take hx)
    · exact h.2 x (List.mem_of_mem_drop hx)
  · exact ⟨h, Nat.zero_le _⟩
theorem lv_get {l : List S32} {k : List Int} (h : lv l) : (getR l k).f1.length ≤ 60 := by
  unfold getR
  split
  · rename_i ht
    exact (lv_rd h _ (findR_lt l k ht)).2
  · exact Nat.zero_le _
def Same (w0 w w' : World) : Prop := ∀ k, w0.heap.size ≤ k → k < w.heap.size → w'.heap[k]? = w.heap[k]?
theorem Same.refl (w0 w : World) : Same w0 w w := fun _ _ _ => rfl
theorem Same.step {w0 w u u' : World} (h : Same w0 w u) (hs : w.heap.size ≤ u.heap.size) (hb : Below u.heap.size u u') : Same w0 w u' := fun k a b => (hb.block k (Nat.lt_of_lt_of_le b hs)).trans (h k a b)
theorem Same.put3 {w0 w u : World} {g o0 o1 o2 : Nat} {a0 a1 a2 : Value} (h : Same w0 w u) (hg : g < w0.heap.size) : Same w0 w (((u.setCell ⟨g, o0, none⟩ a0).setCell ⟨g, o1, none⟩ a1).setCell ⟨g, o2, none⟩ a2) := fun k a b => (keep_put3 _ _ _ _ _ _ _ _ _ (by omega)).trans (h k a b)
theorem Same.at {w0 w u : World} (h : Same w0 w u) : ∀ k, w0.heap.size ≤ k → k < w.heap.size → u.heap[k]? = w.heap[k]? := h
def Out (w w' : World) (P : World → Prop) : Prop := ∀ W, (∀ k, w.heap.size ≤ k → k < w'.heap.size → W.heap[k]? = w'.heap[k]?) → P W
theorem size3 (W : World) (g o0 o1 o2 : Nat) (a0 a1 a2 : Value) : (((W.setCell ⟨g, o0, none⟩ a0).setCell ⟨g, o1, none⟩ a1).setCell ⟨g, o2, none⟩ a2).heap.size = W.heap.size := by simp [World.setCell]
def PutAt2 (w : World) (l' : List S32) (r : S26) (e : Ending) (w' : World) : Prop := ∃ A' c' Av cv, e = .returned (.tuple #[.slice A' l'.length c', .agg #[.int .i64 r.f0, .slice Av r.f1.length cv, .int .i64 r.f2]]) ∧ l'.length ≤ c' ∧ Out w w' (fun W => Kd.C k32 W A' l'.length l') ∧ r.f1.length ≤ cv ∧ Out w w' (fun W => Kd.C (Kd.int .u8) W Av r.f1.length r.f1) ∧ Below w.heap.size w w'
theorem out_R {w w' : World} {v : Value} {xs : List Int} {A : Option Addr} {c n : Nat} (h : Kd.R (Kd.int .u8) 5 w' w.heap.size (fun _ => True) v xs) (e : v = .slice A n c) (en : n = xs.length) : Out w w' (fun W => Kd.C (Kd.int .u8) W A n xs) := by
  intro W hW
  obtain ⟨A', c', e', _, hC⟩ := Kd.R_reads (R_keep3 h (fun k a b _ => hW k a b))
  rw [e'] at e
  cases e
  exact hC
theorem PutEnd.at2 {w w' : World} {l' : List S32} {r : S26} {e : Ending} (h : PutEnd w l' r e w') : PutAt2 w l' r e w' := by
  obtain ⟨A, c, v, rfl, hc, hF, hV, hb⟩ := h
  obtain ⟨Av, cv, rfl, hcv, _⟩ := Kd.R_reads hV
  exact ⟨A, c, Av, cv, rfl, hc, fun W hW => Fr.C (Fr.keep hF hW), hcv, out_R hV rfl rfl, hb⟩
theorem put_x6 {A B D : Option Addr} {c d f n a b : Nat} {l : List S32} {k v : List Int} {w : World} (hl : lv l) (e1 : l.length = n) (e2 : k.length = a) (e3 : v.length = b) (hr : Kd.C k32 w A l.length l) (hc : n ≤ c) (hk : Kd.C (Kd.int .u8) w B k.length k) (hd : a ≤ d) (hvr : Kd.C (Kd.int .u8) w D v.length v) (hvf : b ≤ f) :
    Calls Try.prog 6 #[.slice A n c, .slice B a d, .slice D b f] w (PutAt2 w (putR l k v).1 (putR l k v).2) := by
  subst e1 e2 e3
  exact (put6 A B D c d f l k v w hr hc (by have := hl.1; omega) (fun x hx => by have := hl.2 x hx; omega) hk hd hvr hvf).mono (fun _ _ h => h.at2)
theorem put_x11 {A B D : Option Addr} {c d f n a b : Nat} {l : List S32} {k v : List Int} {w : World} (hl : lv l) (e1 : l.length = n) (e2 : k.length = a) (e3 : v.length = b) (hr : Kd.C k32 w A l.length l) (hc : n ≤ c) (hk : Kd.C (Kd.int .u8) w B k.length k) (hd : a ≤ d) (hvr : Kd.C (Kd.int .u8) w D v.length v) (hvf : b ≤ f) :
    Calls Try.prog 11 #[.slice A n c, .slice B a d, .slice D b f] w (PutAt2 w (putR l k v).1 (putR l k v).2) := by
  subst e1 e2 e3
  exact (rput11 A B D c d f l k v w hr hc (by have := hl.1; omega) (fun x hx => by have := hl.2 x hx; omega) hk hd hvr hvf).mono (fun _ _ h => h.at2)
theorem del_x12 {A B : Option Addr} {c d n a : Nat} {l : List S32} {k : List Int} {w : World} (hl : lv l) (e1 : l.length = n) (e2 : k.length = a) (hr : Kd.C k32 w A l.length l) (hc : n ≤ c) (hk : Kd.C (Kd.int .u8) w B k.length k) (hd : a ≤ d) :
    Calls Try.prog 12 #[.slice A n c, .slice B a d] w (PutAt2 w (delR l k).1 (delR l k).2) := by
  subst e1 e2
  exact (del12 A B c d l k w hr hc (by have := hl.1; omega) (fun x hx => by have := hl.2 x hx; omega) hk hd).mono (fun _ _ h => h.at2)
theorem del_x13 {A B : Option Addr} {c d n a : Nat} {l : List S32} {k : List Int} {w : World} (hl : lv l) (e1 : l.length = n) (e2 : k.length = a) (hr : Kd.C k32 w A l.length l) (hc : n ≤ c) (hk : Kd.C (Kd.int .u8) w B k.length k) (hd : a ≤ d) :
    Calls Try.prog 13 #[.slice A n c, .slice B a d] w (PutAt2 w (delR l k).1 (delR l k).2) := by
  subst e1 e2
  exact (rdel13 A B c d l k w hr hc (by have := hl.1; omega) (fun x hx => by have := hl.2 x hx; omega) hk hd).mono (fun _ _ h => h.at2)
theorem get_x8 {A B : Option Addr} {c d n a : Nat} {l : List S32} {k : List Int} {w : World} (hl : lv l) (e1 : l.length = n) (e2 : k.length = a) (hr : Kd.C k32 w A l.length l) (hc : n ≤ c) (hk : Kd.C (Kd.int .u8) w B k.length k) (hd : a ≤ d) :
    Calls Try.prog 8 #[.slice A n c, .slice B a d] w fun e w' => ∃ Av cv, e = .returned (.agg #[.int .i64 (getR l k).f0, .slice Av (getR l k).f1.length cv, .int .i64 (getR l k).f2]) ∧ (getR l k).f1.length ≤ cv ∧ Out w w' (fun W => Kd.C (Kd.int .u8) W Av (getR l k).f1.length (getR l k).f1) ∧ Below w.heap.size w w' := by
  subst e1 e2
  refine (get8 A B c d l k w hr hc hk hd (fun x hx => by have := hl.2 x hx; omega)).mono ?_
  rintro e w' ⟨v, rfl, hV, hb⟩
  obtain ⟨Av, cv, rfl, hcv, _⟩ := Kd.R_reads hV
  exact ⟨Av, cv, rfl, hcv, out_R hV rfl rfl, hb⟩
theorem get_x14 {A B : Option Addr} {c d n a : Nat} {l : List S32} {k : List Int} {w : World} (hl : lv l) (e1 : l.length = n) (e2 : k.length = a) (hr : Kd.C k32 w A l.length l) (hc : n ≤ c) (hk : Kd.C (Kd.int .u8) w B k.length k) (hd : a ≤ d) :
    Calls Try.prog 14 #[.slice A n c, .slice B a d] w fun e w' => ∃ Av cv, e = .returned (.agg #[.int .i64 (getR l k).f0, .slice Av (getR l k).f1.length cv, .int .i64 (getR l k).f2]) ∧ (getR l k).f1.length ≤ cv ∧ Out w w' (fun W => Kd.C (Kd.int .u8) W Av (getR l k).f1.length (getR l k).f1) ∧ Below w.heap.size w w' := by
  subst e1 e2
  refine (rget14 A B c d l k w hr hc hk hd (fun x hx => by have := hl.2 x hx; omega)).mono ?_
  rintro e w' ⟨v, rfl, hV, hb⟩
  obtain ⟨Av, cv, rfl, hcv, _⟩ := Kd.R_reads hV
  exact ⟨Av, cv, rfl, hcv, out_R hV rfl rfl, hb⟩
theorem bits_lt (n : Int) (p m : Nat) (e : Int) (he : e = ((m : Nat) : Int)) (hm : m < 2 ^ p) (hp : p < 60) : ∃ N : Nat, Go.bits .and .i64 n e = (N : Int) ∧ N ≤ m := by
  subst he
  simp only [Go.bits, BitVec.ofInt_natCast, BitVec.toNat_and]
  have h : (BitVec.ofInt IntKind.i64.bits n).toNat &&& (BitVec.ofNat IntKind.i64.bits m).toNat ≤ m := Nat.le_trans Nat.and_le_right (by rw [BitVec.toNat_ofNat]; exact Nat.mod_le _ _)
  have h2 : m < 2 ^ 60 := Nat.lt_of_lt_of_le hm (Nat.pow_le_pow_right (by decide) (by omega))
  generalize (BitVec.ofInt IntKind.i64.bits n).toNat &&& (BitVec.ofNat IntKind.i64.bits m).toNat = t at h ⊢
  exact ⟨t, by rw [IntKind.wrap_i64]; omega, h⟩
theorem keys_any (n : Int) (w : World) : Calls Try.prog 10 #[.int .i64 n] w fun e w' => ∃ N, N ≤ 15 ∧ KeyEnd w (kk N) e w' := by
  obtain ⟨N, hN, hn⟩ := bits_lt n 4 15 15 rfl (by decide) (by decide)
  exact (keys10 n N w hN hn).mono (fun _ _ h => ⟨N, hn, h⟩)
theorem same15 {A B : Option Addr} {c d n : Nat} {r : S26} {w : World} (e1 : r.f1.length = n) (hA : Kd.C (Kd.int .u8) w A r.f1.length r.f1) (hc : n ≤ c) (hB : Kd.C (Kd.int .u8) w B r.f1.length r.f1) (hd : n ≤ d) :
    Calls Try.prog 15 #[.agg #[.int .i64 r.f0, .slice A n c, .int .i64 r.f2], .agg #[.int .i64 r.f0, .slice B n d, .int .i64 r.f2]] w fun e w' => e = .returned (.bool true) ∧ Below w.heap.size w w' := by
  subst e1
  exact hocketref4_SameResult.calls r.f0 A c r.f1 r.f2 r.f0 B d r.f1 r.f2 true w hA hc hB hd (by simp [hocketref4_SameResult.f])
theorem rows_C {W : World} {x : Addr} {l c : Nat} {A : Nat → Option Addr} {L C : Nat → Nat} {Z : Nat → List Int} (hl : l ≤ c) (hm : c ≤ maxLen) (h : ∀ r, r < c → W.cell? (x.add r) = some (.slice (A r) (L r) (C r)) ∧ L r ≤ C r ∧ C r ≤ maxLen ∧ (Z r).length = C r ∧ (∀ n ∈ Z r, (Lit.int .u8 n).wf = true) ∧ (A r = none → C r = 0) ∧ ∀ a', A r = some a' → 0 ≤ a'.block ∧ ∀ j, j < C r → W.cell? (a'.add j) = some (.int .u8 ((Z r).getD j 0))) :
    ∃ vs : List (List Int), vs.length = l ∧ Kd.C (Kd.slice 5 (Kd.int .u8)) W (some x) vs.length vs := by
  refine ⟨(List.range l).map fun r => (Z r).take (L r), by simp, rfl, by simp; unfold maxLen at hm; omega, fun _ => ⟨x, rfl, fun j p hj => ?_⟩⟩
  have hjl : j < l := by have := (List.getElem?_eq_some_iff.1 hj).1; simpa using this
  rw [List.getElem?_map, List.getElem?_range hjl] at hj
  obtain rfl : (Z j).take (L j) = p := Option.some.inj hj
  obtain ⟨h1, h2, h3, h4, _, h6, h7⟩ := h j (by omega)
  have hlen : ((Z j).take (L j)).length = L j := by rw [List.length_take]; omega
  refine ⟨[.slice (A j) (L j) (C j)], rfl, ⟨A j, C j, by rw [hlen], by omega, rfl, by unfold maxLen at h3; omega, fun h0 => ?_⟩, fun i u hu => ?_⟩
  · cases hA : A j with
    | none => have := h6 hA; omega
    | some a' =>
      refine ⟨a', rfl, fun m p hm2 => ⟨[.int .u8 p], rfl, rfl, fun i u hu => ?_⟩⟩
      cases i with
      | zero =>
        obtain rfl := Option.some.inj hu
        have hml : m < L j := by have := (List.getElem?_eq_some_iff.1 hm2).1; omega
        have h8 := (h7 a' hA).2 m (by omega)
        rw [List.getElem?_take, if_pos hml] at hm2
        show W.cell? (a'.add (m * 1 + 0)) = _
        rw [Nat.mul_one, Nat.add_zero, h8, List.getD_eq_getElem?_getD, hm2]
        rfl
      | succ i => simp at hu
  · cases i with
    | zero =>
      obtain rfl := Option.some.inj hu
      show W.cell? (x.add (j * 1 + 0)) = _
      rw [Nat.mul_one, Nat.add_zero, h1]
    | succ i => simp at hu
def RowI (w : World) (a : Option Addr) (n : Nat) : Prop := 0 < n → ∃ ad, a = some ad ∧ ∀ j, j < n → ∃ v, w.cell? (ad.add j) = some (.int .i64 v)
theorem put_y6 {A B D : Option Addr} {c d f n a b : Nat} {l : List S32} {k v : List Int} {w : World} (hl : lv l) (e1 : l.length = n) (e2 : k.length = a) (e3 : v.length = b) (hr : Kd.C k32 w A l.length l) (hc : n ≤ c) (hk : Kd.C (Kd.int .u8) w B k.length k) (hd : a ≤ d) (hvr : Kd.C (Kd.int .u8) w D v.length v) (hvf : b ≤ f) :
    Calls Try.prog 6 #[.slice A n c, .slice B a d, .slice D b f] w (PutEnd w (putR l k v).1 (putR l k v).2) := by
  subst e1 e2 e3
  exact put6 A B D c d f l k v w hr hc (by have := hl.1; omega) (fun x hx => by have := hl.2 x hx; omega) hk hd hvr hvf
theorem del_y12 {A B : Option Addr} {c d n a : Nat} {l : List S32} {k : List Int} {w : World} (hl : lv l) (e1 : l.length = n) (e2 : k.length = a) (hr : Kd.C k32 w A l.length l) (hc : n ≤ c) (hk : Kd.C (Kd.int .u8) w B k.length k) (hd : a ≤ d) :
    Calls Try.prog 12 #[.slice A n c, .slice B a d] w (PutEnd w (delR l k).1 (delR l k).2) := by
  subst e1 e2
  exact del12 A B c d l k w hr hc (by have := hl.1; omega) (fun x hx => by have := hl.2 x hx; omega) hk hd
theorem kk_len (N : Nat) (h : N ≤ 15) : (kk N).length ≤ 9 := by
  have := (by decide +kernel : ∀ n : Nat, n < 16 → (kk n).length ≤ 9)
  exact this N (by omega)
theorem one_cell {w : World} {A : Option Addr} {v : Int} (h : Kd.C (Kd.int .u8) w A 1 [v]) : ∃ ad, A = some ad ∧ w.cell? ad = some (.int .u8 v) := by
  obtain ⟨_, _, h⟩ := h
  obtain ⟨ad, rfl, hc⟩ := h (by decide)
  obtain ⟨c, _, hk, hcc⟩ := hc 0 v rfl
  refine ⟨ad, rfl, ?_⟩
  have hk : c = [.int .u8 v] := hk
  subst hk
  have h1 := hcc 0 _ rfl
  rwa [Nat.zero_mul, Addr.add_zero'] at h1
theorem find_self {l : List S32} {j : Nat} (hj : j < l.length) : (findR l l[j].f0).2 = true := by
  cases ht : (findR l l[j].f0).2 with
  | true => rfl
  | false =>
    have := no_key ht j hj
    rw [rd_get l j hj, sameB_iff.2 rfl] at this
    cases this

theorem own_move {b n : Nat} {D : DataW Unit} {w w' : World} (h : w.ownsMap Try.prog 9 (plainElem Try.prog 5) b n D) (hk : w'.heap[b]? = w.heap[b]?) : w'.ownsMap Try.prog 9 (plainElem Try.prog 5) b n D := by
  obtain ⟨es, clock, hb, F, hs, hD⟩ := h
  exact ⟨es, clock, hk.trans hb, F, hs, hD⟩
theorem own_below {b n : Nat} {D : DataW Unit} {w w' : World} (h : w.ownsMap Try.prog 9 (plainElem Try.prog 5) b n D) (hk : Below w.heap.size w w') : w'.ownsMap Try.prog 9 (plainElem Try.prog 5) b n D := own_move h (hk.block b h.lt)
theorem turned_grown {w w' : World} {b : Nat} (h : w.mapTurned w' b) : w.grownBy w' (some b) := by
  obtain ⟨es, clock, es', clock', hb, rfl⟩ := h
  exact ⟨rfl, rfl, rfl, by simp [ChangeMaps.setBlock], fun i _ hi => ChangeMaps.heap_setBlock_other hb _ (fun e => hi (by rw [e]))⟩
theorem key_of (k : List Int) (h : k.length ≤ 1000) : keyOf Try.prog 9 (.string (strOfNums k)) = some (.string (Lib.bytesOf k)) := by
  rw [keyOf_string Try.underlying9]
  simp only [mapKey, Try.underlying9]
  rw [if_pos (by rw [strOfNums_size]; unfold maxLen; omega)]
  rfl
theorem zero5 (w : World) : (zeroValue 5).run Try.prog w = .ok (.int .u8 0) w := by kernel_rfl
theorem look_key {b n : Nat} {D : DataW Unit} {l : List S32} {w : World} (h : w.ownsMap Try.prog 9 (plainElem Try.prog 5) b n D) (hm : Mir D l) (k : List Int) (hk : k.length ≤ 1000) :
    ∃ c, (Instr.lookup 42 (.map (some b)) (.string (strOfNums k)) true).run Try.prog w = .ok (.tuple #[.int .u8 c, .bool (findR l k).2]) w ∧ D.atKey (.string (Lib.bytesOf k)) (.lit (.int .u8 0)) = .lit (.int .u8 c) := by
  obtain ⟨v, ps, hrun, hv⟩ := h.look_ok (Maps.string_keyed Try.underlying9) Try.underlying42 (zero5 w) (plainElem_int Try.underlying5 (by decide)) (key_of k hk)
  obtain ⟨c, rfl, hc, _⟩ := plainElem_int_inv Try.underlying5 hv
  rw [mir_has hm] at hrun
  exact ⟨c, hrun, congrArg Prod.fst hc⟩
def LI (w : World) (n : Nat) (A : Option Addr) (c : Nat) (i : Nat) (w' : World) : Prop := ∃ l D, lv l ∧ ones l ∧ Srt l ∧ Mir D l ∧ l.length = n ∧ n ≤ c ∧ Fr k32 32 w' (w.heap.size + 1) A l ∧ w'.ownsMap Try.prog 9 (plainElem Try.prog 5) w.heap.size i D ∧ Below w.heap.size w w'
set_option maxHeartbeats 1000000000 in
set_option maxRecDepth 100000 in
theorem last_calls (a : Option Addr) (la ca : Nat) (w : World) (ha : RowI w a la) (hla : la ≤ 9223372036854775807) :
    Calls Try.prog 5 #[.slice a la ca] w fun e w' => e = .returned (.bool true) ∧ Below w.heap.size w w' := by
  have HA := Aside0.mk ha
  clear ha
  have hmm : ∀ (w : World), (Instr.makeMap 42 none).run Try.prog w = .ok (.map (some w.heap.size)) (w.alloc (.map #[] 0)) := fun _ => rfl
  go_enter Try.func5, Try.ntmps5
  go_wp2_with fail
  clear hmm
  go_loopg [3, 5] 50 (fun gk v3 v5 w' => ∃ (i n : Nat) (A : Option Addr) (c : Nat), v5 = .int .i64 i ∧ v3 = .slice A n c ∧ i ≤ 50 ∧ gk = 50 - i ∧ Aside0 (LI w n A c i w'))
  case atStart => exact ⟨0, 0, none, 0, rfl, rfl, by omega, rfl, ⟨[], .map [], ⟨by decide, fun _ h => by simp at h⟩, fun _ h => by simp at h, List.Pairwise.nil, ⟨[], rfl, List.Perm.refl _⟩, rfl, Nat.zero_le _, .inl rfl, World.ownsMap_made _ _ _ _, below_alloc (Below.refl _ _) _⟩⟩
  case round =>
    obtain ⟨i, n, A, c, rfl, rfl, hi, rfl, HI⟩ := hrel
    by_cases h1 : i < la
    · by_cases h3 : i < 50
      · obtain ⟨l, D, hlv, hones, hsrt, hmir, hn, hc, hF, hM, hB⟩ := HI.out
        obtain ⟨ad, rfl, hca⟩ := HA.out (by omega)
        obtain ⟨va, hva⟩ := hca i h1
        have k1 := (hB.cell (World.block_lt_of_cell? w _ hva)).trans hva
        have HF := Aside0.mk hF
        have HM := Aside0.mk hM
        have HB := Aside0.mk hB
        have Hc := Aside0.mk hc
        have Hn := Aside0.mk hn
        have HLV := Aside0.mk hlv
        have HONE := Aside0.mk hones
        have HSRT := Aside0.mk hsrt
        have HMIR := Aside0.mk hmir
        have HVA := Aside0.mk hva
        have d2 : decide ((i : Int) < (la : Int)) = true := decide_eq_true (by omega)
        have d3 : decide ((i : Int) < 50) = true := decide_eq_true (by omega)
        have e2 : IntKind.u8.wrap (i : Int) = (i : Int) := by rw [IntKind.wrap_u8]; omega
        have e3 : IntKind.i64.wrap ((i : Int) + 1) = (i : Int) + 1 := by rw [IntKind.wrap_i64]; omega
        clear hF hM hB hc hn hlv hones hsrt hmir hca HI hva
        go_wp2_with fail
        refine (keys_any _ _).mono ?_
        rintro e w1 ⟨N, hN, Ak, ck, rfl, hck, hCk, hb_⟩
        have HK := Aside0.mk hCk
        have Hck := Aside0.mk hck
        replace HF := Aside0.mk (Fr.below HF.out hb_)
        replace HM := Aside0.mk (own_below HM.out hb_)
        replace HB := Aside0.mk (below_then HB.out HB.out.size hb_)
        have hkl : (kk N).length ≤ 9 := kk_len N hN
        have q1 := Kd.C_string (P := Try.prog) (A := Ak) (c := ck) Try.underlying24 Try.underlying5 Try.underlying9 HK.out
        obtain ⟨c0, z1, _⟩ := look_key HM.out HMIR.out (kk N) (by omega)
        have k2 := cell_old HB.out HVA.out
        obtain ⟨q, hq, hq3⟩ := bits_lt va 2 3 3 rfl (by decide) (by decide)
        clear hb_ hCk hck k1
        by_cases hq4 : q < 2
        · by_cases h8 : (kk N).length ≤ 8
          · cases ht : (findR l (kk N)).2 with
            | true =>
              as_aux_lemma =>
                have d7 : decide ((q : Int) < 2) = true := decide_eq_true (by omega)
                have hq2 := hq
                have d5 : decide (((kk N).length : Int) ≤ 8) = true := decide_eq_true (by omega)
                have hr0 : (putR l (kk N) [(i : Int)]).2.f0 = 0 := (put_err l _ _).2 ⟨by omega, .inl ht⟩
                rw [ht] at z1
                have HT := Aside0.mk ht
                clear ht
                have HR0 := Aside0.mk hr0
                clear hr0
                go_wp2_with fail
                clear q1 z1 k2 hq2 d7
                obtain ⟨V1, hV1⟩ : ∃ V_, V_ = w1.alloc (.cells #[.int .u8 (i : Int)] 5) := ⟨_, rfl⟩
                rw [← hV1]
                have hb_ : Below w1.heap.size w1 V1 := by rw [hV1]; exact below_alloc (Below.refl _ _) _
                have HL : V1.heap[w1.heap.size]? = some (.cells #[.int .u8 (i : Int)] 5 (0, 0)) := by rw [hV1]; exact heap_alloc_self _ _
                refine (put_y6 (l := l) (k := kk N) (v := [(i : Int)]) HLV.out Hn.out rfl rfl (Kd.C_below (Fr.C HF.out) hb_) Hc.out (Kd.C_below HK.out hb_) Hck.out (lit_u8 [(i : Int)] HL (show 1 ≤ _ by decide) rfl) (Nat.le_refl 1)).mono ?_
                rintro e w2 ⟨A2, c2, v2, rfl, hc2, hF2, hV2, hb2⟩
                obtain ⟨Av, cv, rfl⟩ := Kd.R_slice hV2
                clear hV2
                rw [HR0.out]
                obtain ⟨V2, hV2⟩ : ∃ V_, V_ = w2.alloc (.cells #[.int .i64 0, .slice Av (putR l (kk N) [(i : Int)]).2.f1.length cv, .int .i64 (putR l (kk N) [(i : Int)]).2.f2] 26) := ⟨_, rfl⟩
                have hbx : Below w1.heap.size w1 V2 := by rw [hV2]; exact below_alloc (below_then hb_ hb_.size hb2) _
                have hbz : w2.heap.size ≤ V2.heap.size := by rw [hV2]; simp
                have hF3 : Fr k32 32 V2 (w.heap.size + 1) A2 (putR l (kk N) [(i : Int)]).1 := by rw [hV2]; exact Fr.lower (Fr.below hF2 (below_alloc (Below.refl _ _) _)) (by have h1 := HM.out.lt; have h2 := hb_.size; omega)
                have hM3 := own_below HM.out hbx
                have hB3 := below_then HB.out HB.out.size hbx
                have y1 := fun ty => hM3.len Try.underlying42 ty
                rw [mir_size HMIR.out, Hn.out] at y1
                obtain ⟨W3, yU, hM4, hg4⟩ := hM3.update (Maps.string_keyed Try.underlying9) Try.underlying42 (by unfold maxLen; omega) (key_of (kk N) (by omega)) (plainElem_int Try.underlying5 (a := (i : Int)) (by simp [Lit.wf, show IntKind.u8.min = 0 from rfl, show IntKind.u8.max = 255 from rfl]; omega))
                have hmir4 := mir_put HMIR.out HSRT.out HR0.out
                obtain ⟨n', hn'⟩ : ∃ n', n' = (putR l (kk N) [(i : Int)]).1.length := ⟨_, rfl⟩
                have y2 := fun ty => hM4.len Try.underlying42 ty
                rw [mir_size hmir4, ← hn'] at y2
                have q2 := Kd.C_string (P := Try.prog) (A := Ak) (c := ck) Try.underlying24 Try.underlying5 Try.underlying9 (Kd.C_below HK.out hbx)
                have HLI := Aside0.mk (show LI w n' A2 c2 (i + 1) W3 from ⟨(putR l (kk N) [(i : Int)]).1, _, (lv_put HLV.out).1, (ones_put HONE.out), (srt_put HSRT.out), hmir4, hn'.symm, by rw [hn']; exact hc2, Fr.keep hF3 (fun k a b => hg4.block k b (by simp; omega)), hM4, hB3.grown hg4 hB3.size (fun k hk => by cases hk; exact Nat.le_refl _)⟩)
                rw [← hn']
                clear hn' hc2 hF2 hF3 hM3 hB3 hM4 hmir4 hbx hbz hb2 hb_
                rw [hV2] at y1 q2 yU
                have HW3 := Aside0.mk (rfl : W3 = W3)
                clear hg4 hV2
                go_wp2_with fail
                clear HW3 y1 y2 q2 yU
                go_loopg [116] n' (fun gk v116 w' => ∃ j : Nat, v116 = .int .i64 j ∧ j ≤ n' ∧ gk = n' - j ∧ Aside0 (LI w n' A2 c2 (i + 1) w'))
                case atStart => exact ⟨0, rfl, Nat.zero_le _, rfl, HLI⟩
                case round =>
                  clear HLI
                  obtain ⟨j, rfl, hj, rfl, HLI⟩ := hrel
                  obtain ⟨l, D, hlv, hones, hsrt, hmir, hn, hc, hF, hM, hB⟩ := HLI.out
                  have e4 : IntKind.i64.wrap ((j : Int) + 1) = (j : Int) + 1 := by rw [IntKind.wrap_i64]; have := hlv.1; omega
                  by_cases hjl : j < n'
                  · have hbd := below_drew1 (Below.refl wr.heap.size wr)
                    have hjl' : j < l.length := by omega
                    have HLId := Aside0.mk (show LI w n' A2 c2 (i + 1) wr.drew from ⟨l, D, hlv, hones, hsrt, hmir, hn, hc, Fr.below hF hbd, own_below hM hbd, below_drew1 hB⟩)
                    obtain ⟨ad, A0, c0, A1, c1, e_, h0, h1_, l0, g0, l1, g1⟩ := at_T32 (Fr.C hF) (j : Int) (by omega) (by omega)
                    cases e_
                    rw [rd_get l j hjl'] at h0 h1_ l0 g0 l1 g1
                    obtain ⟨v, hv⟩ : ∃ v, l[j].f1 = [v] := by
                      have := hones _ (List.getElem_mem hjl')
                      match hf : l[j].f1, this with
                      | [v], _ => exact ⟨v, rfl⟩
                    rw [hv] at h1_ l1 g1
                    obtain ⟨bd, rfl, h2⟩ := one_cell g1
                    obtain ⟨cc, z1, hat⟩ := look_key hM hmir l[j].f0 (by have := hlv.2 _ (List.getElem_mem hjl'); omega)
                    rw [find_self hjl'] at z1
                    rw [mir_at hmir hsrt hjl', hv] at hat
                    obtain rfl : v = cc := by injection hat with h; injection h
                    have q1 := Kd.C_string (P := Try.prog) (A := A0) (c := c0) Try.underlying24 Try.underlying5 Try.underlying9 g0
                    have q2 := Kd.C_string (P := Try.prog) (A := A0) (c := c0) Try.underlying24 Try.underlying5 Try.underlying9 (Kd.C_below g0 hbd)
                    simp only [Int.toNat_natCast, List.length_cons, List.length_nil, Nat.zero_add] at h0 h1_
                    rcases Nat.eq_zero_or_pos j with rfl | hj0
                    · clear hlv hones hsrt hmir hc hF hM hB g0 l0 l1 hat hbd hv g1 HLI
                      simp only [Nat.zero_mul, Addr.add_zero'] at h0 h1_
                      go_wp2_with fail
                      go_region
                      have hHeld := trivial
                      clear q1 q2 z1 hHeld
                      go_wp2_with fail
                      go_roundg (n' - 1)
                      case rel => exact ⟨1, rfl, by omega, rfl, HLId⟩
                      case measure => omega
                    · have hj1 : j - 1 < l.length := by omega
                      obtain ⟨ad', P0, p0, P1, p1, e_, h0', _, _, g0', _, _⟩ := at_T32 (Fr.C hF) ((j - 1 : Nat) : Int) (by omega) (by omega)
                      cases e_
                      rw [rd_get l (j - 1) hj1] at h0' g0'
                      have q3 := Kd.C_string (P := Try.prog) (A := P0) (c := p0) Try.underlying24 Try.underlying5 Try.underlying9 (Kd.C_below g0' hbd)
                      have hs' : Op.bytesLess (strOfNums l[j - 1].f0).toList (strOfNums l[j].f0).toList = true := (lessB_eq _ _).trans (List.pairwise_iff_getElem.1 hsrt (j - 1) j hj1 hjl' (by omega))
                      simp only [Int.toNat_natCast] at h0'
                      have e5 : IntKind.i64.wrap ((j : Int) - 1) = ((j - 1 : Nat) : Int) := by rw [IntKind.wrap_i64]; have := hlv.1; omega
                      have e6 : ((j - 1 : Nat) : Int) < (n' : Int) := by omega
                      have e7 : (0 : Int) < (j : Int) := by omega
                      have e8 : decide ((0 : Int) < (j : Int)) = true := decide_eq_true e7
                      generalize l[j - 1].f0 = xa at h0' q3 hs'
                      generalize l[j].f0 = xb at h0 q1 q2 z1 hs'
                      clear hlv hones hsrt hmir hc hF hM hB g0 l0 l1 hat hbd hv g1 g0' HLI
                      go_wp2_with fail
                      go_region
                      have hHeld := trivial
                      clear q1 q2 q3 z1 hHeld
                      go_wp2_with fail
                      go_roundg (n' - (j + 1))
                      case rel => exact ⟨j + 1, by go_num, by omega, rfl, HLId⟩
                      case measure => omega
                  · obtain rfl : j = n' := by omega
                    clear hlv hones hsrt hmir hc hF hM hB hn
                    go_wp2_with fail
                    go_roundg (50 - (i + 1))
                    case rel => exact ⟨i + 1, j, A2, c2, by go_num, rfl, by omega, rfl, HLI⟩
                    case measure => omega
            | false =>
              by_cases hn8 : n < 8
              · skip
                as_aux_lemma =>
                  have d7 : decide ((q : Int) < 2) = true := decide_eq_true (by omega)
                  have hq2 := hq
                  have d5 : decide (((kk N).length : Int) ≤ 8) = true := decide_eq_true (by omega)
                  have hr0 : (putR l (kk N) [(i : Int)]).2.f0 = 0 := (put_err l _ _).2 ⟨by omega, .inr (by have := Hn.out; omega)⟩
                  have d6 : decide ((n : Int) < 8) = true := decide_eq_true (by omega)
                  rw [ht] at z1
                  have HT := Aside0.mk ht
                  clear ht
                  have HR0 := Aside0.mk hr0
                  clear hr0
                  go_wp2_with fail
                  clear q1 z1 k2 hq2 d7
                  obtain ⟨V1, hV1⟩ : ∃ V_, V_ = w1.alloc (.cells #[.int .u8 (i : Int)] 5) := ⟨_, rfl⟩
                  rw [← hV1]
                  have hb_ : Below w1.heap.size w1 V1 := by rw [hV1]; exact below_alloc (Below.refl _ _) _
                  have HL : V1.heap[w1.heap.size]? = some (.cells #[.int .u8 (i : Int)] 5 (0, 0)) := by rw [hV1]; exact heap_alloc_self _ _
                  refine (put_y6 (l := l) (k := kk N) (v := [(i : Int)]) HLV.out Hn.out rfl rfl (Kd.C_below (Fr.C HF.out) hb_) Hc.out (Kd.C_below HK.out hb_) Hck.out (lit_u8 [(i : Int)] HL (show 1 ≤ _ by decide) rfl) (Nat.le_refl 1)).mono ?_
                  rintro e w2 ⟨A2, c2, v2, rfl, hc2, hF2, hV2, hb2⟩
                  obtain ⟨Av, cv, rfl⟩ := Kd.R_slice hV2
                  clear hV2
                  rw [HR0.out]
                  obtain ⟨V2, hV2⟩ : ∃ V_, V_ = w2.alloc (.cells #[.int .i64 0, .slice Av (putR l (kk N) [(i : Int)]).2.f1.length cv, .int .i64 (putR l (kk N) [(i : Int)]).2.f2] 26) := ⟨_, rfl⟩
                  have hbx : Below w1.heap.size w1 V2 := by rw [hV2]; exact below_alloc (below_then hb_ hb_.size hb2) _
                  have hbz : w2.heap.size ≤ V2.heap.size := by rw [hV2]; simp
                  have hF3 : Fr k32 32 V2 (w.heap.size + 1) A2 (putR l (kk N) [(i : Int)]).1 := by rw [hV2]; exact Fr.lower (Fr.below hF2 (below_alloc (Below.refl _ _) _)) (by have h1 := HM.out.lt; have h2 := hb_.size; omega)
                  have hM3 := own_below HM.out hbx
                  have hB3 := below_then HB.out HB.out.size hbx
                  have y1 := fun ty => hM3.len Try.underlying42 ty
                  rw [mir_size HMIR.out, Hn.out] at y1
                  obtain ⟨W3, yU, hM4, hg4⟩ := hM3.update (Maps.string_keyed Try.underlying9) Try.underlying42 (by unfold maxLen; omega) (key_of (kk N) (by omega)) (plainElem_int Try.underlying5 (a := (i : Int)) (by simp [Lit.wf, show IntKind.u8.min = 0 from rfl, show IntKind.u8.max = 255 from rfl]; omega))
                  have hmir4 := mir_put HMIR.out HSRT.out HR0.out
                  obtain ⟨n', hn'⟩ : ∃ n', n' = (putR l (kk N) [(i : Int)]).1.length := ⟨_, rfl⟩
                  have y2 := fun ty => hM4.len Try.underlying42 ty
                  rw [mir_size hmir4, ← hn'] at y2
                  have q2 := Kd.C_string (P := Try.prog) (A := Ak) (c := ck) Try.underlying24 Try.underlying5 Try.underlying9 (Kd.C_below HK.out hbx)
                  have HLI := Aside0.mk (show LI w n' A2 c2 (i + 1) W3 from ⟨(putR l (kk N) [(i : Int)]).1, _, (lv_put HLV.out).1, (ones_put HONE.out), (srt_put HSRT.out), hmir4, hn'.symm, by rw [hn']; exact hc2, Fr.keep hF3 (fun k a b => hg4.block k b (by simp; omega)), hM4, hB3.grown hg4 hB3.size (fun k hk => by cases hk; exact Nat.le_refl _)⟩)
                  rw [← hn']
                  clear hn' hc2 hF2 hF3 hM3 hB3 hM4 hmir4 hbx hbz hb2 hb_
                  rw [hV2] at y1 q2 yU
                  have HW3 := Aside0.mk (rfl : W3 = W3)
                  clear hg4 hV2
                  go_wp2_with fail
                  clear HW3 y1 y2 q2 yU
                  go_loopg [116] n' (fun gk v116 w' => ∃ j : Nat, v116 = .int .i64 j ∧ j ≤ n' ∧ gk = n' - j ∧ Aside0 (LI w n' A2 c2 (i + 1) w'))
                  case atStart => exact ⟨0, rfl, Nat.zero_le _, rfl, HLI⟩
                  case round =>
                    clear HLI
                    obtain ⟨j, rfl, hj, rfl, HLI⟩ := hrel
                    obtain ⟨l, D, hlv, hones, hsrt, hmir, hn, hc, hF, hM, hB⟩ := HLI.out
                    have e4 : IntKind.i64.wrap ((j : Int) + 1) = (j : Int) + 1 := by rw [IntKind.wrap_i64]; have := hlv.1; omega
                    by_cases hjl : j < n'
                    · have hbd := below_drew1 (Below.refl wr.heap.size wr)
                      have hjl' : j < l.length := by omega
                      have HLId := Aside0.mk (show LI w n' A2 c2 (i + 1) wr.drew from ⟨l, D, hlv, hones, hsrt, hmir, hn, hc, Fr.below hF hbd, own_below hM hbd, below_drew1 hB⟩)
                      obtain ⟨ad, A0, c0, A1, c1, e_, h0, h1_, l0, g0, l1, g1⟩ := at_T32 (Fr.C hF) (j : Int) (by omega) (by omega)
                      cases e_
                      rw [rd_get l j hjl'] at h0 h1_ l0 g0 l1 g1
                      obtain ⟨v, hv⟩ : ∃ v, l[j].f1 = [v] := by
                        have := hones _ (List.getElem_mem hjl')
                        match hf : l[j].f1, this with
                        | [v], _ => exact ⟨v, rfl⟩
                      rw [hv] at h1_ l1 g1
                      obtain ⟨bd, rfl, h2⟩ := one_cell g1
                      obtain ⟨cc, z1, hat⟩ := look_key hM hmir l[j].f0 (by have := hlv.2 _ (List.getElem_mem hjl'); omega)
                      rw [find_self hjl'] at z1
                      rw [mir_at hmir hsrt hjl', hv] at hat
                      obtain rfl : v = cc := by injection hat with h; injection h
                      have q1 := Kd.C_string (P := Try.prog) (A := A0) (c := c0) Try.underlying24 Try.underlying5 Try.underlying9 g0
                      have q2 := Kd.C_string (P := Try.prog) (A := A0) (c := c0) Try.underlying24 Try.underlying5 Try.underlying9 (Kd.C_below g0 hbd)
                      simp only [Int.toNat_natCast, List.length_cons, List.length_nil, Nat.zero_add] at h0 h1_
                      rcases Nat.eq_zero_or_pos j with rfl | hj0
                      · clear hlv hones hsrt hmir hc hF hM hB g0 l0 l1 hat hbd hv g1 HLI
                        simp only [Nat.zero_mul, Addr.add_zero'] at h0 h1_
                        go_wp2_with fail
                        go_region
                        have hHeld := trivial
                        clear q1 q2 z1 hHeld
                        go_wp2_with fail
                        go_roundg (n' - 1)
                        case rel => exact ⟨1, rfl, by omega, rfl, HLId⟩
                        case measure => omega
                      · have hj1 : j - 1 < l.length := by omega
                        obtain ⟨ad', P0, p0, P1, p1, e_, h0', _, _, g0', _, _⟩ := at_T32 (Fr.C hF) ((j - 1 : Nat) : Int) (by omega) (by omega)
                        cases e_
                        rw [rd_get l (j - 1) hj1] at h0' g0'
                        have q3 := Kd.C_string (P := Try.prog) (A := P0) (c := p0) Try.underlying24 Try.underlying5 Try.underlying9 (Kd.C_below g0' hbd)
                        have hs' : Op.bytesLess (strOfNums l[j - 1].f0).toList (strOfNums l[j].f0).toList = true := (lessB_eq _ _).trans (List.pairwise_iff_getElem.1 hsrt (j - 1) j hj1 hjl' (by omega))
                        simp only [Int.toNat_natCast] at h0'
                        have e5 : IntKind.i64.wrap ((j : Int) - 1) = ((j - 1 : Nat) : Int) := by rw [IntKind.wrap_i64]; have := hlv.1; omega
                        have e6 : ((j - 1 : Nat) : Int) < (n' : Int) := by omega
                        have e7 : (0 : Int) < (j : Int) := by omega
                        have e8 : decide ((0 : Int) < (j : Int)) = true := decide_eq_true e7
                        generalize l[j - 1].f0 = xa at h0' q3 hs'
                        generalize l[j].f0 = xb at h0 q1 q2 z1 hs'
                        clear hlv hones hsrt hmir hc hF hM hB g0 l0 l1 hat hbd hv g1 g0' HLI
                        go_wp2_with fail
                        go_region
                        have hHeld := trivial
                        clear q1 q2 q3 z1 hHeld
                        go_wp2_with fail
                        go_roundg (n' - (j + 1))
                        case rel => exact ⟨j + 1, by go_num, by omega, rfl, HLId⟩
                        case measure => omega
                    · obtain rfl : j = n' := by omega
                      clear hlv hones hsrt hmir hc hF hM hB hn
                      go_wp2_with fail
                      go_roundg (50 - (i + 1))
                      case rel => exact ⟨i + 1, j, A2, c2, by go_num, rfl, by omega, rfl, HLI⟩
                      case measure => omega
              · skip
                as_aux_lemma =>
                  have d7 : decide ((q : Int) < 2) = true := decide_eq_true (by omega)
                  have hq2 := hq
                  have d5 : decide (((kk N).length : Int) ≤ 8) = true := decide_eq_true (by omega)
                  have hr0 : (putR l (kk N) [(i : Int)]).2.f0 = 3 := by rw [putR, if_neg (by simp; omega), ht, if_neg (by simp), if_pos (by have := Hn.out; omega)]
                  have d6 : decide ((n : Int) < 8) = false := decide_eq_false (by omega)
                  rw [ht] at z1
                  have HT := Aside0.mk ht
                  clear ht
                  have HR0 := Aside0.mk hr0
                  clear hr0
                  go_wp2_with fail
                  clear q1 z1 k2 hq2 d7
                  obtain ⟨V1, hV1⟩ : ∃ V_, V_ = w1.alloc (.cells #[.int .u8 (i : Int)] 5) := ⟨_, rfl⟩
                  rw [← hV1]
                  have hb_ : Below w1.heap.size w1 V1 := by rw [hV1]; exact below_alloc (Below.refl _ _) _
                  have HL : V1.heap[w1.heap.size]? = some (.cells #[.int .u8 (i : Int)] 5 (0, 0)) := by rw [hV1]; exact heap_alloc_self _ _
                  refine (put_y6 (l := l) (k := kk N) (v := [(i : Int)]) HLV.out Hn.out rfl rfl (Kd.C_below (Fr.C HF.out) hb_) Hc.out (Kd.C_below HK.out hb_) Hck.out (lit_u8 [(i : Int)] HL (show 1 ≤ _ by decide) rfl) (Nat.le_refl 1)).mono ?_
                  rintro e w2 ⟨A2, c2, v2, rfl, hc2, hF2, hV2, hb2⟩
                  obtain ⟨Av, cv, rfl⟩ := Kd.R_slice hV2
                  clear hV2
                  rw [HR0.out]
                  obtain ⟨V2, hV2⟩ : ∃ V_, V_ = w2.alloc (.cells #[.int .i64 3, .slice Av (putR l (kk N) [(i : Int)]).2.f1.length cv, .int .i64 (putR l (kk N) [(i : Int)]).2.f2] 26) := ⟨_, rfl⟩
                  have hbx : Below w1.heap.size w1 V2 := by rw [hV2]; exact below_alloc (below_then hb_ hb_.size hb2) _
                  have hbz : w2.heap.size ≤ V2.heap.size := by rw [hV2]; simp
                  have hF3 : Fr k32 32 V2 (w.heap.size + 1) A2 (putR l (kk N) [(i : Int)]).1 := by rw [hV2]; exact Fr.lower (Fr.below hF2 (below_alloc (Below.refl _ _) _)) (by have h1 := HM.out.lt; have h2 := hb_.size; omega)
                  have hM3 := own_below HM.out hbx
                  have hB3 := below_then HB.out HB.out.size hbx
                  have y1 := fun ty => hM3.len Try.underlying42 ty
                  rw [mir_size HMIR.out, Hn.out] at y1
                  obtain ⟨W3, hW3⟩ : ∃ W3, W3 = V2 := ⟨_, rfl⟩
                  have hM4 : W3.ownsMap Try.prog 9 (plainElem Try.prog 5) w.heap.size i D := by rw [hW3]; exact hM3
                  have hg4 : V2.grownBy W3 (some w.heap.size) := by rw [hW3]; exact ⟨rfl, rfl, rfl, Nat.le_refl _, fun _ _ _ => rfl⟩
                  have hmir4 : Mir D (putR l (kk N) [(i : Int)]).1 := by rw [put_err2 (by rw [HR0.out]; decide)]; exact HMIR.out
                  obtain ⟨n', hn'⟩ : ∃ n', n' = (putR l (kk N) [(i : Int)]).1.length := ⟨_, rfl⟩
                  obtain rfl : n' = n := by rw [hn', put_err2 (by rw [HR0.out]; decide)]; exact Hn.out
                  have y2 := trivial
                  have q2 := Kd.C_string (P := Try.prog) (A := Ak) (c := ck) Try.underlying24 Try.underlying5 Try.underlying9 (Kd.C_below HK.out hbx)
                  have HLI := Aside0.mk (show LI w n' A2 c2 (i + 1) W3 from ⟨(putR l (kk N) [(i : Int)]).1, _, (lv_put HLV.out).1, (ones_put HONE.out), (srt_put HSRT.out), hmir4, hn'.symm, by rw [hn']; exact hc2, Fr.keep hF3 (fun k a b => hg4.block k b (by simp; omega)), (hM4.mono (Nat.le_succ i)), hB3.grown hg4 hB3.size (fun k hk => by cases hk; exact Nat.le_refl _)⟩)
                  rw [← hn']
                  clear hn' hc2 hF2 hF3 hM3 hB3 hM4 hmir4 hbx hbz hb2 hb_
                  rw [hV2] at y1 q2 hW3
                  have HW3 := Aside0.mk hW3
                  clear hW3
                  clear hg4 hV2
                  go_wp2_with fail
                  have hli_ := HLI.out
                  rw [HW3.out] at hli_
                  replace HLI := Aside0.mk hli_
                  clear hli_ HW3
                  generalize w2.alloc (.cells #[.int .i64 3, .slice Av (putR l (kk N) [(i : Int)]).2.f1.length cv, .int .i64 (putR l (kk N) [(i : Int)]).2.f2] 26) = W4 at HLI ⊢
                  have HW3 := trivial
                  clear HW3 y1 y2 q2
                  go_loopg [116] n' (fun gk v116 w' => ∃ j : Nat, v116 = .int .i64 j ∧ j ≤ n' ∧ gk = n' - j ∧ Aside0 (LI w n' A2 c2 (i + 1) w'))
                  case atStart => exact ⟨0, rfl, Nat.zero_le _, rfl, HLI⟩
                  case round =>
                    clear HLI
                    obtain ⟨j, rfl, hj, rfl, HLI⟩ := hrel
                    obtain ⟨l, D, hlv, hones, hsrt, hmir, hn, hc, hF, hM, hB⟩ := HLI.out
                    have e4 : IntKind.i64.wrap ((j : Int) + 1) = (j : Int) + 1 := by rw [IntKind.wrap_i64]; have := hlv.1; omega
                    by_cases hjl : j < n'
                    · have hbd := below_drew1 (Below.refl wr.heap.size wr)
                      have hjl' : j < l.length := by omega
                      have HLId := Aside0.mk (show LI w n' A2 c2 (i + 1) wr.drew from ⟨l, D, hlv, hones, hsrt, hmir, hn, hc, Fr.below hF hbd, own_below hM hbd, below_drew1 hB⟩)
                      obtain ⟨ad, A0, c0, A1, c1, e_, h0, h1_, l0, g0, l1, g1⟩ := at_T32 (Fr.C hF) (j : Int) (by omega) (by omega)
                      cases e_
                      rw [rd_get l j hjl'] at h0 h1_ l0 g0 l1 g1
                      obtain ⟨v, hv⟩ : ∃ v, l[j].f1 = [v] := by
                        have := hones _ (List.getElem_mem hjl')
                        match hf : l[j].f1, this with
                        | [v], _ => exact ⟨v, rfl⟩
                      rw [hv] at h1_ l1 g1
                      obtain ⟨bd, rfl, h2⟩ := one_cell g1
                      obtain ⟨cc, z1, hat⟩ := look_key hM hmir l[j].f0 (by have := hlv.2 _ (List.getElem_mem hjl'); omega)
                      rw [find_self hjl'] at z1
                      rw [mir_at hmir hsrt hjl', hv] at hat
                      obtain rfl : v = cc := by injection hat with h; injection h
                      have q1 := Kd.C_string (P := Try.prog) (A := A0) (c := c0) Try.underlying24 Try.underlying5 Try.underlying9 g0
                      have q2 := Kd.C_string (P := Try.prog) (A := A0) (c := c0) Try.underlying24 Try.underlying5 Try.underlying9 (Kd.C_below g0 hbd)
                      simp only [Int.toNat_natCast, List.length_cons, List.length_nil, Nat.zero_add] at h0 h1_
                      rcases Nat.eq_zero_or_pos j with rfl | hj0
                      · clear hlv hones hsrt hmir hc hF hM hB g0 l0 l1 hat hbd hv g1 HLI
                        simp only [Nat.zero_mul, Addr.add_zero'] at h0 h1_
                        go_wp2_with fail
                        go_region
                        have hHeld := trivial
                        clear q1 q2 z1 hHeld
                        go_wp2_with fail
                        go_roundg (n' - 1)
                        case rel => exact ⟨1, rfl, by omega, rfl, HLId⟩
                        case measure => omega
                      · have hj1 : j - 1 < l.length := by omega
                        obtain ⟨ad', P0, p0, P1, p1, e_, h0', _, _, g0', _, _⟩ := at_T32 (Fr.C hF) ((j - 1 : Nat) : Int) (by omega) (by omega)
                        cases e_
                        rw [rd_get l (j - 1) hj1] at h0' g0'
                        have q3 := Kd.C_string (P := Try.prog) (A := P0) (c := p0) Try.underlying24 Try.underlying5 Try.underlying9 (Kd.C_below g0' hbd)
                        have hs' : Op.bytesLess (strOfNums l[j - 1].f0).toList (strOfNums l[j].f0).toList = true := (lessB_eq _ _).trans (List.pairwise_iff_getElem.1 hsrt (j - 1) j hj1 hjl' (by omega))
                        simp only [Int.toNat_natCast] at h0'
                        have e5 : IntKind.i64.wrap ((j : Int) - 1) = ((j - 1 : Nat) : Int) := by rw [IntKind.wrap_i64]; have := hlv.1; omega
                        have e6 : ((j - 1 : Nat) : Int) < (n' : Int) := by omega
                        have e7 : (0 : Int) < (j : Int) := by omega
                        have e8 : decide ((0 : Int) < (j : Int)) = true := decide_eq_true e7
                        generalize l[j - 1].f0 = xa at h0' q3 hs'
                        generalize l[j].f0 = xb at h0 q1 q2 z1 hs'
                        clear hlv hones hsrt hmir hc hF hM hB g0 l0 l1 hat hbd hv g1 g0' HLI
                        go_wp2_with fail
                        go_region
                        have hHeld := trivial
                        clear q1 q2 q3 z1 hHeld
                        go_wp2_with fail
                        go_roundg (n' - (j + 1))
                        case rel => exact ⟨j + 1, by go_num, by omega, rfl, HLId⟩
                        case measure => omega
                    · obtain rfl : j = n' := by omega
                      clear hlv hones hsrt hmir hc hF hM hB hn
                      go_wp2_with fail
                      go_roundg (50 - (i + 1))
                      case rel => exact ⟨i + 1, j, A2, c2, by go_num, rfl, by omega, rfl, HLI⟩
                      case measure => omega
          · skip
            as_aux_lemma =>
              have d7 : decide ((q : Int) < 2) = true := decide_eq_true (by omega)
              have hq2 := hq
              have d5 : decide (((kk N).length : Int) ≤ 8) = false := decide_eq_false (by omega)
              have hr0 : (putR l (kk N) [(i : Int)]).2.f0 = 1 := by rw [putR, if_pos (.inl (by omega))]
              have HR0 := Aside0.mk hr0
              clear hr0
              go_wp2_with fail
              clear q1 z1 k2 hq2 d7
              obtain ⟨V1, hV1⟩ : ∃ V_, V_ = w1.alloc (.cells #[.int .u8 (i : Int)] 5) := ⟨_, rfl⟩
              rw [← hV1]
              have hb_ : Below w1.heap.size w1 V1 := by rw [hV1]; exact below_alloc (Below.refl _ _) _
              have HL : V1.heap[w1.heap.size]? = some (.cells #[.int .u8 (i : Int)] 5 (0, 0)) := by rw [hV1]; exact heap_alloc_self _ _
              refine (put_y6 (l := l) (k := kk N) (v := [(i : Int)]) HLV.out Hn.out rfl rfl (Kd.C_below (Fr.C HF.out) hb_) Hc.out (Kd.C_below HK.out hb_) Hck.out (lit_u8 [(i : Int)] HL (show 1 ≤ _ by decide) rfl) (Nat.le_refl 1)).mono ?_
              rintro e w2 ⟨A2, c2, v2, rfl, hc2, hF2, hV2, hb2⟩
              obtain ⟨Av, cv, rfl⟩ := Kd.R_slice hV2
              clear hV2
              rw [HR0.out]
              obtain ⟨V2, hV2⟩ : ∃ V_, V_ = w2.alloc (.cells #[.int .i64 1, .slice Av (putR l (kk N) [(i : Int)]).2.f1.length cv, .int .i64 (putR l (kk N) [(i : Int)]).2.f2] 26) := ⟨_, rfl⟩
              have hbx : Below w1.heap.size w1 V2 := by rw [hV2]; exact below_alloc (below_then hb_ hb_.size hb2) _
              have hbz : w2.heap.size ≤ V2.heap.size := by rw [hV2]; simp
              have hF3 : Fr k32 32 V2 (w.heap.size + 1) A2 (putR l (kk N) [(i : Int)]).1 := by rw [hV2]; exact Fr.lower (Fr.below hF2 (below_alloc (Below.refl _ _) _)) (by have h1 := HM.out.lt; have h2 := hb_.size; omega)
              have hM3 := own_below HM.out hbx
              have hB3 := below_then HB.out HB.out.size hbx
              have y1 := fun ty => hM3.len Try.underlying42 ty
              rw [mir_size HMIR.out, Hn.out] at y1
              obtain ⟨W3, hW3⟩ : ∃ W3, W3 = V2 := ⟨_, rfl⟩
              have hM4 : W3.ownsMap Try.prog 9 (plainElem Try.prog 5) w.heap.size i D := by rw [hW3]; exact hM3
              have hg4 : V2.grownBy W3 (some w.heap.size) := by rw [hW3]; exact ⟨rfl, rfl, rfl, Nat.le_refl _, fun _ _ _ => rfl⟩
              have hmir4 : Mir D (putR l (kk N) [(i : Int)]).1 := by rw [put_err2 (by rw [HR0.out]; decide)]; exact HMIR.out
              obtain ⟨n', hn'⟩ : ∃ n', n' = (putR l (kk N) [(i : Int)]).1.length := ⟨_, rfl⟩
              obtain rfl : n' = n := by rw [hn', put_err2 (by rw [HR0.out]; decide)]; exact Hn.out
              have y2 := trivial
              have q2 := Kd.C_string (P := Try.prog) (A := Ak) (c := ck) Try.underlying24 Try.underlying5 Try.underlying9 (Kd.C_below HK.out hbx)
              have HLI := Aside0.mk (show LI w n' A2 c2 (i + 1) W3 from ⟨(putR l (kk N) [(i : Int)]).1, _, (lv_put HLV.out).1, (ones_put HONE.out), (srt_put HSRT.out), hmir4, hn'.symm, by rw [hn']; exact hc2, Fr.keep hF3 (fun k a b => hg4.block k b (by simp; omega)), (hM4.mono (Nat.le_succ i)), hB3.grown hg4 hB3.size (fun k hk => by cases hk; exact Nat.le_refl _)⟩)
              rw [← hn']
              clear hn' hc2 hF2 hF3 hM3 hB3 hM4 hmir4 hbx hbz hb2 hb_
              rw [hV2] at y1 q2 hW3
              have HW3 := Aside0.mk hW3
              clear hW3
              clear hg4 hV2
              go_wp2_with fail
              have hli_ := HLI.out
              rw [HW3.out] at hli_
              replace HLI := Aside0.mk hli_
              clear hli_ HW3
              generalize w2.alloc (.cells #[.int .i64 1, .slice Av (putR l (kk N) [(i : Int)]).2.f1.length cv, .int .i64 (putR l (kk N) [(i : Int)]).2.f2] 26) = W4 at HLI ⊢
              have HW3 := trivial
              clear HW3 y1 y2 q2
              go_loopg [116] n' (fun gk v116 w' => ∃ j : Nat, v116 = .int .i64 j ∧ j ≤ n' ∧ gk = n' - j ∧ Aside0 (LI w n' A2 c2 (i + 1) w'))
              case atStart => exact ⟨0, rfl, Nat.zero_le _, rfl, HLI⟩
              case round =>
                clear HLI
                obtain ⟨j, rfl, hj, rfl, HLI⟩ := hrel
                obtain ⟨l, D, hlv, hones, hsrt, hmir, hn, hc, hF, hM, hB⟩ := HLI.out
                have e4 : IntKind.i64.wrap ((j : Int) + 1) = (j : Int) + 1 := by rw [IntKind.wrap_i64]; have := hlv.1; omega
                by_cases hjl : j < n'
                · have hbd := below_drew1 (Below.refl wr.heap.size wr)
                  have hjl' : j < l.length := by omega
                  have HLId := Aside0.mk (show LI w n' A2 c2 (i + 1) wr.drew from ⟨l, D, hlv, hones, hsrt, hmir, hn, hc, Fr.below hF hbd, own_below hM hbd, below_drew1 hB⟩)
                  obtain ⟨ad, A0, c0, A1, c1, e_, h0, h1_, l0, g0, l1, g1⟩ := at_T32 (Fr.C hF) (j : Int) (by omega) (by omega)
                  cases e_
                  rw [rd_get l j hjl'] at h0 h1_ l0 g0 l1 g1
                  obtain ⟨v, hv⟩ : ∃ v, l[j].f1 = [v] := by
                    have := hones _ (List.getElem_mem hjl')
                    match hf : l[j].f1, this with
                    | [v], _ => exact ⟨v, rfl⟩
                  rw [hv] at h1_ l1 g1
                  obtain ⟨bd, rfl, h2⟩ := one_cell g1
                  obtain ⟨cc, z1, hat⟩ := look_key hM hmir l[j].f0 (by have := hlv.2 _ (List.getElem_mem hjl'); omega)
                  rw [find_self hjl'] at z1
                  rw [mir_at hmir hsrt hjl', hv] at hat
                  obtain rfl : v = cc := by injection hat with h; injection h
                  have q1 := Kd.C_string (P := Try.prog) (A := A0) (c := c0) Try.underlying24 Try.underlying5 Try.underlying9 g0
                  have q2 := Kd.C_string (P := Try.prog) (A := A0) (c := c0) Try.underlying24 Try.underlying5 Try.underlying9 (Kd.C_below g0 hbd)
                  simp only [Int.toNat_natCast, List.length_cons, List.length_nil, Nat.zero_add] at h0 h1_
                  rcases Nat.eq_zero_or_pos j with rfl | hj0
                  · clear hlv hones hsrt hmir hc hF hM hB g0 l0 l1 hat hbd hv g1 HLI
                    simp only [Nat.zero_mul, Addr.add_zero'] at h0 h1_
                    go_wp2_with fail
                    go_region
                    have hHeld := trivial
                    clear q1 q2 z1 hHeld
                    go_wp2_with fail
                    go_roundg (n' - 1)
                    case rel => exact ⟨1, rfl, by omega, rfl, HLId⟩
                    case measure => omega
                  · have hj1 : j - 1 < l.length := by omega
                    obtain ⟨ad', P0, p0, P1, p1, e_, h0', _, _, g0', _, _⟩ := at_T32 (Fr.C hF) ((j - 1 : Nat) : Int) (by omega) (by omega)
                    cases e_
                    rw [rd_get l (j - 1) hj1] at h0' g0'
                    have q3 := Kd.C_string (P := Try.prog) (A := P0) (c := p0) Try.underlying24 Try.underlying5 Try.underlying9 (Kd.C_below g0' hbd)
                    have hs' : Op.bytesLess (strOfNums l[j - 1].f0).toList (strOfNums l[j].f0).toList = true := (lessB_eq _ _).trans (List.pairwise_iff_getElem.1 hsrt (j - 1) j hj1 hjl' (by omega))
                    simp only [Int.toNat_natCast] at h0'
                    have e5 : IntKind.i64.wrap ((j : Int) - 1) = ((j - 1 : Nat) : Int) := by rw [IntKind.wrap_i64]; have := hlv.1; omega
                    have e6 : ((j - 1 : Nat) : Int) < (n' : Int) := by omega
                    have e7 : (0 : Int) < (j : Int) := by omega
                    have e8 : decide ((0 : Int) < (j : Int)) = true := decide_eq_true e7
                    generalize l[j - 1].f0 = xa at h0' q3 hs'
                    generalize l[j].f0 = xb at h0 q1 q2 z1 hs'
                    clear hlv hones hsrt hmir hc hF hM hB g0 l0 l1 hat hbd hv g1 g0' HLI
                    go_wp2_with fail
                    go_region
                    have hHeld := trivial
                    clear q1 q2 q3 z1 hHeld
                    go_wp2_with fail
                    go_roundg (n' - (j + 1))
                    case rel => exact ⟨j + 1, by go_num, by omega, rfl, HLId⟩
                    case measure => omega
                · obtain rfl : j = n' := by omega
                  clear hlv hones hsrt hmir hc hF hM hB hn
                  go_wp2_with fail
                  go_roundg (50 - (i + 1))
                  case rel => exact ⟨i + 1, j, A2, c2, by go_num, rfl, by omega, rfl, HLI⟩
                  case measure => omega
        · cases ht : (findR l (kk N)).2 with
          | true =>
            as_aux_lemma =>
              have d7 : decide ((q : Int) < 2) = false := decide_eq_false (by omega)
              have hq2 := hq
              have hr0 : (delR l (kk N)).2.f0 = 0 := (del_err l _).2 ht
              rw [ht] at z1
              have HT := Aside0.mk ht
              clear ht
              have HR0 := Aside0.mk hr0
              clear hr0
              go_wp2_with fail
              clear q1 z1 k2 hq2 d7
              have hb_ := Below.refl w1.heap.size w1
              refine (del_y12 (l := l) (k := kk N) HLV.out Hn.out rfl (Fr.C HF.out) Hc.out HK.out Hck.out).mono ?_
              rintro e w2 ⟨A2, c2, v2, rfl, hc2, hF2, hV2, hb2⟩
              obtain ⟨Av, cv, rfl⟩ := Kd.R_slice hV2
              clear hV2
              rw [HR0.out]
              obtain ⟨V2, hV2⟩ : ∃ V_, V_ = w2.alloc (.cells #[.int .i64 0, .slice Av (delR l (kk N)).2.f1.length cv, .int .i64 (delR l (kk N)).2.f2] 26) := ⟨_, rfl⟩
              have hbx : Below w1.heap.size w1 V2 := by rw [hV2]; exact below_alloc (below_then hb_ hb_.size hb2) _
              have hbz : w2.heap.size ≤ V2.heap.size := by rw [hV2]; simp
              have hF3 : Fr k32 32 V2 (w.heap.size + 1) A2 (delR l (kk N)).1 := by rw [hV2]; exact Fr.lower (Fr.below hF2 (below_alloc (Below.refl _ _) _)) (by have h1 := HM.out.lt; have h2 := hb_.size; omega)
              have hM3 := own_below HM.out hbx
              have hB3 := below_then HB.out HB.out.size hbx
              have y1 := fun ty => hM3.len Try.underlying42 ty
              rw [mir_size HMIR.out, Hn.out] at y1
              obtain ⟨W3, yU, hM4, hg4_⟩ := hM3.drop (Maps.string_keyed Try.underlying9) Try.underlying42 (key_of (kk N) (by omega)) 0
              have hmir4 := mir_del HMIR.out HSRT.out (kk N)
              have hg4 : V2.grownBy W3 (some w.heap.size) := turned_grown hg4_
              obtain ⟨n', hn'⟩ : ∃ n', n' = (delR l (kk N)).1.length := ⟨_, rfl⟩
              have y2 := fun ty => hM4.len Try.underlying42 ty
              rw [mir_size hmir4, ← hn'] at y2
              have q2 := Kd.C_string (P := Try.prog) (A := Ak) (c := ck) Try.underlying24 Try.underlying5 Try.underlying9 (Kd.C_below HK.out hbx)
              have HLI := Aside0.mk (show LI w n' A2 c2 (i + 1) W3 from ⟨(delR l (kk N)).1, _, (lv_del HLV.out).1, (ones_del HONE.out), (srt_del HSRT.out), hmir4, hn'.symm, by rw [hn']; exact hc2, Fr.keep hF3 (fun k a b => hg4.block k b (by simp; omega)), (hM4.mono (Nat.le_succ i)), hB3.grown hg4 hB3.size (fun k hk => by cases hk; exact Nat.le_refl _)⟩)
              rw [← hn']
              clear hn' hc2 hF2 hF3 hM3 hB3 hM4 hmir4 hbx hbz hb2 hb_
              rw [hV2] at y1 q2 yU
              have HW3 := Aside0.mk (rfl : W3 = W3)
              clear hg4 hV2
              go_wp2_with fail
              clear HW3 y1 y2 q2 yU
              go_loopg [116] n' (fun gk v116 w' => ∃ j : Nat, v116 = .int .i64 j ∧ j ≤ n' ∧ gk = n' - j ∧ Aside0 (LI w n' A2 c2 (i + 1) w'))
              case atStart => exact ⟨0, rfl, Nat.zero_le _, rfl, HLI⟩
              case round =>
                clear HLI
                obtain ⟨j, rfl, hj, rfl, HLI⟩ := hrel
                obtain ⟨l, D, hlv, hones, hsrt, hmir, hn, hc, hF, hM, hB⟩ := HLI.out
                have e4 : IntKind.i64.wrap ((j : Int) + 1) = (j : Int) + 1 := by rw [IntKind.wrap_i64]; have := hlv.1; omega
                by_cases hjl : j < n'
                · have hbd := below_drew1 (Below.refl wr.heap.size wr)
                  have hjl' : j < l.length := by omega
                  have HLId := Aside0.mk (show LI w n' A2 c2 (i + 1) wr.drew from ⟨l, D, hlv, hones, hsrt, hmir, hn, hc, Fr.below hF hbd, own_below hM hbd, below_drew1 hB⟩)
                  obtain ⟨ad, A0, c0, A1, c1, e_, h0, h1_, l0, g0, l1, g1⟩ := at_T32 (Fr.C hF) (j : Int) (by omega) (by omega)
                  cases e_
                  rw [rd_get l j hjl'] at h0 h1_ l0 g0 l1 g1
                  obtain ⟨v, hv⟩ : ∃ v, l[j].f1 = [v] := by
                    have := hones _ (List.getElem_mem hjl')
                    match hf : l[j].f1, this with
                    | [v], _ => exact ⟨v, rfl⟩
                  rw [hv] at h1_ l1 g1
                  obtain ⟨bd, rfl, h2⟩ := one_cell g1
                  obtain ⟨cc, z1, hat⟩ := look_key hM hmir l[j].f0 (by have := hlv.2 _ (List.getElem_mem hjl'); omega)
                  rw [find_self hjl'] at z1
                  rw [mir_at hmir hsrt hjl', hv] at hat
                  obtain rfl : v = cc := by injection hat with h; injection h
                  have q1 := Kd.C_string (P := Try.prog) (A := A0) (c := c0) Try.underlying24 Try.underlying5 Try.underlying9 g0
                  have q2 := Kd.C_string (P := Try.prog) (A := A0) (c := c0) Try.underlying24 Try.underlying5 Try.underlying9 (Kd.C_below g0 hbd)
                  simp only [Int.toNat_natCast, List.length_cons, List.length_nil, Nat.zero_add] at h0 h1_
                  rcases Nat.eq_zero_or_pos j with rfl | hj0
                  · clear hlv hones hsrt hmir hc hF hM hB g0 l0 l1 hat hbd hv g1 HLI
                    simp only [Nat.zero_mul, Addr.add_zero'] at h0 h1_
                    go_wp2_with fail
                    go_region
                    have hHeld := trivial
                    clear q1 q2 z1 hHeld
                    go_wp2_with fail
                    go_roundg (n' - 1)
                    case rel => exact ⟨1, rfl, by omega, rfl, HLId⟩
                    case measure => omega
                  · have hj1 : j - 1 < l.length := by omega
                    obtain ⟨ad', P0, p0, P1, p1, e_, h0', _, _, g0', _, _⟩ := at_T32 (Fr.C hF) ((j - 1 : Nat) : Int) (by omega) (by omega)
                    cases e_
                    rw [rd_get l (j - 1) hj1] at h0' g0'
                    have q3 := Kd.C_string (P := Try.prog) (A := P0) (c := p0) Try.underlying24 Try.underlying5 Try.underlying9 (Kd.C_below g0' hbd)
                    have hs' : Op.bytesLess (strOfNums l[j - 1].f0).toList (strOfNums l[j].f0).toList = true := (lessB_eq _ _).trans (List.pairwise_iff_getElem.1 hsrt (j - 1) j hj1 hjl' (by omega))
                    simp only [Int.toNat_natCast] at h0'
                    have e5 : IntKind.i64.wrap ((j : Int) - 1) = ((j - 1 : Nat) : Int) := by rw [IntKind.wrap_i64]; have := hlv.1; omega
                    have e6 : ((j - 1 : Nat) : Int) < (n' : Int) := by omega
                    have e7 : (0 : Int) < (j : Int) := by omega
                    have e8 : decide ((0 : Int) < (j : Int)) = true := decide_eq_true e7
                    generalize l[j - 1].f0 = xa at h0' q3 hs'
                    generalize l[j].f0 = xb at h0 q1 q2 z1 hs'
                    clear hlv hones hsrt hmir hc hF hM hB g0 l0 l1 hat hbd hv g1 g0' HLI
                    go_wp2_with fail
                    go_region
                    have hHeld := trivial
                    clear q1 q2 q3 z1 hHeld
                    go_wp2_with fail
                    go_roundg (n' - (j + 1))
                    case rel => exact ⟨j + 1, by go_num, by omega, rfl, HLId⟩
                    case measure => omega
                · obtain rfl : j = n' := by omega
                  clear hlv hones hsrt hmir hc hF hM hB hn
                  go_wp2_with fail
                  go_roundg (50 - (i + 1))
                  case rel => exact ⟨i + 1, j, A2, c2, by go_num, rfl, by omega, rfl, HLI⟩
                  case measure => omega
          | false =>
            as_aux_lemma =>
              have d7 : decide ((q : Int) < 2) = false := decide_eq_false (by omega)
              have hq2 := hq
              have hr0 : (delR l (kk N)).2.f0 = 5 := by rw [delR, ht, if_neg (by simp)]
              rw [ht] at z1
              have HT := Aside0.mk ht
              clear ht
              have HR0 := Aside0.mk hr0
              clear hr0
              go_wp2_with fail
              clear q1 z1 k2 hq2 d7
              have hb_ := Below.refl w1.heap.size w1
              refine (del_y12 (l := l) (k := kk N) HLV.out Hn.out rfl (Fr.C HF.out) Hc.out HK.out Hck.out).mono ?_
              rintro e w2 ⟨A2, c2, v2, rfl, hc2, hF2, hV2, hb2⟩
              obtain ⟨Av, cv, rfl⟩ := Kd.R_slice hV2
              clear hV2
              rw [HR0.out]
              obtain ⟨V2, hV2⟩ : ∃ V_, V_ = w2.alloc (.cells #[.int .i64 5, .slice Av (delR l (kk N)).2.f1.length cv, .int .i64 (delR l (kk N)).2.f2] 26) := ⟨_, rfl⟩
              have hbx : Below w1.heap.size w1 V2 := by rw [hV2]; exact below_alloc (below_then hb_ hb_.size hb2) _
              have hbz : w2.heap.size ≤ V2.heap.size := by rw [hV2]; simp
              have hF3 : Fr k32 32 V2 (w.heap.size + 1) A2 (delR l (kk N)).1 := by rw [hV2]; exact Fr.lower (Fr.below hF2 (below_alloc (Below.refl _ _) _)) (by have h1 := HM.out.lt; have h2 := hb_.size; omega)
              have hM3 := own_below HM.out hbx
              have hB3 := below_then HB.out HB.out.size hbx
              have y1 := fun ty => hM3.len Try.underlying42 ty
              rw [mir_size HMIR.out, Hn.out] at y1
              obtain ⟨W3, yU, hM4, hg4_⟩ := hM3.drop (Maps.string_keyed Try.underlying9) Try.underlying42 (key_of (kk N) (by omega)) 0
              have hmir4 := mir_del HMIR.out HSRT.out (kk N)
              have hg4 : V2.grownBy W3 (some w.heap.size) := turned_grown hg4_
              obtain ⟨n', hn'⟩ : ∃ n', n' = (delR l (kk N)).1.length := ⟨_, rfl⟩
              have y2 := fun ty => hM4.len Try.underlying42 ty
              rw [mir_size hmir4, ← hn'] at y2
              have q2 := Kd.C_string (P := Try.prog) (A := Ak) (c := ck) Try.underlying24 Try.underlying5 Try.underlying9 (Kd.C_below HK.out hbx)
              have HLI := Aside0.mk (show LI w n' A2 c2 (i + 1) W3 from ⟨(delR l (kk N)).1, _, (lv_del HLV.out).1, (ones_del HONE.out), (srt_del HSRT.out), hmir4, hn'.symm, by rw [hn']; exact hc2, Fr.keep hF3 (fun k a b => hg4.block k b (by simp; omega)), (hM4.mono (Nat.le_succ i)), hB3.grown hg4 hB3.size (fun k hk => by cases hk; exact Nat.le_refl _)⟩)
              rw [← hn']
              clear hn' hc2 hF2 hF3 hM3 hB3 hM4 hmir4 hbx hbz hb2 hb_
              rw [hV2] at y1 q2 yU
              have HW3 := Aside0.mk (rfl : W3 = W3)
              clear hg4 hV2
              go_wp2_with fail
              clear HW3 y1 y2 q2 yU
              go_loopg [116] n' (fun gk v116 w' => ∃ j : Nat, v116 = .int .i64 j ∧ j ≤ n' ∧ gk = n' - j ∧ Aside0 (LI w n' A2 c2 (i + 1) w'))
              case atStart => exact ⟨0, rfl, Nat.zero_le _, rfl, HLI⟩
              case round =>
                clear HLI
                obtain ⟨j, rfl, hj, rfl, HLI⟩ := hrel
                obtain ⟨l, D, hlv, hones, hsrt, hmir, hn, hc, hF, hM, hB⟩ := HLI.out
                have e4 : IntKind.i64.wrap ((j : Int) + 1) = (j : Int) + 1 := by rw [IntKind.wrap_i64]; have := hlv.1; omega
                by_cases hjl : j < n'
                · have hbd := below_drew1 (Below.refl wr.heap.size wr)
                  have hjl' : j < l.length := by omega
                  have HLId := Aside0.mk (show LI w n' A2 c2 (i + 1) wr.drew from ⟨l, D, hlv, hones, hsrt, hmir, hn, hc, Fr.below hF hbd, own_below hM hbd, below_drew1 hB⟩)
                  obtain ⟨ad, A0, c0, A1, c1, e_, h0, h1_, l0, g0, l1, g1⟩ := at_T32 (Fr.C hF) (j : Int) (by omega) (by omega)
                  cases e_
                  rw [rd_get l j hjl'] at h0 h1_ l0 g0 l1 g1
                  obtain ⟨v, hv⟩ : ∃ v, l[j].f1 = [v] := by
                    have := hones _ (List.getElem_mem hjl')
                    match hf : l[j].f1, this with
                    | [v], _ => exact ⟨v, rfl⟩
                  rw [hv] at h1_ l1 g1
                  obtain ⟨bd, rfl, h2⟩ := one_cell g1
                  obtain ⟨cc, z1, hat⟩ := look_key hM hmir l[j].f0 (by have := hlv.2 _ (List.getElem_mem hjl'); omega)
                  rw [find_self hjl'] at z1
                  rw [mir_at hmir hsrt hjl', hv] at hat
                  obtain rfl : v = cc := by injection hat with h; injection h
                  have q1 := Kd.C_string (P := Try.prog) (A := A0) (c := c0) Try.underlying24 Try.underlying5 Try.underlying9 g0
                  have q2 := Kd.C_string (P := Try.prog) (A := A0) (c := c0) Try.underlying24 Try.underlying5 Try.underlying9 (Kd.C_below g0 hbd)
                  simp only [Int.toNat_natCast, List.length_cons, List.length_nil, Nat.zero_add] at h0 h1_
                  rcases Nat.eq_zero_or_pos j with rfl | hj0
                  · clear hlv hones hsrt hmir hc hF hM hB g0 l0 l1 hat hbd hv g1 HLI
                    simp only [Nat.zero_mul, Addr.add_zero'] at h0 h1_
                    go_wp2_with fail
                    go_region
                    have hHeld := trivial
                    clear q1 q2 z1 hHeld
                    go_wp2_with fail
                    go_roundg (n' - 1)
                    case rel => exact ⟨1, rfl, by omega, rfl, HLId⟩
                    case measure => omega
                  · have hj1 : j - 1 < l.length := by omega
                    obtain ⟨ad', P0, p0, P1, p1, e_, h0', _, _, g0', _, _⟩ := at_T32 (Fr.C hF) ((j - 1 : Nat) : Int) (by omega) (by omega)
                    cases e_
                    rw [rd_get l (j - 1) hj1] at h0' g0'
                    have q3 := Kd.C_string (P := Try.prog) (A := P0) (c := p0) Try.underlying24 Try.underlying5 Try.underlying9 (Kd.C_below g0' hbd)
                    have hs' : Op.bytesLess (strOfNums l[j - 1].f0).toList (strOfNums l[j].f0).toList = true := (lessB_eq _ _).trans (List.pairwise_iff_getElem.1 hsrt (j - 1) j hj1 hjl' (by omega))
                    simp only [Int.toNat_natCast] at h0'
                    have e5 : IntKind.i64.wrap ((j : Int) - 1) = ((j - 1 : Nat) : Int) := by rw [IntKind.wrap_i64]; have := hlv.1; omega
                    have e6 : ((j - 1 : Nat) : Int) < (n' : Int) := by omega
                    have e7 : (0 : Int) < (j : Int) := by omega
                    have e8 : decide ((0 : Int) < (j : Int)) = true := decide_eq_true e7
                    generalize l[j - 1].f0 = xa at h0' q3 hs'
                    generalize l[j].f0 = xb at h0 q1 q2 z1 hs'
                    clear hlv hones hsrt hmir hc hF hM hB g0 l0 l1 hat hbd hv g1 g0' HLI
                    go_wp2_with fail
                    go_region
                    have hHeld := trivial
                    clear q1 q2 q3 z1 hHeld
                    go_wp2_with fail
                    go_roundg (n' - (j + 1))
                    case rel => exact ⟨j + 1, by go_num, by omega, rfl, HLId⟩
                    case measure => omega
                · obtain rfl : j = n' := by omega
                  clear hlv hones hsrt hmir hc hF hM hB hn
                  go_wp2_with fail
                  go_roundg (50 - (i + 1))
                  case rel => exact ⟨i + 1, j, A2, c2, by go_num, rfl, by omega, rfl, HLI⟩
                  case measure => omega
      · have d2 : decide ((i : Int) < (la : Int)) = true := decide_eq_true (by omega)
        obtain rfl : i = 50 := by omega
        have HB := Aside0.mk HI.out.choose_spec.choose_spec.2.2.2.2.2.2.2.2
        clear HI
        go_wp2_with fail
        refine (awake9 _).mono ?_
        rintro e w1 ⟨rfl, hb1⟩
        have HB1 := Aside0.mk (below_then HB.out HB.out.size hb1)
        clear hb1
        go_wp2_with fail
        go_ret
        exact ⟨rfl, HB1.out⟩
    · have d2 : decide ((i : Int) < (la : Int)) = false := decide_eq_false (by omega)
      have HB := Aside0.mk HI.out.choose_spec.choose_spec.2.2.2.2.2.2.2.2
      clear HI
      go_wp2_with fail
      refine (awake9 _).mono ?_
      rintro e w1 ⟨rfl, hb1⟩
      have HB1 := Aside0.mk (below_then HB.out HB.out.size hb1)
      clear hb1
      go_wp2_with fail
      go_ret
      exact ⟨rfl, HB1.out⟩
end Go.Proofs.Ytiodnbeifgnhcaa.Ms
namespace Go.Proofs.Ytiodnbeifgnhcaa.mapsLast
open Go.ChangeShapes Go.WideShapes Go.ChangeAt Go.RowKit Go.Proofs.YtiodnbeifgnhcaaW
open Go.ChangeMaps (open_string shut_string)
theorem own : ownKnob Try.prog.godebug = none := by kernel_rfl
theorem laidOut : laidOutB Try.prog = true := by kernel_rfl
def IsRow (k : IntKind) (w : World) (a : Option Addr) (len cap : Nat) (zs : List Int) : Prop :=
  (a = none ∧ len = 0 ∧ cap = 0 ∧ zs = []) ∨
  ∃ x, a = some x ∧ len ≤ cap ∧ cap ≤ maxLen ∧ zs.length = cap ∧ (∀ i, i < zs.length → w.cell? (x.add i) = some (.int k (zs.getD i 0))) ∧ ∀ n ∈ zs, (Lit.int k n).wf = true
theorem rowI {w : World} {a : Option Addr} {len cap : Nat} {zs : List Int} (h : IsRow .i64 w a len cap zs) : Ms.RowI w a len := by
  intro h0
  rcases h with ⟨_, rfl, _⟩ | ⟨x, rfl, h1, h2, h3, h4, _⟩
  · exact absurd h0 (Nat.lt_irrefl 0)
  · exact ⟨x, rfl, fun j hj => ⟨_, h4 j (by omega)⟩⟩
set_option maxRecDepth 100000 in
theorem lifted (os : Os) (started : os.Started) (H : Type) (enc : TypeId × Value → H) :
    ReturnsInHanded {} Try.checked os 5 .any (Rows.mapsLastSpec.pre6 enc Try.prog Try.f5 Rows.mapsLastRow.domain false) (Rows.mapsLastSpec.post enc Try.prog Try.f5 false true false false) := by
  refine returnsInHanded_of_change_sized (C := Try.checked) own started (by kernel_rfl) Try.func5
    (ChangeSpec.witness6 (enc := enc) (C := Try.checked) false ⟨#[], #[.slice none 0 0], []⟩ 8 (by kernel_rfl) (by kernel_rfl) (by kernel_rfl) (by kernel_rfl)) ?_
  intro W base args ds gs before hval0 hW hcnd hsz0 _
  have hsz : (DataW.weightsEach Try.prog (Try.f5.params.toList ++ Rows.mapsLastSpec.plain.varTypes Try.prog) (ds ++ gs)).all (· ≤ reachBytes) = true := hsz0
  have hval : ∀ (j : Nat) t v, Try.f5.params[j]? = some t → args[j]? = some v → Value.okWide Try.prog W .any base t v := hval0
  have hW' := hW
  obtain ⟨p, q, hA0, hV, rfl, hfz, hnd⟩ := hW
  have hA : DataW.TrodAll enc Try.prog W 0 (fun _ => true) true Try.f5.params.toList args.toList ds p := hA0
  rw [Try.params5] at hA hval hsz
  obtain ⟨v0, vs0, d0, ds0, p0, q0, hargs, rfl, rfl, h0, r0⟩ := trodAll_cons hA
  obtain ⟨rfl, rfl, rfl⟩ := trodAll_nil r0
  obtain rfl : args = #[v0] := by cases args; simp_all
  obtain ⟨rfl, rfl⟩ := trodVars_none hV
  obtain ⟨a0, len0, cap0, rfl⟩ := okWide_slice Try.underlying35 (hval 0 35 v0 rfl rfl)
  have k0 := h0
  have lt0 : ∀ x ∈ p0, x.block < W.heap.size := by obtain ⟨m, hm⟩ := k0; exact DataW.trod_lt m _ _ _ hm
  obtain ⟨z0, w0⟩ : ∃ zs, IsRow .i64 W a0 len0 cap0 zs := by
    obtain ⟨fuel, hf⟩ := h0
    rcases open_ints Try.underlying35 Try.underlying3 (by kernel_rfl) hf with ⟨hcs, _⟩ | ⟨x, l, c, zs, hcs, _, hl, hm, hz, _, hcell, hwz⟩
    · simp [Value.cells] at hcs
      obtain ⟨rfl, rfl, rfl⟩ := hcs
      exact ⟨[], .inl ⟨rfl, rfl, rfl, rfl⟩⟩
    · simp [Value.cells] at hcs
      obtain ⟨rfl, rfl, rfl⟩ := hcs
      exact ⟨zs, .inr ⟨_, rfl, hl, hm, by simpa using hz, hcell, hwz⟩⟩
  have y0 : len0 * 8 ≤ 140737488351232 := PrintWords.sized_ints hsz (j := 0) (t := 35) rfl rfl Try.underlying35 Try.underlying3 (by kernel_rfl) (by kernel_rfl) h0
  clear hA0 hval0 hsz0 hsz
  refine (Ms.last_calls a0 len0 cap0 W (rowI w0) (by omega)).mono fun e W' ⟨he, bel⟩ => ?_
  subst he
  exact ⟨_, rfl, _, _, _, [], _, [], hW', trodAll_mk1 (shut_bool Try.underlying4 _), (trodAll_cons_mk (Below.trod laidOut (by kernel_rfl) (of_decide_eq_true (by kernel_rfl)) k0 bel lt0) trodAll_mk0), rfl, bel.frame _, fun h => by cases h⟩
theorem over : Rows.mapsLastRow.holds Try.pinned (OpenSpec.ofChange Rows.mapsLastSpec) :=
  OpenClaim.holds_of_wide 5 Try.f5 rfl rfl rfl rfl rfl rfl rfl ⟨rfl, rfl, rfl, rfl, rfl⟩ rfl rfl rfl rfl rfl (by kernel_rfl) Try.func5 (by kernel_rfl)
    (of_decide_eq_true (by kernel_rfl)) (by unfold Func.isWrapper; first | (rw [if_pos (by decide +kernel)]; kernel_rfl) | (rw [if_neg (by decide +kernel)]; exact ⟨rfl, rfl⟩))
    (fun os started H enc _ => lifted os started H enc)
theorem proved : Rows.MapsLastSaid := over
end Go.Proofs.Ytiodnbeifgnhcaa.mapsLast
namespace Go.Proofs.Ytiodnbeifgnhcaa
/-- The row, under a short name, for the claim. -/
theorem mapsLast_holds : Rows.MapsLastSaid := mapsLast.proved
end Go.Proofs.Ytiodnbeifgnhcaa
