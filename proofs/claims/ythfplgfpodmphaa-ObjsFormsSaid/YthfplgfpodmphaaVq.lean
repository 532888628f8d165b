/- The evaluator by value: what it tells, the model does. -/
import Derived.Test.YthfplgfpodmphaaVp
namespace Go.Proofs.Ythfplgfpodmphaa.VE
variable {G G' : Gh} {w w' : World} {s s' : St} {P : Program}
theorem run_app_in_z {argTypes : Array TypeId} {t t1 e ty : TypeId} {i : TypeInfo} {z : Value} {k kk : IntKind} (h0 : argTypes[0]? = some t) (h1 : argTypes[1]? = some t1) (ht : P.underlying t = some (.slice e)) (hd : P.underlying t1 = some (.int k)) (hi : P.info? e = some i) (hz : i.zero = some z)
    {m : Int} (hm : 0 ≤ m) (hm2 : m.toNat ≤ 2 ^ 30) (hb : i.bytes ≤ 2 ^ 16) (hn0 : ¬ m.toNat * i.size = 0) {a : Addr} {sl sc : Nat} (hroom : sl + m.toNat ≤ sc) {w2 : World} (hst : (storeCells (a.add (sl * i.size)) (Builtin.zeroCells z.cells m.toNat).toList).run P w = .ok () w2) :
    (Builtin.append_ argTypes ty #[.slice (some a) sl sc, .int kk m]).run P w = .ok (.slice (some a) (sl + m.toNat) sc) w2 := by
  have wl : IntKind.i64.wrap m = m := by rw [IntKind.wrap_i64]; omega
  have n1 : ¬ m < 0 := by omega
  have n2 : ¬ (281474976710656 < m * (i.bytes : Int)) := by
    have h : m.toNat * i.bytes ≤ 2 ^ 30 * 2 ^ 16 := Nat.mul_le_mul hm2 hb
    have h' : m.toNat * i.bytes ≤ 281474976710656 := Nat.le_trans h (by decide)
    have hc : m = (m.toNat : Int) := by omega
    rw [hc, ← Int.natCast_mul]
    have := Int.ofNat_le.2 h'
    exact fun hh => absurd this (by exact Int.not_le.2 hh)
  simp [Builtin.append_, h0, h1, run_underlying ht, run_underlying hd, sizeOf, typeInfo, zeroValue, hi, hz, asInt, asIntOf, wl, n1, n2, hroom, hst, hn0]
theorem run_app_grow_z {argTypes : Array TypeId} {t t1 e ty : TypeId} {i : TypeInfo} {z : Value} {k kk : IntKind} (h0 : argTypes[0]? = some t) (h1 : argTypes[1]? = some t1) (ht : P.underlying t = some (.slice e)) (hd : P.underlying t1 = some (.int k)) (hi : P.info? e = some i) (hz : i.zero = some z)
    {m : Int} (hm : 0 ≤ m) (hb : i.bytes ≤ 2 ^ 16) (hn0 : ¬ m.toNat * i.size = 0)
    {x : Value} {sl sc : Nat} {b : Option Addr} {olds : List Value} (hx : x = .slice b sl sc) (ho : SrcR P w i.size sl x olds) (hroom : sc < sl + m.toNat) (h30 : sl + m.toNat ≤ 2 ^ 30) :
    (Builtin.append_ argTypes ty #[x, .int kk m]).run P w = .ok (.slice (some ⟨w.heap.size, 0, none⟩) (sl + m.toNat) (grownCap w (sl + m.toNat) sc e)) (w.drew.alloc (.cells (olds.toArray ++ (Builtin.zeroCells z.cells m.toNat).toList.toArray ++ Builtin.zeroCells z.cells (grownCap w (sl + m.toNat) sc e - (sl + m.toNat))) e)) := by
  have wl : IntKind.i64.wrap m = m := by rw [IntKind.wrap_i64]; omega
  have n1 : ¬ m < 0 := by omega
  have n2 : ¬ (281474976710656 < m * (i.bytes : Int)) := by
    have h : m.toNat * i.bytes ≤ 2 ^ 30 * 2 ^ 16 := Nat.mul_le_mul (by omega) hb
    have h' : m.toNat * i.bytes ≤ 281474976710656 := Nat.le_trans h (by decide)
    have hc : m = (m.toNat : Int) := by omega
    rw [hc, ← Int.natCast_mul]
    have := Int.ofNat_le.2 h'
    exact fun hh => absurd this (by exact Int.not_le.2 hh)
  have hn : ¬ (sl + m.toNat ≤ sc) := by omega
  have h63' : ¬ (9223372036854775807 < ((sl : Int) + (m.toNat : Int))) := by omega
  have h63'' : ¬ (9223372036854775807 < ((sl : Int) + max m 0)) := by omega
  have hfit : Builtin.nextslicecap (sl + m.toNat) sc * i.bytes ≤ 281474976710656 := growslice_fits hroom (by
    have : (sl + m.toNat) * i.bytes ≤ 2 ^ 30 * 2 ^ 16 := Nat.mul_le_mul h30 hb
    exact Nat.le_trans this (by decide))
  have h48' : ¬ (281474976710656 < Builtin.nextslicecap (sl + m.toNat) sc * i.bytes) := by omega
  have hfo := ho.2 w.drew (fun _ => rfl)
  subst hx
  simp [Builtin.append_, h0, h1, run_underlying ht, run_underlying hd, sizeOf, typeInfo, zeroValue, hi, hz, asInt, asIntOf, wl, n1, n2, hn, h63'', h48', hn0, Question.forced, hfo, newRow, grownCap]
/-- What append comes to, of what is appended. -/
structure AppRun (P : Program) (argTypes : Array TypeId) (ty e : TypeId) (z : Value) (sz : Nat) (w : World) (y : Value) (n : Nat) (news : List Value) : Prop where
  room : ∀ a sl sc w2, 0 < n → sl + n ≤ sc → (storeCells (a.add (sl * sz)) news).run P w = .ok () w2 → (Builtin.append_ argTypes ty #[.slice (some a) sl sc, y]).run P w = .ok (.slice (some a) (sl + n) sc) w2
  none : n = 0 → ∀ b sl sc, sl ≤ sc → (Builtin.append_ argTypes ty #[.slice b sl sc, y]).run P w = .ok (.slice b sl sc) w
  grow : ∀ x sl sc b olds, 0 < n → x = .slice b sl sc → SrcR P w sz sl x olds → sc < sl + n → sl + n ≤ 2 ^ 30 →
    (Builtin.append_ argTypes ty #[x, y]).run P w = .ok (.slice (some ⟨w.heap.size, 0, .none⟩) (sl + n) (grownCap w (sl + n) sc e)) (w.drew.alloc (.cells (olds.toArray ++ news.toArray ++ Builtin.zeroCells z.cells (grownCap w (sl + n) sc e - (sl + n))) e))
theorem rowsL_at {z : Nat} {r : List (List PV)} {vs : List Value} (hv : VRl G w r.flatten vs) (hp : ∀ v ∈ vs, plainV v = true) (hz : ∀ l ∈ r, l.length = z) :
    ∀ i l, r[i]? = some l → l.length = z ∧ ∀ j x, l[j]? = some x → ∃ v, vs[i * z + j]? = some v ∧ VR G w x v ∧ plainV v = true := by
  intro i l hi
  refine ⟨hz l (List.mem_of_getElem? hi), fun j x hj => ?_⟩
  obtain ⟨v, h1, h2⟩ := vrl_at _ _ hv _ _ (flat_at r i j l x hz hi hj)
  exact ⟨v, h1, h2, hp v (List.mem_of_getElem? h1)⟩
/-- A grown row under a new name. -/
theorem grown_ok (hS : Sim G s w) {z : Nat} {r ys : List (List PV)} {olds news : List Value} (ho : VRl G w r.flatten olds) (hop : ∀ v ∈ olds, plainV v = true) (hoz : ∀ l ∈ r, l.length = z) (hol : olds.length = r.length * z)
    (hn : VRl G w ys.flatten news) (hnp : ∀ v ∈ news, plainV v = true) (hnz : ∀ l ∈ ys, l.length = z) (hnl : news.length = ys.length * z) {lw cap : Nat} {zv : Value} (hlw : lw ≤ r.length + ys.length) (hcap : r.length + ys.length ≤ cap) (hzc : zv.cells.size = z) (t : TypeId) :
    ∃ G', Stp G s w G' (s.new ⟨z, r ++ ys, lw⟩) (w.drew.alloc (.cells (olds.toArray ++ news.toArray ++ Builtin.zeroCells zv.cells (cap - (r.length + ys.length))) t)) ∧
      VR G' (w.drew.alloc (.cells (olds.toArray ++ news.toArray ++ Builtin.zeroCells zv.cells (cap - (r.length + ys.length))) t)) (.rf s.next 0 (r.length + ys.length) none) (.slice (some ⟨w.heap.size, 0, none⟩) (r.length + ys.length) cap) := by
  have hd := Stp.drew hS
  have hall := rowsL_at (G := G) (w := w.drew) (z := z) (r := r ++ ys) (vs := olds ++ news) (VRl.ext hd.ext _ _ (by rw [List.flatten_append]; exact vrl_append ho hn)) (fun v hv => by
    rcases List.mem_append.1 hv with hv | hv
    · exact hop v hv
    · exact hnp v hv) (fun l hl => by
    rcases List.mem_append.1 hl with hl | hl
    · exact hoz l hl
    · exact hnz l hl)
  generalize hc : olds.toArray ++ news.toArray ++ Builtin.zeroCells zv.cells (cap - (r.length + ys.length)) = c
  have hsize : cap * z ≤ c.size := by
    rw [← hc]
    simp only [Array.size_append, List.size_toArray, size_zeroCells, hzc, hol, hnl, ← Nat.add_mul]
    exact Nat.le_of_eq (by congr 1; omega)
  have hb := Stp.born hd.sim c t ⟨z, r ++ ys, lw⟩ cap (by simpa using hcap) hsize (by simpa using hlw) (fun i l hi => by
    obtain ⟨h1, h2⟩ := hall i l hi
    refine ⟨h1, fun j x hj => ?_⟩
    obtain ⟨v, h3, h4, h5⟩ := h2 j x hj
    refine ⟨v, ?_, h4, h5⟩
    have hlt : i * z + j < (olds ++ news).length := by
      false_or_by_contra; rename_i hh
      rw [List.getElem?_eq_none (by omega)] at h3; cases h3
    have e : olds.toArray ++ news.toArray = (olds ++ news).toArray := by simp
    rw [← hc, e, Array.getElem?_append_left (by simpa using hlt)]
    simpa using h3)
  refine ⟨_, hd.trans hb, ?_⟩
  simp only [VR]
  exact ⟨w.heap.size, 0, z, cap, ⟨w.heap.size, 0, none⟩, cap, if_pos rfl, rfl, hcap, by omega, fun k hk => (by cases hk), fun _ => rfl, fun _ => (by simp), rfl⟩
theorem append_ok {argTypes : Array TypeId} {ty e : TypeId} {zv : Value} {z : Nat} {x v : PV} {u y : Value} {ys : List (List PV)} {news : List Value} (hA : AppRun P argTypes ty e zv z w y ys.length news) (hS : Sim G s w) (h : appendP s z x ys = some (v, s')) (hx : VR G w x u)
    (hn : VRl G w ys.flatten news) (hnp : ∀ v ∈ news, plainV v = true) (hnz : ∀ l ∈ ys, l.length = z) (hnl : news.length = ys.length * z) (hzc : zv.cells.size = z) :
    ∃ r w' G', (Builtin.append_ argTypes ty #[u, y]).run P w = .ok r w' ∧ Stp G s w G' s' w' ∧ VR G' w' v r := by
  unfold appendP at h
  split at h
  · rename_i h0
    split at h
    · rename_i hr
      cases h
      have hx' := hx
      cases x <;> simp only [isRow, Bool.false_eq_true] at hr <;> simp only [VR] at hx
      · rcases hx with ⟨_, rfl, _⟩ | ⟨b, o, cap, rfl, hl, _⟩
        · exact ⟨_, w, G, hA.none (by rw [h0]; rfl) none 0 0 (Nat.le_refl _), Stp.refl hS, hx'⟩
        · exact ⟨_, w, G, hA.none (by rw [h0]; rfl) _ _ _ hl, Stp.refl hS, hx'⟩
      · obtain ⟨b, o0, sz, ce, ad, cap, _, rfl, hl, _⟩ := hx
        exact ⟨_, w, G, hA.none (by rw [h0]; rfl) _ _ _ hl, Stp.refl hS, hx'⟩
    · cases h
  · rename_i hne
    have hpos : 0 < ys.length := List.length_pos_iff.2 hne
    split at h
    · rename_i yz r c
      split at h
      · cases h
      · rename_i cc hcc
        split at h
        · cases h
        · rename_i hcond
          simp only [not_or] at hcond
          cases h
          have hrw : rowsOf s.heap z (.sl yz r c) = some r := by simp only [rowsOf]; rw [if_pos (Classical.byContradiction fun hh => hcond.2.1 ⟨fun e => hh (.inl e), fun e => hh (.inr e)⟩)]
          obtain ⟨vs, g1, g2, g3, g4, g5⟩ := rows_ok hrw hS hx
          have hsrc := src_of (P := P) g3 g5
          have h30 : r.length + ys.length ≤ 2 ^ 30 := by simpa [room] using hcond.2.2
          have hu : ∃ b, u = .slice b r.length cc := by
            simp only [VR] at hx
            rcases hx with ⟨rfl, rfl, hc, _⟩ | ⟨b, o, cap, rfl, _, hc, _⟩
            · exact ⟨none, by rw [← hc cc hcc]; rfl⟩
            · exact ⟨_, by rw [hc cc hcc]⟩
          obtain ⟨b, rfl⟩ := hu
          have hg := hA.grow _ r.length cc b vs hpos rfl hsrc (by omega) h30
          obtain ⟨G1, k1, k2⟩ := grown_ok hS g1 g2 g4 g3 hn hnp hnz hnl (lw := 0) (cap := grownCap w (r.length + ys.length) cc e) (zv := zv) (Nat.zero_le _) (grownCap_ge _ _ _ _) hzc e
          exact ⟨_, _, G1, hg, k1, k2⟩
    · rename_i g o n c
      split at h
      · rename_i en hg
        split at h
        · rename_i r hpart
          obtain ⟨hp1, hp2⟩ := part_some hpart
          have hrl : r.length = n := by rw [hp2]; simp; omega
          split at h
          · cases h
          · rename_i hcond
            simp only [not_or, Classical.not_not, Bool.not_eq_true', Bool.not_eq_false] at hcond
            have h30 : n + ys.length ≤ 2 ^ 30 := by simpa [room] using hcond.1
            have hez : en.z = z := hcond.2
            have hrw : rowsOf s.heap z (.rf g o n c) = some r := by simp only [rowsOf, hg, hez, if_true, hpart]
            obtain ⟨vs, g1, g2, g3, g4, g5⟩ := rows_ok hrw hS hx
            have hsrc := src_of (P := P) g3 g5
            rw [hrl] at hsrc
            have hx' := hx
            simp only [VR] at hx
            obtain ⟨b, o0, sz, ce, ad, cap, hl, rfl, hnc, hoc, hcap, hcn, had, hsp⟩ := hx
            have he := hS.ent g en b o0 sz ce hg hl
            have hsz : sz = z := by rw [← hez, he.z]
            subst hsz
            have inplace : n + ys.length ≤ cap → en.lw ≤ o + n → o + n + ys.length ≤ en.r.length → ∀ c', capOk c' cap → (c' = none → cap = ce - o) →
                ∃ r w' G', (Builtin.append_ argTypes ty #[.slice (some ad) n cap, y]).run P w = .ok r w' ∧ Stp G s w G' ⟨upd s.heap g ⟨sz, en.r.take (o + n) ++ ys ++ en.r.drop (o + n + ys.length), en.lw⟩, s.next⟩ w' ∧ VR G' w' (.rf g o (n + ys.length) c') r := by
              intro q1 q2 q3 c' q4 q5
              obtain ⟨w1, k1, k2⟩ := rows_write (P := P) hS hg hl hn hnp hnl hnz q2 q3
              rw [hez] at k2
              have ha : ad.add (n * sz) = ⟨b, o0 + (o + n) * sz, none⟩ := by
                rw [had (by omega), add_off, Nat.add_mul, Nat.add_assoc]
              refine ⟨_, w1, G, hA.room ad n cap w1 hpos q1 (by rw [ha]; exact k1), k2, ?_⟩
              simp only [VR]
              exact ⟨b, o0, sz, ce, ad, cap, hl, rfl, q1, hoc, q4, q5, had, hsp⟩
            split at h
            · rename_i cc
              have hcc := hcap cc rfl
              split at h
              · rename_i hle
                split at h
                · rename_i hq
                  cases h
                  exact inplace (by omega) hq.1 hq.2 (some cc) hcap (fun e => by cases e)
                · cases h
              · rename_i hle
                cases h
                have hgr := hA.grow _ n cap (some ad) vs hpos rfl hsrc (by omega) h30
                have hgo := grown_ok hS g1 g2 g4 g3 hn hnp hnz hnl (lw := 0) (cap := grownCap w (r.length + ys.length) cap e) (zv := zv) (Nat.zero_le _) (grownCap_ge _ _ _ _) hzc e
                rw [hrl] at hgo
                obtain ⟨G1, k1, k2⟩ := hgo
                exact ⟨_, _, G1, hgr, k1, k2⟩
            · have hcap' := hcn rfl
              split at h
              · rename_i hle
                split at h
                · rename_i hq
                  cases h
                  exact inplace (by have := he.len; omega) hq hle none (fun k e => by cases e) (fun _ => hcap')
                · cases h
              · rename_i hle
                split at h
                · rename_i hq
                  cases h
                  by_cases hroom : n + ys.length ≤ cap
                  · -- in the room that is there
                    obtain ⟨c0, t0, hobj, hcs⟩ := he.obj
                    have hce : (o + n + ys.length) * sz ≤ ce * sz := Nat.mul_le_mul_right _ (by omega)
                    have hfit : o0 + (o + n) * sz + news.length ≤ c0.toList.length := by
                      rw [Nat.add_mul] at hce
                      simp only [Array.length_toList, hnl]
                      omega
                    have ha : ad.add (n * sz) = ⟨b, o0 + (o + n) * sz, none⟩ := by
                      rw [had (by omega), add_off, Nat.add_mul, Nat.add_assoc]
                    have hst := run_storeCells_at (P := P) b (o0 + (o + n) * sz) t0 news 0 c0 w hobj (by simpa using hfit) (fun u hu => plain_one (hnp u hu))
                    have hget : ∀ k, (c0.toList.take (o0 + (o + n) * sz + 0) ++ news ++ c0.toList.drop (o0 + (o + n) * sz + 0 + news.length)).toArray[k]? = if k < o0 + (o + n) * sz then c0[k]? else if k < o0 + (o + n) * sz + news.length then news[k - (o0 + (o + n) * sz)]? else c0[k]? := by
                      intro k
                      have := seg_get (cs := c0.toList) (us := news) (p := o0 + (o + n) * sz) hfit k
                      simpa using this
                    have hon : (o + n) * sz = o * sz + n * sz := Nat.add_mul _ _ _
                    have hlwz : en.lw * sz ≤ (o + n) * sz := Nat.mul_le_mul_right _ hq
                    have hmv := Stp.move hS hg hl (e' := ⟨sz, r ++ ys, en.lw - o⟩) (o1 := o0 + o * sz) (ce' := ce - o) hobj (c' := (c0.toList.take (o0 + (o + n) * sz + 0) ++ news ++ c0.toList.drop (o0 + (o + n) * sz + 0 + news.length)).toArray)
                      (by simp only [Array.length_toList] at hfit; simp; omega) rfl (by simp; omega)
                      (by
                        have : o * sz + (ce - o) * sz = ce * sz := by rw [← Nat.add_mul]; congr 1; omega
                        omega)
                      (by simp; omega)
                      (fun k hk => by
                        have h1 := he.imm k hk
                        have : en.lw * sz ≤ o * sz + (en.lw - o) * sz := by rw [← Nat.add_mul]; exact Nat.mul_le_mul_right _ (by omega)
                        show k < o0 + o * sz + (en.lw - o) * sz
                        omega)
                      (fun k hk => by
                        by_cases hlo : en.lw ≤ o
                        · have : en.lw - o = 0 := by omega
                          simp only [this, Nat.zero_mul] at hk
                          omega
                        · have h1 : o * sz + (en.lw - o) * sz = en.lw * sz := by rw [← Nat.add_mul]; congr 1; omega
                          have := he.fz (o * sz + k) (by simp only at hk; omega)
                          rwa [show o0 + o * sz + k = o0 + (o * sz + k) from by omega])
                      (fun k hk => by
                        have h1 := he.imm k hk
                        rw [hget, if_pos (by omega)])
                      (fun i l hi => by
                        rw [List.getElem?_append] at hi
                        split at hi
                        · rename_i hir
                          rw [hp2, List.getElem?_take] at hi
                          split at hi
                          · rw [List.getElem?_drop] at hi
                            obtain ⟨q1, q2⟩ := he.rows (o + i) l hi
                            refine ⟨q1, fun j x hj => ?_⟩
                            obtain ⟨v, q3, q4, q5⟩ := q2 j x hj
                            have hjl : j < sz := by
                              false_or_by_contra; rename_i hh
                              rw [List.getElem?_eq_none (by omega)] at hj; cases hj
                            have h2 : (i + 1) * sz ≤ n * sz := Nat.mul_le_mul_right _ (by omega)
                            rw [Nat.add_mul] at h2
                            refine ⟨v, ?_, q4, q5⟩
                            rw [hget, if_pos (by omega)]
                            have h3 : (o + i) * sz = o * sz + i * sz := Nat.add_mul _ _ _
                            rw [show o0 + (o + i) * sz + j = o0 + o * sz + i * sz + j from by omega] at q3
                            simpa [World.cell?, hobj] using q3
                          · cases hi
                        · rename_i hir
                          have hl' := hnz l (List.mem_of_getElem? hi)
                          refine ⟨hl', fun j x hj => ?_⟩
                          have hjl : j < sz := by
                            false_or_by_contra; rename_i hh
                            rw [List.getElem?_eq_none (by omega)] at hj; cases hj
                          have hiy : i - r.length < ys.length := by
                            false_or_by_contra; rename_i hh
                            rw [List.getElem?_eq_none (by omega)] at hi; cases hi
                          obtain ⟨v, q3, q4⟩ := vrl_at _ _ hn _ _ (flat_at ys (i - r.length) j l x hnz hi hj)
                          have h2 : n * sz + (i - r.length) * sz = i * sz := by rw [← Nat.add_mul]; congr 1; omega
                          have h3 : (i - r.length + 1) * sz ≤ ys.length * sz := Nat.mul_le_mul_right _ hiy
                          rw [Nat.add_mul] at h3
                          refine ⟨v, ?_, q4, hnp v (List.mem_of_getElem? q3)⟩
                          rw [hget, if_neg (by omega), if_pos (by omega)]
                          rwa [show o0 + o * sz + i * sz + j - (o0 + (o + n) * sz) = (i - r.length) * sz + j from by omega])
                    refine ⟨_, _, _, hA.room ad n cap _ hpos hroom (by rw [ha]; exact hst), hmv, ?_⟩
                    simp only [VR]
                    exact ⟨b, o0 + o * sz, sz, ce - o, ad, cap, if_pos rfl, rfl, hroom, by omega, fun k e => (by cases e), fun _ => (by omega), fun hc => (by rw [had hc]; simp), hsp⟩
                  · have hk := Stp.kill hS g ⟨_, hl⟩
                    have hgr := hA.grow _ n cap (some ad) vs hpos rfl hsrc (by omega) h30
                    have hgo := grown_ok hk.sim (VRl.ext hk.ext _ _ g1) g2 g4 g3 (VRl.ext hk.ext _ _ hn) hnp hnz hnl (lw := en.lw - o) (cap := grownCap w (r.length + ys.length) cap e) (zv := zv) (by omega) (grownCap_ge _ _ _ _) hzc e
                    rw [hrl] at hgo
                    obtain ⟨G1, k1, k2⟩ := hgo
                    exact ⟨_, _, G1, hgr, hk.trans k1, k2⟩
                · cases h
        · cases h
      · cases h
    · cases h
end Go.Proofs.Ythfplgfpodmphaa.VE
