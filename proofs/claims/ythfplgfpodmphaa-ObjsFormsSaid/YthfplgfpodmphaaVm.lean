/- The evaluator by value: what it tells, the model does. -/
import Derived.Test.YthfplgfpodmphaaVl
namespace Go.Proofs.Ythfplgfpodmphaa.VE
variable {G G' : Gh} {w w' : World} {s s' : St} {P : Program}
theorem freeze_other (a : Addr) (n k : Nat) (h : k ≠ a.block) : (w.freeze a n).heap[k]? = w.heap[k]? := by
  unfold World.freeze
  split
  · rfl
  · simp only [Array.getElem?_modify]
    rw [if_neg (Ne.symm h)]
theorem freeze_cell (a : Addr) (n : Nat) (b : Addr) : (w.freeze a n).cell? b = w.cell? b := by
  by_cases h : b.block = a.block
  · unfold World.freeze
    split
    · rfl
    · simp only [World.cell?, Array.getElem?_modify]
      rw [if_pos h.symm, h]
      cases w.heap[a.block]? with
      | none => rfl
      | some o => cases o <;> rfl
  · exact World.cell?_of_block (a := b) (freeze_other a n b.block h)
theorem freeze_size (a : Addr) (n : Nat) : (w.freeze a n).heap.size = w.heap.size := by
  unfold World.freeze
  split
  · rfl
  · simp
/-- A mark behind the end of a row that nobody writes. -/
theorem Stp.soften (h : Sim G s w) {a : Addr} (ha : G.soft a.block) (n : Nat) : Stp G s w G s (w.freeze a n) := by
  have hE : Ext G w G (w.freeze a n) := ⟨fun _ _ h => h, fun b o hi => ⟨hi, freeze_cell a n ⟨b, o, none⟩⟩, fun _ h => h⟩
  refine ⟨hE, ⟨fun g e b o0 sz ce h1 h2 => (h.ent g e b o0 sz ce h1 h2).ext hE (freeze_other a n b ((h.soft _ ha).2 g e b o0 sz ce h1 h2)) (fun _ h => h), h.inj, h.nx, fun b o hi => ?_, fun b hb => ?_⟩,
    ?_, ?_, ?_, by rw [freeze_size]; exact Nat.le_refl _, fun _ _ h => h, fun _ _ h => h, fun k hk _ hs => freeze_other a n k (fun e => hs (e ▸ ha)), fun _ _ h => ⟨rfl, h⟩, Nat.le_refl _, fun _ _ _ h => .inl h⟩
  · obtain ⟨v, hv⟩ := h.imm b o hi
    exact ⟨v, (freeze_cell a n ⟨b, o, none⟩).trans hv⟩
  · exact ⟨by rw [freeze_size]; exact (h.soft b hb).1, (h.soft b hb).2⟩
  · unfold World.freeze; split <;> rfl
  · unfold World.freeze; split <;> rfl
  · unfold World.freeze; split <;> rfl
theorem convMark_ok {t e : TypeId} {z n : Nat} {r : List (List PV)} {u : Value} (hS : Sim G s w) (hu : P.underlying t = some (.slice e)) (he : P.underlying e = some (.int .u8)) (hx : VR G w (.sl z r (.mine n)) u) :
    ∃ y w', (convert t t u).run P w = .ok y w' ∧ Stp G s w G s w' ∧ VR G w' (.sl z r (.is n)) y := by
  have hx' := hx
  simp only [VR] at hx
  rcases hx with ⟨_, _, _, h⟩ | ⟨b, o, cap, rfl, hlen, hcap, hsoft, hrw⟩
  · exact absurd rfl (h n)
  · have hsb := hsoft n rfl
    have hres : VR G w (.sl z r (.is n)) (.slice (some ⟨b, o, none⟩) r.length cap) := by
      simp only [VR]
      exact .inr ⟨b, o, cap, rfl, hlen, hcap, fun k hk => (by cases hk), hrw⟩
    cases hsh : w.shape? b with
    | none =>
      refine ⟨_, w, ?_, Stp.refl hS, hres⟩
      simp [convert, run_underlying hu, run_underlying he, markStringish, hsh]
    | some x =>
      obtain ⟨el, m⟩ := x
      have hst := Stp.soften hS (a := ⟨b, m, none⟩) hsb 1
      refine ⟨_, w.freeze ⟨b, m, none⟩ 1, ?_, hst, VR.ext hst.ext _ _ hres⟩
      simp [convert, run_underlying hu, run_underlying he, markStringish, hsh]
theorem byteOfRow_some {l : List PV} {b : UInt8} (h : byteOfRow l = some b) : ∃ n : Int, l = [.lit (.int .u8 n)] ∧ 0 ≤ n ∧ n < 256 ∧ b = n.toNat.toUInt8 := by
  unfold byteOfRow at h
  split at h
  · rename_i n
    split at h
    · rename_i hc
      cases h
      exact ⟨n, rfl, hc.1, hc.2, rfl⟩
    · cases h
  · cases h
theorem bytes_vals : ∀ (r : List (List PV)) (l : List UInt8) (vs : List Value), allSome byteOfRow r = some l → VRl G w r.flatten vs → ∃ ns : List Int, vs = ns.map (Value.int .u8) ∧ l = ns.map fun n => n.toNat.toUInt8
  | [], l, vs, h, hv => by
    simp only [allSome, Option.some.injEq] at h
    simp only [List.flatten_nil, VRl] at hv
    exact ⟨[], by simpa using hv, by simpa using h.symm⟩
  | x :: r, l, vs, h, hv => by
    simp only [allSome] at h
    split at h
    · rename_i b t hb ht
      cases h
      obtain ⟨n, rfl, _, _, rfl⟩ := byteOfRow_some hb
      simp only [List.flatten_cons, List.cons_append, List.nil_append, VRl, VR] at hv
      obtain ⟨v, us, rfl, rfl, hv⟩ := hv
      obtain ⟨ns, rfl, rfl⟩ := bytes_vals r t us ht hv
      exact ⟨n :: ns, rfl, rfl⟩
    · cases h
theorem push_all (ns : List Int) : ∀ s : ByteArray, (ns.foldl (fun r n => r.push (UInt8.ofNat n.toNat)) s) = ⟨s.data ++ (ns.map fun n => n.toNat.toUInt8).toArray⟩ := by
  induction ns with
  | nil => intro s; simp
  | cons n ns ih =>
    intro s
    rw [List.foldl_cons, ih]
    congr 1
    simp [ByteArray.push]
theorem bytesStr_ok {src dst e : TypeId} {x : PV} {bs : ByteArray} {u : Value} (h : bytesOf s.heap x = some bs) (hS : Sim G s w) (hx : VR G w x u) (hnx : isRow x = true) (hs : P.underlying src = some (.slice e)) (hd : P.underlying dst = some .string) (he : P.underlying e = some (.int .u8)) :
    (convert src dst u).run P w = .ok (.string bs) w := by
  unfold bytesOf at h
  split at h
  · rename_i r hr
    simp only [Option.map_eq_some_iff] at h
    obtain ⟨l, hl, rfl⟩ := h
    obtain ⟨vs, h1, h2, h3, h4, h5⟩ := rows_ok hr hS hx
    obtain ⟨ns, rfl, rfl⟩ := bytes_vals r l vs hl h1
    have hemp : ∀ (a : Addr) (c : Nat), (Conv.bytesToString (.slice (some a) 0 c)).run P w = .ok (.string ByteArray.empty) w := fun a c => by
      have := run_bytesToString (P := P) w a 0 c [] (by simp [loadCells, loadCellsFrom])
      simpa using this
    rcases h5 with ⟨b, o, c, rfl, hc⟩ | ⟨rfl, rfl⟩ | ⟨a, c, rfl, rfl⟩ | ⟨st, rfl, _, _, _⟩
    · have hlen : (ns.map (Value.int .u8)).length = r.length := by rw [h3]; simp
      have hlc := run_loadCells_list (P := P) w ⟨b, o, none⟩ (ns.map (Value.int .u8)) (fun j v hj => by rw [add_off]; exact hc j v hj)
      rw [hlen] at hlc
      have := run_bytesToString (P := P) w ⟨b, o, none⟩ r.length c ns hlc
      rw [push_all] at this
      simp only [convert, Sem.run_bind, run_underlying hs, run_underlying hd, run_underlying he, Result.andThen_ok, this]
      simp
    · have hn : ns = [] := by
        have : (ns.map (Value.int .u8)).length = 0 := by simpa using h3
        simpa using this
      subst hn
      simp [convert, run_underlying hs, run_underlying hd, run_underlying he, Conv.bytesToString]
      rfl
    · have hn : ns = [] := by
        have : (ns.map (Value.int .u8)).length = 0 := by simpa using h3
        simpa using this
      subst hn
      simp only [convert, Sem.run_bind, run_underlying hs, run_underlying hd, run_underlying he, Result.andThen_ok, hemp]
      rfl
    · exfalso
      cases x <;> simp only [isRow, Bool.false_eq_true] at hnx <;> simp only [VR] at hx
      · rcases hx with ⟨_, hx, _⟩ | ⟨_, _, _, hx, _⟩ <;> cases hx
      · obtain ⟨_, _, _, _, _, _, _, hx, _⟩ := hx; cases hx
  · cases h
end Go.Proofs.Ythfplgfpodmphaa.VE
