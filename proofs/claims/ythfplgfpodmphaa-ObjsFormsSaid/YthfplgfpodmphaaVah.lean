/- The evaluator by value: what it tells, the model does. -/
import Derived.Lib.SliceRun
import Derived.Lib.Bytealg
import Derived.Lib.BytesEntry
import Derived.Laws.Externs
import Derived.Test.YthfplgfpodmphaaVag
namespace Go.Proofs.Ythfplgfpodmphaa.VE
variable {G G' : Gh} {w w' : World} {s s' : St} {P : Program}
/-- bytealg.Compare -/
def cmpE (h : Hp) : List PV → Option PV
  | [a, b] => match bytesOf h a, bytesOf h b with
    | some x, some y => some (.lit (goInt (Go.Lib.compareBytes x.data.toList y.data.toList)))
    | _, _ => none
  | _ => none
theorem extBytes_ok {x : PV} {bs : ByteArray} {u : Value} (h : bytesOf s.heap x = some bs) (hS : Sim G s w) (hx : VR G w x u) : ∃ st : ByteArray, st.data.toList = bs.data.toList ∧ (Go.Extern.Bytes.bytesOf u).run P w = .ok st w := by
  unfold bytesOf at h
  split at h
  · rename_i r hr
    simp only [Option.map_eq_some_iff] at h
    obtain ⟨l, hl, rfl⟩ := h
    obtain ⟨vs, h1, h2, h3, h4, h5⟩ := rows_ok hr hS hx
    obtain ⟨ns, rfl, rfl⟩ := bytes_vals r l vs hl h1
    have hlen : ns.length = r.length := by simpa using h3
    rcases h5 with ⟨b, o, c, rfl, hc⟩ | ⟨rfl, rfl⟩ | ⟨a, c, rfl, rfl⟩ | ⟨st, rfl, _, _, h6⟩
    · refine ⟨⟨(ByteArray.empty).data ++ (Go.Lib.bytesOf ns).toArray⟩, by simp [Go.Lib.bytesOf], ?_⟩
      show (Go.Extern.Bytes.loadBytes ⟨b, o, none⟩ r.length .empty).run P w = _
      rw [← hlen]
      exact Go.Lib.run_loadBytesX w ns ⟨b, o, none⟩ .empty (fun j x hj => by
        rw [add_off]
        exact hc j (.int .u8 x) (by simp [hj]))
    · obtain rfl : ns = [] := List.length_eq_zero_iff.1 (by simpa using hlen)
      exact ⟨.empty, rfl, rfl⟩
    · obtain rfl : ns = [] := List.length_eq_zero_iff.1 (by simpa using hlen)
      exact ⟨.empty, rfl, by simp [Go.Extern.Bytes.bytesOf, Go.Extern.Bytes.loadBytes]⟩
    · refine ⟨st, ?_, rfl⟩
      have h7 := congrArg (List.map fun v : Value => match v with | .int _ n => n.toNat.toUInt8 | _ => 0) h6
      simp only [List.map_map] at h7
      have e1 : ((fun v : Value => match v with | .int _ n => n.toNat.toUInt8 | _ => 0) ∘ Value.int .u8) = fun n : Int => n.toNat.toUInt8 := rfl
      have e2 : ((fun v : Value => match v with | .int _ n => n.toNat.toUInt8 | _ => 0) ∘ fun b : UInt8 => Value.int .u8 b.toNat) = id := by funext b; simp
      rw [e1, e2] at h7
      simpa using h7.symm
  · cases h
theorem cmp_ok {f : Nat} {fn : Func} {args : List PV} {v : PV} (hf : P.funcs[f]? = some fn) (hname : (fn.name == "runtime.NumGoroutine") = false) (hb : fn.body.isNone = true) (hn : Extern.findNext fn = none) (he : Extern.find fn = some Extern.BytealgCompare.compare)
    (h : cmpE s.heap args = some v) {vargs : List Value} (hS : Sim G s w) (hA : VRl G w args vargs) : Ran P f vargs.toArray w fun y w' => ∃ G', Stp G s w G' s w' ∧ VR G' w' v y := by
  unfold cmpE at h
  split at h
  · rename_i a b
    split at h
    · rename_i x y hx hy
      cases h
      simp only [VRl] at hA
      obtain ⟨u, _, rfl, hu, z, _, rfl, hz, rfl⟩ := hA
      obtain ⟨s1, h1, h2⟩ := extBytes_ok (P := P) hx hS hu
      obtain ⟨s2, h3, h4⟩ := extBytes_ok (P := P) hy hS hz
      refine .inl ⟨_, w, ?_, G, Stp.refl hS, by simp only [VR]; rfl⟩
      rw [run_callFunc_extern hf hname hb hn he]
      have : (Extern.BytealgCompare.compare #[u, z]).run P w = .ok (goInt (Go.Lib.compareBytes x.data.toList y.data.toList)) w := by
        show Sem.run P (do pure (goInt (Extern.BytealgCompare.cmp (← Extern.Bytes.bytesOf u) (← Extern.Bytes.bytesOf z)))) w = _
        simp only [Sem.run_bind, h2, h4, Result.andThen, Sem.run_pure]
        rw [Go.Lib.cmp_eq, h1, h3]
      show ((Extern.BytealgCompare.compare #[u, z]).run P w).andThen _ = _
      rw [this]
      rfl
    · cases h
  · cases h
end Go.Proofs.Ythfplgfpodmphaa.VE
