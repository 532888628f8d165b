/- The document's Put and Del, joined. -/
import Derived.Test.YtiodnbeifgnhcaaMrn
import Derived.Test.YtiodnbeifgnhcaaMrd
import Derived.Test.YtiodnbeifgnhcaaMrq
import Derived.Test.YtiodnbeifgnhcaaMp
import Derived.Test.YtiodnbeifgnhcaaMe
namespace Go.Proofs.Ytiodnbeifgnhcaa.Ms
open Go.RowKit Go.Proofs.YtiodnbeifgnhcaaW.PrintWords Go.Proofs.YtiodnbeifgnhcaaW.PrintLast Go.Proofs.YtiodnbeifgnhcaaW.PrintMore
attribute [local go_sem] max2_int min2_int max_two min_two max_three min_three max_four min_four
set_option linter.unusedVariables false
set_option linter.unusedSimpArgs false

theorem rput11 (A B D : Option Addr) (c d f : Nat) (l : List S32) (k v : List Int) (w : World) (hr : Kd.C k32 w A l.length l) (hc : l.length ≤ c) (hn : l.length < 1000000) (hv : ∀ x ∈ l, x.f0.length < 140737488355328 ∧ x.f1.length < 140737488355328) (hk : Kd.C (Kd.int .u8) w B k.length k) (hd : k.length ≤ d) (hvr : Kd.C (Kd.int .u8) w D v.length v) (hvf : v.length ≤ f) : Calls Try.prog 11 #[.slice A l.length c, .slice B k.length d, .slice D v.length f] w (PutEnd w (putR l k v).1 (putR l k v).2) := by
  unfold putR
  by_cases h8 : 8 < k.length
  · rw [if_pos (.inl h8)]; exact rput_long1 A B D c d f l k v w hr hc hn hv hk hd h8
  · by_cases h16 : 16 < v.length
    · rw [if_pos (.inr h16)]; exact rput_long2 A B D c d f l k v w hr hc hn hv hk hd (by omega) h16
    · rw [if_neg (by omega)]
      cases ht : (findR l k).2 with
      | true => rw [if_pos rfl]; exact rput_there A B D c d f l k v w hr hc hn hv hk hd hvr hvf (by omega) (by omega) ht
      | false =>
        rw [if_neg (by simp)]
        by_cases hf : 8 ≤ l.length
        · rw [if_pos hf]; exact rput_full A B D c d f l k v w hr hc hn hv hk hd (by omega) (by omega) ht hf
        · rw [if_neg hf]; exact rput_new A B D c d f l k v w hr hc hn hv hk hd hvr hvf (by omega) (by omega) ht (by omega)
theorem rdel13 (A B : Option Addr) (c d : Nat) (l : List S32) (k : List Int) (w : World) (hr : Kd.C k32 w A l.length l) (hc : l.length ≤ c) (hn : l.length < 1000000) (hv : ∀ x ∈ l, x.f0.length < 140737488355328 ∧ x.f1.length < 140737488355328) (hk : Kd.C (Kd.int .u8) w B k.length k) (hd : k.length ≤ d) : Calls Try.prog 13 #[.slice A l.length c, .slice B k.length d] w (PutEnd w (delR l k).1 (delR l k).2) := by
  unfold delR
  cases ht : (findR l k).2 with
  | true => rw [if_pos rfl]; exact rdel_some A B c d l k w hr hc hn hv hk hd ht
  | false => rw [if_neg (by simp)]; exact rdel_none A B c d l k w hr hc hn hv hk hd ht
end Go.Proofs.Ytiodnbeifgnhcaa.Ms
