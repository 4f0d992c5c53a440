/-
  Walks. Written by program out of specs of mine.
-/
import Derived.Test.YtieldjpbempkcaaRE
import Derived.Test.YtieldjpbempkcaaArg
import Derived.ChangeArms
set_option linter.unusedSimpArgs false
set_option linter.unusedVariables false
namespace Go.Proofs.Ytieldjpbempkcaa
open Go Go.Vc Go.RowKit Go.Proofs

theorem five_cells {cs : List Value} (h : cs.length = 5) : ∃ a b c d e, cs = [a, b, c, d, e] := by
  match cs, h with
  | [a, b, c, d, e], _ => exact ⟨a, b, c, d, e, rfl⟩
theorem u8_of {n : Int} (h : (Lit.int .u8 n).wf = true) : Value.int .u8 n = bv (UInt8.ofNat n.toNat) := by
  simp [Lit.wf, IntKind.min, IntKind.max, IntKind.signed, IntKind.bits] at h
  have : n = ((n.toNat : Nat) : Int) := by omega
  rw [this]
  exact bv_of (by omega)
theorem open_op {H : Type} {enc : TypeId × Value → H} {W : World} {held : Bool} {n : Nat} {cs : List Value} {y : DataW H × List MemPlace} (h : DataW.trod enc Try.prog W 0 (fun _ => true) held n 34 cs = some y) (hz : Small Try.prog 34 y.1) : ∃ o : OpD, cs = opV o ∧ OpOk W o := by
  have hl := open_struct_len (s := 5) Try.underlying34 (by kernel_rfl) h
  obtain ⟨a, b, c, d, e, rfl⟩ := five_cells hl
  obtain ⟨n0, y0, h0, -⟩ := open_field 0 0 1 Try.underlying34 rfl rfl rfl (by kernel_rfl) h hz
  obtain ⟨n1, y1, h1, -⟩ := open_field 1 1 1 Try.underlying34 rfl rfl rfl (by kernel_rfl) h hz
  obtain ⟨n2, y2, h2, -⟩ := open_field 2 2 1 Try.underlying34 rfl rfl rfl (by kernel_rfl) h hz
  obtain ⟨n3, y3, h3, z3⟩ := open_field 3 3 1 Try.underlying34 rfl rfl rfl (by kernel_rfl) h hz
  obtain ⟨n4, y4, h4, -⟩ := open_field 4 4 1 Try.underlying34 rfl rfl rfl (by kernel_rfl) h hz
  obtain ⟨k, hk, -, -⟩ := DataW.trod_int Try.underlying3 h0
  obtain ⟨t, ht, -⟩ := DataW.trod_bool Try.underlying4 h1
  obtain ⟨m, hm, -, wm⟩ := DataW.trod_int Try.underlying31 h2
  obtain ⟨q, hq, -, wq⟩ := DataW.trod_int Try.underlying5 h4
  obtain ⟨xs, hx, hS⟩ := open_bytes Try.underlying32 Try.underlying5 (by kernel_rfl) (by kernel_rfl) h3 z3
  simp only [List.drop_zero, List.drop_succ_cons, List.take_succ_cons, List.take_zero, List.cons.injEq, and_true] at hk ht hm hq
  simp [Lit.wf, IntKind.min, IntKind.max, IntKind.signed, IntKind.bits] at wm
  refine ⟨⟨k, t, m.toNat, d, xs, UInt8.ofNat q.toNat⟩, ?_, ?_, hS, hx⟩
  · rw [hk, ht, hm, hq, u8_of wq]
    show _ = [_, _, _, _, _]
    have : m = ((m.toNat : Nat) : Int) := by omega
    rw [← this]
  · show m.toNat < _; omega

end Go.Proofs.Ytieldjpbempkcaa
