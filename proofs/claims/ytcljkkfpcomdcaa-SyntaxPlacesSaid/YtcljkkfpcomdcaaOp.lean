/-
  The walker's laws, one for each kind of operation, over any program.
-/
import Derived.Test.YtcljkkfpcomdcaaVc
set_option linter.unusedSimpArgs false
set_option linter.unusedVariables false
namespace Go.Vc
open Go Go.RowKit

structure Ty (P : Program) (t : TypeId) (d : TypeDesc) (size bytes : Nat) (zero : Value) : Prop where
  und : P.underlying t = some d
  info : ∃ i, P.info? t = some i ∧ i.size = size ∧ i.bytes = bytes ∧ i.zero = some zero

def isAggD : TypeDesc → Bool
  | .struct _ | .array _ _ => true
  | _ => false

section
variable {P : Program} {e : Env} {w : World} {K : Value → World → Prop} {ty : TypeId}

theorem Ty.run_und {t d s b z} (h : Ty P t d s b z) (w : World) : (underlying t).run P w = .ok d w := by simp [underlying, program, Sem.run, h.und]
theorem Ty.run_size {t d s b z} (h : Ty P t d s b z) (w : World) : (sizeOf t).run P w = .ok s w := by
  obtain ⟨i, h1, h2, h3, h4⟩ := h.info
  simp [sizeOf, typeInfo, program, Sem.run, h1, h2]
theorem Ty.run_zero {t d s b z} (h : Ty P t d s b z) (w : World) : (zeroValue t).run P w = .ok z w := by
  obtain ⟨i, h1, h2, h3, h4⟩ := h.info
  simp [zeroValue, typeInfo, program, Sem.run, h1, h4]
theorem Ty.run_agg {t d s b z} (h : Ty P t d s b z) (w : World) : (isAgg t).run P w = .ok (isAggD d) w := by
  simp only [isAgg, Sem.run_bind, h.run_und, Result.andThen_ok]
  cases d <;> rfl

theorem OP.of {op : Op} {v : Value} {w' : World} (h : (execOp (ev e) ⟨none, op, ty, "", #[], none⟩).run P w = .ok (.value v) w') (k : K v w') : OP P e op ty w K := by
  unfold OP; rw [h]; exact k
theorem OP.ofS {op : Op} {w' : World} (h : (execOp (ev e) ⟨none, op, ty, "", #[], none⟩).run P w = .ok .skip w') (k : K undef w') : OP P e op ty w K := by
  unfold OP; rw [h]; exact k

theorem o_mv {x : Operand} (k : K (ev e x) w) : OP P e (.move x) ty w K := OP.of rfl k
theorem o_as {x : Operand} (k : K (ev e x) w) : OP P e (.assign x) ty w K := OP.of rfl k
theorem o_mvh {x : Operand} {v : Value} (hx : ev e x = v) (k : K v w) : OP P e (.move x) ty w K := OP.of rfl (by rw [hx]; exact k)
theorem o_ash {x : Operand} {v : Value} (hx : ev e x = v) (k : K v w) : OP P e (.assign x) ty w K := OP.of rfl (by rw [hx]; exact k)
theorem o_pick {c a b : Operand} {t : Bool} (hc : ev e c = .bool t) (k : K (if t then ev e a else ev e b) w) : OP P e (.pick c a b) ty w K :=
  OP.of (by simp [execOp, hc, asBool]) k
/-- Both sides are bools: 'a && b', 'a || b'. -/
theorem o_pickA {c a : Operand} {t u : Bool} (hc : ev e c = .bool t) (ha : ev e a = .bool u) (k : K (.bool (t && u)) w) : OP P e (.pick c a (.const (.bool false))) ty w K :=
  o_pick hc (by cases t <;> simp_all [ev])
theorem o_pickO {c b : Operand} {t u : Bool} (hc : ev e c = .bool t) (hb : ev e b = .bool u) (k : K (.bool (t || u)) w) : OP P e (.pick c (.const (.bool true)) b) ty w K :=
  o_pick hc (by cases t <;> simp_all [ev])
theorem o_pickF {c a : Operand} {t : Bool} (hc : ev e c = .bool t) (ht : t = false) (k : K (.bool false) w) : OP P e (.pick c a (.const (.bool false))) ty w K :=
  o_pick hc (by subst ht; simpa [ev] using k)
theorem o_pickT {c b : Operand} {t : Bool} (hc : ev e c = .bool t) (ht : t = true) (k : K (.bool true) w) : OP P e (.pick c (.const (.bool true)) b) ty w K :=
  o_pick hc (by subst ht; simpa [ev] using k)
theorem o_nil {x : Operand} {a : Addr} (hx : ev e x = .pointer (some a)) (k : K (.pointer (some a)) w) : OP P e (.nilCheck x) ty w K :=
  OP.of (by simp [execOp, hx]) k

/-! ### integers -/
section ints
variable {x y : Operand} {t u : TypeId} {k : IntKind} {a b : Int}
theorem o_bin {op : BinOp} {v : Value} (hx : ev e x = .int k a) (hy : ev e y = .int k b) (hop : op ≠ .shl ∧ op ≠ .shr)
    (hv : ∀ w, (match op with | .add | .sub | .mul => Op.intArith op k a b | .quo | .rem => Op.intDiv op k a b | .and | .or | .xor | .andNot => Op.intBits op k a b | _ => Op.intCmp op a b : Sem Value).run P w = .ok v w) (kk : K v w) : OP P e (.binOp op t x y u) ty w K := by
  refine OP.of (v := v) ?_ kk
  have := hv w
  cases op <;> simp_all [execOp, eqGuard, binOp] <;> simp_all
theorem o_add (hx : ev e x = .int k a) (hy : ev e y = .int k b) (kk : K (.int k (k.wrap (a + b))) w) : OP P e (.binOp .add t x y u) ty w K :=
  o_bin hx hy (by simp) (fun _ => rfl) kk
theorem o_sub (hx : ev e x = .int k a) (hy : ev e y = .int k b) (kk : K (.int k (k.wrap (a - b))) w) : OP P e (.binOp .sub t x y u) ty w K :=
  o_bin hx hy (by simp) (fun _ => rfl) kk
theorem o_mul (hx : ev e x = .int k a) (hy : ev e y = .int k b) (kk : K (.int k (k.wrap (a * b))) w) : OP P e (.binOp .mul t x y u) ty w K :=
  o_bin hx hy (by simp) (fun _ => rfl) kk
theorem wrap64' (n : Int) (h : -9223372036854775808 ≤ n ∧ n ≤ 9223372036854775807) : IntKind.i64.wrap n = n := IntWalk.i64_in n h
theorem o_addi (hx : ev e x = .int .i64 a) (hy : ev e y = .int .i64 b) (h : -9223372036854775808 ≤ a + b ∧ a + b ≤ 9223372036854775807) (kk : K (.int .i64 (a + b)) w) : OP P e (.binOp .add t x y u) ty w K :=
  o_add hx hy (by rw [wrap64' _ h]; exact kk)
theorem o_subi (hx : ev e x = .int .i64 a) (hy : ev e y = .int .i64 b) (h : -9223372036854775808 ≤ a - b ∧ a - b ≤ 9223372036854775807) (kk : K (.int .i64 (a - b)) w) : OP P e (.binOp .sub t x y u) ty w K :=
  o_sub hx hy (by rw [wrap64' _ h]; exact kk)
theorem o_muli (hx : ev e x = .int .i64 a) (hy : ev e y = .int .i64 b) (h : -9223372036854775808 ≤ a * b ∧ a * b ≤ 9223372036854775807) (kk : K (.int .i64 (a * b)) w) : OP P e (.binOp .mul t x y u) ty w K :=
  o_mul hx hy (by rw [wrap64' _ h]; exact kk)
theorem o_eq (hx : ev e x = .int k a) (hy : ev e y = .int k b) (kk : K (.bool (decide (a = b))) w) : OP P e (.binOp .eql t x y u) ty w K :=
  o_bin hx hy (by simp) (fun _ => rfl) (by rw [show (a == b) = decide (a = b) from rfl]; exact kk)
theorem o_ne (hx : ev e x = .int k a) (hy : ev e y = .int k b) (kk : K (.bool (!decide (a = b))) w) : OP P e (.binOp .neq t x y u) ty w K :=
  o_bin hx hy (by simp) (fun _ => rfl) (by rw [show (a != b) = !decide (a = b) from rfl]; exact kk)
theorem o_lt (hx : ev e x = .int k a) (hy : ev e y = .int k b) (kk : K (.bool (decide (a < b))) w) : OP P e (.binOp .lss t x y u) ty w K :=
  o_bin hx hy (by simp) (fun _ => rfl) kk
theorem o_le (hx : ev e x = .int k a) (hy : ev e y = .int k b) (kk : K (.bool (decide (a ≤ b))) w) : OP P e (.binOp .leq t x y u) ty w K :=
  o_bin hx hy (by simp) (fun _ => rfl) kk
theorem o_gt (hx : ev e x = .int k a) (hy : ev e y = .int k b) (kk : K (.bool (decide (b < a))) w) : OP P e (.binOp .gtr t x y u) ty w K :=
  o_bin hx hy (by simp) (fun _ => rfl) kk
theorem o_ge (hx : ev e x = .int k a) (hy : ev e y = .int k b) (kk : K (.bool (decide (b ≤ a))) w) : OP P e (.binOp .geq t x y u) ty w K :=
  o_bin hx hy (by simp) (fun _ => rfl) kk
theorem o_quo (hx : ev e x = .int k a) (hy : ev e y = .int k b) (hb : b ≠ 0) (kk : K (.int k (k.wrap (a.tdiv b))) w) : OP P e (.binOp .quo t x y u) ty w K :=
  o_bin hx hy (by simp) (fun _ => by simp [Op.intDiv, hb]) kk
theorem o_rem (hx : ev e x = .int k a) (hy : ev e y = .int k b) (hb : b ≠ 0) (kk : K (.int k (a.tmod b)) w) : OP P e (.binOp .rem t x y u) ty w K :=
  o_bin hx hy (by simp) (fun _ => by simp [Op.intDiv, hb]) kk
theorem o_and (hx : ev e x = .int k a) (hy : ev e y = .int k b) (kk : K (.int k (k.wrap (BitVec.ofInt k.bits a &&& BitVec.ofInt k.bits b).toNat)) w) : OP P e (.binOp .and t x y u) ty w K :=
  o_bin hx hy (by simp) (fun _ => rfl) kk
theorem o_or (hx : ev e x = .int k a) (hy : ev e y = .int k b) (kk : K (.int k (k.wrap (BitVec.ofInt k.bits a ||| BitVec.ofInt k.bits b).toNat)) w) : OP P e (.binOp .or t x y u) ty w K :=
  o_bin hx hy (by simp) (fun _ => rfl) kk
theorem o_xor (hx : ev e x = .int k a) (hy : ev e y = .int k b) (kk : K (.int k (k.wrap (BitVec.ofInt k.bits a ^^^ BitVec.ofInt k.bits b).toNat)) w) : OP P e (.binOp .xor t x y u) ty w K :=
  o_bin hx hy (by simp) (fun _ => rfl) kk
theorem o_shl {k' : IntKind} (hx : ev e x = .int k a) (hy : ev e y = .int k' b) (hb : 0 ≤ b) (kk : K (.int k (k.wrap (a * 2 ^ (min b.toNat k.bits)))) w) : OP P e (.binOp .shl t x y u) ty w K :=
  OP.of (by simp [execOp, eqGuard, binOp, hx, hy, Op.shift, show ¬ b < 0 by omega]) kk
theorem o_shr {k' : IntKind} (hx : ev e x = .int k a) (hy : ev e y = .int k' b) (hb : 0 ≤ b) (kk : K (.int k (a.fdiv (2 ^ (min b.toNat k.bits)))) w) : OP P e (.binOp .shr t x y u) ty w K :=
  OP.of (by simp [execOp, eqGuard, binOp, hx, hy, Op.shift, show ¬ b < 0 by omega]) kk
end ints

/-- unsigned numbers, as natural numbers -/
abbrev ubits : IntKind → Nat
  | .u8 => 8 | .u16 => 16 | .u32 => 32 | .u64 => 64 | _ => 0
theorem wrapU {k : IntKind} (hk : 0 < ubits k) (a : Nat) : k.wrap (a : Int) = ((a % 2 ^ ubits k : Nat) : Int) := by
  cases k <;> simp [ubits] at hk ⊢ <;> simp [IntKind.wrap, IntKind.signed, IntKind.bits] <;> omega
theorem bits_of {k : IntKind} (hk : 0 < ubits k) : k.bits = ubits k := by cases k <;> first | rfl | (simp [ubits] at hk)
section nats
variable {x y : Operand} {t u : TypeId} {k : IntKind} {a b : Nat}
theorem m_and (hk : 0 < ubits k) (hx : ev e x = .int k (a : Int)) (hy : ev e y = .int k (b : Int)) (ha : a < 2 ^ ubits k) (hb : b < 2 ^ ubits k) (kk : K (.int k ((a &&& b : Nat) : Int)) w) : OP P e (.binOp .and t x y u) ty w K := by
  refine o_and hx hy ?_
  rw [bits_of hk, wrapU hk]
  simp only [BitVec.toNat_and, BitVec.toNat_ofInt]
  have h1 : ((a : Int) % ((2 ^ ubits k : Nat) : Int)).toNat = a := by rw [← Int.natCast_emod]; simp [Nat.mod_eq_of_lt ha]
  have h2 : ((b : Int) % ((2 ^ ubits k : Nat) : Int)).toNat = b := by rw [← Int.natCast_emod]; simp [Nat.mod_eq_of_lt hb]
  rw [h1, h2, Nat.mod_eq_of_lt (Nat.and_lt_two_pow _ hb)]
  exact kk
theorem m_or (hk : 0 < ubits k) (hx : ev e x = .int k (a : Int)) (hy : ev e y = .int k (b : Int)) (ha : a < 2 ^ ubits k) (hb : b < 2 ^ ubits k) (kk : K (.int k ((a ||| b : Nat) : Int)) w) : OP P e (.binOp .or t x y u) ty w K := by
  refine o_or hx hy ?_
  rw [bits_of hk, wrapU hk]
  simp only [BitVec.toNat_or, BitVec.toNat_ofInt]
  have h1 : ((a : Int) % ((2 ^ ubits k : Nat) : Int)).toNat = a := by rw [← Int.natCast_emod]; simp [Nat.mod_eq_of_lt ha]
  have h2 : ((b : Int) % ((2 ^ ubits k : Nat) : Int)).toNat = b := by rw [← Int.natCast_emod]; simp [Nat.mod_eq_of_lt hb]
  rw [h1, h2, Nat.mod_eq_of_lt (Nat.or_lt_two_pow ha hb)]
  exact kk
theorem m_xor (hk : 0 < ubits k) (hx : ev e x = .int k (a : Int)) (hy : ev e y = .int k (b : Int)) (ha : a < 2 ^ ubits k) (hb : b < 2 ^ ubits k) (kk : K (.int k ((a ^^^ b : Nat) : Int)) w) : OP P e (.binOp .xor t x y u) ty w K := by
  refine o_xor hx hy ?_
  rw [bits_of hk, wrapU hk]
  simp only [BitVec.toNat_xor, BitVec.toNat_ofInt]
  have h1 : ((a : Int) % ((2 ^ ubits k : Nat) : Int)).toNat = a := by rw [← Int.natCast_emod]; simp [Nat.mod_eq_of_lt ha]
  have h2 : ((b : Int) % ((2 ^ ubits k : Nat) : Int)).toNat = b := by rw [← Int.natCast_emod]; simp [Nat.mod_eq_of_lt hb]
  rw [h1, h2, Nat.mod_eq_of_lt (Nat.xor_lt_two_pow ha hb)]
  exact kk
theorem m_add (hk : 0 < ubits k) (hx : ev e x = .int k (a : Int)) (hy : ev e y = .int k (b : Int)) (kk : K (.int k (((a + b) % 2 ^ ubits k : Nat) : Int)) w) : OP P e (.binOp .add t x y u) ty w K := by
  refine o_add hx hy ?_
  rw [show (a : Int) + b = ((a + b : Nat) : Int) by simp, wrapU hk]; exact kk
theorem m_mul (hk : 0 < ubits k) (hx : ev e x = .int k (a : Int)) (hy : ev e y = .int k (b : Int)) (kk : K (.int k (((a * b) % 2 ^ ubits k : Nat) : Int)) w) : OP P e (.binOp .mul t x y u) ty w K := by
  refine o_mul hx hy ?_
  rw [show (a : Int) * b = ((a * b : Nat) : Int) by simp, wrapU hk]; exact kk
theorem m_quo (hk : 0 < ubits k) (hx : ev e x = .int k (a : Int)) (hy : ev e y = .int k (b : Int)) (ha : a < 2 ^ ubits k) (hb : b ≠ 0) (kk : K (.int k ((a / b : Nat) : Int)) w) : OP P e (.binOp .quo t x y u) ty w K := by
  refine o_quo hx hy (by simpa using hb) ?_
  rw [show (a : Int).tdiv b = ((a / b : Nat) : Int) by rw [Int.tdiv_eq_ediv_of_nonneg (by simp)]; simp, wrapU hk, Nat.mod_eq_of_lt (Nat.lt_of_le_of_lt (Nat.div_le_self _ _) ha)]; exact kk
theorem m_rem (hx : ev e x = .int k (a : Int)) (hy : ev e y = .int k (b : Int)) (hb : b ≠ 0) (kk : K (.int k ((a % b : Nat) : Int)) w) : OP P e (.binOp .rem t x y u) ty w K := by
  refine o_rem hx hy (by simpa using hb) ?_
  rw [show (a : Int).tmod b = ((a % b : Nat) : Int) by rw [Int.tmod_eq_emod_of_nonneg (by simp)]; simp]; exact kk
theorem m_shl {k' : IntKind} (hk : 0 < ubits k) (hx : ev e x = .int k (a : Int)) (hy : ev e y = .int k' (b : Int)) (kk : K (.int k (((a * 2 ^ b) % 2 ^ ubits k : Nat) : Int)) w) : OP P e (.binOp .shl t x y u) ty w K := by
  refine o_shl hx hy (by simp) ?_
  rw [bits_of hk, show (a : Int) * 2 ^ (min (b : Int).toNat (ubits k)) = ((a * 2 ^ (min b (ubits k)) : Nat) : Int) by simp, wrapU hk]
  rcases Nat.le_total b (ubits k) with h | h
  · rw [Nat.min_eq_left h]; exact kk
  · rw [Nat.min_eq_right h, Nat.mul_mod_left]
    obtain ⟨c, rfl⟩ := Nat.exists_eq_add_of_le h
    rwa [Nat.pow_add, ← Nat.mul_assoc, Nat.mul_right_comm, Nat.mul_mod_left] at kk
theorem m_shr {k' : IntKind} (hk : 0 < ubits k) (hx : ev e x = .int k (a : Int)) (hy : ev e y = .int k' (b : Int)) (ha : a < 2 ^ ubits k) (kk : K (.int k ((a / 2 ^ b : Nat) : Int)) w) : OP P e (.binOp .shr t x y u) ty w K := by
  refine o_shr hx hy (by simp) ?_
  rw [bits_of hk, Int.fdiv_eq_ediv_of_nonneg _ (by exact Int.le_of_lt (Int.pow_pos (by decide))), show (a : Int) / 2 ^ (min (b : Int).toNat (ubits k)) = ((a / 2 ^ (min b (ubits k)) : Nat) : Int) by simp]
  rcases Nat.le_total b (ubits k) with h | h
  · rw [Nat.min_eq_left h]; exact kk
  · rw [Nat.min_eq_right h, Nat.div_eq_of_lt ha]
    rwa [Nat.div_eq_of_lt (Nat.lt_of_lt_of_le ha (Nat.pow_le_pow_right (by decide) h))] at kk

theorem n_and (M : Nat) (hM : M = 2 ^ ubits k) (hk : 0 < ubits k) (hx : ev e x = .int k (a : Int)) (hy : ev e y = .int k (b : Int)) (ha : a < M) (hb : b < M) (kk : K (.int k ((a &&& b : Nat) : Int)) w) : OP P e (.binOp .and t x y u) ty w K := m_and hk hx hy (hM ▸ ha) (hM ▸ hb) kk
theorem n_or (M : Nat) (hM : M = 2 ^ ubits k) (hk : 0 < ubits k) (hx : ev e x = .int k (a : Int)) (hy : ev e y = .int k (b : Int)) (ha : a < M) (hb : b < M) (kk : K (.int k ((a ||| b : Nat) : Int)) w) : OP P e (.binOp .or t x y u) ty w K := m_or hk hx hy (hM ▸ ha) (hM ▸ hb) kk
theorem n_xor (M : Nat) (hM : M = 2 ^ ubits k) (hk : 0 < ubits k) (hx : ev e x = .int k (a : Int)) (hy : ev e y = .int k (b : Int)) (ha : a < M) (hb : b < M) (kk : K (.int k ((a ^^^ b : Nat) : Int)) w) : OP P e (.binOp .xor t x y u) ty w K := m_xor hk hx hy (hM ▸ ha) (hM ▸ hb) kk
theorem n_add (M : Nat) (hM : M = 2 ^ ubits k) (hk : 0 < ubits k) (hx : ev e x = .int k (a : Int)) (hy : ev e y = .int k (b : Int)) (kk : K (.int k (((a + b) % M : Nat) : Int)) w) : OP P e (.binOp .add t x y u) ty w K := m_add hk hx hy (hM ▸ kk)
theorem n_mul (M : Nat) (hM : M = 2 ^ ubits k) (hk : 0 < ubits k) (hx : ev e x = .int k (a : Int)) (hy : ev e y = .int k (b : Int)) (kk : K (.int k (((a * b) % M : Nat) : Int)) w) : OP P e (.binOp .mul t x y u) ty w K := m_mul hk hx hy (hM ▸ kk)
theorem n_quo (M : Nat) (hM : M = 2 ^ ubits k) (hk : 0 < ubits k) (hx : ev e x = .int k (a : Int)) (hy : ev e y = .int k (b : Int)) (ha : a < M) (hb : b ≠ 0) (kk : K (.int k ((a / b : Nat) : Int)) w) : OP P e (.binOp .quo t x y u) ty w K := m_quo hk hx hy (hM ▸ ha) hb kk
theorem n_rem (hx : ev e x = .int k (a : Int)) (hy : ev e y = .int k (b : Int)) (hb : b ≠ 0) (kk : K (.int k ((a % b : Nat) : Int)) w) : OP P e (.binOp .rem t x y u) ty w K := m_rem hx hy hb kk
theorem n_shl {k' : IntKind} (M : Nat) (hM : M = 2 ^ ubits k) (hk : 0 < ubits k) (hx : ev e x = .int k (a : Int)) (hy : ev e y = .int k' (b : Int)) (kk : K (.int k (((a * 2 ^ b) % M : Nat) : Int)) w) : OP P e (.binOp .shl t x y u) ty w K := m_shl hk hx hy (hM ▸ kk)
theorem n_shr {k' : IntKind} (M : Nat) (hM : M = 2 ^ ubits k) (hk : 0 < ubits k) (hx : ev e x = .int k (a : Int)) (hy : ev e y = .int k' (b : Int)) (ha : a < M) (kk : K (.int k ((a / 2 ^ b : Nat) : Int)) w) : OP P e (.binOp .shr t x y u) ty w K := m_shr hk hx hy (hM ▸ ha) kk
end nats

theorem o_not {x : Operand} {b : Bool} (hx : ev e x = .bool b) (k : K (.bool !b) w) : OP P e (.unOp .not ty x) ty w K :=
  OP.of (by simp [execOp, Op.unary, hx]) k
theorem o_not' {x : Operand} {t : TypeId} {b : Bool} (hx : ev e x = .bool b) (k : K (.bool !b) w) : OP P e (.unOp .not t x) ty w K :=
  OP.of (by simp [execOp, Op.unary, hx]) k

/-! ### comparisons that are no integers' -/
section eqs
variable {x y : Operand} {t u : TypeId} {s b : Nat} {z : Value}
theorem equal_d (t : TypeId) (x y : Value) : ∃ d, Op.equal t x y = Op.equalIn (d + 1) t x y := ⟨9999, rfl⟩
theorem run_eqB {a c : Bool} (ht : Ty P t .bool s b z) (w : World) : (Op.equal t (.bool a) (.bool c)).run P w = .ok (a == c) w := by
  obtain ⟨d, hd⟩ := equal_d t (.bool a) (.bool c)
  rw [hd]; simp [Op.equalIn, ht.run_und]
theorem run_eqN {el : TypeId} {p : Option Addr} (ht : Ty P t (.pointer el) s b z) (w : World) : (Op.equal t (.pointer p) (.pointer none)).run P w = .ok p.isNone w := by
  obtain ⟨d, hd⟩ := equal_d t (.pointer p) (.pointer none)
  rw [hd]; cases p <;> simp [Op.equalIn, ht.run_und]
theorem o_eqB {a c : Bool} (ht : Ty P t .bool s b z) (hx : ev e x = .bool a) (hy : ev e y = .bool c) (k : K (.bool (a == c)) w) : OP P e (.binOp .eql t x y u) ty w K :=
  OP.of (by simp [execOp, eqGuard, binOp, hx, hy, run_eqB ht]) k
theorem o_neB {a c : Bool} (ht : Ty P t .bool s b z) (hx : ev e x = .bool a) (hy : ev e y = .bool c) (k : K (.bool (!(a == c))) w) : OP P e (.binOp .neq t x y u) ty w K :=
  OP.of (by simp [execOp, eqGuard, binOp, hx, hy, run_eqB ht]) k
theorem o_eqS {a c : ByteArray} (hx : ev e x = .string a) (hy : ev e y = .string c) (k : K (.bool (a.toList == c.toList)) w) : OP P e (.binOp .eql t x y u) ty w K :=
  OP.of (by simp [execOp, eqGuard, binOp, hx, hy, Op.stringOp]) k
theorem o_neS {a c : ByteArray} (hx : ev e x = .string a) (hy : ev e y = .string c) (k : K (.bool (!(a.toList == c.toList))) w) : OP P e (.binOp .neq t x y u) ty w K :=
  OP.of (by simp [execOp, eqGuard, binOp, hx, hy, Op.stringOp]) k
/-- a pointer against nil -/
theorem o_eqN {el : TypeId} {p : Option Addr} (ht : Ty P t (.pointer el) s b z) (hx : ev e x = .pointer p) (hy : ev e y = .pointer none) (k : K (.bool p.isNone) w) : OP P e (.binOp .eql t x y u) ty w K :=
  OP.of (by simp [execOp, eqGuard, binOp, hx, hy, run_eqN ht]) k
theorem o_neN {el : TypeId} {p : Option Addr} (ht : Ty P t (.pointer el) s b z) (hx : ev e x = .pointer p) (hy : ev e y = .pointer none) (k : K (.bool (!p.isNone)) w) : OP P e (.binOp .neq t x y u) ty w K :=
  OP.of (by simp [execOp, eqGuard, binOp, hx, hy, run_eqN ht]) k
end eqs

theorem o_ext {x : Operand} {i : Nat} {vs : Array Value} {v : Value} (hx : ev e x = .tuple vs) (hv : vs[i]? = some v) (k : K v w) : OP P e (.extract x i) ty w K :=
  OP.of (by simp [execOp, Instr.extract, hx, hv]) k

/-! ### conversions -/
theorem o_cvI {x : Operand} {t u : TypeId} {k k' : IntKind} {n : Int} {s b s' b' : Nat} {z z' : Value} (ht : Ty P t (.int k) s b z) (hu : Ty P u (.int k') s' b' z') (hx : ev e x = .int k n) (kk : K (.int k' (k'.wrap n)) w) : OP P e (.convert t u x) ty w K :=
  OP.of (by simp [execOp, convert, hx, ht.run_und, hu.run_und, Conv.intToInt]) kk
theorem n_cvI {x : Operand} {t u : TypeId} {k k' : IntKind} {n : Nat} {s b s' b' : Nat} {z z' : Value} (M : Nat) (hM : M = 2 ^ ubits k') (ht : Ty P t (.int k) s b z) (hu : Ty P u (.int k') s' b' z') (hk : 0 < ubits k') (hx : ev e x = .int k (n : Int)) (kk : K (.int k' ((n % M : Nat) : Int)) w) : OP P e (.convert t u x) ty w K :=
  o_cvI ht hu hx (by rw [wrapU hk]; exact hM ▸ kk)

end
end Go.Vc
