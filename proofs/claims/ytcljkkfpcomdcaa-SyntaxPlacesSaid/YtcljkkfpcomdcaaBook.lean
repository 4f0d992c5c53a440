/-
  The walker's laws: append that tells where its row lies and leaves the old slice as it read; stores into own rows; many own rows, each apart from the others.
-/
import Derived.Test.YtcljkkfpcomdcaaApp
import Derived.Test.YtcljkkfpcomdcaaDrawu
import Derived.Maps.AppendAt
set_option linter.unusedSimpArgs false
set_option linter.unusedVariables false
namespace Go.Vc
open Go Go.RowKit

theorem own_blk {w : World} {base : Nat} {el : TypeId} {s n : Nat} {v : Value} {xs : List Value} (h : w.ownsRow base el s v n xs) {g : Nat} (hb : v.ownBlock = some g) : ∃ cap cur, v = .slice (some ⟨g, 0, none⟩) n cap ∧ base ≤ g ∧ w.heap[g]? = some (.cells cur el (0, 0)) ∧ n ≤ cap ∧ cap ≤ maxLen ∧ cur.size = cap * s ∧ cur.toList.take (n * s) = xs := by
  rcases h.2 with ⟨rfl, rfl⟩ | ⟨g', cap, cur, rfl, r⟩
  · simp [Value.ownBlock] at hb
  · simp only [Value.ownBlock, Option.some.injEq] at hb
    subst hb
    exact ⟨cap, cur, rfl, r⟩
theorem own_some {w : World} {base : Nat} {el : TypeId} {s n : Nat} {v : Value} {xs : List Value} (h : w.ownsRow base el s v n xs) (hn : 0 < n) : ∃ g cap, v = .slice (some ⟨g, 0, none⟩) n cap ∧ v.ownBlock = some g := by
  rcases h.2 with ⟨rfl, rfl⟩ | ⟨g', cap, cur, rfl, r⟩
  · omega
  · exact ⟨g', cap, rfl, rfl⟩
theorem own_one {w : World} {base : Nat} {el : TypeId} {s n : Nat} {v : Value} {xs : List Value} (h : w.ownsRow base el s v n xs) : v.oneCell' = true := by
  rcases h.2 with ⟨rfl, rfl⟩ | ⟨g', cap, cur, rfl, r⟩ <;> rfl
theorem own_cells {w : World} {base : Nat} {el : TypeId} {s n : Nat} {v : Value} {xs : List Value} (h : w.ownsRow base el s v n xs) : v.cells = #[v] := by
  rcases h.2 with ⟨rfl, rfl⟩ | ⟨g', cap, cur, rfl, r⟩ <;> rfl
/-- a row that begins as this one: the older slice reads as it did -/
theorem Sl.ofPrefix {w w' : World} {base : Nat} {el : TypeId} {s n m : Nat} {v v' : Value} {xs ys : List Value} (h : w.ownsRow base el s v n xs) (h' : w'.ownsRow base el s v' m (xs ++ ys)) (hb : v'.ownBlock = v.ownBlock) : Sl w' s v n xs := by
  rcases h.2 with ⟨rfl, rfl⟩ | ⟨g, cap, cur, rfl, hbg, hc, hnc, hcm, hcs, ht⟩
  · have : xs = [] := List.eq_nil_of_length_eq_zero (by simpa using h.1)
    subst this
    exact Sl.nil w' s
  · obtain ⟨cap', cur', hv', -, hc', hnc', -, hcs', ht'⟩ := own_blk h' hb
    refine ⟨by simp [h.1], .inr ⟨g, 0, cap, rfl, hnc, ?_⟩⟩
    refine Cells.of hc' 0 xs fun i u hu => ?_
    have hi := (List.getElem?_eq_some_iff.1 hu).1
    have h1 : (xs ++ ys)[i]? = some u := by rw [List.getElem?_append_left hi]; exact hu
    rw [← ht', List.getElem?_take] at h1
    split at h1
    · simpa using h1
    · simp at h1
theorem run_apO {P : Program} (w : World) (base : Nat) (t ty e : TypeId) (i : TypeInfo) (z : Value) (size bytes : Nat) (ht : P.underlying t = some (.slice e)) (hi : P.info? e = some i) (hz : i.zero = some z)
    (hsize : i.size = size) (hby : i.bytes = bytes) (hzs : z.cells.size = size) (hsz : 0 < size) (v : Value) (n : Nat) (xs : List Value) (hown : w.ownsRow base e size v n xs)
    (a : Addr) (m c : Nat) (news : List Value) (hl : news.length = m * size) (hnews : ∀ j u, news[j]? = some u → w.cell? (a.add j) = some u) (h1 : ∀ u ∈ news, u.oneCell' = true)
    (h63 : n + m ≤ maxLen) (hbytes : (n + m) * bytes ≤ 140737488355328) (hbase : base ≤ w.heap.size) :
    ∃ v' w', (Builtin.append_ #[t, t] ty #[v, .slice (some a) m c]).run P w = .ok v' w' ∧ w'.ownsRow base e size v' (n + m) (xs ++ news) ∧ w.grownBy w' v.ownBlock ∧
      (v'.ownBlock = v.ownBlock ∨ v'.ownBlock = some w.heap.size) ∧ w'.ownsRow base e size v n xs ∧ (v'.ownBlock = v.ownBlock ∨ Ext w w') := by
  obtain ⟨v', w', hr, h2, h3, -, h5⟩ := run_append_own_at (P := P) w base t ty e i z size bytes ht hi hz hsize hby hzs hsz v n xs hown a m c news hl hnews h1 h63 hbytes hbase
  refine ⟨v', w', hr, h2, h3, h5, ?_⟩
  rcases hown.2 with ⟨rfl, rfl⟩ | ⟨g, cap, cur, rfl, hbg, hg, hnc, hcm, hcs, htake⟩
  · refine ⟨⟨hown.1, .inl ⟨rfl, rfl⟩⟩, .inr ⟨h3.os, h3.tape, h3.output, h3.size, fun k hk _ => h3.block k hk (by simp [Value.ownBlock])⟩⟩
  · by_cases hroom : n + m ≤ cap
    · have hr2 := run_append_room (P := P) w t ty e i ht hi g n cap cur hg a m c news (by rw [hsize]; exact hl) hnews h1 hroom (by rw [hsize, hl, hcs, ← Nat.add_mul]; exact Nat.mul_le_mul_right _ hroom)
      rw [hr] at hr2
      simp only [Result.ok.injEq] at hr2
      have hns : n * size ≤ cap * size := Nat.mul_le_mul_right _ hnc
      have hnm : (n + m) * size ≤ cap * size := Nat.mul_le_mul_right _ hroom
      rw [Nat.add_mul] at hnm
      have hcl : cur.toList.length = cap * size := by simp [hcs]
      have e1 : (cur.toList.take (n * i.size)).length = n * size := by rw [hsize, List.length_take, hcl, Nat.min_eq_left hns]
      refine ⟨⟨hown.1, .inr ⟨g, cap, _, rfl, hbg, by rw [hr2.2]; exact setRow_heap w g cur _ e _ hg, hnc, hcm, ?_, ?_⟩⟩, .inl (by rw [hr2.1]; rfl)⟩
      · rw [List.size_toArray, List.length_append, List.length_append, e1, List.length_drop, hcl, hl, hsize]; omega
      · show (cur.toList.take (n * i.size) ++ news ++ cur.toList.drop (n * i.size + news.length)).take (n * size) = xs
        rw [List.append_assoc, ← e1, List.take_left, hsize, htake]
    · have hsmall : n + m ≤ 9223372036854775807 := by simp only [maxLen] at h63; omega
      have holds : ∀ j u, xs[j]? = some u → w.cell? ((⟨g, 0, none⟩ : Addr).add j) = some u := hown.cells (g := g) rfl
      have hr2 := run_append_grow (P := P) w t ty e i z ht hi hz ⟨g, 0, none⟩ n cap xs (by rw [hsize]; exact hown.1) holds a m c news (by rw [hsize]; exact hl) hnews (by omega) (by omega) (by rw [hby]; exact growslice_fits (by omega) hbytes)
      rw [hr] at hr2
      simp only [Result.ok.injEq] at hr2
      have hext : Ext w w' := by rw [hr2.2]; exact (Only.drew w).tr (Only.alloc w.drew _)
      exact ⟨own_ext hown hext, .inr hext⟩
/-- a row of the same contents keeps them under an append to the older one -/
theorem own_keep {w w1 : World} {base : Nat} {el : TypeId} {s n m : Nat} {v v1 u : Value} {xs ys : List Value} (hold : w.ownsRow base el s v n xs) (hk : w1.ownsRow base el s v n xs) (hr : w1.ownsRow base el s v1 m ys) (hb : v1.ownBlock = v.ownBlock ∨ Ext w w1)
    (ho : Only (fun k => v.ownBlock = some k) w w1) (hu : w.ownsRow base el s u m ys) : w1.ownsRow base el s u m ys := by
  rcases hb with hb | hb
  · rcases hu.2 with ⟨rfl, rfl⟩ | ⟨g, cap, cur, rfl, hbg, hc, hnc, hcm, hcs, ht⟩
    · exact ⟨hu.1, .inl ⟨rfl, rfl⟩⟩
    · by_cases hg : v.ownBlock = some g
      · obtain ⟨cv, curv, -, -, hcv, -, -, hsv, -⟩ := own_blk hold hg
        obtain ⟨ck, curk, hvk, -, hck, -, -, hsk, -⟩ := own_blk hk hg
        obtain ⟨cr, curr, -, -, hcr, -, -, hsr, htr⟩ := own_blk hr (by rw [hb]; exact hg)
        obtain ⟨cv', curv', hvv, -⟩ := own_blk hold hg
        rw [hc] at hcv
        simp only [Option.some.injEq, Obj.cells.injEq] at hcv
        rw [hck] at hcr
        simp only [Option.some.injEq, Obj.cells.injEq] at hcr
        have e1 : curk = curr := hcr.1
        have e2 : cur = curv := hcv.1
        obtain ⟨c0, cur0, h0, -, -, -, -, hs0, -⟩ := own_blk hold hg
        have e3 : ck = c0 := by rw [hvk] at h0; simp only [Value.slice.injEq] at h0; exact h0.2.2
        obtain ⟨c5, cur5, h5, -, hc5, -, -, hs5, -⟩ := own_blk hold hg
        have e4 : c5 = ck := by rw [hvk] at h5; simp only [Value.slice.injEq] at h5; exact h5.2.2.symm
        rw [hc] at hc5
        simp only [Option.some.injEq, Obj.cells.injEq] at hc5
        have e5 : cur = cur5 := hc5.1
        refine ⟨hu.1, .inr ⟨g, cap, curk, rfl, hbg, hck, hnc, hcm, ?_, by rw [e1]; exact htr⟩⟩
        rw [hsk, ← e4, ← hs5, ← e5, hcs]
      · exact own_only hu ho (fun k h => by simp only [Value.ownBlock, Option.some.injEq] at h; subst h; exact hg)
  · exact own_ext hu hb
section
variable {P : Program} {e : Env} {w : World} {K : Value → World → Prop} {ty : TypeId}
theorem o_apO {x y : Operand} {t el : TypeId} {s bs s' bs' n m : Nat} {z z' v u : Value} {d' : TypeDesc} {xs ys : List Value} (base : Nat) (ht : Ty P t (.slice el) s bs z) (hel : Ty P el d' s' bs' z') (hx : ev e x = v) (hy : ev e y = u)
    (hown : w.ownsRow base el s' v n xs) (hS : Sl w s' u m ys) (hzs : z'.cells.size = s') (hsz : 0 < s') (h1 : ∀ a ∈ ys, a.oneCell' = true) (h63 : n + m ≤ maxLen) (hby : (n + m) * bs' ≤ 140737488355328) (hbase : base ≤ w.heap.size)
    (k : ∀ v' w', w'.ownsRow base el s' v' (n + m) (xs ++ ys) → Only (fun k => v.ownBlock = some k) w w' → (v'.ownBlock = v.ownBlock ∨ v'.ownBlock = some w.heap.size) → (w'.ownsRow base el s' v n xs ∧ (v'.ownBlock = v.ownBlock ∨ Ext w w')) → K v' w') : OP P e (.call ⟨.builtin .append, #[x, y], #[t, t]⟩) ty w K := by
  obtain ⟨i, hi1, hi2, hi3, hi4⟩ := hel.info
  rcases hS.val with ⟨rfl, a, c, rfl⟩ | ⟨b, off, c, rfl, hnc, hc⟩
  · have hnil : ys = [] := List.eq_nil_of_length_eq_zero (by simpa using hS.len)
    subst hnil
    cases a with
    | some a =>
      obtain ⟨v', w', hr, h2, h3, h4, h5⟩ := run_apO (P := P) w base t ty el i z' s' bs' ht.und hi1 hi4 hi2 hi3 hzs hsz v n xs hown a 0 c [] (by simp) (fun j u hj => by simp at hj) h1 h63 hby hbase
      exact OP.of (by simp [execOp, resolve, invoke, builtin, hx, hy, hr]) (k v' w' h2 ((Only.grown h3).mono (fun _ _ h => h.symm)) h4 h5)
    | none =>
    have hr : (Builtin.append_ #[t, t] ty #[v, .slice none 0 c]).run P w = .ok v w := by
      rcases hown.2 with ⟨rfl, rfl⟩ | ⟨g, cap, cur, rfl, _, _, hnc, _⟩
      · simp [Builtin.append_, run_underlying ht.und, sizeOf, typeInfo, hi1, Builtin.lenOf, Builtin.firstCells]
      · simp [Builtin.append_, run_underlying ht.und, sizeOf, typeInfo, hi1, Builtin.lenOf, Builtin.firstCells, hnc, storeCells]
    refine OP.of (v := v) (w' := w) (by simp [execOp, resolve, invoke, builtin, hx, hy, hr]) (k v w (by simpa using hown) (Only.refl _ _) (.inl rfl) ⟨hown, .inl rfl⟩)
  · obtain ⟨v', w', hr, h2, h3, h4, h5⟩ := run_apO (P := P) w base t ty el i z' s' bs' ht.und hi1 hi4 hi2 hi3 hzs hsz v n xs hown ⟨b, off, none⟩ m c ys hS.len (fun j u hj => by rw [add_none]; exact hc j u hj) h1 h63 hby hbase
    exact OP.of (by simp [execOp, resolve, invoke, builtin, hx, hy, hr]) (k v' w' h2 ((Only.grown h3).mono (fun _ _ h => h.symm)) h4 h5)
/-- one element is appended -/
theorem WL.apO {all rest : List Oper} {Q : Exit → Env → World → Prop} {n d1 d2 : Nat} {t el ty2 : TypeId} {s bs s' bs' m : Nat} {z z' v u : Value} {d' : TypeDesc} {x y : Operand} {xs : List Value} {pos pos2 : String} {after after2 : Array Edge} (base : Nat)
    (hd1 : Nat.blt d1 n = true) (hd2 : Nat.blt d2 n = true) (ht : Ty P t (.slice el) s bs z) (hel : Ty P el d' s' bs' z') (hx : ev e x = u) (hy : ev (upd e d1 (.slice (some ⟨w.heap.size, 0, none⟩) 1 1)) y = v) (hown : w.ownsRow base el s' v m xs)
    (hs : 0 < s') (hs2 : s' ≤ 16777216) (hu : u.cells.size = s') (h1 : ∀ a ∈ u.cells.toList, a.oneCell' = true) (hzs : z'.cells.size = s') (h63 : m + 1 ≤ maxLen) (hby : (m + 1) * bs' ≤ 140737488355328) (hbase : base ≤ w.heap.size)
    (k : ∀ v' w', w'.ownsRow base el s' v' (m + 1) (xs ++ u.cells.toList) → Only (fun k => v.ownBlock = some k) w w' → (v'.ownBlock = v.ownBlock ∨ v'.ownBlock = some (w.heap.size + 1)) → w'.ownsRow base el s' v m xs → WL P all rest Q n (upd (upd e d1 (.slice (some ⟨w.heap.size, 0, none⟩) 1 1)) d2 v') w') :
    WL P all (⟨some d1, .buildSlice t 1 #[(0, x)], ty, pos, after, none⟩ :: ⟨some d2, .call ⟨.builtin .append, #[y, .tmp d1], #[t, t]⟩, ty2, pos2, after2, none⟩ :: rest) Q n e w := by
  refine WL.c hd1 (o_bs1 ht hel hx hs hs2 hu (WL.c hd2 (o_apO base ht hel hy (u := .slice (some ⟨w.heap.size, 0, none⟩) 1 1) (by simp [ev, upd]) (hown.alloc _) (Sl.one hu) hzs hs h1 h63 hby (by simp; omega) ?_)))
  intro v' w' ho hg hb hS
  refine k v' w' ho ?_ (by simpa using hb) hS.1
  refine (Only.alloc w _).trans' hg (fun _ h => h.elim) (fun k _ h => h)
/-- a store of one cell into an own row -/
theorem o_stR1 {x y : Operand} {t el : TypeId} {dd : TypeDesc} {bs g o i n base : Nat} {z u v : Value} {xs : List Value} (ht : Ty P t dd 1 bs z) (hx : ev e x = .pointer (some ⟨g, o, none⟩)) (hoi : o = i) (hy : ev e y = u) (hu : u.oneCell' = true)
    (hown : w.ownsRow base el 1 v n xs) (hv : v.ownBlock = some g) (hi : i < n) (k : ∀ w', w'.ownsRow base el 1 v n (xs.set i u) → Only (fun k => v.ownBlock = some k) w w' → w'.heap.size = w.heap.size → K undef w') : OP P e (.store t x y) ty w K := by
  subst hoi
  obtain ⟨cap, cur, rfl, hb, hc, hnc, hcm, hcs, htk⟩ := own_blk hown hv
  refine o_stB ht hx hy hu hc (by omega) fun w' hC ho hs => k w' ⟨by simp [hown.1], .inr ⟨g, cap, _, rfl, hb, hC, hnc, hcm, by simp [hcs], ?_⟩⟩ (ho.mono (fun j _ h => by rw [hv, h])) hs
  rw [← htk]
  simp only [Array.toList_setIfInBounds, List.take_set]
/-- .. of a struct -/
theorem o_stRA {x y : Operand} {t el : TypeId} {d : TypeDesc} {s bs g o i n base : Nat} {z v : Value} {as : Array Value} {xs : List Value} (ht : Ty P t d s bs z) (hx : ev e x = .pointer (some ⟨g, o, none⟩)) (hoi : o = i * s) (hy : ev e y = .agg as) (has : as.size = s) (h1 : as.toList.all (·.oneCell') = true)
    (hown : w.ownsRow base el s v n xs) (hv : v.ownBlock = some g) (hi : i < n) (k : ∀ w', w'.ownsRow base el s v n (xs.take (i * s) ++ as.toList ++ xs.drop (i * s + s)) → Only (fun k => v.ownBlock = some k) w w' → w'.heap.size = w.heap.size → K undef w') : OP P e (.store t x y) ty w K := by
  obtain ⟨cap, cur, rfl, hb, hc, hnc, hcm, hcs, htk⟩ := own_blk hown hv
  have hm : (i + 1) * s ≤ n * s := Nat.mul_le_mul_right _ hi
  have hm2 : n * s ≤ cap * s := Nat.mul_le_mul_right _ hnc
  rw [Nat.add_mul, Nat.one_mul] at hm
  have hr := run_storeCells_at P g o el as.toList 0 cur w hc (by simp [has, hcs]; omega) (by intro v hv; exact List.all_eq_true.1 h1 v hv)
  simp only [Nat.add_zero, Array.length_toList, has] at hr
  subst hoi
  have hlen : ∀ (A B : List Value), A.length = i * s → B.length = s → A ++ B ++ (cur.toList.drop (i * s + s)) = A ++ (B ++ cur.toList.drop (i * s + s)) := fun A B _ _ => List.append_assoc _ _ _
  have hcl : cur.toList.length = cap * s := by simp [hcs]
  have hal : as.toList.length = s := by simp [has]
  refine OP.ofS (w' := w.setRow g (cur.toList.take (i * s) ++ as.toList ++ cur.toList.drop (i * s + s)).toArray) ?_ (k _ ⟨?_, .inr ⟨g, cap, _, rfl, hb, setRow_heap w g cur _ el (0, 0) hc, hnc, hcm, ?_, ?_⟩⟩ ⟨rfl, rfl, rfl, by simp, fun k _ hn => setRow_other w g k _ (fun h => hn (by rw [hv, h]))⟩ (by simp))
  · simp [execOp, Instr.storeAt, Instr.sureAddr, hx, hy, storeVar, Value.cells, has, ht.run_size, hr]
  · rw [List.length_append, List.length_append, List.length_take, List.length_drop, hal, hown.1, Nat.min_eq_left (by omega)]; omega
  · rw [List.size_toArray, List.length_append, List.length_append, List.length_take, List.length_drop, hal, hcl, Nat.min_eq_left (by omega)]; omega
  · rw [← htk]
    have e1 : (cur.toList.take (n * s)).take (i * s) = cur.toList.take (i * s) := by rw [List.take_take, Nat.min_eq_left (by omega)]
    have e2 : (cur.toList.take (n * s)).drop (i * s + s) = (cur.toList.drop (i * s + s)).take (n * s - (i * s + s)) := by rw [List.drop_take]
    rw [e1, e2]
    simp only []
    have l1 : (cur.toList.take (i * s)).length = i * s := by rw [List.length_take, hcl, Nat.min_eq_left (by omega)]
    have l2 : as.toList.length = s := by simp [has]
    rw [List.take_append, List.take_of_length_le (by rw [List.length_append, l1, l2]; omega), List.length_append, l1, l2]
end

/-- many rows that the call owns, each in a block of its own -/
structure Many (w : World) (H0 : Nat) (el : TypeId) (s N : Nat) (V : Nat → Value) (n : Nat → Nat) (X : Nat → List Value) : Prop where
  row : ∀ j, j < N → w.ownsRow H0 el s (V j) (n j) (X j)
  off : ∀ i j, i < N → j < N → i ≠ j → ∀ k, (V i).ownBlock = some k → ¬ (V j).ownBlock = some k
section
variable {w w' : World} {H0 : Nat} {el : TypeId} {s N : Nat} {V V' : Nat → Value} {n n' : Nat → Nat} {X X' : Nat → List Value}
theorem Many.zero : Many w H0 el s 0 V n X := ⟨fun j h => by omega, fun i j h => by omega⟩
theorem Many.only {F : Nat → Prop} (h : Many w H0 el s N V n X) (ho : Only F w w') (hne : ∀ j, j < N → ∀ k, (V j).ownBlock = some k → ¬ F k) : Many w' H0 el s N V n X := ⟨fun j hj => own_only (h.row j hj) ho (hne j hj), h.off⟩
theorem Many.ext (h : Many w H0 el s N V n X) (ho : Ext w w') : Many w' H0 el s N V n X := h.only ho (fun _ _ _ _ h => h)
theorem Many.congr (h : Many w H0 el s N V n X) (hV : ∀ j, j < N → V' j = V j) (hn : ∀ j, j < N → n' j = n j) (hX : ∀ j, j < N → X' j = X j) : Many w H0 el s N V' n' X' :=
  ⟨fun j hj => by rw [hV j hj, hn j hj, hX j hj]; exact h.row j hj, fun i j hi hj hij => by rw [hV i hi, hV j hj]; exact h.off i j hi hj hij⟩
theorem Many.lt (h : Many w H0 el s N V n X) {j k : Nat} (hj : j < N) (hk : (V j).ownBlock = some k) : H0 ≤ k ∧ k < w.heap.size := (h.row j hj).lt k hk
theorem Many.snoc (h : Many w H0 el s N V n X) {b m : Nat} {v : Value} {xs : List Value} (hr : w.ownsRow b el s v m xs) (hb : H0 ≤ b) (hlt : ∀ j, j < N → ∀ k, (V j).ownBlock = some k → k < b) :
    Many w H0 el s (N + 1) (fun j => if j = N then v else V j) (fun j => if j = N then m else n j) (fun j => if j = N then xs else X j) := by
  refine ⟨fun j hj => ?_, fun i j hi hj hij k hk => ?_⟩
  · by_cases e : j = N
    · simp only [if_pos e]; exact own_mono hr hb
    · simp only [if_neg e]; exact h.row j (by omega)
  · by_cases e : i = N
    · have e2 : j ≠ N := by omega
      simp only [if_pos e, if_neg e2] at hk ⊢
      intro hk2
      have h1 := (hr.lt k hk).1
      have h2 := hlt j (by omega) k hk2
      omega
    · by_cases e2 : j = N
      · simp only [if_neg e, if_pos e2] at hk ⊢
        intro hk2
        have h1 := (hr.lt k hk2).1
        have h2 := hlt i (by omega) k hk
        omega
      · simp only [if_neg e, if_neg e2] at hk ⊢
        exact h.off i j (by omega) (by omega) hij k hk
theorem Many.set (h : Many w H0 el s N V n X) {j0 m : Nat} {xs : List Value} (hj : j0 < N) (ho : Only (fun k => (V j0).ownBlock = some k) w w') (hr : w'.ownsRow H0 el s (V j0) m xs) :
    Many w' H0 el s N V (fun j => if j = j0 then m else n j) (fun j => if j = j0 then xs else X j) := by
  refine ⟨fun j hj' => ?_, h.off⟩
  by_cases e : j = j0
  · simp only [if_pos e]; subst e; exact hr
  · simp only [if_neg e]
    exact own_only (h.row j hj') ho (h.off j j0 hj' hj e)
end

/-- two slices in blocks apart -/
def Dj (v u : Value) : Prop := ∀ k, v.ownBlock = some k → ¬ u.ownBlock = some k
theorem Dj.symm {v u : Value} (h : Dj v u) : Dj u v := fun k h1 h2 => h k h2 h1
theorem Dj.step {v v' u : Value} {g : Nat} (h : Dj v u) (hb : v'.ownBlock = v.ownBlock ∨ v'.ownBlock = some g) (hu : ∀ k, u.ownBlock = some k → k < g) : Dj v' u := fun k h1 h2 => by
  rcases hb with hb | hb
  · exact h k (by rw [← hb]; exact h1) h2
  · rw [hb] at h1
    have := hu k h2
    simp only [Option.some.injEq] at h1
    omega
theorem Dj.none {u : Value} : Dj (.slice none 0 0) u := fun k h => by simp [Value.ownBlock] at h
theorem Dj.own {w : World} {base b' : Nat} {el el' : TypeId} {s n s' n' : Nat} {v u : Value} {xs xs' : List Value} (h : w.ownsRow base el s v n xs) (hl : ∀ k, u.ownBlock = some k → k < base) : Dj v u := fun k h1 h2 => by
  have := (h.lt k h1).1
  have := hl k h2
  omega
theorem own_at {w : World} {base : Nat} {el : TypeId} {n cap g i : Nat} {u : Value} {xs : List Value} (h : w.ownsRow base el 1 (.slice (some ⟨g, 0, none⟩) n cap) n xs) (hi : xs[i]? = some u) : w.cell? ⟨g, 0 + i * 1, none⟩ = some u := by
  obtain ⟨cap', cur, hv, -, hc, hnc, -, hcs, ht⟩ := own_blk h rfl
  have h1 : cur.toList[i]? = some u := by
    rw [← ht, List.getElem?_take] at hi
    split at hi
    · exact hi
    · simp at hi
  rw [Nat.zero_add, Nat.mul_one]
  exact cell_of hc (by simpa using h1)
section
variable {w w' : World} {H0 : Nat} {el : TypeId} {s N : Nat} {V V' : Nat → Value} {n n' : Nat → Nat} {X X' : Nat → List Value}
/-- a row of another type is written -/
theorem Many.other (h : Many w H0 el s N V n X) {base : Nat} {T : TypeId} {sz m : Nat} {v : Value} {xs : List Value} (hr : w.ownsRow base T sz v m xs) (hne : T ≠ el) (ho : Only (fun k => v.ownBlock = some k) w w') : Many w' H0 el s N V n X :=
  h.only ho (fun j hj => own_row_off hr (h.row j hj) hne)
/-- a row grows, in its block or in a new one -/
theorem Many.grow (h : Many w H0 el s N V n X) {j0 m g : Nat} {v' : Value} {xs : List Value} (hj : j0 < N) (ho : Only (fun k => (V j0).ownBlock = some k) w w') (hb : v'.ownBlock = (V j0).ownBlock ∨ v'.ownBlock = some g) (hg : w.heap.size ≤ g) (hr : w'.ownsRow H0 el s v' m xs) :
    Many w' H0 el s N (fun j => if j = j0 then v' else V j) (fun j => if j = j0 then m else n j) (fun j => if j = j0 then xs else X j) := by
  have dj : ∀ j, j < N → j ≠ j0 → Dj v' (V j) := fun j hj' hne => Dj.step (v := V j0) (fun k h1 h2 => h.off j0 j hj hj' (fun e => hne e.symm) k h1 h2) hb (fun k hk => by have := (h.lt hj' hk).2; omega)
  refine ⟨fun j hj' => ?_, fun i j hi hj' hij k hk => ?_⟩
  · by_cases e : j = j0
    · simp only [if_pos e]; exact hr
    · simp only [if_neg e]
      exact own_only (h.row j hj') ho (h.off j j0 hj' hj e)
  · by_cases e : i = j0
    · have e2 : j ≠ j0 := by omega
      simp only [if_pos e, if_neg e2] at hk ⊢
      exact dj j hj' e2 k hk
    · by_cases e2 : j = j0
      · simp only [if_neg e, if_pos e2] at hk ⊢
        exact (dj i hi e).symm k hk
      · simp only [if_neg e, if_neg e2] at hk ⊢
        exact h.off i j hi hj' hij k hk
theorem Ext.many {w0 w w' : World} {v : Value} (h : Ext w0 w) {H : Nat} (hH : w0.heap.size ≤ H) (ho : Only (fun k => v.ownBlock = some k) w w') (hv : ∀ k, v.ownBlock = some k → H ≤ k) : Ext w0 w' :=
  h.trans' ho (fun _ h => h) (fun j hj he => by have := hv j he; omega)
end
section
variable {P : Program} {e : Env} {w : World} {K : Value → World → Prop} {ty : TypeId}
theorem o_cvB8 {x : Operand} {t u : TypeId} {n : Nat} {z0 : Int} {s b s' b' : Nat} {z z' : Value} (ht : Ty P t (.int .i64) s b z) (hu : Ty P u (.int .u8) s' b' z') (hx : ev e x = .int .i64 z0) (hz : z0 = (n : Int)) (h : n < 256) (kk : K (bv (UInt8.ofNat n)) w) : OP P e (.convert t u x) ty w K :=
  o_cvI ht hu hx (by
    subst hz
    have h1 : IntKind.u8.wrap (n : Int) = (n : Int) := by
      rw [wrapU (by decide)]
      have h2 : 2 ^ ubits IntKind.u8 = 256 := by decide
      rw [h2, Nat.mod_eq_of_lt h]
    rw [h1]
    have h3 : bv (UInt8.ofNat n) = .int .u8 (n : Int) := by
      unfold bv; simp; omega
    rw [← h3]; exact kk)
end
theorem Many.fresh {w1 w2 : World} {H0 : Nat} {el : TypeId} {s N m : Nat} {V : Nat → Value} {n : Nat → Nat} {X : Nat → List Value} {v : Value} {xs : List Value} (h : Many w1 H0 el s N V n X) (hr : w2.ownsRow w1.heap.size el s v m xs) (hx : Ext w1 w2) (hH : H0 ≤ w1.heap.size) :
    Many w2 H0 el s (N + 1) (fun j => if j = N then v else V j) (fun j => if j = N then m else n j) (fun j => if j = N then xs else X j) :=
  (h.ext hx).snoc hr hH (fun j hj k hk => (h.lt hj hk).2)
theorem Many.freshC {α : Type} {w1 w2 : World} {H0 : Nat} {el : TypeId} {s N : Nat} {V : Nat → Value} {C : Nat → List α} {f : α → Value} {v : Value} {xs : List α} (h : Many w1 H0 el s N V (fun j => (C j).length) (fun j => (C j).map f)) (hr : w2.ownsRow w1.heap.size el s v xs.length (xs.map f)) (hx : Ext w1 w2) (hH : H0 ≤ w1.heap.size) (hC : C N = xs) :
    Many w2 H0 el s (N + 1) (fun j => if j = N then v else V j) (fun j => (C j).length) (fun j => (C j).map f) := by
  refine (h.fresh hr hx hH).congr (fun _ _ => rfl) (fun j hj => ?_) (fun j hj => ?_)
  · by_cases e : j = N
    · subst e; simp [hC]
    · simp [e]
  · by_cases e : j = N
    · subst e; simp [hC]
    · simp [e]
theorem Many.snocG {w : World} {H0 : Nat} {el : TypeId} {s N b m : Nat} {V : Nat → Value} {n : Nat → Nat} {X : Nat → List Value} {v : Value} {xs : List Value} (h : Many w H0 el s N V n X) (hr : w.ownsRow b el s v m xs) (hb : H0 ≤ b) (hlt : ∀ j, j < N → ∀ k, (V j).ownBlock = some k → k < b) (hn : n N = m) (hX : X N = xs) :
    Many w H0 el s (N + 1) (fun j => if j = N then v else V j) n X := by
  refine (h.snoc hr hb hlt).congr (fun _ _ => rfl) (fun j hj => ?_) (fun j hj => ?_)
  · by_cases e : j = N
    · subst e; simp [hn]
    · simp [e]
  · by_cases e : j = N
    · subst e; simp [hX]
    · simp [e]
theorem ite_lt {N b : Nat} {V : Nat → Value} {v : Value} (h : ∀ j, j < N → ∀ k, (V j).ownBlock = some k → k < b) (hv : ∀ k, v.ownBlock = some k → k < b) : ∀ j, j < N + 1 → ∀ k, ((fun j => if j = N then v else V j) j).ownBlock = some k → k < b := by
  intro j hj k hk
  by_cases e : j = N
  · simp only [if_pos e] at hk; exact hv k hk
  · simp only [if_neg e] at hk; exact h j (by omega) k hk
theorem own_cellsAt {w : World} {base : Nat} {el : TypeId} {s n cap g : Nat} {xs : List Value} (h : w.ownsRow base el s (.slice (some ⟨g, 0, none⟩) n cap) n xs) (i : Nat) : Cells w g (0 + i * s) ((xs.drop (i * s)).take s) := by
  obtain ⟨cap', cur, hv, -, hc, hnc, -, hcs, ht⟩ := own_blk h rfl
  refine Cells.sub (Cells.of hc 0 xs fun i u hu => ?_) _ _
  rw [← ht, List.getElem?_take] at hu
  split at hu
  · simpa using hu
  · simp at hu
theorem list_snocF (V : Nat → Value) (f : Nat → Nat) (q : Nat) : (List.range (q + 1)).map (fun j => V (f j)) = (List.range q).map (fun j => V (f j)) ++ [V (f q)] := by rw [List.range_succ, List.map_append]; rfl
theorem list_congrF {V V' : Nat → Value} {f : Nat → Nat} {q : Nat} (h : ∀ j, j < q → V' (f j) = V (f j)) : (List.range q).map (fun j => V' (f j)) = (List.range q).map (fun j => V (f j)) :=
  List.map_congr_left (fun j hj => h j (List.mem_range.1 hj))
theorem list_atF {V : Nat → Value} {f : Nat → Nat} {q j : Nat} (h : j < q) : ((List.range q).map (fun j => V (f j)))[j]? = some (V (f j)) := by simp [h]
/-- what a drawn region may do around one row that it appends to -/
structure Keeps (v : Value) (O : World → Prop) (G : World → Value → Prop) (w w' : World) : Prop where
  only : Only (fun k => v.ownBlock = some k) w w'
  old : O w → O w'
  good : ∀ u, G w u → G w' u
theorem Keeps.refl {v : Value} {O : World → Prop} {G : World → Value → Prop} (w : World) : Keeps v O G w w := ⟨Only.refl _ w, fun h => h, fun _ h => h⟩
theorem Keeps.trans {v : Value} {O : World → Prop} {G : World → Value → Prop} {a b c : World} (h : Keeps v O G a b) (k : Keeps v O G b c) : Keeps v O G a c := ⟨h.only.trans k.only, fun x => k.old (h.old x), fun u x => k.good u (h.good u x)⟩
theorem Keeps.ext {v : Value} {O : World → Prop} {G : World → Value → Prop} {w w' : World} (h : Ext w w') (hO : O w → O w') (hG : ∀ u, G w u → G w' u) : Keeps v O G w w' := ⟨h.mono (fun _ _ h => h.elim), hO, hG⟩
/-- a slice of strings, as it is handed in -/
theorem strs_row {w : World} {x : Addr} {len cap : Nat} {ss : List ByteArray} (hlc : len ≤ cap) (hm : cap ≤ maxLen) (hz : ss.length = cap) (hc : ∀ i, i < ss.length → w.cell? (x.add i) = some (.string (ss.getD i ByteArray.empty))) (hs : ∀ s ∈ ss, s.size ≤ maxLen) :
    ∃ ys : List (List UInt8), ys.length = len ∧ (∀ s ∈ ys, s.length ≤ maxLen) ∧ Sl w 1 (.slice (some x) len cap) ys.length (ys.map st) := by
  have hl : ((ss.take len).map (fun s => s.data.toList)).length = len := by simp; omega
  refine ⟨(ss.take len).map (fun s => s.data.toList), hl, ?_, ?_⟩
  · intro s h
    obtain ⟨b, hb, rfl⟩ := List.mem_map.1 h
    have := hs b (List.mem_of_mem_take hb)
    rw [Array.length_toList]; exact this
  · rw [hl]
    by_cases h0 : len = 0
    · subst h0
      exact ⟨by simp, .inl ⟨rfl, _, _, rfl⟩⟩
    · obtain ⟨b, off, spot⟩ := x
      have := hc 0 (by omega)
      have hs : spot = none := by simpa [Addr.add] using World.cell?_spot this
      subst hs
      refine ⟨by simp; omega, .inr ⟨b, off, cap, rfl, hlc, ?_⟩⟩
      intro i v hv
      have hi : i < len := by
        have := (List.getElem?_eq_some_iff.1 hv).1
        simp at this; omega
      have h1 := hc i (by omega)
      rw [add_none] at h1
      rw [h1, ← hv]
      have hlt : i < ss.length := by omega
      simp [hi, hlt]
end Go.Vc
