/-
  The document's answer for layer 2, walked on the abstract machine: the schedule.
-/
import Derived.Test.YtkkleedpakcfgaaGreatDoorTids10
import Derived.Test.YtkkleedpakcfgaaGreatDoorTids15
set_option linter.all false
namespace Go.Proofs.YtkkleedpakcfgaaGreatDoor
open Go.RowKit Abs
set_option maxRecDepth 100000 in
theorem rrotr_q (x : Nat) (b : Int) (hx : x < 4294967296) (hb1 : 2 ≤ b) (hb : b ≤ 31) (w : World) :
    Calls Tryz.prog 271 #[.int .i64 x, .int .i64 b] w fun e w' => e = .returned (.int .i64 (Sha.rotr x b.toNat : Nat)) ∧ Below w.heap.size w w' := by
  obtain ⟨n, rfl⟩ := Int.eq_ofNat_of_zero_le (show 0 ≤ b by omega)
  rw [Int.toNat_natCast]
  exact rrotr_any x n hx (by omega) (by omega) w
theorem i64_word (y : Nat) (h : y < 9223372036854775808) : bits .and .i64 (y : Int) 4294967295 = ((y % 4294967296 : Nat) : Int) := by
  have e := i64_and_nat y 4294967295 h (by omega)
  rw [show y &&& 4294967295 = y % 4294967296 from Nat.and_two_pow_sub_one_eq_mod _ 32] at e
  exact e
theorem xor3_i64 (a b c : Nat) (ha : a < 4294967296) (hb : b < 4294967296) (hc : c < 4294967296) :
    bits BinOp.xor IntKind.i64 (bits BinOp.xor IntKind.i64 (a : Int) (b : Int)) (c : Int) = (((a ^^^ b) ^^^ c : Nat) : Int) := by
  have h1 : a ^^^ b < 4294967296 := Sha.xor_lt ha hb
  rw [i64_xor_nat _ _ (by omega) (by omega), i64_xor_nat _ _ (by omega) (by omega)]
theorem s0_i64 (x : Nat) (hx : x < 4294967296) : bits BinOp.xor IntKind.i64 (bits BinOp.xor IntKind.i64 ((Sha.rotr x 7 : Nat) : Int) ((Sha.rotr x 18 : Nat) : Int)) ((x : Int) / 8) = (Sha.s0 x : Nat) := by
  have e2 : (x : Int) / (8 : Int) = ((x >>> 3 : Nat) : Int) := by rw [Nat.shiftRight_eq_div_pow]; omega
  rw [e2, xor3_i64 _ _ _ (Sha.rotr_lt hx) (Sha.rotr_lt hx) (Sha.shr_lt hx)]
  rfl
theorem s1_i64 (x : Nat) (hx : x < 4294967296) : bits BinOp.xor IntKind.i64 (bits BinOp.xor IntKind.i64 ((Sha.rotr x 17 : Nat) : Int) ((Sha.rotr x 19 : Nat) : Int)) ((x : Int) / 1024) = (Sha.s1 x : Nat) := by
  have e2 : (x : Int) / (1024 : Int) = ((x >>> 10 : Nat) : Int) := by rw [Nat.shiftRight_eq_div_pow]; omega
  rw [e2, xor3_i64 _ _ _ (Sha.rotr_lt hx) (Sha.rotr_lt hx) (Sha.shr_lt hx)]
  rfl
theorem s0_lt {x : Nat} (hx : x < 4294967296) : Sha.s0 x < 4294967296 := Sha.xor_lt (Sha.xor_lt (Sha.rotr_lt hx) (Sha.rotr_lt hx)) (Sha.shr_lt hx)
theorem s1_lt {x : Nat} (hx : x < 4294967296) : Sha.s1 x < 4294967296 := Sha.xor_lt (Sha.xor_lt (Sha.rotr_lt hx) (Sha.rotr_lt hx)) (Sha.shr_lt hx)
theorem natV_sched (b : Sha.Bytes) (t : Nat) : (Sha.sched b t).map natV ++ [natV (if t < 16 then Sha.beWord b t else Sha.nextW (Sha.sched b t) t)] = (Sha.sched b (t + 1)).map natV := by
  simp [Sha.sched]
set_option maxRecDepth 100000 in
set_option maxHeartbeats 1000000 in
theorem rsched_spec (m : Mem) (b o cap : Nat) (ro : Bool) (all : List UInt8) (hb : m.get b = some (.cells ro 1 (bytesV all))) (ho : o + 64 ≤ all.length) :
    Abs.Spec Tryz.prog 270 [.slice (some ⟨b, o, none⟩) 64 cap] m fun v m' => Sl m' v ((Sha.sched ((all.drop o).take 64) 64).map natV) ∧ Grows m m' := by
  obtain ⟨l, hl⟩ : ∃ l, l = (all.drop o).take 64 := ⟨_, rfl⟩
  rw [← hl]
  refine Abs.Spec.walk Tryz.func270 (by rfl) _ Tryz.results270 _ Tryz.ntmps270 (by simp) ?_
  refine SW_seq (SW_region ?_)
  simp only [zS, reduceIte, Nat.reduceLT, Int.reduceToNat, Int.reduceLE, Int.reduceEq, Int.reduceLT, Nat.reduceEqDiff, Nat.reduceAdd]
  refine SW_seq (SW_region ?_)
  simp only [zS, reduceIte, Nat.reduceLT, Int.reduceToNat, Int.reduceLE, Int.reduceEq, Int.reduceLT, Nat.reduceEqDiff, Nat.reduceAdd]
  refine SW_seq (SW_seq (SW_region ?_))
  simp only [zS, reduceIte, Nat.reduceLT, Int.reduceToNat, Int.reduceLE, Int.reduceEq, Int.reduceLT, Nat.reduceEqDiff, Nat.reduceAdd]
  refine SW_block (SW_loopK [0, 3, 4] (fun k f m' => ∃ (t : Nat) (s : Value), t + k = 64 ∧ f = [(0, .slice (some ⟨b, o, none⟩) 64 cap), (3, s), (4, .int .i64 t)] ∧ Sl m' s ((Sha.sched l t).map natV) ∧ Grows m m' ∧ (∀ g l c, s = .slice (some ⟨g, 0, none⟩) l c → m.size ≤ g)) 64 ?_ ?_)
  · simp only [zS, reduceIte, Nat.reduceLT, Int.reduceToNat, Int.reduceLE, Int.reduceEq, Int.reduceLT, Nat.reduceEqDiff, Nat.reduceAdd]
    exact ⟨0, _, rfl, rfl, .inl ⟨rfl, rfl⟩, Grows.refl m, fun g l c e => by cases e⟩
  · rintro k f m' ⟨t, s, htk, rfl, hs, hgr, hnew⟩
    refine SW_seq (SW_seq (SW_region ?_))
    simp only [zS, reduceIte, Nat.reduceLT, Int.reduceToNat, Int.reduceLE, Int.reduceEq, Int.reduceLT, Nat.reduceEqDiff, Nat.reduceAdd]
    refine SW_cond (decide ((t : Int) < 64)) (by rfl) (fun hc => SW_skip ?_) (fun hc => SW_exit ?_)
    · simp only [zS, reduceIte, Nat.reduceLT, Int.reduceToNat, Int.reduceLE, Int.reduceEq, Int.reduceLT, Nat.reduceEqDiff, Nat.reduceAdd]
      refine SW_seq (SW_block (SW_seq (SW_seq (SW_region ?_))))
      simp only [zS, reduceIte, Nat.reduceLT, Int.reduceToNat, Int.reduceLE, Int.reduceEq, Int.reduceLT, Nat.reduceEqDiff, Nat.reduceAdd]
      have hlt : (t : Int) < 64 := of_decide_eq_true hc
      refine SW_cond (decide ((t : Int) < 16)) (by rfl) (fun hc2 => ?_) (fun hc2 => SW_skip ?_)
      · have hlt2 : (t : Int) < 16 := of_decide_eq_true hc2
        refine SW_seq (SW_draw hmix 35 (by kernel_rfl) (by kernel_rfl) ?_)
        have hb' := hgr.2 _ _ hb
        have hbyte : ∀ j, j < 4 → (bytesV all)[o + (4 * t + j)]? = some (.int .u8 ((l.getD (4 * t + j) 0).toNat : Int)) := by
          intro j hj
          have h1 : l[4 * t + j]? = all[o + (4 * t + j)]? := by rw [hl, List.getElem?_take, if_pos (by omega), List.getElem?_drop]
          have h2 : all[o + (4 * t + j)]? = some (all[o + (4 * t + j)]'(by omega)) := List.getElem?_eq_getElem (by omega)
          simp only [bytesV, List.getElem?_map, h2, Option.map_some, byteV, List.getD, h1, Option.getD_some]
        obtain ⟨x0, y0, z0⟩ := idx (4 * (t : Int)) (4 * t + 0) (by omega) (by omega)
        obtain ⟨x1, y1, z1⟩ := idx (4 * (t : Int) + 1) (4 * t + 1) (by omega) (by omega)
        obtain ⟨x2, y2, z2⟩ := idx (4 * (t : Int) + 2) (4 * t + 2) (by omega) (by omega)
        obtain ⟨x3, y3, z3⟩ := idx (4 * (t : Int) + 3) (4 * t + 3) (by omega) (by omega)
        obtain ⟨a0, e0⟩ : ∃ a : Nat, a = (l.getD (4 * t + 0) 0).toNat := ⟨_, rfl⟩
        obtain ⟨a1, e1⟩ : ∃ a : Nat, a = (l.getD (4 * t + 1) 0).toNat := ⟨_, rfl⟩
        obtain ⟨a2, e2⟩ : ∃ a : Nat, a = (l.getD (4 * t + 2) 0).toNat := ⟨_, rfl⟩
        obtain ⟨a3, e3⟩ : ∃ a : Nat, a = (l.getD (4 * t + 3) 0).toNat := ⟨_, rfl⟩
        have b0 : a0 < 256 := by rw [e0]; exact UInt8.toNat_lt _
        have b1 : a1 < 256 := by rw [e1]; exact UInt8.toNat_lt _
        have b2 : a2 < 256 := by rw [e2]; exact UInt8.toNat_lt _
        have b3 : a3 < 256 := by rw [e3]; exact UInt8.toNat_lt _
        have c0 := hbyte 0 (by decide)
        have c1 := hbyte 1 (by decide)
        have c2 := hbyte 2 (by decide)
        have c3 := hbyte 3 (by decide)
        have hw : Sha.beWord l t = a0 * 16777216 + a1 * 65536 + a2 * 256 + a3 := by rw [e0, e1, e2, e3]; rfl
        rw [← e0] at c0
        rw [← e1] at c1
        rw [← e2] at c2
        rw [← e3] at c3
        have v0 := (idx (a0 : Int) a0 (by omega) (by omega)).1
        have v1 := (idx (a1 : Int) a1 (by omega) (by omega)).1
        have v2 := (idx (a2 : Int) a2 (by omega) (by omega)).1
        have v3 := (idx (a3 : Int) a3 (by omega) (by omega)).1
        have v4 := (idx ((a0 : Int) * 16777216) (a0 * 16777216) (by omega) (by omega)).1
        have v5 := (idx ((a1 : Int) * 65536) (a1 * 65536) (by omega) (by omega)).1
        have v6 := (idx ((a2 : Int) * 256) (a2 * 256) (by omega) (by omega)).1
        have v7 := (idx ((a0 : Int) * 16777216 + a1 * 65536) (a0 * 16777216 + a1 * 65536) (by omega) (by omega)).1
        have v8 := (idx ((a0 : Int) * 16777216 + a1 * 65536 + a2 * 256) (a0 * 16777216 + a1 * 65536 + a2 * 256) (by omega) (by omega)).1
        have v9 := (idx ((a0 : Int) * 16777216 + a1 * 65536 + a2 * 256 + a3) (a0 * 16777216 + a1 * 65536 + a2 * 256 + a3) (by omega) (by omega)).1
        have hsl := Sha.sched_length l t
        obtain ⟨s', m2, happ, hs', hgr', hnew'⟩ := hs.app_int hgr hnew (.int .i64 ((a0 : Int) * 16777216 + a1 * 65536 + a2 * 256 + a3)) (by simp [hsl]; omega)
        simp only [zS, reduceIte, Nat.reduceLT, Int.reduceToNat, Int.reduceLE, Int.reduceEq, Int.reduceLT, Nat.reduceEqDiff, Nat.reduceAdd, Tryz.underlying74, Tryz.underlying5, Tryz.underlying3, Tryz.underlying37, inf_u8, inf_int, u8_size, aIndexAddr, gLoad, row_int, hb', Nat.mul_one, x0, x1, x2, x3, z0, z1, z2, z3, c0, c1, c2, c3, v0, v1, v2, v3, v4, v5, v6, v7, v8, v9, new_int, happ]
        refine ⟨by omega, by omega, by omega, by omega, ?_⟩
        refine SW_exit ?_
        simp only [zS, reduceIte, Nat.reduceLT, Int.reduceToNat, Int.reduceLE, Int.reduceEq, Int.reduceLT, Nat.reduceEqDiff, Nat.reduceAdd]
        have xw : IntKind.i64.wrap ((t : Int) + 1) = ((t + 1 : Nat) : Int) := by
          have := (idx ((t : Int) + 1) (t + 1) (by omega) (by omega)).1
          omega
        refine SW_region ?_
        simp only [zS, reduceIte, Nat.reduceLT, Int.reduceToNat, Int.reduceLE, Int.reduceEq, Int.reduceLT, Nat.reduceEqDiff, Nat.reduceAdd, xw]
        refine ⟨k - 1, ⟨t + 1, s', by omega, rfl, ?_, hgr', hnew'⟩, by omega⟩
        rw [← natV_sched, if_pos (by omega), hw]
        have e : natV (a0 * 16777216 + a1 * 65536 + a2 * 256 + a3) = .int .i64 ((a0 : Int) * 16777216 + a1 * 65536 + a2 * 256 + a3) := by unfold natV; congr 1
        rw [e]
        exact hs'
      · simp only [zS, reduceIte, Nat.reduceLT, Int.reduceToNat, Int.reduceLE, Int.reduceEq, Int.reduceLT, Nat.reduceEqDiff, Nat.reduceAdd]
        have hge : 16 ≤ t := by have := of_decide_eq_false hc2; omega
        have hsl := Sha.sched_length l t
        rcases hs with ⟨_, h0⟩ | ⟨g, hs0, hg⟩
        · have := congrArg List.length h0
          rw [List.length_map, hsl] at this
          simp at this; omega
        rw [List.length_map, hsl] at hs0
        subst hs0
        have cell : ∀ j, j < t → ((Sha.sched l t).map natV)[j]? = some (natV ((Sha.sched l t).getD j 0)) := by
          intro j hj
          rw [List.getElem?_map, List.getD, List.getElem?_eq_getElem (by omega)]; rfl
        have c15 := cell (t - 15) (by omega)
        have c2 := cell (t - 2) (by omega)
        have c16 := cell (t - 16) (by omega)
        have c7 := cell (t - 7) (by omega)
        have f15 := Sha.sched_lt l (t - 15) t
        have f2 := Sha.sched_lt l (t - 2) t
        have f16 := Sha.sched_lt l (t - 16) t
        have f7 := Sha.sched_lt l (t - 7) t
        obtain ⟨X15, e15⟩ : ∃ a : Nat, a = (Sha.sched l t).getD (t - 15) 0 := ⟨_, rfl⟩
        obtain ⟨X2, e2⟩ : ∃ a : Nat, a = (Sha.sched l t).getD (t - 2) 0 := ⟨_, rfl⟩
        obtain ⟨X16, e16⟩ : ∃ a : Nat, a = (Sha.sched l t).getD (t - 16) 0 := ⟨_, rfl⟩
        obtain ⟨X7, e7⟩ : ∃ a : Nat, a = (Sha.sched l t).getD (t - 7) 0 := ⟨_, rfl⟩
        rw [← e15] at c15 f15
        rw [← e2] at c2 f2
        rw [← e16] at c16 f16
        rw [← e7] at c7 f7
        have hw : Sha.nextW (Sha.sched l t) t = (X16 + Sha.s0 X15 + X7 + Sha.s1 X2) % 4294967296 := by simp only [Sha.nextW, e15, e2, e16, e7]
        have g0 := s0_lt f15
        have g1 := s1_lt f2
        obtain ⟨x15, y15, z15⟩ := idx ((t : Int) - 15) (t - 15) (by omega) (by omega)
        obtain ⟨x2, y2, z2⟩ := idx ((t : Int) - 2) (t - 2) (by omega) (by omega)
        obtain ⟨x16, y16, z16⟩ := idx ((t : Int) - 16) (t - 16) (by omega) (by omega)
        obtain ⟨x7, y7, z7⟩ := idx ((t : Int) - 7) (t - 7) (by omega) (by omega)
        replace c15 : ((Sha.sched l t).map natV)[t - 15]? = some (.int .i64 (X15 : Int)) := c15
        replace c2 : ((Sha.sched l t).map natV)[t - 2]? = some (.int .i64 (X2 : Int)) := c2
        replace c16 : ((Sha.sched l t).map natV)[t - 16]? = some (.int .i64 (X16 : Int)) := c16
        replace c7 : ((Sha.sched l t).map natV)[t - 7]? = some (.int .i64 (X7 : Int)) := c7
        refine SW_seq (SW_draw hmix 11 (by kernel_rfl) (by kernel_rfl) ?_)
        simp only [zS, reduceIte, Nat.reduceLT, Int.reduceToNat, Int.reduceLE, Int.reduceEq, Int.reduceLT, Nat.reduceEqDiff, Nat.reduceAdd, Tryz.underlying74, Tryz.underlying5, Tryz.underlying3, Tryz.underlying37, inf_u8, inf_int, u8_size, int_size, aIndexAddr, gLoad, row_int, Nat.mul_one, Nat.zero_add, hg, x15, x2, z15, z2, c15, c2]
        refine ⟨by omega, by omega, ?_⟩
        have R : ∀ (X : Nat) (b : Int), X < 4294967296 → 2 ≤ b → b ≤ 31 → ∀ M : Mem, Abs.Spec Tryz.prog 271 [.int .i64 X, .int .i64 b] M fun u M' => u = .int .i64 (Sha.rotr X b.toNat : Nat) ∧ M' = M :=
          fun X b h1 h2 h3 M => Abs.Spec.of_flat (by intro x hx; simp at hx; rcases hx with rfl | rfl <;> rfl) rfl fun w => rrotr_q X b h1 h2 h3 w
        refine SW_seq (SW_region ?_)
        simp only [zS, reduceIte, Nat.reduceLT, Int.reduceToNat, Int.reduceLE, Int.reduceEq, Int.reduceLT, Nat.reduceEqDiff, Nat.reduceAdd]
        refine ⟨by kernel_rfl, _, R X15 7 f15 (by omega) (by omega) _, ?_⟩
        rintro _ M1 ⟨rfl, hM⟩
        rw [hM]
        clear hM
        simp only [zS, reduceIte, Nat.reduceLT, Int.reduceToNat, Int.reduceLE, Int.reduceEq, Int.reduceLT, Nat.reduceEqDiff, Nat.reduceAdd]
        refine ⟨by kernel_rfl, _, R X15 18 f15 (by omega) (by omega) _, ?_⟩
        rintro _ M1 ⟨rfl, hM⟩
        rw [hM]
        clear hM
        have hs15 : (X15 : Int).fdiv (2 ^ min 3 IntKind.i64.bits) = (X15 : Int) / 8 := by
          rw [bits_i64]; exact Int.fdiv_eq_ediv_of_nonneg _ (by decide)
        have hs2 : (X2 : Int).fdiv (2 ^ min 10 IntKind.i64.bits) = (X2 : Int) / 1024 := by
          rw [bits_i64]; exact Int.fdiv_eq_ediv_of_nonneg _ (by decide)
        simp only [zS, reduceIte, Nat.reduceLT, Int.reduceToNat, Int.reduceLE, Int.reduceEq, Int.reduceLT, Nat.reduceEqDiff, Nat.reduceAdd, hs15, s0_i64 X15 f15]
        refine SW_seq (SW_region ?_)
        simp only [zS, reduceIte, Nat.reduceLT, Int.reduceToNat, Int.reduceLE, Int.reduceEq, Int.reduceLT, Nat.reduceEqDiff, Nat.reduceAdd]
        refine ⟨by kernel_rfl, _, R X2 17 f2 (by omega) (by omega) _, ?_⟩
        rintro _ M1 ⟨rfl, hM⟩
        rw [hM]
        clear hM
        simp only [zS, reduceIte, Nat.reduceLT, Int.reduceToNat, Int.reduceLE, Int.reduceEq, Int.reduceLT, Nat.reduceEqDiff, Nat.reduceAdd]
        refine ⟨by kernel_rfl, _, R X2 19 f2 (by omega) (by omega) _, ?_⟩
        rintro _ M1 ⟨rfl, hM⟩
        rw [hM]
        clear hM
        simp only [zS, reduceIte, Nat.reduceLT, Int.reduceToNat, Int.reduceLE, Int.reduceEq, Int.reduceLT, Nat.reduceEqDiff, Nat.reduceAdd, hs2, s1_i64 X2 f2]
        have v1 := (idx ((X16 : Int) + (Sha.s0 X15 : Nat)) (X16 + Sha.s0 X15) (by omega) (by omega)).1
        have v2 := (idx ((X16 : Int) + (Sha.s0 X15 : Nat) + X7) (X16 + Sha.s0 X15 + X7) (by omega) (by omega)).1
        have v3 := (idx ((X16 : Int) + (Sha.s0 X15 : Nat) + X7 + (Sha.s1 X2 : Nat)) (X16 + Sha.s0 X15 + X7 + Sha.s1 X2) (by omega) (by omega)).1
        have v4 : bits .and .i64 ((X16 : Int) + (Sha.s0 X15 : Nat) + X7 + (Sha.s1 X2 : Nat)) 4294967295 = (Sha.nextW (Sha.sched l t) t : Nat) := by
          rw [hw, ← i64_word _ (by omega)]; push_cast; rfl
        have hs : Sl m' (.slice (some ⟨g, 0, none⟩) t t) ((Sha.sched l t).map natV) := .inr ⟨g, by rw [List.length_map, hsl], hg⟩
        obtain ⟨s', m2, happ, hs', hgr', hnew'⟩ := hs.app_int hgr hnew (natV (Sha.nextW (Sha.sched l t) t)) (by simp [hsl]; omega)
        unfold natV at happ
        have xw : IntKind.i64.wrap ((t : Int) + 1) = ((t + 1 : Nat) : Int) := (idx ((t : Int) + 1) (t + 1) (by omega) (by omega)).1
        refine SW_draw hmix 18 (by kernel_rfl) (by kernel_rfl) ?_
        simp only [zS, reduceIte, Nat.reduceLT, Int.reduceToNat, Int.reduceLE, Int.reduceEq, Int.reduceLT, Nat.reduceEqDiff, Nat.reduceAdd, Tryz.underlying74, Tryz.underlying5, Tryz.underlying3, Tryz.underlying37, inf_u8, inf_int, u8_size, int_size, aIndexAddr, gLoad, row_int, Nat.mul_one, Nat.zero_add, hg, x16, x7, z16, z7, c16, c7, v1, v2, v3, v4, new_int, happ]
        refine ⟨by omega, by omega, ?_⟩
        refine SW_region ?_
        simp only [zS, reduceIte, Nat.reduceLT, Int.reduceToNat, Int.reduceLE, Int.reduceEq, Int.reduceLT, Nat.reduceEqDiff, Nat.reduceAdd, xw]
        refine ⟨k - 1, ⟨t + 1, s', by omega, rfl, ?_, hgr', hnew'⟩, by omega⟩
        rw [← natV_sched, if_neg (by omega)]
        exact hs'
    · simp only [zS, reduceIte, Nat.reduceLT, Int.reduceToNat, Int.reduceLE, Int.reduceEq, Int.reduceLT, Nat.reduceEqDiff, Nat.reduceAdd]
      have e64 : t = 64 := by have := of_decide_eq_false hc; omega
      subst e64
      refine SW_seq (SW_region ?_)
      simp only [zS, reduceIte, Nat.reduceLT, Int.reduceToNat, Int.reduceLE, Int.reduceEq, Int.reduceLT, Nat.reduceEqDiff, Nat.reduceAdd]
      refine SW_ret ?_
      simp only [zS, reduceIte, Nat.reduceLT, Int.reduceToNat, Int.reduceLE, Int.reduceEq, Int.reduceLT, Nat.reduceEqDiff, Nat.reduceAdd, sAnswer, sAnswer.sRes]
      exact ⟨hs, hgr⟩
end Go.Proofs.YtkkleedpakcfgaaGreatDoor
