/-
  The document's answer for layer 2, walked on the abstract machine: the sum.
-/
import Derived.Test.YtkkleedpakcfgaaGreatDoorTids17
set_option linter.all false
namespace Go.Proofs.YtkkleedpakcfgaaGreatDoor
open Go.RowKit Abs
theorem ch_i64 (e f g : Nat) (he : e < 4294967296) (hf : f < 4294967296) (hg : g < 4294967296) :
    bits .xor .i64 (bits .and .i64 (e : Int) (f : Int)) (bits .and .i64 (IntKind.i64.wrap (4294967295 - (e : Int))) (g : Int)) = ((Sha.ch e f g : Nat) : Int) := by
  have e1 : IntKind.i64.wrap (4294967295 - (e : Int)) = ((4294967295 - e : Nat) : Int) := by rw [wr (by omega) (by omega)]; omega
  have h1 : e &&& f < 4294967296 := Sha.and_lt he
  have h2 : (4294967295 - e) &&& g < 4294967296 := Sha.and_lt (by omega)
  rw [e1, i64_and_nat _ _ (by omega) (by omega), i64_and_nat _ _ (by omega) (by omega), i64_xor_nat _ _ (by omega) (by omega)]
  rfl
theorem big1_i64 (e : Nat) (he : e < 4294967296) : bits .xor .i64 (bits .xor .i64 ((Sha.rotr e 6 : Nat) : Int) ((Sha.rotr e 11 : Nat) : Int)) ((Sha.rotr e 25 : Nat) : Int) = (Sha.big1 e : Nat) := by
  rw [xor3_i64 _ _ _ (Sha.rotr_lt he) (Sha.rotr_lt he) (Sha.rotr_lt he)]; rfl
theorem big0_i64 (e : Nat) (he : e < 4294967296) : bits .xor .i64 (bits .xor .i64 ((Sha.rotr e 2 : Nat) : Int) ((Sha.rotr e 13 : Nat) : Int)) ((Sha.rotr e 22 : Nat) : Int) = (Sha.big0 e : Nat) := by
  rw [xor3_i64 _ _ _ (Sha.rotr_lt he) (Sha.rotr_lt he) (Sha.rotr_lt he)]; rfl
theorem big0_lt {a : Nat} (ha : a < 4294967296) : Sha.big0 a < 4294967296 := Sha.xor_lt (Sha.xor_lt (Sha.rotr_lt ha) (Sha.rotr_lt ha)) (Sha.rotr_lt ha)
theorem big1_lt {a : Nat} (ha : a < 4294967296) : Sha.big1 a < 4294967296 := Sha.xor_lt (Sha.xor_lt (Sha.rotr_lt ha) (Sha.rotr_lt ha)) (Sha.rotr_lt ha)
theorem ch_lt {e f g : Nat} (he : e < 4294967296) : Sha.ch e f g < 4294967296 := Sha.xor_lt (Sha.and_lt he) (Sha.and_lt (by omega))
theorem maj_lt {a b c : Nat} (ha : a < 4294967296) (hb : b < 4294967296) : Sha.maj a b c < 4294967296 := Sha.xor_lt (Sha.xor_lt (Sha.and_lt ha) (Sha.and_lt ha)) (Sha.and_lt hb)
theorem maj_i64 (a b c : Nat) (ha : a < 4294967296) (hb : b < 4294967296) (hc : c < 4294967296) :
    bits .xor .i64 (bits .xor .i64 (bits .and .i64 (a : Int) (b : Int)) (bits .and .i64 (a : Int) (c : Int))) (bits .and .i64 (b : Int) (c : Int)) = (Sha.maj a b c : Nat) := by
  have h1 : a &&& b < 4294967296 := Sha.and_lt ha
  have h2 : a &&& c < 4294967296 := Sha.and_lt ha
  have h3 : b &&& c < 4294967296 := Sha.and_lt hb
  rw [i64_and_nat _ _ (by omega) (by omega), i64_and_nat _ _ (by omega) (by omega), i64_and_nat _ _ (by omega) (by omega), xor3_i64 _ _ _ h1 h2 h3]
  rfl
theorem one_i64 (e f g h k w : Nat) (he : e < 4294967296) (hf : f < 4294967296) (hg : g < 4294967296) (hh : h < 4294967296) (hk : k < 4294967296) (hw : w < 4294967296) :
    bits .and .i64 (IntKind.i64.wrap (IntKind.i64.wrap (IntKind.i64.wrap (IntKind.i64.wrap ((h : Int) +
      bits .xor .i64 (bits .xor .i64 ((Sha.rotr e 6 : Nat) : Int) ((Sha.rotr e 11 : Nat) : Int)) ((Sha.rotr e 25 : Nat) : Int)) +
      bits .xor .i64 (bits .and .i64 (e : Int) (f : Int)) (bits .and .i64 (IntKind.i64.wrap (4294967295 - (e : Int))) (g : Int))) + k) + w)) 4294967295
      = (((h + Sha.big1 e + Sha.ch e f g + k + w) % 4294967296 : Nat) : Int) := by
  rw [ch_i64 e f g he hf hg, big1_i64 e he]
  have h1 := big1_lt he
  have h2 := ch_lt (f := f) (g := g) he
  rw [wr (x := (h : Int) + (Sha.big1 e : Nat)) (by omega) (by omega), wr (x := (h : Int) + (Sha.big1 e : Nat) + (Sha.ch e f g : Nat)) (by omega) (by omega), wr (x := (h : Int) + (Sha.big1 e : Nat) + (Sha.ch e f g : Nat) + k) (by omega) (by omega), wr (x := (h : Int) + (Sha.big1 e : Nat) + (Sha.ch e f g : Nat) + k + w) (by omega) (by omega)]
  rw [← i64_word _ (by omega)]
  push_cast; rfl
theorem two_i64 (a b c : Nat) (ha : a < 4294967296) (hb : b < 4294967296) (hc : c < 4294967296) :
    bits .and .i64 (IntKind.i64.wrap (bits .xor .i64 (bits .xor .i64 ((Sha.rotr a 2 : Nat) : Int) ((Sha.rotr a 13 : Nat) : Int)) ((Sha.rotr a 22 : Nat) : Int) +
      bits .xor .i64 (bits .xor .i64 (bits .and .i64 (a : Int) (b : Int)) (bits .and .i64 (a : Int) (c : Int))) (bits .and .i64 (b : Int) (c : Int)))) 4294967295
      = (((Sha.big0 a + Sha.maj a b c) % 4294967296 : Nat) : Int) := by
  rw [big0_i64 a ha, maj_i64 a b c ha hb hc]
  have h1 := big0_lt ha
  have h2 := maj_lt (c := c) ha hb
  rw [wr (x := (Sha.big0 a : Int) + (Sha.maj a b c : Nat)) (by omega) (by omega), ← i64_word _ (by omega)]
  push_cast; rfl
theorem sum_i64 (a b : Nat) (ha : a < 4294967296) (hb : b < 4294967296) : bits .and .i64 (IntKind.i64.wrap ((a : Int) + (b : Int))) 4294967295 = (((a + b) % 4294967296 : Nat) : Int) := by
  rw [wr (x := (a : Int) + b) (by omega) (by omega), ← i64_word _ (by omega)]
  push_cast; rfl
def c8 (v : Sha.W8) : List Value := [.int .i64 (v.a : Int), .int .i64 (v.b : Int), .int .i64 (v.c : Int), .int .i64 (v.d : Int), .int .i64 (v.e : Int), .int .i64 (v.f : Int), .int .i64 (v.g : Int), .int .i64 (v.h : Int)]
theorem K_lt : ∀ t, Sha.K.getD t 0 < 4294967296 := by
  intro t
  by_cases h : t < 64
  · have : ∀ t : Fin 64, Sha.K.getD t.val 0 < 4294967296 := by decide
    exact this ⟨t, h⟩
  · rw [List.getD, List.getElem?_eq_none (by simp [Sha.K]; omega)]; decide
theorem c8_byte (x : Sha.W8) (hx : x.Fit) (t : Nat) (ht : t < 8) : ∃ a : Nat, (c8 x)[t]? = some (.int .i64 (a : Int)) ∧ a < 4294967296 ∧ ∀ c, c < 4 → x.bytes[4 * t + c]? = some (UInt8.ofNat (a >>> (8 * (3 - c)))) := by
  have : t = 0 ∨ t = 1 ∨ t = 2 ∨ t = 3 ∨ t = 4 ∨ t = 5 ∨ t = 6 ∨ t = 7 := by omega
  have four : ∀ (P : Nat → Prop), P 0 → P 1 → P 2 → P 3 → ∀ c, c < 4 → P c := fun P h0 h1 h2 h3 c hc => by
    have : c = 0 ∨ c = 1 ∨ c = 2 ∨ c = 3 := by omega
    rcases this with rfl | rfl | rfl | rfl <;> assumption
  rcases this with rfl | rfl | rfl | rfl | rfl | rfl | rfl | rfl
  · exact ⟨_, rfl, hx.a, four _ rfl rfl rfl rfl⟩
  · exact ⟨_, rfl, hx.b, four _ rfl rfl rfl rfl⟩
  · exact ⟨_, rfl, hx.c, four _ rfl rfl rfl rfl⟩
  · exact ⟨_, rfl, hx.d, four _ rfl rfl rfl rfl⟩
  · exact ⟨_, rfl, hx.e, four _ rfl rfl rfl rfl⟩
  · exact ⟨_, rfl, hx.f, four _ rfl rfl rfl rfl⟩
  · exact ⟨_, rfl, hx.g, four _ rfl rfl rfl rfl⟩
  · exact ⟨_, rfl, hx.h, four _ rfl rfl rfl rfl⟩
theorem out_byte (x c : Nat) (hx : x < 4294967296) : Value.int .u8 (bits BinOp.and IntKind.i64 ((x : Int) / 2 ^ (8 * (3 - c))) 255 % 256) = byteV (UInt8.ofNat (x >>> (8 * (3 - c)))) := by
  have e : ((x : Int) / 2 ^ (8 * (3 - c))) = ((x / 2 ^ (8 * (3 - c)) : Nat) : Int) := by push_cast; rfl
  have hle : x / 2 ^ (8 * (3 - c)) ≤ x := Nat.div_le_self _ _
  have e2 := i64_and_nat (x / 2 ^ (8 * (3 - c))) 255 (by omega) (by omega)
  rw [show x / 2 ^ (8 * (3 - c)) &&& 255 = x / 2 ^ (8 * (3 - c)) % 256 from Nat.and_two_pow_sub_one_eq_mod _ 8] at e2
  rw [e]
  unfold byteV
  congr 1
  refine (congrArg (· % 256) e2).trans ?_
  rw [UInt8.toNat_ofNat', Nat.shiftRight_eq_div_pow]
  omega
theorem c8_plus (x y : Sha.W8) (hx : x.Fit) (hy : y.Fit) (t : Nat) (ht : t < 8) : ∃ a b : Nat, (c8 x)[t]? = some (.int .i64 (a : Int)) ∧ (c8 y)[t]? = some (.int .i64 (b : Int)) ∧ a < 4294967296 ∧ b < 4294967296 ∧ (c8 (x.plus y))[t]? = some (.int .i64 (((a + b) % 4294967296 : Nat) : Int)) := by
  have : t = 0 ∨ t = 1 ∨ t = 2 ∨ t = 3 ∨ t = 4 ∨ t = 5 ∨ t = 6 ∨ t = 7 := by omega
  rcases this with rfl | rfl | rfl | rfl | rfl | rfl | rfl | rfl
  · exact ⟨_, _, rfl, rfl, hx.a, hy.a, rfl⟩
  · exact ⟨_, _, rfl, rfl, hx.b, hy.b, rfl⟩
  · exact ⟨_, _, rfl, rfl, hx.c, hy.c, rfl⟩
  · exact ⟨_, _, rfl, rfl, hx.d, hy.d, rfl⟩
  · exact ⟨_, _, rfl, rfl, hx.e, hy.e, rfl⟩
  · exact ⟨_, _, rfl, rfl, hx.f, hy.f, rfl⟩
  · exact ⟨_, _, rfl, rfl, hx.g, hy.g, rfl⟩
  · exact ⟨_, _, rfl, rfl, hx.h, hy.h, rfl⟩
set_option maxRecDepth 100000 in
set_option maxHeartbeats 2000000 in
theorem rsum_spec (m : Mem) (s : ByteArray) (hs : s.size ≤ 140737488355200) :
    Abs.Spec Tryz.prog 246 [.string s] m fun v m' => v = .string (str (Sha.sum s.data.toList)) ∧ Grows m m' := by
  have R : ∀ (X : Nat) (b : Int), X < 4294967296 → 2 ≤ b → b ≤ 31 → ∀ M : Mem, Abs.Spec Tryz.prog 271 [.int .i64 X, .int .i64 b] M fun u M' => u = .int .i64 (Sha.rotr X b.toNat : Nat) ∧ M' = M :=
    fun X b h1 h2 h3 M => Abs.Spec.of_flat (by intro x hx; simp at hx; rcases hx with rfl | rfl <;> rfl) rfl fun w => rrotr_q X b h1 h2 h3 w
  obtain ⟨all, hall⟩ : ∃ all, all = s.data.toList ++ Sha.tail s.size := ⟨_, rfl⟩
  have hsl : s.data.toList.length = s.size := by rw [Array.length_toList]; rfl
  have htl : (Sha.tail s.size).length = 1 + Sha.zeros (s.size + 1) + 8 := by simp [Sha.tail, Sha.be8]; omega
  have hlen : all.length = s.size + 1 + Sha.zeros (s.size + 1) + 8 := by rw [hall, List.length_append, hsl, htl]; omega
  have hmod : all.length % 64 = 0 := by rw [hlen]; unfold Sha.zeros; omega
  have hzb : Sha.zeros (s.size + 1) ≤ 63 := by unfold Sha.zeros; omega
  have hbl : (bytesV all).length = all.length := by simp [bytesV]
  refine Abs.Spec.walk Tryz.func246 (by rfl) _ Tryz.results246 _ Tryz.ntmps246 (by simp) ?_
  refine SW_seq (SW_region ?_)
  simp only [zS, reduceIte, Nat.reduceLT, Int.reduceToNat, Int.reduceLE, Int.reduceEq, Int.reduceLT, Nat.reduceEqDiff, Nat.reduceAdd]
  refine SW_seq (SW_region ?_)
  simp only [zS, reduceIte, Nat.reduceLT, Int.reduceToNat, Int.reduceLE, Int.reduceEq, Int.reduceLT, Nat.reduceEqDiff, Nat.reduceAdd]
  refine ⟨by kernel_rfl, _, rpadded_spec m s hs, ?_⟩
  rintro v1 m1 ⟨hv1, hgr1, hnew1⟩
  rw [← hall] at hv1
  obtain ⟨ga, rfl, hga⟩ := hv1.at (by omega)
  rw [hbl] at hnew1 ⊢
  have hga0 := hnew1 ga _ _ rfl
  clear hnew1 hv1
  simp only [zS, reduceIte, Nat.reduceLT, Int.reduceToNat, Int.reduceLE, Int.reduceEq, Int.reduceLT, Nat.reduceEqDiff, Nat.reduceAdd]
  refine SW_seq (SW_region ?_)
  simp only [zS, reduceIte, Nat.reduceLT, Int.reduceToNat, Int.reduceLE, Int.reduceEq, Int.reduceLT, Nat.reduceEqDiff, Nat.reduceAdd]
  refine ⟨by kernel_rfl, _, rstart_spec m1, ?_⟩
  rintro _ m2 ⟨rfl, hm2⟩
  simp only [zS, reduceIte, Nat.reduceLT, Int.reduceToNat, Int.reduceLE, Int.reduceEq, Int.reduceLT, Nat.reduceEqDiff, Nat.reduceAdd]
  refine SW_seq (SW_region ?_)
  simp only [zS, reduceIte, Nat.reduceLT, Int.reduceToNat, Int.reduceLE, Int.reduceEq, Int.reduceLT, Nat.reduceEqDiff, Nat.reduceAdd]
  refine ⟨by kernel_rfl, _, rrounds_spec m2, ?_⟩
  rintro _ m3 ⟨rfl, hm3⟩
  have hga1 := Mem.get_lt hga
  have hm2s : m2.size = m1.size + 1 := by rw [hm2, Mem.size_push]
  obtain ⟨gh, hgh⟩ : ∃ g, g = m1.size := ⟨_, rfl⟩
  obtain ⟨gk, hgk⟩ : ∃ g, g = m2.size := ⟨_, rfl⟩
  rw [← hgh, ← hgk]
  have k1 : m3.get ga = some (.cells false 1 (bytesV all)) := by
    rw [hm3, Mem.get_push_old (by omega), hm2, Mem.get_push_old hga1]; exact hga
  have k2 : m3.get gh = some (.cells false 1 (c8 Sha.start)) := by
    rw [hm3, Mem.get_push_old (by omega), hm2, hgh, Mem.get_push_new]; rfl
  have k3 : m3.get gk = some (.cells false 1 (Sha.K.map natV)) := by rw [hm3, hgk, Mem.get_push_new]
  have hgr3 : Grows m m3 := by rw [hm3, hm2]; exact (hgr1.push _).push _
  have hgh0 : m.size ≤ gh := by have := hgr1.1; omega
  have hne1 : ga ≠ gh := by omega
  have hne2 : gk ≠ gh := by omega
  clear hm2 hm3 hga hgr1 hm2s hgk hgh hga1
  simp only [zS, reduceIte, Nat.reduceLT, Int.reduceToNat, Int.reduceLE, Int.reduceEq, Int.reduceLT, Nat.reduceEqDiff, Nat.reduceAdd]
  refine SW_seq (SW_seq (SW_region ?_))
  simp only [zS, reduceIte, Nat.reduceLT, Int.reduceToNat, Int.reduceLE, Int.reduceEq, Int.reduceLT, Nat.reduceEqDiff, Nat.reduceAdd]
  have hK := fun t (ht : t < 64) => (show (Sha.K.map natV)[t]? = some (.int .i64 ((Sha.K.getD t 0 : Nat) : Int)) by
    rw [List.getElem?_map, List.getD, List.getElem?_eq_getElem (by simp [Sha.K]; omega)]; rfl)
  refine SW_block (SW_loopK [3, 4, 5, 6] (fun k f m' => ∃ j : Nat, j + k = all.length / 64 ∧ f = [(3, .slice (some ⟨ga, 0, none⟩) all.length all.length), (4, .slice (some ⟨gh, 0, none⟩) 8 8), (5, .slice (some ⟨gk, 0, none⟩) 64 64), (6, .int .i64 ((64 * j : Nat) : Int))] ∧
    m'.get ga = some (.cells false 1 (bytesV all)) ∧ m'.get gh = some (.cells false 1 (c8 (Sha.blocksN Sha.start all j))) ∧ m'.get gk = some (.cells false 1 (Sha.K.map natV)) ∧ Grows m m') (all.length / 64) ?_ ?_)
  · simp only [zS, reduceIte, Nat.reduceLT, Int.reduceToNat, Int.reduceLE, Int.reduceEq, Int.reduceLT, Nat.reduceEqDiff, Nat.reduceAdd]
    exact ⟨0, by omega, rfl, k1, k2, k3, hgr3⟩
  · clear k1 k2 k3 hgr3
    rintro kk f m' ⟨j, hj, rfl, k1, k2, k3, hgr⟩
    obtain ⟨st, hst⟩ : ∃ st, st = Sha.blocksN Sha.start all j := ⟨_, rfl⟩
    have hfit : st.Fit := by rw [hst]; exact Sha.blocksN_fit _ _ Sha.start_fit
    rw [← hst] at k2
    refine SW_seq (SW_seq (SW_region ?_))
    simp only [zS, reduceIte, Nat.reduceLT, Int.reduceToNat, Int.reduceLE, Int.reduceEq, Int.reduceLT, Nat.reduceEqDiff, Nat.reduceAdd, zT]
    refine SW_cond (decide (((64 * j : Nat) : Int) < (all.length : Int))) (by rfl) (fun hc => SW_skip ?_) (fun hc => SW_exit ?_)
    · simp only [zS, reduceIte, Nat.reduceLT, Int.reduceToNat, Int.reduceLE, Int.reduceEq, Int.reduceLT, Nat.reduceEqDiff, Nat.reduceAdd]
      have hlt := of_decide_eq_true hc
      have hle : 64 * j + 64 ≤ all.length := by omega
      have x64 : IntKind.i64.wrap (((64 * j : Nat) : Int) + 64) = ((64 * (j + 1) : Nat) : Int) := by rw [wr (by omega) (by omega)]; omega
      refine SW_seq (SW_block (SW_seq (SW_region ?_)))
      simp only [zS, reduceIte, Nat.reduceLT, Int.reduceToNat, Int.reduceLE, Int.reduceEq, Int.reduceLT, Nat.reduceEqDiff, Nat.reduceAdd, zT, x64, slice_u8 (o := 0) (len := all.length) (cap := all.length) k1 ((64 * j : Nat) : Int) ((64 * (j + 1) : Nat) : Int) (by omega) (by omega) (by omega), Int.toNat_natCast]
      rw [show 64 * (j + 1) - 64 * j = 64 by omega]
      refine ⟨by kernel_rfl, _, rsched_spec m' ga (64 * j) _ false all k1 hle, ?_⟩
      rintro vw m1' ⟨hvw, hgw⟩
      obtain ⟨W, hW⟩ : ∃ W, W = Sha.sched ((all.drop (64 * j)).take 64) 64 := ⟨_, rfl⟩
      rw [← hW] at hvw
      have hWl0 : W.length = 64 := by rw [hW, Sha.sched_length]
      have hWl : (W.map natV).length = 64 := by rw [hW, List.length_map, Sha.sched_length]
      obtain ⟨gw, rfl, hgw'⟩ := hvw.at (by omega)
      rw [hWl]
      have hWc := fun t (ht : t < 64) => (show (W.map natV)[t]? = some (.int .i64 ((W.getD t 0 : Nat) : Int)) by
        rw [List.getElem?_map, List.getD, List.getElem?_eq_getElem (by omega)]; rfl)
      have hWb : ∀ t, W.getD t 0 < 4294967296 := fun t => by rw [hW]; exact Sha.sched_lt _ _ _
      replace k1 := hgw.2 _ _ k1
      replace k2 := hgw.2 _ _ k2
      replace k3 := hgw.2 _ _ k3
      replace hgr := hgr.trans hgw
      clear hgw hvw
      unfold c8 at k2
      simp only [zS, reduceIte, Nat.reduceLT, Int.reduceToNat, Int.reduceLE, Int.reduceEq, Int.reduceLT, Nat.reduceEqDiff, Nat.reduceAdd]
      refine SW_seq (SW_draw hmix 31 (by kernel_rfl) (by kernel_rfl) ?_)
      simp only [zS, reduceIte, Nat.reduceLT, Int.reduceToNat, Int.reduceLE, Int.reduceEq, Int.reduceLT, Nat.reduceEqDiff, Nat.reduceAdd, zT, k2, Int.reduceLT, List.getElem?_cons_succ, List.getElem?_cons_zero, Nat.reduceAdd, Nat.reduceMul]
      refine ⟨by omega, by omega, by omega, by omega, by omega, by omega, by omega, by omega, ?_⟩
      refine SW_seq (SW_seq (SW_region ?_))
      simp only [zS, reduceIte, Nat.reduceLT, Int.reduceToNat, Int.reduceLE, Int.reduceEq, Int.reduceLT, Nat.reduceEqDiff, Nat.reduceAdd]
      refine SW_block (SW_loopK [3, 4, 5, 6, 7, 8, 9, 10, 11, 12, 13, 14, 15, 16] (fun k f m' => ∃ (t : Nat) (v : Sha.W8), t + k = 64 ∧ v = Sha.rounds st W t ∧ m' = m1' ∧ f = [(3, .slice (some ⟨ga, 0, none⟩) all.length all.length), (4, .slice (some ⟨gh, 0, none⟩) 8 8), (5, .slice (some ⟨gk, 0, none⟩) 64 64), (6, .int .i64 ((64 * j : Nat) : Int)), (7, .slice (some ⟨gw, 0, none⟩) 64 64),
        (8, .int .i64 (v.a : Int)), (9, .int .i64 (v.b : Int)), (10, .int .i64 (v.c : Int)), (11, .int .i64 (v.d : Int)), (12, .int .i64 (v.e : Int)), (13, .int .i64 (v.f : Int)), (14, .int .i64 (v.g : Int)), (15, .int .i64 (v.h : Int)), (16, .int .i64 (t : Int))]) 64 ?_ ?_)
      · simp only [zS, reduceIte, Nat.reduceLT, Int.reduceToNat, Int.reduceLE, Int.reduceEq, Int.reduceLT, Nat.reduceEqDiff, Nat.reduceAdd]
        exact ⟨0, st, rfl, rfl, rfl⟩
      · rintro k f m' ⟨t, v, ht, hv, rfl, rfl⟩
        have hvf : v.Fit := by rw [hv]; exact Sha.rounds_fit hfit _ _
        refine SW_seq (SW_seq (SW_region ?_))
        simp only [zS, reduceIte, Nat.reduceLT, Int.reduceToNat, Int.reduceLE, Int.reduceEq, Int.reduceLT, Nat.reduceEqDiff, Nat.reduceAdd, zT]
        refine SW_cond (decide ((t : Int) < 64)) (by rfl) (fun hc => SW_skip ?_) (fun hc => SW_exit ?_)
        · simp only [zS, reduceIte, Nat.reduceLT, Int.reduceToNat, Int.reduceLE, Int.reduceEq, Int.reduceLT, Nat.reduceEqDiff, Nat.reduceAdd]
          have ht64 : t < 64 := by have := of_decide_eq_true hc; omega
          refine SW_seq (SW_block (SW_seq (SW_draw hmix 28 (by kernel_rfl) (by kernel_rfl) ?_)))
          simp only [zS, reduceIte, Nat.reduceLT, Int.reduceToNat, Int.reduceLE, Int.reduceEq, Int.reduceLT, Nat.reduceEqDiff, Nat.reduceAdd]
          refine ⟨by kernel_rfl, _, R v.e 6 hvf.e (by omega) (by omega) _, ?_⟩
          simp only [zS, reduceIte, Nat.reduceLT, Int.reduceToNat, Int.reduceLE, Int.reduceEq, Int.reduceLT, Nat.reduceEqDiff, Nat.reduceAdd]
          refine ⟨by kernel_rfl, _, R v.e 11 hvf.e (by omega) (by omega) _, ?_⟩
          simp only [zS, reduceIte, Nat.reduceLT, Int.reduceToNat, Int.reduceLE, Int.reduceEq, Int.reduceLT, Nat.reduceEqDiff, Nat.reduceAdd]
          refine ⟨by kernel_rfl, _, R v.e 25 hvf.e (by omega) (by omega) _, ?_⟩
          simp only [zS, reduceIte, Nat.reduceLT, Int.reduceToNat, Int.reduceLE, Int.reduceEq, Int.reduceLT, Nat.reduceEqDiff, Nat.reduceAdd, zT, k3, hgw', hK t ht64, hWc t ht64, Int.toNat_natCast, one_i64 v.e v.f v.g v.h (Sha.K.getD t 0) (W.getD t 0) hvf.e hvf.f hvf.g hvf.h (K_lt t) (hWb t)]
          refine ⟨by omega, by omega, ?_⟩
          obtain ⟨t1, ht1⟩ : ∃ t1, t1 = (v.h + Sha.big1 v.e + Sha.ch v.e v.f v.g + Sha.K.getD t 0 + W.getD t 0) % 4294967296 := ⟨_, rfl⟩
          obtain ⟨t2, ht2⟩ : ∃ t2, t2 = (Sha.big0 v.a + Sha.maj v.a v.b v.c) % 4294967296 := ⟨_, rfl⟩
          have t1l : t1 < 4294967296 := by rw [ht1]; exact Nat.mod_lt _ (by decide)
          have t2l : t2 < 4294967296 := by rw [ht2]; exact Nat.mod_lt _ (by decide)
          rw [← ht1]
          refine SW_seq (SW_region ?_)
          simp only [zS, reduceIte, Nat.reduceLT, Int.reduceToNat, Int.reduceLE, Int.reduceEq, Int.reduceLT, Nat.reduceEqDiff, Nat.reduceAdd]
          refine ⟨by kernel_rfl, _, R v.a 2 hvf.a (by omega) (by omega) _, ?_⟩
          rintro _ M1 ⟨rfl, hM⟩
          rw [hM]
          clear hM
          simp only [zS, reduceIte, Nat.reduceLT, Int.reduceToNat, Int.reduceLE, Int.reduceEq, Int.reduceLT, Nat.reduceEqDiff, Nat.reduceAdd]
          refine ⟨by kernel_rfl, _, R v.a 13 hvf.a (by omega) (by omega) _, ?_⟩
          rintro _ M1 ⟨rfl, hM⟩
          rw [hM]
          clear hM
          simp only [zS, reduceIte, Nat.reduceLT, Int.reduceToNat, Int.reduceLE, Int.reduceEq, Int.reduceLT, Nat.reduceEqDiff, Nat.reduceAdd]
          refine ⟨by kernel_rfl, _, R v.a 22 hvf.a (by omega) (by omega) _, ?_⟩
          rintro _ M1 ⟨rfl, hM⟩
          rw [hM]
          clear hM
          simp only [zS, reduceIte, Nat.reduceLT, Int.reduceToNat, Int.reduceLE, Int.reduceEq, Int.reduceLT, Nat.reduceEqDiff, Nat.reduceAdd, two_i64 v.a v.b v.c hvf.a hvf.b hvf.c]
          rw [← ht2]
          refine SW_seq (SW_region ?_)
          simp only [zS, reduceIte, Nat.reduceLT, Int.reduceToNat, Int.reduceLE, Int.reduceEq, Int.reduceLT, Nat.reduceEqDiff, Nat.reduceAdd]
          refine SW_seq (SW_region ?_)
          simp only [zS, reduceIte, Nat.reduceLT, Int.reduceToNat, Int.reduceLE, Int.reduceEq, Int.reduceLT, Nat.reduceEqDiff, Nat.reduceAdd]
          refine SW_seq (SW_region ?_)
          simp only [zS, reduceIte, Nat.reduceLT, Int.reduceToNat, Int.reduceLE, Int.reduceEq, Int.reduceLT, Nat.reduceEqDiff, Nat.reduceAdd]
          refine SW_seq (SW_region ?_)
          simp only [zS, reduceIte, Nat.reduceLT, Int.reduceToNat, Int.reduceLE, Int.reduceEq, Int.reduceLT, Nat.reduceEqDiff, Nat.reduceAdd, sum_i64 v.d t1 hvf.d t1l]
          refine SW_seq (SW_region ?_)
          simp only [zS, reduceIte, Nat.reduceLT, Int.reduceToNat, Int.reduceLE, Int.reduceEq, Int.reduceLT, Nat.reduceEqDiff, Nat.reduceAdd]
          refine SW_seq (SW_region ?_)
          simp only [zS, reduceIte, Nat.reduceLT, Int.reduceToNat, Int.reduceLE, Int.reduceEq, Int.reduceLT, Nat.reduceEqDiff, Nat.reduceAdd]
          refine SW_seq (SW_region ?_)
          simp only [zS, reduceIte, Nat.reduceLT, Int.reduceToNat, Int.reduceLE, Int.reduceEq, Int.reduceLT, Nat.reduceEqDiff, Nat.reduceAdd]
          refine SW_region ?_
          simp only [zS, reduceIte, Nat.reduceLT, Int.reduceToNat, Int.reduceLE, Int.reduceEq, Int.reduceLT, Nat.reduceEqDiff, Nat.reduceAdd, sum_i64 t1 t2 t1l t2l]
          have xi : IntKind.i64.wrap ((t : Int) + 1) = ((t + 1 : Nat) : Int) := by rw [wr (by omega) (by omega)]; omega
          refine SW_region ?_
          simp only [zS, reduceIte, Nat.reduceLT, Int.reduceToNat, Int.reduceLE, Int.reduceEq, Int.reduceLT, Nat.reduceEqDiff, Nat.reduceAdd, xi]
          refine ⟨k - 1, ⟨t + 1, Sha.turn v (Sha.K.getD t 0) (W.getD t 0), by omega, by rw [hv]; rfl, ?_⟩, by omega⟩
          simp only [Sha.turn, ← ht1, ← ht2]
        · simp only [zS, reduceIte, Nat.reduceLT, Int.reduceToNat, Int.reduceLE, Int.reduceEq, Int.reduceLT, Nat.reduceEqDiff, Nat.reduceAdd]
          have ht64 : t = 64 := by have := of_decide_eq_false hc; omega
          rw [ht64] at hv
          clear hc ht
          have hvf' := hvf
          refine SW_seq (SW_region ?_)
          simp only [zS, reduceIte, Nat.reduceLT, Int.reduceToNat, Int.reduceLE, Int.reduceEq, Int.reduceLT, Nat.reduceEqDiff, Nat.reduceAdd, zT, new_int8]
          obtain ⟨M, hM⟩ : ∃ M, M = m'.push (.cells false 1 (c8 v)) := ⟨_, rfl⟩
          obtain ⟨gv, hgv⟩ : ∃ gv, gv = m'.size := ⟨_, rfl⟩
          have q0 : M.get gv = some (.cells false 1 (c8 v)) := by rw [hM, hgv, Mem.get_push_new]
          have q1 : M.get ga = some (.cells false 1 (bytesV all)) := by rw [hM, Mem.get_push_old (Mem.get_lt k1)]; exact k1
          have q2 : M.get gh = some (.cells false 1 (c8 st)) := by rw [hM, Mem.get_push_old (Mem.get_lt k2)]; exact k2
          have q3 : M.get gk = some (.cells false 1 (Sha.K.map natV)) := by rw [hM, Mem.get_push_old (Mem.get_lt k3)]; exact k3
          have qg : Grows m M := by rw [hM]; exact hgr.push _
          have hne3 : gv ≠ gh := by have := Mem.get_lt k2; omega
          have hfold : m'.push (.cells false 1 [.int .i64 (v.a : Int), .int .i64 (v.b : Int), .int .i64 (v.c : Int), .int .i64 (v.d : Int), .int .i64 (v.e : Int), .int .i64 (v.f : Int), .int .i64 (v.g : Int), .int .i64 (v.h : Int)]) = M := hM.symm
          rw [hfold, ← hgv]
          clear hfold hM hgv k1 k2 k3 hgr hgw'
          refine SW_seq (SW_region ?_)
          simp only [zS, reduceIte, Nat.reduceLT, Int.reduceToNat, Int.reduceLE, Int.reduceEq, Int.reduceLT, Nat.reduceEqDiff, Nat.reduceAdd]
          obtain ⟨st', hst'⟩ : ∃ st', st' = st.plus v := ⟨_, rfl⟩
          have hst2 : st' = Sha.blocksN Sha.start all (j + 1) := by
            rw [Sha.blocksN_succ, ← hst, hst', hv, hW]; rfl
          refine SW_block (SW_loopK [3, 4, 5, 6, 19, 20] (fun k f m' => ∃ t : Nat, t + k = 8 ∧ f = [(3, .slice (some ⟨ga, 0, none⟩) all.length all.length), (4, .slice (some ⟨gh, 0, none⟩) 8 8), (5, .slice (some ⟨gk, 0, none⟩) 64 64), (6, .int .i64 ((64 * j : Nat) : Int)), (19, .slice (some ⟨gv, 0, none⟩) 8 8), (20, .int .i64 (t : Int))] ∧
            m'.get ga = some (.cells false 1 (bytesV all)) ∧ m'.get gh = some (.cells false 1 ((c8 st').take t ++ (c8 st).drop t)) ∧ m'.get gk = some (.cells false 1 (Sha.K.map natV)) ∧ m'.get gv = some (.cells false 1 (c8 v)) ∧ Grows m m') 8 ?_ ?_)
          · simp only [zS, reduceIte, Nat.reduceLT, Int.reduceToNat, Int.reduceLE, Int.reduceEq, Int.reduceLT, Nat.reduceEqDiff, Nat.reduceAdd]
            exact ⟨0, rfl, rfl, q1, by simpa using q2, q3, q0, qg⟩
          · clear q0 q1 q2 q3 qg
            rintro k f m' ⟨t, ht, rfl, q1, q2, q3, q0, qg⟩
            refine SW_seq (SW_seq (SW_region ?_))
            simp only [zS, reduceIte, Nat.reduceLT, Int.reduceToNat, Int.reduceLE, Int.reduceEq, Int.reduceLT, Nat.reduceEqDiff, Nat.reduceAdd, zT]
            refine SW_cond (decide ((t : Int) < 8)) (by rfl) (fun hc => SW_skip ?_) (fun hc => SW_exit ?_)
            · simp only [zS, reduceIte, Nat.reduceLT, Int.reduceToNat, Int.reduceLE, Int.reduceEq, Int.reduceLT, Nat.reduceEqDiff, Nat.reduceAdd]
              have ht8 : t < 8 := by have := of_decide_eq_true hc; omega
              obtain ⟨x, y, hx, hy, hxl, hyl, hxy⟩ := c8_plus st v hfit hvf' t ht8
              rw [← hst'] at hxy
              have hrd : ((c8 st').take t ++ (c8 st).drop t)[t]? = some (.int .i64 (x : Int)) := by
                rw [List.getElem?_append_right (by simp [c8]; omega), List.getElem?_drop, show t + (t - ((c8 st').take t).length) = t by simp [c8]; omega]
                exact hx
              have hstore := store_int q2 (i := t) (by simp [c8]; omega) (((x + y) % 4294967296 : Nat) : Int)
              have hset : ((c8 st').take t ++ (c8 st).drop t).set t (.int .i64 (((x + y) % 4294967296 : Nat) : Int)) = (c8 st').take (t + 1) ++ (c8 st).drop (t + 1) := by
                rw [List.set_append_right _ _ (by simp [c8]; omega), show t - ((c8 st').take t).length = 0 by simp [c8]; omega, List.take_add_one, hxy]
                have : (c8 st).drop t = (.int .i64 (x : Int)) :: (c8 st).drop (t + 1) := by
                  have h1 := List.drop_eq_getElem_cons (l := c8 st) (i := t) (by simp [c8]; omega)
                  rw [h1]
                  have h2 := List.getElem?_eq_getElem (l := c8 st) (i := t) (by simp [c8]; omega)
                  rw [hx] at h2
                  rw [Option.some.inj h2]
                rw [this]
                simp
              rw [hset] at hstore
              have xi : IntKind.i64.wrap ((t : Int) + 1) = ((t + 1 : Nat) : Int) := by rw [wr (by omega) (by omega)]; omega
              refine SW_seq (SW_block (SW_draw hmix 12 (by kernel_rfl) (by kernel_rfl) ?_))
              simp only [zS, reduceIte, Nat.reduceLT, Int.reduceToNat, Int.reduceLE, Int.reduceEq, Int.reduceLT, Nat.reduceEqDiff, Nat.reduceAdd, zT, q2, q0, hrd, hy, Int.toNat_natCast, sum_i64 x y hxl hyl, hstore]
              refine ⟨by omega, by omega, by omega, ?_⟩
              refine SW_region ?_
              simp only [zS, reduceIte, Nat.reduceLT, Int.reduceToNat, Int.reduceLE, Int.reduceEq, Int.reduceLT, Nat.reduceEqDiff, Nat.reduceAdd, xi]
              have hgv' : ∀ b, b ≠ gh → ∀ o, (m'.set gh o).get b = m'.get b := fun b hb o => Mem.get_set_ne (Ne.symm hb) o
              refine ⟨k - 1, ⟨t + 1, by omega, rfl, ?_, ?_, ?_, ?_, ?_⟩, by omega⟩
              · rw [hgv' ga hne1]; exact q1
              · exact Mem.get_set_same q2 _
              · rw [hgv' gk hne2]; exact q3
              · rw [hgv' gv hne3]; exact q0
              · exact qg.set hgh0 _
            · simp only [zS, reduceIte, Nat.reduceLT, Int.reduceToNat, Int.reduceLE, Int.reduceEq, Int.reduceLT, Nat.reduceEqDiff, Nat.reduceAdd]
              have ht8 : t = 8 := by have := of_decide_eq_false hc; omega
              subst ht8
              refine SW_region ?_
              simp only [zS, reduceIte, Nat.reduceLT, Int.reduceToNat, Int.reduceLE, Int.reduceEq, Int.reduceLT, Nat.reduceEqDiff, Nat.reduceAdd, x64]
              refine ⟨kk - 1, ⟨j + 1, by omega, rfl, q1, ?_, q3, qg⟩, by omega⟩
              rw [← hst2]
              exact q2
    · simp only [zS, reduceIte, Nat.reduceLT, Int.reduceToNat, Int.reduceLE, Int.reduceEq, Int.reduceLT, Nat.reduceEqDiff, Nat.reduceAdd]
      have hje : j = all.length / 64 := by have := of_decide_eq_false hc; omega
      clear hc hK hne1 hne2 k1 k3
      have hsum : st.bytes = Sha.sum s.data.toList := by
        rw [hst, hje, Sha.sum, hsl, ← hall]; rfl
      have hbl32 : st.bytes.length = 32 := by simp [Sha.W8.bytes, Sha.be4]
      refine SW_seq (SW_region ?_)
      simp only [zS, reduceIte, Nat.reduceLT, Int.reduceToNat, Int.reduceLE, Int.reduceEq, Int.reduceLT, Nat.reduceEqDiff, Nat.reduceAdd]
      refine SW_seq (SW_seq (SW_region ?_))
      simp only [zS, reduceIte, Nat.reduceLT, Int.reduceToNat, Int.reduceLE, Int.reduceEq, Int.reduceLT, Nat.reduceEqDiff, Nat.reduceAdd]
      refine SW_block (SW_loopK [4, 21, 22] (fun k f M => ∃ (u : Nat) (o : Value), u + k = 8 ∧ f = [(4, .slice (some ⟨gh, 0, none⟩) 8 8), (21, o), (22, .int .i64 (u : Int))] ∧ Sl M o (bytesV (st.bytes.take (4 * u))) ∧ M.get gh = some (.cells false 1 (c8 st)) ∧ Grows m' M ∧ (∀ g l c, o = .slice (some ⟨g, 0, none⟩) l c → m'.size ≤ g)) 8 ?_ ?_)
      · simp only [zS, reduceIte, Nat.reduceLT, Int.reduceToNat, Int.reduceLE, Int.reduceEq, Int.reduceLT, Nat.reduceEqDiff, Nat.reduceAdd]
        exact ⟨0, _, rfl, rfl, .inl ⟨rfl, rfl⟩, k2, Grows.refl _, fun g l c e => by cases e⟩
      · rintro k f M ⟨u, o, hu, rfl, ho, q2, hgM, hnM⟩
        refine SW_seq (SW_seq (SW_region ?_))
        simp only [zS, reduceIte, Nat.reduceLT, Int.reduceToNat, Int.reduceLE, Int.reduceEq, Int.reduceLT, Nat.reduceEqDiff, Nat.reduceAdd, zT]
        refine SW_cond (decide ((u : Int) < 8)) (by rfl) (fun hc => SW_skip ?_) (fun hc => SW_exit ?_)
        · simp only [zS, reduceIte, Nat.reduceLT, Int.reduceToNat, Int.reduceLE, Int.reduceEq, Int.reduceLT, Nat.reduceEqDiff, Nat.reduceAdd]
          have hu8 : u < 8 := by have := of_decide_eq_true hc; omega
          obtain ⟨x, hx, hxl, hxb⟩ := c8_byte st hfit u hu8
          have xi : IntKind.i64.wrap ((u : Int) + 1) = ((u + 1 : Nat) : Int) := by rw [wr (by omega) (by omega)]; omega
          refine SW_seq (SW_block (SW_seq (SW_region ?_)))
          simp only [zS, reduceIte, Nat.reduceLT, Int.reduceToNat, Int.reduceLE, Int.reduceEq, Int.reduceLT, Nat.reduceEqDiff, Nat.reduceAdd]
          refine SW_block (SW_loopK [4, 21, 22, 23] (fun k f M => ∃ (c : Nat) (o : Value), c + k = 4 ∧ f = [(4, .slice (some ⟨gh, 0, none⟩) 8 8), (21, o), (22, .int .i64 (u : Int)), (23, .int .i64 (3 - (c : Int)))] ∧ Sl M o (bytesV (st.bytes.take (4 * u + c))) ∧ M.get gh = some (.cells false 1 (c8 st)) ∧ Grows m' M ∧ (∀ g l c, o = .slice (some ⟨g, 0, none⟩) l c → m'.size ≤ g)) 4 ?_ ?_)
          · simp only [zS, reduceIte, Nat.reduceLT, Int.reduceToNat, Int.reduceLE, Int.reduceEq, Int.reduceLT, Nat.reduceEqDiff, Nat.reduceAdd]
            exact ⟨0, _, rfl, rfl, ho, q2, hgM, hnM⟩
          · clear ho q2 hgM hnM
            rintro k2' f M ⟨c, o, hc4, rfl, ho, q2, hgM, hnM⟩
            refine SW_seq (SW_seq (SW_region ?_))
            simp only [zS, reduceIte, Nat.reduceLT, Int.reduceToNat, Int.reduceLE, Int.reduceEq, Int.reduceLT, Nat.reduceEqDiff, Nat.reduceAdd, zT]
            refine SW_cond (decide ((3 : Int) - (c : Int) ≥ 0)) (by rfl) (fun hc => SW_skip ?_) (fun hc => SW_exit ?_)
            · simp only [zS, reduceIte, Nat.reduceLT, Int.reduceToNat, Int.reduceLE, Int.reduceEq, Int.reduceLT, Nat.reduceEqDiff, Nat.reduceAdd]
              have hcl : c < 4 := by have := of_decide_eq_true hc; omega
              obtain ⟨x1, y1, z1⟩ := idx (8 * ((3 : Int) - (c : Int))) (8 * (3 - c)) (by omega) (by omega)
              have hsh : (x : Int).fdiv (2 ^ min (8 * ((3 : Int) - (c : Int))).toNat IntKind.i64.bits) = (x : Int) / 2 ^ (8 * (3 - c)) := by
                rw [bits_i64, z1, show min (8 * (3 - c)) 64 = 8 * (3 - c) by omega]
                exact Int.fdiv_eq_ediv_of_nonneg _ (Int.le_of_lt (Int.pow_pos (by decide)))
              have hbl : (bytesV (st.bytes.take (4 * u + c))).length ≤ 32 := by simp [bytesV]; omega
              obtain ⟨s', m2, happ, hs', hgr', hnew'⟩ := ho.app_u8 hgM hnM (.int .u8 (bits .and .i64 ((x : Int) / 2 ^ (8 * (3 - c))) 255 % 256)) (by omega)
              have hcat : bytesV (st.bytes.take (4 * u + c)) ++ [Value.int .u8 (bits .and .i64 ((x : Int) / 2 ^ (8 * (3 - c))) 255 % 256)] = bytesV (st.bytes.take (4 * u + (c + 1))) := by
                rw [out_byte x c hxl, ← Nat.add_assoc, List.take_add_one, hxb c hcl]
                simp [bytesV]
              rw [hcat] at hs'
              have xi3 : IntKind.i64.wrap ((3 : Int) - (c : Int) - 1) = 3 - ((c + 1 : Nat) : Int) := by rw [show (3 : Int) - (c : Int) - 1 = 3 - ((c + 1 : Nat) : Int) by omega]; unfold IntKind.wrap; simp only [bits_i64]; simp [IntKind.signed]; omega
              have q2' : m2.get gh = some (.cells false 1 (c8 st)) := hgr'.2 _ _ k2
              unfold c8 at q2
              replace hx : [Value.int .i64 (st.a : Int), .int .i64 (st.b : Int), .int .i64 (st.c : Int), .int .i64 (st.d : Int), .int .i64 (st.e : Int), .int .i64 (st.f : Int), .int .i64 (st.g : Int), .int .i64 (st.h : Int)][u]? = some (.int .i64 (x : Int)) := hx
              refine SW_seq (SW_block (SW_region ?_))
              simp only [zS, reduceIte, Nat.reduceLT, Int.reduceToNat, Int.reduceLE, Int.reduceEq, Int.reduceLT, Nat.reduceEqDiff, Nat.reduceAdd, zT, q2, hx, x1, y1, hsh, wrap_u8, Int.toNat_natCast, happ]
              refine ⟨by omega, ?_⟩
              refine SW_region ?_
              simp only [zS, reduceIte, Nat.reduceLT, Int.reduceToNat, Int.reduceLE, Int.reduceEq, Int.reduceLT, Nat.reduceEqDiff, Nat.reduceAdd, xi3]
              exact ⟨k2' - 1, ⟨c + 1, s', by omega, rfl, hs', q2', hgr', hnew'⟩, by omega⟩
            · simp only [zS, reduceIte, Nat.reduceLT, Int.reduceToNat, Int.reduceLE, Int.reduceEq, Int.reduceLT, Nat.reduceEqDiff, Nat.reduceAdd]
              have hcl : c = 4 := by have := of_decide_eq_false hc; omega
              subst hcl
              refine SW_region ?_
              simp only [zS, reduceIte, Nat.reduceLT, Int.reduceToNat, Int.reduceLE, Int.reduceEq, Int.reduceLT, Nat.reduceEqDiff, Nat.reduceAdd, xi]
              exact ⟨k - 1, ⟨u + 1, o, by omega, rfl, ho, q2, hgM, hnM⟩, by omega⟩
        · simp only [zS, reduceIte, Nat.reduceLT, Int.reduceToNat, Int.reduceLE, Int.reduceEq, Int.reduceLT, Nat.reduceEqDiff, Nat.reduceAdd]
          have hu8 : u = 8 := by have := of_decide_eq_false hc; omega
          subst hu8
          rw [List.take_of_length_le (by omega), hsum] at ho
          have hsl32 := Sha.sum_length s.data.toList
          obtain ⟨go, rfl, hgo⟩ := ho.at (by simp [bytesV, hsl32])
          refine SW_seq (SW_region ?_)
          simp only [zS, reduceIte, Nat.reduceLT, Int.reduceToNat, Int.reduceLE, Int.reduceEq, Int.reduceLT, Nat.reduceEqDiff, Nat.reduceAdd, zT, to_str (n := (bytesV (Sha.sum s.data.toList)).length) hgo (by simp [bytesV])]
          refine SW_ret ?_
          simp only [zS, reduceIte, Nat.reduceLT, Int.reduceToNat, Int.reduceLE, Int.reduceEq, Int.reduceLT, Nat.reduceEqDiff, Nat.reduceAdd, sAnswer, sAnswer.sRes]
          exact hgr.trans hgM
end Go.Proofs.YtkkleedpakcfgaaGreatDoor
