/-
  The document's answer for layer 2, walked on the abstract machine: a text with what stands behind it; the constants.
-/
import Derived.Test.YtkkleedpakcfgaaGreatDoorTids16
set_option linter.all false
namespace Go.Proofs.YtkkleedpakcfgaaGreatDoor
open Go.RowKit Abs
set_option maxRecDepth 100000 in
set_option maxHeartbeats 1000000 in
theorem rpadded_spec (m : Mem) (s : ByteArray) (hs : s.size ≤ 140737488355200) :
    Abs.Spec Tryz.prog 267 [.string s] m fun v m' => Sl m' v (bytesV (s.data.toList ++ Sha.tail s.size)) ∧ Grows m m' ∧ (∀ g l c, v = .slice (some ⟨g, 0, none⟩) l c → m.size ≤ g) := by
  obtain ⟨q, hq⟩ : ∃ q, q = s.data.toList := ⟨_, rfl⟩
  have hql : q.length = s.size := by rw [hq, Array.length_toList]; rfl
  have hbs : bsize s = q.length := by rw [hq]; rfl
  rw [← hq]
  refine Abs.Spec.walk Tryz.func267 (by rfl) _ Tryz.results267 _ Tryz.ntmps267 (by simp) ?_
  refine SW_seq (SW_region ?_)
  simp only [zS, reduceIte, Nat.reduceLT, Int.reduceToNat, Int.reduceLE, Int.reduceEq, Int.reduceLT, Nat.reduceEqDiff, Nat.reduceAdd]
  refine SW_seq (SW_region ?_)
  simp only [zS, reduceIte, Nat.reduceLT, Int.reduceToNat, Int.reduceLE, Int.reduceEq, Int.reduceLT, Nat.reduceEqDiff, Nat.reduceAdd, zT, new_bytes s (by rw [bsize_data]; omega), hbs, ← hq]
  have h0 : Sl (m.push (.cells false 1 (bytesV q))) (.slice (some ⟨m.size, 0, none⟩) q.length q.length) (bytesV q) := Sl.block (by simp [bytesV]) (Mem.get_push_new _ _)
  obtain ⟨s1, m1, happ, hs1, hgr1, hnew1⟩ := h0.app_u8 ((Grows.refl m).push _) (fun g l c e => by cases e; exact Nat.le_refl _) (byteV 0x80) (by simp [bytesV]; omega)
  replace happ : aAppend Tryz.prog ((m.push (.cells false 1 (bytesV q))).push (.cells false 1 [.int .u8 128])) 74 74 (.slice (some ⟨m.size, 0, none⟩) q.length q.length) (.slice (some ⟨(m.push (.cells false 1 (bytesV q))).size, 0, none⟩) 1 1) = some (s1, m1) := happ
  refine SW_seq (SW_region ?_)
  simp only [zS, reduceIte, Nat.reduceLT, Int.reduceToNat, Int.reduceLE, Int.reduceEq, Int.reduceLT, Nat.reduceEqDiff, Nat.reduceAdd, zT, happ]
  have e1 : bytesV q ++ [byteV 0x80] = bytesV (padS q 0) := by simp [bytesV, padS]
  rw [e1] at hs1
  have hzb : Sha.zeros (q.length + 1) ≤ 63 := by unfold Sha.zeros; omega
  refine SW_seq (SW_block (SW_loopK [0, 3] (fun k f m' => ∃ (j : Nat) (v : Value), j + k = Sha.zeros (q.length + 1) ∧ f = [(0, .string s), (3, v)] ∧ Sl m' v (bytesV (padS q j)) ∧ Grows m m' ∧ (∀ g l c, v = .slice (some ⟨g, 0, none⟩) l c → m.size ≤ g)) (Sha.zeros (q.length + 1)) ?_ ?_))
  · simp only [zS, reduceIte, Nat.reduceLT, Int.reduceToNat, Int.reduceLE, Int.reduceEq, Int.reduceLT, Nat.reduceEqDiff, Nat.reduceAdd]
    exact ⟨0, _, by omega, rfl, hs1, hgr1, hnew1⟩
  · rintro k f m' ⟨j, v, hj, rfl, hv, hgr, hnew⟩
    have hpl := padS_length q j
    have hbl : (bytesV (padS q j)).length = (padS q j).length := by simp [bytesV]
    obtain ⟨g, hvg, hg⟩ := hv.at (by omega)
    rw [hbl] at hvg
    subst hvg
    refine SW_seq (SW_seq (SW_region ?_))
    simp only [zS, reduceIte, Nat.reduceLT, Int.reduceToNat, Int.reduceLE, Int.reduceEq, Int.reduceLT, Nat.reduceEqDiff, Nat.reduceAdd, zT]
    refine SW_cond ((((padS q j).length : Nat) : Int).tmod 64 != 56) (by rfl) (fun hc => SW_skip ?_) (fun hc => SW_exit ?_)
    · simp only [zS, reduceIte, Nat.reduceLT, Int.reduceToNat, Int.reduceLE, Int.reduceEq, Int.reduceLT, Nat.reduceEqDiff, Nat.reduceAdd]
      have hne : j < Sha.zeros (q.length + 1) := by
        rcases Nat.lt_or_ge j (Sha.zeros (q.length + 1)) with h | h
        · exact h
        · exfalso
          have hj' : j = Sha.zeros (q.length + 1) := by omega
          have e : ((((padS q j).length : Nat) : Int)).tmod 64 = (((padS q j).length % 64 : Nat) : Int) := rfl
          rw [e, hpl, hj'] at hc
          unfold Sha.zeros at hc
          have : (q.length + 1 + (56 + 64 - (q.length + 1) % 64) % 64) % 64 = 56 := by omega
          rw [this] at hc
          exact absurd hc (by decide)
      obtain ⟨s', m2, happ, hs', hgr', hnew'⟩ := hv.app_u8 hgr hnew (byteV 0) (by rw [hbl]; omega)
      rw [padS_snoc] at hs'
      replace happ : aAppend Tryz.prog (m'.push (.cells false 1 [.int .u8 0])) 74 74 (.slice (some ⟨g, 0, none⟩) (padS q j).length (padS q j).length) (.slice (some ⟨m'.size, 0, none⟩) 1 1) = some (s', m2) := happ
      refine SW_block (SW_region ?_)
      simp only [zS, reduceIte, Nat.reduceLT, Int.reduceToNat, Int.reduceLE, Int.reduceEq, Int.reduceLT, Nat.reduceEqDiff, Nat.reduceAdd, zT, happ]
      exact ⟨k - 1, ⟨j + 1, s', by omega, rfl, hs', hgr', hnew'⟩, by omega⟩
    · simp only [zS, reduceIte, Nat.reduceLT, Int.reduceToNat, Int.reduceLE, Int.reduceEq, Int.reduceLT, Nat.reduceEqDiff, Nat.reduceAdd]
      have hje : j = Sha.zeros (q.length + 1) := by
        rcases Nat.lt_or_ge j (Sha.zeros (q.length + 1)) with h | h
        · exfalso
          have e : ((((padS q j).length : Nat) : Int)).tmod 64 = (((padS q j).length % 64 : Nat) : Int) := rfl
          rw [e, hpl] at hc
          unfold Sha.zeros at h
          have : (q.length + 1 + j) % 64 ≠ 56 := by omega
          have h2 : (((q.length + 1 + j) % 64 : Nat) : Int) = 56 := by simpa using hc
          omega
        · omega
      obtain ⟨p, hp⟩ : ∃ p, p = padS q j := ⟨_, rfl⟩
      rw [← hp] at hv hpl hbl hg hnew ⊢
      have xb : IntKind.i64.wrap (8 * (q.length : Int)) = 8 * (q.length : Int) := (idx (8 * (q.length : Int)) (8 * q.length) (by omega) (by omega)).1
      refine SW_seq (SW_region ?_)
      simp only [zS, reduceIte, Nat.reduceLT, Int.reduceToNat, Int.reduceLE, Int.reduceEq, Int.reduceLT, Nat.reduceEqDiff, Nat.reduceAdd, zT, hbs, xb]
      refine SW_seq (SW_seq (SW_region ?_))
      simp only [zS, reduceIte, Nat.reduceLT, Int.reduceToNat, Int.reduceLE, Int.reduceEq, Int.reduceLT, Nat.reduceEqDiff, Nat.reduceAdd, zT]
      refine SW_block (SW_loopK [3, 4, 5] (fun k f m' => ∃ (j : Nat) (v : Value), j + k = 8 ∧ f = [(3, v), (4, .int .i64 (8 * (q.length : Int))), (5, .int .i64 (7 - (j : Int)))] ∧ Sl m' v (bytesV (p ++ (Sha.be8 (8 * q.length)).take j)) ∧ Grows m m' ∧ (∀ g l c, v = .slice (some ⟨g, 0, none⟩) l c → m.size ≤ g)) 8 ?_ ?_)
      · simp only [zS, reduceIte, Nat.reduceLT, Int.reduceToNat, Int.reduceLE, Int.reduceEq, Int.reduceLT, Nat.reduceEqDiff, Nat.reduceAdd]
        exact ⟨0, _, rfl, rfl, by simpa using hv, hgr, hnew⟩
      · rintro k f m' ⟨j, v, hj, rfl, hv, hgr, hnew⟩
        have hbl : (bytesV (p ++ (Sha.be8 (8 * q.length)).take j)).length = p.length + j := by simp [bytesV, Sha.be8]; omega
        refine SW_seq (SW_seq (SW_region ?_))
        simp only [zS, reduceIte, Nat.reduceLT, Int.reduceToNat, Int.reduceLE, Int.reduceEq, Int.reduceLT, Nat.reduceEqDiff, Nat.reduceAdd, zT]
        refine SW_cond (decide ((7 : Int) - (j : Int) ≥ 0)) (by rfl) (fun hc => SW_skip ?_) (fun hc => SW_exit ?_)
        · simp only [zS, reduceIte, Nat.reduceLT, Int.reduceToNat, Int.reduceLE, Int.reduceEq, Int.reduceLT, Nat.reduceEqDiff, Nat.reduceAdd]
          have hj8 : j < 8 := by have := of_decide_eq_true hc; omega
          obtain ⟨x1, y1, z1⟩ := idx (8 * ((7 : Int) - (j : Int))) (8 * (7 - j)) (by omega) (by omega)
          have hsh : (8 * (q.length : Int)).fdiv (2 ^ min (8 * ((7 : Int) - (j : Int))).toNat IntKind.i64.bits) = 8 * (q.length : Int) / 2 ^ (8 * (7 - j)) := by
            rw [bits_i64, z1, show min (8 * (7 - j)) 64 = 8 * (7 - j) by omega]
            exact Int.fdiv_eq_ediv_of_nonneg _ (Int.le_of_lt (Int.pow_pos (by decide)))
          obtain ⟨s', m2, happ, hs', hgr', hnew'⟩ := hv.app_u8 hgr hnew (.int .u8 (bits .and .i64 (8 * (q.length : Int) / 2 ^ (8 * (7 - j))) 255 % 256)) (by rw [hbl]; omega)
          rw [pad_snoc p q.length j (by omega) hj8] at hs'
          have xi : IntKind.i64.wrap ((7 : Int) - (j : Int) - 1) = 7 - ((j + 1 : Nat) : Int) := by rw [show (7 : Int) - (j : Int) - 1 = 7 - ((j + 1 : Nat) : Int) by omega]; unfold IntKind.wrap; simp only [bits_i64]; simp [IntKind.signed]; omega
          refine SW_seq (SW_block (SW_region ?_))
          simp only [zS, reduceIte, Nat.reduceLT, Int.reduceToNat, Int.reduceLE, Int.reduceEq, Int.reduceLT, Nat.reduceEqDiff, Nat.reduceAdd, zT, x1, y1, hsh, wrap_u8, happ]
          refine SW_region ?_
          simp only [zS, reduceIte, Nat.reduceLT, Int.reduceToNat, Int.reduceLE, Int.reduceEq, Int.reduceLT, Nat.reduceEqDiff, Nat.reduceAdd, xi]
          exact ⟨k - 1, ⟨j + 1, s', by omega, rfl, hs', hgr', hnew'⟩, by omega⟩
        · simp only [zS, reduceIte, Nat.reduceLT, Int.reduceToNat, Int.reduceLE, Int.reduceEq, Int.reduceLT, Nat.reduceEqDiff, Nat.reduceAdd]
          have hj8 : j = 8 := by have := of_decide_eq_false hc; omega
          subst hj8
          refine SW_seq (SW_region ?_)
          simp only [zS, reduceIte, Nat.reduceLT, Int.reduceToNat, Int.reduceLE, Int.reduceEq, Int.reduceLT, Nat.reduceEqDiff, Nat.reduceAdd]
          refine SW_ret ?_
          simp only [zS, reduceIte, Nat.reduceLT, Int.reduceToNat, Int.reduceLE, Int.reduceEq, Int.reduceLT, Nat.reduceEqDiff, Nat.reduceAdd, sAnswer, sAnswer.sRes]
          have hall : p ++ (Sha.be8 (8 * q.length)).take 8 = q ++ Sha.tail s.size := by
            rw [hp, hje, ← hql]
            simp [padS, Sha.tail, Sha.be8]
          rw [hall] at hv
          exact ⟨hv, hgr, hnew⟩
set_option maxRecDepth 100000 in
theorem rstart_spec (m : Mem) : Abs.Spec Tryz.prog 268 [] m fun v m' => v = .slice (some ⟨m.size, 0, none⟩) 8 8 ∧ m' = m.push (.cells false 1 ((w8i Sha.start).map natV)) := by
  refine Abs.Spec.walk Tryz.func268 (by rfl) _ Tryz.results268 _ Tryz.ntmps268 (by simp) ?_
  refine SW_seq (SW_region ?_)
  simp only [zS, reduceIte, Nat.reduceLT, Int.reduceToNat, Int.reduceLE, Int.reduceEq, Int.reduceLT, Nat.reduceEqDiff, Nat.reduceAdd]
  refine SW_seq (SW_region ?_)
  have e : nBuildSlice Tryz.prog 37 8 [(0, .int .i64 1779033703), (1, .int .i64 3144134277), (2, .int .i64 1013904242), (3, .int .i64 2773480762), (4, .int .i64 1359893119), (5, .int .i64 2600822924), (6, .int .i64 528734635), (7, .int .i64 1541459225)] = some (.cells false 1 ((w8i Sha.start).map natV)) := by kernel_rfl
  simp only [zS, reduceIte, Nat.reduceLT, Int.reduceToNat, Int.reduceLE, Int.reduceEq, Int.reduceLT, Nat.reduceEqDiff, Nat.reduceAdd, e]
  refine SW_ret ?_
  simp only [zS, reduceIte, Nat.reduceLT, Int.reduceToNat, Int.reduceLE, Int.reduceEq, Int.reduceLT, Nat.reduceEqDiff, Nat.reduceAdd, sAnswer, sAnswer.sRes]
set_option maxRecDepth 100000 in
theorem rrounds_spec (m : Mem) : Abs.Spec Tryz.prog 269 [] m fun v m' => v = .slice (some ⟨m.size, 0, none⟩) 64 64 ∧ m' = m.push (.cells false 1 (Sha.K.map natV)) := by
  refine Abs.Spec.walk Tryz.func269 (by rfl) _ Tryz.results269 _ Tryz.ntmps269 (by simp) ?_
  refine SW_seq (SW_region ?_)
  simp only [zS, reduceIte, Nat.reduceLT, Int.reduceToNat, Int.reduceLE, Int.reduceEq, Int.reduceLT, Nat.reduceEqDiff, Nat.reduceAdd]
  refine SW_seq (SW_region ?_)
  have e : nBuildSlice Tryz.prog 37 64 [(0, .int .i64 1116352408), (1, .int .i64 1899447441), (2, .int .i64 3049323471), (3, .int .i64 3921009573), (4, .int .i64 961987163), (5, .int .i64 1508970993), (6, .int .i64 2453635748), (7, .int .i64 2870763221), (8, .int .i64 3624381080), (9, .int .i64 310598401), (10, .int .i64 607225278), (11, .int .i64 1426881987), (12, .int .i64 1925078388), (13, .int .i64 2162078206), (14, .int .i64 2614888103), (15, .int .i64 3248222580), (16, .int .i64 3835390401), (17, .int .i64 4022224774), (18, .int .i64 264347078), (19, .int .i64 604807628), (20, .int .i64 770255983), (21, .int .i64 1249150122), (22, .int .i64 1555081692), (23, .int .i64 1996064986), (24, .int .i64 2554220882), (25, .int .i64 2821834349), (26, .int .i64 2952996808), (27, .int .i64 3210313671), (28, .int .i64 3336571891), (29, .int .i64 3584528711), (30, .int .i64 113926993), (31, .int .i64 338241895), (32, .int .i64 666307205), (33, .int .i64 773529912), (34, .int .i64 1294757372), (35, .int .i64 1396182291), (36, .int .i64 1695183700), (37, .int .i64 1986661051), (38, .int .i64 2177026350), (39, .int .i64 2456956037), (40, .int .i64 2730485921), (41, .int .i64 2820302411), (42, .int .i64 3259730800), (43, .int .i64 3345764771), (44, .int .i64 3516065817), (45, .int .i64 3600352804), (46, .int .i64 4094571909), (47, .int .i64 275423344), (48, .int .i64 430227734), (49, .int .i64 506948616), (50, .int .i64 659060556), (51, .int .i64 883997877), (52, .int .i64 958139571), (53, .int .i64 1322822218), (54, .int .i64 1537002063), (55, .int .i64 1747873779), (56, .int .i64 1955562222), (57, .int .i64 2024104815), (58, .int .i64 2227730452), (59, .int .i64 2361852424), (60, .int .i64 2428436474), (61, .int .i64 2756734187), (62, .int .i64 3204031479), (63, .int .i64 3329325298)] = some (.cells false 1 (Sha.K.map natV)) := by kernel_rfl
  simp only [zS, reduceIte, Nat.reduceLT, Int.reduceToNat, Int.reduceLE, Int.reduceEq, Int.reduceLT, Nat.reduceEqDiff, Nat.reduceAdd, e]
  refine SW_ret ?_
  simp only [zS, reduceIte, Nat.reduceLT, Int.reduceToNat, Int.reduceLE, Int.reduceEq, Int.reduceLT, Nat.reduceEqDiff, Nat.reduceAdd, sAnswer, sAnswer.sRes]
end Go.Proofs.YtkkleedpakcfgaaGreatDoor
