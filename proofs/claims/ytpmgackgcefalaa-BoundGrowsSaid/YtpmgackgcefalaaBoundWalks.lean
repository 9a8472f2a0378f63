/-
  The walks of bound and its reference, layer 35.
-/
import Derived.Test.YtpmgackgcefalaaRows
import Derived.WalkKit
import Derived.ProofKit
import Derived.OpenShut
import Derived.Lib.Hide
import Derived.Outline
import Derived.WalkSpells
namespace Go.Proofs.Ytpmgackgcefalaa
open Go.RowKit

def Summing (s : Int) (n : Int) : Int := wrap64 (s + n)

set_option maxHeartbeats 400000 in
theorem sum_any (b off len cap : Nat) (zs : List Int) (w : World) (hz : len ≤ zs.length) (hbig : len ≤ maxLen)
    (hc : ∀ j, j < zs.length → w.cell? ⟨b, off + j, none⟩ = some (.int .i64 (zs.getD j 0))) :
    Calls Try.prog 13 #[.slice (some ⟨b, off, none⟩) len cap] w fun e w' => e = .returned (.int .i64 ((zs.take len).foldl Summing 0)) ∧ w = w' := by
  unfold maxLen at hbig
  go_enter Try.func13, Try.ntmps13
  go_wp2
  go_loop [3, 8] (fun t i => ∃ k : Nat, k ≤ len ∧ i = .int .i64 k ∧ t = .int .i64 ((zs.take k).foldl Summing 0)) (fun _ i => len - (intOf i).toNat)
  case atStart => exact ⟨0, Nat.zero_le _, rfl, rfl⟩
  case round =>
    obtain ⟨k, hk, rfl, rfl⟩ := hrel
    by_cases hlt : k < len
    · have hcell := hc k (by omega)
      clear hc
      go_wp2
      go_round
      case rel =>
        refine ⟨k + 1, by omega, by go_num, ?_⟩
        rw [List.take_add_one, List.foldl_append]
        simp [Summing, List.getD, List.getElem?_eq_getElem (show k < zs.length by omega)]
      case measure => simp [intOf]; omega
    · clear hc
      go_wp2
      obtain rfl : k = len := by omega
      go_ret
      exact ⟨rfl, rfl⟩

def exchV (k d : Int) : Int := 16 * (k * k + 2) + 2 * (d + 2)

theorem sq_bd (k : Int) (h1 : 1 ≤ k) (h2 : k ≤ 1000) : 1 ≤ k * k ∧ k * k ≤ 1000000 := by
  obtain ⟨n, rfl⟩ := Int.eq_ofNat_of_zero_le (show (0 : Int) ≤ k by omega)
  have h3 : n ≤ 1000 := by omega
  have h4 : 1 ≤ n := by omega
  have h5 := Nat.mul_le_mul h3 h3
  have h6 := Nat.mul_le_mul h4 h4
  have e : ((n : Int) * n) = ((n * n : Nat) : Int) := by simp
  rw [e]
  omega

theorem sum2 (x y : Int) (w : World) :
    Calls Try.prog 13 #[.slice (some ⟨w.heap.size, 0, none⟩) 2 2] (w.alloc (.cells #[.int .i64 x, .int .i64 y] 3)) fun e w' => e = .returned (.int .i64 (wrap64 (wrap64 x + y))) ∧ (w.alloc (.cells #[.int .i64 x, .int .i64 y] 3)) = w' := by
  refine (sum_any w.heap.size 0 2 2 [x, y] _ (by simp) (by decide) ?_).mono fun e w' h => ?_
  · intro j hj
    have : j = 0 ∨ j = 1 := by simp at hj; omega
    rcases this with rfl | rfl <;> simp
  · simpa [Summing] using h

set_option maxHeartbeats 400000 in
theorem exch_ok (k d : Int) (h1 : 1 ≤ k) (h2 : k ≤ 1000) (h3 : 0 ≤ d) (h4 : d ≤ 64) (w : World) :
    Calls Try.prog 6 #[.int .i64 k, .int .i64 d] w fun e w' => e = .returned (.tuple #[.int .i64 (exchV k d), .int .i64 0]) ∧ Below w.heap.size w w' := by
  obtain ⟨h5, h6⟩ := sq_bd k h1 h2
  go_enter Try.func6, Try.ntmps6
  go_wp2_with fail
  refine (sum2 _ _ _).mono ?_
  rintro e w' ⟨rfl, rfl⟩
  go_wp2_with fail
  go_ret2
  refine ⟨?_, (Below.refl _ _).alloc (Nat.le_refl _) _⟩
  simp [exchV, wrap64]
  omega

set_option maxHeartbeats 400000 in
theorem exch_no (k d : Int) (h : ¬ (((1 ≤ k ∧ k ≤ 1000) ∧ 0 ≤ d) ∧ d ≤ 64)) (w : World) :
    Calls Try.prog 6 #[.int .i64 k, .int .i64 d] w fun e w' => e = .returned (.tuple #[.int .i64 0, .int .i64 1]) ∧ w = w' := by
  go_enter Try.func6, Try.ntmps6
  go_wp2
  all_goals
  go_ret2
  exact ⟨rfl, rfl⟩

theorem exchV_bd (k d : Int) (h1 : 1 ≤ k) (h2 : k ≤ 1000) (h3 : 0 ≤ d) (h4 : d ≤ 64) : 0 ≤ exchV k d ∧ exchV k d ≤ 16000200 := by
  have := sq_bd k h1 h2
  unfold exchV; omega

def ExOk (k d : Int) : Prop := ((1 ≤ k ∧ k ≤ 1000) ∧ 0 ≤ d) ∧ d ≤ 64
def TiOk (n k d : Int) : Prop := (1 ≤ n ∧ n ≤ 256) ∧ ExOk k d
instance (k d : Int) : Decidable (ExOk k d) := by unfold ExOk; infer_instance
instance (n k d : Int) : Decidable (TiOk n k d) := by unfold TiOk; infer_instance

/-- (n + 2) times x, kept whole. -/
def tickV (n k d : Int) : Int := (n + 2) * exchV k d

theorem tick_mul (n k d : Int) (h : TiOk n k d) : 0 ≤ tickV n k d ∧ tickV n k d ≤ 4128051600 := by
  obtain ⟨⟨h1, h2⟩, ⟨⟨h3, h4⟩, h5⟩, h6⟩ := h
  obtain ⟨a, b⟩ := exchV_bd k d h3 h4 h5 h6
  unfold tickV
  obtain ⟨x, hx⟩ := Int.eq_ofNat_of_zero_le a
  obtain ⟨m, hm⟩ := Int.eq_ofNat_of_zero_le (show (0 : Int) ≤ n + 2 by omega)
  rw [hx, hm]
  have := Nat.mul_le_mul (show m ≤ 258 by omega) (show x ≤ 16000200 by omega)
  have e : ((m : Int) * x) = ((m * x : Nat) : Int) := by simp
  rw [e]; omega

set_option maxHeartbeats 400000 in
theorem ticks_ok (n k d : Int) (h : TiOk n k d) (w : World) :
    Calls Try.prog 8 #[.int .i64 n, .int .i64 k, .int .i64 d] w fun e w' => e = .returned (.tuple #[.int .i64 (tickV n k d), .int .i64 0]) ∧ Below w.heap.size w w' := by
  obtain ⟨t1, t2⟩ := tick_mul n k d h
  obtain ⟨⟨h1, h2⟩, ⟨⟨h3, h4⟩, h5⟩, h6⟩ := h
  obtain ⟨a, b⟩ := exchV_bd k d h3 h4 h5 h6
  unfold tickV at *
  go_enter Try.func8, Try.ntmps8
  go_wp2_with (go_at_call 6; refine (exch_ok k d h3 h4 h5 h6 _).mono ?_; rintro e w' ⟨rfl, hb⟩)
  go_ret2
  exact ⟨rfl, hb⟩

set_option maxHeartbeats 400000 in
theorem ticks_no (n k d : Int) (h : ¬ TiOk n k d) (w : World) :
    Calls Try.prog 8 #[.int .i64 n, .int .i64 k, .int .i64 d] w fun e w' => e = .returned (.tuple #[.int .i64 0, .int .i64 1]) ∧ w = w' := by
  by_cases hn : 1 ≤ n ∧ n ≤ 256
  · have h' : ¬ ExOk k d := fun he => h ⟨hn, he⟩
    obtain ⟨h1, h2⟩ := hn
    clear h
    go_enter Try.func8, Try.ntmps8
    go_wp2_with (go_at_call 6; refine (exch_no k d h' _).mono ?_; rintro e w' ⟨rfl, rfl⟩)
    go_ret2
    exact ⟨by simp, rfl⟩
  · clear h
    go_enter Try.func8, Try.ntmps8
    go_wp2
    all_goals
    go_ret2
    exact ⟨rfl, rfl⟩

set_option maxHeartbeats 400000 in
theorem rexch_ok (k d : Int) (h1 : 1 ≤ k) (h2 : k ≤ 1000) (h3 : 0 ≤ d) (h4 : d ≤ 64) (w : World) :
    Calls Try.prog 7 #[.int .i64 k, .int .i64 d] w fun e w' => e = .returned (.tuple #[.int .i64 (exchV k d), .int .i64 0]) ∧ w = w' := by
  obtain ⟨h5, h6⟩ := sq_bd k h1 h2
  have e1 : exchV k d = wrap64 (wrap64 (16 * k) * k) + 32 + 2 * d + 4 := by
    have e2 : (16 * k) * k = 16 * (k * k) := by rw [Int.mul_assoc]
    rw [show wrap64 (16 * k) = 16 * k from by simp [wrap64]; omega, e2, show wrap64 (16 * (k * k)) = 16 * (k * k) from by simp [wrap64]; omega]
    unfold exchV; omega
  have e0 : 16 * k * k = 16 * (k * k) := by rw [Int.mul_assoc]
  have e3 : 0 ≤ 16 * k * k ∧ 16 * k * k ≤ 16000000 := by omega
  obtain ⟨e4, e5⟩ := e3
  have E0 := Lib.hid e0
  have E1 := Lib.hid e1
  clear e0 e1
  go_enter Try.func7, Try.ntmps7
  go_wp2
  go_ret2
  refine ⟨?_, rfl⟩
  have : exchV k d = 16 * k * k + 32 + 2 * d + 4 := by rw [E0.out]; unfold exchV; omega
  rw [this]
  rfl

set_option maxHeartbeats 400000 in
theorem rexch_no (k d : Int) (h : ¬ ExOk k d) (w : World) :
    Calls Try.prog 7 #[.int .i64 k, .int .i64 d] w fun e w' => e = .returned (.tuple #[.int .i64 0, .int .i64 1]) ∧ w = w' := by
  unfold ExOk at h
  go_enter Try.func7, Try.ntmps7
  go_wp2
  all_goals
  go_ret2
  exact ⟨rfl, rfl⟩

theorem part_bd (j n x : Int) (hj : 0 ≤ j) (hjn : j ≤ n) (hn : n ≤ 258) (hx : 0 ≤ x) (hx2 : x ≤ 16000200) : 0 ≤ j * x ∧ j * x ≤ 4128051600 := by
  obtain ⟨x, rfl⟩ := Int.eq_ofNat_of_zero_le hx
  obtain ⟨m, rfl⟩ := Int.eq_ofNat_of_zero_le hj
  have := Nat.mul_le_mul (show m ≤ 258 by omega) (show x ≤ 16000200 by omega)
  have e : ((m : Int) * x) = ((m * x : Nat) : Int) := by simp
  rw [e]; omega

set_option maxHeartbeats 400000 in
theorem rticks_ok (n k d : Int) (h : TiOk n k d) (w : World) :
    Calls Try.prog 9 #[.int .i64 n, .int .i64 k, .int .i64 d] w fun e w' => e = .returned (.tuple #[.int .i64 (tickV n k d), .int .i64 0]) ∧ w = w' := by
  obtain ⟨⟨h1, h2⟩, ⟨⟨h3, h4⟩, h5⟩, h6⟩ := h
  obtain ⟨a, b⟩ := exchV_bd k d h3 h4 h5 h6
  unfold tickV
  go_enter Try.func9, Try.ntmps9
  go_wp2_with (go_at_call 7; refine (rexch_ok k d h3 h4 h5 h6 _).mono ?_; rintro e w' ⟨rfl, rfl⟩)
  go_loop [10, 11] (fun s i => ∃ j : Int, 0 ≤ j ∧ j ≤ n + 2 ∧ i = .int .i64 j ∧ s = .int .i64 (j * exchV k d)) (fun _ i => (n + 2 - intOf i).toNat)
  case atStart => exact ⟨0, by omega, by omega, rfl, by simp⟩
  case round =>
    obtain ⟨j, hj, hjn, rfl, rfl⟩ := hrel
    obtain ⟨p1, p2⟩ := part_bd j (n + 2) (exchV k d) hj hjn (by omega) a b
    by_cases hlt : j < n + 2
    · go_wp2
      go_round
      case rel => exact ⟨j + 1, by omega, by omega, rfl, by rw [Int.add_mul, Int.one_mul]⟩
      case measure => simp [intOf]; omega
    · obtain rfl : j = n + 2 := by omega
      go_wp2
      go_ret2
      exact ⟨rfl, rfl⟩

set_option maxHeartbeats 400000 in
theorem rticks_no (n k d : Int) (h : ¬ TiOk n k d) (w : World) :
    Calls Try.prog 9 #[.int .i64 n, .int .i64 k, .int .i64 d] w fun e w' => e = .returned (.tuple #[.int .i64 0, .int .i64 1]) ∧ w = w' := by
  by_cases he : ExOk k d
  · have hn : ¬ (1 ≤ n ∧ n ≤ 256) := fun hn => h ⟨hn, he⟩
    obtain ⟨⟨h3, h4⟩, h5⟩ := id he
    clear h he
    obtain ⟨h7, h8⟩ := h3
    go_enter Try.func9, Try.ntmps9
    go_wp2_with (go_at_call 7; refine (rexch_ok k d h7 h8 h4 h5 _).mono ?_; rintro e w' ⟨rfl, rfl⟩)
    all_goals
    go_ret2
    exact ⟨rfl, rfl⟩
  · clear h
    go_enter Try.func9, Try.ntmps9
    go_wp2_with (go_at_call 7; refine (rexch_no k d he _).mono ?_; rintro e w' ⟨rfl, rfl⟩)
    all_goals
    go_ret2
    exact ⟨rfl, rfl⟩

set_option maxHeartbeats 400000 in
theorem awake_any (w : World) : Calls Try.prog 10 #[] w fun e w' => e = .returned (.bool true) ∧ Below w.heap.size w w' := by
  go_enter Try.func10, Try.ntmps10
  go_wp2_with fail
  refine (exch_ok 1 0 (by decide) (by decide) (by decide) (by decide) _).mono ?_
  rintro e w1 ⟨rfl, hb1⟩
  go_wp2_with fail
  refine (ticks_ok 5 2 3 (by decide) _).mono ?_
  rintro e w2 ⟨rfl, hb2⟩
  have e1 : exchV 1 0 = 52 := by decide
  have e2 : tickV 5 2 3 = 742 := by decide
  rw [e1, e2]
  clear e1 e2
  go_wp2_with fail
  go_ret
  exact ⟨rfl, hb1.trans (hb2.mono hb1.size)⟩

def okN (b : Prop) [Decidable b] : Int := if b then 0 else 1
def exV (k d : Int) : Int := if ExOk k d then exchV k d else 0
def tiV (n k d : Int) : Int := if TiOk n k d then tickV n k d else 0

theorem exch_any (k d : Int) (w : World) :
    Calls Try.prog 6 #[.int .i64 k, .int .i64 d] w fun e w' => e = .returned (.tuple #[.int .i64 (exV k d), .int .i64 (okN (ExOk k d))]) ∧ Below w.heap.size w w' := by
  by_cases h : ExOk k d
  · simp only [exV, okN, if_pos h]
    exact exch_ok k d h.1.1.1 h.1.1.2 h.1.2 h.2 w
  · simp only [exV, okN, if_neg h]
    exact (exch_no k d h w).mono fun e w' ⟨h1, h2⟩ => ⟨h1, h2 ▸ Below.refl _ _⟩

theorem rexch_any (k d : Int) (w : World) :
    Calls Try.prog 7 #[.int .i64 k, .int .i64 d] w fun e w' => e = .returned (.tuple #[.int .i64 (exV k d), .int .i64 (okN (ExOk k d))]) ∧ w = w' := by
  by_cases h : ExOk k d
  · simp only [exV, okN, if_pos h]
    exact rexch_ok k d h.1.1.1 h.1.1.2 h.1.2 h.2 w
  · simp only [exV, okN, if_neg h]
    exact rexch_no k d h w

theorem ticks_any (n k d : Int) (w : World) :
    Calls Try.prog 8 #[.int .i64 n, .int .i64 k, .int .i64 d] w fun e w' => e = .returned (.tuple #[.int .i64 (tiV n k d), .int .i64 (okN (TiOk n k d))]) ∧ Below w.heap.size w w' := by
  by_cases h : TiOk n k d
  · simp only [tiV, okN, if_pos h]
    exact ticks_ok n k d h w
  · simp only [tiV, okN, if_neg h]
    exact (ticks_no n k d h w).mono fun e w' ⟨h1, h2⟩ => ⟨h1, h2 ▸ Below.refl _ _⟩

theorem rticks_any (n k d : Int) (w : World) :
    Calls Try.prog 9 #[.int .i64 n, .int .i64 k, .int .i64 d] w fun e w' => e = .returned (.tuple #[.int .i64 (tiV n k d), .int .i64 (okN (TiOk n k d))]) ∧ w = w' := by
  by_cases h : TiOk n k d
  · simp only [tiV, okN, if_pos h]
    exact rticks_ok n k d h w
  · simp only [tiV, okN, if_neg h]
    exact rticks_no n k d h w

set_option maxHeartbeats 400000 in
theorem walk_ticks (n k d : Int) (w : World) : Calls Try.prog 3 #[.int .i64 n, .int .i64 k, .int .i64 d] w fun e w' => e = .returned (.bool true) ∧ Below w.heap.size w w' := by
  go_enter Try.func3, Try.ntmps3
  go_wp2_with fail
  refine (exch_any k d _).mono ?_
  rintro e w1 ⟨rfl, hb1⟩
  go_wp2_with fail
  refine (rexch_any k d _).mono ?_
  rintro e w' ⟨rfl, rfl⟩
  go_wp2_with fail
  refine (ticks_any n k d _).mono ?_
  rintro e w2 ⟨rfl, hb2⟩
  go_wp2_with fail
  refine (rticks_any n k d _).mono ?_
  rintro e w' ⟨rfl, rfl⟩
  go_wp2_with fail
  refine (awake_any _).mono ?_
  rintro e w3 ⟨rfl, hb3⟩
  go_wp2_with fail
  go_ret
  exact ⟨rfl, hb1.trans ((hb2.mono hb1.size).trans (hb3.mono (Nat.le_trans hb1.size hb2.size)))⟩
end Go.Proofs.Ytpmgackgcefalaa
