/-
  The walks of bound over many headers, and of the laws BoundGrows, BoundAll.
-/
import Derived.Test.YtpmgackgcefalaaBoundWalks
import Derived.Test.YtpmgackgcefalaaTypes
import Derived.Laws.EntriesVeiled
import Derived.WalkLawsBesides
namespace Go.Proofs.Ytpmgackgcefalaa
open Go.RowKit

set_option maxHeartbeats 400000 in
theorem walk_grows_no (n k d m : Int) (h : ¬ TiOk n k d) (w : World) : Calls Try.prog 4 #[.int .i64 n, .int .i64 k, .int .i64 d, .int .i64 m] w fun e w' => e = .returned (.bool true) ∧ Below w.heap.size w w' := by
  go_enter Try.func4, Try.ntmps4
  go_wp2_with fail
  refine (ticks_no n k d h _).mono ?_
  rintro e w' ⟨rfl, rfl⟩
  go_wp2_with fail
  refine (awake_any _).mono ?_
  rintro e w3 ⟨rfl, hb3⟩
  go_wp2_with fail
  go_ret
  exact ⟨rfl, hb3⟩

theorem i64_and7 (n : Int) : bits .and .i64 n 7 = n % 8 := by
  have h127 : (BitVec.ofInt 64 7).toNat = 2 ^ 3 - 1 := by decide
  have key : (BitVec.ofInt 64 n &&& BitVec.ofInt 64 7).toNat = (n % ((2 ^ 64 : Nat) : Int)).toNat % 2 ^ 3 := by
    rw [BitVec.toNat_and, BitVec.toNat_ofInt, h127, Nat.and_two_pow_sub_one_eq_mod]
  show IntKind.i64.wrap ((BitVec.ofInt 64 n &&& BitVec.ofInt 64 7).toNat : Nat) = n % 8
  rw [key, IntKind.wrap_i64]
  omega

theorem tick_le (n k d n' k' d' : Int) (h : TiOk n k d) (hn : n ≤ n') (hk : k ≤ k') (hd : d ≤ d') : tickV n k d ≤ tickV n' k' d' := by
  obtain ⟨⟨h1, h2⟩, ⟨⟨h3, h4⟩, h5⟩, h6⟩ := h
  have e1 : k * k ≤ k' * k' := Int.mul_le_mul hk hk (by omega) (by omega)
  have e2 : exchV k d ≤ exchV k' d' := by unfold exchV; omega
  have e3 : 0 ≤ exchV k d := (exchV_bd k d h3 h4 h5 h6).1
  exact Int.mul_le_mul (by omega) e2 e3 (by omega)

theorem ticks_ge (n k d n' k' d' : Int) (w : World) (h : TiOk n k d) (hn : n ≤ n' ∧ n' ≤ 256) (hk : k ≤ k' ∧ k' ≤ 1000) (hd : d ≤ d' ∧ d' ≤ 64) :
    Calls Try.prog 8 #[.int .i64 n', .int .i64 k', .int .i64 d'] w fun e w' => ∃ x, (e = .returned (.tuple #[.int .i64 x, .int .i64 0]) ∧ tickV n k d ≤ x) ∧ Below w.heap.size w w' := by
  have h' := h
  obtain ⟨⟨h1, h2⟩, ⟨⟨h3, h4⟩, h5⟩, h6⟩ := h
  refine (ticks_ok n' k' d' ⟨⟨by omega, by omega⟩, ⟨⟨by omega, by omega⟩, by omega⟩, by omega⟩ w).mono ?_
  rintro e w' ⟨rfl, hb⟩
  exact ⟨_, ⟨rfl, tick_le _ _ _ _ _ _ h' hn.1 hk.1 hd.1⟩, hb⟩

set_option maxHeartbeats 800000 in
theorem walk_grows_ok (n k d m : Int) (h : TiOk n k d) (w : World) : Calls Try.prog 4 #[.int .i64 n, .int .i64 k, .int .i64 d, .int .i64 m] w fun e w' => e = .returned (.bool true) ∧ Below w.heap.size w w' := by
  have hm := i64_and7 m
  have hm1 : 0 ≤ m % 8 := by omega
  have hm2 : m % 8 ≤ 7 := by omega
  have h' := h
  obtain ⟨⟨h1, h2⟩, ⟨⟨h3, h4⟩, h5⟩, h6⟩ := h'
  generalize m % 8 = r at *
  have HB : Below w.heap.size w w := Below.refl _ _
  go_enter Try.func4, Try.ntmps4
  go_wp2_with fail
  refine (ticks_ok n k d h _).mono ?_
  rintro e w1 ⟨rfl, hb1⟩
  replace HB := HB.trans (hb1.mono HB.size)
  clear hb1
  have ht : tickV n k d ≤ tickV n k d := Int.le_refl _
  go_wp2_with (first | (go_at_call 8; refine (ticks_ge n k d _ _ _ _ h ⟨by omega, by omega⟩ ⟨by omega, by omega⟩ ⟨by omega, by omega⟩).mono ?_; rintro e w' ⟨x, ⟨rfl, hx⟩, hb⟩; replace HB := HB.trans (hb.mono HB.size); clear hb) | (go_at_call 10; refine (awake_any _).mono ?_; rintro e w' ⟨rfl, hb⟩; replace HB := HB.trans (hb.mono HB.size); clear hb))
  all_goals
  go_ret
  exact ⟨rfl, HB⟩

theorem header_cells {w : World} {a : Option Addr} {cap : Nat} {hs : List Header} (h : ElemsAt headerS w a cap hs) {i : Nat} (hi : i < hs.length) :
    ∃ b off, a = some ⟨b, off, none⟩ ∧ b < w.heap.size ∧ w.cell? ⟨b, off + i * 7, none⟩ = some (.int .i64 hs[i].id) ∧ w.cell? ⟨b, off + i * 7 + 1, none⟩ = some (.string hs[i].salt) ∧
      w.cell? ⟨b, off + i * 7 + 2, none⟩ = some (.int .i64 hs[i].n) ∧ w.cell? ⟨b, off + i * 7 + 3, none⟩ = some (.int .i64 hs[i].bytes) ∧ w.cell? ⟨b, off + i * 7 + 4, none⟩ = some (.int .i64 hs[i].raw) ∧
      w.cell? ⟨b, off + i * 7 + 5, none⟩ = some (.string hs[i].root) ∧ w.cell? ⟨b, off + i * 7 + 6, none⟩ = some (.string hs[i].tag) := by
  obtain ⟨b, off, rfl, hb, cs, ⟨rfl, _⟩, hc⟩ := h.at hi
  exact ⟨b, off, rfl, hb, hc 0 _ rfl, hc 1 _ rfl, hc 2 _ rfl, hc 3 _ rfl, hc 4 _ rfl, hc 5 _ rfl, hc 6 _ rfl⟩

theorem sum_of {v : Value} {zs : List Int} {w : World} (h : SliceOf intS w v zs) (hbig : zs.length ≤ maxLen) :
    Calls Try.prog 13 #[v] w fun e w' => e = .returned (.int .i64 (zs.foldl Summing 0)) ∧ w = w' := by
  obtain ⟨a, cap, rfl, he⟩ := h
  unfold maxLen at hbig
  go_enter Try.func13, Try.ntmps13
  go_wp2
  go_loop [3, 8] (fun t i => ∃ k : Nat, k ≤ zs.length ∧ i = .int .i64 k ∧ t = .int .i64 ((zs.take k).foldl Summing 0)) (fun _ i => zs.length - (intOf i).toNat)
  case atStart => exact ⟨0, Nat.zero_le _, rfl, rfl⟩
  case round =>
    obtain ⟨k, hk, rfl, rfl⟩ := hrel
    by_cases hlt : k < zs.length
    · obtain ⟨b, off, rfl, hb, hc⟩ := he.int hlt
      clear he
      go_wp2
      go_round
      case rel =>
        refine ⟨k + 1, by omega, by go_num, ?_⟩
        rw [List.take_succ_eq_append_getElem hlt, List.foldl_append]
        rfl
      case measure => simp [intOf]; omega
    · clear he
      go_wp2
      obtain rfl : k = zs.length := by omega
      go_ret
      exact ⟨by rw [List.take_length]; rfl, rfl⟩

def AllOk (hs : List Header) (k d : Int) : Prop := ∀ h ∈ hs, TiOk h.n k d
def allV (hs : List Header) (k d : Int) : Int := (hs.map fun h => tickV h.n k d).foldl Summing 0

theorem info_int : (Try.prog.info? 3).map (fun i => (i.zero, i.size, i.bytes)) = some (some (.int .i64 0), 1, 8) := by kernel_rfl

theorem allOk_take {hs : List Header} {k d : Int} {j : Nat} (h : AllOk (hs.take j) k d) (hj : j < hs.length) (h1 : TiOk hs[j].n k d) : AllOk (hs.take (j + 1)) k d := by
  intro x hx
  rw [List.take_succ_eq_append_getElem hj, List.mem_append] at hx
  rcases hx with hx | hx
  · exact h x hx
  · simp at hx; subst hx; exact h1

def ticksOf (hs : List Header) (k d : Int) : List Value := hs.map fun h => .int .i64 (tickV h.n k d)

theorem ticksOf_take (hs : List Header) (k d : Int) (j : Nat) (hj : j < hs.length) : ticksOf (hs.take j) k d ++ [.int .i64 (tickV hs[j].n k d)] = ticksOf (hs.take (j + 1)) k d := by
  simp only [ticksOf, List.take_succ_eq_append_getElem hj, List.map_append, List.map_cons, List.map_nil]

set_option maxHeartbeats 1000000 in
theorem all_any (a : Option Addr) (cap : Nat) (hs : List Header) (k d : Int) (w : World) (hlen : hs.length ≤ 100) (he : ElemsAt headerS w a cap hs) :
    Calls Try.prog 11 #[.slice a hs.length cap, .int .i64 k, .int .i64 d] w fun e w' =>
      ((AllOk hs k d ∧ e = .returned (.tuple #[.int .i64 (allV hs k d), .int .i64 0])) ∨ (¬ AllOk hs k d ∧ e = .returned (.tuple #[.int .i64 0, .int .i64 1]))) ∧ Below w.heap.size w w' := by
  go_enter Try.func11, Try.ntmps11
  go_wp2
  go_loopw [8, 15] (fun t i wr => ∃ j : Nat, j ≤ hs.length ∧ i = .int .i64 j ∧ AllOk (hs.take j) k d ∧ wr.ownsRow w.heap.size 3 1 t j (ticksOf (hs.take j) k d) ∧ Below w.heap.size w wr) (fun _ i _ => hs.length - (intOf i).toNat)
  case atStart => exact ⟨0, Nat.zero_le _, rfl, by intro x hx; simp at hx, World.ownsRow_nil _ _ _ _, Below.refl _ _⟩
  case round =>
    obtain ⟨j, hj, rfl, hok, hown, hwr⟩ := hrel
    by_cases hlt : j < hs.length
    · obtain ⟨b, off, rfl, hb, c0, c1, c2, c3, c4, c5, c6⟩ := header_cells (he.mono hwr) hlt
      have hsz := hwr.size
      clear he
      have HOK := Lib.hid hok
      clear hok
      go_wp2_with fail
      by_cases ht : TiOk hs[j].n k d
      · refine (ticks_ok _ k d ht _).mono ?_
        rintro e w1 ⟨rfl, hb1⟩
        have hown1 := ownsRow_below (hown.alloc _) hb1
        have hsz1 := hb1.size
        simp at hsz1
        have HW1 : Below w.heap.size w w1 := (Below.trans (by repeat (first | exact hwr | refine Below.setCell ?_ hsz _ | refine Below.alloc ?_ hsz _)) (hb1.mono (by simp; omega)))
        clear hb1
        go_wp2_with (at_builtin; refine wpList_append_elem rfl _ _ 37 rfl w.heap.size 3 (.int .i64 0) 1 8 Try.underlying37 info_int rfl (by decide) _ _ _ rfl hown1 _ rfl rfl ?_ (by omega) (by decide) (by omega) ?_)
        · simp [Value.oneCell']
        intro v' w2 hown2 hg2
        have hown3 : w2.ownsRow w.heap.size 3 1 v' (j + 1) (ticksOf (hs.take (j + 1)) k d) := by rw [← ticksOf_take hs k d j hlt]; exact hown2
        have HW2 := below_append HW1 hown1 hg2 (by omega) (Nat.le_refl _)
        clear hown2 hg2 hown1 hown
        go_wp2_with fail
        go_roundw
        case rel => exact ⟨j + 1, by omega, by go_num, allOk_take HOK.out hlt ht, hown3, HW2⟩
        case measure => simp [intOf]; omega
      · refine (ticks_no _ k d ht _).mono ?_
        rintro e w' ⟨rfl, rfl⟩
        go_wp2_with fail
        go_ret2
        refine ⟨.inr ⟨fun h => ht (h _ (List.getElem_mem hlt)), rfl⟩, ?_⟩
        repeat (first | exact hwr | refine Below.setCell ?_ hsz _ | refine Below.alloc ?_ hsz _)
    · obtain rfl : j = hs.length := by omega
      rw [List.take_length] at hok hown
      have HOK := Lib.hid hok
      clear hok
      go_wp2_with fail
      refine (sum_of (zs := hs.map fun h => tickV h.n k d) ?_ ?_).mono ?_
      · exact SliceOf.ints (by simpa [ticksOf, Function.comp_def] using hown)
      · simp [maxLen]; omega
      rintro e w' ⟨rfl, rfl⟩
      go_wp2_with fail
      go_ret2
      exact ⟨.inl ⟨HOK.out, rfl⟩, hwr⟩

theorem allV_take (hs : List Header) (k d : Int) (j : Nat) (hj : j < hs.length) : wrap64 (allV (hs.take j) k d + tickV hs[j].n k d) = allV (hs.take (j + 1)) k d := by
  simp only [allV, List.take_succ_eq_append_getElem hj, List.map_append, List.map_cons, List.map_nil, List.foldl_append, List.foldl_cons, List.foldl_nil]
  rfl

set_option maxHeartbeats 1000000 in
theorem rall_any (a : Option Addr) (cap : Nat) (hs : List Header) (k d : Int) (w : World) (hlen : hs.length ≤ 100) (he : ElemsAt headerS w a cap hs) :
    Calls Try.prog 12 #[.slice a hs.length cap, .int .i64 k, .int .i64 d] w fun e w' =>
      ((AllOk hs k d ∧ e = .returned (.tuple #[.int .i64 (allV hs k d), .int .i64 0])) ∨ (¬ AllOk hs k d ∧ e = .returned (.tuple #[.int .i64 0, .int .i64 1]))) ∧ w = w' := by
  go_enter Try.func12, Try.ntmps12
  go_wp2
  go_loop [8, 9] (fun t i => ∃ j : Nat, j ≤ hs.length ∧ i = .int .i64 j ∧ AllOk (hs.take j) k d ∧ t = .int .i64 (allV (hs.take j) k d)) (fun _ i => hs.length - (intOf i).toNat)
  case atStart => exact ⟨0, Nat.zero_le _, rfl, by intro x hx; simp at hx, rfl⟩
  case round =>
    obtain ⟨j, hj, rfl, hok, rfl⟩ := hrel
    by_cases hlt : j < hs.length
    · obtain ⟨b, off, rfl, hb, c0, c1, c2, c3, c4, c5, c6⟩ := header_cells he hlt
      clear he c0 c1 c3 c4 c5 c6
      have HOK := Lib.hid hok
      clear hok
      go_wp2_with fail
      by_cases ht : TiOk hs[j].n k d
      · refine (rticks_ok _ k d ht _).mono ?_
        rintro e w' ⟨rfl, rfl⟩
        go_wp2_with fail
        go_round
        case rel => exact ⟨j + 1, by omega, by go_num, allOk_take HOK.out hlt ht, by rw [allV_take hs k d j hlt]⟩
        case measure => simp [intOf]; omega
      · refine (rticks_no _ k d ht _).mono ?_
        rintro e w' ⟨rfl, rfl⟩
        go_wp2_with fail
        go_ret2
        exact ⟨.inr ⟨fun h => ht (h _ (List.getElem_mem hlt)), rfl⟩, rfl⟩
    · obtain rfl : j = hs.length := by omega
      rw [List.take_length] at hok
      rw [List.take_length]
      have HOK := Lib.hid hok
      clear hok
      go_wp2_with fail
      go_ret2
      exact ⟨.inl ⟨HOK.out, rfl⟩, rfl⟩

theorem ElemsAt.take {α : Type} {S : Shape α} {w : World} {a : Option Addr} {cap : Nat} {xs : List α} (h : ElemsAt S w a cap xs) (n : Nat) : ElemsAt S w a cap (xs.take n) := by
  rcases h with ⟨rfl, h⟩ | ⟨b, off, rfl, hlt, hl, hm, hc⟩
  · exact .inl ⟨by simp, h⟩
  · refine .inr ⟨b, off, rfl, hlt, by simp; omega, hm, fun i x hx => hc i x ?_⟩
    rw [List.getElem?_take] at hx
    split at hx
    · exact hx
    · cases hx

theorem pickL {A B C : Prop} (h : (A ∧ B) ∨ (¬ A ∧ C)) (a : A) : B := by rcases h with h | h; exact h.2; exact absurd a h.1
theorem pickR {A B C : Prop} (h : (A ∧ B) ∨ (¬ A ∧ C)) (a : ¬ A) : C := by rcases h with h | h; exact absurd h.1 a; exact h.2

theorem all_n {a : Option Addr} {cap n : Nat} {hs : List Header} (k d : Int) (w : World) (hn : Hid (hs.length = n)) (hlen : n ≤ 100) (he : Hid (ElemsAt headerS w a cap hs)) :
    Calls Try.prog 11 #[.slice a n cap, .int .i64 k, .int .i64 d] w fun e w' =>
      ((AllOk hs k d ∧ e = .returned (.tuple #[.int .i64 (allV hs k d), .int .i64 0])) ∨ (¬ AllOk hs k d ∧ e = .returned (.tuple #[.int .i64 0, .int .i64 1]))) ∧ Below w.heap.size w w' := by
  have := hn.out
  subst this
  exact all_any a cap hs k d w hlen he.out

theorem rall_n {a : Option Addr} {cap n : Nat} {hs : List Header} (k d : Int) (w : World) (hn : Hid (hs.length = n)) (hlen : n ≤ 100) (he : Hid (ElemsAt headerS w a cap hs)) :
    Calls Try.prog 12 #[.slice a n cap, .int .i64 k, .int .i64 d] w fun e w' =>
      ((AllOk hs k d ∧ e = .returned (.tuple #[.int .i64 (allV hs k d), .int .i64 0])) ∨ (¬ AllOk hs k d ∧ e = .returned (.tuple #[.int .i64 0, .int .i64 1]))) ∧ w = w' := by
  have := hn.out
  subst this
  exact rall_any a cap hs k d w hlen he.out

set_option maxHeartbeats 1000000 in
theorem walk_all (v : Value) (hs : List Header) (k d : Int) (w : World) (h : SliceOf headerS w v hs) :
    Calls Try.prog 5 #[v, .int .i64 k, .int .i64 d] w fun e w' => e = .returned (.bool true) ∧ Below w.heap.size w w' := by
  obtain ⟨a, cap, rfl, he⟩ := h
  have he2 := he.take 100
  have hn : Hid ((hs.take 100).length = min 100 hs.length) := by simp [Hid]
  generalize hs.take 100 = hs2 at *
  have HE := Lib.hid he2
  have hcap : 100 < hs.length → 100 ≤ cap ∧ ∃ b off, a = some ⟨b, off, none⟩ := by
    intro hl
    rcases he with ⟨rfl, _⟩ | ⟨b, off, rfl, hlt, hcap, hm, hc⟩
    · simp at hl
    · exact ⟨by omega, b, off, rfl⟩
  clear he he2
  by_cases hl : hs.length ≤ 100
  · rw [Nat.min_eq_right hl] at hn
    clear hcap
    go_enter Try.func5, Try.ntmps5
    go_wp2_with fail
    refine (all_n k d _ hn hl HE).mono ?_
    rintro e w1 ⟨h1, hb1⟩
    replace HE := Lib.hid (HE.out.mono hb1)
    rcases h1 with ⟨hok, rfl⟩ | ⟨hok, rfl⟩
    all_goals
      have HOK := Lib.hid hok
      clear hok
      go_wp2_with fail
      refine (rall_n k d _ hn hl HE).mono ?_
      rintro e w' ⟨h2, rfl⟩
      first | have h3 := pickL h2 HOK.out | have h3 := pickR h2 HOK.out
      subst h3
      clear h2
      go_wp2_with fail
      refine (awake_any _).mono ?_
      rintro e w3 ⟨rfl, hb3⟩
      go_wp2_with fail
      go_ret
      exact ⟨rfl, hb1.trans (hb3.mono hb1.size)⟩
  · rw [Nat.min_eq_left (by omega)] at hn
    obtain ⟨hc, b, off, rfl⟩ := hcap (by omega)
    have hl' : (100 : Int) < hs.length := by omega
    clear hcap
    go_enter Try.func5, Try.ntmps5
    go_wp2_with fail
    refine (all_n k d _ hn (by omega) HE).mono ?_
    rintro e w1 ⟨h1, hb1⟩
    replace HE := Lib.hid (HE.out.mono hb1)
    rcases h1 with ⟨hok, rfl⟩ | ⟨hok, rfl⟩
    all_goals
      have HOK := Lib.hid hok
      clear hok
      go_wp2_with fail
      refine (rall_n k d _ hn (by omega) HE).mono ?_
      rintro e w' ⟨h2, rfl⟩
      first | have h3 := pickL h2 HOK.out | have h3 := pickR h2 HOK.out
      subst h3
      clear h2
      go_wp2_with fail
      refine (awake_any _).mono ?_
      rintro e w3 ⟨rfl, hb3⟩
      go_wp2_with fail
      go_ret
      exact ⟨rfl, hb1.trans (hb3.mono hb1.size)⟩
end Go.Proofs.Ytpmgackgcefalaa
