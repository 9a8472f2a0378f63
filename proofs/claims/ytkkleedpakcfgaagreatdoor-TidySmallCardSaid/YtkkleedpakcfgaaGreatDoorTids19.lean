/-
  The document's answer for layer 3, walked on the abstract machine: tags.
  The reference's leaves, nodes and roots.
  Opening a disk, in plain words: twice the same; of a disk whose sectors are known.
  One archive on a disk of its own: what the sectors may hold, whatever was done, in plain words.
  The document's answers for layer 5, walked on the abstract machine: keys.
  The document's answer for layer 4, walked on the abstract machine: a quarter round.
  The document's answer for layer 4, walked on the abstract machine: words of bytes.
  The document's answer for layer 4, walked on the abstract machine: a block.
  The document's answer for layer 4, walked on the abstract machine: a text, byte by byte.
  The archive of a stream, in plain words; it is whole.
  The walks of the document's answer for layer 18: a header's bytes.
  The walk of Read.
  The reference's Seal, Fields, Signed.
  A new block that turns.
  The walk of disk.New.
  A region that draws its order, in whose head a call may make blocks.
  The walk of fits.
  Sectors of zeros: no entry, no record.
  Opening a disk: plain laws for the walk.
-/
import Derived.Test.YtkkleedpakcfgaaGreatDoorTids18
import Derived.Test.YtkkleedpakcfgaaGreatDoorTids01
import Derived.Test.YtkkleedpakcfgaaGreatDoorTids09
import Derived.Test.YtkkleedpakcfgaaGreatDoorTids15
import Derived.Test.YtkkleedpakcfgaaGreatDoorTids14
import Derived.Test.YtkkleedpakcfgaaGreatDoorTids11
import Derived.Test.YtkkleedpakcfgaaGreatDoorTids03
import Derived.Test.YtkkleedpakcfgaaGreatDoorTids13
set_option linter.all false
namespace Go.Proofs.YtkkleedpakcfgaaGreatDoor
open Go.RowKit Abs
theorem rsum_at (M : Mem) (s : ByteArray) (hs : s.size ≤ 140737488355200) : Abs.Spec Tryz.prog 246 [.string s] M fun u M' => u = .string (str (Sha.sum s.data.toList)) ∧ M' = M :=
  Abs.Spec.of_empty (by simp [flat]) rfl ((rsum_spec ⟨[]⟩ s hs).mono fun v m' h => h.1) M
theorem xor_byte (b c : UInt8) : Value.int .u8 (bits .xor .i64 (b.toNat : Int) (c.toNat : Int) % 256) = byteV (b ^^^ c) := by
  have hb := UInt8.toNat_lt b
  have hc := UInt8.toNat_lt c
  unfold byteV
  congr 1
  rw [i64_xor_nat _ _ (by omega) (by omega), UInt8.toNat_xor]
  have : b.toNat ^^^ c.toNat < 2 ^ 8 := Nat.xor_lt_two_pow hb hc
  omega
set_option maxRecDepth 100000 in
set_option maxHeartbeats 1000000 in
theorem rturned_spec (m : Mem) (k : ByteArray) (c : UInt8) (hk : k.size ≤ 140737488355200) :
    Abs.Spec Tryz.prog 247 [.string k, .int .i64 (c.toNat : Int)] m fun v m' => v = .string (str (Sha.pad k.data.toList c)) := by
  obtain ⟨q, hq⟩ : ∃ q, q = k.data.toList := ⟨_, rfl⟩
  have hql : q.length = k.size := by rw [hq, Array.length_toList]; rfl
  have hbs : bsize k = q.length := by rw [hq]; rfl
  obtain ⟨key, hkey⟩ : ∃ key, key = if 64 < q.length then Sha.sum q else q := ⟨_, rfl⟩
  have hkl : key.length ≤ 64 := by
    rw [hkey]; split
    · rw [Sha.sum_length]; decide
    · omega
  have hpad : Sha.pad k.data.toList c = (key ++ List.replicate (64 - key.length) 0).map (· ^^^ c) := by rw [← hq, Sha.pad, Sha.key64, ← hkey]
  rw [hpad]
  refine Abs.Spec.walk Tryz.func247 (by rfl) _ Tryz.results247 _ Tryz.ntmps247 (by simp) ?_
  refine SW_seq (SW_region ?_)
  simp only [zS, reduceIte, Nat.reduceLT, Int.reduceToNat, Int.reduceLE, Int.reduceEq, Int.reduceLT, Nat.reduceEqDiff, Nat.reduceAdd]
  refine SW_seq (SW_region ?_)
  simp only [zS, reduceIte, Nat.reduceLT, Int.reduceToNat, Int.reduceLE, Int.reduceEq, Int.reduceLT, Nat.reduceEqDiff, Nat.reduceAdd, zT, new_bytes k (by rw [bsize_data]; omega), hbs, ← hq]
  refine SW_mid [1, 5] (fun f M => ∃ v, f = [(1, .int .i64 (c.toNat : Int)), (5, v)] ∧ Sl M v (bytesV key) ∧ Grows m M ∧ (∀ g l c, v = .slice (some ⟨g, 0, none⟩) l c → m.size ≤ g)) ?_ ?_
  · refine SW_seq (SW_region ?_)
    simp only [zS, reduceIte, Nat.reduceLT, Int.reduceToNat, Int.reduceLE, Int.reduceEq, Int.reduceLT, Nat.reduceEqDiff, Nat.reduceAdd, zT, hbs]
    refine SW_cond (decide ((q.length : Int) > 64)) (by rfl) (fun hc => SW_region ?_) (fun hc => SW_skip ?_)
    · simp only [zS, reduceIte, Nat.reduceLT, Int.reduceToNat, Int.reduceLE, Int.reduceEq, Int.reduceLT, Nat.reduceEqDiff, Nat.reduceAdd, zT]
      refine ⟨by kernel_rfl, _, rsum_at _ k hk, ?_⟩
      rintro _ M1 ⟨rfl, hM⟩
      rw [hM]
      clear hM
      have hgt : 64 < q.length := by have := of_decide_eq_true hc; omega
      have e : key = Sha.sum q := by rw [hkey, if_pos hgt]
      simp only [zS, reduceIte, Nat.reduceLT, Int.reduceToNat, Int.reduceLE, Int.reduceEq, Int.reduceLT, Nat.reduceEqDiff, Nat.reduceAdd, zT, new_bytes_str key (by omega), bsize_str, ← hq, ← e]
      refine ⟨_, rfl, Sl.block (by simp [bytesV]) (Mem.get_push_new _ _), ((Grows.refl m).push _).push _, fun g l c e => ?_⟩
      cases e; simp
    · simp only [zS, reduceIte, Nat.reduceLT, Int.reduceToNat, Int.reduceLE, Int.reduceEq, Int.reduceLT, Nat.reduceEqDiff, Nat.reduceAdd]
      have hle : ¬ 64 < q.length := by have := of_decide_eq_false hc; omega
      have e : key = q := by rw [hkey, if_neg hle]
      rw [e]
      refine ⟨_, rfl, Sl.block (by simp [bytesV]) (Mem.get_push_new _ _), (Grows.refl m).push _, fun g l c e => ?_⟩
      cases e; simp
  · rintro f M ⟨v, rfl, hv, hgr, hnew⟩
    refine SW_seq (SW_block (SW_loopK [1, 5] (fun n f M => ∃ (j : Nat) (v : Value), key.length + j + n = 64 ∧ f = [(1, .int .i64 (c.toNat : Int)), (5, v)] ∧ Sl M v (bytesV (key ++ List.replicate j 0)) ∧ Grows m M ∧ (∀ g l c, v = .slice (some ⟨g, 0, none⟩) l c → m.size ≤ g)) (64 - key.length) ?_ ?_))
    · simp only [zS, reduceIte, Nat.reduceLT, Int.reduceToNat, Int.reduceLE, Int.reduceEq, Int.reduceLT, Nat.reduceEqDiff, Nat.reduceAdd]
      exact ⟨0, _, by omega, rfl, by simpa using hv, hgr, hnew⟩
    · clear hv hgr hnew
      rintro n f M ⟨j, v, hj, rfl, hv, hgr, hnew⟩
      have hbl : (bytesV (key ++ List.replicate j 0)).length = key.length + j := by simp [bytesV]
      have hv0 := hv
      rcases hv with ⟨rfl, h0⟩ | ⟨g, hvg, hg⟩
      · have := congrArg List.length h0
        rw [hbl] at this
        have hj0 : key.length + j = 0 := by simpa using this
        refine SW_seq (SW_seq (SW_region ?_))
        simp only [zS, reduceIte, Nat.reduceLT, Int.reduceToNat, Int.reduceLE, Int.reduceEq, Int.reduceLT, Nat.reduceEqDiff, Nat.reduceAdd, zT]
        obtain ⟨s', m2, happ, hs', hgr', hnew'⟩ := hv0.app_u8 hgr hnew (byteV 0) (by rw [hbl]; omega)
        have e3 : bytesV (key ++ List.replicate j 0) ++ [byteV 0] = bytesV (key ++ List.replicate (j + 1) 0) := by simp [bytesV, List.replicate_succ']
        rw [e3] at hs'
        replace happ : aAppend Tryz.prog (M.push (.cells false 1 [.int .u8 0])) 74 74 (.slice none 0 0) (.slice (some ⟨M.size, 0, none⟩) 1 1) = some (s', m2) := happ
        refine SW_cond (decide (((0 : Nat) : Int) < 64)) (by rfl) (fun hc => SW_skip ?_) (fun hc => absurd hc (by decide))
        simp only [zS, reduceIte, Nat.reduceLT, Int.reduceToNat, Int.reduceLE, Int.reduceEq, Int.reduceLT, Nat.reduceEqDiff, Nat.reduceAdd]
        refine SW_block (SW_region ?_)
        simp only [zS, reduceIte, Nat.reduceLT, Int.reduceToNat, Int.reduceLE, Int.reduceEq, Int.reduceLT, Nat.reduceEqDiff, Nat.reduceAdd, zT, happ]
        exact ⟨n - 1, ⟨j + 1, s', by omega, rfl, hs', hgr', hnew'⟩, by omega⟩
      · rw [hbl] at hvg
        subst hvg
        refine SW_seq (SW_seq (SW_region ?_))
        simp only [zS, reduceIte, Nat.reduceLT, Int.reduceToNat, Int.reduceLE, Int.reduceEq, Int.reduceLT, Nat.reduceEqDiff, Nat.reduceAdd, zT]
        refine SW_cond (decide (((key.length + j : Nat) : Int) < 64)) (by rfl) (fun hc => SW_skip ?_) (fun hc => SW_exit ?_)
        · simp only [zS, reduceIte, Nat.reduceLT, Int.reduceToNat, Int.reduceLE, Int.reduceEq, Int.reduceLT, Nat.reduceEqDiff, Nat.reduceAdd]
          have hlt := of_decide_eq_true hc
          obtain ⟨s', m2, happ, hs', hgr', hnew'⟩ := hv0.app_u8 hgr hnew (byteV 0) (by rw [hbl]; omega)
          have e3 : bytesV (key ++ List.replicate j 0) ++ [byteV 0] = bytesV (key ++ List.replicate (j + 1) 0) := by simp [bytesV, List.replicate_succ']
          rw [e3] at hs'
          replace happ : aAppend Tryz.prog (M.push (.cells false 1 [.int .u8 0])) 74 74 (.slice (some ⟨g, 0, none⟩) (key.length + j) (key.length + j)) (.slice (some ⟨M.size, 0, none⟩) 1 1) = some (s', m2) := happ
          refine SW_block (SW_region ?_)
          simp only [zS, reduceIte, Nat.reduceLT, Int.reduceToNat, Int.reduceLE, Int.reduceEq, Int.reduceLT, Nat.reduceEqDiff, Nat.reduceAdd, zT, happ]
          exact ⟨n - 1, ⟨j + 1, s', by omega, rfl, hs', hgr', hnew'⟩, by omega⟩
        · simp only [zS, reduceIte, Nat.reduceLT, Int.reduceToNat, Int.reduceLE, Int.reduceEq, Int.reduceLT, Nat.reduceEqDiff, Nat.reduceAdd]
          have hje : j = 64 - key.length := by have := of_decide_eq_false hc; omega
          obtain ⟨p, hp⟩ : ∃ p, p = key ++ List.replicate j 0 := ⟨_, rfl⟩
          have hpl : p.length = 64 := by rw [hp, List.length_append, List.length_replicate]; omega
          rw [← hp] at hg
          rw [← hje, ← hp, show key.length + j = 64 by omega]
          refine SW_seq (SW_seq (SW_region ?_))
          simp only [zS, reduceIte, Nat.reduceLT, Int.reduceToNat, Int.reduceLE, Int.reduceEq, Int.reduceLT, Nat.reduceEqDiff, Nat.reduceAdd]
          refine SW_block (SW_loopK [1, 5, 6] (fun n f M => ∃ t : Nat, t + n = 64 ∧ f = [(1, .int .i64 (c.toNat : Int)), (5, .slice (some ⟨g, 0, none⟩) 64 64), (6, .int .i64 (t : Int))] ∧ M.get g = some (.cells false 1 (bytesV ((p.map (· ^^^ c)).take t ++ p.drop t)))) 64 ?_ ?_)
          · simp only [zS, reduceIte, Nat.reduceLT, Int.reduceToNat, Int.reduceLE, Int.reduceEq, Int.reduceLT, Nat.reduceEqDiff, Nat.reduceAdd]
            exact ⟨0, rfl, rfl, by simpa using hg⟩
          · clear hg hv0 hgr hnew
            rintro n f M ⟨t, ht, rfl, hg⟩
            refine SW_seq (SW_seq (SW_region ?_))
            simp only [zS, reduceIte, Nat.reduceLT, Int.reduceToNat, Int.reduceLE, Int.reduceEq, Int.reduceLT, Nat.reduceEqDiff, Nat.reduceAdd, zT]
            refine SW_cond (decide ((t : Int) < 64)) (by rfl) (fun hc => SW_skip ?_) (fun hc => SW_exit ?_)
            · simp only [zS, reduceIte, Nat.reduceLT, Int.reduceToNat, Int.reduceLE, Int.reduceEq, Int.reduceLT, Nat.reduceEqDiff, Nat.reduceAdd]
              have ht64 : t < 64 := by have := of_decide_eq_true hc; omega
              have xi : IntKind.i64.wrap ((t : Int) + 1) = ((t + 1 : Nat) : Int) := by rw [wr (by omega) (by omega)]; omega
              obtain ⟨b, hb⟩ : ∃ b, p[t]? = some b := ⟨p[t]'(by omega), List.getElem?_eq_getElem (by omega)⟩
              have hbl := UInt8.toNat_lt b
              have hrd : (bytesV ((p.map (· ^^^ c)).take t ++ p.drop t))[t]? = some (.int .u8 (b.toNat : Int)) := by
                rw [bytesV, List.getElem?_map, List.getElem?_append_right (by simp; omega), List.getElem?_drop, show t + (t - ((p.map (· ^^^ c)).take t).length) = t by simp; omega, hb]
                rfl
              have xb : IntKind.i64.wrap (b.toNat : Int) = (b.toNat : Int) := wr (by omega) (by omega)
              have hstore := store_u8 hg (i := t) (by simp [bytesV]; omega) (bits .xor .i64 (b.toNat : Int) (c.toNat : Int) % 256)
              have hset : (bytesV ((p.map (· ^^^ c)).take t ++ p.drop t)).set t (.int .u8 (bits .xor .i64 (b.toNat : Int) (c.toNat : Int) % 256)) = bytesV ((p.map (· ^^^ c)).take (t + 1) ++ p.drop (t + 1)) := by
                rw [xor_byte]
                unfold bytesV
                rw [← List.map_set, List.set_append_right _ _ (by simp; omega), show t - ((p.map (· ^^^ c)).take t).length = 0 by simp; omega, List.take_add_one, List.getElem?_map, hb]
                have : p.drop t = b :: p.drop (t + 1) := by
                  have h1 := List.drop_eq_getElem_cons (l := p) (i := t) (by omega)
                  rw [h1]
                  have h2 := List.getElem?_eq_getElem (l := p) (i := t) (by omega)
                  rw [hb] at h2
                  rw [Option.some.inj h2]
                rw [this]
                simp
              rw [hset] at hstore
              refine SW_seq (SW_block (SW_region ?_))
              simp only [zS, reduceIte, Nat.reduceLT, Int.reduceToNat, Int.reduceLE, Int.reduceEq, Int.reduceLT, Nat.reduceEqDiff, Nat.reduceAdd, zT, hg, hrd, xb, wrap_u8, Int.toNat_natCast, hstore]
              refine ⟨by omega, by omega, ?_⟩
              refine SW_region ?_
              simp only [zS, reduceIte, Nat.reduceLT, Int.reduceToNat, Int.reduceLE, Int.reduceEq, Int.reduceLT, Nat.reduceEqDiff, Nat.reduceAdd, xi]
              exact ⟨n - 1, ⟨t + 1, by omega, rfl, Mem.get_set_same hg _⟩, by omega⟩
            · simp only [zS, reduceIte, Nat.reduceLT, Int.reduceToNat, Int.reduceLE, Int.reduceEq, Int.reduceLT, Nat.reduceEqDiff, Nat.reduceAdd]
              have ht64 : t = 64 := by have := of_decide_eq_false hc; omega
              subst ht64
              have e : (p.map (· ^^^ c)).take 64 ++ p.drop 64 = p.map (· ^^^ c) := by
                rw [List.take_of_length_le (by simp; omega), List.drop_of_length_le (by omega), List.append_nil]
              rw [e] at hg
              refine SW_seq (SW_region ?_)
              simp only [zS, reduceIte, Nat.reduceLT, Int.reduceToNat, Int.reduceLE, Int.reduceEq, Int.reduceLT, Nat.reduceEqDiff, Nat.reduceAdd, zT, to_str (n := 64) hg (by simp; omega)]
              refine SW_ret ?_
              simp only [zS, reduceIte, Nat.reduceLT, Int.reduceToNat, Int.reduceLE, Int.reduceEq, Int.reduceLT, Nat.reduceEqDiff, Nat.reduceAdd, sAnswer, sAnswer.sRes]
theorem rturned_at (M : Mem) (k : ByteArray) (c : UInt8) (hk : k.size ≤ 140737488355200) : Abs.Spec Tryz.prog 247 [.string k, .int .i64 (c.toNat : Int)] M fun u M' => u = .string (str (Sha.pad k.data.toList c)) ∧ M' = M :=
  Abs.Spec.of_empty (by intro x hx; simp at hx; rcases hx with rfl | rfl <;> rfl) rfl (rturned_spec ⟨[]⟩ k c hk) M
theorem str_small (l : List UInt8) (h : l.length ≤ 140737488355200) : (str l).size ≤ 140737488355200 := by rw [str_size]; exact h
theorem pad_len (k : List UInt8) (c : UInt8) : (Sha.pad k c).length = 64 := by rw [Sha.pad, List.length_map, Sha.key64_length]
theorem tag_len (k m : List UInt8) : (Sha.tag k m).length = 32 := by rw [Sha.tag, Sha.sum_length]
set_option maxRecDepth 100000 in
theorem rtag_spec (m : Mem) (k s : ByteArray) (hk : k.size ≤ 140737488355000) (hs : s.size ≤ 140737488355000) :
    Abs.Spec Tryz.prog 202 [.string k, .string s] m fun v _ => v = .string (str (Sha.tag k.data.toList s.data.toList)) := by
  have hsl : s.data.toList.length = s.size := by rw [Array.length_toList]; rfl
  have p1 := pad_len k.data.toList 0x5c
  have p2 := pad_len k.data.toList 0x36
  have p3 := Sha.sum_length (Sha.pad k.data.toList 0x36 ++ s.data.toList)
  refine Abs.Spec.walk Tryz.func202 (by rfl) _ Tryz.results202 _ Tryz.ntmps202 (by simp) ?_
  refine SW_seq (SW_region ?_)
  simp only [zS, reduceIte, Nat.reduceLT, Int.reduceToNat, Int.reduceLE, Int.reduceEq, Int.reduceLT, Nat.reduceEqDiff, Nat.reduceAdd]
  refine SW_seq (SW_region ?_)
  simp only [zS, reduceIte, Nat.reduceLT, Int.reduceToNat, Int.reduceLE, Int.reduceEq, Int.reduceLT, Nat.reduceEqDiff, Nat.reduceAdd]
  refine ⟨by kernel_rfl, _, rturned_at _ k 0x5c (by omega), ?_⟩
  rintro _ M1 ⟨rfl, _⟩
  simp only [zS, reduceIte, Nat.reduceLT, Int.reduceToNat, Int.reduceLE, Int.reduceEq, Int.reduceLT, Nat.reduceEqDiff, Nat.reduceAdd]
  refine ⟨by kernel_rfl, _, rturned_at _ k 0x36 (by omega), ?_⟩
  rintro _ M2 ⟨rfl, _⟩
  have hbs : bsize s = s.data.toList.length := rfl
  simp only [zS, reduceIte, Nat.reduceLT, Int.reduceToNat, Int.reduceLE, Int.reduceEq, Int.reduceLT, Nat.reduceEqDiff, Nat.reduceAdd, bsize_str, bcat_str, hbs, p2]
  refine ⟨by omega, by kernel_rfl, _, rsum_at _ _ (str_small _ (by rw [List.length_append]; omega)), ?_⟩
  rintro _ M3 ⟨rfl, _⟩
  simp only [zS, reduceIte, Nat.reduceLT, Int.reduceToNat, Int.reduceLE, Int.reduceEq, Int.reduceLT, Nat.reduceEqDiff, Nat.reduceAdd, bsize_str, bcat_str, str_list, p1, p3]
  refine ⟨by omega, by kernel_rfl, _, rsum_at _ _ (str_small _ (by rw [List.length_append]; omega)), ?_⟩
  rintro _ M4 ⟨rfl, _⟩
  simp only [zS, reduceIte, Nat.reduceLT, Int.reduceToNat, Int.reduceLE, Int.reduceEq, Int.reduceLT, Nat.reduceEqDiff, Nat.reduceAdd]
  refine SW_ret ?_
  simp only [zS, reduceIte, Nat.reduceLT, Int.reduceToNat, Int.reduceLE, Int.reduceEq, Int.reduceLT, Nat.reduceEqDiff, Nat.reduceAdd, sAnswer, sAnswer.sRes, str_list]
  rfl
theorem rtag_at (M : Mem) (k s : ByteArray) (hk : k.size ≤ 140737488355000) (hs : s.size ≤ 140737488355000) :
    Abs.Spec Tryz.prog 202 [.string k, .string s] M fun v M' => v = .string (str (Sha.tag k.data.toList s.data.toList)) ∧ M' = M :=
  Abs.Spec.of_empty (by intro x hx; simp at hx; rcases hx with rfl | rfl <;> rfl) rfl (rtag_spec ⟨[]⟩ k s hk hs) M
end Go.Proofs.YtkkleedpakcfgaaGreatDoor
namespace Go.Proofs.YtkkleedpakcfgaaGreatDoor
open Go.RowKit Abs
set_option maxRecDepth 100000 in
set_option maxHeartbeats 2000000 in
theorem rwidth32 (m : Mem) : Abs.Spec Tryz.prog 279 [.int .i64 32] m fun u M => u = .int .i64 32 ∧ M = m := by
  refine WM Tryz.func279 Tryz.results279 Tryz.ntmps279 fun _ => ?_
  have q1 : decide ((32 : Int) < 1) = false := rfl
  have q2 : decide ((32 : Int) > 32) = false := rfl
  refine CW_seq (R0 ?_)
  refine CW_seq (CW_seq (R1 @q1 ?_))
  refine CF (CW_skip ?_)
  refine S0 ?_
  refine CW_seq (CW_seq (R1 @q2 ?_))
  refine CF (CW_skip ?_)
  refine S0 ?_
  refine CW_seq (R0 ?_)
  refine T0 ?_
  exact ⟨_, Thin.refl _, rfl⟩
set_option maxRecDepth 100000 in
set_option maxHeartbeats 2000000 in
theorem rsum15_at (s : List UInt8) (hs : s.length ≤ 10000000) (m : Mem) : Abs.Spec Tryz.prog 261 [.int .i64 32, .string (str s)] m fun u M => u = .string (str (Sha.sum s)) ∧ M = m := by
  refine Abs.Spec.of_empty (by intro x hx; simp at hx; rcases hx with rfl | rfl <;> rfl) rfl ?_ m
  have sl : ∀ get, gSlice Tryz.prog get 9 (.string (str (Sha.sum s))) none (some (.int .i64 32)) = some (.string (str (Sha.sum s))) := fun get => by
    have := slice_to get (str (Sha.sum s)) 32 (by rw [str_size, Sha.sum_length]; decide)
    rw [show (str (Sha.sum s)).data.toList = Sha.sum s from rfl, List.take_of_length_le (by rw [Sha.sum_length]; decide)] at this
    exact this
  refine WM Tryz.func261 Tryz.results261 Tryz.ntmps261 fun _ => ?_
  refine CW_seq (R0 ?_)
  refine CW_seq (R0 ?_)
  refine ⟨by kernel_rfl, _, rsum_at _ (str s) (by rw [str_size]; omega), ?_⟩
  rintro _ M9 ⟨rfl, e9⟩; replace e9 := e9.symm; subst e9
  have e1 : (str s).data.toList = s := rfl
  rw [e1]
  refine S0 ?_
  refine K1 @sl (rwidth32 _) ?_
  refine T0 ?_
  first | exact ⟨_, Thin.refl _, rfl⟩ | exact ⟨_, Thin.refl _⟩ | exact ⟨_, Thin.refl _, rfl, rfl⟩
set_option maxRecDepth 100000 in
set_option maxHeartbeats 2000000 in
theorem rleaf_at (s : List UInt8) (hs : s.length ≤ 1000000) (m : Mem) : Abs.Spec Tryz.prog 234 [.int .i64 32, .string (str s)] m fun u M => u = .string (str (leafV s)) ∧ M = m := by
  refine Abs.Spec.of_empty (by intro x hx; simp at hx; rcases hx with rfl | rfl <;> rfl) rfl ?_ m
  refine WM Tryz.func234 Tryz.results234 Tryz.ntmps234 fun _ => ?_
  have e0 : (⟨#[0]⟩ : ByteArray) = str [0] := rfl
  refine CW_seq (R0 ?_)
  refine CW_seq (R3 @e0 @cat_str @siz_str ?_)
  refine ⟨by first | omega | (simp <;> omega), ?_⟩
  refine K0 (rsum15_at ([0] ++ s) (by simp only [List.length_append, List.length_cons, List.length_nil]; omega) _) ?_
  refine T0 ?_
  first | exact ⟨_, Thin.refl _, rfl⟩ | exact ⟨_, Thin.refl _⟩
end Go.Proofs.YtkkleedpakcfgaaGreatDoor
namespace Go.Proofs.YtkkleedpakcfgaaGreatDoor
open Go.RowKit Abs
set_option maxRecDepth 100000 in
theorem rexpand_spec (m : Mem) (k s : ByteArray) (hk : k.size ≤ 140737488355000) (hs : s.size ≤ 1000) :
    Abs.Spec Tryz.prog 203 [.string k, .string s, .int .i64 32] m fun v _ => v = .tuple #[.string (str (Sha.expand k.data.toList s.data.toList 32)), .int .i64 0] := by
  obtain ⟨T, hT⟩ : ∃ T, T = Sha.tag k.data.toList (s.data.toList ++ [1]) := ⟨_, rfl⟩
  have hTl : T.length = 32 := by rw [hT, tag_len]
  have hexp : Sha.expand k.data.toList s.data.toList 32 = T := by
    have : Sha.expand k.data.toList s.data.toList 32 = T.take 32 := by rw [hT]; rfl
    rw [this, List.take_of_length_le (by omega)]
  have hsl : s.data.toList.length = s.size := by rw [Array.length_toList]; rfl
  rw [hexp]
  refine Abs.Spec.walk Tryz.func203 (by rfl) _ Tryz.results203 _ Tryz.ntmps203 (by simp) ?_
  refine SW_seq (SW_region ?_)
  simp only [zS, reduceIte, Nat.reduceLT, Int.reduceToNat, Int.reduceLE, Int.reduceEq, Int.reduceLT, Nat.reduceEqDiff, Nat.reduceAdd]
  refine SW_seq (SW_seq (SW_region ?_))
  simp only [zS, reduceIte, Nat.reduceLT, Int.reduceToNat, Int.reduceLE, Int.reduceEq, Int.reduceLT, Nat.reduceEqDiff, Nat.reduceAdd, zT, Region.wanted, vPick, List.getElem?_cons_succ, List.getElem?_cons_zero, Int.reduceLT, Int.reduceGT, decide_false, decide_true, beq_self_eq_true]
  refine SW_cond false (by rfl) (fun h => by cases h) (fun _ => SW_skip ?_)
  simp only [zS, reduceIte, Nat.reduceLT, Int.reduceToNat, Int.reduceLE, Int.reduceEq, Int.reduceLT, Nat.reduceEqDiff, Nat.reduceAdd]
  refine SW_seq (SW_region ?_)
  simp only [zS, reduceIte, Nat.reduceLT, Int.reduceToNat, Int.reduceLE, Int.reduceEq, Int.reduceLT, Nat.reduceEqDiff, Nat.reduceAdd]
  refine SW_seq (SW_region ?_)
  simp only [zS, reduceIte, Nat.reduceLT, Int.reduceToNat, Int.reduceLE, Int.reduceEq, Int.reduceLT, Nat.reduceEqDiff, Nat.reduceAdd]
  refine SW_seq (SW_seq (SW_region ?_))
  simp only [zS, reduceIte, Nat.reduceLT, Int.reduceToNat, Int.reduceLE, Int.reduceEq, Int.reduceLT, Nat.reduceEqDiff, Nat.reduceAdd]
  refine SW_block (SW_loopK [0, 1, 2, 8, 9, 10] (fun n f M => (n = 1 ∧ f = [(0, .string k), (1, .string s), (2, .int .i64 32), (8, .string (str [])), (9, .string (str [])), (10, .int .i64 1)]) ∨ (n = 0 ∧ ∃ v9 v10, f = [(0, .string k), (1, .string s), (2, .int .i64 32), (8, .string (str T)), (9, v9), (10, v10)])) 1 ?_ ?_)
  · simp only [zS, reduceIte, Nat.reduceLT, Int.reduceToNat, Int.reduceLE, Int.reduceEq, Int.reduceLT, Nat.reduceEqDiff, Nat.reduceAdd]
    exact .inl rfl
  · rintro n f M (⟨rfl, rfl⟩ | ⟨rfl, v9, v10, rfl⟩)
    · refine SW_seq (SW_seq (SW_region ?_))
      simp only [zS, reduceIte, Nat.reduceLT, Int.reduceToNat, Int.reduceLE, Int.reduceEq, Int.reduceLT, Nat.reduceEqDiff, Nat.reduceAdd, zT, bsize_str, List.length_nil]
      refine SW_cond true (by rfl) (fun h => SW_skip ?_) (fun h => by cases h)
      simp only [zS, reduceIte, Nat.reduceLT, Int.reduceToNat, Int.reduceLE, Int.reduceEq, Int.reduceLT, Nat.reduceEqDiff, Nat.reduceAdd]
      have hbs : bsize s = s.data.toList.length := rfl
      have hw1 : IntKind.u8.wrap 1 = 1 := rfl
      have hgb : ∀ M : Mem, (M.push (.cells false 1 [.int .u8 1])).get M.size = some (.cells false 1 (bytesV [1])) := fun M => Mem.get_push_new _ _
      refine SW_seq (SW_block (SW_seq (SW_region ?_)))
      simp only [zS, reduceIte, Nat.reduceLT, Int.reduceToNat, Int.reduceLE, Int.reduceEq, Int.reduceLT, Nat.reduceEqDiff, Nat.reduceAdd, zT, bsize_str, bcat_str, hbs, hw1, str_list, List.length_nil, List.length_append, List.length_cons, to_str (n := 1) (l := [1]) (hgb _) rfl]
      refine ⟨by omega, by omega, by kernel_rfl, _, rtag_at _ _ _ hk (by rw [str_size, List.length_append]; simp; omega), ?_⟩
      rintro _ M1 ⟨rfl, _⟩
      simp only [str_list]
      rw [← hT]
      have xi : IntKind.i64.wrap (1 + 1) = 2 := rfl
      simp only [zS, reduceIte, Nat.reduceLT, Int.reduceToNat, Int.reduceLE, Int.reduceEq, Int.reduceLT, Nat.reduceEqDiff, Nat.reduceAdd]
      refine SW_region ?_
      simp only [zS, reduceIte, Nat.reduceLT, Int.reduceToNat, Int.reduceLE, Int.reduceEq, Int.reduceLT, Nat.reduceEqDiff, Nat.reduceAdd, zT, bsize_str, bcat_str, str_list, List.length_nil, hTl]
      refine ⟨by omega, ?_⟩
      refine SW_region ?_
      simp only [zS, reduceIte, Nat.reduceLT, Int.reduceToNat, Int.reduceLE, Int.reduceEq, Int.reduceLT, Nat.reduceEqDiff, Nat.reduceAdd, xi]
      exact ⟨0, .inr ⟨rfl, _, _, rfl⟩, by omega⟩
    · refine SW_seq (SW_seq (SW_region ?_))
      simp only [zS, reduceIte, Nat.reduceLT, Int.reduceToNat, Int.reduceLE, Int.reduceEq, Int.reduceLT, Nat.reduceEqDiff, Nat.reduceAdd, zT, bsize_str, hTl]
      refine SW_cond false (by rfl) (fun h => by cases h) (fun h => SW_exit ?_)
      simp only [zS, reduceIte, Nat.reduceLT, Int.reduceToNat, Int.reduceLE, Int.reduceEq, Int.reduceLT, Nat.reduceEqDiff, Nat.reduceAdd]
      refine SW_seq (SW_region ?_)
      have hb : bsub (str T) 0 32 = str T := by
        show (⟨⟨(T.drop 0).take 32⟩⟩ : ByteArray) = ⟨⟨T⟩⟩
        rw [List.drop_zero, List.take_of_length_le (by omega)]
      simp only [zS, reduceIte, Nat.reduceLT, Int.reduceToNat, Int.reduceLE, Int.reduceEq, Int.reduceLT, Nat.reduceEqDiff, Nat.reduceAdd, zT, slice_str (str T) 32 (by decide) (by rw [bsize_str, hTl]; decide), hb]
      refine SW_ret ?_
      simp only [zS, reduceIte, Nat.reduceLT, Int.reduceToNat, Int.reduceLE, Int.reduceEq, Int.reduceLT, Nat.reduceEqDiff, Nat.reduceAdd, sAnswer, sAnswer.sRes]
theorem rexpand_at (M : Mem) (k s : ByteArray) (hk : k.size ≤ 140737488355000) (hs : s.size ≤ 1000) :
    Abs.Spec Tryz.prog 203 [.string k, .string s, .int .i64 32] M fun v M' => v = .tuple #[.string (str (Sha.expand k.data.toList s.data.toList 32)), .int .i64 0] ∧ M' = M :=
  Abs.Spec.of_empty (by intro x hx; simp at hx; rcases hx with rfl | rfl | rfl <;> rfl) rfl (rexpand_spec ⟨[]⟩ k s hk hs) M
theorem new_keys : nAlloc Tryz.prog 54 = some (.cells false 1 [.string ⟨#[]⟩, .string ⟨#[]⟩, .string ⟨#[]⟩]) := by kernel_rfl
theorem build_keys (a b c : ByteArray) : aBuild Tryz.prog 54 [(0, .string a), (1, .string b), (2, .string c)] = some (.agg #[.string a, .string b, .string c]) := by kernel_rfl
theorem inf_keys : Tryz.prog.info? 54 = some Tryz.t54 := by kernel_rfl
theorem keys_size : Tryz.t54.size = 3 := rfl
set_option maxRecDepth 100000 in
theorem rkeys_spec (m : Mem) (secret salt : ByteArray) (h1 : secret.size ≤ 140737488355000) (h2 : salt.size ≤ 140737488355000) :
    Abs.Spec Tryz.prog 135 [.string secret, .string salt] m fun v _ => v = keysV secret.data.toList salt.data.toList := by
  have ht : ∀ a b, (str (Sha.tag a b)).size ≤ 140737488355000 := fun a b => by rw [str_size, Sha.tag_length]; decide
  refine Abs.Spec.walk Tryz.func135 (by rfl) _ Tryz.results135 _ Tryz.ntmps135 (by simp) ?_
  refine SW_seq (SW_region ?_)
  simp only [zS, reduceIte, Nat.reduceLT, Int.reduceToNat, Int.reduceLE, Int.reduceEq, Int.reduceLT, Nat.reduceEqDiff, Nat.reduceAdd, new_keys]
  refine SW_seq (SW_region ?_)
  simp only [zS, reduceIte, Nat.reduceLT, Int.reduceToNat, Int.reduceLE, Int.reduceEq, Int.reduceLT, Nat.reduceEqDiff, Nat.reduceAdd]
  refine ⟨by kernel_rfl, _, rtag_at _ _ _ h2 h1, ?_⟩
  rintro _ M1 ⟨rfl, hM1⟩
  simp only [zS, reduceIte, Nat.reduceLT, Int.reduceToNat, Int.reduceLE, Int.reduceEq, Int.reduceLT, Nat.reduceEqDiff, Nat.reduceAdd]
  refine SW_seq (SW_region ?_)
  simp only [zS, reduceIte, Nat.reduceLT, Int.reduceToNat, Int.reduceLE, Int.reduceEq, Int.reduceLT, Nat.reduceEqDiff, Nat.reduceAdd]
  refine ⟨by kernel_rfl, _, rexpand_at _ _ _ (ht _ _) (by decide), ?_⟩
  rintro _ M2 ⟨rfl, hM2⟩
  simp only [zS, reduceIte, Nat.reduceLT, Int.reduceToNat, Int.reduceLE, Int.reduceEq, Int.reduceLT, Nat.reduceEqDiff, Nat.reduceAdd, List.getElem?_cons_succ, List.getElem?_cons_zero]
  refine SW_seq (SW_region ?_)
  simp only [zS, reduceIte, Nat.reduceLT, Int.reduceToNat, Int.reduceLE, Int.reduceEq, Int.reduceLT, Nat.reduceEqDiff, Nat.reduceAdd]
  refine ⟨by kernel_rfl, _, rexpand_at _ _ _ (ht _ _) (by decide), ?_⟩
  rintro _ M3 ⟨rfl, hM3⟩
  simp only [zS, reduceIte, Nat.reduceLT, Int.reduceToNat, Int.reduceLE, Int.reduceEq, Int.reduceLT, Nat.reduceEqDiff, Nat.reduceAdd, List.getElem?_cons_succ, List.getElem?_cons_zero]
  refine SW_seq (SW_region ?_)
  simp only [zS, reduceIte, Nat.reduceLT, Int.reduceToNat, Int.reduceLE, Int.reduceEq, Int.reduceLT, Nat.reduceEqDiff, Nat.reduceAdd]
  refine ⟨by kernel_rfl, _, rtag_at _ _ _ (by decide) h1, ?_⟩
  rintro _ M4 ⟨rfl, hM4⟩
  simp only [zS, reduceIte, Nat.reduceLT, Int.reduceToNat, Int.reduceLE, Int.reduceEq, Int.reduceLT, Nat.reduceEqDiff, Nat.reduceAdd]
  refine ⟨by kernel_rfl, _, rexpand_at _ _ _ (ht _ _) (by decide), ?_⟩
  rintro _ M5 ⟨rfl, hM5⟩
  simp only [zS, reduceIte, Nat.reduceLT, Int.reduceToNat, Int.reduceLE, Int.reduceEq, Int.reduceLT, Nat.reduceEqDiff, Nat.reduceAdd, List.getElem?_cons_succ, List.getElem?_cons_zero]
  have hM : M5 = m.push (.cells false 1 [.string ⟨#[]⟩, .string ⟨#[]⟩, .string ⟨#[]⟩]) := by rw [hM5, hM4, hM3, hM2, hM1]
  have hg : M5.get m.size = some (.cells false 1 [.string ⟨#[]⟩, .string ⟨#[]⟩, .string ⟨#[]⟩]) := by rw [hM, Mem.get_push_new]
  have hst : ∀ a b c : ByteArray, aStore Tryz.prog M5 54 (.pointer (some ⟨m.size, 0, none⟩)) (.agg #[.string a, .string b, .string c]) = some (M5.set m.size (some (.cells false 1 [.string a, .string b, .string c]))) := fun a b c => by
    unfold aStore
    simp only [hg, inf_keys, keys_size]
    rfl
  have hld : ∀ a b c : ByteArray, aLoad Tryz.prog (M5.set m.size (some (.cells false 1 [.string a, .string b, .string c]))) 54 (.pointer (some ⟨m.size, 0, none⟩)) = some (.agg #[.string a, .string b, .string c]) := fun a b c => by
    unfold aLoad
    simp only [Mem.get_set_same hg, inf_keys, keys_size, Tryz.underlying54]
    rfl
  refine SW_seq (SW_region ?_)
  simp only [zS, reduceIte, Nat.reduceLT, Int.reduceToNat, Int.reduceLE, Int.reduceEq, Int.reduceLT, Nat.reduceEqDiff, Nat.reduceAdd, vBuild, build_keys, hst]
  refine SW_ret ?_
  simp only [zS, reduceIte, Nat.reduceLT, Int.reduceToNat, Int.reduceLE, Int.reduceEq, Int.reduceLT, Nat.reduceEqDiff, Nat.reduceAdd, sAnswer, sAnswer.sRes, hld]
  rfl
end Go.Proofs.YtkkleedpakcfgaaGreatDoor
namespace Go.Proofs.YtkkleedpakcfgaaGreatDoor
open Go.RowKit Abs
def Cha.rotl (x n : Nat) : Nat := (x * 2 ^ n ||| x / 2 ^ (32 - n)) % 4294967296
def Cha.add (x y : Nat) : Nat := (x + y) % 4294967296
def Cha.quarter (a b c d : Nat) : Nat × Nat × Nat × Nat :=
  let a1 := Cha.add a b
  let d1 := Cha.rotl (d ^^^ a1) 16
  let c1 := Cha.add c d1
  let b1 := Cha.rotl (b ^^^ c1) 12
  let a2 := Cha.add a1 b1
  let d2 := Cha.rotl (d1 ^^^ a2) 8
  let c2 := Cha.add c1 d2
  let b2 := Cha.rotl (b1 ^^^ c2) 7
  (a2, b2, c2, d2)
theorem Cha.rotl_lt (x n : Nat) : Cha.rotl x n < 4294967296 := Nat.mod_lt _ (by decide)
theorem Cha.add_lt (x n : Nat) : Cha.add x n < 4294967296 := Nat.mod_lt _ (by decide)
set_option maxRecDepth 100000 in
theorem rotl_spec (m : Mem) (x n : Nat) (h1 : 1 ≤ n) (h2 : n ≤ 16) (hx : x < 4294967296) :
    Abs.Spec Tryz.prog 282 [.int .i64 (x : Int), .int .i64 (n : Int)] m fun v _ => v = .int .i64 (Cha.rotl x n : Nat) := by
  have hb : x * 2 ^ n < 281474976710656 := Nat.lt_of_lt_of_le (Nat.mul_lt_mul_of_pos_right hx (Nat.pow_pos (by decide))) (by
    have : 2 ^ n ≤ 2 ^ 16 := Nat.pow_le_pow_right (by decide) h2
    omega)
  have hd : x / 2 ^ (32 - n) ≤ x := Nat.div_le_self _ _
  have e1 : IntKind.i64.wrap ((x : Int) * 2 ^ min (n : Int).toNat IntKind.i64.bits) = ((x * 2 ^ n : Nat) : Int) := by
    rw [bits_i64, Int.toNat_natCast, show min n 64 = n by omega]
    have : (x : Int) * 2 ^ n = ((x * 2 ^ n : Nat) : Int) := by push_cast; rfl
    rw [this, wr (by omega) (by omega)]
  have e2 : IntKind.i64.wrap (32 - (n : Int)) = ((32 - n : Nat) : Int) := by rw [wr (by omega) (by omega)]; omega
  have e3 : (x : Int).fdiv (2 ^ min ((32 - n : Nat) : Int).toNat IntKind.i64.bits) = ((x / 2 ^ (32 - n) : Nat) : Int) := by
    rw [bits_i64, Int.toNat_natCast, show min (32 - n) 64 = 32 - n by omega, Int.fdiv_eq_ediv_of_nonneg _ (Int.le_of_lt (Int.pow_pos (by decide)))]
    push_cast; rfl
  have hor : x * 2 ^ n ||| x / 2 ^ (32 - n) < 2 ^ 48 := Nat.or_lt_two_pow hb (by omega)
  have e4 : bits .and .i64 (bits .or .i64 ((x * 2 ^ n : Nat) : Int) ((x / 2 ^ (32 - n) : Nat) : Int)) 4294967295 = (Cha.rotl x n : Nat) := by
    rw [i64_or_nat _ _ (by omega) (by omega), i64_word _ (by omega)]; rfl
  refine Abs.Spec.walk Tryz.func282 (by rfl) _ Tryz.results282 _ Tryz.ntmps282 (by simp) ?_
  refine SW_seq (SW_region ?_)
  simp only [zS, reduceIte, Nat.reduceLT, Int.reduceToNat, Int.reduceLE, Int.reduceEq, Int.reduceLT, Nat.reduceEqDiff, Nat.reduceAdd]
  refine SW_seq (SW_draw hmix 7 (by kernel_rfl) (by kernel_rfl) ?_)
  simp only [zS, reduceIte, Nat.reduceLT, Int.reduceToNat, Int.reduceLE, Int.reduceEq, Int.reduceLT, Nat.reduceEqDiff, Nat.reduceAdd, e1, e2, e3, e4]
  refine ⟨by omega, by omega, ?_⟩
  refine SW_ret ?_
  simp only [zS, reduceIte, Nat.reduceLT, Int.reduceToNat, Int.reduceLE, Int.reduceEq, Int.reduceLT, Nat.reduceEqDiff, Nat.reduceAdd, sAnswer, sAnswer.sRes]
theorem rotl_at (M : Mem) (x n : Nat) (h1 : 1 ≤ n) (h2 : n ≤ 16) (hx : x < 4294967296) :
    Abs.Spec Tryz.prog 282 [.int .i64 (x : Int), .int .i64 (n : Int)] M fun v M' => v = .int .i64 (Cha.rotl x n : Nat) ∧ M' = M :=
  Abs.Spec.of_empty (by intro x hx; simp at hx; rcases hx with rfl | rfl <;> rfl) rfl (rotl_spec ⟨[]⟩ x n h1 h2 hx) M
theorem x32 (a b : Nat) (ha : a < 4294967296) (hb : b < 4294967296) : bits .xor .i64 (a : Int) (b : Int) = ((a ^^^ b : Nat) : Int) := i64_xor_nat _ _ (by omega) (by omega)
theorem a32 (a b : Nat) (ha : a < 4294967296) (hb : b < 4294967296) : bits .and .i64 (IntKind.i64.wrap ((a : Int) + (b : Int))) 4294967295 = (Cha.add a b : Nat) := sum_i64 a b ha hb
set_option maxRecDepth 100000 in
theorem quarter_spec (m : Mem) (a b c d : Nat) (ha : a < 4294967296) (hb : b < 4294967296) (hc : c < 4294967296) (hd : d < 4294967296) :
    Abs.Spec Tryz.prog 278 [.int .i64 (a : Int), .int .i64 (b : Int), .int .i64 (c : Int), .int .i64 (d : Int)] m fun v _ => v = .tuple #[.int .i64 ((Cha.quarter a b c d).1 : Nat), .int .i64 ((Cha.quarter a b c d).2.1 : Nat), .int .i64 ((Cha.quarter a b c d).2.2.1 : Nat), .int .i64 ((Cha.quarter a b c d).2.2.2 : Nat)] := by
  have mk : ∀ x : Nat, x < 4294967296 → bits .and .i64 (x : Int) 4294967295 = (x : Int) := fun x hx => by rw [i64_word _ (by omega)]; omega
  have A := Cha.add_lt
  have T := Cha.rotl_lt
  have X : ∀ x y : Nat, x < 4294967296 → y < 4294967296 → x ^^^ y < 4294967296 := fun x y h1 h2 => Nat.xor_lt_two_pow (n := 32) h1 h2
  refine Abs.Spec.walk Tryz.func278 (by rfl) _ Tryz.results278 _ Tryz.ntmps278 (by simp) ?_
  refine SW_seq (SW_region ?_)
  simp only [zS, reduceIte, Nat.reduceLT, Int.reduceToNat, Int.reduceLE, Int.reduceEq, Int.reduceLT, Nat.reduceEqDiff, Nat.reduceAdd]
  refine SW_seq (SW_region ?_)
  simp only [zS, reduceIte, Nat.reduceLT, Int.reduceToNat, Int.reduceLE, Int.reduceEq, Int.reduceLT, Nat.reduceEqDiff, Nat.reduceAdd, mk a ha]
  refine SW_seq (SW_region ?_)
  simp only [zS, reduceIte, Nat.reduceLT, Int.reduceToNat, Int.reduceLE, Int.reduceEq, Int.reduceLT, Nat.reduceEqDiff, Nat.reduceAdd, mk b hb]
  refine SW_seq (SW_region ?_)
  simp only [zS, reduceIte, Nat.reduceLT, Int.reduceToNat, Int.reduceLE, Int.reduceEq, Int.reduceLT, Nat.reduceEqDiff, Nat.reduceAdd, mk c hc]
  refine SW_seq (SW_region ?_)
  simp only [zS, reduceIte, Nat.reduceLT, Int.reduceToNat, Int.reduceLE, Int.reduceEq, Int.reduceLT, Nat.reduceEqDiff, Nat.reduceAdd, mk d hd]
  refine SW_keep [0, 1, 2, 3] ?_
  simp only [zS, reduceIte, Nat.reduceLT, Int.reduceToNat, Int.reduceLE, Int.reduceEq, Int.reduceLT, Nat.reduceEqDiff, Nat.reduceAdd]
  refine SW_seq (SW_region ?_)
  simp only [zS, reduceIte, Nat.reduceLT, Int.reduceToNat, Int.reduceLE, Int.reduceEq, Int.reduceLT, Nat.reduceEqDiff, Nat.reduceAdd, a32 a b ha hb]
  refine SW_seq (SW_region ?_)
  simp only [zS, reduceIte, Nat.reduceLT, Int.reduceToNat, Int.reduceLE, Int.reduceEq, Int.reduceLT, Nat.reduceEqDiff, Nat.reduceAdd, x32 d (Cha.add a b) hd (A _ _)]
  refine ⟨by kernel_rfl, _, rotl_at _ _ 16 (by decide) (by decide) (X _ _ hd (A _ _)), ?_⟩
  rintro _ M1 ⟨rfl, hM⟩
  clear hM
  simp only [zS, reduceIte, Nat.reduceLT, Int.reduceToNat, Int.reduceLE, Int.reduceEq, Int.reduceLT, Nat.reduceEqDiff, Nat.reduceAdd]
  refine SW_seq (SW_region ?_)
  simp only [zS, reduceIte, Nat.reduceLT, Int.reduceToNat, Int.reduceLE, Int.reduceEq, Int.reduceLT, Nat.reduceEqDiff, Nat.reduceAdd, a32 c (Cha.rotl (d ^^^ (Cha.add a b)) 16) hc (T _ _)]
  refine SW_seq (SW_region ?_)
  simp only [zS, reduceIte, Nat.reduceLT, Int.reduceToNat, Int.reduceLE, Int.reduceEq, Int.reduceLT, Nat.reduceEqDiff, Nat.reduceAdd, x32 b (Cha.add c (Cha.rotl (d ^^^ (Cha.add a b)) 16)) hb (A _ _)]
  refine ⟨by kernel_rfl, _, rotl_at _ _ 12 (by decide) (by decide) (X _ _ hb (A _ _)), ?_⟩
  rintro _ M1 ⟨rfl, hM⟩
  clear hM
  simp only [zS, reduceIte, Nat.reduceLT, Int.reduceToNat, Int.reduceLE, Int.reduceEq, Int.reduceLT, Nat.reduceEqDiff, Nat.reduceAdd]
  refine SW_seq (SW_region ?_)
  simp only [zS, reduceIte, Nat.reduceLT, Int.reduceToNat, Int.reduceLE, Int.reduceEq, Int.reduceLT, Nat.reduceEqDiff, Nat.reduceAdd, a32 (Cha.add a b) (Cha.rotl (b ^^^ (Cha.add c (Cha.rotl (d ^^^ (Cha.add a b)) 16))) 12) (A _ _) (T _ _)]
  refine SW_seq (SW_region ?_)
  simp only [zS, reduceIte, Nat.reduceLT, Int.reduceToNat, Int.reduceLE, Int.reduceEq, Int.reduceLT, Nat.reduceEqDiff, Nat.reduceAdd, x32 (Cha.rotl (d ^^^ (Cha.add a b)) 16) (Cha.add (Cha.add a b) (Cha.rotl (b ^^^ (Cha.add c (Cha.rotl (d ^^^ (Cha.add a b)) 16))) 12)) (T _ _) (A _ _)]
  refine ⟨by kernel_rfl, _, rotl_at _ _ 8 (by decide) (by decide) (X _ _ (T _ _) (A _ _)), ?_⟩
  rintro _ M1 ⟨rfl, hM⟩
  clear hM
  simp only [zS, reduceIte, Nat.reduceLT, Int.reduceToNat, Int.reduceLE, Int.reduceEq, Int.reduceLT, Nat.reduceEqDiff, Nat.reduceAdd]
  refine SW_seq (SW_region ?_)
  simp only [zS, reduceIte, Nat.reduceLT, Int.reduceToNat, Int.reduceLE, Int.reduceEq, Int.reduceLT, Nat.reduceEqDiff, Nat.reduceAdd, a32 (Cha.add c (Cha.rotl (d ^^^ (Cha.add a b)) 16)) (Cha.rotl ((Cha.rotl (d ^^^ (Cha.add a b)) 16) ^^^ (Cha.add (Cha.add a b) (Cha.rotl (b ^^^ (Cha.add c (Cha.rotl (d ^^^ (Cha.add a b)) 16))) 12))) 8) (A _ _) (T _ _)]
  refine SW_seq (SW_region ?_)
  simp only [zS, reduceIte, Nat.reduceLT, Int.reduceToNat, Int.reduceLE, Int.reduceEq, Int.reduceLT, Nat.reduceEqDiff, Nat.reduceAdd, x32 (Cha.rotl (b ^^^ (Cha.add c (Cha.rotl (d ^^^ (Cha.add a b)) 16))) 12) (Cha.add (Cha.add c (Cha.rotl (d ^^^ (Cha.add a b)) 16)) (Cha.rotl ((Cha.rotl (d ^^^ (Cha.add a b)) 16) ^^^ (Cha.add (Cha.add a b) (Cha.rotl (b ^^^ (Cha.add c (Cha.rotl (d ^^^ (Cha.add a b)) 16))) 12))) 8)) (T _ _) (A _ _)]
  refine ⟨by kernel_rfl, _, rotl_at _ _ 7 (by decide) (by decide) (X _ _ (T _ _) (A _ _)), ?_⟩
  rintro _ M1 ⟨rfl, hM⟩
  clear hM
  simp only [zS, reduceIte, Nat.reduceLT, Int.reduceToNat, Int.reduceLE, Int.reduceEq, Int.reduceLT, Nat.reduceEqDiff, Nat.reduceAdd]
  refine SW_seq (SW_region ?_)
  simp only [zS, reduceIte, Nat.reduceLT, Int.reduceToNat, Int.reduceLE, Int.reduceEq, Int.reduceLT, Nat.reduceEqDiff, Nat.reduceAdd]
  refine SW_ret ?_
  simp only [zS, reduceIte, Nat.reduceLT, Int.reduceToNat, Int.reduceLE, Int.reduceEq, Int.reduceLT, Nat.reduceEqDiff, Nat.reduceAdd, sAnswer, sAnswer.sRes]
  rfl
theorem quarter_at (M : Mem) (a b c d : Nat) (ha : a < 4294967296) (hb : b < 4294967296) (hc : c < 4294967296) (hd : d < 4294967296) :
    Abs.Spec Tryz.prog 278 [.int .i64 (a : Int), .int .i64 (b : Int), .int .i64 (c : Int), .int .i64 (d : Int)] M fun v M' => v = .tuple #[.int .i64 ((Cha.quarter a b c d).1 : Nat), .int .i64 ((Cha.quarter a b c d).2.1 : Nat), .int .i64 ((Cha.quarter a b c d).2.2.1 : Nat), .int .i64 ((Cha.quarter a b c d).2.2.2 : Nat)] ∧ M' = M :=
  Abs.Spec.of_empty (by intro x hx; simp at hx; rcases hx with rfl | rfl | rfl | rfl <;> rfl) rfl (quarter_spec ⟨[]⟩ a b c d ha hb hc hd) M
end Go.Proofs.YtkkleedpakcfgaaGreatDoor
namespace Go.Proofs.YtkkleedpakcfgaaGreatDoor
open Go.RowKit Abs
def Cha.word (l : List UInt8) (i : Nat) : Nat := (l.getD (4 * i) 0).toNat + (l.getD (4 * i + 1) 0).toNat * 256 + (l.getD (4 * i + 2) 0).toNat * 65536 + (l.getD (4 * i + 3) 0).toNat * 16777216
def Cha.words (l : List UInt8) (n : Nat) : List Nat := (List.range n).map (Cha.word l)
theorem Cha.word_lt (l : List UInt8) (i : Nat) : Cha.word l i < 4294967296 := by
  unfold Cha.word
  have h0 := UInt8.toNat_lt (l.getD (4 * i) 0)
  have h1 := UInt8.toNat_lt (l.getD (4 * i + 1) 0)
  have h2 := UInt8.toNat_lt (l.getD (4 * i + 2) 0)
  have h3 := UInt8.toNat_lt (l.getD (4 * i + 3) 0)
  omega
set_option maxRecDepth 100000 in
set_option maxHeartbeats 1000000 in
theorem words_spec (m : Mem) (s : ByteArray) (hs : s.size ≤ 1000000) :
    Abs.Spec Tryz.prog 277 [.string s] m fun v m' => Sl m' v ((Cha.words s.data.toList (s.size / 4)).map natV) ∧ Grows m m' ∧ (∀ g l c, v = .slice (some ⟨g, 0, none⟩) l c → m.size ≤ g) := by
  obtain ⟨l, hl⟩ : ∃ l, l = s.data.toList := ⟨_, rfl⟩
  have hbs : bsize s = s.size := bsize_data s
  rw [← hl]
  refine Abs.Spec.walk Tryz.func277 (by rfl) _ Tryz.results277 _ Tryz.ntmps277 (by simp) ?_
  refine SW_seq (SW_region ?_)
  simp only [zS, reduceIte, Nat.reduceLT, Int.reduceToNat, Int.reduceLE, Int.reduceEq, Int.reduceLT, Nat.reduceEqDiff, Nat.reduceAdd]
  refine SW_seq (SW_region ?_)
  simp only [zS, reduceIte, Nat.reduceLT, Int.reduceToNat, Int.reduceLE, Int.reduceEq, Int.reduceLT, Nat.reduceEqDiff, Nat.reduceAdd]
  refine SW_seq (SW_seq (SW_region ?_))
  simp only [zS, reduceIte, Nat.reduceLT, Int.reduceToNat, Int.reduceLE, Int.reduceEq, Int.reduceLT, Nat.reduceEqDiff, Nat.reduceAdd]
  refine SW_block (SW_loopK [0, 3, 4] (fun k f M => ∃ (t : Nat) (o : Value), t + k = s.size / 4 ∧ f = [(0, .string s), (3, o), (4, .int .i64 ((4 * t : Nat) : Int))] ∧ Sl M o ((Cha.words l t).map natV) ∧ Grows m M ∧ (∀ g l c, o = .slice (some ⟨g, 0, none⟩) l c → m.size ≤ g)) (s.size / 4) ?_ ?_)
  · simp only [zS, reduceIte, Nat.reduceLT, Int.reduceToNat, Int.reduceLE, Int.reduceEq, Int.reduceLT, Nat.reduceEqDiff, Nat.reduceAdd]
    exact ⟨0, _, by omega, rfl, .inl ⟨rfl, rfl⟩, Grows.refl m, fun g l c e => by cases e⟩
  · rintro k f M ⟨t, o, ht, rfl, ho, hgr, hnew⟩
    have w3 : IntKind.i64.wrap (((4 * t : Nat) : Int) + 3) = ((4 * t + 3 : Nat) : Int) := by rw [wr (by omega) (by omega)]; omega
    refine SW_seq (SW_seq (SW_region ?_))
    simp only [zS, reduceIte, Nat.reduceLT, Int.reduceToNat, Int.reduceLE, Int.reduceEq, Int.reduceLT, Nat.reduceEqDiff, Nat.reduceAdd, zT, hbs, w3]
    refine SW_cond (decide (((4 * t + 3 : Nat) : Int) < (s.size : Int))) (by rfl) (fun hc => SW_skip ?_) (fun hc => SW_exit ?_)
    · simp only [zS, reduceIte, Nat.reduceLT, Int.reduceToNat, Int.reduceLE, Int.reduceEq, Int.reduceLT, Nat.reduceEqDiff, Nat.reduceAdd]
      have hlt := of_decide_eq_true hc
      have hlt' : 4 * t + 3 < s.size := by omega
      have w1 : IntKind.i64.wrap (((4 * t : Nat) : Int) + 1) = ((4 * t + 1 : Nat) : Int) := by rw [wr (by omega) (by omega)]; omega
      have w2 : IntKind.i64.wrap (((4 * t : Nat) : Int) + 2) = ((4 * t + 2 : Nat) : Int) := by rw [wr (by omega) (by omega)]; omega
      have w4 : IntKind.i64.wrap (((4 * t : Nat) : Int) + 4) = ((4 * (t + 1) : Nat) : Int) := by rw [wr (by omega) (by omega)]; omega
      have i0 := Abs.index_str s ((4 * t : Nat) : Int) (4 * t) rfl (by omega)
      have i1 := Abs.index_str s ((4 * t + 1 : Nat) : Int) (4 * t + 1) rfl (by omega)
      have i2 := Abs.index_str s ((4 * t + 2 : Nat) : Int) (4 * t + 2) rfl (by omega)
      have i3 := Abs.index_str s ((4 * t + 3 : Nat) : Int) (4 * t + 3) rfl (by omega)
      rw [← hl] at i0 i1 i2 i3
      obtain ⟨a0, e0⟩ : ∃ a : Nat, a = (l.getD (4 * t) 0).toNat := ⟨_, rfl⟩
      obtain ⟨a1, e1⟩ : ∃ a : Nat, a = (l.getD (4 * t + 1) 0).toNat := ⟨_, rfl⟩
      obtain ⟨a2, e2⟩ : ∃ a : Nat, a = (l.getD (4 * t + 2) 0).toNat := ⟨_, rfl⟩
      obtain ⟨a3, e3⟩ : ∃ a : Nat, a = (l.getD (4 * t + 3) 0).toNat := ⟨_, rfl⟩
      have b0 : a0 < 256 := by rw [e0]; exact UInt8.toNat_lt _
      have b1 : a1 < 256 := by rw [e1]; exact UInt8.toNat_lt _
      have b2 : a2 < 256 := by rw [e2]; exact UInt8.toNat_lt _
      have b3 : a3 < 256 := by rw [e3]; exact UInt8.toNat_lt _
      have hw : Cha.word l t = a0 + a1 * 256 + a2 * 65536 + a3 * 16777216 := by rw [e0, e1, e2, e3]; rfl
      rw [← e0] at i0
      rw [← e1] at i1
      rw [← e2] at i2
      rw [← e3] at i3
      have v0 : IntKind.i64.wrap (a0 : Int) = (a0 : Int) := wr (by omega) (by omega)
      have v1 : IntKind.i64.wrap (a1 : Int) = (a1 : Int) := wr (by omega) (by omega)
      have v2 : IntKind.i64.wrap (a2 : Int) = (a2 : Int) := wr (by omega) (by omega)
      have v3 : IntKind.i64.wrap (a3 : Int) = (a3 : Int) := wr (by omega) (by omega)
      have v4 : IntKind.i64.wrap ((a1 : Int) * 256) = (a1 : Int) * 256 := wr (by omega) (by omega)
      have v5 : IntKind.i64.wrap ((a2 : Int) * 65536) = (a2 : Int) * 65536 := wr (by omega) (by omega)
      have v6 : IntKind.i64.wrap ((a3 : Int) * 16777216) = (a3 : Int) * 16777216 := wr (by omega) (by omega)
      have v7 : IntKind.i64.wrap ((a0 : Int) + (a1 : Int) * 256) = (a0 : Int) + (a1 : Int) * 256 := wr (by omega) (by omega)
      have v8 : IntKind.i64.wrap ((a0 : Int) + (a1 : Int) * 256 + (a2 : Int) * 65536) = (a0 : Int) + (a1 : Int) * 256 + (a2 : Int) * 65536 := wr (by omega) (by omega)
      have v9 : IntKind.i64.wrap ((a0 : Int) + (a1 : Int) * 256 + (a2 : Int) * 65536 + (a3 : Int) * 16777216) = ((Cha.word l t : Nat) : Int) := by rw [wr (by omega) (by omega), hw]; omega
      have hxl : ((Cha.words l t).map natV).length = t := by simp [Cha.words]
      obtain ⟨s', m2, happ, hs', hgr', hnew'⟩ := ho.app_int hgr hnew (natV (Cha.word l t)) (by omega)
      have hcat : (Cha.words l t).map natV ++ [natV (Cha.word l t)] = (Cha.words l (t + 1)).map natV := by simp [Cha.words, List.range_succ]
      rw [hcat] at hs'
      unfold natV at happ
      refine SW_seq (SW_block (SW_draw hmix 27 (by kernel_rfl) (by kernel_rfl) ?_))
      simp only [zS, reduceIte, Nat.reduceLT, Int.reduceToNat, Int.reduceLE, Int.reduceEq, Int.reduceLT, Nat.reduceEqDiff, Nat.reduceAdd, zT, w1, w2, w3, i0, i1, i2, i3, v0, v1, v2, v3, v4, v5, v6, v7, v8, v9, happ]
      refine SW_region ?_
      simp only [zS, reduceIte, Nat.reduceLT, Int.reduceToNat, Int.reduceLE, Int.reduceEq, Int.reduceLT, Nat.reduceEqDiff, Nat.reduceAdd, w4]
      exact ⟨k - 1, ⟨t + 1, s', by omega, rfl, hs', hgr', hnew'⟩, by omega⟩
    · simp only [zS, reduceIte, Nat.reduceLT, Int.reduceToNat, Int.reduceLE, Int.reduceEq, Int.reduceLT, Nat.reduceEqDiff, Nat.reduceAdd]
      have hge := of_decide_eq_false hc
      have hte : t = s.size / 4 := by omega
      subst hte
      refine SW_seq (SW_region ?_)
      simp only [zS, reduceIte, Nat.reduceLT, Int.reduceToNat, Int.reduceLE, Int.reduceEq, Int.reduceLT, Nat.reduceEqDiff, Nat.reduceAdd]
      refine SW_ret ?_
      simp only [zS, reduceIte, Nat.reduceLT, Int.reduceToNat, Int.reduceLE, Int.reduceEq, Int.reduceLT, Nat.reduceEqDiff, Nat.reduceAdd, sAnswer, sAnswer.sRes]
      exact ⟨ho, hgr, hnew⟩
end Go.Proofs.YtkkleedpakcfgaaGreatDoor
namespace Go.Proofs.YtkkleedpakcfgaaGreatDoor
open Go.RowKit Abs
def Cha.rows : List (List Nat) := [[0, 4, 8, 12], [1, 5, 9, 13], [2, 6, 10, 14], [3, 7, 11, 15], [0, 5, 10, 15], [1, 6, 11, 12], [2, 7, 8, 13], [3, 4, 9, 14]]
def Cha.at (r k : Nat) : Nat := ((Cha.rows.getD r []).getD k 0)
def Cha.step (x : List Nat) (r : Nat) : List Nat :=
  let q := Cha.quarter (x.getD (Cha.at r 0) 0) (x.getD (Cha.at r 1) 0) (x.getD (Cha.at r 2) 0) (x.getD (Cha.at r 3) 0)
  (((x.set (Cha.at r 0) q.1).set (Cha.at r 1) q.2.1).set (Cha.at r 2) q.2.2.1).set (Cha.at r 3) q.2.2.2
def Cha.inner (x : List Nat) : Nat → List Nat
  | 0 => x
  | r + 1 => Cha.step (Cha.inner x r) r
def Cha.dbl (x : List Nat) : Nat → List Nat
  | 0 => x
  | n + 1 => Cha.inner (Cha.dbl x n) 8
def Cha.init (key nonce : List UInt8) (c : Nat) : List Nat := [1634760805, 857760878, 2036477234, 1797285236] ++ Cha.words key 8 ++ [c] ++ Cha.words nonce 3
def Cha.le (w : Nat) : Nat → List UInt8
  | 0 => []
  | n + 1 => UInt8.ofNat (w % 256) :: Cha.le (w / 256) n
def Cha.outN (x s : List Nat) (n : Nat) : List UInt8 := (List.range n).flatMap fun i => Cha.le (Cha.add (x.getD i 0) (s.getD i 0)) 4
def Cha.block (key nonce : List UInt8) (c : Nat) : List UInt8 := Cha.outN (Cha.dbl (Cha.init key nonce c) 10) (Cha.init key nonce c) 16
theorem Cha.at_lt (r k : Nat) (hr : r < 8) (hk : k < 4) : Cha.at r k < 16 := by
  have : ∀ r : Fin 8, ∀ k : Fin 4, Cha.at r.val k.val < 16 := by decide
  exact this ⟨r, hr⟩ ⟨k, hk⟩
def Cha.Ok (x : List Nat) : Prop := x.length = 16 ∧ ∀ i, x.getD i 0 < 4294967296
theorem Cha.Ok.set {x : List Nat} (h : Cha.Ok x) (i v : Nat) (hv : v < 4294967296) : Cha.Ok (x.set i v) := by
  refine ⟨by simp [h.1], fun j => ?_⟩
  rw [List.getD, List.getElem?_set]
  split
  · split
    · exact hv
    · decide
  · have := h.2 j
    rw [List.getD] at this
    exact this
theorem Cha.quarter_lt (a b c d : Nat) : (Cha.quarter a b c d).1 < 4294967296 ∧ (Cha.quarter a b c d).2.1 < 4294967296 ∧ (Cha.quarter a b c d).2.2.1 < 4294967296 ∧ (Cha.quarter a b c d).2.2.2 < 4294967296 :=
  ⟨Cha.add_lt _ _, Cha.rotl_lt _ _, Cha.add_lt _ _, Cha.rotl_lt _ _⟩
theorem Cha.step_ok {x : List Nat} (h : Cha.Ok x) (r : Nat) : Cha.Ok (Cha.step x r) := by
  obtain ⟨h1, h2, h3, h4⟩ := Cha.quarter_lt (x.getD (Cha.at r 0) 0) (x.getD (Cha.at r 1) 0) (x.getD (Cha.at r 2) 0) (x.getD (Cha.at r 3) 0)
  exact (((h.set _ _ h1).set _ _ h2).set _ _ h3).set _ _ h4
theorem Cha.inner_ok {x : List Nat} (h : Cha.Ok x) : ∀ r, Cha.Ok (Cha.inner x r)
  | 0 => h
  | r + 1 => Cha.step_ok (Cha.inner_ok h r) r
theorem Cha.dbl_ok {x : List Nat} (h : Cha.Ok x) : ∀ r, Cha.Ok (Cha.dbl x r)
  | 0 => h
  | r + 1 => Cha.inner_ok (Cha.dbl_ok h r) 8
theorem Cha.init_ok (key nonce : List UInt8) (c : Nat) (hc : c < 4294967296) : Cha.Ok (Cha.init key nonce c) := by
  refine ⟨by simp [Cha.init, Cha.words], fun i => ?_⟩
  have : ∀ v ∈ Cha.init key nonce c, v < 4294967296 := by
    intro v hv
    simp only [Cha.init, Cha.words, List.mem_append, List.mem_map] at hv
    rcases hv with ((hv | ⟨j, _, rfl⟩) | hv) | ⟨j, _, rfl⟩
    · simp at hv; omega
    · exact Cha.word_lt _ _
    · simp at hv; omega
    · exact Cha.word_lt _ _
  rw [List.getD]
  cases h : (Cha.init key nonce c)[i]? with
  | none => decide
  | some v => exact this v (List.mem_of_getElem? h)
theorem natV_at {x : List Nat} {i : Nat} (hi : i < x.length) : (x.map natV)[i]? = some (.int .i64 ((x.getD i 0 : Nat) : Int)) := by
  rw [List.getElem?_map, List.getD, List.getElem?_eq_getElem hi]; rfl
theorem natV_set (x : List Nat) (i v : Nat) : (x.map natV).set i (.int .i64 (v : Int)) = (x.set i v).map natV := by
  rw [List.map_set]; rfl
theorem new_int4 (a b c d : Int) : nBuildSlice Tryz.prog 37 4 [(0, .int .i64 a), (1, .int .i64 b), (2, .int .i64 c), (3, .int .i64 d)] = some (.cells false 1 [.int .i64 a, .int .i64 b, .int .i64 c, .int .i64 d]) := by kernel_rfl
theorem le_length : ∀ (n w : Nat), (Cha.le w n).length = n
  | 0, _ => rfl
  | n + 1, w => by simp [Cha.le, le_length n]
theorem le_get : ∀ (w n e : Nat), e < n → (Cha.le w n)[e]? = some (UInt8.ofNat (w / 256 ^ e % 256))
  | w, 0, e, h => by omega
  | w, n + 1, 0, h => by simp [Cha.le]
  | w, n + 1, e + 1, h => by
    simp only [Cha.le, List.getElem?_cons_succ]
    rw [le_get (w / 256) n e (by omega), Nat.pow_succ, Nat.mul_comm (256 ^ e) 256, ← Nat.div_div_eq_div_mul]
theorem outN_length (x s : List Nat) : ∀ n, (Cha.outN x s n).length = 4 * n
  | 0 => rfl
  | n + 1 => by
    have : Cha.outN x s (n + 1) = Cha.outN x s n ++ Cha.le (Cha.add (x.getD n 0) (s.getD n 0)) 4 := by simp [Cha.outN, List.range_succ]
    rw [this, List.length_append, outN_length x s n, le_length]; omega
theorem new_sl8 (n0 n1 n2 n3 n4 n5 n6 n7 : Nat) : nBuildSlice Tryz.prog 357 8 [(0, .slice (some ⟨n0, 0, none⟩) 4 4), (1, .slice (some ⟨n1, 0, none⟩) 4 4), (2, .slice (some ⟨n2, 0, none⟩) 4 4), (3, .slice (some ⟨n3, 0, none⟩) 4 4), (4, .slice (some ⟨n4, 0, none⟩) 4 4), (5, .slice (some ⟨n5, 0, none⟩) 4 4), (6, .slice (some ⟨n6, 0, none⟩) 4 4), (7, .slice (some ⟨n7, 0, none⟩) 4 4)] =
    some (.cells false 1 [.slice (some ⟨n0, 0, none⟩) 4 4, .slice (some ⟨n1, 0, none⟩) 4 4, .slice (some ⟨n2, 0, none⟩) 4 4, .slice (some ⟨n3, 0, none⟩) 4 4, .slice (some ⟨n4, 0, none⟩) 4 4, .slice (some ⟨n5, 0, none⟩) 4 4, .slice (some ⟨n6, 0, none⟩) 4 4, .slice (some ⟨n7, 0, none⟩) 4 4]) := by kernel_rfl
theorem inf_sl : Tryz.prog.info? 37 = some Tryz.t37 := by kernel_rfl
theorem sl_size : Tryz.t37.size = 1 := rfl
set_option maxRecDepth 100000 in
set_option maxHeartbeats 4000000 in
theorem block_spec (m : Mem) (key nonce : ByteArray) (c : Nat) (hk : key.size = 32) (hn : nonce.size = 12) (hc : c < 4294967296) :
    Abs.Spec Tryz.prog 260 [.string key, .string nonce, .int .i64 (c : Int)] m fun v m' => Sl m' v (bytesV (Cha.block key.data.toList nonce.data.toList c)) ∧ Grows m m' ∧ (∀ g l c, v = .slice (some ⟨g, 0, none⟩) l c → m.size ≤ g) := by
  obtain ⟨S, hS⟩ : ∃ S, S = Cha.init key.data.toList nonce.data.toList c := ⟨_, rfl⟩
  have hSok : Cha.Ok S := by rw [hS]; exact Cha.init_ok _ _ _ hc
  refine Abs.Spec.walk Tryz.func260 (by rfl) _ Tryz.results260 _ Tryz.ntmps260 (by simp) ?_
  refine SW_seq (SW_region ?_)
  simp only [zS, reduceIte, Nat.reduceLT, Int.reduceToNat, Int.reduceLE, Int.reduceEq, Int.reduceLT, Nat.reduceEqDiff, Nat.reduceAdd]
  refine SW_seq (SW_region ?_)
  simp only [zS, reduceIte, Nat.reduceLT, Int.reduceToNat, Int.reduceLE, Int.reduceEq, Int.reduceLT, Nat.reduceEqDiff, Nat.reduceAdd, new_int4]
  have h0 : Sl (m.push (.cells false 1 [.int .i64 1634760805, .int .i64 857760878, .int .i64 2036477234, .int .i64 1797285236])) (.slice (some ⟨m.size, 0, none⟩) 4 4) [.int .i64 1634760805, .int .i64 857760878, .int .i64 2036477234, .int .i64 1797285236] := Sl.block rfl (Mem.get_push_new _ _)
  have g0 : Grows m (m.push (.cells false 1 [.int .i64 1634760805, .int .i64 857760878, .int .i64 2036477234, .int .i64 1797285236])) := (Grows.refl m).push _
  have n0 : ∀ g l c, Value.slice (some ⟨m.size, 0, none⟩) 4 4 = .slice (some ⟨g, 0, none⟩) l c → m.size ≤ g := fun g l c e => by cases e; exact Nat.le_refl _
  generalize m.push (.cells false 1 [.int .i64 1634760805, .int .i64 857760878, .int .i64 2036477234, .int .i64 1797285236]) = M0 at *
  obtain ⟨a0, ha0⟩ : ∃ v, v = Value.slice (some ⟨m.size, 0, none⟩) 4 4 := ⟨_, rfl⟩
  have hs0 : ∃ g, a0 = .slice (some ⟨g, 0, none⟩) 4 4 := ⟨_, ha0⟩
  rw [← ha0] at h0 n0 ⊢
  clear ha0
  refine SW_seq (SW_region ?_)
  simp only [zS, reduceIte, Nat.reduceLT, Int.reduceToNat, Int.reduceLE, Int.reduceEq, Int.reduceLT, Nat.reduceEqDiff, Nat.reduceAdd]
  refine ⟨by kernel_rfl, _, words_spec M0 key (by omega), ?_⟩
  rintro w1 M1 ⟨hw1, hg1, hn1⟩
  rw [hk] at hw1
  obtain ⟨gw1, hw1v, hw1g⟩ := hw1.at (by simp [Cha.words])
  have hl1 : ((Cha.words key.data.toList (32 / 4)).map natV).length = 8 := by simp [Cha.words]
  have h0' : Sl M1 a0 [.int .i64 1634760805, .int .i64 857760878, .int .i64 2036477234, .int .i64 1797285236] := by
    rcases h0 with ⟨_, h⟩ | ⟨g, h, h'⟩
    · cases h
    · exact .inr ⟨g, h, hg1.2 _ _ h'⟩
  obtain ⟨a1, M2, happ, hs1, hgr1, hnew1, _⟩ := Sl.appL Tryz.underlying37 inf_int int_zero int_size rfl h0' hw1g (by omega) (g0.trans hg1) n0 (by rw [int_bytes, hl1]; decide) (by rw [hl1]; decide)
  rw [hw1v]
  simp only [happ, zS, reduceIte, Nat.reduceLT, Int.reduceToNat, Int.reduceLE, Int.reduceEq, Int.reduceLT, Nat.reduceEqDiff, Nat.reduceAdd]
  have hap2 := hs1.app_int hgr1 hnew1 (.int .i64 (c : Int)) (by simp [Cha.words])
  obtain ⟨a2, M3, happ2, hs2, hgr2, hnew2⟩ := hap2
  refine SW_seq (SW_region ?_)
  simp only [zS, reduceIte, Nat.reduceLT, Int.reduceToNat, Int.reduceLE, Int.reduceEq, Int.reduceLT, Nat.reduceEqDiff, Nat.reduceAdd, new_int, happ2]
  refine SW_seq (SW_region ?_)
  simp only [zS, reduceIte, Nat.reduceLT, Int.reduceToNat, Int.reduceLE, Int.reduceEq, Int.reduceLT, Nat.reduceEqDiff, Nat.reduceAdd]
  refine ⟨by kernel_rfl, _, words_spec M3 nonce (by omega), ?_⟩
  rintro w2 M4 ⟨hw2, hg4, hn2⟩
  rw [hn] at hw2
  obtain ⟨gw2, hw2v, hw2g⟩ := hw2.at (by simp [Cha.words])
  have hl2 : ((Cha.words nonce.data.toList (12 / 4)).map natV).length = 3 := by simp [Cha.words]
  have hs2' : Sl M4 a2 ([.int .i64 1634760805, .int .i64 857760878, .int .i64 2036477234, .int .i64 1797285236] ++ (Cha.words key.data.toList (32 / 4)).map natV ++ [.int .i64 (c : Int)]) := by
    rcases hs2 with ⟨_, h⟩ | ⟨g, h, h'⟩
    · simp at h
    · exact .inr ⟨g, h, hg4.2 _ _ h'⟩
  obtain ⟨a3, M5, happ3, hs3, hgr3, hnew3, _⟩ := Sl.appL Tryz.underlying37 inf_int int_zero int_size rfl hs2' hw2g (by omega) (hgr2.trans hg4) hnew2 (by rw [int_bytes, hl2]; simp [Cha.words]) (by rw [hl2]; simp [Cha.words])
  rw [hw2v]
  simp only [happ3, zS, reduceIte, Nat.reduceLT, Int.reduceToNat, Int.reduceLE, Int.reduceEq, Int.reduceLT, Nat.reduceEqDiff, Nat.reduceAdd]
  have hSl : [.int .i64 1634760805, .int .i64 857760878, .int .i64 2036477234, .int .i64 1797285236] ++ (Cha.words key.data.toList (32 / 4)).map natV ++ [.int .i64 (c : Int)] ++ (Cha.words nonce.data.toList (12 / 4)).map natV = S.map natV := by
    rw [hS]; simp [Cha.init, natV]
  rw [hSl] at hs3
  have hSlen : (S.map natV).length = 16 := by rw [List.length_map, hSok.1]
  obtain ⟨gs, rfl, hgs⟩ := hs3.at (by omega)
  rw [hSlen]
  have hgs0 := hnew3 gs _ _ rfl
  clear hs0 h0 g0 n0 hw1 hw1v hw1g h0' hs1 hgr1 hnew1 happ happ2 hs2 hgr2 hnew2 hw2 hw2v hw2g hs2' happ3 hnew3 hs3 hg1 hn1 hg4 hn2
  refine SW_seq (SW_region ?_)
  simp only [zS, reduceIte, Nat.reduceLT, Int.reduceToNat, Int.reduceLE, Int.reduceEq, Int.reduceLT, Nat.reduceEqDiff, Nat.reduceAdd]
  obtain ⟨a4, M6, happ4, hs4, hgr4, hnew4, hkeep4⟩ := Sl.appL Tryz.underlying37 inf_int int_zero int_size rfl (s := .slice none 0 0) (xs := []) (.inl ⟨rfl, rfl⟩) hgs (by omega) (Grows.refl M5) (fun g l c e => by cases e) (by rw [int_bytes, hSlen]; decide) (by rw [hSlen]; decide)
  rw [hSlen] at happ4
  rw [List.nil_append] at hs4
  obtain ⟨gx, rfl, hgx⟩ := hs4.at (by omega)
  have hgs4 := hkeep4 gs _ (fun l c e => by cases e) hgs
  have hgx0 := hnew4 gx _ _ rfl
  rw [hSlen] at happ4
  refine SW_seq (SW_region ?_)
  simp only [zS, reduceIte, Nat.reduceLT, Int.reduceToNat, Int.reduceLE, Int.reduceEq, Int.reduceLT, Nat.reduceEqDiff, Nat.reduceAdd, happ4]
  have hne : gs ≠ gx := by have := Mem.get_lt hgs; omega
  have hgx1 : m.size ≤ gx := by have := hgr3.1; omega
  have hg6 := hgr3.trans hgr4
  clear hkeep4 hnew4 hs4 happ4 hgr3 hgr4 hgs
  refine SW_seq (SW_region ?_)
  simp only [zS, reduceIte, Nat.reduceLT, Int.reduceToNat, Int.reduceLE, Int.reduceEq, Int.reduceLT, Nat.reduceEqDiff, Nat.reduceAdd, new_int4, new_sl8, Mem.size_push]
  obtain ⟨M7, hM7⟩ : ∃ M7, M7 = M6.app [some (.cells false 1 [.int .i64 0, .int .i64 4, .int .i64 8, .int .i64 12]), some (.cells false 1 [.int .i64 1, .int .i64 5, .int .i64 9, .int .i64 13]), some (.cells false 1 [.int .i64 2, .int .i64 6, .int .i64 10, .int .i64 14]), some (.cells false 1 [.int .i64 3, .int .i64 7, .int .i64 11, .int .i64 15]), some (.cells false 1 [.int .i64 0, .int .i64 5, .int .i64 10, .int .i64 15]), some (.cells false 1 [.int .i64 1, .int .i64 6, .int .i64 11, .int .i64 12]), some (.cells false 1 [.int .i64 2, .int .i64 7, .int .i64 8, .int .i64 13]), some (.cells false 1 [.int .i64 3, .int .i64 4, .int .i64 9, .int .i64 14]),
    some (.cells false 1 [.slice (some ⟨M6.size, 0, none⟩) 4 4, .slice (some ⟨M6.size + 1, 0, none⟩) 4 4, .slice (some ⟨M6.size + 1 + 1, 0, none⟩) 4 4, .slice (some ⟨M6.size + 1 + 1 + 1, 0, none⟩) 4 4, .slice (some ⟨M6.size + 1 + 1 + 1 + 1, 0, none⟩) 4 4, .slice (some ⟨M6.size + 1 + 1 + 1 + 1 + 1, 0, none⟩) 4 4, .slice (some ⟨M6.size + 1 + 1 + 1 + 1 + 1 + 1, 0, none⟩) 4 4, .slice (some ⟨M6.size + 1 + 1 + 1 + 1 + 1 + 1 + 1, 0, none⟩) 4 4])] := ⟨_, rfl⟩
  have hfold : ∀ (M : Mem) (b0 b1 b2 b3 b4 b5 b6 b7 b8 : Blk), ((((((((M.push b0).push b1).push b2).push b3).push b4).push b5).push b6).push b7).push b8 = M.app [some b0, some b1, some b2, some b3, some b4, some b5, some b6, some b7, some b8] := fun M b0 b1 b2 b3 b4 b5 b6 b7 b8 => by
    simp [Mem.push, Mem.app]
  rw [hfold, ← hM7]
  obtain ⟨B, hB⟩ : ∃ B, B = M6.size := ⟨_, rfl⟩
  have hrow : ∀ r, r < 8 → M7.get (B + r) = some (.cells false 1 ((Cha.rows.getD r []).map natV)) := by
    intro r hr
    rw [hM7]
    refine app_get_new (by omega) ?_
    rw [hB, show M6.size + r - M6.size = r by omega]
    have : r = 0 ∨ r = 1 ∨ r = 2 ∨ r = 3 ∨ r = 4 ∨ r = 5 ∨ r = 6 ∨ r = 7 := by omega
    rcases this with rfl | rfl | rfl | rfl | rfl | rfl | rfl | rfl <;> rfl
  obtain ⟨R, hR⟩ : ∃ R : List Value, R = [.slice (some ⟨M6.size, 0, none⟩) 4 4, .slice (some ⟨M6.size + 1, 0, none⟩) 4 4, .slice (some ⟨M6.size + 1 + 1, 0, none⟩) 4 4, .slice (some ⟨M6.size + 1 + 1 + 1, 0, none⟩) 4 4, .slice (some ⟨M6.size + 1 + 1 + 1 + 1, 0, none⟩) 4 4, .slice (some ⟨M6.size + 1 + 1 + 1 + 1 + 1, 0, none⟩) 4 4, .slice (some ⟨M6.size + 1 + 1 + 1 + 1 + 1 + 1, 0, none⟩) 4 4, .slice (some ⟨M6.size + 1 + 1 + 1 + 1 + 1 + 1 + 1, 0, none⟩) 4 4] := ⟨_, rfl⟩
  have hRr : ∀ r, r < 8 → R[r]? = some (.slice (some ⟨B + r, 0, none⟩) 4 4) := by
    intro r hr
    rw [hR, hB]
    have : r = 0 ∨ r = 1 ∨ r = 2 ∨ r = 3 ∨ r = 4 ∨ r = 5 ∨ r = 6 ∨ r = 7 := by omega
    rcases this with rfl | rfl | rfl | rfl | rfl | rfl | rfl | rfl <;> rfl
  obtain ⟨g9, hg9⟩ : ∃ g9, g9 = M6.size + 1 + 1 + 1 + 1 + 1 + 1 + 1 + 1 := ⟨_, rfl⟩
  have h9 : M7.get g9 = some (.cells false 1 R) := by
    rw [hM7]
    refine app_get_new (by omega) ?_
    rw [hg9, show M6.size + 1 + 1 + 1 + 1 + 1 + 1 + 1 + 1 - M6.size = 8 by omega, hR]
    rfl
  have hs7 : M7.get gs = some (.cells false 1 (S.map natV)) := by rw [hM7, app_get_old (Mem.get_lt hgs4)]; exact hgs4
  have hx7 : M7.get gx = some (.cells false 1 (S.map natV)) := by rw [hM7, app_get_old (Mem.get_lt hgx)]; exact hgx
  have hg7 : Grows m M7 := hg6.trans (by
    rw [hM7]
    exact ⟨by simp [Mem.app, Mem.size], fun b x hb => by rw [app_get_old (Mem.get_lt hb)]; exact hb⟩)
  have hgxB : gx < B := by rw [hB]; exact Mem.get_lt hgx
  rw [← hg9]
  have hg9B : g9 = B + 8 := by omega
  clear hM7 hfold hgs4 hgx hg6 hg9 hB hR
  refine SW_seq (SW_seq (SW_region ?_))
  simp only [zS, reduceIte, Nat.reduceLT, Int.reduceToNat, Int.reduceLE, Int.reduceEq, Int.reduceLT, Nat.reduceEqDiff, Nat.reduceAdd]
  refine SW_block (SW_loopK [7, 8, 9, 10] (fun k f M => ∃ n : Nat, n + k = 10 ∧ f = [(7, .slice (some ⟨gs, 0, none⟩) 16 16), (8, .slice (some ⟨gx, 0, none⟩) 16 16), (9, .slice (some ⟨g9, 0, none⟩) 8 8), (10, .int .i64 (n : Int))] ∧
    M.get gs = some (.cells false 1 (S.map natV)) ∧ M.get gx = some (.cells false 1 ((Cha.dbl S n).map natV)) ∧ M.get g9 = some (.cells false 1 R) ∧ (∀ r, r < 8 → M.get (B + r) = some (.cells false 1 ((Cha.rows.getD r []).map natV))) ∧ Grows m M) 10 ?_ ?_)
  · simp only [zS, reduceIte, Nat.reduceLT, Int.reduceToNat, Int.reduceLE, Int.reduceEq, Int.reduceLT, Nat.reduceEqDiff, Nat.reduceAdd]
    exact ⟨0, rfl, rfl, hs7, hx7, h9, hrow, hg7⟩
  · clear hs7 hx7 h9 hrow hg7
    rintro k f M ⟨n, hn10, rfl, hs7, hx7, h9, hrow, hg7⟩
    have hok := Cha.dbl_ok hSok n
    refine SW_seq (SW_seq (SW_region ?_))
    simp only [zS, reduceIte, Nat.reduceLT, Int.reduceToNat, Int.reduceLE, Int.reduceEq, Int.reduceLT, Nat.reduceEqDiff, Nat.reduceAdd]
    refine SW_cond (decide ((n : Int) < 10)) (by rfl) (fun hc => SW_skip ?_) (fun hc => SW_exit ?_)
    · simp only [zS, reduceIte, Nat.reduceLT, Int.reduceToNat, Int.reduceLE, Int.reduceEq, Int.reduceLT, Nat.reduceEqDiff, Nat.reduceAdd]
      have hnl : n < 10 := by have := of_decide_eq_true hc; omega
      have xn : IntKind.i64.wrap ((n : Int) + 1) = ((n + 1 : Nat) : Int) := by rw [wr (by omega) (by omega)]; omega
      refine SW_seq (SW_block (SW_seq (SW_region ?_)))
      simp only [zS, reduceIte, Nat.reduceLT, Int.reduceToNat, Int.reduceLE, Int.reduceEq, Int.reduceLT, Nat.reduceEqDiff, Nat.reduceAdd]
      refine SW_block (SW_loopK [7, 8, 9, 10, 11] (fun k f M => ∃ r : Nat, r + k = 8 ∧ f = [(7, .slice (some ⟨gs, 0, none⟩) 16 16), (8, .slice (some ⟨gx, 0, none⟩) 16 16), (9, .slice (some ⟨g9, 0, none⟩) 8 8), (10, .int .i64 (n : Int)), (11, .int .i64 (r : Int))] ∧
        M.get gs = some (.cells false 1 (S.map natV)) ∧ M.get gx = some (.cells false 1 ((Cha.inner (Cha.dbl S n) r).map natV)) ∧ M.get g9 = some (.cells false 1 R) ∧ (∀ r, r < 8 → M.get (B + r) = some (.cells false 1 ((Cha.rows.getD r []).map natV))) ∧ Grows m M) 8 ?_ ?_)
      · simp only [zS, reduceIte, Nat.reduceLT, Int.reduceToNat, Int.reduceLE, Int.reduceEq, Int.reduceLT, Nat.reduceEqDiff, Nat.reduceAdd]
        exact ⟨0, rfl, rfl, hs7, hx7, h9, hrow, hg7⟩
      · clear hs7 hx7 h9 hrow hg7
        rintro k2 f M ⟨r, hr8, rfl, hs7, hx7, h9, hrow, hg7⟩
        obtain ⟨x, hx⟩ : ∃ x, x = Cha.inner (Cha.dbl S n) r := ⟨_, rfl⟩
        have hxok : Cha.Ok x := by rw [hx]; exact Cha.inner_ok hok r
        rw [← hx] at hx7
        refine SW_seq (SW_seq (SW_region ?_))
        simp only [zS, reduceIte, Nat.reduceLT, Int.reduceToNat, Int.reduceLE, Int.reduceEq, Int.reduceLT, Nat.reduceEqDiff, Nat.reduceAdd]
        refine SW_cond (decide ((r : Int) < 8)) (by rfl) (fun hc => SW_skip ?_) (fun hc => SW_exit ?_)
        · simp only [zS, reduceIte, Nat.reduceLT, Int.reduceToNat, Int.reduceLE, Int.reduceEq, Int.reduceLT, Nat.reduceEqDiff, Nat.reduceAdd]
          have hrl : r < 8 := by have := of_decide_eq_true hc; omega
          have xr : IntKind.i64.wrap ((r : Int) + 1) = ((r + 1 : Nat) : Int) := by rw [wr (by omega) (by omega)]; omega
          refine SW_seq (SW_block (SW_seq (SW_region ?_)))
          simp only [zS, reduceIte, Nat.reduceLT, Int.reduceToNat, Int.reduceLE, Int.reduceEq, Int.reduceLT, Nat.reduceEqDiff, Nat.reduceAdd, zT, inf_sl, sl_size, row_slice, Tryz.underlying357, h9, Int.toNat_natCast, hRr r hrl]
          refine ⟨by omega, ?_⟩
          have hrr := hrow r hrl
          have hrc : ∀ k, k < 4 → ((Cha.rows.getD r []).map natV)[k]? = some (.int .i64 ((Cha.at r k : Nat) : Int)) := fun k hk => natV_at (by
            have : ∀ r : Fin 8, (Cha.rows.getD r.val []).length = 4 := by decide
            rw [this ⟨r, hrl⟩]; exact hk)
          have hrl0 := Cha.at_lt r 0 hrl (by decide)
          have hrl1 := Cha.at_lt r 1 hrl (by decide)
          have hrl2 := Cha.at_lt r 2 hrl (by decide)
          have hrl3 := Cha.at_lt r 3 hrl (by decide)
          obtain ⟨i0, hi0⟩ : ∃ i, i = Cha.at r 0 := ⟨_, rfl⟩
          obtain ⟨i1, hi1⟩ : ∃ i, i = Cha.at r 1 := ⟨_, rfl⟩
          obtain ⟨i2, hi2⟩ : ∃ i, i = Cha.at r 2 := ⟨_, rfl⟩
          obtain ⟨i3, hi3⟩ : ∃ i, i = Cha.at r 3 := ⟨_, rfl⟩
          have c0 := hrc 0 (by decide)
          have c1 := hrc 1 (by decide)
          have c2 := hrc 2 (by decide)
          have c3 := hrc 3 (by decide)
          rw [← hi0] at c0 hrl0
          rw [← hi1] at c1 hrl1
          rw [← hi2] at c2 hrl2
          rw [← hi3] at c3 hrl3
          have x0 := natV_at (x := x) (i := i0) (by rw [hxok.1]; exact hrl0)
          have x1 := natV_at (x := x) (i := i1) (by rw [hxok.1]; exact hrl1)
          have x2 := natV_at (x := x) (i := i2) (by rw [hxok.1]; exact hrl2)
          have x3 := natV_at (x := x) (i := i3) (by rw [hxok.1]; exact hrl3)
          refine SW_seq (SW_draw hmix 33 (by kernel_rfl) (by kernel_rfl) ?_)
          simp only [zS, reduceIte, Nat.reduceLT, Int.reduceToNat, Int.reduceLE, Int.reduceEq, Int.reduceLT, Nat.reduceEqDiff, Nat.reduceAdd, zT, hrr, hx7, Int.toNat_natCast, Int.toNat_zero, Int.toNat_one, c0, c1, c2, c3, x0, x1, x2, x3]
          refine ⟨by omega, by omega, by omega, by omega, by omega, by omega, by omega, by omega, by kernel_rfl, _, quarter_at _ _ _ _ _ (hxok.2 _) (hxok.2 _) (hxok.2 _) (hxok.2 _), ?_⟩
          simp only [zS, reduceIte, Nat.reduceLT, Int.reduceToNat, Int.reduceLE, Int.reduceEq, Int.reduceLT, Nat.reduceEqDiff, Nat.reduceAdd, List.getElem?_cons_succ, List.getElem?_cons_zero]
          have hstep : Cha.step x r = (((x.set i0 (Cha.quarter (x.getD i0 0) (x.getD i1 0) (x.getD i2 0) (x.getD i3 0)).1).set i1 (Cha.quarter (x.getD i0 0) (x.getD i1 0) (x.getD i2 0) (x.getD i3 0)).2.1).set i2 (Cha.quarter (x.getD i0 0) (x.getD i1 0) (x.getD i2 0) (x.getD i3 0)).2.2.1).set i3 (Cha.quarter (x.getD i0 0) (x.getD i1 0) (x.getD i2 0) (x.getD i3 0)).2.2.2 := by
            rw [hi0, hi1, hi2, hi3]; rfl
          obtain ⟨y, hy⟩ : ∃ y, y = Cha.quarter (x.getD i0 0) (x.getD i1 0) (x.getD i2 0) (x.getD i3 0) := ⟨_, rfl⟩
          rw [← hy] at hstep ⊢
          have hother : ∀ (M : Mem) (o : Option Blk) (b : Nat), b ≠ gx → (M.set gx o).get b = M.get b := fun M o b hb => Mem.get_set_ne (Ne.symm hb) o
          clear hi0 hi1 hi2 hi3 x0 x1 x2 x3
          refine SW_keep [7, 8, 9, 10, 11, 12, 13, 14, 15, 16] ?_
          simp only [zS, reduceIte, Nat.reduceLT, Int.reduceToNat, Int.reduceLE, Int.reduceEq, Int.reduceLT, Nat.reduceEqDiff, Nat.reduceAdd]
          have hst0 := store_int hx7 (i := i0) (by simp [hxok.1]; omega) ((y.1 : Nat) : Int)
          rw [natV_set] at hst0
          refine SW_seq (SW_region ?_)
          simp only [zS, reduceIte, Nat.reduceLT, Int.reduceToNat, Int.reduceLE, Int.reduceEq, Int.reduceLT, Nat.reduceEqDiff, Nat.reduceAdd, zT, hrr, hx7, Int.toNat_natCast, Int.toNat_zero, Int.toNat_one, c0, hst0]
          refine ⟨by omega, by simp; omega, ?_⟩
          obtain ⟨M0, hM0⟩ : ∃ M', M' = Mem.set M gx (some (.cells false 1 ((x.set i0 y.1).map natV))) := ⟨_, rfl⟩
          rw [← hM0]
          replace hrr : M0.get (B + r) = some (.cells false 1 ((Cha.rows.getD r []).map natV)) := by rw [hM0, hother _ _ _ (by omega)]; exact hrr
          have hx7' : M0.get gx = some (.cells false 1 ((x.set i0 y.1).map natV)) := by rw [hM0]; exact Mem.get_set_same hx7 _
          replace hs7 : M0.get gs = some (.cells false 1 (S.map natV)) := by rw [hM0, hother _ _ _ hne]; exact hs7
          replace h9 : M0.get g9 = some (.cells false 1 R) := by rw [hM0, hother _ _ _ (by omega)]; exact h9
          replace hrow : ∀ r, r < 8 → M0.get (B + r) = some (.cells false 1 ((Cha.rows.getD r []).map natV)) := fun r hr => by rw [hM0, hother _ _ _ (by omega)]; exact hrow r hr
          replace hg7 : Grows m M0 := by rw [hM0]; exact hg7.set hgx1 _
          clear hM0 hst0 hx7
          have hx7 := hx7'
          clear hx7'
          have hst1 := store_int hx7 (i := i1) (by simp [hxok.1]; omega) ((y.2.1 : Nat) : Int)
          rw [natV_set] at hst1
          refine SW_seq (SW_region ?_)
          simp only [zS, reduceIte, Nat.reduceLT, Int.reduceToNat, Int.reduceLE, Int.reduceEq, Int.reduceLT, Nat.reduceEqDiff, Nat.reduceAdd, zT, hrr, hx7, Int.toNat_natCast, Int.toNat_zero, Int.toNat_one, c1, hst1]
          refine ⟨by omega, by simp; omega, ?_⟩
          obtain ⟨M1, hM1⟩ : ∃ M', M' = Mem.set M0 gx (some (.cells false 1 (((x.set i0 y.1).set i1 y.2.1).map natV))) := ⟨_, rfl⟩
          rw [← hM1]
          replace hrr : M1.get (B + r) = some (.cells false 1 ((Cha.rows.getD r []).map natV)) := by rw [hM1, hother _ _ _ (by omega)]; exact hrr
          have hx7' : M1.get gx = some (.cells false 1 (((x.set i0 y.1).set i1 y.2.1).map natV)) := by rw [hM1]; exact Mem.get_set_same hx7 _
          replace hs7 : M1.get gs = some (.cells false 1 (S.map natV)) := by rw [hM1, hother _ _ _ hne]; exact hs7
          replace h9 : M1.get g9 = some (.cells false 1 R) := by rw [hM1, hother _ _ _ (by omega)]; exact h9
          replace hrow : ∀ r, r < 8 → M1.get (B + r) = some (.cells false 1 ((Cha.rows.getD r []).map natV)) := fun r hr => by rw [hM1, hother _ _ _ (by omega)]; exact hrow r hr
          replace hg7 : Grows m M1 := by rw [hM1]; exact hg7.set hgx1 _
          clear hM1 hst1 hx7
          have hx7 := hx7'
          clear hx7'
          have hst2 := store_int hx7 (i := i2) (by simp [hxok.1]; omega) ((y.2.2.1 : Nat) : Int)
          rw [natV_set] at hst2
          refine SW_seq (SW_region ?_)
          simp only [zS, reduceIte, Nat.reduceLT, Int.reduceToNat, Int.reduceLE, Int.reduceEq, Int.reduceLT, Nat.reduceEqDiff, Nat.reduceAdd, zT, hrr, hx7, Int.toNat_natCast, Int.toNat_zero, Int.toNat_one, c2, hst2]
          refine ⟨by omega, by simp; omega, ?_⟩
          obtain ⟨M2, hM2⟩ : ∃ M', M' = Mem.set M1 gx (some (.cells false 1 ((((x.set i0 y.1).set i1 y.2.1).set i2 y.2.2.1).map natV))) := ⟨_, rfl⟩
          rw [← hM2]
          replace hrr : M2.get (B + r) = some (.cells false 1 ((Cha.rows.getD r []).map natV)) := by rw [hM2, hother _ _ _ (by omega)]; exact hrr
          have hx7' : M2.get gx = some (.cells false 1 ((((x.set i0 y.1).set i1 y.2.1).set i2 y.2.2.1).map natV)) := by rw [hM2]; exact Mem.get_set_same hx7 _
          replace hs7 : M2.get gs = some (.cells false 1 (S.map natV)) := by rw [hM2, hother _ _ _ hne]; exact hs7
          replace h9 : M2.get g9 = some (.cells false 1 R) := by rw [hM2, hother _ _ _ (by omega)]; exact h9
          replace hrow : ∀ r, r < 8 → M2.get (B + r) = some (.cells false 1 ((Cha.rows.getD r []).map natV)) := fun r hr => by rw [hM2, hother _ _ _ (by omega)]; exact hrow r hr
          replace hg7 : Grows m M2 := by rw [hM2]; exact hg7.set hgx1 _
          clear hM2 hst2 hx7
          have hx7 := hx7'
          clear hx7'
          have hst3 := store_int hx7 (i := i3) (by simp [hxok.1]; omega) ((y.2.2.2 : Nat) : Int)
          rw [natV_set] at hst3
          refine (SW_region ?_)
          simp only [zS, reduceIte, Nat.reduceLT, Int.reduceToNat, Int.reduceLE, Int.reduceEq, Int.reduceLT, Nat.reduceEqDiff, Nat.reduceAdd, zT, hrr, hx7, Int.toNat_natCast, Int.toNat_zero, Int.toNat_one, c3, hst3]
          refine ⟨by omega, by simp; omega, ?_⟩
          obtain ⟨M3, hM3⟩ : ∃ M', M' = Mem.set M2 gx (some (.cells false 1 (((((x.set i0 y.1).set i1 y.2.1).set i2 y.2.2.1).set i3 y.2.2.2).map natV))) := ⟨_, rfl⟩
          rw [← hM3]
          replace hrr : M3.get (B + r) = some (.cells false 1 ((Cha.rows.getD r []).map natV)) := by rw [hM3, hother _ _ _ (by omega)]; exact hrr
          have hx7' : M3.get gx = some (.cells false 1 (((((x.set i0 y.1).set i1 y.2.1).set i2 y.2.2.1).set i3 y.2.2.2).map natV)) := by rw [hM3]; exact Mem.get_set_same hx7 _
          replace hs7 : M3.get gs = some (.cells false 1 (S.map natV)) := by rw [hM3, hother _ _ _ hne]; exact hs7
          replace h9 : M3.get g9 = some (.cells false 1 R) := by rw [hM3, hother _ _ _ (by omega)]; exact h9
          replace hrow : ∀ r, r < 8 → M3.get (B + r) = some (.cells false 1 ((Cha.rows.getD r []).map natV)) := fun r hr => by rw [hM3, hother _ _ _ (by omega)]; exact hrow r hr
          replace hg7 : Grows m M3 := by rw [hM3]; exact hg7.set hgx1 _
          clear hM3 hst3 hx7
          have hx7 := hx7'
          clear hx7'
          refine SW_region ?_
          simp only [zS, reduceIte, Nat.reduceLT, Int.reduceToNat, Int.reduceLE, Int.reduceEq, Int.reduceLT, Nat.reduceEqDiff, Nat.reduceAdd, xr]
          refine ⟨k2 - 1, ⟨r + 1, by omega, rfl, hs7, ?_, h9, hrow, hg7⟩, by omega⟩
          rw [show Cha.inner (Cha.dbl S n) (r + 1) = Cha.step x r by rw [hx]; rfl, hstep]
          exact hx7
        · simp only [zS, reduceIte, Nat.reduceLT, Int.reduceToNat, Int.reduceLE, Int.reduceEq, Int.reduceLT, Nat.reduceEqDiff, Nat.reduceAdd]
          have hr8' : r = 8 := by have := of_decide_eq_false hc; omega
          subst hr8'
          refine SW_region ?_
          simp only [zS, reduceIte, Nat.reduceLT, Int.reduceToNat, Int.reduceLE, Int.reduceEq, Int.reduceLT, Nat.reduceEqDiff, Nat.reduceAdd, xn]
          refine ⟨k - 1, ⟨n + 1, by omega, rfl, hs7, ?_, h9, hrow, hg7⟩, by omega⟩
          rw [show Cha.dbl S (n + 1) = x by rw [hx]; rfl]
          exact hx7
    · simp only [zS, reduceIte, Nat.reduceLT, Int.reduceToNat, Int.reduceLE, Int.reduceEq, Int.reduceLT, Nat.reduceEqDiff, Nat.reduceAdd]
      have hn10' : n = 10 := by have := of_decide_eq_false hc; omega
      subst hn10'
      obtain ⟨X, hX⟩ : ∃ X, X = Cha.dbl S 10 := ⟨_, rfl⟩
      rw [← hX] at hx7 hok
      clear h9 hrow hc
      refine SW_seq (SW_region ?_)
      simp only [zS, reduceIte, Nat.reduceLT, Int.reduceToNat, Int.reduceLE, Int.reduceEq, Int.reduceLT, Nat.reduceEqDiff, Nat.reduceAdd]
      refine SW_seq (SW_seq (SW_region ?_))
      simp only [zS, reduceIte, Nat.reduceLT, Int.reduceToNat, Int.reduceLE, Int.reduceEq, Int.reduceLT, Nat.reduceEqDiff, Nat.reduceAdd]
      refine SW_block (SW_loopK [7, 8, 17, 18] (fun k f M' => ∃ (u : Nat) (o : Value), u + k = 16 ∧ f = [(7, .slice (some ⟨gs, 0, none⟩) 16 16), (8, .slice (some ⟨gx, 0, none⟩) 16 16), (17, o), (18, .int .i64 (u : Int))] ∧ Sl M' o (bytesV (Cha.outN X S u)) ∧ Grows M M' ∧ (∀ g l c, o = .slice (some ⟨g, 0, none⟩) l c → M.size ≤ g)) 16 ?_ ?_)
      · simp only [zS, reduceIte, Nat.reduceLT, Int.reduceToNat, Int.reduceLE, Int.reduceEq, Int.reduceLT, Nat.reduceEqDiff, Nat.reduceAdd]
        exact ⟨0, _, rfl, rfl, .inl ⟨rfl, rfl⟩, Grows.refl M, fun g l c e => by cases e⟩
      · rintro k2 f M1 ⟨u, o, hu16, rfl, ho, hgM, hnM⟩
        refine SW_seq (SW_seq (SW_region ?_))
        simp only [zS, reduceIte, Nat.reduceLT, Int.reduceToNat, Int.reduceLE, Int.reduceEq, Int.reduceLT, Nat.reduceEqDiff, Nat.reduceAdd]
        refine SW_cond (decide ((u : Int) < 16)) (by rfl) (fun hc => SW_skip ?_) (fun hc => SW_exit ?_)
        · simp only [zS, reduceIte, Nat.reduceLT, Int.reduceToNat, Int.reduceLE, Int.reduceEq, Int.reduceLT, Nat.reduceEqDiff, Nat.reduceAdd]
          have hul : u < 16 := by have := of_decide_eq_true hc; omega
          have xu : IntKind.i64.wrap ((u : Int) + 1) = ((u + 1 : Nat) : Int) := by rw [wr (by omega) (by omega)]; omega
          have p1 := hgM.2 _ _ hs7
          have p2 := hgM.2 _ _ hx7
          have d1 := natV_at (x := S) (i := u) (by rw [hSok.1]; exact hul)
          have d2 := natV_at (x := X) (i := u) (by rw [hok.1]; exact hul)
          obtain ⟨w, hw⟩ : ∃ w, w = Cha.add (X.getD u 0) (S.getD u 0) := ⟨_, rfl⟩
          have hwl : w < 4294967296 := by rw [hw]; exact Cha.add_lt _ _
          refine SW_seq (SW_block (SW_seq (SW_draw hmix 10 (by kernel_rfl) (by kernel_rfl) ?_)))
          simp only [zS, reduceIte, Nat.reduceLT, Int.reduceToNat, Int.reduceLE, Int.reduceEq, Int.reduceLT, Nat.reduceEqDiff, Nat.reduceAdd, zT, p1, p2, Int.toNat_natCast, d1, d2, a32 _ _ (hok.2 u) (hSok.2 u), ← hw]
          refine ⟨by omega, by omega, ?_⟩
          refine SW_seq (SW_region ?_)
          simp only [zS, reduceIte, Nat.reduceLT, Int.reduceToNat, Int.reduceLE, Int.reduceEq, Int.reduceLT, Nat.reduceEqDiff, Nat.reduceAdd]
          refine SW_block (SW_loopK [7, 8, 17, 18, 19, 20] (fun k f M' => ∃ (e : Nat) (o : Value), e + k = 4 ∧ f = [(7, .slice (some ⟨gs, 0, none⟩) 16 16), (8, .slice (some ⟨gx, 0, none⟩) 16 16), (17, o), (18, .int .i64 (u : Int)), (19, .int .i64 ((w / 256 ^ e : Nat) : Int)), (20, .int .i64 (e : Int))] ∧ Sl M' o (bytesV (Cha.outN X S u ++ (Cha.le w 4).take e)) ∧ Grows M M' ∧ (∀ g l c, o = .slice (some ⟨g, 0, none⟩) l c → M.size ≤ g)) 4 ?_ ?_)
          · simp only [zS, reduceIte, Nat.reduceLT, Int.reduceToNat, Int.reduceLE, Int.reduceEq, Int.reduceLT, Nat.reduceEqDiff, Nat.reduceAdd]
            exact ⟨0, _, rfl, by simp, by simpa using ho, hgM, hnM⟩
          · clear ho hgM hnM p1 p2
            rintro k3 f M2 ⟨e, o, he4, rfl, ho, hgM, hnM⟩
            refine SW_seq (SW_seq (SW_region ?_))
            simp only [zS, reduceIte, Nat.reduceLT, Int.reduceToNat, Int.reduceLE, Int.reduceEq, Int.reduceLT, Nat.reduceEqDiff, Nat.reduceAdd]
            refine SW_cond (decide ((e : Int) < 4)) (by rfl) (fun hc => SW_skip ?_) (fun hc => SW_exit ?_)
            · simp only [zS, reduceIte, Nat.reduceLT, Int.reduceToNat, Int.reduceLE, Int.reduceEq, Int.reduceLT, Nat.reduceEqDiff, Nat.reduceAdd]
              have hel : e < 4 := by have := of_decide_eq_true hc; omega
              have xe : IntKind.i64.wrap ((e : Int) + 1) = ((e + 1 : Nat) : Int) := by rw [wr (by omega) (by omega)]; omega
              have hdv : w / 256 ^ e ≤ w := Nat.div_le_self _ _
              have hby : Value.int .u8 (bits .and .i64 ((w / 256 ^ e : Nat) : Int) 255 % 256) = byteV (UInt8.ofNat (w / 256 ^ e % 256)) := by
                have e2 := i64_and_nat (w / 256 ^ e) 255 (by omega) (by omega)
                rw [show w / 256 ^ e &&& 255 = w / 256 ^ e % 256 from Nat.and_two_pow_sub_one_eq_mod _ 8] at e2
                unfold byteV
                congr 1
                refine (congrArg (· % 256) e2).trans ?_
                rw [UInt8.toNat_ofNat']
                omega
              have hsh : ((w / 256 ^ e : Nat) : Int).fdiv (2 ^ min 8 IntKind.i64.bits) = ((w / 256 ^ (e + 1) : Nat) : Int) := by
                rw [bits_i64, Nat.pow_succ, ← Nat.div_div_eq_div_mul]
                exact Int.fdiv_eq_ediv_of_nonneg _ (by decide)
              have hlen : (bytesV (Cha.outN X S u ++ (Cha.le w 4).take e)).length ≤ 100 := by
                have h1 : (Cha.outN X S u).length = 4 * u := outN_length X S u
                simp only [bytesV, List.length_map, List.length_append, h1, List.length_take]
                omega
              obtain ⟨s', m2, happ, hs', hgr', hnew'⟩ := ho.app_u8 hgM hnM (.int .u8 (bits .and .i64 ((w / 256 ^ e : Nat) : Int) 255 % 256)) (by omega)
              have hcat : bytesV (Cha.outN X S u ++ (Cha.le w 4).take e) ++ [Value.int .u8 (bits .and .i64 ((w / 256 ^ e : Nat) : Int) 255 % 256)] = bytesV (Cha.outN X S u ++ (Cha.le w 4).take (e + 1)) := by
                rw [hby, List.take_add_one, le_get w 4 e hel]
                simp [bytesV]
              rw [hcat] at hs'
              refine SW_seq (SW_block (SW_seq (SW_region ?_)))
              simp only [zS, reduceIte, Nat.reduceLT, Int.reduceToNat, Int.reduceLE, Int.reduceEq, Int.reduceLT, Nat.reduceEqDiff, Nat.reduceAdd, zT, wrap_u8, happ]
              refine SW_region ?_
              simp only [zS, reduceIte, Nat.reduceLT, Int.reduceToNat, Int.reduceLE, Int.reduceEq, Int.reduceLT, Nat.reduceEqDiff, Nat.reduceAdd, hsh]
              refine SW_region ?_
              simp only [zS, reduceIte, Nat.reduceLT, Int.reduceToNat, Int.reduceLE, Int.reduceEq, Int.reduceLT, Nat.reduceEqDiff, Nat.reduceAdd, xe]
              exact ⟨k3 - 1, ⟨e + 1, s', by omega, rfl, hs', hgr', hnew'⟩, by omega⟩
            · simp only [zS, reduceIte, Nat.reduceLT, Int.reduceToNat, Int.reduceLE, Int.reduceEq, Int.reduceLT, Nat.reduceEqDiff, Nat.reduceAdd]
              have he4' : e = 4 := by have := of_decide_eq_false hc; omega
              subst he4'
              refine SW_region ?_
              simp only [zS, reduceIte, Nat.reduceLT, Int.reduceToNat, Int.reduceLE, Int.reduceEq, Int.reduceLT, Nat.reduceEqDiff, Nat.reduceAdd, xu]
              refine ⟨k2 - 1, ⟨u + 1, o, by omega, rfl, ?_, hgM, hnM⟩, by omega⟩
              have : Cha.outN X S (u + 1) = Cha.outN X S u ++ (Cha.le w 4).take 4 := by
                rw [hw]; simp [Cha.outN, List.range_succ, Cha.le]
              rw [this]
              exact ho
        · simp only [zS, reduceIte, Nat.reduceLT, Int.reduceToNat, Int.reduceLE, Int.reduceEq, Int.reduceLT, Nat.reduceEqDiff, Nat.reduceAdd]
          have hu16' : u = 16 := by have := of_decide_eq_false hc; omega
          subst hu16'
          refine SW_seq (SW_region ?_)
          simp only [zS, reduceIte, Nat.reduceLT, Int.reduceToNat, Int.reduceLE, Int.reduceEq, Int.reduceLT, Nat.reduceEqDiff, Nat.reduceAdd]
          refine SW_ret ?_
          simp only [zS, reduceIte, Nat.reduceLT, Int.reduceToNat, Int.reduceLE, Int.reduceEq, Int.reduceLT, Nat.reduceEqDiff, Nat.reduceAdd, sAnswer, sAnswer.sRes]
          refine ⟨?_, hg7.trans hgM, fun g l c e => Nat.le_trans hg7.1 (hnM g l c e)⟩
          rw [Cha.block, ← hS, ← hX]
          exact ho
end Go.Proofs.YtkkleedpakcfgaaGreatDoor
namespace Go.Proofs.YtkkleedpakcfgaaGreatDoor
open Go.RowKit Abs
theorem Cha.block_length (key nonce : List UInt8) (c : Nat) : (Cha.block key nonce c).length = 64 := by rw [Cha.block, outN_length]
def Cha.xorAt (key nonce : List UInt8) (c : Nat) (l : List UInt8) (i : Nat) : UInt8 := (Cha.block key nonce (c + i / 64)).getD (i % 64) 0 ^^^ l.getD i 0
def Cha.xorN (key nonce : List UInt8) (c : Nat) (l : List UInt8) (n : Nat) : List UInt8 := (List.range n).map (Cha.xorAt key nonce c l)
theorem aUn_not (b : Bool) : aUn .not (.bool b) = some (.bool !b) := rfl
set_option maxRecDepth 100000 in
theorem cright_spec (m : Mem) (key nonce : ByteArray) (c : Nat) (hk : key.size = 32) (hn : nonce.size = 12) (hc : c ≤ 4294967295) :
    Abs.Spec Tryz.prog 259 [.string key, .string nonce, .int .i64 (c : Int)] m fun v _ => v = .bool true := by
  have e1 : bsize key = 32 := by rw [bsize_data, hk]
  have e2 : bsize nonce = 12 := by rw [bsize_data, hn]
  have e3 : decide ((c : Int) ≥ 0) = true := by simp
  have e4 : decide ((c : Int) ≤ 4294967295) = true := by simp; omega
  have e5 : (((32 : Nat) : Int) == 32) = true := rfl
  have e6 : (((12 : Nat) : Int) == 12) = true := rfl
  refine Abs.Spec.walk Tryz.func259 (by rfl) _ Tryz.results259 _ Tryz.ntmps259 (by simp) ?_
  refine SW_seq (SW_region ?_)
  simp only [zS, reduceIte, Nat.reduceLT, Int.reduceToNat, Int.reduceLE, Int.reduceEq, Int.reduceLT, Nat.reduceEqDiff, Nat.reduceAdd]
  refine SW_seq (SW_region ?_)
  simp only [zS, reduceIte, Nat.reduceLT, Int.reduceToNat, Int.reduceLE, Int.reduceEq, Int.reduceLT, Nat.reduceEqDiff, Nat.reduceAdd, zT, e1, e2, e3, e4, e5, e6, Region.wanted, beq_self_eq_true, List.getElem?_cons_succ, List.getElem?_cons_zero]
  refine SW_ret ?_
  simp only [zS, reduceIte, Nat.reduceLT, Int.reduceToNat, Int.reduceLE, Int.reduceEq, Int.reduceLT, Nat.reduceEqDiff, Nat.reduceAdd, sAnswer, sAnswer.sRes]
theorem cright_at (M : Mem) (key nonce : ByteArray) (c : Nat) (hk : key.size = 32) (hn : nonce.size = 12) (hc : c ≤ 4294967295) :
    Abs.Spec Tryz.prog 259 [.string key, .string nonce, .int .i64 (c : Int)] M fun v M' => v = .bool true ∧ M' = M :=
  Abs.Spec.of_empty (by intro x hx; simp at hx; rcases hx with rfl | rfl | rfl <;> rfl) rfl (cright_spec ⟨[]⟩ key nonce c hk hn hc) M
set_option maxRecDepth 100000 in
set_option maxHeartbeats 2000000 in
theorem xor_spec (m : Mem) (key nonce s : ByteArray) (c : Nat) (hk : key.size = 32) (hn : nonce.size = 12) (hc : c ≤ 1000) (hs : s.size ≤ 1000000) (hs0 : 0 < s.size) :
    Abs.Spec Tryz.prog 233 [.string key, .string nonce, .int .i64 (c : Int), .string s] m fun v _ => v = .tuple #[.string (str (Cha.xorN key.data.toList nonce.data.toList c s.data.toList s.size)), .int .i64 0] := by
  obtain ⟨xs, hxs⟩ : ∃ xs, xs = Cha.xorN key.data.toList nonce.data.toList c s.data.toList := ⟨_, rfl⟩
  have hxl : ∀ n, (xs n).length = n := fun n => by rw [hxs]; simp [Cha.xorN]
  have hbs : bsize s = s.size := bsize_data s
  obtain ⟨nb, hnb⟩ : ∃ nb, nb = (s.size + 63) / 64 := ⟨_, rfl⟩
  rw [← hxs]
  have w1 : IntKind.i64.wrap ((s.size : Int) + 63) = ((s.size + 63 : Nat) : Int) := by rw [wr (by omega) (by omega)]; omega
  have w2 : IntKind.i64.wrap (((s.size + 63 : Nat) : Int).tdiv 64) = (nb : Int) := by
    have : ((s.size + 63 : Nat) : Int).tdiv 64 = ((((s.size + 63) / 64 : Nat)) : Int) := rfl
    rw [this, ← hnb, wr (by omega) (by omega)]
  have w3 : IntKind.i64.wrap ((nb : Int) - 1) = ((nb - 1 : Nat) : Int) := by rw [wr (by omega) (by omega)]; omega
  have w4 : IntKind.i64.wrap (4294967295 - (c : Int)) = ((4294967295 - c : Nat) : Int) := by rw [wr (by omega) (by omega)]; omega
  have q0 : ((64 : Int) = 0) = False := by simp
  refine Abs.Spec.walk Tryz.func233 (by rfl) _ Tryz.results233 _ Tryz.ntmps233 (by simp) ?_
  refine SW_seq (SW_region ?_)
  simp only [zS, reduceIte, Nat.reduceLT, Int.reduceToNat, Int.reduceLE, Int.reduceEq, Int.reduceLT, Nat.reduceEqDiff, Nat.reduceAdd]
  refine SW_seq (SW_seq (SW_region ?_))
  simp only [zS, reduceIte, Nat.reduceLT, Int.reduceToNat, Int.reduceLE, Int.reduceEq, Int.reduceLT, Nat.reduceEqDiff, Nat.reduceAdd]
  refine ⟨by kernel_rfl, _, cright_at _ key nonce c hk hn (by omega), ?_⟩
  rintro _ M1 ⟨rfl, hM⟩
  simp only [zS, reduceIte, Nat.reduceLT, Int.reduceToNat, Int.reduceLE, Int.reduceEq, Int.reduceLT, Nat.reduceEqDiff, Nat.reduceAdd, aUn_not, Bool.not_true]
  refine SW_cond false (by rfl) (fun h => by cases h) (fun _ => SW_skip ?_)
  simp only [zS, reduceIte, Nat.reduceLT, Int.reduceToNat, Int.reduceLE, Int.reduceEq, Int.reduceLT, Nat.reduceEqDiff, Nat.reduceAdd]
  refine SW_seq (SW_region ?_)
  simp only [zS, reduceIte, Nat.reduceLT, Int.reduceToNat, Int.reduceLE, Int.reduceEq, Int.reduceLT, Nat.reduceEqDiff, Nat.reduceAdd, zT, hbs, w1, q0, w2]
  refine SW_seq (SW_seq (SW_region ?_))
  simp only [zS, reduceIte, Nat.reduceLT, Int.reduceToNat, Int.reduceLE, Int.reduceEq, Int.reduceLT, Nat.reduceEqDiff, Nat.reduceAdd, w3, w4]
  refine SW_cond (decide (((nb - 1 : Nat) : Int) > ((4294967295 - c : Nat) : Int))) (by rfl) (fun h => by have := of_decide_eq_true h; omega) (fun _ => SW_skip ?_)
  simp only [zS, reduceIte, Nat.reduceLT, Int.reduceToNat, Int.reduceLE, Int.reduceEq, Int.reduceLT, Nat.reduceEqDiff, Nat.reduceAdd]
  refine SW_seq (SW_region ?_)
  simp only [zS, reduceIte, Nat.reduceLT, Int.reduceToNat, Int.reduceLE, Int.reduceEq, Int.reduceLT, Nat.reduceEqDiff, Nat.reduceAdd]
  refine SW_seq (SW_seq (SW_region ?_))
  simp only [zS, reduceIte, Nat.reduceLT, Int.reduceToNat, Int.reduceLE, Int.reduceEq, Int.reduceLT, Nat.reduceEqDiff, Nat.reduceAdd]
  refine SW_block (SW_loopK [0, 1, 2, 3, 10, 11, 12] (fun n f M => ∃ (k : Nat) (o : Value), k + n = nb ∧ f = [(0, .string key), (1, .string nonce), (2, .int .i64 (c : Int)), (3, .string s), (10, .int .i64 (nb : Int)), (11, o), (12, .int .i64 (k : Int))] ∧ Sl M o (bytesV (xs (min (64 * k) s.size))) ∧ Grows m M ∧ (∀ g l c, o = .slice (some ⟨g, 0, none⟩) l c → m.size ≤ g)) nb ?_ ?_)
  · simp only [zS, reduceIte, Nat.reduceLT, Int.reduceToNat, Int.reduceLE, Int.reduceEq, Int.reduceLT, Nat.reduceEqDiff, Nat.reduceAdd]
    refine ⟨0, _, by omega, rfl, .inl ⟨rfl, ?_⟩, by rw [hM]; exact Grows.refl m, fun g l c e => by cases e⟩
    rw [hxs]; simp [Cha.xorN, bytesV]
  · clear hM
    rintro n f M ⟨k, o, hkn, rfl, ho, hgr, hnew⟩
    refine SW_seq (SW_seq (SW_region ?_))
    simp only [zS, reduceIte, Nat.reduceLT, Int.reduceToNat, Int.reduceLE, Int.reduceEq, Int.reduceLT, Nat.reduceEqDiff, Nat.reduceAdd]
    refine SW_cond (decide ((k : Int) < (nb : Int))) (by rfl) (fun h => SW_skip ?_) (fun h => SW_exit ?_)
    · simp only [zS, reduceIte, Nat.reduceLT, Int.reduceToNat, Int.reduceLE, Int.reduceEq, Int.reduceLT, Nat.reduceEqDiff, Nat.reduceAdd]
      have hkl : k < nb := by have := of_decide_eq_true h; omega
      have hmin : min (64 * k) s.size = 64 * k := by omega
      rw [hmin] at ho
      have w5 : IntKind.i64.wrap ((c : Int) + (k : Int)) = ((c + k : Nat) : Int) := by rw [wr (by omega) (by omega)]; omega
      have w6 : IntKind.i64.wrap ((k : Int) + 1) = ((k + 1 : Nat) : Int) := by rw [wr (by omega) (by omega)]; omega
      have w7 : IntKind.i64.wrap (64 * (k : Int)) = ((64 * k : Nat) : Int) := by rw [wr (by omega) (by omega)]; omega
      refine SW_seq (SW_block (SW_seq (SW_region ?_)))
      simp only [zS, reduceIte, Nat.reduceLT, Int.reduceToNat, Int.reduceLE, Int.reduceEq, Int.reduceLT, Nat.reduceEqDiff, Nat.reduceAdd, w5]
      refine ⟨by kernel_rfl, _, block_spec M key nonce (c + k) hk hn (by omega), ?_⟩
      rintro vb M1 ⟨hvb, hg1, hn1⟩
      obtain ⟨blk, hblk⟩ : ∃ blk, blk = Cha.block key.data.toList nonce.data.toList (c + k) := ⟨_, rfl⟩
      rw [← hblk] at hvb
      have hbl : blk.length = 64 := by rw [hblk, Cha.block_length]
      have hbvl : (bytesV blk).length = 64 := by simp [bytesV, hbl]
      obtain ⟨gb, rfl, hgb⟩ := hvb.at (by omega)
      rw [hbvl]
      have ho1 : Sl M1 o (bytesV (xs (64 * k))) := by
        rcases ho with h | ⟨g, h1, h2⟩
        · exact .inl h
        · exact .inr ⟨g, h1, hg1.2 _ _ h2⟩
      have hne : ∀ g l c, o = .slice (some ⟨g, 0, none⟩) l c → g ≠ gb := by
        intro g l c e
        have h1 := hn1 gb _ _ (by rw [hbvl])
        rcases ho with ⟨h2, _⟩ | ⟨g', h2, h3⟩
        · rw [h2] at e; cases e
        · rw [h2] at e; cases e
          have := Mem.get_lt h3
          omega
      clear ho hvb hn1
      simp only [zS, reduceIte, Nat.reduceLT, Int.reduceToNat, Int.reduceLE, Int.reduceEq, Int.reduceLT, Nat.reduceEqDiff, Nat.reduceAdd]
      refine SW_seq (SW_region ?_)
      simp only [zS, reduceIte, Nat.reduceLT, Int.reduceToNat, Int.reduceLE, Int.reduceEq, Int.reduceLT, Nat.reduceEqDiff, Nat.reduceAdd]
      refine SW_block (SW_loopK [0, 1, 2, 3, 10, 11, 12, 13, 14] (fun n f M' => ∃ (i : Nat) (o : Value), i + n = 64 ∧ 64 * k + i ≤ s.size ∧ f = [(0, .string key), (1, .string nonce), (2, .int .i64 (c : Int)), (3, .string s), (10, .int .i64 (nb : Int)), (11, o), (12, .int .i64 (k : Int)), (13, .slice (some ⟨gb, 0, none⟩) 64 64), (14, .int .i64 (i : Int))] ∧
        Sl M' o (bytesV (xs (64 * k + i))) ∧ M'.get gb = some (.cells false 1 (bytesV blk)) ∧ Grows m M' ∧ (∀ g l c, o = .slice (some ⟨g, 0, none⟩) l c → m.size ≤ g ∧ g ≠ gb)) 64 ?_ ?_)
      · simp only [zS, reduceIte, Nat.reduceLT, Int.reduceToNat, Int.reduceLE, Int.reduceEq, Int.reduceLT, Nat.reduceEqDiff, Nat.reduceAdd]
        exact ⟨0, _, rfl, by omega, rfl, ho1, hgb, hgr.trans hg1, fun g l c e => ⟨hnew g l c e, hne g l c e⟩⟩
      · clear ho1 hgb hgr hg1 hnew hne
        rintro n2 f M2 ⟨i, o, hin, hle, rfl, ho, hgb, hgr, hnew⟩
        by_cases hi : i < 64
        · have e1 : decide ((i : Int) < 64) = true := by simp; omega
          have w8 : IntKind.i64.wrap (((64 * k : Nat) : Int) + (i : Int)) = ((64 * k + i : Nat) : Int) := by rw [wr (by omega) (by omega)]; omega
          refine SW_seq (SW_seq (SW_region ?_))
          simp only [zS, reduceIte, Nat.reduceLT, Int.reduceToNat, Int.reduceLE, Int.reduceEq, Int.reduceLT, Nat.reduceEqDiff, Nat.reduceAdd, zT, e1, Region.wanted, beq_self_eq_true, List.getElem?_cons_succ, List.getElem?_cons_zero, w7, w8, hbs]
          refine SW_cond (decide (((64 * k + i : Nat) : Int) < (s.size : Int))) (by rfl) (fun h => SW_skip ?_) (fun h => SW_exit ?_)
          · simp only [zS, reduceIte, Nat.reduceLT, Int.reduceToNat, Int.reduceLE, Int.reduceEq, Int.reduceLT, Nat.reduceEqDiff, Nat.reduceAdd]
            have hlt : 64 * k + i < s.size := by have := of_decide_eq_true h; omega
            have w9 : IntKind.i64.wrap ((i : Int) + 1) = ((i + 1 : Nat) : Int) := by rw [wr (by omega) (by omega)]; omega
            obtain ⟨b, hb⟩ : ∃ b, blk[i]? = some b := ⟨blk[i]'(by omega), List.getElem?_eq_getElem (by omega)⟩
            have hbg : (bytesV blk)[i]? = some (.int .u8 (b.toNat : Int)) := by rw [bytesV, List.getElem?_map, hb]; rfl
            have hsi := Abs.index_str s ((64 * k + i : Nat) : Int) (64 * k + i) rfl hlt
            obtain ⟨d, hd⟩ : ∃ d, d = s.data.toList.getD (64 * k + i) 0 := ⟨_, rfl⟩
            rw [← hd] at hsi
            have hbl' := UInt8.toNat_lt b
            have hdl' := UInt8.toNat_lt d
            have v1 : IntKind.i64.wrap (b.toNat : Int) = (b.toNat : Int) := wr (by omega) (by omega)
            have v2 : IntKind.i64.wrap (d.toNat : Int) = (d.toNat : Int) := wr (by omega) (by omega)
            have hol : (bytesV (xs (64 * k + i))).length = 64 * k + i := by simp [bytesV, hxl]
            have hgrb : Grows M2 M2 := Grows.refl M2
            obtain ⟨s', m2, happ, hs', hgr', hnew'⟩ := ho.app_u8 hgr (fun g l c e => (hnew g l c e).1) (.int .u8 (bits .xor .i64 (b.toNat : Int) (d.toNat : Int) % 256)) (by omega)
            have hcat : bytesV (xs (64 * k + i)) ++ [Value.int .u8 (bits .xor .i64 (b.toNat : Int) (d.toNat : Int) % 256)] = bytesV (xs (64 * k + (i + 1))) := by
              rw [xor_byte]
              have : xs (64 * k + (i + 1)) = xs (64 * k + i) ++ [b ^^^ d] := by
                have hat : Cha.xorAt key.data.toList nonce.data.toList c s.data.toList (64 * k + i) = b ^^^ d := by
                  unfold Cha.xorAt
                  rw [show (64 * k + i) / 64 = k by omega, show (64 * k + i) % 64 = i by omega, ← hblk, ← hd, List.getD, hb]; rfl
                rw [hxs, ← hat, ← Nat.add_assoc]
                simp [Cha.xorN, List.range_succ]
              rw [this]
              simp [bytesV]
            rw [hcat] at hs'
            have hkeep : m2.get gb = some (.cells false 1 (bytesV blk)) ∧ (∀ g l c, s' = .slice (some ⟨g, 0, none⟩) l c → g ≠ gb) := by
              rcases ho with ⟨rfl, h0⟩ | ⟨g, rfl, hg⟩
              · have := app_nil Tryz.underlying74 inf_u8 u8_zero u8_size rfl M2 (.int .u8 (bits .xor .i64 (b.toNat : Int) (d.toNat : Int) % 256)) (by rw [u8_bytes]; decide)
                rw [this] at happ
                cases happ
                have hlt2 := Mem.get_lt hgb
                refine ⟨?_, fun g l c e => by cases e; omega⟩
                rw [Mem.get_push_old (by rw [Mem.size_push]; omega), Mem.get_push_old hlt2]; exact hgb
              · have := app_one Tryz.underlying74 inf_u8 u8_zero u8_size rfl M2 (.int .u8 (bits .xor .i64 (b.toNat : Int) (d.toNat : Int) % 256)) hg rfl (by rw [u8_bytes, hol]; omega) (by rw [hol]; omega)
                rw [this] at happ
                cases happ
                have hlt2 := Mem.get_lt hgb
                have hgne := (hnew g _ _ rfl).2
                refine ⟨?_, fun g l c e => by cases e; omega⟩
                rw [Mem.get_push_old (by rw [Mem.size_set, Mem.size_push]; omega), Mem.get_set_ne hgne, Mem.get_push_old hlt2]; exact hgb
            refine SW_seq (SW_block (SW_draw hmix 16 (by kernel_rfl) (by kernel_rfl) ?_))
            simp only [zS, reduceIte, Nat.reduceLT, Int.reduceToNat, Int.reduceLE, Int.reduceEq, Int.reduceLT, Nat.reduceEqDiff, Nat.reduceAdd, zT, hgb, Int.toNat_natCast, hbg, w7, w8, hsi, v1, v2, wrap_u8, happ]
            refine ⟨by omega, ?_⟩
            refine SW_region ?_
            simp only [zS, reduceIte, Nat.reduceLT, Int.reduceToNat, Int.reduceLE, Int.reduceEq, Int.reduceLT, Nat.reduceEqDiff, Nat.reduceAdd, w9]
            exact ⟨n2 - 1, ⟨i + 1, s', by omega, by omega, rfl, hs', hkeep.1, hgr', fun g l c e => ⟨hnew' g l c e, hkeep.2 g l c e⟩⟩, by omega⟩
          · simp only [zS, reduceIte, Nat.reduceLT, Int.reduceToNat, Int.reduceLE, Int.reduceEq, Int.reduceLT, Nat.reduceEqDiff, Nat.reduceAdd]
            have hend : 64 * k + i = s.size := by have := of_decide_eq_false h; omega
            refine SW_region ?_
            simp only [zS, reduceIte, Nat.reduceLT, Int.reduceToNat, Int.reduceLE, Int.reduceEq, Int.reduceLT, Nat.reduceEqDiff, Nat.reduceAdd, w6]
            refine ⟨n - 1, ⟨k + 1, o, by omega, rfl, ?_, hgr, fun g l c e => (hnew g l c e).1⟩, by omega⟩
            rw [show min (64 * (k + 1)) s.size = 64 * k + i by omega]
            exact ho
        · have e1 : decide ((i : Int) < 64) = false := by simp; omega
          refine SW_seq (SW_seq (SW_region ?_))
          have hft : ((some false : Option Bool) == some true) = false := rfl
          simp only [zS, reduceIte, Nat.reduceLT, Int.reduceToNat, Int.reduceLE, Int.reduceEq, Int.reduceLT, Nat.reduceEqDiff, Nat.reduceAdd, zT, e1, hft, Region.wanted, List.getElem?_cons_succ, List.getElem?_cons_zero]
          refine SW_cond false (by rfl) (fun h => by cases h) (fun h => SW_exit ?_)
          simp only [zS, reduceIte, Nat.reduceLT, Int.reduceToNat, Int.reduceLE, Int.reduceEq, Int.reduceLT, Nat.reduceEqDiff, Nat.reduceAdd]
          refine SW_region ?_
          simp only [zS, reduceIte, Nat.reduceLT, Int.reduceToNat, Int.reduceLE, Int.reduceEq, Int.reduceLT, Nat.reduceEqDiff, Nat.reduceAdd, w6]
          refine ⟨n - 1, ⟨k + 1, o, by omega, rfl, ?_, hgr, fun g l c e => (hnew g l c e).1⟩, by omega⟩
          rw [show min (64 * (k + 1)) s.size = 64 * k + i by omega]
          exact ho
    · simp only [zS, reduceIte, Nat.reduceLT, Int.reduceToNat, Int.reduceLE, Int.reduceEq, Int.reduceLT, Nat.reduceEqDiff, Nat.reduceAdd]
      have hkn' : k = nb := by have := of_decide_eq_false h; omega
      subst hkn'
      rw [show min (64 * k) s.size = s.size by omega] at ho
      obtain ⟨go, rfl, hgo⟩ := ho.at (by simp [bytesV, hxl, hs0])
      refine SW_seq (SW_region ?_)
      simp only [zS, reduceIte, Nat.reduceLT, Int.reduceToNat, Int.reduceLE, Int.reduceEq, Int.reduceLT, Nat.reduceEqDiff, Nat.reduceAdd, zT, to_str (n := (bytesV (xs s.size)).length) hgo (by simp [bytesV])]
      refine SW_ret ?_
      simp only [zS, reduceIte, Nat.reduceLT, Int.reduceToNat, Int.reduceLE, Int.reduceEq, Int.reduceLT, Nat.reduceEqDiff, Nat.reduceAdd, sAnswer, sAnswer.sRes]
end Go.Proofs.YtkkleedpakcfgaaGreatDoor
namespace Go.Proofs.YtkkleedpakcfgaaGreatDoor
open Go.RowKit Abs
theorem xor_at (key nonce s : List UInt8) (c : Nat) (hk : key.length = 32) (hn : nonce.length = 12) (hc : c ≤ 1000) (hs : s.length ≤ 1000000) (hs0 : 0 < s.length) (m : Mem) :
    Abs.Spec Tryz.prog 233 [.string (str key), .string (str nonce), .int .i64 (c : Int), .string (str s)] m fun u M => u = .tuple #[.string (str (Cha.xorN key nonce c s s.length)), .int .i64 0] ∧ M = m :=
  Abs.Spec.of_empty (by intro x hx; simp at hx; rcases hx with rfl | rfl | rfl | rfl <;> rfl) rfl (xor_spec ⟨[]⟩ (str key) (str nonce) (str s) c (by rw [str_size]; exact hk) (by rw [str_size]; exact hn) hc (by rw [str_size]; exact hs) (by rw [str_size]; exact hs0)) m
theorem rkeys_at (secret salt : List UInt8) (h1 : secret.length ≤ 1000000) (h2 : salt.length ≤ 1000000) (m : Mem) :
    Abs.Spec Tryz.prog 135 [.string (str secret), .string (str salt)] m fun u M => u = keysV secret salt ∧ M = m :=
  Abs.Spec.of_empty (by intro x hx; simp at hx; rcases hx with rfl | rfl <;> rfl) rfl (rkeys_spec ⟨[]⟩ (str secret) (str salt) (by rw [str_size]; omega) (by rw [str_size]; omega)) m
end Go.Proofs.YtkkleedpakcfgaaGreatDoor
namespace Go.Proofs.YtkkleedpakcfgaaGreatDoor
open Go.RowKit Abs
theorem push_set (m : Mem) (x y : Blk) : (m.push x).set m.size (some y) = m.push y := by
  unfold Mem.push Mem.set Mem.size
  simp
end Go.Proofs.YtkkleedpakcfgaaGreatDoor
namespace Go.Proofs.YtkkleedpakcfgaaGreatDoor
open Go.RowKit Abs
theorem mk_SS (m : Mem) (n : Nat) (hn : n ≤ 1000000) : aMakeSlice Tryz.prog m 31 (.int .i64 (n : Nat)) (.int .i64 (n : Nat)) = some (.slice (some ⟨m.size, 0, none⟩) n n, m.push (.cells false 1 (List.replicate n (.string ⟨#[]⟩)))) := by
  have hz : Tryz.t9.zero = some (.string ⟨#[]⟩) := rfl
  have hb : Tryz.t9.bytes ≤ 100 := by decide
  have hs : Tryz.t9.size = 1 := rfl
  unfold aMakeSlice
  simp only [Tryz.underlying31, inf_Str, hz, hs]
  have hc : ((Tryz.t9.bytes : Nat) : Int) * ((n : Nat) : Int) ≤ 281474976710656 := by
    have : Tryz.t9.bytes * n ≤ 100 * 1000000 := Nat.mul_le_mul hb hn
    rw [← Int.natCast_mul]; omega
  rw [if_pos ⟨rfl, by decide, rfl, by omega, Int.le_refl _, hc, by omega⟩]
  simp only [Int.toNat_natCast, Nat.mul_one]
  rfl
theorem copy_SS {m : Mem} {b o dl dc b2 o2 n nc s2 : Nat} {r2 : Bool} {cs cs2 : List Value} (hb : m.get b = some (.cells false 1 cs)) (hb2 : m.get b2 = some (.cells r2 s2 cs2)) (h1 : o2 + min n dl ≤ cs2.length) (h2 : o + min n dl ≤ cs.length) :
    aCopy Tryz.prog m 31 31 (.slice (some ⟨b, o, none⟩) dl dc) (.slice (some ⟨b2, o2, none⟩) n nc) = some (.int .i64 (min n dl : Nat), m.set b (some (.cells false 1 (setL cs o ((cs2.drop o2).take (min n dl)))))) := by
  have hs : Tryz.t9.size = 1 := rfl
  unfold aCopy
  simp only [Tryz.underlying31, inf_Str, hs, hb, hb2, Nat.mul_one]
  rw [if_pos ⟨h1, h2⟩]
theorem sl_SS {get : Nat → Option Blk} {b len cap : Nat} {ro : Bool} {cs : List Value} (hb : get b = some (.cells ro 1 cs)) (l : Nat) (h1 : l ≤ len) :
    gSlice Tryz.prog get 31 (.slice (some ⟨b, 0, none⟩) len cap) (some (.int .i64 (l : Nat))) none = some (.slice (some ⟨b, l, none⟩) (len - l) (cap - l)) := by
  have hs : Tryz.t9.size = 1 := rfl
  have hc : (0 : Int) ≤ (l : Int) ∧ (l : Int) ≤ (len : Int) := by omega
  unfold gSlice aBound
  simp only [Tryz.underlying31, inf_Str, hs, hb, if_pos hc, if_true, Nat.mul_one, Nat.zero_add, Int.toNat_natCast]
theorem sl_SS2 {get : Nat → Option Blk} {b len cap : Nat} {ro : Bool} {cs : List Value} (hb : get b = some (.cells ro 1 cs)) (h : Nat) (h1 : h ≤ cap) :
    gSlice Tryz.prog get 31 (.slice (some ⟨b, 0, none⟩) len cap) none (some (.int .i64 (h : Nat))) = some (.slice (some ⟨b, 0, none⟩) h cap) := by
  have hs : Tryz.t9.size = 1 := rfl
  have hc : (0 : Int) ≤ (h : Int) ∧ (h : Int) ≤ (cap : Int) := by omega
  unfold gSlice aBound
  simp only [Tryz.underlying31, inf_Str, hs, hb, if_pos hc, if_true, Nat.mul_one, Nat.zero_add, Int.toNat_natCast, Nat.sub_zero]
theorem setL_mid : ∀ (a b c : List Value), b.length ≤ c.length → setL (a ++ c) a.length b = a ++ b ++ c.drop b.length
  | [], [], c, _ => by simp [setL]
  | a, x :: b, [], h => by simp at h
  | a, [], c, _ => by simp [setL]
  | a, x :: b, y :: c, h => by
    have ih := setL_mid (a ++ [x]) b c (by simpa using h)
    rw [setL]
    have e : (a ++ y :: c).set a.length x = (a ++ [x]) ++ c := by simp
    rw [e]
    simp only [List.length_append, List.length_cons, List.length_nil] at ih
    rw [ih]
    simp
set_option maxRecDepth 100000 in
set_option maxHeartbeats 2000000 in
theorem repeatS_spec (M : Mem) (b : Nat) (s : ByteArray) (n : Nat) (hn : 1 ≤ n) (hn2 : n ≤ 100000) (ro : Bool) (st : Nat) (hb : M.get b = some (.cells ro st [.string s])) :
    Abs.Spec Tryz.prog 17 [.slice (some ⟨b, 0, none⟩) 1 1, .int .i64 (n : Nat)] M fun u M' => u = .slice (some ⟨M.size, 0, none⟩) n n ∧ M' = M.push (.cells false 1 (List.replicate n (.string s))) := by
  refine Abs.Spec.walkM Tryz.func17 (by rfl) _ Tryz.results17 _ Tryz.ntmps17 (by simp) ?_
  intro hc hx k
  refine CW_seq (CW_region ?_)
  simp only [zZ, reduceIte, Nat.reduceLT, Int.reduceToNat, Int.reduceLE, Int.reduceEq, Int.reduceLT, Nat.reduceEqDiff, Nat.reduceAdd, zDk, pd_eql, pd_neq, pd_eql0, pd_neq0, Tryz.underlying105, Tryz.underlying39]
  refine CW_seq (CW_seq (CW_region ?_))
  simp only [zZ, reduceIte, Nat.reduceLT, Int.reduceToNat, Int.reduceLE, Int.reduceEq, Int.reduceLT, Nat.reduceEqDiff, Nat.reduceAdd, zDk, pd_eql, pd_neq, pd_eql0, pd_neq0, Tryz.underlying105, Tryz.underlying39]
  refine CW_cond (decide ((n : Int) < 0)) (by rfl) (fun h => absurd (of_decide_eq_true h) (by omega)) (fun _ => CW_skip ?_)
  simp only [zZ, reduceIte, Nat.reduceLT, Int.reduceToNat, Int.reduceLE, Int.reduceEq, Int.reduceLT, Nat.reduceEqDiff, Nat.reduceAdd, zDk, pd_eql, pd_neq, pd_eql0, pd_neq0, Tryz.underlying105, Tryz.underlying39]
  refine CW_seq (CW_region ?_)
  have w1 : IntKind.u64.wrap ((1 : Nat) : Int) = ((1 : Nat) : Int) := by decide
  have w2 : IntKind.u64.wrap (n : Int) = ((n : Nat) : Int) := by unfold IntKind.wrap; simp [IntKind.bits, IntKind.signed]; omega
  have hmul := fun m => mul_spec 1 n (by omega) (by omega) m
  rw [show 1 * n / 18446744073709551616 = 0 by omega, show 1 * n % 18446744073709551616 = n by omega] at hmul
  simp only [zZ, reduceIte, Nat.reduceLT, Int.reduceToNat, Int.reduceLE, Int.reduceEq, Int.reduceLT, Nat.reduceEqDiff, Nat.reduceAdd, zDk, pd_eql, pd_neq, pd_eql0, pd_neq0, Tryz.underlying105, Tryz.underlying39, w1, w2]
  refine ⟨by kernel_rfl, _, hmul _, ?_⟩
  rintro _ M9 ⟨rfl, e9⟩; replace e9 := e9.symm; subst e9
  have q1 : decide (((0 : Nat) : Int) > 0) = false := rfl
  have q2 : decide ((n : Int) > 9223372036854775807) = false := decide_eq_false (by omega)
  simp only [zZ, reduceIte, Nat.reduceLT, Int.reduceToNat, Int.reduceLE, Int.reduceEq, Int.reduceLT, Nat.reduceEqDiff, Nat.reduceAdd, zDk, pd_eql, pd_neq, pd_eql0, pd_neq0, Tryz.underlying105, Tryz.underlying39]
  refine CW_seq (CW_seq (CW_region ?_))
  simp only [zZ, reduceIte, Nat.reduceLT, Int.reduceToNat, Int.reduceLE, Int.reduceEq, Int.reduceLT, Nat.reduceEqDiff, Nat.reduceAdd, zDk, pd_eql, pd_neq, pd_eql0, pd_neq0, Tryz.underlying105, Tryz.underlying39, q1, q2]
  refine CW_cond false (by rfl) (fun h => by cases h) (fun _ => CW_skip ?_)
  simp only [zZ, reduceIte, Nat.reduceLT, Int.reduceToNat, Int.reduceLE, Int.reduceEq, Int.reduceLT, Nat.reduceEqDiff, Nat.reduceAdd, zDk, pd_eql, pd_neq, pd_eql0, pd_neq0, Tryz.underlying105, Tryz.underlying39]
  have w3 : IntKind.i64.wrap ((n : Nat) : Int) = ((n : Nat) : Int) := wri (by omega) (by omega)
  refine CW_seq (CW_region ?_)
  simp only [zZ, reduceIte, Nat.reduceLT, Int.reduceToNat, Int.reduceLE, Int.reduceEq, Int.reduceLT, Nat.reduceEqDiff, Nat.reduceAdd, zDk, pd_eql, pd_neq, pd_eql0, pd_neq0, Tryz.underlying105, Tryz.underlying39, w3, mk_SS M n (by omega)]
  obtain ⟨M1, hM1⟩ : ∃ M1, M1 = M.push (.cells false 1 (List.replicate n (.string ⟨#[]⟩))) := ⟨_, rfl⟩
  obtain ⟨g, hg⟩ : ∃ g, g = M.size := ⟨_, rfl⟩
  have hg1 : M1.get g = some (.cells false 1 (List.replicate n (.string ⟨#[]⟩))) := by rw [hM1, hg, Mem.get_push_new]
  have hb1 : M1.get b = some (.cells ro st [.string s]) := by rw [hM1, Mem.get_push_old (get_live hb)]; exact hb
  rw [← hM1, ← hg]
  have hcp := copy_SS (o := 0) (dl := n) (dc := n) (o2 := 0) (n := 1) (nc := 1) hg1 hb1 (by simp; omega) (by simp; omega)
  rw [show min 1 n = 1 by omega] at hcp
  refine CW_seq (CW_region ?_)
  simp only [zZ, reduceIte, Nat.reduceLT, Int.reduceToNat, Int.reduceLE, Int.reduceEq, Int.reduceLT, Nat.reduceEqDiff, Nat.reduceAdd, zDk, pd_eql, pd_neq, pd_eql0, pd_neq0, Tryz.underlying105, Tryz.underlying39, hcp]
  refine CW_seq (CW_block (MW_loop (fun j f M' => ∃ c : Nat, 1 ≤ c ∧ c ≤ n ∧ j = n - c ∧ f = [(7, .slice (some ⟨g, 0, none⟩) n n), (8, .int .i64 (c : Nat))] ∧
    M' = M.push (.cells false 1 (List.replicate c (.string s) ++ List.replicate (n - c) (.string ⟨#[]⟩)))) (n - 1) ?_ ?_))
  · refine ⟨[7, 8], ?_⟩
    simp only [zZ, reduceIte, Nat.reduceLT, Int.reduceToNat, Int.reduceLE, Int.reduceEq, Int.reduceLT, Nat.reduceEqDiff, Nat.reduceAdd, keepF]
    refine ⟨_, Thin.refl _, 1, Nat.le_refl _, hn, rfl, rfl, ?_⟩
    rw [hM1, hg, push_set]
    congr 2
    obtain ⟨k, rfl⟩ : ∃ k, n = k + 1 := ⟨n - 1, by omega⟩
    rfl
  · rintro j f M' ⟨c, hc1, hc2, rfl, rfl, hM'⟩
    refine CW_seq (CW_seq (CW_region ?_))
    simp only [zZ, reduceIte, Nat.reduceLT, Int.reduceToNat, Int.reduceLE, Int.reduceEq, Int.reduceLT, Nat.reduceEqDiff, Nat.reduceAdd, zDk, pd_eql, pd_neq, pd_eql0, pd_neq0, Tryz.underlying105, Tryz.underlying39]
    refine CW_cond (decide ((c : Int) < (n : Int))) (by rfl) (fun h => CW_skip ?_) (fun h => CW_exit ?_)
    · have h := of_decide_eq_true h
      simp only [zZ, reduceIte, Nat.reduceLT, Int.reduceToNat, Int.reduceLE, Int.reduceEq, Int.reduceLT, Nat.reduceEqDiff, Nat.reduceAdd]
      refine CW_block (CW_draw2 hmix 7 (by kernel_rfl) ?_)
      have hg' : M'.get g = some (.cells false 1 (List.replicate c (.string s) ++ List.replicate (n - c) (.string ⟨#[]⟩))) := by rw [hM', hg, Mem.get_push_new]
      have hcp2 := copy_SS (o := c) (dl := n - c) (dc := n - c) (o2 := 0) (n := c) (nc := n) hg' hg' (by simp; omega) (by simp; omega)
      have w5 : IntKind.i64.wrap ((c : Int) + ((min c (n - c) : Nat) : Int)) = ((c + min c (n - c) : Nat) : Int) := by rw [wri (by omega) (by omega)]; omega
      simp only [zZ, reduceIte, Nat.reduceLT, Int.reduceToNat, Int.reduceLE, Int.reduceEq, Int.reduceLT, Nat.reduceEqDiff, Nat.reduceAdd, zDk, pd_eql, pd_neq, pd_eql0, pd_neq0, Tryz.underlying105, Tryz.underlying39, sl_SS hg' c hc2, sl_SS2 hg' c hc2, hcp2, w5]
      refine ⟨[7, 8], ?_⟩
      simp only [zZ, reduceIte, Nat.reduceLT, Int.reduceToNat, Int.reduceLE, Int.reduceEq, Int.reduceLT, Nat.reduceEqDiff, Nat.reduceAdd, keepF]
      refine ⟨_, Thin.refl _, n - (c + min c (n - c)), ⟨c + min c (n - c), by omega, by omega, rfl, rfl, ?_⟩, by omega⟩
      rw [hM', hg, push_set]
      congr 2
      have e1 : (List.replicate c (Value.string s) ++ List.replicate (n - c) (Value.string ⟨#[]⟩)).take (min c (n - c)) = List.replicate (min c (n - c)) (Value.string s) := by
        rw [List.take_append_of_le_length (by simp; omega), List.take_replicate]
        congr 1; omega
      have e2 := setL_mid (List.replicate c (Value.string s)) (List.replicate (min c (n - c)) (Value.string s)) (List.replicate (n - c) (Value.string ⟨#[]⟩)) (by simp; omega)
      rw [List.length_replicate] at e2
      rw [e1, e2, List.replicate_append_replicate, List.length_replicate, List.drop_replicate]
      congr 2
      omega
    · have h := of_decide_eq_false h
      have hcn : c = n := by omega
      subst hcn
      simp only [zZ, reduceIte, Nat.reduceLT, Int.reduceToNat, Int.reduceLE, Int.reduceEq, Int.reduceLT, Nat.reduceEqDiff, Nat.reduceAdd]
      refine CW_seq (CW_region ?_)
      simp only [zZ, reduceIte, Nat.reduceLT, Int.reduceToNat, Int.reduceLE, Int.reduceEq, Int.reduceLT, Nat.reduceEqDiff, Nat.reduceAdd, zDk, pd_eql, pd_neq, pd_eql0, pd_neq0, Tryz.underlying105, Tryz.underlying39]
      refine CW_ret ?_
      simp only [zZ, reduceIte, Nat.reduceLT, Int.reduceToNat, Int.reduceLE, Int.reduceEq, Int.reduceLT, Nat.reduceEqDiff, Nat.reduceAdd, zDk, pd_eql, pd_neq, pd_eql0, pd_neq0, Tryz.underlying105, Tryz.underlying39, mEnd, sAnswer, sAnswer.sRes]
      refine ⟨M', Thin.refl _, ?_⟩
      rw [hM']
      simp
def zeroS : List UInt8 := List.replicate 256 0
def newDsk (n : Nat) : Dsk := ⟨List.replicate n zeroS, [], 0, -1, false⟩
theorem newDsk_ok (n : Nat) (h1 : 1 ≤ n) (h2 : n ≤ 1024) : (newDsk n).Ok :=
  ⟨by simpa [newDsk] using h2, by simp [newDsk]; omega, fun s hs => by simp only [newDsk, List.mem_replicate] at hs; rw [hs.2]; exact List.length_replicate, by simp [newDsk], by simp [newDsk], fun x hx => by simp [newDsk] at hx, fun x hx => by simp [newDsk] at hx, by simp [newDsk], trivial⟩
set_option maxRecDepth 100000 in
set_option maxHeartbeats 2000000 in
theorem new_spec (M : Mem) (n : Nat) (h1 : 1 ≤ n) (h2 : n ≤ 1024) :
    Abs.Spec Tryz.prog 5 [.int .i64 (n : Nat)] M fun u M' => ∃ p q g, u = .tuple #[dp p, .int .i64 0] ∧ DskAt M' p q g (newDsk n) ∧ M.size ≤ p ∧ M.size ≤ q ∧ M.size ≤ g ∧ Only [] M M' ∧ M.size ≤ M'.size := by
  refine Abs.Spec.walkM Tryz.func5 (by rfl) _ Tryz.results5 _ Tryz.ntmps5 (by simp) ?_
  intro hc hx k
  have q1 : decide ((n : Int) < 1) = false := decide_eq_false (by omega)
  have q2 : decide ((n : Int) > 1024) = false := decide_eq_false (by omega)
  refine CW_seq (CW_region ?_)
  simp only [zZ, reduceIte, Nat.reduceLT, Int.reduceToNat, Int.reduceLE, Int.reduceEq, Int.reduceLT, Nat.reduceEqDiff, Nat.reduceAdd, zDk, pd_eql, pd_neq, pd_eql0, pd_neq0, Tryz.underlying105, Tryz.underlying39]
  refine CW_seq (CW_seq (CW_region ?_))
  simp only [zZ, reduceIte, Nat.reduceLT, Int.reduceToNat, Int.reduceLE, Int.reduceEq, Int.reduceLT, Nat.reduceEqDiff, Nat.reduceAdd, zDk, pd_eql, pd_neq, pd_eql0, pd_neq0, Tryz.underlying105, Tryz.underlying39, q1, q2]
  refine CW_cond false (by rfl) (fun h => by cases h) (fun _ => CW_skip ?_)
  simp only [zZ, reduceIte, Nat.reduceLT, Int.reduceToNat, Int.reduceLE, Int.reduceEq, Int.reduceLT, Nat.reduceEqDiff, Nat.reduceAdd, zDk, pd_eql, pd_neq, pd_eql0, pd_neq0, Tryz.underlying105, Tryz.underlying39]
  refine CW_seq (CW_region ?_)
  simp only [zZ, reduceIte, Nat.reduceLT, Int.reduceToNat, Int.reduceLE, Int.reduceEq, Int.reduceLT, Nat.reduceEqDiff, Nat.reduceAdd, zDk, pd_eql, pd_neq, pd_eql0, pd_neq0, Tryz.underlying105, Tryz.underlying39]
  refine ⟨by kernel_rfl, _, repeat_spec (str [0]) 256 (by omega) (by show 1 * 256 ≤ _; omega) _, ?_⟩
  rintro _ M9 ⟨rfl, e9⟩; replace e9 := e9.symm; subst e9
  have hrep : str (Lib.repeatL (str [0]).data.toList 256) = str zeroS := by
    show str (Lib.repeatL [0] 256) = _
    rw [rep_zero]; rfl
  rw [hrep]
  simp only [zZ, reduceIte, Nat.reduceLT, Int.reduceToNat, Int.reduceLE, Int.reduceEq, Int.reduceLT, Nat.reduceEqDiff, Nat.reduceAdd, zDk, pd_eql, pd_neq, pd_eql0, pd_neq0, Tryz.underlying105, Tryz.underlying39]
  have hbs : nBuildSlice Tryz.prog 31 1 [(0, .string (str zeroS))] = some (.cells false 1 [.string (str zeroS)]) := by kernel_rfl
  refine CW_seq (CW_region ?_)
  simp only [zZ, reduceIte, Nat.reduceLT, Int.reduceToNat, Int.reduceLE, Int.reduceEq, Int.reduceLT, Nat.reduceEqDiff, Nat.reduceAdd, zDk, pd_eql, pd_neq, pd_eql0, pd_neq0, Tryz.underlying105, Tryz.underlying39, hbs]
  refine ⟨by kernel_rfl, _, repeatS_spec (M.push (.cells false 1 [.string (str zeroS)])) M.size (str zeroS) n h1 (by omega) false 1 (Mem.get_push_new _ _), ?_⟩
  rintro _ M2 ⟨rfl, hM2⟩
  have hs2 : M2.size = M.size + 2 := by rw [hM2]; simp only [Mem.size_push]
  have hold2 : ∀ b x, M.get b = some x → M2.get b = some x := fun b x hb => by
    have := get_live hb
    rw [hM2, Mem.get_push_old (by rw [Mem.size_push]; omega), Mem.get_push_old this]; exact hb
  have hg2 : M2.get (M.size + 1) = some (.cells false 1 (List.replicate n (.string (str zeroS)))) := by
    have := Mem.get_push_new (M.push (.cells false 1 [.string (str zeroS)])) (.cells false 1 (List.replicate n (.string (str zeroS))))
    rw [Mem.size_push] at this
    rw [hM2]; exact this
  have hbx : nBox Tryz.prog 52 (.agg #[.slice (some ⟨M.size + 1, 0, none⟩) n n, .map (some M2.size), .int .i64 (-1), .bool false]) = some (.cells false (aStride Tryz.prog 52) [.slice (some ⟨M.size + 1, 0, none⟩) n n, .map (some M2.size), .int .i64 (-1), .bool false]) := bx_Dsk _ rfl
  generalize aStride Tryz.prog 52 = s1 at hbx
  have hbd : aBuild Tryz.prog 52 [(0, .slice (some ⟨M.size + 1, 0, none⟩) n n), (1, .map (some M2.size)), (2, .int .i64 (-1))] = some (.agg #[.slice (some ⟨M.size + 1, 0, none⟩) n n, .map (some M2.size), .int .i64 (-1), .bool false]) := by kernel_rfl
  simp only [zZ, reduceIte, Nat.reduceLT, Int.reduceToNat, Int.reduceLE, Int.reduceEq, Int.reduceLT, Nat.reduceEqDiff, Nat.reduceAdd, zDk, pd_eql, pd_neq, pd_eql0, pd_neq0, Tryz.underlying105, Tryz.underlying39, Mem.size_push, hbd, hbx]
  refine CW_ret ?_
  simp only [zZ, reduceIte, Nat.reduceLT, Int.reduceToNat, Int.reduceLE, Int.reduceEq, Int.reduceLT, Nat.reduceEqDiff, Nat.reduceAdd, zDk, pd_eql, pd_neq, pd_eql0, pd_neq0, Tryz.underlying105, Tryz.underlying39, mEnd, sAnswer, sAnswer.sRes]
  refine ⟨_, Thin.refl _, M2.size + 1, M2.size, M.size + 1, rfl, ⟨newDsk_ok n h1 h2, ⟨s1, ?_⟩, ?_, ?_, by omega, by omega, by omega⟩, by omega, by omega, by omega, fun b x _ hb => ?_, by simp only [Mem.size_push]; omega⟩
  · have := Mem.get_push_new (M2.push (.kv false [] 0)) (.cells false s1 [.slice (some ⟨M.size + 1, 0, none⟩) n n, .map (some M2.size), .int .i64 (-1), .bool false])
    rw [Mem.size_push] at this
    rw [this]
    simp [dskC, newDsk]
  · rw [Mem.get_push_old (by rw [Mem.size_push]; omega), Mem.get_push_new]; rfl
  · rw [Mem.get_push_old (by rw [Mem.size_push]; omega), Mem.get_push_old (by omega), hg2]
    simp [newDsk]
  · have := get_live hb
    rw [Mem.get_push_old (by rw [Mem.size_push]; omega), Mem.get_push_old (by omega)]
    exact hold2 b x hb
end Go.Proofs.YtkkleedpakcfgaaGreatDoor
namespace Go.Proofs.YtkkleedpakcfgaaGreatDoor
open Go.RowKit Abs
theorem keys_spec (secret salt : ByteArray) (h1 : secret.size ≤ 140737488355000) (h2 : salt.size ≤ 140737488355000) (m : Mem) :
    Abs.Spec Tryz.prog 19 [.string secret, .string salt] m fun u M => u = keysV secret.data.toList salt.data.toList ∧ M = m :=
  Abs.Spec.of_flat (by simp [flat]) rfl fun w => keys_any secret salt w h1 h2
def zeroExt : List Value := [.int .i64 0, .string ⟨#[]⟩, .int .i64 0, .int .i64 0, .int .i64 0, .string ⟨#[]⟩, .string ⟨#[]⟩, .int .i64 0]
def zeroRec : List Value := zeroExt ++ [.int .i64 0, .int .u64 0, .int .u64 0, .int .u64 0, .int .u64 0]
theorem bd_Ext0 : aBuild Tryz.prog 64 [] = some (.agg zeroExt.toArray) := by kernel_rfl
theorem bd_Rec0 : aBuild Tryz.prog 129 [] = some (.agg zeroRec.toArray) := by kernel_rfl
theorem Only.setNew {M M1 : Mem} (h : Only [] M M1) {k : Nat} (hk : M.size ≤ k) (o : Option Blk) : Only [] M (M1.set k o) := fun b x hb hx => by
  rw [Mem.get_set_ne (by have := get_live hx; omega)]
  exact h b x hb hx
theorem trim_zero : trim0 (List.replicate 256 0) = [] := by decide +kernel
set_option maxRecDepth 100000 in
set_option maxHeartbeats 2000000 in
theorem ctake_blank (M : Mem) (s : List UInt8) (hs : s.length = 256) (h0 : trim0 s = []) :
    Abs.Spec Tryz.prog 55 [.string (str s)] M fun u M' => u = .tuple #[.agg zeroExt.toArray, .int .i64 8] ∧ Only [] M M' ∧ M.size ≤ M'.size := by
  refine WMx Tryz.func55 Tryz.results55 Tryz.ntmps55 fun hc hx k => ?_
  have hal : nAlloc Tryz.prog 64 = some (.cells false (aStride Tryz.prog 64) zeroExt) := al_Ext
  generalize aStride Tryz.prog 64 = s1 at hal
  have e1 : (str s).data.toList = s := rfl
  refine CW_seq (R1 @hal ?_)
  obtain ⟨M1, hM1⟩ : ∃ M1, M1 = M.push (.cells false s1 zeroExt) := ⟨_, rfl⟩
  have hg1 : M1.get M.size = some (.cells false s1 zeroExt) := by rw [hM1, Mem.get_push_new]
  have ho1 : Only [] M M1 := by rw [hM1]; exact Only.push _ _ _
  have hs1 : M1.size = M.size + 1 := by rw [hM1, Mem.size_push]
  rw [← hM1]
  clear hM1
  refine CW_seq (R0 ?_)
  refine K0 (cutPrefix_spec (str s) _ _) ?_
  refine CW_seq (CW_block (CW_seq (R0 ?_)))
  refine ⟨by kernel_rfl, _, trim_spec (str s) 0 (by decide) (by show s.length ≤ _; omega) _, ?_⟩
  rintro _ M9 ⟨rfl, e9⟩; replace e9 := e9.symm; subst e9
  have h0' : Lib.trimB (str s).data.toList 0 = [] := h0
  rw [h0']
  refine S1 @beq_nilS ?_
  refine CT (CW_seq (CW_region ?_))
  have hput : putIn 8 M1 M.size 0 zeroExt (M1.get M.size) = some (M1.set M.size (some (.cells false s1 zeroExt))) := by rw [hg1]; rfl
  have hgs : (M1.set M.size (some (.cells false s1 zeroExt))).get M.size = some (.cells false s1 zeroExt) := Mem.get_set_same hg1 _
  have hrow : rowIn 8 0 (some (.cells false s1 zeroExt)) = some (.agg zeroExt.toArray) := rfl
  refine S3 @bd_Ext0 @agg_cells @hput ?_
  refine T3 @aLoad_g @hgs @hrow ?_
  exact ⟨_, Thin.refl _, ho1.setNew (Nat.le_refl _) _, by rw [Mem.size_set, hs1]; omega⟩
theorem jblank_spec (M : Mem) (s : List UInt8) (hs : s.length ≤ 1000000) :
    Abs.Spec Tryz.prog 106 [.string (str s)] M fun u M' => u = .bool (decide (trim0 s = [])) ∧ M' = M := by
  refine WMx Tryz.func106 Tryz.results106 Tryz.ntmps106 fun hc hx k => ?_
  refine CW_seq (R0 ?_)
  refine CW_seq (R0 ?_)
  refine K1 @beq_nilS (trim_spec (str s) 0 (by decide) (by show s.length ≤ _; omega) _) ?_
  refine T0 ?_
  exact ⟨_, Thin.refl _, rfl, rfl⟩
set_option maxRecDepth 100000 in
set_option maxHeartbeats 2000000 in
theorem jtake_blank (M : Mem) (s : List UInt8) (hs : s.length = 256) (h0 : trim0 s = []) :
    Abs.Spec Tryz.prog 56 [.string (str s)] M fun u M' => u = .tuple #[.agg zeroRec.toArray, .int .i64 8] ∧ Only [] M M' ∧ M.size ≤ M'.size := by
  refine WMx Tryz.func56 Tryz.results56 Tryz.ntmps56 fun hc hx k => ?_
  have hal : nAlloc Tryz.prog 129 = some (.cells false (aStride Tryz.prog 129) zeroRec) := al_Rec
  generalize aStride Tryz.prog 129 = s1 at hal
  refine CW_seq (R1 @hal ?_)
  obtain ⟨M1, hM1⟩ : ∃ M1, M1 = M.push (.cells false s1 zeroRec) := ⟨_, rfl⟩
  have hg1 : M1.get M.size = some (.cells false s1 zeroRec) := by rw [hM1, Mem.get_push_new]
  have ho1 : Only [] M M1 := by rw [hM1]; exact Only.push _ _ _
  have hs1 : M1.size = M.size + 1 := by rw [hM1, Mem.size_push]
  rw [← hM1]
  clear hM1
  refine CW_seq (CW_block (CW_seq (R0 ?_)))
  refine ⟨by kernel_rfl, _, jblank_spec _ s (by omega), ?_⟩
  rintro _ M9 ⟨rfl, e9⟩; replace e9 := e9.symm; subst e9
  rw [h0]
  refine S0 ?_
  refine CT (CW_seq (CW_region ?_))
  have hput : putIn 13 M1 M.size 0 zeroRec (M1.get M.size) = some (M1.set M.size (some (.cells false s1 zeroRec))) := by rw [hg1]; rfl
  have hgs : (M1.set M.size (some (.cells false s1 zeroRec))).get M.size = some (.cells false s1 zeroRec) := Mem.get_set_same hg1 _
  have hrow : rowIn 13 0 (some (.cells false s1 zeroRec)) = some (.agg zeroRec.toArray) := rfl
  refine S3 @bd_Rec0 @agg_cells @hput ?_
  refine T3 @aLoad_g @hgs @hrow ?_
  exact ⟨_, Thin.refl _, ho1.setNew (Nat.le_refl _) _, by rw [Mem.size_set, hs1]; omega⟩
end Go.Proofs.YtkkleedpakcfgaaGreatDoor
