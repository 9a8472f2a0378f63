/-
  The document's answers for layers 3 and 5, walked on the abstract machine: tags and keys.
  The contracts that blame leans on, over the abstract memory.
  The abstract machine over small memories: names of blocks given anew; what is not named any more is let go.
  The abstract machine over small memories: code, walked with names given anew at each joint.
  The abstract machine over small memories: a contract over the blocks that a call reaches, used in any memory.
  The abstract machine over any memory and a few local blocks behind it; the local ones get new names at each joint.
  Walks over any memory with local blocks: what the steps come to.
  The walks of blame.Of and of the document's, on the abstract machine.
  The walks of blame.Valid and of the document's, on the abstract machine.
-/
import Derived.Test.YtpmgackgcefalaaGreatPart13
import Derived.Test.YtpmgackgcefalaaGreatPart05
import Derived.Test.YtpmgackgcefalaaGreatPart06
import Derived.Test.YtpmgackgcefalaaGreatPart10
import Derived.Test.YtpmgackgcefalaaGreatPart04
set_option linter.unusedSimpArgs false
set_option linter.unusedVariables false
set_option linter.unusedSectionVars false
set_option linter.unnecessarySimpa false
set_option linter.defProp false
namespace Go.Proofs.YtpmgackgcefalaaGreat
open Go.RowKit Abs
theorem rsum_any (s : ByteArray) (w : World) (hs : s.size ≤ 140737488355200) :
    Calls Tryz.prog 71 #[.string s] w fun e w' => e = .returned (.string (str (Sha.sum s.data.toList))) ∧ Below w.heap.size w w' :=
  Calls.of_flat_val (xs := [.string s]) (by simp [flat]) rfl ((rsum_spec ⟨[]⟩ s hs).mono fun v m' h => h.1) w
theorem rsum_at (M : Mem) (s : ByteArray) (hs : s.size ≤ 140737488355200) : Abs.Spec Tryz.prog 71 [.string s] M fun u M' => u = .string (str (Sha.sum s.data.toList)) ∧ M' = M :=
  Abs.Spec.of_flat (by simp [flat]) rfl fun w => rsum_any s w hs
theorem xor_byte (b c : UInt8) : Value.int .u8 (bits .xor .i64 (b.toNat : Int) (c.toNat : Int) % 256) = byteV (b ^^^ c) := by
  have hb := UInt8.toNat_lt b
  have hc := UInt8.toNat_lt c
  unfold byteV
  congr 1
  rw [i64_xor_nat _ _ (by omega) (by omega), UInt8.toNat_xor]
  have : b.toNat ^^^ c.toNat < 2 ^ 8 := Nat.xor_lt_two_pow hb hc
  omega
set_option maxRecDepth 100000 in
set_option maxHeartbeats 1000000 in
theorem rturned_spec (m : Mem) (k : ByteArray) (c : UInt8) (hk : k.size ≤ 140737488355200) :
    Abs.Spec Tryz.prog 82 [.string k, .int .i64 (c.toNat : Int)] m fun v m' => v = .string (str (Sha.pad k.data.toList c)) := by
  obtain ⟨q, hq⟩ : ∃ q, q = k.data.toList := ⟨_, rfl⟩
  have hql : q.length = k.size := by rw [hq, Array.length_toList]; rfl
  have hbs : bsize k = q.length := by rw [hq]; rfl
  obtain ⟨key, hkey⟩ : ∃ key, key = if 64 < q.length then Sha.sum q else q := ⟨_, rfl⟩
  have hkl : key.length ≤ 64 := by
    rw [hkey]; split
    · rw [Sha.sum_length]; decide
    · omega
  have hpad : Sha.pad k.data.toList c = (key ++ List.replicate (64 - key.length) 0).map (· ^^^ c) := by rw [← hq, Sha.pad, Sha.key64, ← hkey]
  rw [hpad]
  refine Abs.Spec.walk Tryz.func82 (by rfl) _ Tryz.results82 _ Tryz.ntmps82 (by simp) ?_
  refine SW_seq (SW_region ?_)
  simp only [zS, reduceIte, Nat.reduceLT, Int.reduceToNat, Int.reduceLE, Int.reduceEq, Int.reduceLT, Nat.reduceEqDiff, Nat.reduceAdd]
  refine SW_seq (SW_region ?_)
  simp only [zS, reduceIte, Nat.reduceLT, Int.reduceToNat, Int.reduceLE, Int.reduceEq, Int.reduceLT, Nat.reduceEqDiff, Nat.reduceAdd, zT, new_bytes k (by rw [bsize_data]; omega), hbs, ← hq]
  refine SW_mid [1, 5] (fun f M => ∃ v, f = [(1, .int .i64 (c.toNat : Int)), (5, v)] ∧ Sl M v (bytesV key) ∧ Grows m M ∧ (∀ g l c, v = .slice (some ⟨g, 0, none⟩) l c → m.size ≤ g)) ?_ ?_
  · refine SW_seq (SW_region ?_)
    simp only [zS, reduceIte, Nat.reduceLT, Int.reduceToNat, Int.reduceLE, Int.reduceEq, Int.reduceLT, Nat.reduceEqDiff, Nat.reduceAdd, zT, hbs]
    refine SW_cond (decide ((q.length : Int) > 64)) (by rfl) (fun hc => SW_region ?_) (fun hc => SW_skip ?_)
    · simp only [zS, reduceIte, Nat.reduceLT, Int.reduceToNat, Int.reduceLE, Int.reduceEq, Int.reduceLT, Nat.reduceEqDiff, Nat.reduceAdd, zT]
      refine ⟨by kernel_rfl, _, rsum_at _ k hk, ?_⟩
      rintro _ M1 ⟨rfl, hM⟩
      rw [hM]
      clear hM
      have hgt : 64 < q.length := by have := of_decide_eq_true hc; omega
      have e : key = Sha.sum q := by rw [hkey, if_pos hgt]
      simp only [zS, reduceIte, Nat.reduceLT, Int.reduceToNat, Int.reduceLE, Int.reduceEq, Int.reduceLT, Nat.reduceEqDiff, Nat.reduceAdd, zT, new_bytes_str key (by omega), bsize_str, ← hq, ← e]
      refine ⟨_, rfl, Sl.block (by simp [bytesV]) (Mem.get_push_new _ _), ((Grows.refl m).push _).push _, fun g l c e => ?_⟩
      cases e; simp
    · simp only [zS, reduceIte, Nat.reduceLT, Int.reduceToNat, Int.reduceLE, Int.reduceEq, Int.reduceLT, Nat.reduceEqDiff, Nat.reduceAdd]
      have hle : ¬ 64 < q.length := by have := of_decide_eq_false hc; omega
      have e : key = q := by rw [hkey, if_neg hle]
      rw [e]
      refine ⟨_, rfl, Sl.block (by simp [bytesV]) (Mem.get_push_new _ _), (Grows.refl m).push _, fun g l c e => ?_⟩
      cases e; simp
  · rintro f M ⟨v, rfl, hv, hgr, hnew⟩
    refine SW_seq (SW_block (SW_loopK [1, 5] (fun n f M => ∃ (j : Nat) (v : Value), key.length + j + n = 64 ∧ f = [(1, .int .i64 (c.toNat : Int)), (5, v)] ∧ Sl M v (bytesV (key ++ List.replicate j 0)) ∧ Grows m M ∧ (∀ g l c, v = .slice (some ⟨g, 0, none⟩) l c → m.size ≤ g)) (64 - key.length) ?_ ?_))
    · simp only [zS, reduceIte, Nat.reduceLT, Int.reduceToNat, Int.reduceLE, Int.reduceEq, Int.reduceLT, Nat.reduceEqDiff, Nat.reduceAdd]
      exact ⟨0, _, by omega, rfl, by simpa using hv, hgr, hnew⟩
    · clear hv hgr hnew
      rintro n f M ⟨j, v, hj, rfl, hv, hgr, hnew⟩
      have hbl : (bytesV (key ++ List.replicate j 0)).length = key.length + j := by simp [bytesV]
      have hv0 := hv
      rcases hv with ⟨rfl, h0⟩ | ⟨g, hvg, hg⟩
      · have := congrArg List.length h0
        rw [hbl] at this
        have hj0 : key.length + j = 0 := by simpa using this
        refine SW_seq (SW_seq (SW_region ?_))
        simp only [zS, reduceIte, Nat.reduceLT, Int.reduceToNat, Int.reduceLE, Int.reduceEq, Int.reduceLT, Nat.reduceEqDiff, Nat.reduceAdd, zT]
        obtain ⟨s', m2, happ, hs', hgr', hnew'⟩ := hv0.app_u8 hgr hnew (byteV 0) (by rw [hbl]; omega)
        have e3 : bytesV (key ++ List.replicate j 0) ++ [byteV 0] = bytesV (key ++ List.replicate (j + 1) 0) := by simp [bytesV, List.replicate_succ']
        rw [e3] at hs'
        replace happ : aAppend Tryz.prog (M.push (.cells false 1 [.int .u8 0])) 99 99 (.slice none 0 0) (.slice (some ⟨M.size, 0, none⟩) 1 1) = some (s', m2) := happ
        refine SW_cond (decide (((0 : Nat) : Int) < 64)) (by rfl) (fun hc => SW_skip ?_) (fun hc => absurd hc (by decide))
        simp only [zS, reduceIte, Nat.reduceLT, Int.reduceToNat, Int.reduceLE, Int.reduceEq, Int.reduceLT, Nat.reduceEqDiff, Nat.reduceAdd]
        refine SW_block (SW_region ?_)
        simp only [zS, reduceIte, Nat.reduceLT, Int.reduceToNat, Int.reduceLE, Int.reduceEq, Int.reduceLT, Nat.reduceEqDiff, Nat.reduceAdd, zT, happ]
        exact ⟨n - 1, ⟨j + 1, s', by omega, rfl, hs', hgr', hnew'⟩, by omega⟩
      · rw [hbl] at hvg
        subst hvg
        refine SW_seq (SW_seq (SW_region ?_))
        simp only [zS, reduceIte, Nat.reduceLT, Int.reduceToNat, Int.reduceLE, Int.reduceEq, Int.reduceLT, Nat.reduceEqDiff, Nat.reduceAdd, zT]
        refine SW_cond (decide (((key.length + j : Nat) : Int) < 64)) (by rfl) (fun hc => SW_skip ?_) (fun hc => SW_exit ?_)
        · simp only [zS, reduceIte, Nat.reduceLT, Int.reduceToNat, Int.reduceLE, Int.reduceEq, Int.reduceLT, Nat.reduceEqDiff, Nat.reduceAdd]
          have hlt := of_decide_eq_true hc
          obtain ⟨s', m2, happ, hs', hgr', hnew'⟩ := hv0.app_u8 hgr hnew (byteV 0) (by rw [hbl]; omega)
          have e3 : bytesV (key ++ List.replicate j 0) ++ [byteV 0] = bytesV (key ++ List.replicate (j + 1) 0) := by simp [bytesV, List.replicate_succ']
          rw [e3] at hs'
          replace happ : aAppend Tryz.prog (M.push (.cells false 1 [.int .u8 0])) 99 99 (.slice (some ⟨g, 0, none⟩) (key.length + j) (key.length + j)) (.slice (some ⟨M.size, 0, none⟩) 1 1) = some (s', m2) := happ
          refine SW_block (SW_region ?_)
          simp only [zS, reduceIte, Nat.reduceLT, Int.reduceToNat, Int.reduceLE, Int.reduceEq, Int.reduceLT, Nat.reduceEqDiff, Nat.reduceAdd, zT, happ]
          exact ⟨n - 1, ⟨j + 1, s', by omega, rfl, hs', hgr', hnew'⟩, by omega⟩
        · simp only [zS, reduceIte, Nat.reduceLT, Int.reduceToNat, Int.reduceLE, Int.reduceEq, Int.reduceLT, Nat.reduceEqDiff, Nat.reduceAdd]
          have hje : j = 64 - key.length := by have := of_decide_eq_false hc; omega
          obtain ⟨p, hp⟩ : ∃ p, p = key ++ List.replicate j 0 := ⟨_, rfl⟩
          have hpl : p.length = 64 := by rw [hp, List.length_append, List.length_replicate]; omega
          rw [← hp] at hg
          rw [← hje, ← hp, show key.length + j = 64 by omega]
          refine SW_seq (SW_seq (SW_region ?_))
          simp only [zS, reduceIte, Nat.reduceLT, Int.reduceToNat, Int.reduceLE, Int.reduceEq, Int.reduceLT, Nat.reduceEqDiff, Nat.reduceAdd]
          refine SW_block (SW_loopK [1, 5, 6] (fun n f M => ∃ t : Nat, t + n = 64 ∧ f = [(1, .int .i64 (c.toNat : Int)), (5, .slice (some ⟨g, 0, none⟩) 64 64), (6, .int .i64 (t : Int))] ∧ M.get g = some (.cells false 1 (bytesV ((p.map (· ^^^ c)).take t ++ p.drop t)))) 64 ?_ ?_)
          · simp only [zS, reduceIte, Nat.reduceLT, Int.reduceToNat, Int.reduceLE, Int.reduceEq, Int.reduceLT, Nat.reduceEqDiff, Nat.reduceAdd]
            exact ⟨0, rfl, rfl, by simpa using hg⟩
          · clear hg hv0 hgr hnew
            rintro n f M ⟨t, ht, rfl, hg⟩
            refine SW_seq (SW_seq (SW_region ?_))
            simp only [zS, reduceIte, Nat.reduceLT, Int.reduceToNat, Int.reduceLE, Int.reduceEq, Int.reduceLT, Nat.reduceEqDiff, Nat.reduceAdd, zT]
            refine SW_cond (decide ((t : Int) < 64)) (by rfl) (fun hc => SW_skip ?_) (fun hc => SW_exit ?_)
            · simp only [zS, reduceIte, Nat.reduceLT, Int.reduceToNat, Int.reduceLE, Int.reduceEq, Int.reduceLT, Nat.reduceEqDiff, Nat.reduceAdd]
              have ht64 : t < 64 := by have := of_decide_eq_true hc; omega
              have xi : IntKind.i64.wrap ((t : Int) + 1) = ((t + 1 : Nat) : Int) := by rw [wr (by omega) (by omega)]; omega
              obtain ⟨b, hb⟩ : ∃ b, p[t]? = some b := ⟨p[t]'(by omega), List.getElem?_eq_getElem (by omega)⟩
              have hbl := UInt8.toNat_lt b
              have hrd : (bytesV ((p.map (· ^^^ c)).take t ++ p.drop t))[t]? = some (.int .u8 (b.toNat : Int)) := by
                rw [bytesV, List.getElem?_map, List.getElem?_append_right (by simp; omega), List.getElem?_drop, show t + (t - ((p.map (· ^^^ c)).take t).length) = t by simp; omega, hb]
                rfl
              have xb : IntKind.i64.wrap (b.toNat : Int) = (b.toNat : Int) := wr (by omega) (by omega)
              have hstore := store_u8 hg (i := t) (by simp [bytesV]; omega) (bits .xor .i64 (b.toNat : Int) (c.toNat : Int) % 256)
              have hset : (bytesV ((p.map (· ^^^ c)).take t ++ p.drop t)).set t (.int .u8 (bits .xor .i64 (b.toNat : Int) (c.toNat : Int) % 256)) = bytesV ((p.map (· ^^^ c)).take (t + 1) ++ p.drop (t + 1)) := by
                rw [xor_byte]
                unfold bytesV
                rw [← List.map_set, List.set_append_right _ _ (by simp; omega), show t - ((p.map (· ^^^ c)).take t).length = 0 by simp; omega, List.take_add_one, List.getElem?_map, hb]
                have : p.drop t = b :: p.drop (t + 1) := by
                  have h1 := List.drop_eq_getElem_cons (l := p) (i := t) (by omega)
                  rw [h1]
                  have h2 := List.getElem?_eq_getElem (l := p) (i := t) (by omega)
                  rw [hb] at h2
                  rw [Option.some.inj h2]
                rw [this]
                simp
              rw [hset] at hstore
              refine SW_seq (SW_block (SW_region ?_))
              simp only [zS, reduceIte, Nat.reduceLT, Int.reduceToNat, Int.reduceLE, Int.reduceEq, Int.reduceLT, Nat.reduceEqDiff, Nat.reduceAdd, zT, hg, hrd, xb, wrap_u8, Int.toNat_natCast, hstore]
              refine ⟨by omega, by omega, ?_⟩
              refine SW_region ?_
              simp only [zS, reduceIte, Nat.reduceLT, Int.reduceToNat, Int.reduceLE, Int.reduceEq, Int.reduceLT, Nat.reduceEqDiff, Nat.reduceAdd, xi]
              exact ⟨n - 1, ⟨t + 1, by omega, rfl, Mem.get_set_same hg _⟩, by omega⟩
            · simp only [zS, reduceIte, Nat.reduceLT, Int.reduceToNat, Int.reduceLE, Int.reduceEq, Int.reduceLT, Nat.reduceEqDiff, Nat.reduceAdd]
              have ht64 : t = 64 := by have := of_decide_eq_false hc; omega
              subst ht64
              have e : (p.map (· ^^^ c)).take 64 ++ p.drop 64 = p.map (· ^^^ c) := by
                rw [List.take_of_length_le (by simp; omega), List.drop_of_length_le (by omega), List.append_nil]
              rw [e] at hg
              refine SW_seq (SW_region ?_)
              simp only [zS, reduceIte, Nat.reduceLT, Int.reduceToNat, Int.reduceLE, Int.reduceEq, Int.reduceLT, Nat.reduceEqDiff, Nat.reduceAdd, zT, to_str (n := 64) hg (by simp; omega)]
              refine SW_ret ?_
              simp only [zS, reduceIte, Nat.reduceLT, Int.reduceToNat, Int.reduceLE, Int.reduceEq, Int.reduceLT, Nat.reduceEqDiff, Nat.reduceAdd, sAnswer, sAnswer.sRes]
theorem rturned_at (M : Mem) (k : ByteArray) (c : UInt8) (hk : k.size ≤ 140737488355200) : Abs.Spec Tryz.prog 82 [.string k, .int .i64 (c.toNat : Int)] M fun u M' => u = .string (str (Sha.pad k.data.toList c)) ∧ M' = M :=
  Abs.Spec.of_flat (by intro x hx; simp at hx; rcases hx with rfl | rfl <;> rfl) rfl fun w => Calls.of_flat_val (by intro x hx; simp at hx; rcases hx with rfl | rfl <;> rfl) rfl (rturned_spec ⟨[]⟩ k c hk) w
theorem str_small (l : List UInt8) (h : l.length ≤ 140737488355200) : (str l).size ≤ 140737488355200 := by rw [str_size]; exact h
theorem pad_len (k : List UInt8) (c : UInt8) : (Sha.pad k c).length = 64 := by rw [Sha.pad, List.length_map, Sha.key64_length]
theorem tag_len (k m : List UInt8) : (Sha.tag k m).length = 32 := by rw [Sha.tag, Sha.sum_length]
set_option maxRecDepth 100000 in
theorem rtag_spec (m : Mem) (k s : ByteArray) (hk : k.size ≤ 140737488355000) (hs : s.size ≤ 140737488355000) :
    Abs.Spec Tryz.prog 51 [.string k, .string s] m fun v _ => v = .string (str (Sha.tag k.data.toList s.data.toList)) := by
  have hsl : s.data.toList.length = s.size := by rw [Array.length_toList]; rfl
  have p1 := pad_len k.data.toList 0x5c
  have p2 := pad_len k.data.toList 0x36
  have p3 := Sha.sum_length (Sha.pad k.data.toList 0x36 ++ s.data.toList)
  refine Abs.Spec.walk Tryz.func51 (by rfl) _ Tryz.results51 _ Tryz.ntmps51 (by simp) ?_
  refine SW_seq (SW_region ?_)
  simp only [zS, reduceIte, Nat.reduceLT, Int.reduceToNat, Int.reduceLE, Int.reduceEq, Int.reduceLT, Nat.reduceEqDiff, Nat.reduceAdd]
  refine SW_seq (SW_region ?_)
  simp only [zS, reduceIte, Nat.reduceLT, Int.reduceToNat, Int.reduceLE, Int.reduceEq, Int.reduceLT, Nat.reduceEqDiff, Nat.reduceAdd]
  refine ⟨by kernel_rfl, _, rturned_at _ k 0x5c (by omega), ?_⟩
  rintro _ M1 ⟨rfl, _⟩
  simp only [zS, reduceIte, Nat.reduceLT, Int.reduceToNat, Int.reduceLE, Int.reduceEq, Int.reduceLT, Nat.reduceEqDiff, Nat.reduceAdd]
  refine ⟨by kernel_rfl, _, rturned_at _ k 0x36 (by omega), ?_⟩
  rintro _ M2 ⟨rfl, _⟩
  have hbs : bsize s = s.data.toList.length := rfl
  simp only [zS, reduceIte, Nat.reduceLT, Int.reduceToNat, Int.reduceLE, Int.reduceEq, Int.reduceLT, Nat.reduceEqDiff, Nat.reduceAdd, bsize_str, bcat_str, hbs, p2]
  refine ⟨by omega, by kernel_rfl, _, rsum_at _ _ (str_small _ (by rw [List.length_append]; omega)), ?_⟩
  rintro _ M3 ⟨rfl, _⟩
  simp only [zS, reduceIte, Nat.reduceLT, Int.reduceToNat, Int.reduceLE, Int.reduceEq, Int.reduceLT, Nat.reduceEqDiff, Nat.reduceAdd, bsize_str, bcat_str, str_list, p1, p3]
  refine ⟨by omega, by kernel_rfl, _, rsum_at _ _ (str_small _ (by rw [List.length_append]; omega)), ?_⟩
  rintro _ M4 ⟨rfl, _⟩
  simp only [zS, reduceIte, Nat.reduceLT, Int.reduceToNat, Int.reduceLE, Int.reduceEq, Int.reduceLT, Nat.reduceEqDiff, Nat.reduceAdd]
  refine SW_ret ?_
  simp only [zS, reduceIte, Nat.reduceLT, Int.reduceToNat, Int.reduceLE, Int.reduceEq, Int.reduceLT, Nat.reduceEqDiff, Nat.reduceAdd, sAnswer, sAnswer.sRes, str_list]
  rfl
theorem rtag_any (k s : ByteArray) (w : World) (hk : k.size ≤ 140737488355000) (hs : s.size ≤ 140737488355000) :
    Calls Tryz.prog 51 #[.string k, .string s] w fun e w' => e = .returned (.string (str (Sha.tag k.data.toList s.data.toList))) ∧ Below w.heap.size w w' :=
  Calls.of_flat_val (by intro x hx; simp at hx; rcases hx with rfl | rfl <;> rfl) rfl (rtag_spec ⟨[]⟩ k s hk hs) w
theorem rtag_at (M : Mem) (k s : ByteArray) (hk : k.size ≤ 140737488355000) (hs : s.size ≤ 140737488355000) :
    Abs.Spec Tryz.prog 51 [.string k, .string s] M fun v M' => v = .string (str (Sha.tag k.data.toList s.data.toList)) ∧ M' = M :=
  Abs.Spec.of_flat (by intro x hx; simp at hx; rcases hx with rfl | rfl <;> rfl) rfl fun w => rtag_any k s w hk hs
set_option maxRecDepth 100000 in
theorem rexpand_spec (m : Mem) (k s : ByteArray) (hk : k.size ≤ 140737488355000) (hs : s.size ≤ 1000) :
    Abs.Spec Tryz.prog 53 [.string k, .string s, .int .i64 32] m fun v _ => v = .tuple #[.string (str (Sha.expand k.data.toList s.data.toList 32)), .int .i64 0] := by
  obtain ⟨T, hT⟩ : ∃ T, T = Sha.tag k.data.toList (s.data.toList ++ [1]) := ⟨_, rfl⟩
  have hTl : T.length = 32 := by rw [hT, tag_len]
  have hexp : Sha.expand k.data.toList s.data.toList 32 = T := by
    have : Sha.expand k.data.toList s.data.toList 32 = T.take 32 := by rw [hT]; rfl
    rw [this, List.take_of_length_le (by omega)]
  have hsl : s.data.toList.length = s.size := by rw [Array.length_toList]; rfl
  rw [hexp]
  refine Abs.Spec.walk Tryz.func53 (by rfl) _ Tryz.results53 _ Tryz.ntmps53 (by simp) ?_
  refine SW_seq (SW_region ?_)
  simp only [zS, reduceIte, Nat.reduceLT, Int.reduceToNat, Int.reduceLE, Int.reduceEq, Int.reduceLT, Nat.reduceEqDiff, Nat.reduceAdd]
  refine SW_seq (SW_seq (SW_region ?_))
  simp only [zS, reduceIte, Nat.reduceLT, Int.reduceToNat, Int.reduceLE, Int.reduceEq, Int.reduceLT, Nat.reduceEqDiff, Nat.reduceAdd, zT, Region.wanted, vPick, List.getElem?_cons_succ, List.getElem?_cons_zero, Int.reduceLT, Int.reduceGT, decide_false, decide_true, beq_self_eq_true]
  refine SW_cond false (by rfl) (fun h => by cases h) (fun _ => SW_skip ?_)
  simp only [zS, reduceIte, Nat.reduceLT, Int.reduceToNat, Int.reduceLE, Int.reduceEq, Int.reduceLT, Nat.reduceEqDiff, Nat.reduceAdd]
  refine SW_seq (SW_region ?_)
  simp only [zS, reduceIte, Nat.reduceLT, Int.reduceToNat, Int.reduceLE, Int.reduceEq, Int.reduceLT, Nat.reduceEqDiff, Nat.reduceAdd]
  refine SW_seq (SW_region ?_)
  simp only [zS, reduceIte, Nat.reduceLT, Int.reduceToNat, Int.reduceLE, Int.reduceEq, Int.reduceLT, Nat.reduceEqDiff, Nat.reduceAdd]
  refine SW_seq (SW_seq (SW_region ?_))
  simp only [zS, reduceIte, Nat.reduceLT, Int.reduceToNat, Int.reduceLE, Int.reduceEq, Int.reduceLT, Nat.reduceEqDiff, Nat.reduceAdd]
  refine SW_block (SW_loopK [0, 1, 2, 8, 9, 10] (fun n f M => (n = 1 ∧ f = [(0, .string k), (1, .string s), (2, .int .i64 32), (8, .string (str [])), (9, .string (str [])), (10, .int .i64 1)]) ∨ (n = 0 ∧ ∃ v9 v10, f = [(0, .string k), (1, .string s), (2, .int .i64 32), (8, .string (str T)), (9, v9), (10, v10)])) 1 ?_ ?_)
  · simp only [zS, reduceIte, Nat.reduceLT, Int.reduceToNat, Int.reduceLE, Int.reduceEq, Int.reduceLT, Nat.reduceEqDiff, Nat.reduceAdd]
    exact .inl rfl
  · rintro n f M (⟨rfl, rfl⟩ | ⟨rfl, v9, v10, rfl⟩)
    · refine SW_seq (SW_seq (SW_region ?_))
      simp only [zS, reduceIte, Nat.reduceLT, Int.reduceToNat, Int.reduceLE, Int.reduceEq, Int.reduceLT, Nat.reduceEqDiff, Nat.reduceAdd, zT, bsize_str, List.length_nil]
      refine SW_cond true (by rfl) (fun h => SW_skip ?_) (fun h => by cases h)
      simp only [zS, reduceIte, Nat.reduceLT, Int.reduceToNat, Int.reduceLE, Int.reduceEq, Int.reduceLT, Nat.reduceEqDiff, Nat.reduceAdd]
      have hbs : bsize s = s.data.toList.length := rfl
      have hw1 : IntKind.u8.wrap 1 = 1 := rfl
      have hgb : ∀ M : Mem, (M.push (.cells false 1 [.int .u8 1])).get M.size = some (.cells false 1 (bytesV [1])) := fun M => Mem.get_push_new _ _
      refine SW_seq (SW_block (SW_seq (SW_region ?_)))
      simp only [zS, reduceIte, Nat.reduceLT, Int.reduceToNat, Int.reduceLE, Int.reduceEq, Int.reduceLT, Nat.reduceEqDiff, Nat.reduceAdd, zT, bsize_str, bcat_str, hbs, hw1, str_list, List.length_nil, List.length_append, List.length_cons, to_str (n := 1) (l := [1]) (hgb _) rfl]
      refine ⟨by omega, by omega, by kernel_rfl, _, rtag_at _ _ _ hk (by rw [str_size, List.length_append]; simp; omega), ?_⟩
      rintro _ M1 ⟨rfl, _⟩
      simp only [str_list]
      rw [← hT]
      have xi : IntKind.i64.wrap (1 + 1) = 2 := rfl
      simp only [zS, reduceIte, Nat.reduceLT, Int.reduceToNat, Int.reduceLE, Int.reduceEq, Int.reduceLT, Nat.reduceEqDiff, Nat.reduceAdd]
      refine SW_region ?_
      simp only [zS, reduceIte, Nat.reduceLT, Int.reduceToNat, Int.reduceLE, Int.reduceEq, Int.reduceLT, Nat.reduceEqDiff, Nat.reduceAdd, zT, bsize_str, bcat_str, str_list, List.length_nil, hTl]
      refine ⟨by omega, ?_⟩
      refine SW_region ?_
      simp only [zS, reduceIte, Nat.reduceLT, Int.reduceToNat, Int.reduceLE, Int.reduceEq, Int.reduceLT, Nat.reduceEqDiff, Nat.reduceAdd, xi]
      exact ⟨0, .inr ⟨rfl, _, _, rfl⟩, by omega⟩
    · refine SW_seq (SW_seq (SW_region ?_))
      simp only [zS, reduceIte, Nat.reduceLT, Int.reduceToNat, Int.reduceLE, Int.reduceEq, Int.reduceLT, Nat.reduceEqDiff, Nat.reduceAdd, zT, bsize_str, hTl]
      refine SW_cond false (by rfl) (fun h => by cases h) (fun h => SW_exit ?_)
      simp only [zS, reduceIte, Nat.reduceLT, Int.reduceToNat, Int.reduceLE, Int.reduceEq, Int.reduceLT, Nat.reduceEqDiff, Nat.reduceAdd]
      refine SW_seq (SW_region ?_)
      have hb : bsub (str T) 0 32 = str T := by
        show (⟨⟨(T.drop 0).take 32⟩⟩ : ByteArray) = ⟨⟨T⟩⟩
        rw [List.drop_zero, List.take_of_length_le (by omega)]
      simp only [zS, reduceIte, Nat.reduceLT, Int.reduceToNat, Int.reduceLE, Int.reduceEq, Int.reduceLT, Nat.reduceEqDiff, Nat.reduceAdd, zT, slice_str (str T) 32 (by decide) (by rw [bsize_str, hTl]; decide), hb]
      refine SW_ret ?_
      simp only [zS, reduceIte, Nat.reduceLT, Int.reduceToNat, Int.reduceLE, Int.reduceEq, Int.reduceLT, Nat.reduceEqDiff, Nat.reduceAdd, sAnswer, sAnswer.sRes]
theorem rexpand_at (M : Mem) (k s : ByteArray) (hk : k.size ≤ 140737488355000) (hs : s.size ≤ 1000) :
    Abs.Spec Tryz.prog 53 [.string k, .string s, .int .i64 32] M fun v M' => v = .tuple #[.string (str (Sha.expand k.data.toList s.data.toList 32)), .int .i64 0] ∧ M' = M :=
  Abs.Spec.of_flat (by intro x hx; simp at hx; rcases hx with rfl | rfl | rfl <;> rfl) rfl fun w => Calls.of_flat_val (by intro x hx; simp at hx; rcases hx with rfl | rfl | rfl <;> rfl) rfl (rexpand_spec ⟨[]⟩ k s hk hs) w
theorem new_keys : nAlloc Tryz.prog 55 = some (.cells false 1 [.string ⟨#[]⟩, .string ⟨#[]⟩, .string ⟨#[]⟩]) := by kernel_rfl
theorem build_keys (a b c : ByteArray) : aBuild Tryz.prog 55 [(0, .string a), (1, .string b), (2, .string c)] = some (.agg #[.string a, .string b, .string c]) := by kernel_rfl
theorem inf_keys : Tryz.prog.info? 55 = some Tryz.t55 := by kernel_rfl
theorem keys_size : Tryz.t55.size = 3 := rfl
set_option maxRecDepth 100000 in
theorem rkeys_spec (m : Mem) (secret salt : ByteArray) (h1 : secret.size ≤ 140737488355000) (h2 : salt.size ≤ 140737488355000) :
    Abs.Spec Tryz.prog 26 [.string secret, .string salt] m fun v _ => v = keysV secret.data.toList salt.data.toList := by
  have ht : ∀ a b, (str (Sha.tag a b)).size ≤ 140737488355000 := fun a b => by rw [str_size, Sha.tag_length]; decide
  refine Abs.Spec.walk Tryz.func26 (by rfl) _ Tryz.results26 _ Tryz.ntmps26 (by simp) ?_
  refine SW_seq (SW_region ?_)
  simp only [zS, reduceIte, Nat.reduceLT, Int.reduceToNat, Int.reduceLE, Int.reduceEq, Int.reduceLT, Nat.reduceEqDiff, Nat.reduceAdd, new_keys]
  refine SW_seq (SW_region ?_)
  simp only [zS, reduceIte, Nat.reduceLT, Int.reduceToNat, Int.reduceLE, Int.reduceEq, Int.reduceLT, Nat.reduceEqDiff, Nat.reduceAdd]
  refine ⟨by kernel_rfl, _, rtag_at _ _ _ h2 h1, ?_⟩
  rintro _ M1 ⟨rfl, hM1⟩
  simp only [zS, reduceIte, Nat.reduceLT, Int.reduceToNat, Int.reduceLE, Int.reduceEq, Int.reduceLT, Nat.reduceEqDiff, Nat.reduceAdd]
  refine SW_seq (SW_region ?_)
  simp only [zS, reduceIte, Nat.reduceLT, Int.reduceToNat, Int.reduceLE, Int.reduceEq, Int.reduceLT, Nat.reduceEqDiff, Nat.reduceAdd]
  refine ⟨by kernel_rfl, _, rexpand_at _ _ _ (ht _ _) (by decide), ?_⟩
  rintro _ M2 ⟨rfl, hM2⟩
  simp only [zS, reduceIte, Nat.reduceLT, Int.reduceToNat, Int.reduceLE, Int.reduceEq, Int.reduceLT, Nat.reduceEqDiff, Nat.reduceAdd, List.getElem?_cons_succ, List.getElem?_cons_zero]
  refine SW_seq (SW_region ?_)
  simp only [zS, reduceIte, Nat.reduceLT, Int.reduceToNat, Int.reduceLE, Int.reduceEq, Int.reduceLT, Nat.reduceEqDiff, Nat.reduceAdd]
  refine ⟨by kernel_rfl, _, rexpand_at _ _ _ (ht _ _) (by decide), ?_⟩
  rintro _ M3 ⟨rfl, hM3⟩
  simp only [zS, reduceIte, Nat.reduceLT, Int.reduceToNat, Int.reduceLE, Int.reduceEq, Int.reduceLT, Nat.reduceEqDiff, Nat.reduceAdd, List.getElem?_cons_succ, List.getElem?_cons_zero]
  refine SW_seq (SW_region ?_)
  simp only [zS, reduceIte, Nat.reduceLT, Int.reduceToNat, Int.reduceLE, Int.reduceEq, Int.reduceLT, Nat.reduceEqDiff, Nat.reduceAdd]
  refine ⟨by kernel_rfl, _, rtag_at _ _ _ (by decide) h1, ?_⟩
  rintro _ M4 ⟨rfl, hM4⟩
  simp only [zS, reduceIte, Nat.reduceLT, Int.reduceToNat, Int.reduceLE, Int.reduceEq, Int.reduceLT, Nat.reduceEqDiff, Nat.reduceAdd]
  refine ⟨by kernel_rfl, _, rexpand_at _ _ _ (ht _ _) (by decide), ?_⟩
  rintro _ M5 ⟨rfl, hM5⟩
  simp only [zS, reduceIte, Nat.reduceLT, Int.reduceToNat, Int.reduceLE, Int.reduceEq, Int.reduceLT, Nat.reduceEqDiff, Nat.reduceAdd, List.getElem?_cons_succ, List.getElem?_cons_zero]
  have hM : M5 = m.push (.cells false 1 [.string ⟨#[]⟩, .string ⟨#[]⟩, .string ⟨#[]⟩]) := by rw [hM5, hM4, hM3, hM2, hM1]
  have hg : M5.get m.size = some (.cells false 1 [.string ⟨#[]⟩, .string ⟨#[]⟩, .string ⟨#[]⟩]) := by rw [hM, Mem.get_push_new]
  have hst : ∀ a b c : ByteArray, aStore Tryz.prog M5 55 (.pointer (some ⟨m.size, 0, none⟩)) (.agg #[.string a, .string b, .string c]) = some (M5.set m.size (some (.cells false 1 [.string a, .string b, .string c]))) := fun a b c => by
    unfold aStore
    simp only [hg, inf_keys, keys_size]
    rfl
  have hld : ∀ a b c : ByteArray, aLoad Tryz.prog (M5.set m.size (some (.cells false 1 [.string a, .string b, .string c]))) 55 (.pointer (some ⟨m.size, 0, none⟩)) = some (.agg #[.string a, .string b, .string c]) := fun a b c => by
    unfold aLoad
    simp only [Mem.get_set_same hg, inf_keys, keys_size, Tryz.underlying55]
    rfl
  refine SW_seq (SW_region ?_)
  simp only [zS, reduceIte, Nat.reduceLT, Int.reduceToNat, Int.reduceLE, Int.reduceEq, Int.reduceLT, Nat.reduceEqDiff, Nat.reduceAdd, vBuild, build_keys, hst]
  refine SW_ret ?_
  simp only [zS, reduceIte, Nat.reduceLT, Int.reduceToNat, Int.reduceLE, Int.reduceEq, Int.reduceLT, Nat.reduceEqDiff, Nat.reduceAdd, sAnswer, sAnswer.sRes, hld]
  rfl
theorem rkeys_any (secret salt : ByteArray) (w : World) (h1 : secret.size ≤ 140737488355000) (h2 : salt.size ≤ 140737488355000) :
    Calls Tryz.prog 26 #[.string secret, .string salt] w fun e w' => e = .returned (keysV secret.data.toList salt.data.toList) ∧ Below w.heap.size w w' :=
  Calls.of_flat_val (by intro x hx; simp at hx; rcases hx with rfl | rfl <;> rfl) rfl (rkeys_spec ⟨[]⟩ secret salt h1 h2) w
end Go.Proofs.YtpmgackgcefalaaGreat
namespace Go.Proofs.YtpmgackgcefalaaGreat
open Go.RowKit Abs
theorem optHead_flat (x : Option Header) : flat 3 (optHead x) = true := by cases x <;> rfl
theorem optTexts_flat (x : Option (ByteArray × ByteArray)) : flat 3 (optTexts x) = true := by cases x <;> rfl
theorem arch_rel {n : Nat → Prop} {ι : Nat → Abs.Loc} {h : Header} {v u : Value} (hr : VRel n ι (.agg (archC h v)) u) : ∃ v', u = .agg (archC h v') ∧ VRel n ι v v' := by
  obtain ⟨ys, rfl, hl, hx⟩ := hr.agg_inv
  have hsz : ys.size = 8 := by rw [← Array.length_toList, ← hl]; rfl
  have g : ∀ (i : Nat) (x : Value), (archC h v).toList[i]? = some x → flat 3 x = true → ys[i]? = some x := by
    intro i x hi hf
    have : i < ys.size := by rw [hsz]; exact (List.getElem?_eq_some_iff.1 hi).1
    have h2 := hx i x ys[i] hi (by simp [this])
    rw [Array.getElem?_eq_getElem this, ← flat_eq 3 x _ hf h2]
  obtain ⟨y7, hy7⟩ : ∃ y, ys[7]? = some y := ⟨_, Array.getElem?_eq_getElem (by omega)⟩
  refine ⟨y7, ?_, hx 7 v y7 rfl (by simpa using hy7)⟩
  congr 1
  have hs2 : (archC h y7).size = 8 := rfl
  refine ext_of_same (hsz.trans hs2.symm) fun i x y h1 h2 => ?_
  have hi : i < 8 := by rw [← hsz]; exact (Array.getElem?_eq_some_iff.1 h1).1
  have gg : ∀ (x' : Value), (archC h v).toList[i]? = some x' → flat 3 x' = true → (archC h y7)[i]? = some x' → x = y := fun x' k1 k2 k3 => by
    have := g i x' k1 k2
    rw [this] at h1
    rw [k3] at h2
    exact (Option.some.inj h1).symm.trans (Option.some.inj h2)
  match i, hi with
  | 0, _ => exact gg _ rfl rfl rfl
  | 1, _ => exact gg _ rfl rfl rfl
  | 2, _ => exact gg _ rfl rfl rfl
  | 3, _ => exact gg _ rfl rfl rfl
  | 4, _ => exact gg _ rfl rfl rfl
  | 5, _ => exact gg _ rfl rfl rfl
  | 6, _ => exact gg _ rfl rfl rfl
  | 7, _ =>
    rw [hy7] at h1
    exact (Option.some.inj h1).symm.trans (Option.some.inj h2)
theorem same_at (m : Mem) (h k : Header) (v1 v2 : Value) (xs ys : List ByteArray) (h1 : Rd m 1 v1 xs.length (xs.map .string)) (h2 : Rd m 1 v2 ys.length (ys.map .string)) (hsz : xs.length ≤ 140737488355327) :
    Abs.Spec Tryz.prog 12 [.agg (archC h v1), .agg (archC k v2)] m fun u m' => u = .bool (sameArch h k xs ys) ∧ m' = m :=
  Spec.of_below rfl fun ι w us hy hr => by
    obtain ⟨a, b, rfl, ha, hb⟩ := vrels_two hy
    obtain ⟨a, rfl, ha2⟩ := arch_rel ha
    obtain ⟨b, rfl, hb2⟩ := arch_rel hb
    exact samearch_any h k a b xs ys w (h1.strs hr ha2) (h2.strs hr hb2) hsz
theorem rsame_at (m : Mem) (h k : Header) (v1 v2 : Value) (xs ys : List ByteArray) (h1 : Rd m 1 v1 xs.length (xs.map .string)) (h2 : Rd m 1 v2 ys.length (ys.map .string)) (hsz : xs.length ≤ 140737488355327) :
    Abs.Spec Tryz.prog 16 [.agg (archC h v1), .agg (archC k v2)] m fun u m' => u = .bool (sameArch h k xs ys) ∧ m' = m :=
  Spec.of_below rfl fun ι w us hy hr => by
    obtain ⟨a, b, rfl, ha, hb⟩ := vrels_two hy
    obtain ⟨a, rfl, ha2⟩ := arch_rel ha
    obtain ⟨b, rfl, hb2⟩ := arch_rel hb
    exact rsamearch_any h k a b xs ys w (h1.strs hr ha2) (h2.strs hr hb2) hsz
theorem hashead_at (m : Mem) (v : Value) (hs : List Header) (x : Header) (h : Rd m 7 v hs.length (hs.flatMap Header.cells)) (hw : ∀ x ∈ hs, x.wf) (hl : hs.length ≤ 140737488355327) :
    Abs.Spec Tryz.prog 13 [v, x.val] m fun u m' => u = .bool (hasHead hs x) ∧ m' = m :=
  Spec.of_below rfl fun ι w us hy hr => by
    obtain ⟨a, b, rfl, ha, hb⟩ := vrels_two hy
    rw [← flat_eq 3 x.val b rfl hb]
    exact contains_head a hs x w (h.heads hr hw ha) hl
theorem tagged_at (m : Mem) (v : Value) (hs : List Header) (x : Header) (h : Rd m 7 v hs.length (hs.flatMap Header.cells)) (hw : ∀ x ∈ hs, x.wf) (hl : hs.length ≤ 140737488355327) :
    Abs.Spec Tryz.prog 17 [v, x.val] m fun u m' => u = .bool (hasHead hs x) ∧ m' = m :=
  Spec.of_below rfl fun ι w us hy hr => by
    obtain ⟨a, b, rfl, ha, hb⟩ := vrels_two hy
    rw [← flat_eq 3 x.val b rfl hb]
    exact tagged_any a hs x w (h.heads hr hw ha) hl
theorem offered_at (m : Mem) (s : ByteArray) (hs : s.size ≤ 140737488355327) : Abs.Spec Tryz.prog 14 [.string s] m fun u m' => u = optHead (offeredH s) ∧ m' = m :=
  Abs.Spec.of_flat (by simp [flat]) (optHead_flat _) fun w => offered_any s hs w
theorem roffered_at (m : Mem) (s : ByteArray) (hs : s.size ≤ 140737488355) : Abs.Spec Tryz.prog 18 [.string s] m fun u m' => u = optHead (offeredH s) ∧ m' = m :=
  Abs.Spec.of_flat (by simp [flat]) (optHead_flat _) fun w => roffered_any s hs w
theorem leaves_at (m : Mem) (x : Int) (v1 v2 : Value) (a b : List ByteArray) (h1 : Rd m 1 v1 a.length (a.map .string)) (h2 : Rd m 1 v2 b.length (b.map .string)) (M : Nat) (hM : M ≤ 140737488355000) (ha : a.length ≤ 1152921504606846976) (hb : b.length ≤ 1152921504606846976)
    (hsa : ∀ s ∈ a, s.size ≤ M) (hsb : ∀ s ∈ b, s.size ≤ M) :
    Abs.Spec Tryz.prog 15 [.int .i64 x, v1, v2] m fun u m' => u = optTexts (leavesV x a b) ∧ m' = m :=
  Spec.of_below (optTexts_flat _) fun ι w us hy hr => by
    obtain ⟨c, d, e, rfl, hc, hd, he⟩ := vrels_three hy
    cases hc
    exact leaves_any x a b d e w M hM ha hb hsa hsb (h1.strs hr hd) (h2.strs hr he)
theorem rleaves_at (m : Mem) (x : Int) (v1 v2 : Value) (a b : List ByteArray) (h1 : Rd m 1 v1 a.length (a.map .string)) (h2 : Rd m 1 v2 b.length (b.map .string)) (M : Nat) (hM : M ≤ 140737488355000) (ha : a.length ≤ 1152921504606846976) (hb : b.length ≤ 1152921504606846976)
    (hsa : ∀ s ∈ a, s.size ≤ M) (hsb : ∀ s ∈ b, s.size ≤ M) :
    Abs.Spec Tryz.prog 19 [.int .i64 x, v1, v2] m fun u m' => u = optTexts (leavesV x a b) ∧ m' = m :=
  Spec.of_below (optTexts_flat _) fun ι w us hy hr => by
    obtain ⟨c, d, e, rfl, hc, hd, he⟩ := vrels_three hy
    cases hc
    exact rleaves_any rsum_any x M hM a.length a b d e w rfl ha hb hsa hsb (h1.strs hr hd) (h2.strs hr he)
end Go.Proofs.YtpmgackgcefalaaGreat
namespace Go.Proofs.YtpmgackgcefalaaGreat.Abs
open Go Go.RowKit
def renL (g : Value → Option Value) : List Value → Option (List Value)
  | [] => some []
  | v :: r => match g v with
    | some u => match renL g r with
      | some l => some (u :: l)
      | none => none
    | none => none
def ren (σ : Nat → Option Nat) : Nat → Value → Option Value
  | _, .bool b => some (.bool b)
  | _, .int k x => some (.int k x)
  | _, .float k x => some (.float k x)
  | _, .complex k x y => some (.complex k x y)
  | _, .string s => some (.string s)
  | _, .pointer none => some (.pointer none)
  | _, .pointer (some ⟨b, o, none⟩) => match σ b with
    | some c => some (.pointer (some ⟨c, o, none⟩))
    | none => none
  | _, .slice none 0 0 => some (.slice none 0 0)
  | _, .slice (some ⟨b, o, none⟩) l c => match σ b with
    | some d => some (.slice (some ⟨d, o, none⟩) l c)
    | none => none
  | _, .nilFunc => some .nilFunc
  | _, .nilIface => some .nilIface
  | _, .map none => some (.map none)
  | k + 1, .agg cs => match renL (ren σ k) cs.toList with
    | some l => some (.agg l.toArray)
    | none => none
  | k + 1, .tuple cs => match renL (ren σ k) cs.toList with
    | some l => some (.tuple l.toArray)
    | none => none
  | k + 1, .iface t v => match ren σ k v with
    | some u => some (.iface t u)
    | none => none
  | k + 1, .func (.func f) xs ys => match renL (ren σ k) xs.toList with
    | some l => match renL (ren σ k) ys.toList with
      | some r => some (.func (.func f) l.toArray r.toArray)
      | none => none
    | none => none
  | _, _ => none
theorem renL_spec {g : Value → Option Value} : ∀ {xs ys : List Value}, renL g xs = some ys → xs.length = ys.length ∧ ∀ (i : Nat) (x y : Value), xs[i]? = some x → ys[i]? = some y → g x = some y
  | [], ys, h => by cases h; exact ⟨rfl, fun i x y hx => by simp at hx⟩
  | v :: r, ys, h => by
    simp only [renL] at h
    split at h <;> first | (cases h; done) | skip
    rename_i u hu
    split at h <;> first | (cases h; done) | skip
    rename_i l hl
    cases h
    obtain ⟨h1, h2⟩ := renL_spec hl
    refine ⟨by simp [h1], fun i x y hx hy => ?_⟩
    cases i with
    | zero => simp at hx hy; subst hx; subst hy; exact hu
    | succ i => exact h2 i x y (by simpa using hx) (by simpa using hy)
theorem renL_same {g : Value → Option Value} : ∀ {xs : List Value}, (∀ x ∈ xs, g x = some x) → renL g xs = some xs
  | [], _ => rfl
  | v :: r, h => by
    have h1 := h v List.mem_cons_self
    have h2 := renL_same (g := g) (xs := r) fun x hx => h x (List.mem_cons_of_mem _ hx)
    simp only [renL, h1, h2]
theorem ren_flat {σ : Nat → Option Nat} : ∀ (k : Nat) (v : Value), flat k v = true → ren σ k v = some v := by
  intro k
  induction k with
  | zero =>
    intro v h
    cases v <;> first | rfl | skip
    case pointer a => cases a <;> first | rfl | (simp [flat] at h)
    case slice a l c => 
      cases a
      · cases l <;> cases c <;> first | rfl | (simp [flat] at h)
      · simp [flat] at h
    case map r => cases r <;> first | rfl | (simp [flat] at h)
    all_goals simp [flat] at h
  | succ k ih =>
    intro v h
    have arr : ∀ cs : Array Value, cs.toList.all (flat k) = true → renL (ren σ k) cs.toList = some cs.toList := fun cs hc => renL_same fun x hx => ih x (List.all_eq_true.1 hc x hx)
    cases v <;> first | rfl | skip
    case pointer a => cases a <;> first | rfl | (simp [flat] at h)
    case slice a l c => 
      cases a
      · cases l <;> cases c <;> first | rfl | (simp [flat] at h)
      · simp [flat] at h
    case map r => cases r <;> first | rfl | (simp [flat] at h)
    case agg cs => simp only [ren, arr cs (by simpa [flat] using h)]
    case tuple cs => simp only [ren, arr cs (by simpa [flat] using h)]
    case iface t v => simp only [ren, ih v (by simpa [flat] using h)]
    case func fn fs cs =>
      cases fn <;> simp [flat] at h
      simp only [ren, arr fs (by simpa using h.1), arr cs (by simpa using h.2)]
    all_goals simp [flat] at h
theorem renL_flat {σ : Nat → Option Nat} {k : Nat} {xs : List Value} (h : ∀ x ∈ xs, flat k x = true) : renL (ren σ k) xs = some xs := renL_same fun x hx => ren_flat k x (h x hx)
section
variable {n n' : Nat → Prop} {ι κ : Nat → Loc} {σ : Nat → Option Nat}
theorem ren_one : ∀ {k : Nat} {v v' : Value}, ren σ k v = some v' → v'.oneCell' = v.oneCell' := by
  intro k v v' h
  cases k <;> unfold ren at h <;> (split at h <;> first | (cases h; rfl) | (split at h <;> first | (cases h; done) | (cases h; rfl) | (split at h <;> first | (cases h; done) | (cases h; rfl))) | (cases h; done))
theorem ren_rel (hσ : ∀ b c, n b → σ b = some c → n' c ∧ κ c = ι b) : ∀ (k : Nat) (v v' u : Value), ren σ k v = some v' → VRel n ι v u → VRel n' κ v' u := by
  have ptr : ∀ (b o : Nat) (v' u : Value), (match σ b with | some c => some (Value.pointer (some ⟨c, o, none⟩)) | none => none) = some v' → VRel n ι (.pointer (some ⟨b, o, none⟩)) u → VRel n' κ v' u := by
    intro b o v' u h hr
    split at h <;> first | (cases h; done) | skip
    rename_i c hc
    cases h
    cases hr with
    | ptr _ _ hb =>
      obtain ⟨h1, h2⟩ := hσ b c hb hc
      rw [← h2]; exact .ptr c o h1
  have slc : ∀ (b o l cp : Nat) (v' u : Value), (match σ b with | some c => some (Value.slice (some ⟨c, o, none⟩) l cp) | none => none) = some v' → VRel n ι (.slice (some ⟨b, o, none⟩) l cp) u → VRel n' κ v' u := by
    intro b o l cp v' u h hr
    split at h <;> first | (cases h; done) | skip
    rename_i c hc
    cases h
    cases hr with
    | slice _ _ _ _ cap' hb hl hcap =>
      obtain ⟨h1, h2⟩ := hσ b c hb hc
      rw [← h2] at hcap ⊢; exact .slice c o l cp cap' h1 hl hcap
    | empty _ _ p hb => exact .empty c o p (hσ b c hb hc).1
  intro k
  induction k with
  | zero =>
    intro v v' u h hr
    unfold ren at h
    split at h <;> first | (cases h; cases hr; constructor; done) | (exact ptr _ _ _ _ h hr) | (exact slc _ _ _ _ _ _ h hr) | (cases h; done) | skip
    all_goals simp at *
  | succ k ih =>
    intro v v' u h hr
    have arr : ∀ (xs : Array Value) (l : List Value) (ys : Array Value), renL (ren σ k) xs.toList = some l → xs.size = ys.size → (∀ (i : Nat) (x y : Value), xs[i]? = some x → ys[i]? = some y → VRel n ι x y) →
        l.toArray.size = ys.size ∧ ∀ (i : Nat) (x y : Value), l.toArray[i]? = some x → ys[i]? = some y → VRel n' κ x y := by
      intro xs l ys hl hs hh
      obtain ⟨h1, h2⟩ := renL_spec hl
      refine ⟨by simp; simp at h1; omega, fun i x y hx hy => ?_⟩
      have hi : i < xs.size := by rw [hs]; exact (Array.getElem?_eq_some_iff.1 hy).1
      have hx0 := Array.getElem?_eq_getElem hi
      exact ih _ _ _ (h2 i _ x (by simpa using hx0) (by simpa using hx)) (hh i _ y hx0 hy)
    cases v with
    | pointer a =>
      match a, h with
      | none, h => cases h; cases hr; constructor
      | some ⟨b, o, none⟩, h => exact ptr _ _ _ _ h hr
    | slice a l c =>
      match a, l, c, h with
      | none, 0, 0, h => cases h; cases hr; constructor
      | some ⟨b, o, none⟩, l, c, h => exact slc _ _ _ _ _ _ h hr
    | map r =>
      match r, h with
      | none, h => cases h; cases hr; constructor
    | agg cs =>
      simp only [ren] at h
      split at h <;> first | (cases h; done) | skip
      rename_i l hl
      cases h
      cases hr with
      | agg _ ys hs hh => obtain ⟨h1, h2⟩ := arr _ l ys hl hs hh; exact .agg _ _ h1 h2
    | tuple cs =>
      simp only [ren] at h
      split at h <;> first | (cases h; done) | skip
      rename_i l hl
      cases h
      cases hr with
      | tuple _ ys hs hh => obtain ⟨h1, h2⟩ := arr _ l ys hl hs hh; exact .tuple _ _ h1 h2
    | iface t v =>
      simp only [ren] at h
      split at h <;> first | (cases h; done) | skip
      rename_i l hl
      cases h
      cases hr with
      | iface _ _ y hh => exact .iface _ _ _ (ih _ _ _ hl hh)
    | func fn xs ys =>
      cases fn <;> simp only [ren] at h <;> first | (cases h; done) | skip
      split at h <;> first | (cases h; done) | skip
      rename_i l hl
      split at h <;> first | (cases h; done) | skip
      rename_i r hr'
      cases h
      cases hr with
      | func _ _ ys _ ws hs hh hs2 hh2 =>
        obtain ⟨h1, h2⟩ := arr _ l ys hl hs hh
        obtain ⟨h3, h4⟩ := arr _ r ws hr' hs2 hh2
        exact .func _ _ _ _ _ h1 h2 h3 h4
    | _ => first | (cases h; cases hr; constructor; done) | (cases h; done)
theorem ren_inv (hσ : ∀ b c, σ b = some c → n b ∧ κ c = ι b) : ∀ (k : Nat) (v v' u : Value), ren σ k v = some v' → VRel n' κ v' u → VRel n ι v u := by
  have ptr : ∀ (b o : Nat) (v' u : Value), (match σ b with | some c => some (Value.pointer (some ⟨c, o, none⟩)) | none => none) = some v' → VRel n' κ v' u → VRel n ι (.pointer (some ⟨b, o, none⟩)) u := by
    intro b o v' u h hr
    split at h <;> first | (cases h; done) | skip
    rename_i c hc
    cases h
    cases hr with
    | ptr _ _ hb =>
      obtain ⟨h1, h2⟩ := hσ b c hc
      rw [h2]; exact .ptr b o h1
  have slc : ∀ (b o l cp : Nat) (v' u : Value), (match σ b with | some c => some (Value.slice (some ⟨c, o, none⟩) l cp) | none => none) = some v' → VRel n' κ v' u → VRel n ι (.slice (some ⟨b, o, none⟩) l cp) u := by
    intro b o l cp v' u h hr
    split at h <;> first | (cases h; done) | skip
    rename_i c hc
    cases h
    obtain ⟨h1, h2⟩ := hσ b c hc
    cases hr with
    | slice _ _ _ _ cap' hb hl hcap => rw [h2] at hcap ⊢; exact .slice b o l cp cap' h1 hl hcap
    | empty _ _ p hb => exact .empty b o p h1
  intro k
  induction k with
  | zero =>
    intro v v' u h hr
    unfold ren at h
    split at h <;> first | (cases h; cases hr; constructor; done) | (exact ptr _ _ _ _ h hr) | (exact slc _ _ _ _ _ _ h hr) | (cases h; done) | skip
    all_goals simp at *
  | succ k ih =>
    intro v v' u h hr
    have arr : ∀ (xs : Array Value) (l : List Value) (ys : Array Value), renL (ren σ k) xs.toList = some l → l.toArray.size = ys.size → (∀ (i : Nat) (x y : Value), l.toArray[i]? = some x → ys[i]? = some y → VRel n' κ x y) →
        xs.size = ys.size ∧ ∀ (i : Nat) (x y : Value), xs[i]? = some x → ys[i]? = some y → VRel n ι x y := by
      intro xs l ys hl hs hh
      obtain ⟨h1, h2⟩ := renL_spec hl
      refine ⟨by simp at hs h1; omega, fun i x y hx hy => ?_⟩
      have hi : i < l.length := by simp at hs; rw [hs]; exact (Array.getElem?_eq_some_iff.1 hy).1
      have hx0 := List.getElem?_eq_getElem hi
      exact ih _ _ _ (h2 i x _ (by simpa using hx) hx0) (hh i _ y (by simpa using hx0) hy)
    cases v with
    | pointer a =>
      match a, h with
      | none, h => cases h; cases hr; constructor
      | some ⟨b, o, none⟩, h => exact ptr _ _ _ _ h hr
    | slice a l c =>
      match a, l, c, h with
      | none, 0, 0, h => cases h; cases hr; constructor
      | some ⟨b, o, none⟩, l, c, h => exact slc _ _ _ _ _ _ h hr
    | map r =>
      match r, h with
      | none, h => cases h; cases hr; constructor
    | agg cs =>
      simp only [ren] at h
      split at h <;> first | (cases h; done) | skip
      rename_i l hl
      cases h
      cases hr with
      | agg _ ys hs hh => obtain ⟨h1, h2⟩ := arr _ l ys hl hs hh; exact .agg _ _ h1 h2
    | tuple cs =>
      simp only [ren] at h
      split at h <;> first | (cases h; done) | skip
      rename_i l hl
      cases h
      cases hr with
      | tuple _ ys hs hh => obtain ⟨h1, h2⟩ := arr _ l ys hl hs hh; exact .tuple _ _ h1 h2
    | iface t v =>
      simp only [ren] at h
      split at h <;> first | (cases h; done) | skip
      rename_i l hl
      cases h
      cases hr with
      | iface _ _ y hh => exact .iface _ _ _ (ih _ _ _ hl hh)
    | func fn xs ys =>
      cases fn <;> simp only [ren] at h <;> first | (cases h; done) | skip
      split at h <;> first | (cases h; done) | skip
      rename_i l hl
      split at h <;> first | (cases h; done) | skip
      rename_i r hr'
      cases h
      cases hr with
      | func _ _ ys _ ws hs hh hs2 hh2 =>
        obtain ⟨h1, h2⟩ := arr _ l ys hl hs hh
        obtain ⟨h3, h4⟩ := arr _ r ws hr' hs2 hh2
        exact .func _ _ _ _ _ h1 h2 h3 h4
    | _ => first | (cases h; cases hr; constructor; done) | (cases h; done)
theorem renL_inv (hσ : ∀ b c, σ b = some c → n b ∧ κ c = ι b) {k : Nat} {xs ys us : List Value} (h : renL (ren σ k) xs = some ys) (hr : VRels n' κ ys us) : VRels n ι xs us := by
  obtain ⟨h1, h2⟩ := renL_spec h
  refine ⟨by rw [h1]; exact hr.1, fun i x u hx hu => ?_⟩
  have hi : i < ys.length := by rw [← h1]; exact (List.getElem?_eq_some_iff.1 hx).1
  have hy := List.getElem?_eq_getElem hi
  exact ren_inv hσ k _ _ _ (h2 i x _ hx hy) (hr.2 i _ u hy hu)
theorem some_rel {x y : Value} (h : VRel n ι x y) : ∃ x', VRel n' κ x' y := by
  have arr : ∀ (xs ys : Array Value), xs.size = ys.size → (∀ (i : Nat) (x y : Value), xs[i]? = some x → ys[i]? = some y → ∃ x', VRel n' κ x' y) →
      ∃ zs : Array Value, zs.size = ys.size ∧ ∀ (i : Nat) (x y : Value), zs[i]? = some x → ys[i]? = some y → VRel n' κ x y := by
    intro xs ys hs hh
    have : ∀ i : Fin ys.size, ∃ x', VRel n' κ x' ys[i] := fun i => hh i _ _ (Array.getElem?_eq_getElem (by omega)) (Array.getElem?_eq_getElem i.2)
    refine ⟨Array.ofFn fun i => (this i).choose, by simp, fun i x y hx hy => ?_⟩
    have hi := (Array.getElem?_eq_some_iff.1 hy).1
    rw [Array.getElem?_eq_getElem (by simpa using hi), Array.getElem_ofFn] at hx
    rw [Array.getElem?_eq_getElem hi] at hy
    cases hx; cases hy
    exact (this ⟨i, hi⟩).choose_spec
  induction h with
  | ptr b o h => exact ⟨_, .junk _ rfl⟩
  | slice b o len cap cap' h hl hc => exact ⟨_, .junk _ rfl⟩
  | empty b o p h => exact ⟨_, .junk _ rfl⟩
  | junk y h => exact ⟨_, .junk y h⟩
  | agg xs ys hs _ ih => obtain ⟨zs, h1, h2⟩ := arr xs ys hs ih; exact ⟨_, .agg zs ys h1 h2⟩
  | tuple xs ys hs _ ih => obtain ⟨zs, h1, h2⟩ := arr xs ys hs ih; exact ⟨_, .tuple zs ys h1 h2⟩
  | iface t x y _ ih => obtain ⟨z, h⟩ := ih; exact ⟨_, .iface t z y h⟩
  | func f xs ys zs ws hs _ hs2 _ ih ih2 =>
    obtain ⟨us, h1, h2⟩ := arr xs ys hs ih
    obtain ⟨vs, h3, h4⟩ := arr zs ws hs2 ih2
    exact ⟨_, .func f us ys vs ws h1 h2 h3 h4⟩
  | bool | int | float | complex | string | nilPtr | nilSlice | nilFunc | nilIface | nilMap => exact ⟨_, by constructor⟩
end
end Go.Proofs.YtpmgackgcefalaaGreat.Abs
namespace Go.Proofs.YtpmgackgcefalaaGreat.Abs
open Go Go.RowKit
def pos : List Nat → Nat → Option Nat
  | [], _ => none
  | x :: r, b => if b = x then some 0 else match pos r b with
    | some c => some (c + 1)
    | none => none
theorem pos_spec : ∀ {ks : List Nat} {b c : Nat}, pos ks b = some c → ks[c]? = some b
  | [], _, _, h => by cases h
  | x :: r, b, c, h => by
    simp only [pos] at h
    split at h
    · rename_i e; cases h; rw [e]; rfl
    · split at h <;> first | (cases h; done) | skip
      rename_i d hd
      cases h
      exact pos_spec (ks := r) hd
def nodupB : List Nat → Bool
  | [] => true
  | x :: r => r.all (fun y => !Nat.beq x y) && nodupB r
theorem nodupB_spec : ∀ {ks : List Nat}, nodupB ks = true → ∀ (i j b : Nat), ks[i]? = some b → ks[j]? = some b → i = j
  | [], _, i, j, b, h, _ => by simp at h
  | x :: r, hn, i, j, b, hi, hj => by
    simp only [nodupB, Bool.and_eq_true, List.all_eq_true, Bool.not_eq_true'] at hn
    have key : ∀ l : Nat, r[l]? = some x → False := fun l hl => by
      have := hn.1 x (List.mem_of_getElem? hl)
      rw [Nat.beq_refl] at this
      cases this
    cases i with
    | zero =>
      simp at hi; subst hi
      cases j with
      | zero => rfl
      | succ j => exact (key j (by simpa using hj)).elim
    | succ i =>
      cases j with
      | zero => simp at hj; subst hj; exact (key i (by simpa using hi)).elim
      | succ j => rw [nodupB_spec hn.2 i j b (by simpa using hi) (by simpa using hj)]
def fixB : Nat → Nat → List Nat → Bool
  | _, 0, _ => true
  | i, k + 1, x :: r => Nat.beq i x && fixB (i + 1) k r
  | _, _ + 1, [] => false
theorem fixB_spec : ∀ {k i : Nat} {ks : List Nat}, fixB i k ks = true → ∀ b, b < k → ks[b]? = some (i + b)
  | 0, _, _, _, b, h => by omega
  | k + 1, i, [], h, _, _ => by cases h
  | k + 1, i, x :: r, h, b, hb => by
    simp only [fixB, Bool.and_eq_true] at h
    cases b with
    | zero => rw [Nat.eq_of_beq_eq_true h.1]; rfl
    | succ b =>
      have := fixB_spec h.2 b (by omega)
      simp only [List.getElem?_cons_succ, this]
      congr 1; omega
def gcOk (k : Nat) (ks : List Nat) : Bool := fixB 0 k ks && nodupB ks
def nth (l : List (Option (Option Blk))) (b : Nat) : Option (Option Blk) := match l[b]? with
  | some o => o
  | none => none
def renB (σ : Nat → Option Nat) : Option (Option Blk) → Option (Option (Option Blk))
  | some (some (.cells ro s cs)) => match renL (ren σ 4) cs with
    | some l => some (some (some (.cells ro s l)))
    | none => none
  | some none => some (some none)
  | none => none
def renMs (σ : Nat → Option Nat) (l : List (Option (Option Blk))) : List Nat → Option (List (Option (Option Blk)))
  | [] => some []
  | b :: r => match renB σ (nth l b) with
    | some x => match renMs σ l r with
      | some q => some (x :: q)
      | none => none
    | none => none
def renF (σ : Nat → Option Nat) (f : AL) : List Nat → Option AL
  | [] => some []
  | t :: r => match AL.get f t with
    | some v => match ren σ 4 v with
      | some u => match renF σ f r with
        | some q => some ((t, u) :: q)
        | none => none
      | none => none
    | none => none
theorem renMs_get {σ : Nat → Option Nat} {l : List (Option (Option Blk))} : ∀ {ks : List Nat} {q : List (Option (Option Blk))}, renMs σ l ks = some q → q.length = ks.length ∧ ∀ (c b : Nat) (x : Option (Option Blk)), ks[c]? = some b → q[c]? = some x → renB σ (nth l b) = some x
  | [], q, h => by cases h; exact ⟨rfl, fun c b x h => by simp at h⟩
  | b :: r, q, h => by
    simp only [renMs] at h
    split at h <;> first | (cases h; done) | skip
    rename_i x hx
    split at h <;> first | (cases h; done) | skip
    rename_i q' hq
    cases h
    obtain ⟨h1, h2⟩ := renMs_get hq
    refine ⟨by simp [h1], fun c b' y hc hy => ?_⟩
    cases c with
    | zero => simp at hc hy; subst hc; subst hy; exact hx
    | succ c => exact h2 c b' y (by simpa using hc) (by simpa using hy)
theorem renF_get {σ : Nat → Option Nat} {f : AL} : ∀ {ts : List Nat} {q : AL}, renF σ f ts = some q → ∀ (t : Nat) (v : Value), AL.get q t = some v → ∃ u, AL.get f t = some u ∧ ren σ 4 u = some v
  | [], q, h, t, v, ht => by cases h; cases ht
  | s :: r, q, h, t, v, ht => by
    simp only [renF] at h
    split at h <;> first | (cases h; done) | skip
    rename_i u hu
    split at h <;> first | (cases h; done) | skip
    rename_i u' hu'
    split at h <;> first | (cases h; done) | skip
    rename_i q' hq
    cases h
    simp only [AL.get] at ht
    split at ht
    · rename_i e; subst e; cases ht; exact ⟨u, hu, hu'⟩
    · exact renF_get hq t v ht
theorem nth_get {m : Mem} {b : Nat} {x : Blk} (h : nth m.blks b = some (some x)) : m.get b = some x := by
  unfold nth at h
  split at h <;> first | (cases h; done) | skip
  rename_i o ho
  subst h
  unfold Mem.get
  rw [ho]
theorem renB_some {σ : Nat → Option Nat} {o : Option (Option Blk)} {x : Option (Option Blk)} (h : renB σ o = some x) : (o = some none ∧ x = some none) ∨ ∃ ro s cs l, o = some (some (.cells ro s cs)) ∧ x = some (some (.cells ro s l)) ∧ renL (ren σ 4) cs = some l := by
  unfold renB at h
  split at h <;> first | (cases h; done) | skip
  · split at h <;> first | (cases h; done) | skip
    rename_i l hl
    cases h
    exact .inr ⟨_, _, _, l, rfl, rfl, hl⟩
  · cases h; exact .inl ⟨rfl, rfl⟩
section
variable {P : Program} {n k : Nat} {f : AL} {m : Mem}
def AK (P : Program) (k : Nat) (c : Code) (Q : Exit → List Value → Mem → Prop) (a : List Value) (m : Mem) : Prop :=
  ∀ (ι₀ : Nat → Loc) (m₀ : Mem) (w₀ : World) (ι : Nat → Loc) (act : Act) (w : World), m₀.size ≤ k → Step ι₀ m₀ w₀ ι m w → ARel m.Has ι a act → Rel ι m w → c.wp P (Post ι₀ m₀ w₀ Q) act w
def CW (P : Program) (n k : Nat) [c : Box Code] [Q : Box (Exit → AL → Mem → Prop)] (f : AL) (m : Mem) : Prop :=
  ∀ a, Knows n f a → AK P k c.k (fun e a' m' => ∃ f', Knows n f' a' ∧ Q.k e f' m') a m
variable {Q : Exit → AL → Mem → Prop}
def cThen [next : Box (AL → Mem → Prop)] [Q : Box (Exit → AL → Mem → Prop)] : Exit → AL → Mem → Prop
  | .normal, f, m => next.k f m
  | e, f, m => Q.k e f m
def cBlock (i : Nat) [Q : Box (Exit → AL → Mem → Prop)] : Exit → AL → Mem → Prop
  | .exit j, f, m => if j = i then Q.k .normal f m else Q.k (.exit j) f m
  | e, f, m => Q.k e f m
theorem CW.of_SW {c : Code} (h : SW P n c Q f m) : @CW P n k ⟨c⟩ ⟨Q⟩ f m := fun a ha ι₀ m₀ w₀ ι act w _ => h a ha ι₀ m₀ w₀ ι act w
theorem CW_skip (h : Q .normal f m) : @CW P n k ⟨.skip⟩ ⟨Q⟩ f m := .of_SW (SW_skip h)
theorem CW_exit {i : Nat} (h : Q (.exit i) f m) : @CW P n k ⟨.exit i⟩ ⟨Q⟩ f m := .of_SW (SW_exit h)
theorem CW_ret (h : Q .ret f m) : @CW P n k ⟨.ret⟩ ⟨Q⟩ f m := .of_SW (SW_ret h)
theorem CW_region {id : Nat} {ops : Array Oper} (h : @sOpsB P n ops.toList ⟨Q .normal⟩ ops.toList f m) : @CW P n k ⟨.region id ops false⟩ ⟨Q⟩ f m := .of_SW (SW_region h)
theorem CW_draw {id : Nat} {ops : Array Oper} (hmix : P.follows .mixedOrders = true) (q : Nat) (hq : drawOK ops q = true) (hqs : Nat.ble q ops.size = true)
    (h : @sHeadB P n ops.toList m ⟨fun f' M => @sOpsB P n ops.toList ⟨Q .normal⟩ (ops.toList.drop q) f' M⟩ (ops.toList.take q) false f m) : @CW P n k ⟨.region id ops true⟩ ⟨Q⟩ f m := .of_SW (SW_draw hmix q hq hqs h)
theorem CW.mono {c : Code} {Q' : Exit → AL → Mem → Prop} (h : @CW P n k ⟨c⟩ ⟨Q⟩ f m) (hq : ∀ e f m, Q e f m → Q' e f m) : @CW P n k ⟨c⟩ ⟨Q'⟩ f m :=
  fun a ha ι₀ m₀ w₀ ι act w h0 hs hA hr => wp_mono (h a ha ι₀ m₀ w₀ ι act w h0 hs hA hr) fun _ _ _ ⟨κ, a', m', ⟨f', h1, h2⟩, h3⟩ => ⟨κ, a', m', ⟨f', h1, hq _ _ _ h2⟩, h3⟩
theorem CW_seq {x y : Code} (h : @CW P n k ⟨x⟩ ⟨@cThen ⟨@CW P n k ⟨y⟩ ⟨Q⟩⟩ ⟨Q⟩⟩ f m) : @CW P n k ⟨.seq x y⟩ ⟨Q⟩ f m := by
  intro a ha ι₀ m₀ w₀ ι act w h0 hs hA hr
  refine wp_seq (wp_mono (h a ha ι₀ m₀ w₀ ι act w h0 hs hA hr) ?_)
  rintro e act' w' ⟨κ, a', m', ⟨f', h1, h2⟩, h3, h4, h5⟩
  cases e with
  | normal => exact h2 a' h1 ι₀ m₀ w₀ κ act' w' h0 h5 h3 h4
  | _ => exact ⟨κ, a', m', ⟨f', h1, h2⟩, h3, h4, h5⟩
theorem CW_cond {c : Operand} {x y : Code} (t : Bool) (hc : AL.look f c = some (.bool t)) (ht : t = true → @CW P n k ⟨x⟩ ⟨Q⟩ f m) (hf : t = false → @CW P n k ⟨y⟩ ⟨Q⟩ f m) : @CW P n k ⟨.cond c x y⟩ ⟨Q⟩ f m := by
  intro a ha ι₀ m₀ w₀ ι act w h0 hs hA hr
  have he := aEval_rel hA (ha.look c _ hc)
  generalize hv : act.eval c = v at he
  cases he
  exact wp_cond_split hv (fun h => ht h a ha ι₀ m₀ w₀ ι act w h0 hs hA hr) (fun h => hf h a ha ι₀ m₀ w₀ ι act w h0 hs hA hr)
theorem CW_block {i : Nat} {c : Code} (h : @CW P n k ⟨c⟩ ⟨@cBlock i ⟨Q⟩⟩ f m) : @CW P n k ⟨.block i c⟩ ⟨Q⟩ f m := by
  intro a ha ι₀ m₀ w₀ ι act w h0 hs hA hr
  refine wp_block (wp_mono (h a ha ι₀ m₀ w₀ ι act w h0 hs hA hr) ?_)
  rintro e act' w' ⟨κ, a', m', ⟨f', h1, h2⟩, h3, h4, h5⟩
  cases e with
  | exit j =>
    simp only [cBlock] at h2
    simp only [Exit.inBlock]
    split
    · rename_i e; rw [if_pos e] at h2; exact ⟨κ, a', m', ⟨f', h1, h2⟩, h3, h4, h5⟩
    · rename_i e; rw [if_neg e] at h2; exact ⟨κ, a', m', ⟨f', h1, h2⟩, h3, h4, h5⟩
  | _ => exact ⟨κ, a', m', ⟨f', h1, h2⟩, h3, h4, h5⟩
end
end Go.Proofs.YtpmgackgcefalaaGreat.Abs
namespace Go.Proofs.YtpmgackgcefalaaGreat.Abs
open Go Go.RowKit
def upTo (at_ : List Nat) (n : Nat) (b : Nat) : Option Nat := match at_[b]? with
  | some c => some c
  | none => some (n + (b - at_.length))
def mergeOld (τ : Nat → Option Nat) : List (Option (Option Blk)) → List Nat → List (Option (Option Blk)) → List (Option (Option Blk)) → Option (List (Option (Option Blk)))
  | l, [], [], _ => some l
  | l, a :: r, some (some (.cells false _ _)) :: os, x :: ns => match renB τ x with
    | some y => mergeOld τ (l.set a y) r os ns
    | none => none
  | l, _ :: r, some (some (.cells true _ _)) :: os, _ :: ns => mergeOld τ l r os ns
  | l, _ :: r, some none :: os, _ :: ns => mergeOld τ l r os ns
  | _, _, _, _ => none
def mergeNew (τ : Nat → Option Nat) : List (Option (Option Blk)) → Option (List (Option (Option Blk)))
  | [] => some []
  | some (some (.cells false s cs)) :: r => match renL (ren τ 4) cs with
    | some l => match mergeNew τ r with
      | some q => some (some (some (.cells false s l)) :: q)
      | none => none
    | none => none
  | some none :: r => match mergeNew τ r with
    | some q => some (some none :: q)
    | none => none
  | _ => none
def merge (m : Mem) (at_ : List Nat) (m₀ m₁ : Mem) : Option Mem := match mergeOld (upTo at_ m.size) m.blks at_ m₀.blks m₁.blks with
  | some l => match mergeNew (upTo at_ m.size) (m₁.blks.drop m₀.size) with
    | some r => some ⟨l ++ r⟩
    | none => none
  | none => none
theorem mergeOld_spec {τ : Nat → Option Nat} : ∀ {at_ : List Nat} {os ns l q : List (Option (Option Blk))}, mergeOld τ l at_ os ns = some q → (∀ (i j b : Nat), at_[i]? = some b → at_[j]? = some b → (∃ s cs, os[i]? = some (some (some (Blk.cells false s cs)))) → i = j) → (∀ (i b : Nat), at_[i]? = some b → b < l.length) →
    q.length = l.length ∧ at_.length = os.length ∧ (∀ (i b s : Nat) (cs : List Value), at_[i]? = some b → os[i]? = some (some (some (Blk.cells false s cs))) → ∃ x, renB τ (nth ns i) = some x ∧ q[b]? = some x) ∧
      (∀ b : Nat, (∀ (i s : Nat) (cs : List Value), at_[i]? = some b → os[i]? ≠ some (some (some (Blk.cells false s cs)))) → q[b]? = l[b]?) ∧ (∀ i : Nat, i < os.length → ∃ o, os[i]? = some (some o))
  | [], os, ns, l, q, h, _, _ => by
    cases os with
    | nil => cases h; exact ⟨rfl, rfl, fun i b s cs h => by simp at h, fun b _ => rfl, fun i hi => by simp at hi⟩
    | cons o os => simp [mergeOld] at h
  | a :: r, os, ns, l, q, h, hinj, hlt => by
    match os, ns, h with
    | some (some (.cells false s0 cs0)) :: os, x :: ns, h =>
      simp only [mergeOld] at h
      split at h <;> first | (cases h; done) | skip
      rename_i y hy
      obtain ⟨h1, h2, h3, h4, h5⟩ := mergeOld_spec h (fun i j b hi hj ho => by
        have := hinj (i + 1) (j + 1) b (by simpa using hi) (by simpa using hj) (by simpa using ho)
        omega) (fun i b hi => by rw [List.length_set]; exact hlt (i + 1) b (by simpa using hi))
      rw [List.length_set] at h1
      refine ⟨h1, by simp [h2], fun i b s cs hi ho => ?_, fun b hb => ?_, fun i hi => ?_⟩
      · cases i with
        | zero =>
          simp at hi; subst hi
          refine ⟨y, by simpa [nth] using hy, ?_⟩
          rw [h4 a fun i s cs hi ho => ?_]
          · rw [List.getElem?_set_self (hlt 0 a rfl)]
          · have := hinj 0 (i + 1) a rfl (by simpa using hi) ⟨_, _, rfl⟩
            omega
        | succ i => 
          obtain ⟨x', k1, k2⟩ := h3 i b s cs (by simpa using hi) (by simpa using ho)
          exact ⟨x', by simpa [nth] using k1, k2⟩
      · have hne : a ≠ b := fun e => by subst e; exact hb 0 _ _ rfl rfl
        rw [h4 b fun i s cs hi ho => hb (i + 1) s cs (by simpa using hi) (by simpa using ho), List.getElem?_set_ne hne]
      · cases i with
        | zero => exact ⟨_, rfl⟩
        | succ i => obtain ⟨o, ho⟩ := h5 i (by simp at hi; omega); exact ⟨o, by simpa using ho⟩
    | some (some (.cells true s0 cs0)) :: os, x :: ns, h =>
      simp only [mergeOld] at h
      obtain ⟨h1, h2, h3, h4, h5⟩ := mergeOld_spec h (fun i j b hi hj ho => by
        have := hinj (i + 1) (j + 1) b (by simpa using hi) (by simpa using hj) (by simpa using ho)
        omega) (fun i b hi => hlt (i + 1) b (by simpa using hi))
      refine ⟨h1, by simp [h2], fun i b s cs hi ho => ?_, fun b hb => ?_, fun i hi => ?_⟩
      · cases i with
        | zero => simp at ho
        | succ i => 
          obtain ⟨x', k1, k2⟩ := h3 i b s cs (by simpa using hi) (by simpa using ho)
          exact ⟨x', by simpa [nth] using k1, k2⟩
      · exact h4 b fun i s cs hi ho => hb (i + 1) s cs (by simpa using hi) (by simpa using ho)
      · cases i with
        | zero => exact ⟨_, rfl⟩
        | succ i => obtain ⟨o, ho⟩ := h5 i (by simp at hi; omega); exact ⟨o, by simpa using ho⟩
    | some none :: os, x :: ns, h =>
      simp only [mergeOld] at h
      obtain ⟨h1, h2, h3, h4, h5⟩ := mergeOld_spec h (fun i j b hi hj ho => by
        have := hinj (i + 1) (j + 1) b (by simpa using hi) (by simpa using hj) (by simpa using ho)
        omega) (fun i b hi => hlt (i + 1) b (by simpa using hi))
      refine ⟨h1, by simp [h2], fun i b s cs hi ho => ?_, fun b hb => ?_, fun i hi => ?_⟩
      · cases i with
        | zero => simp at ho
        | succ i => 
          obtain ⟨x', k1, k2⟩ := h3 i b s cs (by simpa using hi) (by simpa using ho)
          exact ⟨x', by simpa [nth] using k1, k2⟩
      · exact h4 b fun i s cs hi ho => hb (i + 1) s cs (by simpa using hi) (by simpa using ho)
      · cases i with
        | zero => exact ⟨_, rfl⟩
        | succ i => obtain ⟨o, ho⟩ := h5 i (by simp at hi; omega); exact ⟨o, by simpa using ho⟩
theorem mergeNew_spec {τ : Nat → Option Nat} : ∀ {ns q : List (Option (Option Blk))}, mergeNew τ ns = some q → q.length = ns.length ∧ ∀ (i : Nat) (x : Option (Option Blk)), q[i]? = some x → renB τ (nth ns i) = some x ∧ ∀ ro s cs, x = some (some (.cells ro s cs)) → ro = false
  | [], q, h => by cases h; exact ⟨rfl, fun i x h => by simp at h⟩
  | some (some (.cells false s cs)) :: r, q, h => by
    simp only [mergeNew] at h
    split at h <;> first | (cases h; done) | skip
    rename_i l hl
    split at h <;> first | (cases h; done) | skip
    rename_i q' hq
    cases h
    obtain ⟨h1, h2⟩ := mergeNew_spec hq
    refine ⟨by simp [h1], fun i x hx => ?_⟩
    cases i with
    | zero => simp at hx; subst hx; exact ⟨by simp [nth, renB, hl], fun ro s cs e => by cases e; rfl⟩
    | succ i =>
      obtain ⟨k1, k2⟩ := h2 i x (by simpa using hx)
      exact ⟨by simpa [nth] using k1, k2⟩
  | some none :: r, q, h => by
    simp only [mergeNew] at h
    split at h <;> first | (cases h; done) | skip
    rename_i q' hq
    cases h
    obtain ⟨h1, h2⟩ := mergeNew_spec hq
    refine ⟨by simp [h1], fun i x hx => ?_⟩
    cases i with
    | zero => simp at hx; subst hx; exact ⟨by simp [nth, renB], fun ro s cs e => by cases e⟩
    | succ i =>
      obtain ⟨k1, k2⟩ := h2 i x (by simpa using hx)
      exact ⟨by simpa [nth] using k1, k2⟩
  | some (some (.cells true s cs)) :: r, q, h => by simp [mergeNew] at h
  | none :: r, q, h => by simp [mergeNew] at h
def Placed (σ : Nat → Option Nat) (m : Mem) : List Nat → List (Option (Option Blk)) → Prop
  | [], [] => True
  | a :: r, some (some (.cells ro s cs)) :: os => (∃ ro' cs', m.get a = some (.cells ro' s cs') ∧ renL (ren σ 4) cs = some cs' ∧ (ro = false → ro' = false)) ∧ Placed σ m r os
  | a :: r, some none :: os => m.Has a ∧ Placed σ m r os
  | _, _ => False
theorem Placed.spec {σ : Nat → Option Nat} {m : Mem} : ∀ {at_ : List Nat} {os : List (Option (Option Blk))}, Placed σ m at_ os → at_.length = os.length ∧ (∀ (i a : Nat), at_[i]? = some a → m.Has a) ∧
    ∀ (i a : Nat) (ro : Bool) (s : Nat) (cs : List Value), at_[i]? = some a → os[i]? = some (some (some (Blk.cells ro s cs))) → ∃ ro' cs', m.get a = some (.cells ro' s cs') ∧ renL (ren σ 4) cs = some cs' ∧ (ro = false → ro' = false)
  | [], os, h => by
    cases os with
    | nil => exact ⟨rfl, fun i a h => by simp at h, fun i a ro s cs h => by simp at h⟩
    | cons o os => exact h.elim
  | a :: r, os, h => by
    match os, h with
    | some (some (.cells ro s cs)) :: os, h =>
      obtain ⟨h0, h⟩ := h
      obtain ⟨h1, h2, h3⟩ := Placed.spec h
      refine ⟨by simp [h1], fun i b hi => ?_, fun i b ro' s' cs' hi ho => ?_⟩
      · cases i with
        | zero => simp at hi; subst hi; obtain ⟨_, _, hg, _⟩ := h0; exact Mem.get_has hg
        | succ i => exact h2 i b (by simpa using hi)
      · cases i with
        | zero => simp at hi ho; subst hi; obtain ⟨rfl, rfl, rfl⟩ := ho; exact h0
        | succ i => exact h3 i b ro' s' cs' (by simpa using hi) (by simpa using ho)
    | some none :: os, h =>
      obtain ⟨h0, h⟩ := h
      obtain ⟨h1, h2, h3⟩ := Placed.spec h
      refine ⟨by simp [h1], fun i b hi => ?_, fun i b ro' s' cs' hi ho => ?_⟩
      · cases i with
        | zero => simp at hi; subst hi; exact h0
        | succ i => exact h2 i b (by simpa using hi)
      · cases i with
        | zero => simp at ho
        | succ i => exact h3 i b ro' s' cs' (by simpa using hi) (by simpa using ho)
theorem placed_some {σ : Nat → Option Nat} {m : Mem} : ∀ {at_ : List Nat} {os : List (Option (Option Blk))}, Placed σ m at_ os → ∀ i : Nat, i < os.length → ∃ o, os[i]? = some (some o)
  | [], os, h, i, hi => by
    cases os with
    | nil => simp at hi
    | cons o os => exact h.elim
  | a :: r, os, h, i, hi => by
    match os, h with
    | some (some (.cells ro s cs)) :: os, h =>
      cases i with
      | zero => exact ⟨_, rfl⟩
      | succ i => obtain ⟨o, ho⟩ := placed_some h.2 i (by simp at hi; omega); exact ⟨o, by simpa using ho⟩
    | some none :: os, h =>
      cases i with
      | zero => exact ⟨_, rfl⟩
      | succ i => obtain ⟨o, ho⟩ := placed_some h.2 i (by simp at hi; omega); exact ⟨o, by simpa using ho⟩
def ownOnce : List Nat → List (Option (Option Blk)) → List Nat → Bool
  | a :: r, some (some (.cells false _ _)) :: os, all => Nat.beq (all.count a) 1 && ownOnce r os all
  | _ :: r, _ :: os, all => ownOnce r os all
  | _, _, _ => true
theorem ownOnce_spec : ∀ {at_ : List Nat} {os : List (Option (Option Blk))} {all : List Nat}, ownOnce at_ os all = true → ∀ (i a : Nat) (s : Nat) (cs : List Value), at_[i]? = some a → os[i]? = some (some (some (Blk.cells false s cs))) → all.count a = 1
  | [], os, all, _, i, a, s, cs, hi, _ => by simp at hi
  | x :: r, [], all, _, i, a, s, cs, _, ho => by simp at ho
  | x :: r, o :: os, all, h, i, a, s, cs, hi, ho => by
    match o, h with
    | some (some (.cells false s0 cs0)), h =>
      simp only [ownOnce, Bool.and_eq_true] at h
      cases i with
      | zero => simp at hi; subst hi; exact Nat.eq_of_beq_eq_true h.1
      | succ i => exact ownOnce_spec h.2 i a s cs (by simpa using hi) (by simpa using ho)
    | some (some (.cells true s0 cs0)), h =>
      cases i with
      | zero => simp at ho
      | succ i => exact ownOnce_spec (show ownOnce r os all = true from h) i a s cs (by simpa using hi) (by simpa using ho)
    | some none, h =>
      cases i with
      | zero => simp at ho
      | succ i => exact ownOnce_spec (show ownOnce r os all = true from h) i a s cs (by simpa using hi) (by simpa using ho)
    | none, h =>
      cases i with
      | zero => simp at ho
      | succ i => exact ownOnce_spec (show ownOnce r os all = true from h) i a s cs (by simpa using hi) (by simpa using ho)
theorem count_once : ∀ {l : List Nat} {a : Nat}, l.count a = 1 → ∀ (i j : Nat), l[i]? = some a → l[j]? = some a → i = j
  | [], a, h, i, j, hi, _ => by simp at hi
  | x :: r, a, h, i, j, hi, hj => by
    by_cases e : x = a
    · subst e
      rw [List.count_cons_self] at h
      have h0 : r.count x = 0 := by omega
      have hno : ∀ k : Nat, r[k]? ≠ some x := fun k hk => by
        have := List.count_pos_iff.2 (List.mem_of_getElem? hk)
        omega
      cases i with
      | zero =>
        cases j with
        | zero => rfl
        | succ j => exact absurd (by simpa using hj) (hno j)
      | succ i => exact absurd (by simpa using hi) (hno i)
    · rw [List.count_cons_of_ne e] at h
      cases i with
      | zero => simp at hi; exact absurd hi e
      | succ i =>
        cases j with
        | zero => simp at hj; exact absurd hj e
        | succ j => rw [count_once h i j (by simpa using hi) (by simpa using hj)]
theorem Spec.frame {P : Program} {g : FuncId} {xs₀ : List Value} {m₀ : Mem} {R : Value → Mem → Prop} (h : Spec P g xs₀ m₀ R) {m : Mem} (at_ : List Nat) {xs : List Value} (hx : renL (ren (fun b => at_[b]?) 4) xs₀ = some xs)
    (hp : Placed (fun b => at_[b]?) m at_ m₀.blks) (ho : ownOnce at_ m₀.blks at_ = true) {K : Value → Mem → Prop}
    (hK : ∀ v m', R v m' → @withV _ (ren (upTo at_ m.size) 4 v) ⟨fun u => @withV _ (merge m at_ m₀ m') ⟨fun M => K u M⟩⟩) : Spec P g xs m K := by
  obtain ⟨hal, hhas, hblk⟩ := hp.spec
  have hlen : at_.length = m₀.size := hal
  intro ι w ys hy hr
  obtain ⟨ι₁, hι⟩ : ∃ κ : Nat → Loc, κ = fun i => ι (at_.getD i 0) := ⟨_, rfl⟩
  have iot : ∀ i a, at_[i]? = some a → ι₁ i = ι a := fun i a hi => by rw [hι]; simp [List.getD, hi]
  have has0 : ∀ i, i < m₀.size → m₀.Has i := fun i hi => by
    have hi' : i < m₀.blks.length := hi
    obtain ⟨a, ha⟩ : ∃ a, at_[i]? = some a := ⟨_, List.getElem?_eq_getElem (by omega)⟩
    have : ∃ o, m₀.blks[i]? = some (some o) := placed_some hp i hi'
    exact this
  have hinv : ∀ b c, at_[b]? = some c → m₀.Has b ∧ ι c = ι₁ b := fun b c hb => ⟨has0 b (by rw [← hlen]; exact (List.getElem?_eq_some_iff.1 hb).1), (iot b c hb).symm⟩
  have hys : VRels m₀.Has ι₁ xs₀ ys := renL_inv (n' := m.Has) (κ := ι) hinv hx hy
  have own0 : ∀ i, m₀.Own i → ∃ a, at_[i]? = some a ∧ m.Own a ∧ ∀ j, at_[j]? = some a → j = i := fun i hi => by
    have hlt : i < m₀.size := by obtain ⟨s, cs, hi⟩ := hi; exact Mem.get_lt hi
    obtain ⟨a, ha⟩ : ∃ a, at_[i]? = some a := ⟨_, List.getElem?_eq_getElem (by omega)⟩
    obtain ⟨s, cs, hi⟩ := hi
    have hg := Mem.get_some hi
    obtain ⟨ro', cs', k1, k2, k3⟩ := hblk i a false s cs ha hg
    rw [k3 rfl] at k1
    exact ⟨a, ha, ⟨s, cs', k1⟩, fun j hj => count_once (ownOnce_spec ho i a s cs ha hg) j i hj ha⟩
  have hrel : Rel ι₁ m₀ w := by
    refine ⟨fun i ro s cs hi => ?_, fun i j hi hj hne => ?_⟩
    · have hg := Mem.get_some hi
      obtain ⟨a, ha⟩ : ∃ a, at_[i]? = some a := ⟨_, List.getElem?_eq_getElem (by rw [hlen]; exact Mem.get_lt hi)⟩
      obtain ⟨ro', cs', k1, k2, k3⟩ := hblk i a ro s cs ha hg
      obtain ⟨C, e, fz, g1, g2, g3, g4, g5, g6⟩ := hr.at' a ro' s cs' k1
      obtain ⟨e1, e2⟩ := renL_spec k2
      rw [iot i a ha]
      refine ⟨C, e, fz, g1, g2, g3, by rw [e1]; exact g4, fun j v hj => ?_, fun hro => g6 (k3 hro)⟩
      have hj' : j < cs'.length := by rw [← e1]; exact (List.getElem?_eq_some_iff.1 hj).1
      have hx' := List.getElem?_eq_getElem hj'
      obtain ⟨g7, u, g8, g9⟩ := g5 j _ hx'
      have hren := e2 j v _ hj hx'
      exact ⟨by rw [← ren_one hren]; exact g7, u, g8, ren_inv hinv 4 _ _ _ hren g9⟩
    · obtain ⟨b, hb, hob, huniq⟩ := own0 j hj
      have hlt : i < m₀.size := by
        cases hxi : m₀.get i with
        | none => exact absurd hxi hi
        | some x => exact Mem.get_lt hxi
      obtain ⟨a, ha⟩ : ∃ a, at_[i]? = some a := ⟨_, List.getElem?_eq_getElem (by omega)⟩
      rw [iot i a ha, iot j b hb]
      refine hr.inj a b ?_ hob fun e => hne (huniq i (by rw [← e]; exact ha))
      cases hxi : m₀.get i with
      | none => exact absurd hxi hi
      | some x =>
        obtain ⟨ro, s, cs⟩ := x
        obtain ⟨ro', cs', k1, _⟩ := hblk i a ro s cs ha (Mem.get_some hxi)
        rw [k1]; simp
  refine (h ι₁ w ys hys hrel).mono ?_
  rintro e w' ⟨v, u, κ₀, m₁, hR, rfl, hvu, hr₁, hs⟩
  obtain ⟨v', hv', hK'⟩ := withV_spec (hK v m₁ hR)
  obtain ⟨M, hM, hKM⟩ := withV_spec hK'
  -- the caller's memory behind the call
  have hM0 := hM
  unfold merge at hM
  split at hM <;> first | (cases hM; done) | skip
  rename_i q hq
  split at hM <;> first | (cases hM; done) | skip
  rename_i r hr'
  cases hM
  have hown_iff : ∀ i, (∃ s cs, m₀.blks[i]? = some (some (some (Blk.cells false s cs)))) ↔ m₀.Own i := fun i =>
    ⟨fun ⟨s, cs, hi⟩ => ⟨s, cs, by unfold Mem.get; rw [hi]⟩, fun ⟨s, cs, hi⟩ => ⟨s, cs, Mem.get_some hi⟩⟩
  obtain ⟨q1, q2, q3, q4, q5⟩ := mergeOld_spec hq (fun i j b hi hj ho => by
    obtain ⟨a, k1, k2, k3⟩ := own0 i ((hown_iff i).1 ho)
    rw [hi] at k1; cases k1
    exact (k3 j hj).symm) (fun i b hi => Mem.has_lt (hhas i b hi))
  obtain ⟨r1, r2⟩ := mergeNew_spec hr'
  have hqs : q.length = m.size := q1
  obtain ⟨κ, hκ⟩ : ∃ κ : Nat → Loc, κ = fun b => if b < m.size then ι b else κ₀ (b - m.size + m₀.size) := ⟨_, rfl⟩
  have kold : ∀ b, b < m.size → κ b = ι b := fun b hb => by rw [hκ]; exact if_pos hb
  have knew : ∀ b, m₀.size ≤ b → κ (m.size + (b - m₀.size)) = κ₀ b := fun b hb => by
    rw [hκ]
    simp only
    rw [if_neg (by omega)]
    congr 1; omega
  have getold : ∀ b, b < m.size → (Mem.mk (q ++ r)).blks[b]? = q[b]? := fun b hb => by
    show (q ++ r)[b]? = _
    rw [List.getElem?_append, if_pos (by omega)]
  have getnew : ∀ b, m₀.size ≤ b → (Mem.mk (q ++ r)).blks[m.size + (b - m₀.size)]? = r[b - m₀.size]? := fun b hb => by
    show (q ++ r)[_]? = _
    rw [List.getElem?_append, if_neg (by omega)]
    congr 1; omega
  have nthdrop : ∀ b, m₀.size ≤ b → nth (m₁.blks.drop m₀.size) (b - m₀.size) = nth m₁.blks b := fun b hb => by
    unfold nth
    rw [List.getElem?_drop, show m₀.size + (b - m₀.size) = b by omega]
  have hrl : r.length = m₁.size - m₀.size := by rw [r1, List.length_drop]; rfl
  -- what was not handed over, or not to be written
  have keep : ∀ b, b < m.size → (∀ i, m₀.Own i → at_[i]? ≠ some b) → (Mem.mk (q ++ r)).blks[b]? = m.blks[b]? := fun b hb hno => by
    rw [getold b hb]
    exact q4 b fun i s cs hi hs => hno i ((hown_iff i).1 ⟨s, cs, hs⟩) hi
  have hasM : ∀ b, m.Has b → (Mem.mk (q ++ r)).Has b := fun b hb => by
    have hlt := Mem.has_lt hb
    by_cases hh : ∃ i, m₀.Own i ∧ at_[i]? = some b
    · obtain ⟨i, hi, hib⟩ := hh
      obtain ⟨s, cs, hs'⟩ := (hown_iff i).2 hi
      obtain ⟨x, k1, k2⟩ := q3 i b s cs hib hs'
      unfold Mem.Has
      rw [getold b hlt, k2]
      rcases renB_some k1 with ⟨_, rfl⟩ | ⟨_, _, _, _, _, rfl, _⟩ <;> exact ⟨_, rfl⟩
    · obtain ⟨o, ho'⟩ := hb
      refine ⟨o, ?_⟩
      rw [keep b hlt fun i hi hib => hh ⟨i, hi, hib⟩]
      exact ho'
  have hτ : ∀ b c, m₁.Has b → upTo at_ m.size b = some c → (Mem.mk (q ++ r)).Has c ∧ κ c = κ₀ b := fun b c hb hc => by
    unfold upTo at hc
    split at hc
    · rename_i a ha
      cases hc
      refine ⟨hasM c (hhas b c ha), ?_⟩
      rw [kold c (Mem.has_lt (hhas b c ha)), ← iot b c ha]
      exact (hs.at_ b (has0 b (by rw [← hlen]; exact (List.getElem?_eq_some_iff.1 ha).1))).symm
    · rename_i ha
      have hge : m₀.size ≤ b := by
        rw [← hlen]
        simpa using ha
      cases hc
      rw [hlen]
      refine ⟨?_, knew b hge⟩
      have hlt : b < m₁.size := Mem.has_lt hb
      have hx : (r[b - m₀.size]?).isSome := by simp; omega
      obtain ⟨x, hx⟩ := Option.isSome_iff_exists.1 hx
      obtain ⟨k1, _⟩ := r2 _ x hx
      unfold Mem.Has
      rw [getnew b hge, hx]
      rcases renB_some k1 with ⟨_, rfl⟩ | ⟨_, _, _, _, _, rfl, _⟩ <;> exact ⟨_, rfl⟩
  -- where each live block comes from
  have orig : ∀ c ro s cs, (Mem.mk (q ++ r)).get c = some (.cells ro s cs) →
      (∃ i cs0, m₁.get i = some (.cells ro s cs0) ∧ renL (ren (upTo at_ m.size) 4) cs0 = some cs ∧ κ c = κ₀ i ∧ upTo at_ m.size i = some c ∧ ((m₀.Own i ∧ c < m.size) ∨ (m₀.size ≤ i ∧ ro = false ∧ m.size ≤ c))) ∨
      (c < m.size ∧ m.get c = some (.cells ro s cs) ∧ ∀ i, m₀.Own i → at_[i]? ≠ some c) := fun c ro s cs hc => by
    have hg := Mem.get_some hc
    by_cases hlt : c < m.size
    · by_cases hh : ∃ i, m₀.Own i ∧ at_[i]? = some c
      · obtain ⟨i, hi, hib⟩ := hh
        obtain ⟨s', cs', hs'⟩ := (hown_iff i).2 hi
        obtain ⟨x, k1, k2⟩ := q3 i c s' cs' hib hs'
        rw [getold c hlt, k2] at hg
        cases hg
        rcases renB_some k1 with ⟨_, h⟩ | ⟨ro2, s2, cs2, l2, h4, h5, h6⟩
        · cases h
        · cases h5
          refine .inl ⟨i, cs2, nth_get h4, h6, ?_, by unfold upTo; rw [hib], .inl ⟨hi, hlt⟩⟩
          rw [kold c hlt, ← iot i c hib]
          exact (hs.at_ i (has0 i (by rw [← hlen]; exact (List.getElem?_eq_some_iff.1 hib).1))).symm
      · have hno : ∀ i, m₀.Own i → at_[i]? ≠ some c := fun i hi hib => hh ⟨i, hi, hib⟩
        refine .inr ⟨hlt, ?_, hno⟩
        rw [keep c hlt hno] at hg
        unfold Mem.get; rw [hg]
    · left
      obtain ⟨i, hi⟩ : ∃ i, i = c - m.size + m₀.size := ⟨_, rfl⟩
      have hc' : c = m.size + (i - m₀.size) := by omega
      have hge : m₀.size ≤ i := by omega
      rw [hc', getnew i hge] at hg
      obtain ⟨k1, k2⟩ := r2 _ _ hg
      rw [nthdrop i hge] at k1
      rcases renB_some k1 with ⟨_, h⟩ | ⟨ro2, s2, cs2, l2, h4, h5, h6⟩
      · cases h
      · cases h5
        refine ⟨i, cs2, nth_get h4, h6, by rw [hc']; exact knew i hge, ?_, .inr ⟨hge, k2 ro s cs rfl, by omega⟩⟩
        unfold upTo
        rw [List.getElem?_eq_none (by omega), hlen, hc']
  have hlive : ∀ c, (Mem.mk (q ++ r)).get c ≠ none → ∃ ro s cs, (Mem.mk (q ++ r)).get c = some (.cells ro s cs) := fun c hc => by
    cases hx : (Mem.mk (q ++ r)).get c with
    | none => exact absurd hx hc
    | some x => obtain ⟨ro, s, cs⟩ := x; exact ⟨ro, s, cs, rfl⟩
  have far : ∀ i c, m₁.Own i → m.get c ≠ none → c < m.size → (∀ j, m₀.Own j → at_[j]? ≠ some c) → (κ₀ i).blk ≠ (ι c).blk := fun i c hi hc hlt hno => by
    rcases hs.own i hi with h | ⟨j, hj, hje⟩
    · have := hr.lt hc; omega
    · obtain ⟨a, k1, k2, k3⟩ := own0 j hj
      rw [← hje, iot j a k1]
      exact Ne.symm (hr.inj c a hc k2 fun e => hno j hj (by rw [e]; exact k1))
  refine ⟨v', u, κ, ⟨q ++ r⟩, hKM, rfl, ren_rel hτ 4 _ _ _ hv' hvu, ⟨fun c ro s cs hc => ?_, fun c c' hc hc' hne => ?_⟩, ⟨hs.os, hs.tape, hs.output, hs.size, hasM, fun b hb => kold b (Mem.has_lt hb), fun g hg hno => ?_, fun c hc => ?_⟩⟩
  · rcases orig c ro s cs hc with ⟨i, cs0, k1, k2, k3, k4, k5⟩ | ⟨k1, k2, k3⟩
    · obtain ⟨C, e, fz, g1, g2, g3, g4, g5, g6⟩ := hr₁.at' i ro s cs0 k1
      obtain ⟨e1, e2⟩ := renL_spec k2
      rw [k3]
      refine ⟨C, e, fz, g1, g2, g3, by rw [← e1]; exact g4, fun j x hj => ?_, g6⟩
      have hj' : j < cs0.length := by rw [e1]; exact (List.getElem?_eq_some_iff.1 hj).1
      have hx' := List.getElem?_eq_getElem hj'
      obtain ⟨g7, y, g8, g9⟩ := g5 j _ hx'
      have hren := e2 j _ x hx' hj
      exact ⟨by rw [ren_one hren]; exact g7, y, g8, ren_rel hτ 4 _ _ _ hren g9⟩
    · obtain ⟨C, e, fz, g1, g2, g3, g4, g5, g6⟩ := hr.at' c ro s cs k2
      rw [kold c k1]
      refine ⟨C, e, fz, ?_, g2, g3, g4, fun j x hj => ?_, g6⟩
      · rw [hs.block _ (Array.getElem?_eq_some_iff.1 g1).1 fun i hi => ?_]
        · exact g1
        · obtain ⟨a, j1, j2, j3⟩ := own0 i hi
          rw [iot i a j1]
          exact Ne.symm (hr.inj c a (by rw [k2]; simp) j2 fun e => k3 i hi (by rw [e]; exact j1))
      · obtain ⟨g7, y, g8, g9⟩ := g5 j x hj
        exact ⟨g7, y, g8, g9.mono hasM fun b hb => kold b (Mem.has_lt hb)⟩
  · obtain ⟨ro, s, cs, hcg⟩ := hlive c hc
    obtain ⟨s', cs', hcg'⟩ := hc'
    rcases orig c ro s cs hcg with ⟨i, cs0, k1, k2, k3, k4, k5⟩ | ⟨k1, k2, k3⟩
    · rcases orig c' false s' cs' hcg' with ⟨j, cs1, j1, j2, j3, j4, j5⟩ | ⟨j1, j2, j3⟩
      · rw [k3, j3]
        refine hr₁.inj i j (by rw [k1]; simp) ⟨_, _, j1⟩ fun e => hne ?_
        subst e
        rw [k4] at j4; cases j4; rfl
      · rw [k3, kold c' j1]
        rcases k5 with ⟨hi, hlt⟩ | ⟨_, hro, _⟩
        · obtain ⟨a, a1, a2, a3⟩ := own0 i hi
          have e1 : κ₀ i = ι a := by rw [← iot i a a1]; exact hs.at_ i (has0 i (by rw [← hlen]; exact (List.getElem?_eq_some_iff.1 a1).1))
          rw [e1]
          have hac : a ≠ c' := fun e => j3 i hi (by rw [← e]; exact a1)
          obtain ⟨sa, csa, hga⟩ := a2
          exact hr.inj a c' (by rw [hga]; simp) ⟨_, _, j2⟩ hac
        · subst hro
          exact far i c' ⟨_, _, k1⟩ (by rw [j2]; simp) j1 j3
    · rcases orig c' false s' cs' hcg' with ⟨j, cs1, j1, j2, j3, j4, j5⟩ | ⟨j1, j2, j3⟩
      · rw [j3, kold c k1]
        exact Ne.symm (far j c ⟨_, _, j1⟩ (by rw [k2]; simp) k1 k3)
      · rw [kold c k1, kold c' j1]
        exact hr.inj c c' (by rw [k2]; simp) ⟨_, _, j2⟩ hne
  · refine hs.block g hg fun i hi => ?_
    obtain ⟨a, a1, a2, _⟩ := own0 i hi
    rw [iot i a a1]
    exact hno a a2
  · obtain ⟨s, cs, hcg⟩ := hc
    rcases orig c false s cs hcg with ⟨i, cs0, k1, k2, k3, k4, k5⟩ | ⟨k1, k2, k3⟩
    · rw [k3]
      rcases hs.own i ⟨_, _, k1⟩ with h | ⟨j, hj, hje⟩
      · exact .inl h
      · obtain ⟨a, a1, a2, _⟩ := own0 j hj
        exact .inr ⟨a, a2, by rw [← hje, iot j a a1]⟩
    · exact .inr ⟨c, ⟨_, _, k2⟩, by rw [kold c k1]⟩
end Go.Proofs.YtpmgackgcefalaaGreat.Abs
namespace Go.Proofs.YtpmgackgcefalaaGreat.Abs
open Go Go.RowKit
def ext (b : Mem) (l : List (Option (Option Blk))) : Mem := ⟨b.blks ++ l⟩
def Within (m : Mem) : Prop := ∀ b ro s cs, m.get b = some (.cells ro s cs) → ∀ v ∈ cs, Cl m.Has v
def sig (K : Nat) (keep : List Nat) (b : Nat) : Option Nat := if b < K then some b else match pos keep (b - K) with
  | some c => some (K + c)
  | none => none
def Fix (K : Nat) (v : Value) : Prop := ∀ keep j, ren (sig K keep) j v = some v
theorem ext_nil (b : Mem) : ext b [] = b := by unfold ext; simp
theorem ext_size (b : Mem) (l : List (Option (Option Blk))) : (ext b l).size = b.size + l.length := by simp [ext, Mem.size]
theorem ext_at (b : Mem) (l : List (Option (Option Blk))) (i : Nat) : (ext b l).blks[b.size + i]? = l[i]? := by
  unfold ext Mem.size
  rw [List.getElem?_append, if_neg (by omega)]
  congr 1; omega
theorem ext_low {b : Mem} (l : List (Option (Option Blk))) {i : Nat} (h : i < b.size) : (ext b l).blks[i]? = b.blks[i]? := by
  unfold ext
  unfold Mem.size at h
  rw [List.getElem?_append, if_pos h]
theorem ext_has {b : Mem} (l : List (Option (Option Blk))) {i : Nat} (h : b.Has i) : (ext b l).Has i := by
  unfold Mem.Has
  rw [ext_low l (Mem.has_lt h)]
  exact h
theorem ext_get_low {b : Mem} (l : List (Option (Option Blk))) {i : Nat} (h : i < b.size) : (ext b l).get i = b.get i := by
  unfold Mem.get
  rw [ext_low l h]
theorem ext_get_old {b : Mem} (l : List (Option (Option Blk))) {i : Nat} {x : Blk} (h : b.get i = some x) : (ext b l).get i = some x := by rw [ext_get_low l (Mem.get_lt h)]; exact h
theorem ext_get (b : Mem) (l : List (Option (Option Blk))) (i : Nat) : (ext b l).get (b.size + i) = match nth l i with | some o => o | none => none := by
  unfold Mem.get nth
  rw [ext_at]
  cases l[i]? with
  | none => rfl
  | some o => cases o <;> rfl
theorem ext_push (b : Mem) (l : List (Option (Option Blk))) (x : Blk) : (ext b l).push x = ext b (l ++ [some (some x)]) := by unfold ext Mem.push; simp
theorem ext_set (b : Mem) (l : List (Option (Option Blk))) (i : Nat) (o : Option Blk) : (ext b l).set (b.size + i) o = ext b (l.set i (some o)) := by
  unfold ext Mem.set Mem.size
  rw [List.set_append_right _ _ (by omega)]
  congr 3; omega
section
variable {P : Program} {n k₀ : Nat} {f f' : AL} {b : Mem} {l : List (Option (Option Blk))}
theorem gcB_use {keep slots : List Nat} (hc : Within b) (hok : gcOk k₀ keep = true) (hf : renF (sig b.size keep) f slots = some f') {l' : List (Option (Option Blk))} (hm : renMs (sig b.size keep) l keep = some l')
    {ι₀ ι : Nat → Loc} {m₀ : Mem} {w₀ w : World} {a : List Value} {act : Act} (h0 : m₀.size ≤ b.size + k₀) (hs : Step ι₀ m₀ w₀ ι (ext b l) w) (hk : Knows n f a) (ha : ARel (ext b l).Has ι a act) (hr : Rel ι (ext b l) w) :
    ∃ κ a', Knows n f' a' ∧ ARel (ext b l').Has κ a' act ∧ Rel κ (ext b l') w ∧ Step ι₀ m₀ w₀ κ (ext b l') w := by
  simp only [gcOk, Bool.and_eq_true] at hok
  obtain ⟨hlen, hget⟩ := renMs_get hm
  have hfix := fixB_spec hok.1
  have hnd := nodupB_spec hok.2
  obtain ⟨κ, hκ⟩ : ∃ κ : Nat → Loc, κ = fun c => if c < b.size then ι c else ι (b.size + keep.getD (c - b.size) 0) := ⟨_, rfl⟩
  have klow : ∀ c, c < b.size → κ c = ι c := fun c h => by rw [hκ]; exact if_pos h
  have kap : ∀ c d, keep[c]? = some d → κ (b.size + c) = ι (b.size + d) := fun c d h => by
    rw [hκ]
    simp only
    rw [if_neg (by omega), show b.size + c - b.size = c by omega]
    simp [List.getD, h]
  have inn : ∀ c, c < l'.length → ∃ d x, keep[c]? = some d ∧ l'[c]? = some x ∧ renB (sig b.size keep) (nth l d) = some x := fun c hc =>
    ⟨keep[c]'(by omega), l'[c], List.getElem?_eq_getElem (by omega), List.getElem?_eq_getElem hc, hget c _ _ (List.getElem?_eq_getElem (by omega)) (List.getElem?_eq_getElem hc)⟩
  have lhas : ∀ d o, nth l d = some o → (ext b l).Has (b.size + d) := fun d o h => by
    unfold nth at h
    split at h <;> first | (cases h; done) | skip
    rename_i q hq
    subst h
    exact ⟨_, by rw [ext_at]; exact hq⟩
  have hhas : ∀ c d, keep[c]? = some d → (ext b l').Has (b.size + c) ∧ (ext b l).Has (b.size + d) := fun c d hc => by
    have hc' : c < l'.length := by rw [hlen]; exact (List.getElem?_eq_some_iff.1 hc).1
    obtain ⟨d', x, h1, h2, h3⟩ := inn c hc'
    rw [hc] at h1; cases h1
    rcases renB_some h3 with ⟨h4, rfl⟩ | ⟨ro, s, cs, q, h4, rfl, h5⟩
    · exact ⟨⟨_, by rw [ext_at]; exact h2⟩, lhas d _ h4⟩
    · exact ⟨⟨_, by rw [ext_at]; exact h2⟩, lhas d _ h4⟩
  have hblk : ∀ c ro s cs', b.size ≤ c → (ext b l').get c = some (.cells ro s cs') → ∃ d cs, keep[c - b.size]? = some d ∧ (ext b l).get (b.size + d) = some (.cells ro s cs) ∧ renL (ren (sig b.size keep) 4) cs = some cs' := fun c ro s cs' hge hc => by
    have h0 := Mem.get_some hc
    have e : c = b.size + (c - b.size) := by omega
    rw [e, ext_at] at h0
    obtain ⟨d, x, h1, h2, h3⟩ := inn (c - b.size) (List.getElem?_eq_some_iff.1 h0).1
    rw [h0] at h2
    cases h2
    rcases renB_some h3 with ⟨_, h⟩ | ⟨ro', s', cs, q, h4, h5, h6⟩
    · cases h
    · cases h5
      refine ⟨d, cs, h1, ?_, h6⟩
      rw [ext_get, h4]
  have hσ : ∀ x c, (ext b l).Has x → sig b.size keep x = some c → (ext b l').Has c ∧ κ c = ι x := fun x c hx h => by
    unfold sig at h
    split at h
    · rename_i hlt
      cases h
      refine ⟨?_, klow _ hlt⟩
      unfold Mem.Has at hx ⊢
      rw [ext_low _ hlt] at hx ⊢
      exact hx
    · rename_i hge
      split at h <;> first | (cases h; done) | skip
      rename_i c' hc'
      cases h
      have h1 := pos_spec hc'
      refine ⟨(hhas c' _ h1).1, ?_⟩
      rw [kap c' _ h1]
      congr 1; omega
  have hbase : ∀ v u, Cl b.Has v → VRel (ext b l).Has ι v u → VRel (ext b l').Has κ v u := fun v u hv hr =>
    (hv.rel hr).mono (fun x hx => ext_has l' hx) fun x hx => klow x (Mem.has_lt hx)
  have hown : ∀ c, (ext b l').Own c → ∃ d, κ c = ι d ∧ (ext b l).Own d ∧ ((c < b.size ∧ d = c) ∨ (b.size ≤ c ∧ ∃ j, keep[c - b.size]? = some j ∧ d = b.size + j)) := fun c ⟨s, cs, h⟩ => by
    by_cases hlt : c < b.size
    · refine ⟨c, klow c hlt, ⟨s, cs, ?_⟩, .inl ⟨hlt, rfl⟩⟩
      rw [ext_get_low _ hlt] at h ⊢
      exact h
    · obtain ⟨d, cs0, h1, h2, _⟩ := hblk c _ _ _ (by omega) h
      refine ⟨b.size + d, ?_, ⟨_, _, h2⟩, .inr ⟨by omega, d, h1, rfl⟩⟩
      rw [← kap _ d h1]; congr 1; omega
  refine ⟨κ, ?_⟩
  -- the frame
  have hfr : ∃ a', Knows n f' a' ∧ ARel (ext b l').Has κ a' act := by
    have each : ∀ i : Fin a.length, ∃ x', VRel (ext b l').Has κ x' (act.tmps.toList.getD i undef) ∧ ∀ v', AL.get f' i = some v' → x' = v' := fun i => by
      have hy : act.tmps.toList[i.1]? = some (act.tmps.toList[i.1]'(by rw [← ha.tmps.1]; exact i.2)) := List.getElem?_eq_getElem _
      have hx := List.getElem?_eq_getElem i.2
      have hxy := ha.tmps.2 i.1 _ _ hx hy
      have e : act.tmps.toList.getD i undef = act.tmps.toList[i.1]'(by rw [← ha.tmps.1]; exact i.2) := by simp [List.getD, hy]
      rw [e]
      cases hv : AL.get f' i.1 with
      | none => obtain ⟨x', h⟩ := some_rel (n' := (ext b l').Has) (κ := κ) hxy; exact ⟨x', h, fun v' h => by cases h⟩
      | some v' =>
        obtain ⟨u, hu, hu'⟩ := renF_get hf i.1 v' hv
        have := hk.2 i.1 u hu
        rw [hx] at this
        cases this
        exact ⟨v', ren_rel hσ 4 _ _ _ hu' hxy, fun v'' h => by cases h; rfl⟩
    refine ⟨List.ofFn fun i => (each i).choose, ⟨by simp [hk.1], fun t v hv => ?_⟩, ha.defers, by simp [ha.tmps.1], fun i x y hx hy => ?_⟩
    · have ht : t < a.length := by
        obtain ⟨u, hu, _⟩ := renF_get hf t v hv
        exact (List.getElem?_eq_some_iff.1 (hk.2 t u hu)).1
      rw [List.getElem?_ofFn, dif_pos ht]
      exact congrArg some ((each ⟨t, ht⟩).choose_spec.2 v hv)
    · have hi : i < a.length := by
        have := (List.getElem?_eq_some_iff.1 hx).1
        simpa using this
      rw [List.getElem?_ofFn, dif_pos hi] at hx
      cases hx
      have h1 := (each ⟨i, hi⟩).choose_spec.1
      have e : act.tmps.toList.getD i undef = y := by simp only [List.getD, hy, Option.getD_some]
      exact Eq.subst (motive := fun z => VRel (ext b l').Has κ (each ⟨i, hi⟩).choose z) e h1
  obtain ⟨a', h1, h2⟩ := hfr
  have mhas : ∀ c, m₀.Has c → (ext b l').Has c ∧ κ c = ι c := fun c hc0 => by
    have hlt0 : c < b.size + k₀ := Nat.lt_of_lt_of_le (Mem.has_lt hc0) h0
    by_cases hlt : c < b.size
    · refine ⟨?_, klow c hlt⟩
      have := hs.grows c hc0
      unfold Mem.Has at this ⊢
      rw [ext_low _ hlt] at this ⊢
      exact this
    · have := hfix (c - b.size) (by omega)
      rw [Nat.zero_add] at this
      have h3 := (hhas _ _ this).1
      have h4 := kap _ _ this
      have e : b.size + (c - b.size) = c := by omega
      rw [e] at h3 h4
      exact ⟨h3, h4⟩
  refine ⟨a', h1, h2, ⟨fun c ro s cs' hcg => ?_, fun c c' hc1 hc' hne => ?_⟩, ⟨hs.os, hs.tape, hs.output, hs.size, fun c hcm => (mhas c hcm).1, fun c hcm => ?_, hs.block, fun c hcm => ?_⟩⟩
  · by_cases hlt : c < b.size
    · rw [ext_get_low _ hlt] at hcg
      obtain ⟨C, e, fz, g1, g2, g3, g4, g5, g6⟩ := hr.at' c ro s cs' (ext_get_old l hcg)
      rw [klow c hlt]
      refine ⟨C, e, fz, g1, g2, g3, g4, fun i v hi => ?_, g6⟩
      obtain ⟨g7, u, g8, g9⟩ := g5 i v hi
      exact ⟨g7, u, g8, hbase v u (hc c ro s cs' hcg v (List.mem_of_getElem? hi)) g9⟩
    · obtain ⟨d, cs, hd, hg, hcs⟩ := hblk c ro s cs' (by omega) hcg
      obtain ⟨C, e, fz, g1, g2, g3, g4, g5, g6⟩ := hr.at' _ ro s cs hg
      obtain ⟨e1, e2⟩ := renL_spec hcs
      have hkc : κ c = ι (b.size + d) := by rw [← kap _ d hd]; congr 1; omega
      rw [hkc]
      refine ⟨C, e, fz, g1, g2, g3, by rw [← e1]; exact g4, fun i v' hi => ?_, g6⟩
      have hi' : i < cs.length := by rw [e1]; exact (List.getElem?_eq_some_iff.1 hi).1
      have hx := List.getElem?_eq_getElem hi'
      obtain ⟨g7, u, g8, g9⟩ := g5 i _ hx
      have hren := e2 i _ v' hx hi
      exact ⟨by rw [ren_one hren]; exact g7, u, g8, ren_rel hσ 4 _ _ _ hren g9⟩
  · obtain ⟨d', hd', ho, hcase'⟩ := hown c' hc'
    have : ∃ d, κ c = ι d ∧ (ext b l).get d ≠ none ∧ ((c < b.size ∧ d = c) ∨ (b.size ≤ c ∧ ∃ j, keep[c - b.size]? = some j ∧ d = b.size + j)) := by
      cases hx : (ext b l').get c with
      | none => exact absurd hx hc1
      | some x =>
        obtain ⟨ro, s, cs⟩ := x
        by_cases hlt : c < b.size
        · refine ⟨c, klow c hlt, ?_, .inl ⟨hlt, rfl⟩⟩
          rw [ext_get_low _ hlt] at hx ⊢
          rw [hx]; simp
        · obtain ⟨d, cs0, h3, h4, _⟩ := hblk c ro s cs (by omega) hx
          refine ⟨b.size + d, ?_, by rw [h4]; simp, .inr ⟨by omega, d, h3, rfl⟩⟩
          rw [← kap _ d h3]; congr 1; omega
    obtain ⟨d, hd, hdn, hcase⟩ := this
    rw [hd, hd']
    refine hr.inj d d' hdn ho fun e => hne ?_
    rcases hcase with ⟨h3, rfl⟩ | ⟨h3, j, h4, rfl⟩ <;> rcases hcase' with ⟨h5, rfl⟩ | ⟨h5, j', h6, rfl⟩
    · exact e
    · omega
    · omega
    · have hj : j = j' := by omega
      subst hj
      have := hnd _ _ j h4 h6
      omega
  · rw [(mhas c hcm).2]
    exact hs.at_ c hcm
  · obtain ⟨d, hd, ho, _⟩ := hown c hcm
    rw [hd]
    exact hs.own d ho
def GcB (b : Mem) (k₀ : Nat) (keep slots : List Nat) (f : AL) (l : List (Option (Option Blk))) [J : Box (AL → List (Option (Option Blk)) → Prop)] : Prop :=
  gcOk k₀ keep = true ∧ @withV _ (renF (sig b.size keep) f slots) ⟨fun f' => @withV _ (renMs (sig b.size keep) l keep) ⟨fun l' => J.k f' l'⟩⟩
def GcM (b : Mem) (k₀ : Nat) (f : AL) (m : Mem) [J : Box (AL → List (Option (Option Blk)) → Prop)] : Prop := ∃ l, m = ext b l ∧ ∃ keep slots, @GcB b k₀ keep slots f l J
variable {Q : Exit → AL → Mem → Prop}
theorem BW.gc {c : Code} (hc : Within b) (keep slots : List Nat) (h : @GcB b k₀ keep slots f l ⟨fun f' l' => @CW P n (b.size + k₀) ⟨c⟩ ⟨Q⟩ f' (ext b l')⟩) : @CW P n (b.size + k₀) ⟨c⟩ ⟨Q⟩ f (ext b l) := by
  obtain ⟨hok, h⟩ := h
  obtain ⟨f', hf, h⟩ := withV_spec h
  obtain ⟨l', hm, h⟩ := withV_spec h
  intro a ha ι₀ m₀ w₀ ι act w h0 hs hA hr
  obtain ⟨κ, a', h1, h2, h3, h4⟩ := gcB_use hc hok hf hm h0 hs ha hA hr
  exact h a' h1 ι₀ m₀ w₀ κ act w h0 h4 h2 h3
theorem BW_loop {c : Code} (hc : Within b) (I : Nat → AL → List (Option (Option Blk)) → Prop) (j₀ : Nat) (h₀ : @GcM b k₀ f (ext b l) ⟨I j₀⟩)
    (round : ∀ j f l, I j f l → @CW P n (b.size + k₀) ⟨c⟩ ⟨@cThen ⟨fun f' m' => @GcM b k₀ f' m' ⟨fun f2 l2 => ∃ j', I j' f2 l2 ∧ j' < j⟩⟩ ⟨Q⟩⟩ f (ext b l)) : @CW P n (b.size + k₀) ⟨.loop c⟩ ⟨Q⟩ f (ext b l) := by
  intro a ha ι₀ m₀ w₀ ι act w h0 hs hA hr
  have run : ∀ j f l, I j f l → ∀ (a : List Value) (ι : Nat → Loc) (act : Act) (w : World), Knows n f a → Step ι₀ m₀ w₀ ι (ext b l) w → ARel (ext b l).Has ι a act → Rel ι (ext b l) w →
      Code.rounds P c (Post ι₀ m₀ w₀ fun e a' m' => ∃ f', Knows n f' a' ∧ Q e f' m') (j + 1) act w := by
    intro j
    induction j using Nat.strongRecOn with
    | _ j ih =>
      intro f l hI a ι act w ha hs hA hr
      refine wp_mono (round j f l hI a ha ι₀ m₀ w₀ ι act w h0 hs hA hr) ?_
      rintro e act2 w2 ⟨κ, a2, m2, ⟨f2, hf2, hq2⟩, ha2, hr2, hs2⟩
      cases e with
      | normal =>
        obtain ⟨l2, rfl, keep, slots, hok, hq2⟩ := hq2
        obtain ⟨f3, hf3, hq3⟩ := withV_spec hq2
        obtain ⟨l3, hm3, j', hI', hlt⟩ := withV_spec hq3
        obtain ⟨μ, a3, k1, k2, k3, k4⟩ := gcB_use hc hok hf3 hm3 h0 hs2 hf2 ha2 hr2
        exact SW_loop.rounds_le (ih j' hlt f3 l3 hI' a3 μ act2 w2 k1 k4 k2 k3) (by omega)
      | _ => exact ⟨κ, a2, m2, ⟨f2, hf2, hq2⟩, ha2, hr2, hs2⟩
  obtain ⟨l1, e1, keep, slots, hok, hq2⟩ := h₀
  have e1 : l = l1 := by
    unfold ext at e1
    simpa using e1
  subst e1
  obtain ⟨f3, hf3, hq3⟩ := withV_spec hq2
  obtain ⟨l3, hm3, hI'⟩ := withV_spec hq3
  obtain ⟨μ, a3, k1, k2, k3, k4⟩ := gcB_use hc hok hf3 hm3 h0 hs ha hA hr
  exact wp_loop_rounds (j₀ + 1) (run j₀ f3 l3 hI' a3 μ act w k1 k4 k2 k3)
theorem BW_mid {x y : Code} {m : Mem} (hc : Within b) (I : AL → List (Option (Option Blk)) → Prop) (h : @CW P n (b.size + k₀) ⟨x⟩ ⟨@cThen ⟨fun f' m' => @GcM b k₀ f' m' ⟨I⟩⟩ ⟨Q⟩⟩ f m) (hy : ∀ f l, I f l → @CW P n (b.size + k₀) ⟨y⟩ ⟨Q⟩ f (ext b l)) : @CW P n (b.size + k₀) ⟨.seq x y⟩ ⟨Q⟩ f m := by
  refine CW_seq (h.mono ?_)
  intro e f' m' hq
  cases e with
  | normal =>
    obtain ⟨l, rfl, keep, slots, hq⟩ := hq
    refine BW.gc hc keep slots ⟨hq.1, ?_⟩
    obtain ⟨f2, h1, h2⟩ := withV_spec hq.2
    obtain ⟨l, h3, h4⟩ := withV_spec h2
    rw [h1, withV_some, h3, withV_some]
    exact hy _ _ h4
  | _ => exact hq
def ToldB (b : Mem) (k₀ : Nat) (v : Value) (m : Mem) (R : Value → Mem → Prop) : Prop := ∃ l, m = ext b l ∧ ∃ keep, gcOk k₀ keep = true ∧ @withV _ (ren (sig b.size keep) 4 v) ⟨fun u => @withV _ (renMs (sig b.size keep) l keep) ⟨fun l' => R u (ext b l')⟩⟩
def bEnd (P : Program) (rs : List ResultVar) (b : Mem) (k₀ : Nat) (R : Value → Mem → Prop) : Exit → AL → Mem → Prop
  | .ret, f, m => @withV _ (sAnswer P rs f m) ⟨fun v => ToldB b k₀ v m R⟩
  | .normal, f, m => @withV _ (sAnswer P rs f m) ⟨fun v => ToldB b k₀ v m R⟩
  | _, _, _ => False
theorem toldB_use {v : Value} {m : Mem} {R : Value → Mem → Prop} (hc : Within b) (h : ToldB b k₀ v m R) {ι₀ ι : Nat → Loc} {m₀ : Mem} {w₀ w : World} {u : Value} (h0 : m₀.size ≤ b.size + k₀) (hs : Step ι₀ m₀ w₀ ι m w) (hv : VRel m.Has ι v u) (hr : Rel ι m w) :
    ∃ v' κ m', R v' m' ∧ VRel m'.Has κ v' u ∧ Rel κ m' w ∧ Step ι₀ m₀ w₀ κ m' w := by
  obtain ⟨l, rfl, keep, hok, h⟩ := h
  obtain ⟨v', hv', h⟩ := withV_spec h
  obtain ⟨l', hm, h⟩ := withV_spec h
  let act : Act := { tmps := #[u], defers := [] }
  obtain ⟨κ, a', h1, h2, h3, h4⟩ := gcB_use (n := 1) (f := [(0, v)]) (f' := [(0, v')]) (keep := keep) (slots := [0]) (a := [v]) (act := act) hc hok (by simp only [renF, AL.get, if_true, hv']) hm h0 hs
    ⟨rfl, fun t x hx => by simp only [AL.get] at hx; split at hx <;> first | (cases hx; done) | skip
                           rename_i e; subst e; cases hx; rfl⟩ ⟨rfl, .cons hv .nil⟩ hr
  refine ⟨v', κ, _, h, ?_, h3, h4⟩
  exact h2.tmps.2 0 v' u (h1.2 0 v' rfl) rfl
theorem Rel.within {m : Mem} {ι : Nat → Loc} {w : World} (h : Rel ι m w) : Within m := fun b ro s cs hb v hv => by
  obtain ⟨C, e, fz, _, _, _, _, h5, _⟩ := h.at' b ro s cs hb
  obtain ⟨i, hi, rfl⟩ := List.getElem_of_mem hv
  obtain ⟨_, u, _, h9⟩ := h5 i _ (List.getElem?_eq_getElem hi)
  exact h9.cl
theorem ren_fix {K : Nat} {keep : List Nat} {m : Mem} (hK : m.size ≤ K) {a : Option Addr} {n c j : Nat} (h : Cl m.Has (.slice a n c)) : ren (sig K keep) j (.slice a n c) = some (.slice a n c) := by
  obtain ⟨κ, u, h⟩ := h
  have low : ∀ x, m.Has x → sig K keep x = some x := fun x hx => by unfold sig; rw [if_pos (Nat.lt_of_lt_of_le (Mem.has_lt hx) hK)]
  cases h with
  | nilSlice => cases j <;> rfl
  | slice x o _ _ _ hx => cases j <;> simp only [ren, low x hx]
  | empty x o _ hx => cases j <;> simp only [ren, low x hx]
theorem Cl.fix {b : Mem} {a : Option Addr} {n c : Nat} (h : Cl b.Has (.slice a n c)) : Fix b.size (.slice a n c) := fun _ _ => ren_fix (Nat.le_refl _) h
theorem Spec.walkB {f : FuncId} {fn : Func} {c : Code} {xs : List Value} {R : Value → Mem → Prop} {m : Mem} (hf : P.funcs[f]? = some fn) (hb : fn.body = some c) (rs : Array ResultVar) (hr : fn.results = rs) (n : Nat) (hn : fn.ntmps = n) (hx : xs.length ≤ n)
    (b : Mem) (l : List (Option (Option Blk))) (hm : m = ext b l) (k₀ : Nat) (hk : l.length = k₀) (hcl : (l = [] ∨ Within b))
    (h : Within b → (l = [] → ∀ x ∈ xs, Cl b.Has x) → @CW P n (b.size + k₀) ⟨c⟩ ⟨bEnd P rs.toList b k₀ R⟩ (alOf 0 xs) (ext b l)) : Spec P f xs m R := by
  subst hr; subst hn; subst hk; subst hm
  intro ι w ys hys hrel
  have hclosed : Within b := by
    rcases hcl with rfl | h
    · rw [ext_nil] at hrel; exact hrel.within
    · exact h
  have hargs : l = [] → ∀ x ∈ xs, Cl b.Has x := by
    rintro rfl x hx
    rw [ext_nil] at hys
    obtain ⟨i, hi, rfl⟩ := List.getElem_of_mem hx
    exact (hys.2 i _ _ (List.getElem?_eq_getElem hi) (List.getElem?_eq_getElem (by rw [← hys.1]; exact hi))).cl
  have hkn : Knows fn.ntmps (alOf 0 xs) (aFrame fn xs) := ⟨by simp [aFrame]; omega, fun t v hv => by
    obtain ⟨_, h2⟩ := alOf_get xs 0 t v hv
    unfold aFrame
    rw [List.getElem?_append, if_pos]
    · exact h2
    · exact (List.getElem?_eq_some_iff.1 h2).1⟩
  refine calls_of_wp hf hb (wp_mono (h hclosed hargs (aFrame fn xs) hkn ι (ext b l) w ι _ w (by rw [ext_size]; exact Nat.le_refl _) (Step.refl _ _ _) ⟨rfl, ?_⟩ hrel) ?_)
  · simp only [Array.toList_append, Array.toList_replicate, List.size_toArray]
    rw [← hys.1]
    unfold aFrame
    refine VRels.append hys ⟨rfl, fun i x y hx hy => ?_⟩
    rw [hx] at hy
    cases hy
    have := List.mem_of_getElem? hx
    rw [List.mem_replicate] at this
    rw [this.2]
    exact undef_rel
  · rintro e act' w' ⟨κ, a', m', ⟨f', hf', hq⟩, ha, hr', hs⟩
    have key : ∀ v, sAnswer P fn.results.toList f' m' = some v → ∃ v', (results fn act'.tmps).run P w' = .ok v' w' ∧ VRel m'.Has κ v v' := by
      intro v hv
      have hv : aAnswer P fn.results.toList a' m' = some v := by
        unfold sAnswer at hv
        unfold aAnswer
        split at hv <;> first | (cases hv; done) | skip
        · rename_i v0 hv0; cases hv; simp only [sRes_spec hf' _ _ hv0]
        · rename_i l hne hl
          cases hv
          simp only [sRes_spec hf' _ _ hl]
      unfold aAnswer at hv
      have arr : ∀ (us : List Value), (fn.results.toList.mapM (resSem act'.tmps)).run P w' = .ok us w' → (results fn act'.tmps).run P w' = .ok (if hh : us.toArray.size = 1 then us.toArray[0] else .tuple us.toArray) w' := by
        intro us hus
        rw [results_eq, Sem.run_bind, Array.mapM_eq_mapM_toList, Sem.run_map, hus]
        rfl
      split at hv <;> first | (cases hv; done) | skip
      · rename_i v0 hl
        cases hv
        obtain ⟨us, h1, h2⟩ := aResults_run ha hr' _ _ hl
        obtain ⟨u, rfl, hu⟩ := h2.one'
        exact ⟨u, by rw [arr _ h1]; simp, hu⟩
      · rename_i l hne hl
        cases hv
        obtain ⟨us, h1, h2⟩ := aResults_run ha hr' _ _ hl
        refine ⟨.tuple us.toArray, ?_, .tuples (by simpa using h2)⟩
        rw [arr _ h1, dif_neg]
        intro hh
        have hlen : l.length = 1 := by rw [h2.1]; simpa using hh
        match l, hlen with
        | [x], _ => exact hne x rfl
    cases e <;> simp only [bEnd] at hq <;> first | exact hq.elim | skip
    all_goals
      obtain ⟨v, hv, ht⟩ := withV_spec hq
      obtain ⟨v', h1, h2⟩ := key v hv
      obtain ⟨v2, μ, m2, k1, k2, k3, k4⟩ := toldB_use hclosed ht (by rw [ext_size]; exact Nat.le_refl _) hs h2 hr'
      exact ⟨ha.defers, v', h1, v2, v', μ, m2, k1, rfl, k2, k3, k4⟩
end
end Go.Proofs.YtpmgackgcefalaaGreat.Abs
namespace Go.Proofs.YtpmgackgcefalaaGreat.Abs
open Go Go.RowKit
theorem nth_zero (o : Option (Option Blk)) (r : List (Option (Option Blk))) : nth (o :: r) 0 = o := rfl
theorem nth_succ (o : Option (Option Blk)) (r : List (Option (Option Blk))) (i : Nat) : nth (o :: r) (i + 1) = nth r i := rfl
theorem sig_local (K : Nat) (keep : List Nat) (i : Nat) : sig K keep (K + i) = match pos keep i with | some c => some (K + c) | none => none := by
  unfold sig
  rw [if_neg (by omega), show K + i - K = i by omega]
  all_goals (cases pos keep i <;> rfl)
theorem sig_old {K b : Nat} (keep : List Nat) (h : b < K) : sig K keep b = some b := by unfold sig; rw [if_pos h]
def shallow : Nat → Value → Bool
  | k + 1, .agg cs => cs.toList.all (shallow k)
  | k + 1, .tuple cs => cs.toList.all (shallow k)
  | k + 1, .iface _ v => shallow k v
  | _, .agg _ => false
  | _, .tuple _ => false
  | _, .iface .. => false
  | _, .func .. => false
  | _, _ => true
theorem Cl.agg {p : Nat → Prop} {cs : Array Value} (h : Cl p (.agg cs)) : ∀ v ∈ cs.toList, Cl p v := by
  obtain ⟨κ, u, h⟩ := h
  obtain ⟨ys, rfl, hl, hh⟩ := h.agg_inv
  intro v hv
  obtain ⟨i, hi, rfl⟩ := List.getElem_of_mem hv
  exact (hh i _ _ (List.getElem?_eq_getElem hi) (List.getElem?_eq_getElem (by rw [← hl]; exact hi))).cl
theorem Cl.tuple {p : Nat → Prop} {cs : Array Value} (h : Cl p (.tuple cs)) : ∀ v ∈ cs.toList, Cl p v := by
  obtain ⟨κ, u, h⟩ := h
  obtain ⟨ys, rfl, hl, hh⟩ := h.tuple_inv
  intro v hv
  obtain ⟨i, hi, rfl⟩ := List.getElem_of_mem hv
  exact (hh i _ _ (List.getElem?_eq_getElem hi) (List.getElem?_eq_getElem (by rw [← hl]; exact hi))).cl
theorem ren_cl {b : Mem} {keep : List Nat} : ∀ (j : Nat) (v : Value), Cl b.Has v → shallow j v = true → v ≠ .chan none → (∀ k cs, j = k + 1 → (v = .agg cs ∨ v = .tuple cs) → renL (ren (sig b.size keep) k) cs.toList = some cs.toList) → (∀ k t x, j = k + 1 → v = .iface t x → ren (sig b.size keep) k x = some x) → ren (sig b.size keep) j v = some v := by
  intro j v h hs hj hcs hif
  have low : ∀ x, b.Has x → sig b.size keep x = some x := fun x hx => sig_old keep (Mem.has_lt hx)
  obtain ⟨κ, u, h⟩ := h
  cases h with
  | ptr x o hx => cases j <;> simp only [ren, low x hx]
  | slice x o _ _ _ hx => cases j <;> simp only [ren, low x hx]
  | empty x o _ hx => cases j <;> simp only [ren, low x hx]
  | agg xs ys _ _ =>
    cases j with
    | zero => cases hs
    | succ k => simp only [ren, hcs k xs rfl (.inl rfl)]
  | tuple xs ys _ _ =>
    cases j with
    | zero => cases hs
    | succ k => simp only [ren, hcs k xs rfl (.inr rfl)]
  | iface t x y _ =>
    cases j with
    | zero => cases hs
    | succ k => simp only [ren, hif k t x rfl rfl]
  | func => cases j <;> cases hs
  | junk => exact absurd rfl hj
  | _ => cases j <;> rfl
def noJunk : Nat → Value → Bool
  | k + 1, .agg cs => cs.toList.all (noJunk k)
  | k + 1, .tuple cs => cs.toList.all (noJunk k)
  | k + 1, .iface _ v => noJunk k v
  | _, .chan _ => false
  | _, _ => true
theorem Cl.ren {b : Mem} {keep : List Nat} : ∀ (j : Nat) (v : Value), Cl b.Has v → shallow j v = true → noJunk j v = true → ren (sig b.size keep) j v = some v := by
  intro j
  induction j with
  | zero => exact fun v h hs hn => ren_cl 0 v h hs (by rintro rfl; cases hn) (fun k _ h => by omega) (fun k _ _ h => by omega)
  | succ j ih =>
    intro v h hs hn
    refine ren_cl (j + 1) v h hs (by rintro rfl; cases hn) (fun k cs hk hv => ?_) (fun k t x hk hv => ?_)
    · have e : j = k := by omega
      subst e
      rcases hv with rfl | rfl
      · simp only [shallow, noJunk, List.all_eq_true] at hs hn
        exact renL_same fun x hx => ih x (h.agg x hx) (hs x hx) (hn x hx)
      · simp only [shallow, noJunk, List.all_eq_true] at hs hn
        exact renL_same fun x hx => ih x (h.tuple x hx) (hs x hx) (hn x hx)
    · have e : j = k := by omega
      subst e
      subst hv
      refine ih x ?_ hs hn
      obtain ⟨κ, u, h⟩ := h
      cases h with
      | iface _ _ y hh => exact hh.cl
theorem renL_cl {b : Mem} {keep : List Nat} {j : Nat} {cs : List Value} (h : ∀ v ∈ cs, Cl b.Has v) (hs : cs.all (fun v => shallow j v && noJunk j v) = true) : renL (ren (sig b.size keep) j) cs = some cs := by
  simp only [List.all_eq_true, Bool.and_eq_true] at hs
  exact renL_same fun x hx => Cl.ren j x (h x hx) (hs x hx).1 (hs x hx).2
def rowIn (n o : Nat) : Option Blk → Option Value
  | some (.cells _ _ cs) => if o + n ≤ cs.length then some (.agg ((cs.drop o).take n).toArray) else none
  | none => none
def cellIn (o : Nat) : Option Blk → Option Value
  | some (.cells _ _ cs) => cs[o]?
  | none => none
def putIn (n : Nat) (m : Mem) (b o : Nat) (vs : List Value) : Option Blk → Option Mem
  | some (.cells false s cs) => if vs.length = n ∧ o + vs.length ≤ cs.length ∧ oneAll vs = true then some (m.set b (some (.cells false s (setL cs o vs)))) else none
  | _ => none
section
variable {P : Program} {t : TypeId} {d : TypeDesc} {i : TypeInfo} {n : Nat}
theorem ld_row (hu : P.underlying t = some d) (hd : d.isRow = true) (hi : P.info? t = some i) (hs : i.size = n) (get : Nat → Option Blk) (b o : Nat) : gLoad P get t (.pointer (some ⟨b, o, none⟩)) = rowIn n o (get b) := by
  subst hs
  cases hb : get b with
  | none => simp only [gLoad, hb, rowIn]
  | some x => obtain ⟨ro, s, cs⟩ := x; simp only [gLoad, hb, rowIn, hu, hd, if_true, hi]
theorem ld_cell (hu : P.underlying t = some d) (hd : d.isRow = false) (get : Nat → Option Blk) (b o : Nat) : gLoad P get t (.pointer (some ⟨b, o, none⟩)) = cellIn o (get b) := by
  cases hb : get b with
  | none => simp only [gLoad, hb, cellIn]
  | some x => obtain ⟨ro, s, cs⟩ := x; simp only [gLoad, hb, cellIn, hu, hd, Bool.false_eq_true, if_false]
theorem st_any (hi : P.info? t = some i) (hs : i.size = n) (m : Mem) (b o : Nat) (v : Value) : aStore P m t (.pointer (some ⟨b, o, none⟩)) v = putIn n m b o v.cells.toList (m.get b) := by
  subst hs
  cases hb : m.get b with
  | none => simp only [aStore, hb, putIn]
  | some x => obtain ⟨ro, s, cs⟩ := x; cases ro <;> simp only [aStore, hb, putIn, hi]
end
theorem aLoad_g (P : Program) (m : Mem) (t : TypeId) (p : Value) : aLoad P m t p = gLoad P m.get t p := by
  unfold aLoad gLoad
  rfl
theorem Grows.ext (m : Mem) (l : List (Option (Option Blk))) : Grows m (ext m l) := ⟨by rw [ext_size]; omega, fun b x h => ext_get_old l h⟩
theorem g_tt : ((some true : Option Bool) == some true) = true := rfl
theorem g_tf : ((some true : Option Bool) == some false) = false := rfl
theorem g_ft : ((some false : Option Bool) == some true) = false := rfl
theorem g_ff : ((some false : Option Bool) == some false) = true := rfl
theorem aUn_not (b : Bool) : aUn .not (.bool b) = some (.bool !b) := rfl
theorem agg_cells (xs : Array Value) : (Value.agg xs).cells.toList = xs.toList := rfl
theorem row_struct (fs : Array Field) : (TypeDesc.struct fs).isRow = true := rfl
theorem rowIn_whole {n : Nat} {ro : Bool} {s : Nat} {cs : List Value} (h : cs.length = n) : rowIn n 0 (some (.cells ro s cs)) = some (.agg cs.toArray) := by
  subst h
  simp [rowIn]
theorem rowIn_at {α : Type} {n : Nat} {f : α → List Value} {xs : List α} (hl : ∀ x ∈ xs, (f x).length = n) {k : Nat} {x : α} (hx : xs[k]? = some x) (ro : Bool) (s : Nat) : rowIn n (k * n) (some (.cells ro s (xs.flatMap f))) = some (.agg (f x).toArray) := by
  have h1 := flatMap_len f n xs hl
  have h2 := (List.getElem?_eq_some_iff.1 hx).1
  have h3 := Nat.mul_le_mul_right n (show k + 1 ≤ xs.length by omega)
  rw [Nat.add_mul, Nat.one_mul] at h3
  unfold rowIn
  simp only
  rw [if_pos (by omega), flatMap_at f n xs k x hl hx]
theorem flatMap_get {α : Type} {n : Nat} {f : α → List Value} {xs : List α} (hl : ∀ x ∈ xs, (f x).length = n) {k : Nat} {x : α} (hx : xs[k]? = some x) {o : Nat} (ho : o < n) : (xs.flatMap f)[k * n + o]? = (f x)[o]? := by
  rw [← flatMap_at f n xs k x hl hx, List.getElem?_take, if_pos ho, List.getElem?_drop]
theorem rowIn_in {α : Type} {n : Nat} {f : α → List Value} {xs : List α} (hl : ∀ x ∈ xs, (f x).length = n) {k : Nat} {x : α} (hx : xs[k]? = some x) {j o : Nat} (ho : o + j ≤ n) (ro : Bool) (s : Nat) : rowIn j (k * n + o) (some (.cells ro s (xs.flatMap f))) = some (.agg (((f x).drop o).take j).toArray) := by
  have h1 := flatMap_len f n xs hl
  have h2 := (List.getElem?_eq_some_iff.1 hx).1
  have h3 := Nat.mul_le_mul_right n (show k + 1 ≤ xs.length by omega)
  rw [Nat.add_mul, Nat.one_mul] at h3
  unfold rowIn
  simp only
  rw [if_pos (by omega), ← flatMap_at f n xs k x hl hx]
  congr 3
  rw [List.drop_take, List.drop_drop, List.take_take, Nat.min_eq_left (by omega)]
theorem putIn_whole {n : Nat} (m : Mem) (b : Nat) {s : Nat} {vs cs : List Value} (h1 : vs.length = n) (h2 : cs.length = n) (h3 : oneAll vs = true) : putIn n m b 0 vs (some (.cells false s cs)) = some (m.set b (some (.cells false s vs))) := by
  unfold putIn
  simp only
  rw [if_pos ⟨h1, by omega, h3⟩]
  congr 5
  apply List.ext_getElem?
  intro j
  rw [setL_get _ _ _ _ (by omega)]
  by_cases hj : j < vs.length
  · rw [if_pos (by omega), Nat.sub_zero]
  · rw [if_neg (by omega), List.getElem?_eq_none (by omega), List.getElem?_eq_none (by omega)]
theorem nBox_row {P : Program} (t : TypeId) {xs : Array Value} (h : oneAll xs.toList = true) : nBox P t (.agg xs) = some (.cells false (aStride P t) xs.toList) := by
  unfold nBox
  rw [agg_cells, if_pos h]
def zZ := And.intro (And.intro (And.intro (And.intro (And.intro (And.intro (And.intro (@alOf.eq_1) (And.intro @alOf.eq_2 @sOps.eq_1)) (And.intro (And.intro @sOpsB.eq_1 @sOpsB.eq_2) (And.intro @sOp.eq_1 @sOne.eq_1))) (And.intro (And.intro (And.intro @sHOne.eq_1 @sHOp.eq_1) (And.intro @sGuard.eq_1 @sWant.eq_1)) (And.intro (And.intro @sFun.eq_1 @sGuarded.eq_1) (And.intro @sGuarded.eq_2 @sGuarded.eq_3)))) (And.intro (And.intro (And.intro (@sGuardedV.eq_1) (And.intro @sGuardedV.eq_2 @sGuardedV.eq_3)) (And.intro (And.intro @isFn.eq_1 @isFn.eq_2) (And.intro @isVal.eq_1 @isVal.eq_2))) (And.intro (And.intro (And.intro @kind.eq_1 @kind.eq_2) (And.intro @kind.eq_3 @kind.eq_4)) (And.intro (And.intro @kind.eq_5 @kind.eq_6) (And.intro @kind.eq_7 @kind.eq_8))))) (And.intro (And.intro (And.intro (And.intro (@kindB.eq_1) (And.intro @kindB.eq_2 @kindC.eq_1)) (And.intro (And.intro @kindC.eq_2 @kindT.eq_1) (And.intro @kindT.eq_2 @withV_some))) (And.intro (And.intro (And.intro @withV_ite @sVal.eq_1) (And.intro @sVal.eq_2 @sVal.eq_3)) (And.intro (And.intro @sVal.eq_4 @sVal.eq_5) (And.intro @sVal.eq_6 @sVal.eq_7)))) (And.intro (And.intro (And.intro (@sVal.eq_8) (And.intro @sVal.eq_9 @sVal.eq_10)) (And.intro (And.intro @sVal.eq_11 @sVal.eq_12) (And.intro @sVal.eq_13 @sVal.eq_14))) (And.intro (And.intro (And.intro @sVal.eq_15 @sVal.eq_16) (And.intro @sVal.eq_17 @sVal.eq_18)) (And.intro (And.intro @sVal.eq_19 @sNew.eq_1) (And.intro @sNew.eq_2 @sNew.eq_3)))))) (And.intro (And.intro (And.intro (And.intro (And.intro (@sNew.eq_4) (And.intro @sNew.eq_5 @sMem.eq_1)) (And.intro (And.intro @sMem.eq_2 @sMem.eq_3) (And.intro @sMem.eq_4 @sArgs.eq_1))) (And.intro (And.intro (And.intro @sArgs.eq_2 @sParts.eq_1) (And.intro @sParts.eq_2 @sBin.eq_1)) (And.intro (And.intro @sBin.eq_2 @sConv.eq_1) (And.intro @sConv.eq_2 @sConv.eq_3)))) (And.intro (And.intro (And.intro (@sConv.eq_4) (And.intro @sConv_slice @vSlice.eq_1)) (And.intro (And.intro @vSlice.eq_2 @vSlice.eq_3) (And.intro @vSlice.eq_4 @vSlice.eq_5))) (And.intro (And.intro (And.intro @fOpt.eq_1 @fOpt.eq_2) (And.intro @vPick.eq_1 @vPick.eq_2)) (And.intro (And.intro @vPick.eq_3 @vLoad.eq_1) (And.intro @vLoad.eq_2 @vIndexAddr.eq_1))))) (And.intro (And.intro (And.intro (And.intro (@vIndexAddr.eq_2) (And.intro @vIndexAddr.eq_3 @vIndex.eq_1)) (And.intro (And.intro @vIndex.eq_2 @vIndex.eq_3) (And.intro @vExtract.eq_1 @vExtract.eq_2))) (And.intro (And.intro (And.intro @vUn.eq_1 @vUn.eq_2) (And.intro @aUn_not @Bool.not_true)) (And.intro (And.intro @Bool.not_false @sCallee.eq_1) (And.intro @sCallee.eq_2 @AL.look.eq_1)))) (And.intro (And.intro (And.intro (And.intro @AL.look.eq_2 @AL.look.eq_3) (And.intro @AL.look.eq_4 @AL.get.eq_1)) (And.intro (And.intro @AL.get.eq_2 @AL.keep_cons) (And.intro @AL.keep.eq_1 @AL.keep.eq_2))) (And.intro (And.intro (And.intro @flat.eq_1 @flat.eq_2) (And.intro @flat.eq_3 @flat.eq_4)) (And.intro (And.intro @flat.eq_5 @flat.eq_6) (And.intro @flat.eq_7 @flat.eq_8))))))) (And.intro (And.intro (And.intro (And.intro (And.intro (And.intro (@flat.eq_9) (And.intro @flat.eq_10 @flat.eq_11)) (And.intro (And.intro @flat.eq_12 @flat.eq_13) (And.intro @flat.eq_14 @flat.eq_15))) (And.intro (And.intro (And.intro @sPut.eq_1 @sPut.eq_2) (And.intro @isC.eq_1 @isC.eq_2)) (And.intro (And.intro @sThen.eq_1 @sThen.eq_2) (And.intro @sBlock.eq_1 @sBlock.eq_2)))) (And.intro (And.intro (And.intro (@cThen.eq_1) (And.intro @cThen.eq_2 @cBlock.eq_1)) (And.intro (And.intro @cBlock.eq_2 @sHead.eq_1) (And.intro @sHeadB.eq_1 @sHeadB.eq_2))) (And.intro (And.intro (And.intro @sEnd.eq_1 @sEnd.eq_2) (And.intro @sEnd.eq_3 @List.take_succ_cons.{0})) (And.intro (And.intro @List.take_zero.{0} @List.drop_succ_cons.{0}) (And.intro @List.drop_zero.{0} @aBin_ii))))) (And.intro (And.intro (And.intro (And.intro (@aBin_ss) (And.intro @aBinI.eq_1 @aBinI.eq_2)) (And.intro (And.intro @aBinI.eq_3 @aInt_add) (And.intro @aInt_sub @aInt_mul))) (And.intro (And.intro (And.intro @aInt_quo @aInt_rem) (And.intro @aInt_and @aInt_or)) (And.intro (And.intro @aInt_xor @aInt_eql) (And.intro @aInt_neq @aInt_lss)))) (And.intro (And.intro (And.intro (And.intro @aInt_leq @aInt_gtr) (And.intro @aInt_geq @aStr_add)) (And.intro (And.intro @aStr_eql @aStr_neq) (And.intro @Bool.false_eq_true @Bool.or_true))) (And.intro (And.intro (And.intro @Bool.or_false @Bool.true_or) (And.intro @if_true.{1} @if_false.{1})) (And.intro (And.intro @true_and @and_true) (And.intro @List.nil_append.{0} @List.append_nil.{0})))))) (And.intro (And.intro (And.intro (And.intro (And.intro (Tryz.underlying99) (And.intro Tryz.underlying5 Tryz.underlying3)) (And.intro (And.intro Tryz.underlying140 Tryz.underlying9) (And.intro @inf_u8 @inf_int))) (And.intro (And.intro (And.intro @inf_str @u8_size) (And.intro @int_size @Abs.str_size)) (And.intro (And.intro @aIndexAddr.eq_1 @aIndexAddr.eq_2) (And.intro @row_int @row_str)))) (And.intro (And.intro (And.intro (@Nat.mul_one) (And.intro @Nat.zero_add @aLen.eq_1)) (And.intro (And.intro @aLen.eq_2 @aLen.eq_3) (And.intro @vCall.eq_1 @vCall.eq_2))) (And.intro (And.intro (And.intro @vCall.eq_3 @vBuiltin.eq_1) (And.intro @vBuiltin.eq_2 @vBuiltin.eq_3)) (And.intro (And.intro @vBuiltin.eq_4 @vLen.eq_1) (And.intro @vLen.eq_2 @vLen.eq_3))))) (And.intro (And.intro (And.intro (And.intro (@new_int) (And.intro @new_u8 @Int.toNat_natCast)) (And.intro (And.intro @vFieldAddr.eq_1 @vFieldAddr.eq_2) (And.intro @vBuild.eq_1 @vBuild.eq_2))) (And.intro (And.intro (And.intro @vNil.eq_1 @vNil.eq_2) (And.intro @vNil.eq_3 @ext_size)) (And.intro (And.intro @ext_push @ext_set) (And.intro @ext_get @nth_zero)))) (And.intro (And.intro (And.intro (And.intro @nth_succ @List.length_cons.{0}) (And.intro @List.length_nil.{0} @List.cons_append.{0})) (And.intro (And.intro @List.set_cons_zero.{0} @List.set_cons_succ.{0}) (And.intro @cellIn.eq_1 @cellIn.eq_2))) (And.intro (And.intro (And.intro @Region.wanted.eq_1 @g_tt) (And.intro @g_tf @g_ft)) (And.intro (And.intro @g_ff @List.getElem?_cons_succ.{0}) (And.intro @List.getElem?_cons_zero.{0} @List.toList_toArray.{0})))))))
def zG := And.intro (And.intro (And.intro (And.intro (And.intro @GcM.eq_1 @GcB.eq_1) (And.intro (@gcOk.eq_1) (And.intro @fixB.eq_1 @fixB.eq_2))) (And.intro (And.intro @fixB.eq_3 @nodupB.eq_1) (And.intro (@nodupB.eq_2) (And.intro @renF.eq_1 @renF.eq_2)))) (And.intro (And.intro (And.intro @renMs.eq_1 @renMs.eq_2) (And.intro (@renB.eq_1) (And.intro @renB.eq_2 @renB.eq_3))) (And.intro (And.intro @renL.eq_1 @renL.eq_2) (And.intro (@ren.eq_1) (And.intro @ren.eq_2 @ren.eq_3))))) (And.intro (And.intro (And.intro (And.intro @ren.eq_4 @ren.eq_5) (And.intro (@ren.eq_6) (And.intro @ren.eq_7 @ren.eq_8))) (And.intro (And.intro @ren.eq_9 @ren.eq_10) (And.intro (@ren.eq_11) (And.intro @ren.eq_12 @ren.eq_13)))) (And.intro (And.intro (And.intro @ren.eq_14 @ren.eq_15) (And.intro (@ren.eq_16) (And.intro @ren.eq_17 @sig_local))) (And.intro (And.intro (@pos.eq_1) (And.intro @pos.eq_2 @bEnd.eq_1)) (And.intro (@bEnd.eq_2) (And.intro @bEnd.eq_3 @ToldB.eq_1)))))
end Go.Proofs.YtpmgackgcefalaaGreat.Abs
namespace Go.Proofs.YtpmgackgcefalaaGreat
open Go.RowKit Abs
theorem inf_head : Tryz.prog.info? 30 = some Tryz.t30 := by kernel_rfl
theorem inf_arch : Tryz.prog.info? 32 = some Tryz.t32 := by kernel_rfl
theorem inf_wit : Tryz.prog.info? 36 = some Tryz.t36 := by kernel_rfl
theorem inf_trace : Tryz.prog.info? 27 = some Tryz.t27 := by kernel_rfl
theorem arch_size : Tryz.t32.size = 8 := rfl
theorem alloc_arch : nAlloc Tryz.prog 32 = some (.cells false (aStride Tryz.prog 32) [.int .i64 0, .string ⟨#[]⟩, .int .i64 0, .int .i64 0, .int .i64 0, .string ⟨#[]⟩, .string ⟨#[]⟩, .slice none 0 0]) := by kernel_rfl
theorem alloc_head : nAlloc Tryz.prog 30 = some (.cells false (aStride Tryz.prog 30) [.int .i64 0, .string ⟨#[]⟩, .int .i64 0, .int .i64 0, .int .i64 0, .string ⟨#[]⟩, .string ⟨#[]⟩]) := by kernel_rfl
structure Arch where
  h : Header
  sl : Value
  bs : List ByteArray
def Arch.cells (a : Arch) : List Value := (archC a.h a.sl).toList
def Arch.wf (m : Mem) (B : Nat) (a : Arch) : Prop := Rd m 1 a.sl a.bs.length (a.bs.map .string) ∧ a.bs.length ≤ B ∧ ∀ s ∈ a.bs, s.size ≤ B
theorem Arch.arr (a : Arch) : a.cells.toArray = archC a.h a.sl := rfl
theorem Arch.wf.one {m : Mem} {B : Nat} {a : Arch} (h : a.wf m B) : oneAll (archC a.h a.sl).toList = true := by
  obtain ⟨p, c, e⟩ := h.1.len
  rw [e]; rfl
theorem Arch.len (a : Arch) : a.cells.length = 8 := rfl
def traceC (tv iv c1 c2 sv fv : Value) : Array Value := #[tv, iv, c1, c2, sv, fv]
def witC (r : Int × ByteArray × ByteArray) : Array Value := #[.int .i64 r.1, .string r.2.1, .string r.2.2]
def clashV : List Arch → Arch → Option (ByteArray × ByteArray)
  | [], _ => none
  | a :: r, kept => if a.h = kept.h then (match leavesV 32 a.bs kept.bs with | some x => some x | none => clashV r kept) else clashV r kept
def findOffer : List ByteArray → Header → Option ByteArray
  | [], _ => none
  | s :: r, h => if offeredH s = some h then some s else findOffer r h
noncomputable def blameV (tagged : List Header) (inj : List ByteArray) (packed : List Arch) (kept : Arch) : Int × ByteArray × ByteArray :=
  if packed.any (fun a => sameArch a.h kept.h a.bs kept.bs) = true then (0, ⟨#[]⟩, ⟨#[]⟩)
  else if hasHead tagged kept.h = false then (match findOffer inj kept.h with | some s => (1, s, ⟨#[]⟩) | none => (0, ⟨#[]⟩, ⟨#[]⟩))
  else match clashV packed kept with | some (x, y) => (2, x, y) | none => (0, ⟨#[]⟩, ⟨#[]⟩)
structure TraceIn (m : Mem) (B : Nat) (tv iv : Value) (tagged : List Header) (inj : List ByteArray) : Prop where
  tag : Rd m 7 tv tagged.length (tagged.flatMap Header.cells)
  wf : ∀ x ∈ tagged, x.wf
  tl : tagged.length ≤ B
  injr : Rd m 1 iv inj.length (inj.map .string)
  il : inj.length ≤ B
  is : ∀ s ∈ inj, s.size ≤ B
theorem ldA (get : Nat → Option Blk) (b o : Nat) : gLoad Tryz.prog get 32 (.pointer (some ⟨b, o, none⟩)) = rowIn 8 o (get b) := ld_row Tryz.underlying32 (row_struct _) inf_arch rfl get b o
theorem ldH (get : Nat → Option Blk) (b o : Nat) : gLoad Tryz.prog get 30 (.pointer (some ⟨b, o, none⟩)) = rowIn 7 o (get b) := ld_row Tryz.underlying30 (row_struct _) inf_head rfl get b o
theorem ldW (get : Nat → Option Blk) (b o : Nat) : gLoad Tryz.prog get 36 (.pointer (some ⟨b, o, none⟩)) = rowIn 3 o (get b) := ld_row Tryz.underlying36 (row_struct _) inf_wit rfl get b o
theorem ldStr (get : Nat → Option Blk) (b o : Nat) : gLoad Tryz.prog get 9 (.pointer (some ⟨b, o, none⟩)) = cellIn o (get b) := ld_cell Tryz.underlying9 rfl get b o
theorem ldSS (get : Nat → Option Blk) (b o : Nat) : gLoad Tryz.prog get 23 (.pointer (some ⟨b, o, none⟩)) = cellIn o (get b) := ld_cell Tryz.underlying23 rfl get b o
theorem ldHs (get : Nat → Option Blk) (b o : Nat) : gLoad Tryz.prog get 22 (.pointer (some ⟨b, o, none⟩)) = cellIn o (get b) := ld_cell Tryz.underlying22 rfl get b o
theorem stA (m : Mem) (b o : Nat) (v : Value) : aStore Tryz.prog m 32 (.pointer (some ⟨b, o, none⟩)) v = putIn 8 m b o v.cells.toList (m.get b) := st_any inf_arch rfl m b o v
theorem stH (m : Mem) (b o : Nat) (v : Value) : aStore Tryz.prog m 30 (.pointer (some ⟨b, o, none⟩)) v = putIn 7 m b o v.cells.toList (m.get b) := st_any inf_head rfl m b o v
theorem stW (m : Mem) (b o : Nat) (v : Value) : aStore Tryz.prog m 36 (.pointer (some ⟨b, o, none⟩)) v = putIn 3 m b o v.cells.toList (m.get b) := st_any inf_wit rfl m b o v
theorem faT0 (b o : Nat) : aFieldAddr Tryz.prog 27 (.pointer (some ⟨b, o, none⟩)) 0 = some (.pointer (some ⟨b, o, none⟩)) := by kernel_rfl
theorem faT1 (b o : Nat) : aFieldAddr Tryz.prog 27 (.pointer (some ⟨b, o, none⟩)) 1 = some (.pointer (some ⟨b, o + 1, none⟩)) := by kernel_rfl
theorem faA0 (b o : Nat) : aFieldAddr Tryz.prog 32 (.pointer (some ⟨b, o, none⟩)) 0 = some (.pointer (some ⟨b, o, none⟩)) := by kernel_rfl
theorem faA1 (b o : Nat) : aFieldAddr Tryz.prog 32 (.pointer (some ⟨b, o, none⟩)) 1 = some (.pointer (some ⟨b, o + 7, none⟩)) := by kernel_rfl
theorem bW0 : aBuild Tryz.prog 36 [] = some (.agg (witC (0, ⟨#[]⟩, ⟨#[]⟩))) := by kernel_rfl
theorem bW1 (s : ByteArray) : aBuild Tryz.prog 36 [(0, .int .i64 1), (1, .string s)] = some (.agg (witC (1, s, ⟨#[]⟩))) := by kernel_rfl
theorem bW2 (s t : ByteArray) : aBuild Tryz.prog 36 [(0, .int .i64 2), (1, .string s), (2, .string t)] = some (.agg (witC (2, s, t))) := by kernel_rfl
def chain : List Bool → Option Bool
  | [] => some true
  | b :: r => match some b with
    | some true => chain r
    | some false => some false
    | none => none
theorem chain_eq : ∀ l : List Bool, chain l = some (l.all id)
  | [] => rfl
  | true :: r => by simp [chain, chain_eq r]
  | false :: r => by simp [chain]
theorem beqB_dec (a b : ByteArray) : beqB a b = decide (a = b) := by
  unfold beqB
  rw [Bool.eq_iff_iff, decide_eq_true_eq, beq_iff_eq]
  exact ⟨fun h => ByteArray.ext (Array.ext' h), fun h => by rw [h]⟩
set_option maxRecDepth 100000 in
theorem eqH (cx : Bool) (h k : Header) : aBin Tryz.prog .eql 30 cx h.val k.val = some (.bool (decide (h = k))) := by
  have e0 : aBin Tryz.prog .eql 30 cx h.val k.val = (chain [h.id == k.id, beqB h.salt k.salt, h.n == k.n, h.bytes == k.bytes, h.raw == k.raw, beqB h.root k.root, beqB h.tag k.tag]).map .bool := by kernel_rfl
  rw [e0, chain_eq, Option.map_some]
  congr 2
  obtain ⟨a1, a2, a3, a4, a5, a6, a7⟩ := h
  obtain ⟨b1, b2, b3, b4, b5, b6, b7⟩ := k
  rw [Bool.eq_iff_iff]
  simp [beqB_dec]
set_option maxRecDepth 100000 in
theorem neH (cx : Bool) (h k : Header) : aBin Tryz.prog .neq 30 cx h.val k.val = some (.bool (!decide (h = k))) := by
  have e0 : aBin Tryz.prog .neq 30 cx h.val k.val = (chain [h.id == k.id, beqB h.salt k.salt, h.n == k.n, h.bytes == k.bytes, h.raw == k.raw, beqB h.root k.root, beqB h.tag k.tag]).map fun b => .bool !b := by kernel_rfl
  rw [e0, chain_eq, Option.map_some]
  congr 3
  obtain ⟨a1, a2, a3, a4, a5, a6, a7⟩ := h
  obtain ⟨b1, b2, b3, b4, b5, b6, b7⟩ := k
  rw [Bool.eq_iff_iff]
  simp [beqB_dec]
def zB1 := And.intro (And.intro (And.intro (And.intro Tryz.underlying28 Tryz.underlying23) (And.intro (Tryz.underlying22) (And.intro Tryz.underlying32 Tryz.underlying30))) (And.intro (And.intro Tryz.underlying36 Tryz.underlying27) (And.intro (Tryz.underlying4) (And.intro @inf_arch @arch_size)))) (And.intro (And.intro (And.intro @ldA @ldH) (And.intro (@ldStr) (And.intro @ldSS @ldHs))) (And.intro (And.intro (@ldW) (And.intro @stA @stH)) (And.intro (@stW) (And.intro @agg_cells @Arch.arr))))
set_option maxRecDepth 100000 in
set_option maxHeartbeats 2000000 in
theorem of_spec (m : Mem) (a1 : Option Addr) (k1 : Nat) (a2 : Option Addr) (k2 : Nat) (a3 : Option Addr) (n3 k3 : Nat) (c1 c2 fl : Int) (pa : Option Addr) (pk : Nat) (tagged : List Header) (inj : List ByteArray) (packed : List Arch) (kept : Arch) (ka : Option Addr) (kk : Nat)
    (hks : kept.sl = .slice ka kept.bs.length kk) (hkw : kept.wf m reachBytes) (htr : TraceIn m reachBytes (.slice a1 tagged.length k1) (.slice a2 inj.length k2) tagged inj)
    (hp : Rd m 8 (.slice pa packed.length pk) packed.length (packed.flatMap Arch.cells)) (hpl : packed.length ≤ reachBytes) (hpw : ∀ a ∈ packed, a.wf m reachBytes) :
    Abs.Spec Tryz.prog 7 [.agg (traceC (.slice a1 tagged.length k1) (.slice a2 inj.length k2) (.int .i64 c1) (.int .i64 c2) (.slice a3 n3 k3) (.int .i64 fl)), .slice pa packed.length pk, .agg (archC kept.h kept.sl)] m fun v M => v = .agg (witC (blameV tagged inj packed kept)) ∧ M = m := by
  obtain ⟨R, hR⟩ : ∃ R, R = blameV tagged inj packed kept := ⟨_, rfl⟩
  rw [← hR]
  refine Abs.Spec.walkB Tryz.func7 (by rfl) _ Tryz.results7 _ Tryz.ntmps7 (by simp) m [] (ext_nil m).symm 0 rfl (.inl rfl) ?_
  intro hc hx
  replace hx := hx rfl
  have fp : ∀ keep j, ren (sig m.size keep) j (.slice pa packed.length pk) = some (.slice pa packed.length pk) := Cl.fix (hx _ (by simp))
  have fi : ∀ keep j, ren (sig m.size keep) j (.slice a2 inj.length k2) = some (.slice a2 inj.length k2) := Cl.fix (Cl.agg (hx _ (List.mem_cons_self)) _ (by simp [traceC]))
  obtain ⟨TC, hTC⟩ : ∃ TC, TC = (traceC (.slice a1 tagged.length k1) (.slice a2 inj.length k2) (.int .i64 c1) (.int .i64 c2) (.slice a3 n3 k3) (.int .i64 fl)).toList := ⟨_, rfl⟩
  obtain ⟨KC, hKC⟩ : ∃ KC, KC = (archC kept.h kept.sl).toList := ⟨_, rfl⟩
  have rT : ∀ keep, renL (ren (sig m.size keep) 4) TC = some TC := fun keep => renL_cl (by rw [hTC]; exact Cl.agg (hx _ (by simp))) (by rw [hTC]; rfl)
  have rK : ∀ keep, renL (ren (sig m.size keep) 4) KC = some KC := fun keep => renL_cl (by rw [hKC]; exact Cl.agg (hx _ (by simp))) (by rw [hKC, hks]; rfl)
  have b1 : nBox Tryz.prog 27 (.agg (traceC (.slice a1 tagged.length k1) (.slice a2 inj.length k2) (.int .i64 c1) (.int .i64 c2) (.slice a3 n3 k3) (.int .i64 fl))) = some (.cells false (aStride Tryz.prog 27) TC) := by rw [hTC]; rfl
  have b2 : nBox Tryz.prog 32 (.agg (archC kept.h kept.sl)) = some (.cells false (aStride Tryz.prog 32) KC) := by rw [hKC, hks]; rfl
  have b3 : nAlloc Tryz.prog 36 = some (.cells false (aStride Tryz.prog 36) (witC (0, ⟨#[]⟩, ⟨#[]⟩)).toList) := by kernel_rfl
  refine CW_seq (CW_region ?_)
  simp only [zZ, reduceIte, Nat.reduceLT, Int.reduceToNat, Int.reduceLE, Int.reduceEq, Int.reduceLT, Nat.reduceEqDiff, Nat.reduceAdd, zB1, b1, b2, b3]
  clear b1 b2 b3
  generalize aStride Tryz.prog 27 = s1
  generalize aStride Tryz.prog 32 = s2
  generalize aStride Tryz.prog 36 = s3
  obtain ⟨same, hsame⟩ : ∃ f : Arch → Bool, f = fun a => sameArch a.h kept.h a.bs kept.bs := ⟨_, rfl⟩
  have hsame' : ∀ a, same a = sameArch a.h kept.h a.bs kept.bs := fun a => by rw [hsame]
  have hR' : R = if packed.any same = true then ((0 : Int), ⟨#[]⟩, ⟨#[]⟩) else if hasHead tagged kept.h = false then (match findOffer inj kept.h with | some s => (1, s, ⟨#[]⟩) | none => (0, ⟨#[]⟩, ⟨#[]⟩))
      else match clashV packed kept with | some (x, y) => (2, x, y) | none => (0, ⟨#[]⟩, ⟨#[]⟩) := by rw [hR, hsame]; rfl
  clear hsame
  have kA : oneAll KC = true := by rw [hKC]; exact hkw.one
  have kL : KC.length = 8 := by rw [hKC]; rfl
  have kArr : KC.toArray = archC kept.h kept.sl := by rw [hKC]
  have wK : ∀ s, rowIn 8 0 (some (.cells false s KC)) = some (.agg (archC kept.h kept.sl)) := fun s => by rw [rowIn_whole kL, kArr]
  have hrp : reachBytes = 140737488351232 := rfl
  -- the answer, told
  have told : ∀ (r : Int × ByteArray × ByteArray) (L : List (Option (Option Blk))), r = R → ToldB m 0 (.agg (witC r)) (ext m L) fun v M => v = .agg (witC R) ∧ M = m := fun r L hr => by
    refine ⟨_, rfl, [], rfl, ?_⟩
    subst hr
    have e : ren (sig m.size []) 4 (.agg (witC r)) = some (.agg (witC r)) := ren_flat 4 _ rfl
    simp only [e, withV_some, renMs, ext_nil, and_self]
  refine BW_mid hc (fun f l => f = [(1, .slice pa packed.length pk), (3, .pointer (some ⟨m.size + 0, 0, none⟩)), (5, .pointer (some ⟨m.size + 1, 0, none⟩)), (6, .pointer (some ⟨m.size + 2, 0, none⟩))] ∧
    l = [some (some (.cells false s1 TC)), some (some (.cells false s2 KC)), some (some (.cells false s3 (witC (0, ⟨#[]⟩, ⟨#[]⟩)).toList))] ∧ packed.any same = false) ?_ ?_
  · refine CW_seq (CW_region ?_)
    simp only [zZ, reduceIte, Nat.reduceLT, Int.reduceToNat, Int.reduceLE, Int.reduceEq, Int.reduceLT, Nat.reduceEqDiff, Nat.reduceAdd, zB1]
    refine CW_block (BW_loop hc (fun n f l => ∃ t : Nat, t + n = packed.length ∧ f = [(1, .slice pa packed.length pk), (3, .pointer (some ⟨m.size + 0, 0, none⟩)), (5, .pointer (some ⟨m.size + 1, 0, none⟩)), (6, .pointer (some ⟨m.size + 2, 0, none⟩)), (18, .slice pa packed.length pk), (19, .int .i64 (packed.length : Int)), (20, .int .i64 (t : Int))] ∧
      l = [some (some (.cells false s1 TC)), some (some (.cells false s2 KC)), some (some (.cells false s3 (witC (0, ⟨#[]⟩, ⟨#[]⟩)).toList))] ∧ (packed.take t).any same = false) packed.length ?_ ?_)
    · refine ⟨_, rfl, [0, 1, 2], [1, 3, 5, 6, 18, 19, 20], rfl, ?_⟩
      have rW := renL_flat (σ := sig m.size [0, 1, 2]) (k := 4) (xs := (witC (0, ⟨#[]⟩, ⟨#[]⟩)).toList) (by intro x hx; simp [witC] at hx; rcases hx with rfl | rfl <;> rfl)
      simp only [zZ, reduceIte, Nat.reduceLT, Int.reduceToNat, Int.reduceLE, Int.reduceEq, Int.reduceLT, Nat.reduceEqDiff, Nat.reduceAdd, zG, fp, rT, rK, rW]
      exact ⟨0, by omega, rfl, rfl⟩
    · rintro n f l ⟨t, htn, rfl, rfl, hany⟩
      refine CW_seq (CW_region ?_)
      simp only [zZ, reduceIte, Nat.reduceLT, Int.reduceToNat, Int.reduceLE, Int.reduceEq, Int.reduceLT, Nat.reduceEqDiff, Nat.reduceAdd]
      refine CW_seq (CW_cond (decide ((t : Int) < (packed.length : Int))) (by rfl) (fun h => CW_skip ?_) (fun h => CW_exit ?_))
      · simp only [zZ, reduceIte, Nat.reduceLT, Int.reduceToNat, Int.reduceLE, Int.reduceEq, Int.reduceLT, Nat.reduceEqDiff, Nat.reduceAdd]
        have htl : t < packed.length := by have := of_decide_eq_true h; omega
        have h0 : (0 : Int) ≤ (t : Int) := by omega
        have h1 : (t : Int) < (packed.length : Int) := by omega
        obtain ⟨g, ro, hpa, hgp⟩ := hp.at (by omega)
        have hg : ∀ l, (ext m l).get g = some (.cells ro 8 (packed.flatMap Arch.cells)) := fun l => ext_get_old l hgp
        have sg : ∀ keep, sig m.size keep g = some g := fun keep => sig_old keep (Mem.get_lt hgp)
        obtain ⟨A, hA⟩ : ∃ A, packed[t]? = some A := ⟨_, List.getElem?_eq_getElem htl⟩
        have hrow := rowIn_at (n := 8) (fun a _ => Arch.len a) hA ro 8
        have hAw := hpw A (List.mem_of_getElem? hA)
        have hput := fun (M : Mem) (b : Nat) => putIn_whole (n := 8) M b (s := aStride Tryz.prog 32) (vs := (archC A.h A.sl).toList) (cs := [.int .i64 0, .string ⟨#[]⟩, .int .i64 0, .int .i64 0, .int .i64 0, .string ⟨#[]⟩, .string ⟨#[]⟩, .slice none 0 0]) rfl rfl hAw.one
        subst hpa
        refine CW_seq (CW_block (CW_seq (CW_region ?_)))
        simp only [zZ, reduceIte, Nat.reduceLT, Int.reduceToNat, Int.reduceLE, Int.reduceEq, Int.reduceLT, Nat.reduceEqDiff, Nat.reduceAdd, zB1, h0, h1, and_self, hg, hrow, alloc_arch, hput]
        refine CW_seq (CW_region ?_)
        have w8 : ∀ s, rowIn 8 0 (some (.cells false s (archC A.h A.sl).toList)) = some (.agg (archC A.h A.sl)) := fun s => rowIn_whole rfl
        simp only [zZ, reduceIte, Nat.reduceLT, Int.reduceToNat, Int.reduceLE, Int.reduceEq, Int.reduceLT, Nat.reduceEqDiff, Nat.reduceAdd, zB1, w8, wK]
        refine ⟨by kernel_rfl, _, same_at _ A.h kept.h A.sl kept.sl A.bs kept.bs (hAw.1.grow (Grows.ext m _)) (hkw.1.grow (Grows.ext m _)) (by have := hAw.2.1; omega), ?_⟩
        rintro _ _ ⟨rfl, rfl⟩
        simp only [zZ, reduceIte, Nat.reduceLT, Int.reduceToNat, Int.reduceLE, Int.reduceEq, Int.reduceLT, Nat.reduceEqDiff, Nat.reduceAdd]
        rw [← hsame']
        refine CW_cond (same A) (by rfl) (fun hc => CW_seq (CW_region ?_)) (fun hc => CW_skip ?_)
        · have hput3 := fun (M : Mem) (b : Nat) => putIn_whole (n := 3) M b (s := s3) (vs := (witC (0, ⟨#[]⟩, ⟨#[]⟩)).toList) (cs := (witC (0, ⟨#[]⟩, ⟨#[]⟩)).toList) rfl rfl rfl
          have bw : aBuild Tryz.prog 36 [] = some (.agg (witC (0, ⟨#[]⟩, ⟨#[]⟩))) := by kernel_rfl
          simp only [zZ, reduceIte, Nat.reduceLT, Int.reduceToNat, Int.reduceLE, Int.reduceEq, Int.reduceLT, Nat.reduceEqDiff, Nat.reduceAdd, zB1, vBuild, bw, hput3]
          refine CW_ret ?_
          have ww : ∀ s, rowIn 3 0 (some (.cells false s (witC (0, ⟨#[]⟩, ⟨#[]⟩)).toList)) = some (.agg (witC (0, ⟨#[]⟩, ⟨#[]⟩))) := fun s => rowIn_whole rfl
          simp only [zZ, reduceIte, Nat.reduceLT, Int.reduceToNat, Int.reduceLE, Int.reduceEq, Int.reduceLT, Nat.reduceEqDiff, Nat.reduceAdd, zB1, bEnd, sAnswer, sAnswer.sRes, aLoad_g, ww]
          refine told _ _ ?_
          rw [hR', if_pos]
          exact List.any_eq_true.2 ⟨A, List.mem_of_getElem? hA, hc⟩
        · simp only [zZ, reduceIte, Nat.reduceLT, Int.reduceToNat, Int.reduceLE, Int.reduceEq, Int.reduceLT, Nat.reduceEqDiff, Nat.reduceAdd]
          refine CW_region ?_
          have xi : IntKind.i64.wrap ((t : Int) + 1) = ((t + 1 : Nat) : Int) := by rw [wr (by omega) (by omega)]; omega
          simp only [zZ, reduceIte, Nat.reduceLT, Int.reduceToNat, Int.reduceLE, Int.reduceEq, Int.reduceLT, Nat.reduceEqDiff, Nat.reduceAdd, xi]
          refine ⟨_, rfl, [0, 1, 2], [1, 3, 5, 6, 18, 19, 20], rfl, ?_⟩
          have rW := renL_flat (σ := sig m.size [0, 1, 2]) (k := 4) (xs := (witC (0, ⟨#[]⟩, ⟨#[]⟩)).toList) (by intro x hx; simp [witC] at hx; rcases hx with rfl | rfl <;> rfl)
          simp only [zZ, reduceIte, Nat.reduceLT, Int.reduceToNat, Int.reduceLE, Int.reduceEq, Int.reduceLT, Nat.reduceEqDiff, Nat.reduceAdd, zG, sg, rT, rK, rW]
          exact ⟨n - 1, ⟨t + 1, by omega, rfl, by rw [List.take_add_one, hA, List.any_append, hany]; simp [hc]⟩, by omega⟩
      · simp only [zZ, reduceIte, Nat.reduceLT, Int.reduceToNat, Int.reduceLE, Int.reduceEq, Int.reduceLT, Nat.reduceEqDiff, Nat.reduceAdd]
        have htl : t = packed.length := by have := of_decide_eq_false h; omega
        subst htl
        rw [List.take_length] at hany
        refine ⟨_, rfl, [0, 1, 2], [1, 3, 5, 6], rfl, ?_⟩
        have rW := renL_flat (σ := sig m.size [0, 1, 2]) (k := 4) (xs := (witC (0, ⟨#[]⟩, ⟨#[]⟩)).toList) (by intro x hx; simp [witC] at hx; rcases hx with rfl | rfl <;> rfl)
        simp only [zZ, reduceIte, Nat.reduceLT, Int.reduceToNat, Int.reduceLE, Int.reduceEq, Int.reduceLT, Nat.reduceEqDiff, Nat.reduceAdd, zG, fp, rT, rK, rW]
        exact hany
  · rintro f l ⟨rfl, rfl, hany⟩
    have rW := fun keep => renL_flat (σ := sig m.size keep) (k := 4) (xs := (witC (0, ⟨#[]⟩, ⟨#[]⟩)).toList) (by intro x hx; simp [witC] at hx; rcases hx with rfl | rfl <;> rfl)
    have tc0 : TC[0]? = some (.slice a1 tagged.length k1) := by rw [hTC]; rfl
    have tc1 : TC[1]? = some (.slice a2 inj.length k2) := by rw [hTC]; rfl
    have hk7 : ∀ s, rowIn 7 0 (some (.cells false s KC)) = some kept.h.val := fun s => by rw [hKC]; rfl
    have hil : inj.length ≤ 140737488351232 := htr.il
    refine BW_mid hc (fun f l => f = [(1, .slice pa packed.length pk), (5, .pointer (some ⟨m.size + 1, 0, none⟩)), (6, .pointer (some ⟨m.size + 2, 0, none⟩))] ∧
      l = [some (some (.cells false s1 TC)), some (some (.cells false s2 KC)), some (some (.cells false s3 (witC (0, ⟨#[]⟩, ⟨#[]⟩)).toList))] ∧ hasHead tagged kept.h = true) ?_ ?_
    · refine CW_seq (CW_region ?_)
      simp only [zZ, reduceIte, Nat.reduceLT, Int.reduceToNat, Int.reduceLE, Int.reduceEq, Int.reduceLT, Nat.reduceEqDiff, Nat.reduceAdd, zB1, faT0, faA0, cellIn, tc0, hk7]
      refine ⟨by kernel_rfl, _, hashead_at _ _ tagged kept.h (htr.tag.grow (Grows.ext m _)) htr.wf (by have := htr.tl; omega), ?_⟩
      rintro _ _ ⟨rfl, rfl⟩
      simp only [zZ, reduceIte, Nat.reduceLT, Int.reduceToNat, Int.reduceLE, Int.reduceEq, Int.reduceLT, Nat.reduceEqDiff, Nat.reduceAdd]
      refine CW_cond (!hasHead tagged kept.h) (by rfl) (fun hc1 => ?_) (fun hc1 => CW_skip ?_)
      · have hno : hasHead tagged kept.h = false := by simpa using hc1
        have hR2 : R = match findOffer inj kept.h with | some s => (1, s, ⟨#[]⟩) | none => (0, ⟨#[]⟩, ⟨#[]⟩) := by rw [hR', if_neg (by rw [hany]; simp), if_pos hno]
        refine CW_seq (CW_seq (CW_region ?_))
        simp only [zZ, reduceIte, Nat.reduceLT, Int.reduceToNat, Int.reduceLE, Int.reduceEq, Int.reduceLT, Nat.reduceEqDiff, Nat.reduceAdd, zB1, faT1, tc1]
        refine CW_block (BW_loop hc (fun n f l => ∃ t : Nat, t + n = inj.length ∧ f = [(5, .pointer (some ⟨m.size + 1, 0, none⟩)), (6, .pointer (some ⟨m.size + 2, 0, none⟩)), (36, .slice a2 inj.length k2), (37, .int .i64 (inj.length : Int)), (38, .int .i64 (t : Int))] ∧
          l = [some (some (.cells false s1 TC)), some (some (.cells false s2 KC)), some (some (.cells false s3 (witC (0, ⟨#[]⟩, ⟨#[]⟩)).toList))] ∧ findOffer (inj.drop t) kept.h = findOffer inj kept.h) inj.length ?_ ?_)
        · refine ⟨_, rfl, [0, 1, 2], [5, 6, 36, 37, 38], rfl, ?_⟩
          simp only [zZ, reduceIte, Nat.reduceLT, Int.reduceToNat, Int.reduceLE, Int.reduceEq, Int.reduceLT, Nat.reduceEqDiff, Nat.reduceAdd, zG, fi, rT, rK, rW]
          exact ⟨0, by omega, rfl, rfl⟩
        · rintro n f l ⟨t, htn, rfl, rfl, hfind⟩
          refine CW_seq (CW_region ?_)
          simp only [zZ, reduceIte, Nat.reduceLT, Int.reduceToNat, Int.reduceLE, Int.reduceEq, Int.reduceLT, Nat.reduceEqDiff, Nat.reduceAdd]
          refine CW_seq (CW_cond (decide ((t : Int) < (inj.length : Int))) (by rfl) (fun h => CW_skip ?_) (fun h => CW_exit ?_))
          · simp only [zZ, reduceIte, Nat.reduceLT, Int.reduceToNat, Int.reduceLE, Int.reduceEq, Int.reduceLT, Nat.reduceEqDiff, Nat.reduceAdd]
            have htl : t < inj.length := by have := of_decide_eq_true h; omega
            have h0 : (0 : Int) ≤ (t : Int) := by omega
            have h1 : (t : Int) < (inj.length : Int) := by omega
            obtain ⟨g, ro, hpa, hgp⟩ := htr.injr.at (by omega)
            have hg : ∀ l, (ext m l).get g = some (.cells ro 1 (inj.map .string)) := fun l => ext_get_old l hgp
            have sg : ∀ keep, sig m.size keep g = some g := fun keep => sig_old keep (Mem.get_lt hgp)
            obtain ⟨S, hS⟩ : ∃ S, inj[t]? = some S := ⟨_, List.getElem?_eq_getElem htl⟩
            have hS' : (inj.map Value.string)[t]? = some (.string S) := by rw [List.getElem?_map, hS]; rfl
            have hdrop : inj.drop t = S :: inj.drop (t + 1) := by
              rw [List.drop_eq_getElem_cons htl]
              congr 1
              exact Option.some.inj ((List.getElem?_eq_getElem htl).symm.trans hS)
            subst hpa
            refine BW_mid hc (fun f l => f = [(5, .pointer (some ⟨m.size + 1, 0, none⟩)), (6, .pointer (some ⟨m.size + 2, 0, none⟩)), (36, .slice (some ⟨g, 0, none⟩) inj.length k2), (37, .int .i64 (inj.length : Int)), (38, .int .i64 (t : Int))] ∧
              l = [some (some (.cells false s1 TC)), some (some (.cells false s2 KC)), some (some (.cells false s3 (witC (0, ⟨#[]⟩, ⟨#[]⟩)).toList))] ∧ offeredH S ≠ some kept.h) (CW_block (CW_seq (CW_region ?_))) ?_
            rotate_left
            · rintro f l ⟨rfl, rfl, hne⟩
              refine CW_region ?_
              have xi : IntKind.i64.wrap ((t : Int) + 1) = ((t + 1 : Nat) : Int) := by rw [wr (by omega) (by omega)]; omega
              simp only [zZ, reduceIte, Nat.reduceLT, Int.reduceToNat, Int.reduceLE, Int.reduceEq, Int.reduceLT, Nat.reduceEqDiff, Nat.reduceAdd, xi]
              refine ⟨_, rfl, [0, 1, 2], [5, 6, 36, 37, 38], rfl, ?_⟩
              simp only [zZ, reduceIte, Nat.reduceLT, Int.reduceToNat, Int.reduceLE, Int.reduceEq, Int.reduceLT, Nat.reduceEqDiff, Nat.reduceAdd, zG, sg, rT, rK, rW]
              rw [hdrop, findOffer, if_neg hne] at hfind
              exact ⟨n - 1, ⟨t + 1, by omega, rfl, hfind⟩, by omega⟩
            simp only [zZ, reduceIte, Nat.reduceLT, Int.reduceToNat, Int.reduceLE, Int.reduceEq, Int.reduceLT, Nat.reduceEqDiff, Nat.reduceAdd, zB1, h0, h1, and_self, hg, hS']
            refine CW_seq (CW_region ?_)
            simp only [zZ, reduceIte, Nat.reduceLT, Int.reduceToNat, Int.reduceLE, Int.reduceEq, Int.reduceLT, Nat.reduceEqDiff, Nat.reduceAdd, zB1]
            refine ⟨by kernel_rfl, _, offered_at _ S (by have := htr.is S (List.mem_of_getElem? hS); rw [hrp] at this; omega), ?_⟩
            rintro _ _ ⟨rfl, rfl⟩
            cases ho : offeredH S with
            | none =>
              have hput := fun (M : Mem) (b : Nat) => putIn_whole (n := 7) M b (s := aStride Tryz.prog 30) (vs := zeroH.toList) (cs := [.int .i64 0, .string ⟨#[]⟩, .int .i64 0, .int .i64 0, .int .i64 0, .string ⟨#[]⟩, .string ⟨#[]⟩]) rfl rfl rfl
              simp only [zZ, reduceIte, Nat.reduceLT, Int.reduceToNat, Int.reduceLE, Int.reduceEq, Int.reduceLT, Nat.reduceEqDiff, Nat.reduceAdd, zB1, optHead, alloc_head, hput]
              refine CW_seq (CW_region ?_)
              simp only [zZ, reduceIte, Nat.reduceLT, Int.reduceToNat, Int.reduceLE, Int.reduceEq, Int.reduceLT, Nat.reduceEqDiff, Nat.reduceAdd, zB1]
              refine CW_cond false (by rfl) (fun h => by cases h) (fun _ => CW_skip ?_)
              simp only [zZ, reduceIte, Nat.reduceLT, Int.reduceToNat, Int.reduceLE, Int.reduceEq, Int.reduceLT, Nat.reduceEqDiff, Nat.reduceAdd]
              refine ⟨_, rfl, [0, 1, 2], [5, 6, 36, 37, 38], rfl, ?_⟩
              simp only [zZ, reduceIte, Nat.reduceLT, Int.reduceToNat, Int.reduceLE, Int.reduceEq, Int.reduceLT, Nat.reduceEqDiff, Nat.reduceAdd, zG, sg, rT, rK, rW]
              simp
            | some h =>
              have hput := fun (M : Mem) (b : Nat) => putIn_whole (n := 7) M b (s := aStride Tryz.prog 30) (vs := h.val.cells.toList) (cs := [.int .i64 0, .string ⟨#[]⟩, .int .i64 0, .int .i64 0, .int .i64 0, .string ⟨#[]⟩, .string ⟨#[]⟩]) rfl rfl rfl
              simp only [zZ, reduceIte, Nat.reduceLT, Int.reduceToNat, Int.reduceLE, Int.reduceEq, Int.reduceLT, Nat.reduceEqDiff, Nat.reduceAdd, zB1, optHead, alloc_head, hput]
              refine CW_seq (CW_region ?_)
              have w7 : ∀ s, rowIn 7 0 (some (.cells false s h.val.cells.toList)) = some h.val := fun s => rowIn_whole rfl
              simp only [zZ, reduceIte, Nat.reduceLT, Int.reduceToNat, Int.reduceLE, Int.reduceEq, Int.reduceLT, Nat.reduceEqDiff, Nat.reduceAdd, zB1, faA0, w7, hk7, eqH]
              refine CW_cond (decide (h = kept.h)) (by rfl) (fun he => CW_seq (CW_region ?_)) (fun he => CW_skip ?_)
              · have he := of_decide_eq_true he
                have hput3 := fun (M : Mem) (b : Nat) => putIn_whole (n := 3) M b (s := s3) (vs := (witC (1, S, ⟨#[]⟩)).toList) (cs := (witC (0, ⟨#[]⟩, ⟨#[]⟩)).toList) rfl rfl rfl
                simp only [zZ, reduceIte, Nat.reduceLT, Int.reduceToNat, Int.reduceLE, Int.reduceEq, Int.reduceLT, Nat.reduceEqDiff, Nat.reduceAdd, zB1, bW1, hput3]
                refine CW_ret ?_
                have ww : ∀ s, rowIn 3 0 (some (.cells false s (witC (1, S, ⟨#[]⟩)).toList)) = some (.agg (witC (1, S, ⟨#[]⟩))) := fun s => rowIn_whole rfl
                simp only [zZ, reduceIte, Nat.reduceLT, Int.reduceToNat, Int.reduceLE, Int.reduceEq, Int.reduceLT, Nat.reduceEqDiff, Nat.reduceAdd, zB1, bEnd, sAnswer, sAnswer.sRes, aLoad_g, ww]
                refine told _ _ ?_
                rw [hR2, ← hfind, hdrop, findOffer, if_pos (by rw [ho, he])]
              · simp only [zZ, reduceIte, Nat.reduceLT, Int.reduceToNat, Int.reduceLE, Int.reduceEq, Int.reduceLT, Nat.reduceEqDiff, Nat.reduceAdd]
                refine ⟨_, rfl, [0, 1, 2], [5, 6, 36, 37, 38], rfl, ?_⟩
                simp only [zZ, reduceIte, Nat.reduceLT, Int.reduceToNat, Int.reduceLE, Int.reduceEq, Int.reduceLT, Nat.reduceEqDiff, Nat.reduceAdd, zG, sg, rT, rK, rW]
                have he := of_decide_eq_false he
                exact fun e => he (Option.some.inj e)
          · simp only [zZ, reduceIte, Nat.reduceLT, Int.reduceToNat, Int.reduceLE, Int.reduceEq, Int.reduceLT, Nat.reduceEqDiff, Nat.reduceAdd]
            have htl : t = inj.length := by have := of_decide_eq_false h; omega
            subst htl
            rw [List.drop_length] at hfind
            refine CW_seq (CW_region ?_)
            have hput3 := fun (M : Mem) (b : Nat) => putIn_whole (n := 3) M b (s := s3) (vs := (witC (0, ⟨#[]⟩, ⟨#[]⟩)).toList) (cs := (witC (0, ⟨#[]⟩, ⟨#[]⟩)).toList) rfl rfl rfl
            simp only [zZ, reduceIte, Nat.reduceLT, Int.reduceToNat, Int.reduceLE, Int.reduceEq, Int.reduceLT, Nat.reduceEqDiff, Nat.reduceAdd, zB1, bW0, hput3]
            refine CW_ret ?_
            have ww : ∀ s, rowIn 3 0 (some (.cells false s (witC (0, ⟨#[]⟩, ⟨#[]⟩)).toList)) = some (.agg (witC (0, ⟨#[]⟩, ⟨#[]⟩))) := fun s => rowIn_whole rfl
            simp only [zZ, reduceIte, Nat.reduceLT, Int.reduceToNat, Int.reduceLE, Int.reduceEq, Int.reduceLT, Nat.reduceEqDiff, Nat.reduceAdd, zB1, bEnd, sAnswer, sAnswer.sRes, aLoad_g, ww]
            refine told _ _ ?_
            rw [hR2, ← hfind]
            rfl
      · simp only [zZ, reduceIte, Nat.reduceLT, Int.reduceToNat, Int.reduceLE, Int.reduceEq, Int.reduceLT, Nat.reduceEqDiff, Nat.reduceAdd]
        refine ⟨_, rfl, [0, 1, 2], [1, 5, 6], rfl, ?_⟩
        simp only [zZ, reduceIte, Nat.reduceLT, Int.reduceToNat, Int.reduceLE, Int.reduceEq, Int.reduceLT, Nat.reduceEqDiff, Nat.reduceAdd, zG, fp, rT, rK, rW]
        simpa using hc1
    · rintro f l ⟨rfl, rfl, hhas⟩
      have hR3 : R = match clashV packed kept with | some (x, y) => (2, x, y) | none => (0, ⟨#[]⟩, ⟨#[]⟩) := by rw [hR', if_neg (by rw [hany]; simp), if_neg (by rw [hhas]; simp)]
      have fc : ∀ (f : AL → List (Option (Option Blk)) → Prop) (x : AL), True := fun _ _ => trivial
      refine CW_seq (CW_seq (CW_region ?_))
      simp only [zZ, reduceIte, Nat.reduceLT, Int.reduceToNat, Int.reduceLE, Int.reduceEq, Int.reduceLT, Nat.reduceEqDiff, Nat.reduceAdd, zB1]
      refine CW_block (BW_loop hc (fun n f l => ∃ t : Nat, t + n = packed.length ∧ f = [(5, .pointer (some ⟨m.size + 1, 0, none⟩)), (6, .pointer (some ⟨m.size + 2, 0, none⟩)), (58, .slice pa packed.length pk), (59, .int .i64 (packed.length : Int)), (60, .int .i64 (t : Int))] ∧
        l = [some (some (.cells false s1 TC)), some (some (.cells false s2 KC)), some (some (.cells false s3 (witC (0, ⟨#[]⟩, ⟨#[]⟩)).toList))] ∧ clashV (packed.drop t) kept = clashV packed kept) packed.length ?_ ?_)
      · refine ⟨_, rfl, [0, 1, 2], [5, 6, 58, 59, 60], rfl, ?_⟩
        simp only [zZ, reduceIte, Nat.reduceLT, Int.reduceToNat, Int.reduceLE, Int.reduceEq, Int.reduceLT, Nat.reduceEqDiff, Nat.reduceAdd, zG, fp, rT, rK, rW]
        exact ⟨0, by omega, rfl, rfl⟩
      · rintro n f l ⟨t, htn, rfl, rfl, hcl⟩
        refine CW_seq (CW_region ?_)
        simp only [zZ, reduceIte, Nat.reduceLT, Int.reduceToNat, Int.reduceLE, Int.reduceEq, Int.reduceLT, Nat.reduceEqDiff, Nat.reduceAdd]
        refine CW_seq (CW_cond (decide ((t : Int) < (packed.length : Int))) (by rfl) (fun h => CW_skip ?_) (fun h => CW_exit ?_))
        · simp only [zZ, reduceIte, Nat.reduceLT, Int.reduceToNat, Int.reduceLE, Int.reduceEq, Int.reduceLT, Nat.reduceEqDiff, Nat.reduceAdd]
          have htl : t < packed.length := by have := of_decide_eq_true h; omega
          have h0 : (0 : Int) ≤ (t : Int) := by omega
          have h1 : (t : Int) < (packed.length : Int) := by omega
          obtain ⟨g, ro, hpa, hgp⟩ := hp.at (by omega)
          have hg : ∀ l, (ext m l).get g = some (.cells ro 8 (packed.flatMap Arch.cells)) := fun l => ext_get_old l hgp
          have sg : ∀ keep, sig m.size keep g = some g := fun keep => sig_old keep (Mem.get_lt hgp)
          obtain ⟨A, hA⟩ : ∃ A, packed[t]? = some A := ⟨_, List.getElem?_eq_getElem htl⟩
          have hrow := rowIn_at (n := 8) (fun a _ => Arch.len a) hA ro 8
          have hAw := hpw A (List.mem_of_getElem? hA)
          have hdrop : packed.drop t = A :: packed.drop (t + 1) := by
            rw [List.drop_eq_getElem_cons htl]
            congr 1
            exact Option.some.inj ((List.getElem?_eq_getElem htl).symm.trans hA)
          have hput := fun (M : Mem) (b : Nat) => putIn_whole (n := 8) M b (s := aStride Tryz.prog 32) (vs := (archC A.h A.sl).toList) (cs := [.int .i64 0, .string ⟨#[]⟩, .int .i64 0, .int .i64 0, .int .i64 0, .string ⟨#[]⟩, .string ⟨#[]⟩, .slice none 0 0]) rfl rfl hAw.one
          subst hpa
          refine BW_mid hc (fun f l => f = [(5, .pointer (some ⟨m.size + 1, 0, none⟩)), (6, .pointer (some ⟨m.size + 2, 0, none⟩)), (58, .slice (some ⟨g, 0, none⟩) packed.length pk), (59, .int .i64 (packed.length : Int)), (60, .int .i64 (t : Int))] ∧
            l = [some (some (.cells false s1 TC)), some (some (.cells false s2 KC)), some (some (.cells false s3 (witC (0, ⟨#[]⟩, ⟨#[]⟩)).toList))] ∧ clashV (packed.drop (t + 1)) kept = clashV packed kept) (CW_block (CW_seq (CW_region ?_))) ?_
          rotate_left
          · rintro f l ⟨rfl, rfl, hne⟩
            refine CW_region ?_
            have xi : IntKind.i64.wrap ((t : Int) + 1) = ((t + 1 : Nat) : Int) := by rw [wr (by omega) (by omega)]; omega
            simp only [zZ, reduceIte, Nat.reduceLT, Int.reduceToNat, Int.reduceLE, Int.reduceEq, Int.reduceLT, Nat.reduceEqDiff, Nat.reduceAdd, xi]
            refine ⟨_, rfl, [0, 1, 2], [5, 6, 58, 59, 60], rfl, ?_⟩
            simp only [zZ, reduceIte, Nat.reduceLT, Int.reduceToNat, Int.reduceLE, Int.reduceEq, Int.reduceLT, Nat.reduceEqDiff, Nat.reduceAdd, zG, sg, rT, rK, rW]
            exact ⟨n - 1, ⟨t + 1, by omega, rfl, hne⟩, by omega⟩
          simp only [zZ, reduceIte, Nat.reduceLT, Int.reduceToNat, Int.reduceLE, Int.reduceEq, Int.reduceLT, Nat.reduceEqDiff, Nat.reduceAdd, zB1, h0, h1, and_self, hg, hrow, alloc_arch, hput]
          refine CW_seq (CW_seq (CW_region ?_))
          have w7 : ∀ s, rowIn 7 0 (some (.cells false s (archC A.h A.sl).toList)) = some A.h.val := fun s => rfl
          simp only [zZ, reduceIte, Nat.reduceLT, Int.reduceToNat, Int.reduceLE, Int.reduceEq, Int.reduceLT, Nat.reduceEqDiff, Nat.reduceAdd, zB1, faA0, w7, hk7, neH]
          rw [hdrop, clashV] at hcl
          refine CW_cond (!decide (A.h = kept.h)) (by rfl) (fun he => CW_exit ?_) (fun he => CW_skip ?_)
          · simp only [zZ, reduceIte, Nat.reduceLT, Int.reduceToNat, Int.reduceLE, Int.reduceEq, Int.reduceLT, Nat.reduceEqDiff, Nat.reduceAdd]
            refine ⟨_, rfl, [0, 1, 2], [5, 6, 58, 59, 60], rfl, ?_⟩
            simp only [zZ, reduceIte, Nat.reduceLT, Int.reduceToNat, Int.reduceLE, Int.reduceEq, Int.reduceLT, Nat.reduceEqDiff, Nat.reduceAdd, zG, sg, rT, rK, rW]
            rw [if_neg (by simpa using he)] at hcl
            exact hcl
          · simp only [zZ, reduceIte, Nat.reduceLT, Int.reduceToNat, Int.reduceLE, Int.reduceEq, Int.reduceLT, Nat.reduceEqDiff, Nat.reduceAdd]
            rw [if_pos (by simpa using he)] at hcl
            have k7 : KC[7]? = some kept.sl := by rw [hKC]; rfl
            have a7 : (archC A.h A.sl).toList[7]? = some A.sl := rfl
            refine CW_seq (CW_region ?_)
            simp only [zZ, reduceIte, Nat.reduceLT, Int.reduceToNat, Int.reduceLE, Int.reduceEq, Int.reduceLT, Nat.reduceEqDiff, Nat.reduceAdd, zB1, faA1, k7, a7]
            refine ⟨by kernel_rfl, _, leaves_at _ 32 A.sl kept.sl A.bs kept.bs (hAw.1.grow (Grows.ext m _)) (hkw.1.grow (Grows.ext m _)) 140737488351232 (by omega) (by have := hAw.2.1; omega) (by have := hkw.2.1; omega) hAw.2.2 hkw.2.2, ?_⟩
            rintro _ _ ⟨rfl, rfl⟩
            cases hl : leavesV 32 A.bs kept.bs with
            | none =>
              rw [hl] at hcl
              simp only [zZ, reduceIte, Nat.reduceLT, Int.reduceToNat, Int.reduceLE, Int.reduceEq, Int.reduceLT, Nat.reduceEqDiff, Nat.reduceAdd, zB1, optTexts]
              refine CW_seq (CW_region ?_)
              simp only [zZ, reduceIte, Nat.reduceLT, Int.reduceToNat, Int.reduceLE, Int.reduceEq, Int.reduceLT, Nat.reduceEqDiff, Nat.reduceAdd, zB1]
              refine CW_cond false (by rfl) (fun h => by cases h) (fun _ => CW_skip ?_)
              simp only [zZ, reduceIte, Nat.reduceLT, Int.reduceToNat, Int.reduceLE, Int.reduceEq, Int.reduceLT, Nat.reduceEqDiff, Nat.reduceAdd]
              refine ⟨_, rfl, [0, 1, 2], [5, 6, 58, 59, 60], rfl, ?_⟩
              simp only [zZ, reduceIte, Nat.reduceLT, Int.reduceToNat, Int.reduceLE, Int.reduceEq, Int.reduceLT, Nat.reduceEqDiff, Nat.reduceAdd, zG, sg, rT, rK, rW]
              exact hcl
            | some r =>
              rw [hl] at hcl
              simp only [zZ, reduceIte, Nat.reduceLT, Int.reduceToNat, Int.reduceLE, Int.reduceEq, Int.reduceLT, Nat.reduceEqDiff, Nat.reduceAdd, zB1, optTexts]
              refine CW_seq (CW_region ?_)
              simp only [zZ, reduceIte, Nat.reduceLT, Int.reduceToNat, Int.reduceLE, Int.reduceEq, Int.reduceLT, Nat.reduceEqDiff, Nat.reduceAdd, zB1]
              refine CW_cond true (by rfl) (fun _ => CW_seq (CW_region ?_)) (fun h => by cases h)
              have hput3 := fun (M : Mem) (b : Nat) => putIn_whole (n := 3) M b (s := s3) (vs := (witC (2, r.1, r.2)).toList) (cs := (witC (0, ⟨#[]⟩, ⟨#[]⟩)).toList) rfl rfl rfl
              simp only [zZ, reduceIte, Nat.reduceLT, Int.reduceToNat, Int.reduceLE, Int.reduceEq, Int.reduceLT, Nat.reduceEqDiff, Nat.reduceAdd, zB1, bW2, hput3]
              refine CW_ret ?_
              have ww : ∀ s, rowIn 3 0 (some (.cells false s (witC (2, r.1, r.2)).toList)) = some (.agg (witC (2, r.1, r.2))) := fun s => rowIn_whole rfl
              simp only [zZ, reduceIte, Nat.reduceLT, Int.reduceToNat, Int.reduceLE, Int.reduceEq, Int.reduceLT, Nat.reduceEqDiff, Nat.reduceAdd, zB1, bEnd, sAnswer, sAnswer.sRes, aLoad_g, ww]
              refine told _ _ ?_
              rw [hR3, ← hcl]
        · simp only [zZ, reduceIte, Nat.reduceLT, Int.reduceToNat, Int.reduceLE, Int.reduceEq, Int.reduceLT, Nat.reduceEqDiff, Nat.reduceAdd]
          have htl : t = packed.length := by have := of_decide_eq_false h; omega
          subst htl
          rw [List.drop_length] at hcl
          refine CW_seq (CW_region ?_)
          have hput3 := fun (M : Mem) (b : Nat) => putIn_whole (n := 3) M b (s := s3) (vs := (witC (0, ⟨#[]⟩, ⟨#[]⟩)).toList) (cs := (witC (0, ⟨#[]⟩, ⟨#[]⟩)).toList) rfl rfl rfl
          simp only [zZ, reduceIte, Nat.reduceLT, Int.reduceToNat, Int.reduceLE, Int.reduceEq, Int.reduceLT, Nat.reduceEqDiff, Nat.reduceAdd, zB1, bW0, hput3]
          refine CW_ret ?_
          have ww : ∀ s, rowIn 3 0 (some (.cells false s (witC (0, ⟨#[]⟩, ⟨#[]⟩)).toList)) = some (.agg (witC (0, ⟨#[]⟩, ⟨#[]⟩))) := fun s => rowIn_whole rfl
          simp only [zZ, reduceIte, Nat.reduceLT, Int.reduceToNat, Int.reduceLE, Int.reduceEq, Int.reduceLT, Nat.reduceEqDiff, Nat.reduceAdd, zB1, bEnd, sAnswer, sAnswer.sRes, aLoad_g, ww]
          refine told _ _ ?_
          rw [hR3, ← hcl]
          rfl
end Go.Proofs.YtpmgackgcefalaaGreat
namespace Go.Proofs.YtpmgackgcefalaaGreat
open Go.RowKit Abs
theorem ldInt (get : Nat → Option Blk) (b o : Nat) : gLoad Tryz.prog get 3 (.pointer (some ⟨b, o, none⟩)) = cellIn o (get b) := ld_cell Tryz.underlying3 rfl get b o
theorem faW0 (b o : Nat) : aFieldAddr Tryz.prog 36 (.pointer (some ⟨b, o, none⟩)) 0 = some (.pointer (some ⟨b, o, none⟩)) := by kernel_rfl
theorem faW1 (b o : Nat) : aFieldAddr Tryz.prog 36 (.pointer (some ⟨b, o, none⟩)) 1 = some (.pointer (some ⟨b, o + 1, none⟩)) := by kernel_rfl
theorem faW2 (b o : Nat) : aFieldAddr Tryz.prog 36 (.pointer (some ⟨b, o, none⟩)) 2 = some (.pointer (some ⟨b, o + 2, none⟩)) := by kernel_rfl
def TraceOk (m : Mem) (TV : Array Value) (tagged : List Header) (inj : List ByteArray) : Prop :=
  ∃ a1 k1 a2 k2 a3 n3 k3 c1 c2 fl, TV = traceC (.slice a1 tagged.length k1) (.slice a2 inj.length k2) (.int .i64 c1) (.int .i64 c2) (.slice a3 n3 k3) (.int .i64 fl) ∧ TraceIn m reachBytes (.slice a1 tagged.length k1) (.slice a2 inj.length k2) tagged inj
theorem told_flat {m : Mem} {L : List (Option (Option Blk))} {v w : Value} (hv : flat 4 v = true) (h : v = w) : ToldB m 0 v (ext m L) fun u M => u = w ∧ M = m := by
  subst h
  refine ⟨_, rfl, [], rfl, ?_⟩
  have e : ren (sig m.size []) 4 v = some v := ren_flat 4 v hv
  simp only [e, withV_some, renMs, ext_nil, and_self]
end Go.Proofs.YtpmgackgcefalaaGreat
