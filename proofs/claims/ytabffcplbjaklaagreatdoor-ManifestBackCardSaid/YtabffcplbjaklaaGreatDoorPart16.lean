/-
  The document's answer for layer 3, walked on the abstract machine: tags.
  The walk of the reference's Put.
  The walk of the law ManifestPuts.
  Headers that came in, read off the abstract memory.
-/
import Derived.Test.YtabffcplbjaklaaGreatDoorPart15
import Derived.Test.YtabffcplbjaklaaGreatDoorPart01
import Derived.Test.YtabffcplbjaklaaGreatDoorPart10
import Derived.Test.YtabffcplbjaklaaGreatDoorPart11
import Derived.Test.YtabffcplbjaklaaGreatDoorPart09
import Derived.Test.YtabffcplbjaklaaGreatDoorPart08
set_option linter.unusedSimpArgs false
set_option linter.unusedVariables false
set_option linter.unusedSectionVars false
set_option linter.unnecessarySimpa false
set_option linter.defProp false
namespace Go.Proofs.YtabffcplbjaklaaGreatDoor
open Go.RowKit Abs
theorem Abs.Spec.of_empty {P : Program} {k : FuncId} {xs : List Value} {v : Value} (hx : ∀ x ∈ xs, flat 3 x = true) (hv : flat 3 v = true) (h : Abs.Spec P k xs ⟨[]⟩ fun u _ => u = v) (m : Mem) :
    Abs.Spec P k xs m fun u m' => u = v ∧ m' = m :=
  Abs.Spec.of_below hv fun ι w ys hy hr => by rw [flats_eq hx hy]; exact Calls.of_flat_val hx hv h w hr.glob.known
theorem rsum_at (M : Mem) (s : ByteArray) (hs : s.size ≤ 140737488355200) : Abs.Spec Tryz.prog 53 [.string s] M fun u M' => u = .string (str (Sha.sum s.data.toList)) ∧ M' = M :=
  Abs.Spec.of_empty (by simp [flat]) rfl ((rsum_spec ⟨[]⟩ s hs).mono fun v m' h => h.1) M
theorem xor_byte (b c : UInt8) : Value.int .u8 (bits .xor .i64 (b.toNat : Int) (c.toNat : Int) % 256) = byteV (b ^^^ c) := by
  have hb := UInt8.toNat_lt b
  have hc := UInt8.toNat_lt c
  unfold byteV
  congr 1
  rw [i64_xor_nat _ _ (by omega) (by omega), UInt8.toNat_xor]
  have : b.toNat ^^^ c.toNat < 2 ^ 8 := Nat.xor_lt_two_pow hb hc
  omega
set_option maxRecDepth 100000 in
set_option maxHeartbeats 1000000 in
theorem rturned_spec (m : Mem) (k : ByteArray) (c : UInt8) (hk : k.size ≤ 140737488355200) :
    Abs.Spec Tryz.prog 54 [.string k, .int .i64 (c.toNat : Int)] m fun v m' => v = .string (str (Sha.pad k.data.toList c)) := by
  obtain ⟨q, hq⟩ : ∃ q, q = k.data.toList := ⟨_, rfl⟩
  have hql : q.length = k.size := by rw [hq, Array.length_toList]; rfl
  have hbs : bsize k = q.length := by rw [hq]; rfl
  obtain ⟨key, hkey⟩ : ∃ key, key = if 64 < q.length then Sha.sum q else q := ⟨_, rfl⟩
  have hkl : key.length ≤ 64 := by
    rw [hkey]; split
    · rw [Sha.sum_length]; decide
    · omega
  have hpad : Sha.pad k.data.toList c = (key ++ List.replicate (64 - key.length) 0).map (· ^^^ c) := by rw [← hq, Sha.pad, Sha.key64, ← hkey]
  rw [hpad]
  refine Abs.Spec.walk Tryz.func54 (by rfl) _ Tryz.results54 _ Tryz.ntmps54 (by simp) ?_
  refine SW_seq (SW_region ?_)
  simp only [zS, reduceIte, Nat.reduceLT, Int.reduceToNat, Int.reduceLE, Int.reduceEq, Int.reduceLT, Nat.reduceEqDiff, Nat.reduceAdd]
  refine SW_seq (SW_region ?_)
  simp only [zS, reduceIte, Nat.reduceLT, Int.reduceToNat, Int.reduceLE, Int.reduceEq, Int.reduceLT, Nat.reduceEqDiff, Nat.reduceAdd, zT, new_bytes k (by rw [bsize_data]; omega), hbs, ← hq]
  refine SW_mid [1, 5] (fun f M => ∃ v, f = [(1, .int .i64 (c.toNat : Int)), (5, v)] ∧ Sl M v (bytesV key) ∧ Grows m M ∧ (∀ g l c, v = .slice (some ⟨g, 0, none⟩) l c → m.size ≤ g)) ?_ ?_
  · refine SW_seq (SW_region ?_)
    simp only [zS, reduceIte, Nat.reduceLT, Int.reduceToNat, Int.reduceLE, Int.reduceEq, Int.reduceLT, Nat.reduceEqDiff, Nat.reduceAdd, zT, hbs]
    refine SW_cond (decide ((q.length : Int) > 64)) (by rfl) (fun hc => SW_region ?_) (fun hc => SW_skip ?_)
    · simp only [zS, reduceIte, Nat.reduceLT, Int.reduceToNat, Int.reduceLE, Int.reduceEq, Int.reduceLT, Nat.reduceEqDiff, Nat.reduceAdd, zT]
      refine ⟨by kernel_rfl, _, rsum_at _ k hk, ?_⟩
      rintro _ M1 ⟨rfl, hM⟩
      rw [hM]
      clear hM
      have hgt : 64 < q.length := by have := of_decide_eq_true hc; omega
      have e : key = Sha.sum q := by rw [hkey, if_pos hgt]
      simp only [zS, reduceIte, Nat.reduceLT, Int.reduceToNat, Int.reduceLE, Int.reduceEq, Int.reduceLT, Nat.reduceEqDiff, Nat.reduceAdd, zT, new_bytes_str key (by omega), bsize_str, ← hq, ← e]
      refine ⟨_, rfl, Sl.block (by simp [bytesV]) (Mem.get_push_new _ _), ((Grows.refl m).push _).push _, fun g l c e => ?_⟩
      cases e; simp
    · simp only [zS, reduceIte, Nat.reduceLT, Int.reduceToNat, Int.reduceLE, Int.reduceEq, Int.reduceLT, Nat.reduceEqDiff, Nat.reduceAdd]
      have hle : ¬ 64 < q.length := by have := of_decide_eq_false hc; omega
      have e : key = q := by rw [hkey, if_neg hle]
      rw [e]
      refine ⟨_, rfl, Sl.block (by simp [bytesV]) (Mem.get_push_new _ _), (Grows.refl m).push _, fun g l c e => ?_⟩
      cases e; simp
  · rintro f M ⟨v, rfl, hv, hgr, hnew⟩
    refine SW_seq (SW_block (SW_loopK [1, 5] (fun n f M => ∃ (j : Nat) (v : Value), key.length + j + n = 64 ∧ f = [(1, .int .i64 (c.toNat : Int)), (5, v)] ∧ Sl M v (bytesV (key ++ List.replicate j 0)) ∧ Grows m M ∧ (∀ g l c, v = .slice (some ⟨g, 0, none⟩) l c → m.size ≤ g)) (64 - key.length) ?_ ?_))
    · simp only [zS, reduceIte, Nat.reduceLT, Int.reduceToNat, Int.reduceLE, Int.reduceEq, Int.reduceLT, Nat.reduceEqDiff, Nat.reduceAdd]
      exact ⟨0, _, by omega, rfl, by simpa using hv, hgr, hnew⟩
    · clear hv hgr hnew
      rintro n f M ⟨j, v, hj, rfl, hv, hgr, hnew⟩
      have hbl : (bytesV (key ++ List.replicate j 0)).length = key.length + j := by simp [bytesV]
      have hv0 := hv
      rcases hv with ⟨rfl, h0⟩ | ⟨g, hvg, hg⟩
      · have := congrArg List.length h0
        rw [hbl] at this
        have hj0 : key.length + j = 0 := by simpa using this
        refine SW_seq (SW_seq (SW_region ?_))
        simp only [zS, reduceIte, Nat.reduceLT, Int.reduceToNat, Int.reduceLE, Int.reduceEq, Int.reduceLT, Nat.reduceEqDiff, Nat.reduceAdd, zT]
        obtain ⟨s', m2, happ, hs', hgr', hnew'⟩ := hv0.app_u8 hgr hnew (byteV 0) (by rw [hbl]; omega)
        have e3 : bytesV (key ++ List.replicate j 0) ++ [byteV 0] = bytesV (key ++ List.replicate (j + 1) 0) := by simp [bytesV, List.replicate_succ']
        rw [e3] at hs'
        replace happ : aAppend Tryz.prog (M.push (.cells false 1 [.int .u8 0])) 44 44 (.slice none 0 0) (.slice (some ⟨M.size, 0, none⟩) 1 1) = some (s', m2) := happ
        refine SW_cond (decide (((0 : Nat) : Int) < 64)) (by rfl) (fun hc => SW_skip ?_) (fun hc => absurd hc (by decide))
        simp only [zS, reduceIte, Nat.reduceLT, Int.reduceToNat, Int.reduceLE, Int.reduceEq, Int.reduceLT, Nat.reduceEqDiff, Nat.reduceAdd]
        refine SW_block (SW_region ?_)
        simp only [zS, reduceIte, Nat.reduceLT, Int.reduceToNat, Int.reduceLE, Int.reduceEq, Int.reduceLT, Nat.reduceEqDiff, Nat.reduceAdd, zT, happ]
        exact ⟨n - 1, ⟨j + 1, s', by omega, rfl, hs', hgr', hnew'⟩, by omega⟩
      · rw [hbl] at hvg
        subst hvg
        refine SW_seq (SW_seq (SW_region ?_))
        simp only [zS, reduceIte, Nat.reduceLT, Int.reduceToNat, Int.reduceLE, Int.reduceEq, Int.reduceLT, Nat.reduceEqDiff, Nat.reduceAdd, zT]
        refine SW_cond (decide (((key.length + j : Nat) : Int) < 64)) (by rfl) (fun hc => SW_skip ?_) (fun hc => SW_exit ?_)
        · simp only [zS, reduceIte, Nat.reduceLT, Int.reduceToNat, Int.reduceLE, Int.reduceEq, Int.reduceLT, Nat.reduceEqDiff, Nat.reduceAdd]
          have hlt := of_decide_eq_true hc
          obtain ⟨s', m2, happ, hs', hgr', hnew'⟩ := hv0.app_u8 hgr hnew (byteV 0) (by rw [hbl]; omega)
          have e3 : bytesV (key ++ List.replicate j 0) ++ [byteV 0] = bytesV (key ++ List.replicate (j + 1) 0) := by simp [bytesV, List.replicate_succ']
          rw [e3] at hs'
          replace happ : aAppend Tryz.prog (M.push (.cells false 1 [.int .u8 0])) 44 44 (.slice (some ⟨g, 0, none⟩) (key.length + j) (key.length + j)) (.slice (some ⟨M.size, 0, none⟩) 1 1) = some (s', m2) := happ
          refine SW_block (SW_region ?_)
          simp only [zS, reduceIte, Nat.reduceLT, Int.reduceToNat, Int.reduceLE, Int.reduceEq, Int.reduceLT, Nat.reduceEqDiff, Nat.reduceAdd, zT, happ]
          exact ⟨n - 1, ⟨j + 1, s', by omega, rfl, hs', hgr', hnew'⟩, by omega⟩
        · simp only [zS, reduceIte, Nat.reduceLT, Int.reduceToNat, Int.reduceLE, Int.reduceEq, Int.reduceLT, Nat.reduceEqDiff, Nat.reduceAdd]
          have hje : j = 64 - key.length := by have := of_decide_eq_false hc; omega
          obtain ⟨p, hp⟩ : ∃ p, p = key ++ List.replicate j 0 := ⟨_, rfl⟩
          have hpl : p.length = 64 := by rw [hp, List.length_append, List.length_replicate]; omega
          rw [← hp] at hg
          rw [← hje, ← hp, show key.length + j = 64 by omega]
          refine SW_seq (SW_seq (SW_region ?_))
          simp only [zS, reduceIte, Nat.reduceLT, Int.reduceToNat, Int.reduceLE, Int.reduceEq, Int.reduceLT, Nat.reduceEqDiff, Nat.reduceAdd]
          refine SW_block (SW_loopK [1, 5, 6] (fun n f M => ∃ t : Nat, t + n = 64 ∧ f = [(1, .int .i64 (c.toNat : Int)), (5, .slice (some ⟨g, 0, none⟩) 64 64), (6, .int .i64 (t : Int))] ∧ M.get g = some (.cells false 1 (bytesV ((p.map (· ^^^ c)).take t ++ p.drop t)))) 64 ?_ ?_)
          · simp only [zS, reduceIte, Nat.reduceLT, Int.reduceToNat, Int.reduceLE, Int.reduceEq, Int.reduceLT, Nat.reduceEqDiff, Nat.reduceAdd]
            exact ⟨0, rfl, rfl, by simpa using hg⟩
          · clear hg hv0 hgr hnew
            rintro n f M ⟨t, ht, rfl, hg⟩
            refine SW_seq (SW_seq (SW_region ?_))
            simp only [zS, reduceIte, Nat.reduceLT, Int.reduceToNat, Int.reduceLE, Int.reduceEq, Int.reduceLT, Nat.reduceEqDiff, Nat.reduceAdd, zT]
            refine SW_cond (decide ((t : Int) < 64)) (by rfl) (fun hc => SW_skip ?_) (fun hc => SW_exit ?_)
            · simp only [zS, reduceIte, Nat.reduceLT, Int.reduceToNat, Int.reduceLE, Int.reduceEq, Int.reduceLT, Nat.reduceEqDiff, Nat.reduceAdd]
              have ht64 : t < 64 := by have := of_decide_eq_true hc; omega
              have xi : IntKind.i64.wrap ((t : Int) + 1) = ((t + 1 : Nat) : Int) := by rw [wr (by omega) (by omega)]; omega
              obtain ⟨b, hb⟩ : ∃ b, p[t]? = some b := ⟨p[t]'(by omega), List.getElem?_eq_getElem (by omega)⟩
              have hbl := UInt8.toNat_lt b
              have hrd : (bytesV ((p.map (· ^^^ c)).take t ++ p.drop t))[t]? = some (.int .u8 (b.toNat : Int)) := by
                rw [bytesV, List.getElem?_map, List.getElem?_append_right (by simp; omega), List.getElem?_drop, show t + (t - ((p.map (· ^^^ c)).take t).length) = t by simp; omega, hb]
                rfl
              have xb : IntKind.i64.wrap (b.toNat : Int) = (b.toNat : Int) := wr (by omega) (by omega)
              have hstore := store_u8 hg (i := t) (by simp [bytesV]; omega) (bits .xor .i64 (b.toNat : Int) (c.toNat : Int) % 256)
              have hset : (bytesV ((p.map (· ^^^ c)).take t ++ p.drop t)).set t (.int .u8 (bits .xor .i64 (b.toNat : Int) (c.toNat : Int) % 256)) = bytesV ((p.map (· ^^^ c)).take (t + 1) ++ p.drop (t + 1)) := by
                rw [xor_byte]
                unfold bytesV
                rw [← List.map_set, List.set_append_right _ _ (by simp; omega), show t - ((p.map (· ^^^ c)).take t).length = 0 by simp; omega, List.take_add_one, List.getElem?_map, hb]
                have : p.drop t = b :: p.drop (t + 1) := by
                  have h1 := List.drop_eq_getElem_cons (l := p) (i := t) (by omega)
                  rw [h1]
                  have h2 := List.getElem?_eq_getElem (l := p) (i := t) (by omega)
                  rw [hb] at h2
                  rw [Option.some.inj h2]
                rw [this]
                simp
              rw [hset] at hstore
              refine SW_seq (SW_block (SW_region ?_))
              simp only [zS, reduceIte, Nat.reduceLT, Int.reduceToNat, Int.reduceLE, Int.reduceEq, Int.reduceLT, Nat.reduceEqDiff, Nat.reduceAdd, zT, hg, hrd, xb, wrap_u8, Int.toNat_natCast, hstore]
              refine ⟨by omega, by omega, ?_⟩
              refine SW_region ?_
              simp only [zS, reduceIte, Nat.reduceLT, Int.reduceToNat, Int.reduceLE, Int.reduceEq, Int.reduceLT, Nat.reduceEqDiff, Nat.reduceAdd, xi]
              exact ⟨n - 1, ⟨t + 1, by omega, rfl, Mem.get_set_same hg _⟩, by omega⟩
            · simp only [zS, reduceIte, Nat.reduceLT, Int.reduceToNat, Int.reduceLE, Int.reduceEq, Int.reduceLT, Nat.reduceEqDiff, Nat.reduceAdd]
              have ht64 : t = 64 := by have := of_decide_eq_false hc; omega
              subst ht64
              have e : (p.map (· ^^^ c)).take 64 ++ p.drop 64 = p.map (· ^^^ c) := by
                rw [List.take_of_length_le (by simp; omega), List.drop_of_length_le (by omega), List.append_nil]
              rw [e] at hg
              refine SW_seq (SW_region ?_)
              simp only [zS, reduceIte, Nat.reduceLT, Int.reduceToNat, Int.reduceLE, Int.reduceEq, Int.reduceLT, Nat.reduceEqDiff, Nat.reduceAdd, zT, to_str (n := 64) hg (by simp; omega)]
              refine SW_ret ?_
              simp only [zS, reduceIte, Nat.reduceLT, Int.reduceToNat, Int.reduceLE, Int.reduceEq, Int.reduceLT, Nat.reduceEqDiff, Nat.reduceAdd, sAnswer, sAnswer.sRes]
theorem rturned_at (M : Mem) (k : ByteArray) (c : UInt8) (hk : k.size ≤ 140737488355200) : Abs.Spec Tryz.prog 54 [.string k, .int .i64 (c.toNat : Int)] M fun u M' => u = .string (str (Sha.pad k.data.toList c)) ∧ M' = M :=
  Abs.Spec.of_empty (by intro x hx; simp at hx; rcases hx with rfl | rfl <;> rfl) rfl (rturned_spec ⟨[]⟩ k c hk) M
theorem str_small (l : List UInt8) (h : l.length ≤ 140737488355200) : (str l).size ≤ 140737488355200 := by rw [str_size]; exact h
theorem pad_len (k : List UInt8) (c : UInt8) : (Sha.pad k c).length = 64 := by rw [Sha.pad, List.length_map, Sha.key64_length]
theorem tag_len (k m : List UInt8) : (Sha.tag k m).length = 32 := by rw [Sha.tag, Sha.sum_length]
set_option maxRecDepth 100000 in
theorem rtag_spec (m : Mem) (k s : ByteArray) (hk : k.size ≤ 140737488355000) (hs : s.size ≤ 140737488355000) :
    Abs.Spec Tryz.prog 25 [.string k, .string s] m fun v _ => v = .string (str (Sha.tag k.data.toList s.data.toList)) := by
  have hsl : s.data.toList.length = s.size := by rw [Array.length_toList]; rfl
  have p1 := pad_len k.data.toList 0x5c
  have p2 := pad_len k.data.toList 0x36
  have p3 := Sha.sum_length (Sha.pad k.data.toList 0x36 ++ s.data.toList)
  refine Abs.Spec.walk Tryz.func25 (by rfl) _ Tryz.results25 _ Tryz.ntmps25 (by simp) ?_
  refine SW_seq (SW_region ?_)
  simp only [zS, reduceIte, Nat.reduceLT, Int.reduceToNat, Int.reduceLE, Int.reduceEq, Int.reduceLT, Nat.reduceEqDiff, Nat.reduceAdd]
  refine SW_seq (SW_region ?_)
  simp only [zS, reduceIte, Nat.reduceLT, Int.reduceToNat, Int.reduceLE, Int.reduceEq, Int.reduceLT, Nat.reduceEqDiff, Nat.reduceAdd]
  refine ⟨by kernel_rfl, _, rturned_at _ k 0x5c (by omega), ?_⟩
  rintro _ M1 ⟨rfl, _⟩
  simp only [zS, reduceIte, Nat.reduceLT, Int.reduceToNat, Int.reduceLE, Int.reduceEq, Int.reduceLT, Nat.reduceEqDiff, Nat.reduceAdd]
  refine ⟨by kernel_rfl, _, rturned_at _ k 0x36 (by omega), ?_⟩
  rintro _ M2 ⟨rfl, _⟩
  have hbs : bsize s = s.data.toList.length := rfl
  simp only [zS, reduceIte, Nat.reduceLT, Int.reduceToNat, Int.reduceLE, Int.reduceEq, Int.reduceLT, Nat.reduceEqDiff, Nat.reduceAdd, bsize_str, bcat_str, hbs, p2]
  refine ⟨by omega, by kernel_rfl, _, rsum_at _ _ (str_small _ (by rw [List.length_append]; omega)), ?_⟩
  rintro _ M3 ⟨rfl, _⟩
  simp only [zS, reduceIte, Nat.reduceLT, Int.reduceToNat, Int.reduceLE, Int.reduceEq, Int.reduceLT, Nat.reduceEqDiff, Nat.reduceAdd, bsize_str, bcat_str, str_list, p1, p3]
  refine ⟨by omega, by kernel_rfl, _, rsum_at _ _ (str_small _ (by rw [List.length_append]; omega)), ?_⟩
  rintro _ M4 ⟨rfl, _⟩
  simp only [zS, reduceIte, Nat.reduceLT, Int.reduceToNat, Int.reduceLE, Int.reduceEq, Int.reduceLT, Nat.reduceEqDiff, Nat.reduceAdd]
  refine SW_ret ?_
  simp only [zS, reduceIte, Nat.reduceLT, Int.reduceToNat, Int.reduceLE, Int.reduceEq, Int.reduceLT, Nat.reduceEqDiff, Nat.reduceAdd, sAnswer, sAnswer.sRes, str_list]
  rfl
theorem rtag_at (M : Mem) (k s : ByteArray) (hk : k.size ≤ 140737488355000) (hs : s.size ≤ 140737488355000) :
    Abs.Spec Tryz.prog 25 [.string k, .string s] M fun v M' => v = .string (str (Sha.tag k.data.toList s.data.toList)) ∧ M' = M :=
  Abs.Spec.of_empty (by intro x hx; simp at hx; rcases hx with rfl | rfl <;> rfl) rfl (rtag_spec ⟨[]⟩ k s hk hs) M
end Go.Proofs.YtabffcplbjaklaaGreatDoor
namespace Go.Proofs.YtabffcplbjaklaaGreatDoor
open Go.RowKit Abs Stab
set_option maxRecDepth 100000 in
set_option maxHeartbeats 4000000 in
theorem rput_spec (key : ByteArray) (hkey : key.size ≤ 1000000) (K : Nat) (M : Mem) (V : Value) (L : List Header) (h : HdrsOwn K M V L) (hl : L.length ≤ 1000) :
    Abs.Spec Tryz.prog 9 [.string key, V] M fun u M' => (∀ b x, b < M.size → M.get b = some x → M'.get b = some x) ∧ M.size ≤ M'.size ∧ PutIs key L u := by
  obtain ⟨a0, c0, hV⟩ := h.len
  subst hV
  refine Abs.Spec.walkM Tryz.func9 (by rfl) _ Tryz.results9 _ Tryz.ntmps9 (by simp) ?_
  intro hc hx k
  have zfirst : (⟨#[115, 108, 101, 100, 103, 101, 32, 109, 97, 110, 105, 102, 101, 115, 116, 32, 49, 10]⟩ : ByteArray) = str (firstW ++ [10]) := rfl
  have zc10 : (⟨#[10]⟩ : ByteArray) = str [10] := rfl
  have ztag : (⟨#[116, 97, 103, 32]⟩ : ByteArray) = str tagW := rfl
  have htw : tagW.length = 4 := rfl
  refine CW_seq (CW_region ?_)
  simp only [zZ, reduceIte, Nat.reduceLT, Int.reduceToNat, Int.reduceLE, Int.reduceEq, Int.reduceLT, Nat.reduceEqDiff, Nat.reduceAdd, zMn]
  refine CW_seq (CW_seq (CW_region ?_))
  cases q0 : decide ((L.length : Int) > 256)
  case true =>
    have l0 := of_decide_eq_true q0
    simp only [zZ, reduceIte, Nat.reduceLT, Int.reduceToNat, Int.reduceLE, Int.reduceEq, Int.reduceLT, Nat.reduceEqDiff, Nat.reduceAdd, zMn, q0]
    refine CW_cond true (by rfl) (fun _ => CW_seq (CW_region ?_)) (fun h => by cases h)
    simp only [zZ, reduceIte, Nat.reduceLT, Int.reduceToNat, Int.reduceLE, Int.reduceEq, Int.reduceLT, Nat.reduceEqDiff, Nat.reduceAdd, zMn]
    refine CW_ret ?_
    simp only [zZ, reduceIte, Nat.reduceLT, Int.reduceToNat, Int.reduceLE, Int.reduceEq, Int.reduceLT, Nat.reduceEqDiff, Nat.reduceAdd, zMn, mEnd, sAnswer, sAnswer.sRes]
    exact ⟨M, Thin.refl _, fun _ _ _ h => h, Nat.le_refl _, .inl ⟨by omega, rfl⟩⟩
  have l0 := of_decide_eq_false q0
  simp only [zZ, reduceIte, Nat.reduceLT, Int.reduceToNat, Int.reduceLE, Int.reduceEq, Int.reduceLT, Nat.reduceEqDiff, Nat.reduceAdd, zMn, q0]
  refine CW_cond false (by rfl) (fun h => by cases h) (fun _ => CW_skip ?_)
  simp only [zZ, reduceIte, Nat.reduceLT, Int.reduceToNat, Int.reduceLE, Int.reduceEq, Int.reduceLT, Nat.reduceEqDiff, Nat.reduceAdd]
  have h256 : ¬ 256 < L.length := by omega
  refine CW_seq (CW_region ?_)
  simp only [zZ, reduceIte, Nat.reduceLT, Int.reduceToNat, Int.reduceLE, Int.reduceEq, Int.reduceLT, Nat.reduceEqDiff, Nat.reduceAdd, zMn]
  refine ⟨by kernel_rfl, _, rsort_spec K M _ L h hl, ?_⟩
  rintro V1 M1 ⟨ho1, hs1, R, hst, hown⟩
  obtain ⟨a1, c1, hV1⟩ := hown.len
  subst hV1
  have hRl := hst.len
  simp only [zZ, reduceIte, Nat.reduceLT, Int.reduceToNat, Int.reduceLE, Int.reduceEq, Int.reduceLT, Nat.reduceEqDiff, Nat.reduceAdd, zMn]
  refine CW_seq (CW_region ?_)
  simp only [zZ, reduceIte, Nat.reduceLT, Int.reduceToNat, Int.reduceLE, Int.reduceEq, Int.reduceLT, Nat.reduceEqDiff, Nat.reduceAdd, zMn, zfirst]
  have at1 : ∀ (i : Nat) (x : Header), R[i]? = some x → ∃ g, a1 = some ⟨g, 0, none⟩ ∧ HdrsIn M1 g R := by
    intro i x hx
    rcases hown with ⟨h1, _⟩ | ⟨h1, g, _, h3, h4⟩
    · rw [h1] at hx; cases hx
    · cases h3; exact ⟨g, rfl, h4⟩
  have hbody : ∀ S : List Header, (∀ x ∈ S, mayH x = true) → S.length ≤ 256 → (firstW ++ [10] ++ S.flatMap lineN).length ≤ 18 + 10001 * 256 := fun S hS hl => by
    have := bodyOf_len hS
    unfold bodyOf at this
    omega
  refine MW_mid (fun f M' => ∃ T : List UInt8, f = [(0, .string key), (7, .string (str T))] ∧ M' = M1 ∧ T = bodyOf R ∧ sortErr none R = 0) ?_ ?_
  · refine CW_seq (CW_region ?_)
    simp only [zZ, reduceIte, Nat.reduceLT, Int.reduceToNat, Int.reduceLE, Int.reduceEq, Int.reduceLT, Nat.reduceEqDiff, Nat.reduceAdd, zMn]
    refine CW_block (MW_loop (fun j f M' => ∃ (i : Nat) (T : List UInt8), j = R.length - i ∧ f = [(0, .string key), (6, .slice a1 R.length c1), (7, .string (str T)), (8, .int .i64 (i : Nat))] ∧ i ≤ R.length ∧
      T = firstW ++ [10] ++ (R.take i).flatMap lineN ∧ sortErr none R = sortErr (prevOf R i) (R.drop i) ∧ (∀ x ∈ R.take i, mayH x = true) ∧ M' = M1) R.length ?_ ?_)
    · refine ⟨[0, 6, 7, 8], ?_⟩
      simp only [zZ, reduceIte, Nat.reduceLT, Int.reduceToNat, Int.reduceLE, Int.reduceEq, Int.reduceLT, Nat.reduceEqDiff, Nat.reduceAdd, keepF]
      exact ⟨M1, Thin.refl _, 0, _, rfl, rfl, by omega, by simp, rfl, by simp, rfl⟩
    · rintro j f M' ⟨i, T, rfl, rfl, hi, hT, herr, hmay, e9⟩
      replace e9 := e9.symm; subst e9
      have hTl := hbody (R.take i) hmay (by rw [List.length_take]; omega)
      rw [← hT] at hTl
      refine CW_seq (CW_seq (CW_region ?_))
      simp only [zZ, reduceIte, Nat.reduceLT, Int.reduceToNat, Int.reduceLE, Int.reduceEq, Int.reduceLT, Nat.reduceEqDiff, Nat.reduceAdd, zMn]
      refine CW_cond (decide ((i : Int) < (R.length : Int))) (by rfl) (fun h => CW_skip ?_) (fun h => CW_exit ?_)
      · have h := of_decide_eq_true h
        obtain ⟨x, hX⟩ : ∃ x, R[i]? = some x := ⟨_, List.getElem?_eq_getElem (by omega)⟩
        obtain ⟨g, rfl, hg⟩ := at1 i x hX
        have r1 := hdr_row hg hX
        unfold HdrsIn at hg
        have rx := rowIn_at (n := 7) (f := Header.cells) (fun a _ => hdr_len a) hX false 7
        have z0 : (0 : Int) ≤ (i : Int) := by omega
        have cx := hdr_cell hX (o := 0) (by decide) false 7 (.int .i64 x.id) rfl rfl
        rw [Nat.add_zero] at cx
        have hdrop : R.drop i = x :: R.drop (i + 1) := by
          obtain ⟨h1, rfl⟩ := List.getElem?_eq_some_iff.1 hX
          exact List.drop_eq_getElem_cons h1
        rw [hdrop] at herr
        simp only [zZ, reduceIte, Nat.reduceLT, Int.reduceToNat, Int.reduceLE, Int.reduceEq, Int.reduceLT, Nat.reduceEqDiff, Nat.reduceAdd]
        refine CW_seq (CW_block (CW_seq (CW_seq (CW_region ?_))))
        simp only [zZ, reduceIte, Nat.reduceLT, Int.reduceToNat, Int.reduceLE, Int.reduceEq, Int.reduceLT, Nat.reduceEqDiff, Nat.reduceAdd, zMn, z0, h, and_self, r1]
        refine ⟨by kernel_rfl, _, rmay_spec x M1, ?_⟩
        rintro _ M9 ⟨rfl, e9⟩; replace e9 := e9.symm; subst e9
        cases qm : mayH x
        · have e1 : sortErr none R = 1 := by rw [herr, sortErr_cons, if_pos qm]
          simp only [zZ, reduceIte, Nat.reduceLT, Int.reduceToNat, Int.reduceLE, Int.reduceEq, Int.reduceLT, Nat.reduceEqDiff, Nat.reduceAdd, zMn, qm]
          refine CW_cond true (by rfl) (fun _ => CW_seq (CW_region ?_)) (fun h => by cases h)
          simp only [zZ, reduceIte, Nat.reduceLT, Int.reduceToNat, Int.reduceLE, Int.reduceEq, Int.reduceLT, Nat.reduceEqDiff, Nat.reduceAdd, zMn]
          refine CW_ret ?_
          simp only [zZ, reduceIte, Nat.reduceLT, Int.reduceToNat, Int.reduceLE, Int.reduceEq, Int.reduceLT, Nat.reduceEqDiff, Nat.reduceAdd, zMn, mEnd, sAnswer, sAnswer.sRes]
          exact ⟨M1, Thin.refl _, ho1, hs1, .inr ⟨h256, R, hst, .inr ⟨by rw [e1]; decide, by rw [e1]; rfl⟩⟩⟩
        · rw [sortErr_cons, if_neg (by rw [qm]; simp)] at herr
          simp only [zZ, reduceIte, Nat.reduceLT, Int.reduceToNat, Int.reduceLE, Int.reduceEq, Int.reduceLT, Nat.reduceEqDiff, Nat.reduceAdd, zMn, qm]
          refine CW_cond false (by rfl) (fun h => by cases h) (fun _ => CW_skip ?_)
          simp only [zZ, reduceIte, Nat.reduceLT, Int.reduceToNat, Int.reduceLE, Int.reduceEq, Int.reduceLT, Nat.reduceEqDiff, Nat.reduceAdd]
          have mb := may_of qm
          have nxt : ∀ (hne : sortErr none R = sortErr (some x) (R.drop (i + 1))), sortErr none R = sortErr (prevOf R (i + 1)) (R.drop (i + 1)) := fun hne => by
            rw [hne]; unfold prevOf; rw [if_neg (by omega), Nat.add_sub_cancel, hX]
          have w9 : IntKind.i64.wrap ((i : Int) + 1) = ((i + 1 : Nat) : Int) := by rw [wri (by omega) (by omega)]; omega
          have hxl : (lineV x ++ [10]).length ≤ 10001 := lineN_len qm
          have hxl2 : (lineV x).length ≤ 10001 := by rw [List.length_append] at hxl; omega
          have hmay2 : ∀ y ∈ R.take (i + 1), mayH y = true := fun y hy => by
            rw [List.take_add_one, hX] at hy
            rcases List.mem_append.1 hy with hy | hy
            · exact hmay y hy
            · simp only [Option.toList_some, List.mem_singleton] at hy
              rw [hy]; exact qm
          have eT : T ++ lineV x ++ [10] = firstW ++ [10] ++ (R.take (i + 1)).flatMap lineN := by
            rw [hT, List.take_add_one, hX, List.flatMap_append]
            simp [lineN]
          have tail : ∀ (e3 : sortErr none R = sortErr (some x) (R.drop (i + 1))), True := fun _ => trivial
          refine CW_seq (CW_seq (CW_draw hmix 14 (by kernel_rfl) (by kernel_rfl) ?_))
          by_cases hi0 : i = 0
          · have q1 : decide ((i : Int) > 0) = false := decide_eq_false (by omega)
            have e3 : sortErr none R = sortErr (some x) (R.drop (i + 1)) := by
              rw [herr]
              unfold prevOf
              rw [if_pos hi0]
              simp
            simp only [zZ, reduceIte, Nat.reduceLT, Int.reduceToNat, Int.reduceLE, Int.reduceEq, Int.reduceLT, Nat.reduceEqDiff, Nat.reduceAdd, zMn, q1]
            refine CW_cond false (by rfl) (fun h => by cases h) (fun _ => CW_skip ?_)
            simp only [zZ, reduceIte, Nat.reduceLT, Int.reduceToNat, Int.reduceLE, Int.reduceEq, Int.reduceLT, Nat.reduceEqDiff, Nat.reduceAdd]
            refine CW_region ?_
            simp only [zZ, reduceIte, Nat.reduceLT, Int.reduceToNat, Int.reduceLE, Int.reduceEq, Int.reduceLT, Nat.reduceEqDiff, Nat.reduceAdd, zMn, z0, h, and_self, r1, zc10, cat_str, siz_str]
            refine ⟨by kernel_rfl, _, rline_spec x mb.idI mb.n mb.bytes mb.raw (by have := mb.salt; omega) (by have := mb.root; omega) (by have := mb.tag; omega) M1, ?_⟩
            rintro _ M9 ⟨rfl, e9⟩; replace e9 := e9.symm; subst e9
            simp only [zZ, reduceIte, Nat.reduceLT, Int.reduceToNat, Int.reduceLE, Int.reduceEq, Int.reduceLT, Nat.reduceEqDiff, Nat.reduceAdd, zMn, zc10, cat_str, siz_str]
            refine ⟨by first | omega | (simp only [List.length_append, List.length_cons, List.length_nil] <;> omega), by first | omega | (simp only [List.length_append, List.length_cons, List.length_nil] <;> omega), ?_⟩
            refine CW_region ?_
            simp only [zZ, reduceIte, Nat.reduceLT, Int.reduceToNat, Int.reduceLE, Int.reduceEq, Int.reduceLT, Nat.reduceEqDiff, Nat.reduceAdd, zMn, w9]
            refine ⟨[0, 6, 7, 8], ?_⟩
            simp only [zZ, reduceIte, Nat.reduceLT, Int.reduceToNat, Int.reduceLE, Int.reduceEq, Int.reduceLT, Nat.reduceEqDiff, Nat.reduceAdd, keepF]
            exact ⟨M1, Thin.refl _, R.length - (i + 1), ⟨i + 1, _, rfl, rfl, by omega, eT, nxt e3, hmay2, rfl⟩, by omega⟩
          · have q1 : decide ((i : Int) > 0) = true := decide_eq_true (by omega)
            obtain ⟨y, hY⟩ : ∃ y, R[i - 1]? = some y := ⟨_, List.getElem?_eq_getElem (by omega)⟩
            have cy := hdr_cell hY (o := 0) (by decide) false 7 (.int .i64 y.id) rfl rfl
            rw [Nat.add_zero] at cy
            have w1 : IntKind.i64.wrap ((i : Int) - 1) = ((i - 1 : Nat) : Int) := by rw [wri (by omega) (by omega)]; omega
            have z1 : (0 : Int) ≤ ((i - 1 : Nat) : Int) := by omega
            have z2 : ((i - 1 : Nat) : Int) < (R.length : Int) := by omega
            have hp : prevOf R i = some y := by unfold prevOf; rw [if_neg hi0]; exact hY
            rw [hp] at herr
            cases qd : (y.id == x.id)
            · have e3 : sortErr none R = sortErr (some x) (R.drop (i + 1)) := by
                rw [herr, if_neg]
                have := beq_eq_false_iff_ne.1 qd
                simpa using this
              simp only [zZ, reduceIte, Nat.reduceLT, Int.reduceToNat, Int.reduceLE, Int.reduceEq, Int.reduceLT, Nat.reduceEqDiff, Nat.reduceAdd, zMn, q1, w1, z1, z2, z0, h, and_self, hg, cy, cx, qd]
              refine CW_cond false (by rfl) (fun h => by cases h) (fun _ => CW_skip ?_)
              simp only [zZ, reduceIte, Nat.reduceLT, Int.reduceToNat, Int.reduceLE, Int.reduceEq, Int.reduceLT, Nat.reduceEqDiff, Nat.reduceAdd]
              refine CW_region ?_
              simp only [zZ, reduceIte, Nat.reduceLT, Int.reduceToNat, Int.reduceLE, Int.reduceEq, Int.reduceLT, Nat.reduceEqDiff, Nat.reduceAdd, zMn, z0, h, and_self, hg, rx, zc10, cat_str, siz_str]
              refine ⟨by kernel_rfl, _, rline_spec x mb.idI mb.n mb.bytes mb.raw (by have := mb.salt; omega) (by have := mb.root; omega) (by have := mb.tag; omega) M1, ?_⟩
              rintro _ M9 ⟨rfl, e9⟩; replace e9 := e9.symm; subst e9
              simp only [zZ, reduceIte, Nat.reduceLT, Int.reduceToNat, Int.reduceLE, Int.reduceEq, Int.reduceLT, Nat.reduceEqDiff, Nat.reduceAdd, zMn, zc10, cat_str, siz_str]
              refine ⟨by first | omega | (simp only [List.length_append, List.length_cons, List.length_nil] <;> omega), by first | omega | (simp only [List.length_append, List.length_cons, List.length_nil] <;> omega), ?_⟩
              refine CW_region ?_
              simp only [zZ, reduceIte, Nat.reduceLT, Int.reduceToNat, Int.reduceLE, Int.reduceEq, Int.reduceLT, Nat.reduceEqDiff, Nat.reduceAdd, zMn, w9]
              refine ⟨[0, 6, 7, 8], ?_⟩
              simp only [zZ, reduceIte, Nat.reduceLT, Int.reduceToNat, Int.reduceLE, Int.reduceEq, Int.reduceLT, Nat.reduceEqDiff, Nat.reduceAdd, keepF]
              exact ⟨M1, Thin.refl _, R.length - (i + 1), ⟨i + 1, _, rfl, rfl, by omega, eT, nxt e3, hmay2, rfl⟩, by omega⟩
            · have e3 : sortErr none R = 6 := by
                rw [herr, if_pos]
                have := beq_iff_eq.1 qd
                simpa using this
              simp only [zZ, reduceIte, Nat.reduceLT, Int.reduceToNat, Int.reduceLE, Int.reduceEq, Int.reduceLT, Nat.reduceEqDiff, Nat.reduceAdd, zMn, q1, w1, z1, z2, z0, h, and_self, hg, cy, cx, qd]
              refine CW_cond true (by rfl) (fun _ => CW_seq (CW_region ?_)) (fun h => by cases h)
              simp only [zZ, reduceIte, Nat.reduceLT, Int.reduceToNat, Int.reduceLE, Int.reduceEq, Int.reduceLT, Nat.reduceEqDiff, Nat.reduceAdd, zMn]
              refine CW_ret ?_
              simp only [zZ, reduceIte, Nat.reduceLT, Int.reduceToNat, Int.reduceLE, Int.reduceEq, Int.reduceLT, Nat.reduceEqDiff, Nat.reduceAdd, zMn, mEnd, sAnswer, sAnswer.sRes]
              exact ⟨M1, Thin.refl _, ho1, hs1, .inr ⟨h256, R, hst, .inr ⟨by rw [e3]; decide, by rw [e3]; rfl⟩⟩⟩
      · have h := of_decide_eq_false h
        refine ⟨[0, 7], ?_⟩
        simp only [zZ, reduceIte, Nat.reduceLT, Int.reduceToNat, Int.reduceLE, Int.reduceEq, Int.reduceLT, Nat.reduceEqDiff, Nat.reduceAdd, keepF]
        refine ⟨M1, Thin.refl _, T, rfl, rfl, ?_, ?_⟩
        · rw [hT, List.take_of_length_le (by omega)]; rfl
        · rw [herr, List.drop_eq_nil_of_le (by omega)]; rfl
  · rintro _ M3 ⟨T, rfl, e9, hT, herr⟩
    replace e9 := e9.symm; subst e9
    have hmay : ∀ x ∈ R, mayH x = true := sortErr_may herr
    have hTl : T.length ≤ 18 + 10001 * 256 := by have := bodyOf_len hmay; rw [hT]; omega
    obtain ⟨G, hG⟩ : ∃ G, G = Sha.tag key.data.toList T := ⟨_, rfl⟩
    have hGl : G.length = 32 := by rw [hG]; exact tag_len _ _
    have hHl := hexV_len' G
    refine CW_seq (CW_region ?_)
    simp only [zZ, reduceIte, Nat.reduceLT, Int.reduceToNat, Int.reduceLE, Int.reduceEq, Int.reduceLT, Nat.reduceEqDiff, Nat.reduceAdd, zMn, ztag, cat_str, siz_str]
    refine ⟨by first | omega | (simp only [List.length_append, List.length_cons, List.length_nil] <;> omega), ?_⟩
    refine ⟨by kernel_rfl, _, rtag_at M1 key (str T) (by omega) (by rw [str_size]; omega), ?_⟩
    rintro _ M9 ⟨rfl, e9⟩; replace e9 := e9.symm; subst e9
    have hTT : Sha.tag key.data.toList (str T).data.toList = G := hG.symm
    rw [hTT]
    simp only [zZ, reduceIte, Nat.reduceLT, Int.reduceToNat, Int.reduceLE, Int.reduceEq, Int.reduceLT, Nat.reduceEqDiff, Nat.reduceAdd, zMn]
    refine ⟨by kernel_rfl, _, rhex_spec (str G) (by rw [str_size]; omega) M1, ?_⟩
    rintro _ M9 ⟨rfl, e9⟩; replace e9 := e9.symm; subst e9
    have hGG : hexV (str G).data.toList = hexV G := rfl
    rw [hGG]
    simp only [zZ, reduceIte, Nat.reduceLT, Int.reduceToNat, Int.reduceLE, Int.reduceEq, Int.reduceLT, Nat.reduceEqDiff, Nat.reduceAdd, zMn, zc10, cat_str, siz_str]
    refine ⟨by first | omega | (simp only [List.length_append, List.length_cons, List.length_nil] <;> omega), by first | omega | (simp only [List.length_append, List.length_cons, List.length_nil] <;> omega), ?_⟩
    refine CW_ret ?_
    simp only [zZ, reduceIte, Nat.reduceLT, Int.reduceToNat, Int.reduceLE, Int.reduceEq, Int.reduceLT, Nat.reduceEqDiff, Nat.reduceAdd, zMn, mEnd, sAnswer, sAnswer.sRes]
    refine ⟨M1, Thin.refl _, ho1, hs1, .inr ⟨h256, R, hst, .inl ⟨herr, ?_⟩⟩⟩
    unfold putV
    rw [← hT, ← hG]
end Go.Proofs.YtabffcplbjaklaaGreatDoor
namespace Go.Proofs.YtabffcplbjaklaaGreatDoor
open Go.RowKit Abs Stab
theorem few_small {S : List Header} (h : FewOk S) : Small S := fun x hx => by have := h.2 x hx; exact ⟨this.2.2.2.1, this.2.2.2.2⟩
theorem PutIs.form {key : ByteArray} {L : List Header} {u : Value} (h : PutIs key L u) : ∃ (t : ByteArray) (e : Int), u = .tuple #[.string t, .int .i64 e] := by
  rcases h with ⟨_, rfl⟩ | ⟨_, R, _, ⟨_, rfl⟩ | ⟨_, rfl⟩⟩
  · exact ⟨_, _, rfl⟩
  · exact ⟨_, _, rfl⟩
  · exact ⟨_, _, rfl⟩
set_option maxRecDepth 100000 in
set_option maxHeartbeats 4000000 in
theorem man_puts (key : ByteArray) (M : Mem) (v : Value) (L : List Header) (hr : Rd M 7 v L.length (L.flatMap Header.cells)) :
    Abs.Spec Tryz.prog 3 [.string key, v] M fun u _ => u = .bool true := by
  refine Abs.Spec.walkM Tryz.func3 (by rfl) _ Tryz.results3 _ Tryz.ntmps3 (by simp) ?_
  intro hc hx k
  refine CW_seq (CW_region ?_)
  simp only [zZ, reduceIte, Nat.reduceLT, Int.reduceToNat, Int.reduceLE, Int.reduceEq, Int.reduceLT, Nat.reduceEqDiff, Nat.reduceAdd, zMn]
  refine CW_seq (CW_region ?_)
  simp only [zZ, reduceIte, Nat.reduceLT, Int.reduceToNat, Int.reduceLE, Int.reduceEq, Int.reduceLT, Nat.reduceEqDiff, Nat.reduceAdd, zMn]
  refine ⟨by kernel_rfl, _, few_spec M v L hr, ?_⟩
  rintro V M1 ⟨⟨S, hown, hok, _⟩, hold1, hs1⟩
  simp only [zZ, reduceIte, Nat.reduceLT, Int.reduceToNat, Int.reduceLE, Int.reduceEq, Int.reduceLT, Nat.reduceEqDiff, Nat.reduceAdd, zMn]
  have hbs : bsize key = key.size := rfl
  refine CW_seq (CW_seq (CW_region ?_))
  cases q0 : decide ((bsize key : Int) > 500)
  case true =>
    simp only [zZ, reduceIte, Nat.reduceLT, Int.reduceToNat, Int.reduceLE, Int.reduceEq, Int.reduceLT, Nat.reduceEqDiff, Nat.reduceAdd, zMn, q0]
    refine CW_cond true (by rfl) (fun _ => CW_seq (CW_region ?_)) (fun h => by cases h)
    simp only [zZ, reduceIte, Nat.reduceLT, Int.reduceToNat, Int.reduceLE, Int.reduceEq, Int.reduceLT, Nat.reduceEqDiff, Nat.reduceAdd, zMn]
    refine ⟨by kernel_rfl, _, awake46_spec _, ?_⟩
    rintro _ M6 rfl
    simp only [zZ, reduceIte, Nat.reduceLT, Int.reduceToNat, Int.reduceLE, Int.reduceEq, Int.reduceLT, Nat.reduceEqDiff, Nat.reduceAdd, zMn]
    refine CW_ret ?_
    simp only [zZ, reduceIte, Nat.reduceLT, Int.reduceToNat, Int.reduceLE, Int.reduceEq, Int.reduceLT, Nat.reduceEqDiff, Nat.reduceAdd, zMn, mEnd, sAnswer, sAnswer.sRes]
    exact ⟨M6, Thin.refl _⟩
  have l0 := of_decide_eq_false q0
  have hkl : key.size ≤ 1000000 := by rw [hbs] at l0; omega
  simp only [zZ, reduceIte, Nat.reduceLT, Int.reduceToNat, Int.reduceLE, Int.reduceEq, Int.reduceLT, Nat.reduceEqDiff, Nat.reduceAdd, zMn, q0]
  refine CW_cond false (by rfl) (fun h => by cases h) (fun _ => CW_skip ?_)
  simp only [zZ, reduceIte, Nat.reduceLT, Int.reduceToNat, Int.reduceLE, Int.reduceEq, Int.reduceLT, Nat.reduceEqDiff, Nat.reduceAdd]
  have hSl : S.length ≤ 1000 := by have := hok.1; omega
  refine CW_seq (CW_region ?_)
  simp only [zZ, reduceIte, Nat.reduceLT, Int.reduceToNat, Int.reduceLE, Int.reduceEq, Int.reduceLT, Nat.reduceEqDiff, Nat.reduceAdd, zMn]
  refine ⟨by kernel_rfl, _, put_spec key hkl M.size M1 V S hown hSl (few_small hok), ?_⟩
  rintro u1 M2 ⟨hold2, hs2, hp1⟩
  obtain ⟨t1, e1, rfl⟩ := hp1.form
  simp only [zZ, reduceIte, Nat.reduceLT, Int.reduceToNat, Int.reduceLE, Int.reduceEq, Int.reduceLT, Nat.reduceEqDiff, Nat.reduceAdd, zMn]
  have hown2 : HdrsOwn M.size M2 V S := by
    refine hown.same fun b x hb hx => ?_
    exact hold2 b x (hown.live hb).2 hx
  refine CW_seq (CW_region ?_)
  simp only [zZ, reduceIte, Nat.reduceLT, Int.reduceToNat, Int.reduceLE, Int.reduceEq, Int.reduceLT, Nat.reduceEqDiff, Nat.reduceAdd, zMn]
  refine ⟨by kernel_rfl, _, rput_spec key hkl M.size M2 V S hown2 hSl, ?_⟩
  rintro u2 M3 ⟨hold3, hs3, hp2⟩
  obtain rfl := hp2.unique hp1
  have bq : beqB t1 t1 = true := by rw [beqB_dec]; exact decide_eq_true rfl
  have eq1 : (e1 == e1) = true := by simp
  simp only [zZ, reduceIte, Nat.reduceLT, Int.reduceToNat, Int.reduceLE, Int.reduceEq, Int.reduceLT, Nat.reduceEqDiff, Nat.reduceAdd, zMn]
  refine CW_seq (CW_region ?_)
  simp only [zZ, reduceIte, Nat.reduceLT, Int.reduceToNat, Int.reduceLE, Int.reduceEq, Int.reduceLT, Nat.reduceEqDiff, Nat.reduceAdd, zMn, bq, eq1]
  refine ⟨by kernel_rfl, _, awake46_spec _, ?_⟩
  rintro _ M6 rfl
  simp only [zZ, reduceIte, Nat.reduceLT, Int.reduceToNat, Int.reduceLE, Int.reduceEq, Int.reduceLT, Nat.reduceEqDiff, Nat.reduceAdd, zMn]
  refine CW_ret ?_
  simp only [zZ, reduceIte, Nat.reduceLT, Int.reduceToNat, Int.reduceLE, Int.reduceEq, Int.reduceLT, Nat.reduceEqDiff, Nat.reduceAdd, zMn, mEnd, sAnswer, sAnswer.sRes]
  exact ⟨M6, Thin.refl _⟩
end Go.Proofs.YtabffcplbjaklaaGreatDoor
namespace Go.Proofs.YtabffcplbjaklaaGreatDoor
open Go.RowKit Abs
set_option maxRecDepth 100000 in
theorem rep_header {m : Mem} {B : Nat} {cs : List Value} (h : ARep Tryz.prog m B 40 cs) : ∃ x : Header, cs = x.cells ∧ ((Lit.int .i64 x.id).wf = true ∧ (Lit.int .i64 x.n).wf = true ∧ (Lit.int .i64 x.bytes).wf = true ∧ (Lit.int .i64 x.raw).wf = true) := by
  obtain ⟨hl, hf⟩ := h.inv_struct Tryz.underlying40
  rw [cellsHeader] at hl
  match cs, hl with
  | [c0, c1, c2, c3, c4, c5, c6], _ =>
  obtain ⟨a0, r0, w0⟩ := (hf 0 _ rfl).inv_int Tryz.underlying3
  obtain ⟨a1, r1, w1⟩ := (hf 1 _ rfl).inv_string Tryz.underlying9
  obtain ⟨a2, r2, w2⟩ := (hf 2 _ rfl).inv_int Tryz.underlying3
  obtain ⟨a3, r3, w3⟩ := (hf 3 _ rfl).inv_int Tryz.underlying3
  obtain ⟨a4, r4, w4⟩ := (hf 4 _ rfl).inv_int Tryz.underlying3
  obtain ⟨a5, r5, w5⟩ := (hf 5 _ rfl).inv_string Tryz.underlying9
  obtain ⟨a6, r6, w6⟩ := (hf 6 _ rfl).inv_string Tryz.underlying9
  simp [cellsInt, cellsStr] at r0 r1 r2 r3 r4 r5 r6
  exact ⟨⟨a0, a1, a2, a3, a4, a5, a6⟩, by simp [Header.cells, *], w0, w2, w3, w4⟩
set_option maxRecDepth 100000 in
theorem arg_hdrs {m : Mem} {B : Nat} {v : Value} (h : ArgOf Tryz.prog m B 22 v) :
    ∃ xs : List Header, Rd m 7 v xs.length (xs.flatMap Header.cells) ∧ (∀ x ∈ xs, (Lit.int .i64 x.id).wf = true ∧ (Lit.int .i64 x.n).wf = true ∧ (Lit.int .i64 x.bytes).wf = true ∧ (Lit.int .i64 x.raw).wf = true) ∧ xs.length ≤ B := by
  obtain ⟨v', xs, e1, h1, h2, h3⟩ := ARep.list Header.cells (fun x => (Lit.int .i64 x.id).wf = true ∧ (Lit.int .i64 x.n).wf = true ∧ (Lit.int .i64 x.bytes).wf = true ∧ (Lit.int .i64 x.raw).wf = true) Tryz.underlying22 cellsHeader (fun cs hc => rep_header hc) (arg_list Tryz.underlying22 h)
  cases e1
  exact ⟨xs, h1, h3, h2.1⟩
end Go.Proofs.YtabffcplbjaklaaGreatDoor
