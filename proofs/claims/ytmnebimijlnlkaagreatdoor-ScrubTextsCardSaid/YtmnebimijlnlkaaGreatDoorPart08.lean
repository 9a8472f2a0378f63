/-
  The walks of sha: what the sum is.
  The walks of sha: New, Sum.
  Tags, keys, trees of sums as plain functions on lists of bytes. No program here.
  The walks of mac.
  The walks of mac: tags, and their comparison.
  The walks of mac: tags held against one another.
  The walks of enc: numbers of so many bytes.
  The walk of enc.Take.
  The walks of the epoch's sector.
  The walks of kdf.
  The walks of kdf: the keys of an archive.
  Sectors of zeros: no entry, no record.
  The walk of scrub.Scan on a disk of zeros, but for its epoch.
  A new block that turns.
  The walk of scrub.Scan on a disk of zeros, but for its epoch: the whole.
  A function that is to do something behind its body.
  A function that is to do something behind its body: its walk.
  The walk of epoch.Next.
  The walk of depot.Open on a disk of zeros, but for its epoch.
-/
import Derived.Test.YtmnebimijlnlkaaGreatDoorPart07
import Derived.Lib.BufferWrite
import Derived.Test.YtmnebimijlnlkaaGreatDoorPart03
import Derived.Defers
import Derived.Test.YtmnebimijlnlkaaGreatDoorPart05
set_option linter.unusedSimpArgs false
set_option linter.unusedVariables false
set_option linter.unusedSectionVars false
set_option linter.unnecessarySimpa false
set_option linter.defProp false
namespace Go.Proofs.YtmnebimijlnlkaaGreatDoor
open Go.RowKit
def padK (m : List UInt8) (k : Nat) : List UInt8 := Sha.rest m ++ 0x80 :: List.replicate k 0
theorem padK_snoc (m : List UInt8) (k : Nat) : bytesV (padK m k) ++ [byteV 0] = bytesV (padK m (k + 1)) := by
  simp [bytesV, padK, List.replicate_succ']
theorem padK_length (m : List UInt8) (k : Nat) : (padK m k).length = m.length % 64 + 1 + k := by
  simp [padK, Sha.rest_length]; omega
theorem be8_get (N j : Nat) (hj : j < 8) : (Sha.be8 N)[j]? = some (UInt8.ofNat (N >>> (56 - 8 * j))) := by
  have : j = 0 ∨ j = 1 ∨ j = 2 ∨ j = 3 ∨ j = 4 ∨ j = 5 ∨ j = 6 ∨ j = 7 := by omega
  rcases this with rfl | rfl | rfl | rfl | rfl | rfl | rfl | rfl <;> rfl
theorem be8_byte (n j : Nat) : byteV (UInt8.ofNat ((8 * n) >>> (56 - 8 * j))) = .int .u8 ((n : Int) * 8 / 2 ^ (56 - 8 * j) % 256) := by
  unfold byteV
  congr 1
  rw [UInt8.toNat_ofNat', Nat.shiftRight_eq_div_pow, Nat.mul_comm 8 n]
  simp
theorem be8_snoc (q : List UInt8) (n j : Nat) (hj : j < 8) : bytesV (q ++ (Sha.be8 (8 * n)).take j) ++ [Value.int .u8 ((n : Int) * 8 / 2 ^ (56 - 8 * j) % 256)] = bytesV (q ++ (Sha.be8 (8 * n)).take (j + 1)) := by
  rw [← be8_byte, List.take_add_one, be8_get _ _ hj]
  simp [bytesV]
theorem w8_word (x : Sha.W8) (u : Nat) (hu : u < 8) : ∃ n : Nat, (w8c x)[u]? = some (.int .u32 n) ∧ x.bytes.take (4 * (u + 1)) = x.bytes.take (4 * u) ++ Sha.be4 n := by
  have : u = 0 ∨ u = 1 ∨ u = 2 ∨ u = 3 ∨ u = 4 ∨ u = 5 ∨ u = 6 ∨ u = 7 := by omega
  rcases this with rfl | rfl | rfl | rfl | rfl | rfl | rfl | rfl <;> exact ⟨_, rfl, rfl⟩
theorem be4_vals (n : Nat) : bytesV (Sha.be4 n) = [.int .u8 ((n : Int) / 16777216 % 256), .int .u8 ((n : Int) / 65536 % 256), .int .u8 ((n : Int) / 256 % 256), .int .u8 ((n : Int) % 256)] := by
  simp only [bytesV, Sha.be4, List.map_cons, List.map_nil, byteV, UInt8.toNat_ofNat', Nat.shiftRight_eq_div_pow]
  simp
set_option maxRecDepth 100000 in
set_option maxHeartbeats 4000000 in
theorem hsum_any (base g : Nat) (m : List UInt8) (w : World) (hm : m.length ≤ 140737488355200) (hh : HashAt base w g m) :
    Calls Tryz.prog 141 #[.pointer (some ⟨g, 0, none⟩)] w fun e w' => e = .returned (.string ⟨(Sha.sum m).toArray⟩) ∧ Below w.heap.size w w' := by
  obtain ⟨lv, hbg, hg, hown⟩ := hh
  have hlr := Sha.rest_length m
  have hfit : (Sha.blocks Sha.start m).Fit := Sha.blocks_fit m Sha.start_fit
  generalize hst : Sha.blocks Sha.start m = st at *
  obtain ⟨av, capv, hv, hel⟩ := elems_of_owned byteV hown
  subst hv
  have c8 := cell_of hg 8
  simp [hcells] at c8
  have HG := Lib.hid hg
  have HS := Lib.hid hst
  have HL := Lib.hid hlr
  have HEL : Hid (ElemsAt bytesS w av capv (Sha.rest m)) := hel
  have hlr' : (Sha.rest m).length < 64 := by omega
  clear hg hst hown hel hlr
  go_enter Tryz.func141, Tryz.ntmps141
  go_wp2_with (at_builtin; refine wpList_append_flat byteV byteV_one rfl _ _ 49 rfl w.heap.size 5 (.int .u8 0) 1 Tryz.underlying49 info_byte rfl (.slice none 0 0) 0 [] rfl (World.ownsRow_nil _ _ _ _) av _ capv (Sha.rest m) rfl rfl HEL.out (by omega) (by decide) (Nat.le_refl _) ?_)
  intro v1 w1 hown1 hgr1
  replace hown1 : w1.ownsRow w.heap.size 5 1 v1 (Sha.rest m).length (bytesV (Sha.rest m)) := by first | exact hown1 | simpa using hown1
  have hb1 : Below w.heap.size w w1 := (Below.refl _ _).grown hgr1 (Nat.le_refl _) (fun k hk => by simp [Value.ownBlock] at hk)
  have hsz1 := hb1.size
  go_wp2_with (at_builtin; refine wpList_append_elem rfl _ _ 49 rfl w.heap.size 5 (.int .u8 0) 1 1 Tryz.underlying49 info_byte rfl (by decide) _ _ _ rfl hown1 _ rfl rfl (by simp [Value.oneCell']) (by omega) (by decide) hsz1 ?_)
  intro v2 w2 hown2 hgr2
  have hb2 := below_append hb1 hown1 hgr2 hsz1 (Nat.le_refl _)
  replace hown2 : w2.ownsRow w.heap.size 5 1 v2 ((Sha.rest m).length + 1) (bytesV (padK m 0)) := by
    have e : bytesV (Sha.rest m) ++ [byteV 0x80] = bytesV (padK m 0) := by simp [bytesV, padK]
    rw [← e]; exact hown2
  clear hgr2 hgr1 hb1 hsz1 hown1
  go_wp2_with fail
  go_loopg [3] (Sha.zeros (m.length + 1)) (fun k v wr => ∃ j : Nat, j + k = Sha.zeros (m.length + 1) ∧ Below w.heap.size w wr ∧ wr.ownsRow w.heap.size 5 1 v ((padK m j).length) (bytesV (padK m j)))
  case atStart => exact ⟨0, by omega, hb2, by rw [padK_length]; rw [HL.out] at hown2; exact hown2⟩
  case round =>
    obtain ⟨j, hj, hb, hown⟩ := hrel
    have hsz := hb.size
    have hpl := padK_length m j
    have HO := Lib.hid hown
    clear hown hown2 hb2
    by_cases hz : j < Sha.zeros (m.length + 1)
    · have hne : ((((padK m j).length : Nat) : Int) % 64 == 56) = false := by
        have hz2 := hz
        unfold Sha.zeros at hz2 hj
        rw [hpl]; simp; omega
      have HPL := Lib.hid hpl
      clear hpl
      obtain ⟨ap, capp, rfl, _⟩ := elems_of_owned byteV HO.out
      have hbd : (padK m j).length < 200 := by rw [HPL.out]; unfold Sha.zeros at hz; omega
      go_wp2_with (at_builtin; refine wpList_append_elem rfl _ _ 49 rfl w.heap.size 5 (.int .u8 0) 1 1 Tryz.underlying49 info_byte rfl (by decide) _ _ _ rfl HO.out _ rfl rfl (by simp [Value.oneCell']) (by omega) (by decide) hsz ?_)
      intro v3 w3 hown3 hgr3
      have hb3 := below_append hb HO.out hgr3 hsz (Nat.le_refl _)
      have e3 : bytesV (padK m j) ++ [byteV 0] = bytesV (padK m (j + 1)) := padK_snoc m j
      have e4 : (padK m (j + 1)).length = (padK m j).length + 1 := by rw [padK_length, padK_length]; omega
      have hown4 : w3.ownsRow w.heap.size 5 1 v3 (padK m (j + 1)).length (bytesV (padK m (j + 1))) := by rw [e4, ← e3]; exact hown3
      have HO4 := Lib.hid hown4
      clear hown3 hgr3 e3 e4 hown4
      go_wp2_with fail
      go_roundg (gk - 1)
      case measure => omega
      case rel => exact ⟨j + 1, by omega, hb3, HO4.out⟩
    · have ej : j = Sha.zeros (m.length + 1) := by omega
      have hne : ((((padK m j).length : Nat) : Int) % 64 == 56) = true := by
        rw [hpl, ej]; unfold Sha.zeros; simp; omega
      have hne' : ((((padK m j).length : Nat) : Int) % 64 != 56) = false := by rw [bne, hne]; rfl
      have hbd : (padK m j).length < 200 := by rw [hpl, ej]; unfold Sha.zeros; omega
      have EJ := Lib.hid ej
      have HPL := Lib.hid hpl
      clear hpl ej hz
      generalize hQ : padK m j = q at *
      have HQ := Lib.hid hQ
      clear hQ
      obtain ⟨ap, capp, rfl, _⟩ := elems_of_owned byteV HO.out
      go_wp2_with fail
      have hN : m.length * 8 ≤ 1125899906841600 := by omega
      clear hne hne'
      go_loopg [3, 26] 8 (fun k v i wr => ∃ j : Nat, j + k = 8 ∧ i = .int .i64 j ∧ Below w.heap.size w wr ∧ wr.ownsRow w.heap.size 5 1 v (q.length + j) (bytesV (q ++ (Sha.be8 (8 * m.length)).take j)))
      case atStart => exact ⟨0, by omega, rfl, hb, by simpa using HO.out⟩
      case round =>
        clear HO hb hsz
        obtain ⟨j, hj, rfl, hb, hown⟩ := hrel
        have hsz := hb.size
        have HO := Lib.hid hown
        clear hown
        obtain ⟨ap, capp, hv, _⟩ := elems_of_owned byteV HO.out
        have hlt9 : (q ++ (Sha.be8 (8 * m.length)).take j).length = q.length + j := by simp [Sha.be8]; omega
        rw [hlt9] at hv
        clear hlt9
        subst hv
        have c9 : wr.cell? ⟨g, 9, none⟩ = some (.int .i64 m.length) := by
          rw [hb.cell (lt_of_heap HG.out), cell_of HG.out]; rfl
        by_cases hj8 : j < 8
        · go_wp2_with (at_builtin; refine wpList_append_elem rfl _ _ 49 rfl w.heap.size 5 (.int .u8 0) 1 1 Tryz.underlying49 info_byte rfl (by decide) _ _ _ rfl HO.out _ rfl rfl (by simp [Value.oneCell']) (by omega) (by decide) hsz ?_)
          intro v3 w3 hown3 hgr3
          have hb3 := below_append hb HO.out hgr3 hsz (Nat.le_refl _)
          have e3 := be8_snoc q m.length j hj8
          have hown4 : w3.ownsRow w.heap.size 5 1 v3 (q.length + (j + 1)) (bytesV (q ++ (Sha.be8 (8 * m.length)).take (j + 1))) := by rw [← e3]; exact hown3
          have HO4 := Lib.hid hown4
          clear hown3 hgr3 e3 hown4
          go_wp2_with fail
          go_roundg (gk - 1)
          case measure => omega
          case rel => exact ⟨j + 1, by omega, by go_num, hb3, HO4.out⟩
        · have ej : j = 8 := by omega
          have hall : Hid (q ++ (Sha.be8 (8 * m.length)).take j = Sha.rest m ++ Sha.tail m.length) := by
            rw [ej, ← HQ.out, EJ.out]
            simp [padK, Sha.tail, Sha.be8, Hid]
          generalize hA : q ++ (Sha.be8 (8 * m.length)).take j = all at *
          have hal : all.length = q.length + j := by rw [← hA]; simp [Sha.be8]; omega
          have HAL := Lib.hid hal
          clear hA hal ej c9
          have hgw := heap_below HG.out hb
          have c0 := cell_of hgw 0
          have c1 := cell_of hgw 1
          have c2 := cell_of hgw 2
          have c3 := cell_of hgw 3
          have c4 := cell_of hgw 4
          have c5 := cell_of hgw 5
          have c6 := cell_of hgw 6
          have c7 := cell_of hgw 7
          simp [hcells] at c0 c1 c2 c3 c4 c5 c6 c7
          clear hgw
          go_wp2_with fail
          clear c0 c1 c2 c3 c4 c5 c6 c7
          have hz64 : all.length % 64 = 0 := by
            have h9 := HPL.out
            rw [EJ.out] at h9
            unfold Sha.zeros at h9
            have := HAL.out
            omega
          obtain ⟨a5, cap5, hv5, hel5⟩ := elems_of_owned byteV HO.out
          have hgv : (wr.alloc (.cells #[.int .u32 st.a, .int .u32 st.b, .int .u32 st.c, .int .u32 st.d, .int .u32 st.e, .int .u32 st.f, .int .u32 st.g, .int .u32 st.h] 242)).heap[wr.heap.size]? = some (.cells (w8c (Sha.blocksN st all 0)) 242 (0, 0)) := heap_alloc_new _ _
          have hbv := hb.alloc hsz (.cells #[.int .u32 st.a, .int .u32 st.b, .int .u32 st.c, .int .u32 st.d, .int .u32 st.e, .int .u32 st.f, .int .u32 st.g, .int .u32 st.h] 242)
          have hev : ElemsAt bytesS (wr.alloc (.cells #[.int .u32 st.a, .int .u32 st.b, .int .u32 st.c, .int .u32 st.d, .int .u32 st.e, .int .u32 st.f, .int .u32 st.g, .int .u32 st.h] 242)) a5 cap5 all := hel5.mono ((Below.refl _ _).alloc (Nat.le_refl _) _)
          have hnb : ∀ x, a5 = some x → x.block ≠ wr.heap.size := by
            rintro x rfl
            have := (HO.out.lt x.block (by rw [hv5]; rfl)).2
            omega
          obtain ⟨gv, hgvn⟩ : ∃ gv, gv = wr.heap.size := ⟨_, rfl⟩
          have hgw : Hid (w.heap.size ≤ gv) := by rw [hgvn]; exact hsz
          rw [← hgvn] at hgv hnb hsz ⊢
          have HGV := Lib.hid hgv
          have HBV := Lib.hid hbv
          have HEV := Lib.hid hev
          have HNB := Lib.hid hnb
          have HV5 := Lib.hid hv5
          clear hgv hbv hev hnb hv5 hel5 hgvn HO hb
          generalize wr.alloc (.cells #[.int .u32 st.a, .int .u32 st.b, .int .u32 st.c, .int .u32 st.d, .int .u32 st.e, .int .u32 st.f, .int .u32 st.g, .int .u32 st.h] 242) = wq at *
          go_loopg [3] (all.length / 64) (fun k v wr => ∃ (j : Nat) (a : Option Addr) (cap : Nat), j + k = all.length / 64 ∧ v = .slice a (all.length - 64 * j) cap ∧ Below w.heap.size w wr ∧ wr.heap[gv]? = some (.cells (w8c (Sha.blocksN st all j)) 242 (0, 0)) ∧
            ElemsAt bytesS wr a cap (all.drop (64 * j)) ∧ ∀ x, a = some x → x.block ≠ gv)
          case atStart => exact ⟨0, a5, cap5, by omega, by have := HV5.out; rw [HAL.out] at this ⊢; simpa using this, HBV.out, HGV.out, by simpa using HEV.out, HNB.out⟩
          case round =>
            clear HGV HBV HEV HNB HV5
            obtain ⟨i, a, cap, hi, rfl, hb, hg, he, hnb⟩ := hrel
            have hsz2 := hb.size
            have HG2 := Lib.hid hg
            have HB2 := Lib.hid hb
            have HE2 := Lib.hid he
            have HNB2 := Lib.hid hnb
            clear hg hb he hnb
            by_cases hik : i < all.length / 64
            · have hln : (all.drop (64 * i)).length = all.length - 64 * i := by simp
              obtain ⟨b, off, ha, hbl, _⟩ := HE2.out.byte (i := 0) (by omega)
              subst ha
              have hge : (0 : Int) < ((all.length - 64 * i : Nat) : Int) := by omega
              have hge2 : (64 : Int) ≤ ((all.length - 64 * i : Nat) : Int) := by omega
              have hfx : (Sha.blocksN st all i).Fit := Sha.blocksN_fit i all hfit
              have hmix : Hid (Sha.blocksN st all (i + 1) = Sha.mix (Sha.blocksN st all i) ((all.drop (64 * i)).take 64)) := Sha.blocksN_succ i st all
              have hl64 : ((all.drop (64 * i)).take 64).length = 64 := by simp; omega
              have HL64 := Lib.hid hl64
              have HFIT := Lib.hid hfx
              have heT := Lib.hid (HE2.out.take 64)
              generalize Sha.blocksN st all i = x at *
              clear hl64 hln hfx
              go_wp2_with fail
              refine region_pure_tail 4 (by kernel_rfl) (by kernel_rfl) fun I ne fw hfb hback => ?_
              simp only [List.take_succ_cons, List.take_zero, List.drop_succ_cons, List.drop_zero]
              have hcg : ∀ i k, (fw i).cell? ⟨gv, k, none⟩ = _ := fun i k => (hfb i).cell (lt_of_heap HG2.out)
              have d0 : ∀ i, (fw i).cell? ⟨gv, 0, none⟩ = some (.int .u32 x.a) := fun i => by rw [hcg, cell_of HG2.out]; rfl
              have d1 : ∀ i, (fw i).cell? ⟨gv, 1, none⟩ = some (.int .u32 x.b) := fun i => by rw [hcg, cell_of HG2.out]; rfl
              have d2 : ∀ i, (fw i).cell? ⟨gv, 2, none⟩ = some (.int .u32 x.c) := fun i => by rw [hcg, cell_of HG2.out]; rfl
              have d3 : ∀ i, (fw i).cell? ⟨gv, 3, none⟩ = some (.int .u32 x.d) := fun i => by rw [hcg, cell_of HG2.out]; rfl
              have d4 : ∀ i, (fw i).cell? ⟨gv, 4, none⟩ = some (.int .u32 x.e) := fun i => by rw [hcg, cell_of HG2.out]; rfl
              have d5 : ∀ i, (fw i).cell? ⟨gv, 5, none⟩ = some (.int .u32 x.f) := fun i => by rw [hcg, cell_of HG2.out]; rfl
              have d6 : ∀ i, (fw i).cell? ⟨gv, 6, none⟩ = some (.int .u32 x.g) := fun i => by rw [hcg, cell_of HG2.out]; rfl
              have d7 : ∀ i, (fw i).cell? ⟨gv, 7, none⟩ = some (.int .u32 x.h) := fun i => by rw [hcg, cell_of HG2.out]; rfl
              have hcap : (64 : Int) ≤ cap := by
                rcases HE2.out with ⟨h0, _⟩ | ⟨_, _, _, _, hlc, _⟩
                · have := congrArg List.length h0; simp at this; omega
                · simp at hlc; omega
              have hfb' := Lib.hid hfb
              clear hfb hcg
              repeat (quiet_step ((go_at_call 174; exact pure_of hfb'.out hback (mix_lit x HFIT.out b off cap ((all.drop (64 * i)).take 64) HL64.out _ (heT.out.mono (hfb'.out _))))))
              refine wpQuiet_nil ?_
              intro ii
              have hfi := hfb'.out ii
              have hg3 : (fw ii).heap[gv]? = _ := heap_below HG2.out hfi
              have he3 := Lib.hid (HE2.out.mono hfi)
              have hb3 := Lib.hid (HB2.out.trans (hfi.mono hsz2))
              generalize fw ii = w3 at *
              clear hfi hback hfb' d0 d1 d2 d3 d4 d5 d6 d7 HG2 HE2 HB2 heT
              have z0 := frozen_of hg3 0
              have z1 := frozen_of hg3 1
              have z2 := frozen_of hg3 2
              have z3 := frozen_of hg3 3
              have z4 := frozen_of hg3 4
              have z5 := frozen_of hg3 5
              have z6 := frozen_of hg3 6
              have z7 := frozen_of hg3 7
              have c0 := cell_of hg3 0
              have c1 := cell_of hg3 1
              have c2 := cell_of hg3 2
              have c3 := cell_of hg3 3
              have c4 := cell_of hg3 4
              have c5 := cell_of hg3 5
              have c6 := cell_of hg3 6
              have c7 := cell_of hg3 7
              simp [w8c] at c0 c1 c2 c3 c4 c5 c6 c7
              generalize hY : Sha.mix x ((all.drop (64 * i)).take 64) = y at *
              have HG3 := Lib.hid hg3
              clear hg3 HL64 HFIT hY
              have hcapn : 64 ≤ cap := by omega
              have hbg2 : b ≠ gv := HNB2.out ⟨b, off, none⟩ rfl
              by_cases hce : cap = 64
              · have hd : all.drop (64 * (i + 1)) = [] := by
                  rcases he3.out with ⟨h0, _⟩ | ⟨_, _, _, _, hlc, _⟩
                  · have := congrArg List.length h0; simp at this
                    apply List.drop_eq_nil_of_le; omega
                  · simp at hlc
                    apply List.drop_eq_nil_of_le; omega
                have HD := Lib.hid hd
                have hll : Hid (all.length - 64 * i - 64 = 0) := by have := congrArg List.length hd; simp at this; show _ = _; omega
                have hce' : ((cap : Nat) : Int) = 64 := by omega
                clear hd
                go_wp2_with fail
                go_roundg (gk - 1)
                case measure => omega
                case rel =>
                  refine ⟨i + 1, some ⟨b, off, none⟩, cap - 64, by omega, by first | (rw [show all.length - 64 * (i + 1) = all.length - 64 * i - 64 by omega]; done) | rw [show all.length - 64 * (i + 1) = all.length - 64 * i - 64 by omega, show cap - 64 = 0 by omega], ((((((((hb3.out.setCell (p := ⟨gv, 0, none⟩) hgw.out _).setCell (p := ⟨gv, 1, none⟩) hgw.out _).setCell (p := ⟨gv, 2, none⟩) hgw.out _).setCell (p := ⟨gv, 3, none⟩) hgw.out _).setCell (p := ⟨gv, 4, none⟩) hgw.out _).setCell (p := ⟨gv, 5, none⟩) hgw.out _).setCell (p := ⟨gv, 6, none⟩) hgw.out _).setCell (p := ⟨gv, 7, none⟩) hgw.out _), ?_, ?_, HNB2.out⟩
                  · rw [heap_setCell (heap_setCell (heap_setCell (heap_setCell (heap_setCell (heap_setCell (heap_setCell (heap_setCell HG3.out 0 _) 1 _) 2 _) 3 _) 4 _) 5 _) 6 _) 7 _, hmix.out]
                    simp [w8c]
                  · rw [HD.out]; exact .inl ⟨rfl, by have : maxLen = 9223372036854775807 := rfl; omega, by simp⟩
              · have hce' : (64 : Int) < cap := by omega
                go_wp2_with fail
                go_roundg (gk - 1)
                case measure => omega
                case rel =>
                  refine ⟨i + 1, some ⟨b, off + 64, none⟩, cap - 64, by omega, by first | (rw [show all.length - 64 * (i + 1) = all.length - 64 * i - 64 by omega]; done) | rw [show all.length - 64 * (i + 1) = all.length - 64 * i - 64 by omega, show cap - 64 = 0 by omega], ((((((((hb3.out.setCell (p := ⟨gv, 0, none⟩) hgw.out _).setCell (p := ⟨gv, 1, none⟩) hgw.out _).setCell (p := ⟨gv, 2, none⟩) hgw.out _).setCell (p := ⟨gv, 3, none⟩) hgw.out _).setCell (p := ⟨gv, 4, none⟩) hgw.out _).setCell (p := ⟨gv, 5, none⟩) hgw.out _).setCell (p := ⟨gv, 6, none⟩) hgw.out _).setCell (p := ⟨gv, 7, none⟩) hgw.out _), ?_, ?_, by rintro x e; cases e; exact hbg2⟩
                  · rw [heap_setCell (heap_setCell (heap_setCell (heap_setCell (heap_setCell (heap_setCell (heap_setCell (heap_setCell HG3.out 0 _) 1 _) 2 _) 3 _) 4 _) 5 _) 6 _) 7 _, hmix.out]
                    simp [w8c]
                  · have hd := he3.out.drop 64 (by simp; omega)
                    rw [List.drop_drop, show 64 * i + 64 = 64 * (i + 1) by omega] at hd
                    exact (ElemsAt.setCell (c := byteV) (ElemsAt.setCell (c := byteV) (ElemsAt.setCell (c := byteV) (ElemsAt.setCell (c := byteV) (ElemsAt.setCell (c := byteV) (ElemsAt.setCell (c := byteV) (ElemsAt.setCell (c := byteV) (ElemsAt.setCell (c := byteV) hd ⟨gv, 0, none⟩ (by rintro x e; cases e; exact hbg2) _) ⟨gv, 1, none⟩ (by rintro x e; cases e; exact hbg2) _) ⟨gv, 2, none⟩ (by rintro x e; cases e; exact hbg2) _) ⟨gv, 3, none⟩ (by rintro x e; cases e; exact hbg2) _) ⟨gv, 4, none⟩ (by rintro x e; cases e; exact hbg2) _) ⟨gv, 5, none⟩ (by rintro x e; cases e; exact hbg2) _) ⟨gv, 6, none⟩ (by rintro x e; cases e; exact hbg2) _) ⟨gv, 7, none⟩ (by rintro x e; cases e; exact hbg2) _)
            · have ei : i = all.length / 64 := by omega
              have hz0 : all.length - 64 * i = 0 := by omega
              have hblk : Hid (Sha.sum m = (Sha.blocksN st all i).bytes) := by
                show _ = _
                rw [Sha.sum_eq, HS.out, ← hall.out, ei]
                rfl
              have hfv : (Sha.blocksN st all i).Fit := Sha.blocksN_fit i all hfit
              generalize Sha.blocksN st all i = x at *
              have HZ := Lib.hid hz0
              have HFV := Lib.hid hfv
              have hz1 : ((all.length - 64 * i : Nat) : Int) ≤ 0 := by omega
              have hg := HG2.out
              have c0 := cell_of hg 0
              have c1 := cell_of hg 1
              have c2 := cell_of hg 2
              have c3 := cell_of hg 3
              have c4 := cell_of hg 4
              have c5 := cell_of hg 5
              have c6 := cell_of hg 6
              have c7 := cell_of hg 7
              simp [w8c] at c0 c1 c2 c3 c4 c5 c6 c7
              have hz3 : decide ((0 : Int) < ((all.length - 64 * i : Nat) : Int)) = false := decide_eq_false (by omega)
              have hz4 : decide (0 < all.length - 64 * i) = false := decide_eq_false (by omega)
              clear hg hz0 hfv ei
              go_wp2_with fail
              clear hz4 c0 c1 c2 c3 c4 c5 c6 c7 hz3 hz1
              go_loopg [6, 57] 8 (fun k v i wr => ∃ u : Nat, u + k = 8 ∧ i = .int .i64 u ∧ Below w.heap.size w wr ∧ wr.ownsRow w.heap.size 5 1 v (4 * u) (bytesV (x.bytes.take (4 * u))))
              case atStart => exact ⟨0, by omega, rfl, HB2.out, by simpa [bytesV] using World.ownsRow_nil _ _ _ _⟩
              case round =>
                clear HB2 HG2 HE2 HNB2 hsz2
                obtain ⟨u, hu, rfl, hb, hown⟩ := hrel
                have hsz2 := hb.size
                have HO := Lib.hid hown
                clear hown
                by_cases hu8 : u < 8
                · obtain ⟨n, hn, hsn⟩ := w8_word x u hu8
                  have hix : ∀ wz : World, (Instr.index 242 (.agg #[.int .u32 x.a, .int .u32 x.b, .int .u32 x.c, .int .u32 x.d, .int .u32 x.e, .int .u32 x.f, .int .u32 x.g, .int .u32 x.h]) (.int .i64 u)).run Tryz.prog wz = .ok (.int .u32 n) wz :=
                    fun wz => run_index_agg 242 168 8 Tryz.underlying168 Tryz.underlying242 (by kernel_rfl) _ rfl u _ hn wz
                  have hsn' : Hid (bytesV (x.bytes.take (4 * u)) ++ [.int .u8 ((n : Int) / 16777216 % 256), .int .u8 ((n : Int) / 65536 % 256), .int .u8 ((n : Int) / 256 % 256), .int .u8 ((n : Int) % 256)] = bytesV (x.bytes.take (4 * (u + 1)))) := by
                    show _ = _
                    rw [← be4_vals, hsn]; simp [bytesV]
                  clear hn hsn
                  go_wp2_with (at_builtin; refine wpList_append_lit rfl _ _ 49 rfl w.heap.size 5 (.int .u8 0) 1 Tryz.underlying49 info_byte rfl _ _ _ rfl HO.out _ 4 rfl rfl (by simp [Value.oneCell']) (by omega) (by decide) hsz2 ?_)
                  intro v3 w3 hown3 hgr3
                  have hb3 := below_append hb HO.out hgr3 hsz2 (Nat.le_refl _)
                  have hown4 : w3.ownsRow w.heap.size 5 1 v3 (4 * (u + 1)) (bytesV (x.bytes.take (4 * (u + 1)))) := by rw [← hsn'.out]; exact hown3
                  have HO4 := Lib.hid hown4
                  clear hown3 hgr3 hown4
                  go_wp2_with fail
                  go_roundg (gk - 1)
                  case measure => omega
                  case rel => exact ⟨u + 1, by omega, by go_num, hb3, HO4.out⟩
                · have eu : u = 8 := by omega
                  have hxb : x.bytes.length = 32 := by simp [Sha.W8.bytes, Sha.be4]
                  have hO := HO.out
                  rw [eu, show 4 * 8 = 32 from rfl, List.take_of_length_le (by omega)] at hO
                  obtain ⟨a6, cap6, hv6, he6⟩ := elems_of_owned byteV hO
                  rw [hxb] at hv6
                  obtain ⟨b6, off6, rfl, _, _⟩ := (show ElemsAt bytesS wr a6 cap6 x.bytes from he6).byte (i := 0) (by omega)
                  have hcv := run_convert_bytes_back (P := Tryz.prog) wr 49 9 5 ⟨b6, off6, none⟩ cap6 x.bytes Tryz.underlying49 Tryz.underlying5 Tryz.underlying9 (fun j hj => by
                    obtain ⟨b7, off7, e7, _, h7⟩ := (show ElemsAt bytesS wr (some ⟨b6, off6, none⟩) cap6 x.bytes from he6).byte hj
                    cases e7
                    have e8 : (⟨b6, off6, none⟩ : Addr).add j = ⟨b6, off6 + j, none⟩ := by cases j <;> simp [Addr.add]
                    rw [e8, h7]
                    simp [List.getD, List.getElem?_eq_getElem hj])
                  rw [hxb] at hcv
                  subst hv6
                  clear hO he6 hxb HO eu
                  go_wp2
                  go_ret
                  exact ⟨by rw [hblk.out]; rfl, hb⟩
end Go.Proofs.YtmnebimijlnlkaaGreatDoor
namespace Go.Proofs.YtmnebimijlnlkaaGreatDoor
open Go.RowKit
set_option maxRecDepth 100000 in
set_option maxHeartbeats 400000 in
theorem new_any (w : World) : Calls Tryz.prog 137 #[] w fun e w' => e = .returned (.pointer (some ⟨w.heap.size, 0, none⟩)) ∧ HashAt w.heap.size w' w.heap.size [] ∧ Below w.heap.size w w' := by
  go_enter Tryz.func137, Tryz.ntmps137
  go_wp2
  go_ret
  exact ⟨rfl, ⟨.slice none 0 0, Nat.le_refl _, heap_alloc_new _ _, World.ownsRow_nil _ _ _ _⟩, (Below.refl _ _).alloc (Nat.le_refl _) _⟩
def joined (ss : List ByteArray) : List UInt8 := ss.flatMap fun s => s.data.toList
theorem joined_take (ss : List ByteArray) (k : Nat) (hk : k < ss.length) : joined (ss.take (k + 1)) = joined (ss.take k) ++ ss[k].data.toList := by
  unfold joined
  rw [List.take_succ_eq_append_getElem hk, List.flatMap_append]
  simp only [List.flatMap_cons, List.flatMap_nil, List.append_nil]
theorem joined_le (ss : List ByteArray) (k : Nat) (hk : k < ss.length) : (joined (ss.take k)).length + ss[k].size ≤ (joined ss).length := by
  have h1 : joined ss = joined (ss.take (k + 1)) ++ joined (ss.drop (k + 1)) := by
    unfold joined
    rw [← List.flatMap_append, List.take_append_drop]
  have h2 := congrArg List.length h1
  rw [joined_take ss k hk] at h2
  simp only [List.length_append] at h2
  have h3 : ss[k].data.toList.length = ss[k].size := by rw [Array.length_toList]; rfl
  omega
set_option maxHeartbeats 400000 in
theorem shasum_any (v : Value) (ss : List ByteArray) (w : World) (hs : SliceOf strS w v ss) (hlen : ss.length ≤ maxLen) (hsz : (joined ss).length ≤ 140737488355200) :
    Calls Tryz.prog 140 #[v] w fun e w' => e = .returned (.string ⟨(Sha.sum (joined ss)).toArray⟩) ∧ Below w.heap.size w w' := by
  obtain ⟨a, cap, rfl, he⟩ := hs
  unfold maxLen at hlen
  have HE := Lib.hid he
  clear he
  go_enter Tryz.func140, Tryz.ntmps140
  go_wp2_with fail
  refine (new_any _).mono ?_
  rintro e w1 ⟨rfl, hh, hb⟩
  have HH := Lib.hid hh
  have HB := Lib.hid hb
  clear hh hb
  go_wp2_with fail
  go_loopw [9] (fun i wr => ∃ k : Nat, k ≤ ss.length ∧ i = .int .i64 k ∧ Below w.heap.size w wr ∧ HashAt w.heap.size wr w.heap.size (joined (ss.take k))) (fun i _ => ss.length - (intOf i).toNat)
  case atStart => exact ⟨0, Nat.zero_le _, rfl, HB.out, by simpa [joined] using HH.out⟩
  case round =>
    clear HH HB
    obtain ⟨k, hk, rfl, hb, hh⟩ := hrel
    have HH := Lib.hid hh
    have HB := Lib.hid hb
    have hsz0 := hb.size
    clear hh
    by_cases hlt : k < ss.length
    · obtain ⟨b, off, rfl, hbl, hc⟩ := (HE.out.mono hb).str hlt
      have hjl := joined_le ss k hlt
      clear hb
      go_wp2_with fail
      refine (write_any w.heap.size w.heap.size (joined (ss.take k)) ss[k] _ hsz0 (by omega) HH.out).mono ?_
      rintro e w2 ⟨rfl, hh2, hb2⟩
      have HH2 := Lib.hid hh2
      have HB2 := Lib.hid (HB.out.trans hb2)
      clear hh2 hb2 hjl
      go_wp2_with fail
      go_roundw
      case rel => exact ⟨k + 1, by omega, by go_num, HB2.out, by rw [joined_take ss k hlt]; exact HH2.out⟩
      case measure => simp [intOf]; omega
    · have ek : k = ss.length := by omega
      have hall : Hid (joined (ss.take k) = joined ss) := by show _ = _; rw [ek, List.take_length]
      clear hb ek
      go_wp2_with fail
      refine (hsum_any w.heap.size w.heap.size (joined (ss.take k)) _ (by rw [hall.out]; omega) HH.out).mono ?_
      rintro e w2 ⟨rfl, hb2⟩
      rw [hall.out]
      go_wp2_with fail
      go_ret
      exact ⟨rfl, HB.out.trans (hb2.mono hsz0)⟩
end Go.Proofs.YtmnebimijlnlkaaGreatDoor
namespace Go.Proofs.YtmnebimijlnlkaaGreatDoor.Sha
def key64 (k : Bytes) : Bytes := let k' := if 64 < k.length then sum k else k; k' ++ List.replicate (64 - k'.length) 0
def pad (k : Bytes) (m : UInt8) : Bytes := (key64 k).map (· ^^^ m)
def tag (k m : Bytes) : Bytes := sum (pad k 0x5c ++ sum (pad k 0x36 ++ m))
theorem key64_length (k : Bytes) : (key64 k).length = 64 := by
  unfold key64
  by_cases h : 64 < k.length
  · simp [h, sum_length]
  · simp [h]; omega
theorem pad_length (k : Bytes) (m : UInt8) : (pad k m).length = 64 := by simp [pad, key64_length]
theorem tag_length (k m : Bytes) : (tag k m).length = 32 := sum_length _
def parts (key info : Bytes) : Nat → Bytes × Bytes
  | 0 => ([], [])
  | i + 1 => let r := parts key info i; let t := tag key (r.1 ++ (info ++ [UInt8.ofNat (i + 1)])); (t, r.2 ++ t)
def expand (key info : Bytes) (n : Nat) : Bytes := (parts key info ((n + 31) / 32)).2.take n
theorem parts_length (key info : Bytes) : ∀ i, (parts key info i).2.length = 32 * i
  | 0 => rfl
  | i + 1 => by simp [parts, parts_length key info i, tag_length]; omega
def forBytes : Bytes := [115, 108, 101, 100, 103, 101, 32, 98, 121, 116, 101, 115]
def forTags : Bytes := [115, 108, 101, 100, 103, 101, 32, 116, 97, 103, 115]
def forHeads : Bytes := [115, 108, 101, 100, 103, 101, 32, 104, 101, 97, 100, 115]
def encKey (secret salt : Bytes) : Bytes := expand (tag salt secret) forBytes 32
def macKey (secret salt : Bytes) : Bytes := expand (tag salt secret) forTags 32
def headKey (secret : Bytes) : Bytes := expand (tag [] secret) forHeads 32
def fixed (n : Int) : Nat → Bytes
  | 0 => []
  | k + 1 => fixed (n / 256) k ++ [UInt8.ofNat (n % 256).toNat]
theorem fixed_length : ∀ (k : Nat) (n : Int), (fixed n k).length = k
  | 0, _ => rfl
  | k + 1, n => by simp [fixed, fixed_length k]
def number (l : Bytes) : Nat := l.foldl (fun n b => n * 256 + b.toNat) 0
end Go.Proofs.YtmnebimijlnlkaaGreatDoor.Sha
namespace Go.Proofs.YtmnebimijlnlkaaGreatDoor
open Go.RowKit
theorem SliceOf.litS (w : World) (g : Nat) (hg : g = w.heap.size) (ss : List ByteArray) (T n : Nat) (hn : ss.length = n) (hm : n ≤ maxLen) (C : Array Value) (hC : C = (ss.map Value.string).toArray) :
    SliceOf strS (w.alloc (.cells C T)) (.slice (some ⟨g, 0, none⟩) n n) ss := by
  subst hC hn hg
  refine ⟨some ⟨w.heap.size, 0, none⟩, ss.length, rfl, .inr ⟨w.heap.size, 0, rfl, by simp, Nat.le_refl _, hm, fun i x hx => ⟨_, rfl, fun j c hj => ?_⟩⟩⟩
  cases j with
  | zero =>
    simp only [List.getElem?_cons_zero, Option.some.injEq] at hj
    subst hj
    simp [strS, Shape.flat, hx]
  | succ j => simp at hj
theorem wpList_copy_text {P : Program} {w : World} {ops : Array Oper} {rest : List Oper} {o : Oper} {a : Act} {Q : Exit → Act → World → Prop} (hgd : o.guard = none) (d s : Operand) (dT sT : TypeId)
    (ho : o.op = .call { callee := .builtin .copy, args := #[d, s], argTypes := #[dT, sT] }) (elem : TypeId) (hu : P.underlying dT = some (.slice elem)) (hsz : (P.info? elem).map (·.size) = some 1)
    (g off dLen dCap : Nat) (str : ByteArray) (hd : a.eval d = .slice (some ⟨g, off, none⟩) dLen dCap) (hs : a.eval s = .string str)
    (cur : Array Value) (t : TypeId) (hg : w.heap[g]? = some (.cells cur t (0, 0))) (hle : str.size ≤ dLen) (hfit : off + str.size ≤ cur.size)
    (h : ∀ wz, wz.heap[g]? = some (.cells (cur.toList.take off ++ bytesV str.data.toList ++ cur.toList.drop (off + str.size)).toArray t (0, 0)) → w.grownBy wz (some g) → wpList P ops Q rest (a.put o.dst (goInt str.size)) wz) :
    wpList P ops Q (o :: rest) a w := by
  refine wpList_plain hgd fun K hK => ?_
  have hr := Lib.run_copy_row_string (P := P) w dT sT o.type elem g off dLen dCap str cur t hu hsz hg hle hfit
  unfold Oper.wp execOp
  simp only [ho, resolve, invoke, builtin, Sem.run_bind, Sem.run_pure, Result.andThen_ok, List.map_toArray, List.map_cons, List.map_nil, hd, hs, hr]
  exact hK _ _ (h _ (setRow_heap _ _ _ _ _ _ hg) ⟨rfl, rfl, rfl, by simp [World.setRow], fun k _ hk => setRow_other w g k _ (fun e => hk (by simp [e]))⟩)
set_option maxRecDepth 100000 in
set_option maxHeartbeats 1000000 in
theorem pad_small (k : ByteArray) (m : UInt8) (w : World) (hk : k.size ≤ 64) :
    Calls Tryz.prog 139 #[.string k, .int .u8 m.toNat] w fun e w' => e = .returned (.string ⟨(Sha.pad k.data.toList m).toArray⟩) ∧ Below w.heap.size w w' := by
  have hk' : ¬ (64 : Int) < k.size := by omega
  go_enter Tryz.func139, Tryz.ntmps139
  go_wp2_with (refine wpList_copy_text rfl (.tmp 13) (.tmp 14) 49 9 rfl 5 Tryz.underlying49 (by kernel_rfl) w.heap.size 0 64 64 k rfl rfl _ _ (heap_alloc_new _ _) hk (by simpa using hk) ?_)
  intro w1 hg1 hgr1
  have hlen : k.data.toList.length = k.size := by rw [Array.length_toList]; rfl
  have hkey : Sha.key64 k.data.toList = k.data.toList ++ List.replicate (64 - k.size) 0 := by
    unfold Sha.key64
    simp only [hlen, show ¬ 64 < k.size by omega, if_false]
  have hg2 : w1.heap[w.heap.size]? = some (.cells (bytesV (Sha.key64 k.data.toList)).toArray 246 (0, 0)) := by
    rw [hg1, hkey]
    congr 2
    have e : ∀ L : List Value, L = List.replicate 64 (.int .u8 0) → (bytesV k.data.toList ++ List.drop k.size L).toArray = (bytesV (k.data.toList ++ List.replicate (64 - k.size) 0)).toArray := by
      rintro L rfl
      simp only [bytesV, List.map_append, List.map_replicate, List.drop_replicate]
      rfl
    exact e _ rfl
  have hb1 : Below w.heap.size w w1 := ((Below.refl w.heap.size w).alloc (Nat.le_refl _) _).grown hgr1 (by simp) (fun k hk => by cases hk; exact Nat.le_refl _)
  have hkl : (Sha.key64 k.data.toList).length = 64 := Sha.key64_length _
  have hA : (bytesV (Sha.pad k.data.toList m)) = (Sha.key64 k.data.toList).map fun b => byteV (b ^^^ m) := by simp [bytesV, Sha.pad]
  generalize hK : Sha.key64 k.data.toList = K at *
  generalize hP : Sha.pad k.data.toList m = pd at *
  have hpl : pd.length = 64 := by rw [← hP]; exact Sha.pad_length _ _
  have HG := Lib.hid hg2
  have HB := Lib.hid hb1
  have HA := Lib.hid hA
  have HKL := Lib.hid hkl
  have HPL := Lib.hid hpl
  have HPD := Lib.hid hP
  clear hg1 hgr1 hlen hkey hg2 hb1 hK hP hA hkl hpl
  go_wp2_with fail
  go_loopw [16] (fun i wr => ∃ t : Nat, t ≤ 64 ∧ i = .int .i64 t ∧ Below w.heap.size w wr ∧ wr.heap[w.heap.size]? = some (.cells ((bytesV pd).take t ++ (bytesV K).drop t).toArray 246 (0, 0))) (fun i _ => 64 - (intOf i).toNat)
  case atStart => exact ⟨0, by omega, rfl, HB.out, by simpa using HG.out⟩
  case round =>
    clear HG HB
    obtain ⟨t, ht, rfl, hb, hg⟩ := hrel
    have HG := Lib.hid hg
    have HB := Lib.hid hb
    clear hb
    by_cases hlt : t < 64
    · have hbl : (bytesV pd).length = (bytesV K).length := by simp [bytesV, HKL.out, HPL.out]
      have hkt : t < K.length := by rw [HKL.out]; exact hlt
      have hkb : (bytesV K)[t]? = some (.int .u8 (K[t].toNat : Nat)) := by simp [bytesV, hkt, byteV]
      have hpb : (bytesV pd)[t]? = some (.int .u8 ((K[t].toNat ^^^ m.toNat : Nat) : Int)) := by
        rw [HA.out]; simp [hkt, byteV, UInt8.toNat_xor]
      have c := cell_of hg t
      rw [blend_get _ _ _ hbl (by simp [bytesV, HPL.out]; omega), hkb] at c
      have z := frozen_of hg t
      have hx := u8_xor_nat K[t].toNat m.toNat K[t].toNat_lt m.toNat_lt
      generalize K[t].toNat = kb at *
      have HBL := Lib.hid hbl
      have HPB := Lib.hid hpb
      have hlt' : (t : Int) < 64 := by omega
      clear hg hbl hkb hpb hkt
      go_wp2
      go_roundw
      case rel =>
        refine ⟨t + 1, by omega, by go_num, HB.out.setCell (Nat.le_refl _) _, ?_⟩
        rw [heap_setCell HG.out, blend_set _ _ _ HBL.out _ HPB.out]
      case measure => simp [intOf]; omega
    · have et : t = 64 := by omega
      rw [et, List.take_of_length_le (by simp [bytesV, HPL.out]), List.drop_of_length_le (by simp [bytesV, HKL.out]), List.append_nil] at hg
      have hcv := run_convert_bytes_back (P := Tryz.prog) wr 49 9 5 ⟨w.heap.size, 0, none⟩ 64 pd Tryz.underlying49 Tryz.underlying5 Tryz.underlying9 (fun j hj => by
        rw [cells_add hg]; simp [bytesV, byteV, hj])
      rw [HPL.out] at hcv
      clear hg et
      go_wp2
      go_ret
      exact ⟨by rw [HPD.out]; rfl, HB.out⟩
set_option maxRecDepth 100000 in
set_option maxHeartbeats 1000000 in
theorem pad_big (k : ByteArray) (m : UInt8) (w : World) (hk : 64 < k.size) (hk2 : k.size ≤ 140737488355200) :
    Calls Tryz.prog 139 #[.string k, .int .u8 m.toNat] w fun e w' => e = .returned (.string ⟨(Sha.pad k.data.toList m).toArray⟩) ∧ Below w.heap.size w w' := by
  have hk' : (64 : Int) < k.size := by omega
  have hkl0 : k.data.toList.length = k.size := by rw [Array.length_toList]; rfl
  have hj : joined [k] = k.data.toList := by simp [joined]
  obtain ⟨str, hstr⟩ : ∃ str : ByteArray, str = ⟨(Sha.sum k.data.toList).toArray⟩ := ⟨_, rfl⟩
  have hsz : str.size = 32 := by rw [hstr]; show (Sha.sum k.data.toList).toArray.size = 32; simp [Sha.sum_length]
  have hsd : str.data.toList = Sha.sum k.data.toList := by rw [hstr]
  have HSTR := Lib.hid hstr
  have HSZ := Lib.hid hsz
  have HSD := Lib.hid hsd
  have HJ := Lib.hid hj
  have HKL0 := Lib.hid hkl0
  clear hstr hsz hsd hj hkl0
  go_enter Tryz.func139, Tryz.ntmps139
  go_wp2_with fail
  refine (shasum_any (.slice (some ⟨w.heap.size + 1, 0, none⟩) 1 1) [k] _ (SliceOf.litS _ _ (by simp) [k] 9 1 rfl (by decide) #[.string k] rfl) (by simp [maxLen]) (by rw [HJ.out, HKL0.out]; exact hk2)).mono ?_
  rintro e w0 ⟨rfl, hb0⟩
  rw [HJ.out, ← HSTR.out]
  have hg0 : w0.heap[w.heap.size]? = some (.cells (List.replicate 64 (.int .u8 0)).toArray 246 (0, 0)) := heap_below (heap_alloc_old (heap_alloc_new _ _)) hb0
  have hbw : Below w.heap.size w w0 := (((Below.refl w.heap.size w).alloc (Nat.le_refl _) _).alloc (by simp) _).trans (hb0.mono (by simp; omega))
  have HG0 := Lib.hid hg0
  have HBW := Lib.hid hbw
  clear hg0 hbw hb0
  go_wp2_with (refine wpList_copy_text rfl (.tmp 13) (.tmp 14) 49 9 rfl 5 Tryz.underlying49 (by kernel_rfl) w.heap.size 0 64 64 str rfl rfl _ _ HG0.out (by rw [HSZ.out]; decide) (by rw [HSZ.out]; decide) ?_)
  intro w1 hg1 hgr1
  have hkey : Sha.key64 k.data.toList = str.data.toList ++ List.replicate (64 - str.size) 0 := by
    unfold Sha.key64
    simp only [HKL0.out, show 64 < k.size by omega, if_true]
    rw [HSD.out, Sha.sum_length, HSZ.out]
  have hg2 : w1.heap[w.heap.size]? = some (.cells (bytesV (Sha.key64 k.data.toList)).toArray 246 (0, 0)) := by
    rw [hg1, hkey]
    congr 2
    have e : ∀ L : List Value, L = List.replicate 64 (.int .u8 0) → (bytesV str.data.toList ++ List.drop str.size L).toArray = (bytesV (str.data.toList ++ List.replicate (64 - str.size) 0)).toArray := by
      rintro L rfl
      simp only [bytesV, List.map_append, List.map_replicate, List.drop_replicate]
      rfl
    exact e _ rfl
  have hb1 : Below w.heap.size w w1 := HBW.out.grown hgr1 HBW.out.size (fun k hk => by cases hk; exact Nat.le_refl _)
  have hkl : (Sha.key64 k.data.toList).length = 64 := Sha.key64_length _
  have hA : (bytesV (Sha.pad k.data.toList m)) = (Sha.key64 k.data.toList).map fun b => byteV (b ^^^ m) := by simp [bytesV, Sha.pad]
  generalize hK : Sha.key64 k.data.toList = K at *
  generalize hP : Sha.pad k.data.toList m = pd at *
  have hpl : pd.length = 64 := by rw [← hP]; exact Sha.pad_length _ _
  have HG := Lib.hid hg2
  have HB := Lib.hid hb1
  have HA := Lib.hid hA
  have HKL := Lib.hid hkl
  have HPL := Lib.hid hpl
  have HPD := Lib.hid hP
  clear hg1 hgr1 hkey hg2 hb1 hK hP hA hkl hpl
  go_wp2_with fail
  go_loopw [16] (fun i wr => ∃ t : Nat, t ≤ 64 ∧ i = .int .i64 t ∧ Below w.heap.size w wr ∧ wr.heap[w.heap.size]? = some (.cells ((bytesV pd).take t ++ (bytesV K).drop t).toArray 246 (0, 0))) (fun i _ => 64 - (intOf i).toNat)
  case atStart => exact ⟨0, by omega, rfl, HB.out, by simpa using HG.out⟩
  case round =>
    clear HG HB
    obtain ⟨t, ht, rfl, hb, hg⟩ := hrel
    have HG := Lib.hid hg
    have HB := Lib.hid hb
    clear hb
    by_cases hlt : t < 64
    · have hbl : (bytesV pd).length = (bytesV K).length := by simp [bytesV, HKL.out, HPL.out]
      have hkt : t < K.length := by rw [HKL.out]; exact hlt
      have hkb : (bytesV K)[t]? = some (.int .u8 (K[t].toNat : Nat)) := by simp [bytesV, hkt, byteV]
      have hpb : (bytesV pd)[t]? = some (.int .u8 ((K[t].toNat ^^^ m.toNat : Nat) : Int)) := by
        rw [HA.out]; simp [hkt, byteV, UInt8.toNat_xor]
      have c := cell_of hg t
      rw [blend_get _ _ _ hbl (by simp [bytesV, HPL.out]; omega), hkb] at c
      have z := frozen_of hg t
      have hx := u8_xor_nat K[t].toNat m.toNat K[t].toNat_lt m.toNat_lt
      generalize K[t].toNat = kb at *
      have HBL := Lib.hid hbl
      have HPB := Lib.hid hpb
      have hlt' : (t : Int) < 64 := by omega
      clear hg hbl hkb hpb hkt
      go_wp2
      go_roundw
      case rel =>
        refine ⟨t + 1, by omega, by go_num, HB.out.setCell (Nat.le_refl _) _, ?_⟩
        rw [heap_setCell HG.out, blend_set _ _ _ HBL.out _ HPB.out]
      case measure => simp [intOf]; omega
    · have et : t = 64 := by omega
      rw [et, List.take_of_length_le (by simp [bytesV, HPL.out]), List.drop_of_length_le (by simp [bytesV, HKL.out]), List.append_nil] at hg
      have hcv := run_convert_bytes_back (P := Tryz.prog) wr 49 9 5 ⟨w.heap.size, 0, none⟩ 64 pd Tryz.underlying49 Tryz.underlying5 Tryz.underlying9 (fun j hj => by
        rw [cells_add hg]; simp [bytesV, byteV, hj])
      rw [HPL.out] at hcv
      clear hg et
      go_wp2
      go_ret
      exact ⟨by rw [HPD.out]; rfl, HB.out⟩
theorem pad_any (k : ByteArray) (m : UInt8) (w : World) (hk2 : k.size ≤ 140737488355200) :
    Calls Tryz.prog 139 #[.string k, .int .u8 m.toNat] w fun e w' => e = .returned (.string ⟨(Sha.pad k.data.toList m).toArray⟩) ∧ Below w.heap.size w w' := by
  by_cases hk : k.size ≤ 64
  · exact pad_small k m w hk
  · exact pad_big k m w (by omega) hk2
end Go.Proofs.YtmnebimijlnlkaaGreatDoor
namespace Go.Proofs.YtmnebimijlnlkaaGreatDoor
open Go.RowKit
set_option maxRecDepth 100000 in
set_option maxHeartbeats 1000000 in
theorem tag_any (k : ByteArray) (v : Value) (ss : List ByteArray) (w : World) (hs : SliceOf strS w v ss) (hk : k.size ≤ 140737488355200) (hlen : ss.length ≤ maxLen) (hsz : (joined ss).length ≤ 140737488355000) :
    Calls Tryz.prog 93 #[.string k, v] w fun e w' => e = .returned (.string (str (Sha.tag k.data.toList (joined ss)))) ∧ Below w.heap.size w w' := by
  obtain ⟨a, cap, rfl, he⟩ := hs
  unfold maxLen at hlen
  have HE := Lib.hid he
  clear he
  go_enter Tryz.func93, Tryz.ntmps93
  go_wp2_with fail
  refine (new_any _).mono ?_
  rintro e w1 ⟨rfl, hh, hb⟩
  have HH := Lib.hid hh
  have HB := Lib.hid hb
  clear hh hb
  go_wp2_with fail
  refine (pad_any k 54 _ hk).mono ?_
  rintro e w2 ⟨rfl, hb2⟩
  have hw1 := HB.out.size
  have HH2 := Lib.hid (HH.out.below hb2)
  have HB2 := Lib.hid (HB.out.trans (hb2.mono hw1))
  clear HH HB hb2
  have hp54 : (Sha.pad k.data.toList 54).length = 64 := Sha.pad_length _ _
  have HP := Lib.hid hp54
  clear hp54
  go_wp2_with fail
  refine (write_any w.heap.size w.heap.size [] (str (Sha.pad k.data.toList 54)) _ HB2.out.size (by rw [str_size, HP.out]; decide) HH2.out).mono ?_
  rintro e w3 ⟨rfl, hh3, hb3⟩
  rw [List.nil_append, str_data] at hh3
  have HH3 := Lib.hid hh3
  have HB3 := Lib.hid (HB2.out.trans hb3)
  clear hh3 hb3 HH2 HB2
  go_wp2_with fail
  go_loopw [15] (fun i wr => ∃ n : Nat, n ≤ ss.length ∧ i = .int .i64 n ∧ Below w.heap.size w wr ∧ HashAt w.heap.size wr w.heap.size (Sha.pad k.data.toList 54 ++ joined (ss.take n))) (fun i _ => ss.length - (intOf i).toNat)
  case atStart => exact ⟨0, Nat.zero_le _, rfl, HB3.out, by simpa [joined] using HH3.out⟩
  case round =>
    clear HH3 HB3
    obtain ⟨n, hn, rfl, hb, hh⟩ := hrel
    have HH := Lib.hid hh
    have HB := Lib.hid hb
    have hsz0 := hb.size
    clear hh
    by_cases hlt : n < ss.length
    · obtain ⟨b, off, rfl, hbl, hc⟩ := (HE.out.mono hb).str hlt
      have hjl := joined_le ss n hlt
      clear hb
      go_wp2_with fail
      refine (write_any w.heap.size w.heap.size (Sha.pad k.data.toList 54 ++ joined (ss.take n)) ss[n] _ hsz0 (by rw [List.length_append, HP.out]; omega) HH.out).mono ?_
      rintro e w4 ⟨rfl, hh4, hb4⟩
      have HH4 := Lib.hid hh4
      have HB4 := Lib.hid (HB.out.trans hb4)
      clear hh4 hb4 hjl
      go_wp2_with fail
      go_roundw
      case rel => exact ⟨n + 1, by omega, by go_num, HB4.out, by rw [joined_take ss n hlt, ← List.append_assoc]; exact HH4.out⟩
      case measure => simp [intOf]; omega
    · have en : n = ss.length := by omega
      have hall : Hid (joined (ss.take n) = joined ss) := by show _ = _; rw [en, List.take_length]
      clear hb en
      go_wp2_with fail
      refine (pad_any k 92 _ hk).mono ?_
      rintro e w4 ⟨rfl, hb4⟩
      have HH4 := Lib.hid (HH.out.below hb4)
      have HB4 := Lib.hid (HB.out.trans (hb4.mono hsz0))
      have hsz4 := HB4.out.size
      clear hb4 HH HB
      go_wp2_with fail
      refine (hsum_any w.heap.size w.heap.size (Sha.pad k.data.toList 54 ++ joined (ss.take n)) _ (by rw [hall.out, List.length_append, HP.out]; omega) HH4.out).mono ?_
      rintro e w5 ⟨rfl, hb5⟩
      rw [hall.out]
      have HB5 := Lib.hid (HB4.out.trans (hb5.mono hsz4))
      have hsz5 := HB5.out.size
      clear hb5 HH4 HB4
      have hp92 : (Sha.pad k.data.toList 92).length = 64 := Sha.pad_length _ _
      have hsl : (Sha.sum (Sha.pad k.data.toList 54 ++ joined ss)).length = 32 := Sha.sum_length _
      have hj : joined [str (Sha.pad k.data.toList 92), str (Sha.sum (Sha.pad k.data.toList 54 ++ joined ss))] = Sha.pad k.data.toList 92 ++ Sha.sum (Sha.pad k.data.toList 54 ++ joined ss) := by simp [joined, str]
      have HJ := Lib.hid hj
      have HJL := Lib.hid (show (joined [str (Sha.pad k.data.toList 92), str (Sha.sum (Sha.pad k.data.toList 54 ++ joined ss))]).length ≤ 140737488355200 by rw [hj, List.length_append, hp92, hsl]; decide)
      clear hj hp92 hsl
      go_wp2_with fail
      refine (shasum_any (.slice (some ⟨w5.heap.size, 0, none⟩) 2 2) [str (Sha.pad k.data.toList 92), str (Sha.sum (Sha.pad k.data.toList 54 ++ joined ss))] _ (SliceOf.litS _ _ rfl _ 9 2 rfl (by decide) _ rfl) (by simp [maxLen]) HJL.out).mono ?_
      rintro e w6 ⟨rfl, hb6⟩
      rw [HJ.out]
      go_wp2_with fail
      go_ret
      exact ⟨rfl, HB5.out.trans (((Below.refl w.heap.size w5).alloc hsz5 _).trans (hb6.mono (by simp; omega)))⟩
end Go.Proofs.YtmnebimijlnlkaaGreatDoor
namespace Go.Proofs.YtmnebimijlnlkaaGreatDoor
open Go.RowKit
theorem ofInt_i64 (a : Nat) (ha : a < 9223372036854775808) : (BitVec.ofInt 64 (a : Int)).toNat = a := by
  rw [BitVec.ofInt_natCast, BitVec.toNat_ofNat]; exact Nat.mod_eq_of_lt (by omega)
theorem i64_or_nat (a b : Nat) (ha : a < 9223372036854775808) (hb : b < 9223372036854775808) : bits .or .i64 (a : Int) (b : Int) = ((a ||| b : Nat) : Int) := by
  have hx : a ||| b < 2 ^ 63 := Nat.or_lt_two_pow (by omega) (by omega)
  show IntKind.i64.wrap ((BitVec.ofInt 64 (a : Int) ||| BitVec.ofInt 64 (b : Int)).toNat : Int) = _
  rw [BitVec.toNat_or, ofInt_i64 a ha, ofInt_i64 b hb, IntKind.wrap_i64]
  omega
end Go.Proofs.YtmnebimijlnlkaaGreatDoor
namespace Go.Proofs.YtmnebimijlnlkaaGreatDoor
open Go.RowKit
theorem fixed_cons (n : Int) : ∀ k, Sha.fixed n (k + 1) = UInt8.ofNat (n / 256 ^ k % 256).toNat :: Sha.fixed n k := by
  intro k
  induction k generalizing n with
  | zero => simp [Sha.fixed]
  | succ k ih =>
    rw [Sha.fixed, ih (n / 256), Sha.fixed]
    rw [Int.ediv_ediv_of_nonneg (by decide), ← Int.pow_succ', List.cons_append]
theorem fixed_drop (n : Int) (k : Nat) : ∀ j, (Sha.fixed n (k + j)).drop j = Sha.fixed n k
  | 0 => rfl
  | j + 1 => by rw [← Nat.add_assoc, fixed_cons, List.drop_succ_cons]; exact fixed_drop n k j
theorem fixed_byte (n : Int) (k : Nat) : byteV (UInt8.ofNat (n / 256 ^ k % 256).toNat) = .int .u8 (n / 256 ^ k % 256) := by
  unfold byteV
  congr 1
  rw [UInt8.toNat_ofNat']
  have : 0 ≤ n / 256 ^ k % 256 := Int.emod_nonneg _ (by decide)
  have : n / 256 ^ k % 256 < 256 := Int.emod_lt_of_pos _ (by decide)
  omega
theorem fixed_step (n : Int) (t : Nat) (ht : t < 8) :
    (List.replicate (8 - t) (Value.int .u8 0) ++ bytesV (Sha.fixed n t)).toArray.setIfInBounds (7 - t) (.int .u8 (n / 2 ^ (8 * t) % 256)) = (List.replicate (8 - (t + 1)) (Value.int .u8 0) ++ bytesV (Sha.fixed n (t + 1))).toArray := by
  have e1 : n / 2 ^ (8 * t) % 256 = n / 256 ^ t % 256 := by rw [Int.pow_mul]; rfl
  have e2 : bytesV (Sha.fixed n (t + 1)) = Value.int .u8 (n / 256 ^ t % 256) :: bytesV (Sha.fixed n t) := by
    rw [fixed_cons, ← fixed_byte]; rfl
  rw [e1, e2]
  apply Array.ext'
  rw [Array.toList_setIfInBounds]
  show List.set (List.replicate (8 - t) (Value.int .u8 0) ++ bytesV (Sha.fixed n t)) (7 - t) _ = _
  rw [show 8 - t = (8 - (t + 1)) + 1 by omega, List.replicate_succ', show 7 - t = 8 - (t + 1) by omega, List.append_assoc]
  rw [List.set_append_right _ _ (by simp)]
  simp
set_option maxRecDepth 100000 in
theorem slice8 (g k : Nat) (hk1 : 1 ≤ k) (hk : k ≤ 8) (w : World) :
    (Instr.sliceAt 232 (.pointer (some ⟨g, 0, none⟩)) (some (.int .i64 (8 - (k : Int)))) none none).run Tryz.prog w = .ok (.slice (some ⟨g, 8 - k, none⟩) k k) w := by
  have hl : Tryz.prog.arrayLen 232 = 8 := by kernel_rfl
  have he : Tryz.prog.elem 232 = 5 := by kernel_rfl
  have hs : (sizeOf 5).run Tryz.prog w = .ok 1 w := by
    obtain ⟨i0, hi, _, hz1, _⟩ := info_parts info_byte
    simp [sizeOf, typeInfo, hi, hz1]
  rw [run_sliceAt_array_l w _ _ (by rw [hl, he]; exact Tryz.underlying232) _ _ (by omega) (by rw [hl]; omega), he, hs, hl]
  have e : (8 - (k : Int)).toNat = 8 - k := by omega
  simp only [Result.andThen_ok, slicedAt, e]
  rw [if_neg (by omega), show 8 - (8 - k) = k by omega]
  congr 2
  simp only [Addr.add]
  split
  · rename_i h
    have : 8 - k = 0 := by omega
    simp [this]
  · simp
set_option maxRecDepth 100000 in
set_option maxHeartbeats 1000000 in
theorem fixed_any (n : Int) (k : Nat) (hk1 : 1 ≤ k) (hk : k ≤ 8) (w : World) :
    Calls Tryz.prog 122 #[.int .i64 n, .int .i64 k] w fun e w' => e = .returned (.string (str (Sha.fixed n k))) ∧ Below w.heap.size w w' := by
  go_enter Tryz.func122, Tryz.ntmps122
  go_wp2_with fail
  go_loopw [7] (fun i wr => ∃ t : Nat, t ≤ 8 ∧ i = .int .i64 t ∧ Below w.heap.size w wr ∧ wr.heap[w.heap.size]? = some (.cells (List.replicate (8 - t) (Value.int .u8 0) ++ bytesV (Sha.fixed n t)).toArray 232 (0, 0))) (fun i _ => 8 - (intOf i).toNat)
  case atStart => exact ⟨0, by omega, rfl, (Below.refl _ _).alloc (Nat.le_refl _) _, heap_alloc_new _ _⟩
  case round =>
    obtain ⟨t, ht, rfl, hb, hg⟩ := hrel
    have HB := Lib.hid hb
    have HG := Lib.hid hg
    by_cases hlt : t < 8
    · have c := cell_of hg (7 - t)
      have z := frozen_of hg (7 - t)
      have e0 : (List.replicate (8 - t) (Value.int .u8 0) ++ bytesV (Sha.fixed n t)).toArray[7 - t]? = some (.int .u8 0) := by
        rw [List.getElem?_toArray, List.getElem?_append_left (by simp; omega), List.getElem?_replicate, if_pos (by omega)]
      rw [e0] at c
      obtain ⟨x7, y7, z7⟩ := idx (7 - (t : Int)) (7 - t) (by omega) (by omega)
      clear hb hg e0
      have l1 : 7 - (t : Int) < 8 := by omega
      have l2 : (t : Int) ≤ 7 := by omega
      go_wp2
      go_roundw
      case rel => exact ⟨t + 1, by omega, by go_num, HB.out.setCell (Nat.le_refl _) _, by rw [heap_setCell HG.out, fixed_step n t hlt]⟩
      case measure => simp [intOf]; omega
    · have et : t = 8 := by omega
      rw [et, Nat.sub_self, List.replicate_zero, List.nil_append] at hg
      have hcv := run_convert_bytes_back (P := Tryz.prog) wr 49 9 5 ⟨w.heap.size, 8 - k, none⟩ k (Sha.fixed n k) Tryz.underlying49 Tryz.underlying5 Tryz.underlying9 (fun j hj => by
        rw [Sha.fixed_length] at hj
        have e8 : (⟨w.heap.size, 8 - k, none⟩ : Addr).add j = ⟨w.heap.size, 8 - k + j, none⟩ := by cases j <;> simp [Addr.add]
        have e9 := fixed_drop n k (8 - k)
        rw [show k + (8 - k) = 8 by omega] at e9
        rw [e8, cell_of hg, List.getElem?_toArray]
        have e10 : (bytesV (Sha.fixed n 8))[8 - k + j]? = (bytesV (Sha.fixed n k))[j]? := by
          rw [← e9]; simp [bytesV]
        rw [e10]
        simp [bytesV, byteV, Sha.fixed_length, hj])
      rw [Sha.fixed_length] at hcv
      have k0 : (0 : Int) ≤ k := by omega
      have k8 : (k : Int) ≤ 8 := by omega
      have k1 : (1 : Int) ≤ k := by omega
      obtain ⟨xk, yk, zk⟩ := idx (8 - (k : Int)) (8 - k) (by omega) (by omega)
      have k2 : 8 - (k : Int) ≤ 8 := by omega
      have k3 : ¬ (8 : Nat) = 8 - k := by omega
      have k4 : 8 - (8 - k) = k := by omega
      have hsl := slice8 w.heap.size k hk1 hk wr
      clear hg et hb
      go_wp2
      go_ret
      exact ⟨rfl, HB.out⟩
theorem fixed_i (n k : Int) (hk1 : 1 ≤ k) (hk : k ≤ 8) (w : World) :
    Calls Tryz.prog 122 #[.int .i64 n, .int .i64 k] w fun e w' => e = .returned (.string (str (Sha.fixed n k.toNat))) ∧ Below w.heap.size w w' := by
  obtain ⟨k, rfl⟩ := Int.eq_ofNat_of_zero_le (show (0 : Int) ≤ k by omega)
  rw [Int.toNat_natCast]
  exact fixed_any n k (by omega) (by omega) w
end Go.Proofs.YtmnebimijlnlkaaGreatDoor
namespace Go.Proofs.YtmnebimijlnlkaaGreatDoor
open Go.RowKit
def Sha.num : List UInt8 → Nat := List.foldl (fun n c => n * 256 + c.toNat) 0
theorem Sha.num_snoc (l : List UInt8) (c : UInt8) : Sha.num (l ++ [c]) = Sha.num l * 256 + c.toNat := by simp [Sha.num, List.foldl_append]
theorem Sha.num_from (l : List UInt8) : ∀ a : Nat, l.foldl (fun n c => n * 256 + c.toNat) a + 1 ≤ (a + 1) * 256 ^ l.length := by
  induction l with
  | nil => intro a; simp
  | cons c l ih =>
    intro a
    have h1 := ih (a * 256 + c.toNat)
    have h2 := c.toNat_lt
    rw [List.foldl_cons, List.length_cons, Nat.pow_succ]
    refine Nat.le_trans h1 ?_
    rw [Nat.mul_comm (256 ^ l.length) 256, ← Nat.mul_assoc]
    exact Nat.mul_le_mul_right _ (by omega)
theorem Sha.num_lt (l : List UInt8) : Sha.num l < 256 ^ l.length := by
  have := Sha.num_from l 0
  simp at this
  exact this
set_option maxRecDepth 100000 in
set_option maxHeartbeats 1000000 in
theorem take_any (s : ByteArray) (k : Nat) (hk1 : 1 ≤ k) (hk : k ≤ 6) (hs : k ≤ s.size) (hsz : s.size ≤ 140737488355327) (w : World) :
    Calls Tryz.prog 57 #[.string s, .int .i64 k] w fun e w' => e = .returned (.tuple #[.int .i64 (Sha.num (s.data.toList.take k) : Nat), .string (s.extract k s.size), .int .i64 0]) ∧ Below w.heap.size w w' := by
  go_enter Tryz.func57, Tryz.ntmps57
  have k1 : ¬ (k : Int) < 1 := by omega
  have k2 : ¬ (8 : Int) < k := by omega
  have k3 : ¬ (s.size : Int) < k := by omega
  have hcv := fun w => run_bytes_of_string (P := Tryz.prog) w 9 49 5 (s.extract 0 k) Tryz.underlying9 Tryz.underlying49 Tryz.underlying5
  have hes : (s.extract 0 k).size = k := by simp; omega
  rw [hes] at hcv
  have k4 : (k : Int) ≤ s.size := by omega
  go_wp2_with fail
  go_loopg [7, 27] k (fun j v i wr => ∃ t : Nat, t ≤ k ∧ j = k - t ∧ i = .int .i64 t ∧ v = .int .i64 (Sha.num (s.data.toList.take t) : Nat) ∧ Below w.heap.size w wr ∧ (∀ j, j < k → wr.cell? ⟨w.heap.size, j, none⟩ = some (.int .u8 (s.data.toList.getD j 0).toNat)))
  case atStart =>
    refine ⟨0, Nat.zero_le _, rfl, rfl, rfl, ?_, fun j hj => ?_⟩
    · exact ((Same.drew w).below _).alloc (by simp) _ 
    · have hsd : j < (s.extract 0 k).data.size := by show j < (s.extract 0 k).size; omega
      have hb := bytesRow_at (s.extract 0 k) (grownCap w k 0 5) j hsd
      have e1 : (s.extract 0 k).data[j] = s.data.toList.getD j 0 := by
        have hj2 : j < s.data.size := by show j < s.size; omega
        rw [List.getD_eq_getElem?_getD, List.getElem?_eq_getElem (by rw [Array.length_toList]; exact hj2)]
        simp [ByteArray.data_extract]
      rw [e1] at hb
      refine (Same.drew _).cell ?_
      rw [cell_of (heap_alloc_new _ _)]
      exact hb
  case round =>
    obtain ⟨t, ht, rfl, rfl, rfl, hb, hc⟩ := hrel
    clear hcv
    have HB := Lib.hid hb
    by_cases hlt : t < k
    · have hlt' : (t : Int) < k := by omega
      have c := hc t hlt
      have HC := Lib.hid hc
      obtain ⟨b, hbb⟩ : ∃ b, b = s.data.toList.getD t 0 := ⟨_, rfl⟩
      have hnum : Sha.num (s.data.toList.take (t + 1)) = Sha.num (s.data.toList.take t) * 256 + b.toNat := by
        have ht' : t < s.data.toList.length := by rw [Array.length_toList]; show t < s.size; omega
        rw [List.take_succ_eq_append_getElem ht', Sha.num_snoc, hbb, List.getD_eq_getElem?_getD, List.getElem?_eq_getElem ht']; rfl
      have hN := Sha.num_lt (s.data.toList.take t)
      have hN' : Sha.num (s.data.toList.take t) < 1099511627776 := by
        refine Nat.lt_of_lt_of_le hN ?_
        have : (s.data.toList.take t).length ≤ 5 := by simp; omega
        exact Nat.le_trans (Nat.pow_le_pow_right (by decide) this) (by decide)
      rw [← hbb] at c
      have hbl := b.toNat_lt
      generalize b.toNat = B at *
      generalize Sha.num (s.data.toList.take t) = N at *
      have hor : bits .or .i64 ((N : Int) * 256) (B : Int) = ((N * 256 + B : Nat) : Int) := by
        have := i64_or_nat (N * 256) B (by omega) (by omega)
        rw [show N * 256 ||| B = N * 256 + B by
          have := Nat.shiftLeft_add_eq_or_of_lt (show B < 2 ^ 8 by omega) N
          rw [Nat.shiftLeft_eq] at this; exact this.symm] at this
        exact_mod_cast this
      have HN := Lib.hid hnum
      clear hb hc hN hnum
      go_wp2
      go_roundg (k - t - 1)
      case measure => omega
      case rel => exact ⟨t + 1, by omega, by omega, by go_num, by rw [HN.out]; simp, HB.out, HC.out⟩
    · have et : t = k := by omega
      subst et
      clear hb hc
      go_wp2
      go_quiet (fail)
      have HB2 := Lib.hid (HB.out.trans ((Same.drewN wr nq).below _))
      clear HB
      generalize wr.drewN nq = w2 at *
      go_wp2
      go_ret3
      exact ⟨rfl, HB2.out⟩
end Go.Proofs.YtmnebimijlnlkaaGreatDoor
namespace Go.Proofs.YtmnebimijlnlkaaGreatDoor
open Go.RowKit Abs
def markE : List UInt8 := [83, 76, 69, 49]
def trim0 (s : List UInt8) : List UInt8 := Lib.trimB s 0
def lastV (s : List UInt8) : Int × Int :=
  if Lib.hasPrefix s markE = true then
    (if (Sha.num ((s.drop 4).take 4) : Int) < 1 ∨ trim0 (s.drop 8) ≠ [] then (0, 2) else ((Sha.num ((s.drop 4).take 4) : Nat), 0))
  else if trim0 s = [] then (0, 0) else (0, 2)
def Dsk.lastE (d : Dsk) (i : Int) : Int × Int := if d.may i = 0 then lastV (d.sector i.toNat) else (0, d.may i)
theorem take_spec (s : ByteArray) (k : Nat) (hk1 : 1 ≤ k) (hk : k ≤ 6) (hs : k ≤ s.size) (hsz : s.size ≤ 140737488355327) (m : Mem) :
    Abs.Spec Tryz.prog 57 [.string s, .int .i64 (k : Nat)] m fun u M => u = .tuple #[.int .i64 (Sha.num (s.data.toList.take k) : Nat), .string (str (s.data.toList.drop k)), .int .i64 0] ∧ M = m := by
  have h := Abs.Spec.of_flat (P := Tryz.prog) (k := 57) (xs := [.string s, .int .i64 (k : Nat)]) (m := m) (v := .tuple #[.int .i64 (Sha.num (s.data.toList.take k) : Nat), .string (s.extract k s.size), .int .i64 0]) (by simp [flat]) rfl (fun w => take_any s k hk1 hk hs hsz w)
  have e : s.extract k s.size = str (s.data.toList.drop k) := by
    rw [← bsub_eq]
    unfold bsub str
    rw [List.take_of_length_le (by rw [List.length_drop, Array.length_toList]; exact Nat.le_refl _)]
  rw [e] at h
  exact h
theorem fixed_spec (n : Int) (k : Nat) (hk1 : 1 ≤ k) (hk : k ≤ 8) (m : Mem) :
    Abs.Spec Tryz.prog 122 [.int .i64 n, .int .i64 (k : Nat)] m fun u M => u = .string (str (Sha.fixed n k)) ∧ M = m :=
  Abs.Spec.of_flat (by simp [flat]) rfl fun w => fixed_any n k hk1 hk w
theorem beq_nilS (l : List UInt8) : beqB (str l) ⟨#[]⟩ = decide (l = []) := by
  show (l == []) = _
  cases l <;> simp
set_option maxRecDepth 100000 in
set_option maxHeartbeats 2000000 in
theorem last_spec (M : Mem) (p q g : Nat) (d : Dsk) (hd : DskAt M p q g d) (i : Int) :
    Abs.Spec Tryz.prog 52 [dp p, .int .i64 i] M fun u M' => u = .tuple #[.int .i64 (d.lastE i).1, .int .i64 (d.lastE i).2] ∧ M' = M := by
  refine Abs.Spec.walkM Tryz.func52 (by rfl) _ Tryz.results52 _ Tryz.ntmps52 (by simp [dp]) ?_
  intro hc hx k
  obtain ⟨E, hE⟩ : ∃ E, E = d.lastE i := ⟨_, rfl⟩
  rw [← hE]
  unfold Dsk.lastE at hE
  refine CW_seq (CW_region ?_)
  simp only [zZ, reduceIte, Nat.reduceLT, Int.reduceToNat, Int.reduceLE, Int.reduceEq, Int.reduceLT, Nat.reduceEqDiff, Nat.reduceAdd, zDk, pd_eql, pd_neq, pd_eql0, pd_neq0]
  refine CW_seq (CW_region ?_)
  simp only [zZ, reduceIte, Nat.reduceLT, Int.reduceToNat, Int.reduceLE, Int.reduceEq, Int.reduceLT, Nat.reduceEqDiff, Nat.reduceAdd, zDk, pd_eql, pd_neq, pd_eql0, pd_neq0]
  refine ⟨by kernel_rfl, _, read_spec M p q g d hd i, ?_⟩
  rintro _ M9 ⟨rfl, e9⟩; replace e9 := e9.symm; subst e9
  simp only [zZ, reduceIte, Nat.reduceLT, Int.reduceToNat, Int.reduceLE, Int.reduceEq, Int.reduceLT, Nat.reduceEqDiff, Nat.reduceAdd, zDk, pd_eql, pd_neq, pd_eql0, pd_neq0]
  unfold Dsk.read
  refine CW_seq (CW_seq (CW_region ?_))
  simp only [zZ, reduceIte, Nat.reduceLT, Int.reduceToNat, Int.reduceLE, Int.reduceEq, Int.reduceLT, Nat.reduceEqDiff, Nat.reduceAdd, zDk, pd_eql, pd_neq, pd_eql0, pd_neq0]
  by_cases hm : d.may i = 0
  · rw [if_pos hm] at hE ⊢
    have hlen : (d.sector i.toNat).length = 256 := by
      refine hd.ok.sector ?_
      have := hm
      unfold Dsk.may at this
      have hp := hd.ok.pos
      split at this
      · cases this
      · split at this
        · cases this
        · omega
    obtain ⟨s, hs⟩ : ∃ s, s = d.sector i.toNat := ⟨_, rfl⟩
    rw [← hs] at hE hlen ⊢
    simp only
    refine CW_cond false (by rfl) (fun h => by cases h) (fun _ => CW_skip ?_)
    simp only [zZ, reduceIte, Nat.reduceLT, Int.reduceToNat, Int.reduceLE, Int.reduceEq, Int.reduceLT, Nat.reduceEqDiff, Nat.reduceAdd, zDk, pd_eql, pd_neq, pd_eql0, pd_neq0]
    refine CW_seq (CW_region ?_)
    simp only [zZ, reduceIte, Nat.reduceLT, Int.reduceToNat, Int.reduceLE, Int.reduceEq, Int.reduceLT, Nat.reduceEqDiff, Nat.reduceAdd, zDk, pd_eql, pd_neq, pd_eql0, pd_neq0]
    refine ⟨by kernel_rfl, _, cutPrefix_spec (str s) (str markE) _, ?_⟩
    rintro _ M9 ⟨rfl, e9⟩; replace e9 := e9.symm; subst e9
    simp only [zZ, reduceIte, Nat.reduceLT, Int.reduceToNat, Int.reduceLE, Int.reduceEq, Int.reduceLT, Nat.reduceEqDiff, Nat.reduceAdd, zDk, pd_eql, pd_neq, pd_eql0, pd_neq0]
    have e1 : (str s).data.toList = s := rfl
    have e2 : (str markE).data.toList = markE := rfl
    rw [e1, e2]
    unfold lastV at hE
    refine CW_seq (CW_seq (CW_region ?_))
    simp only [zZ, reduceIte, Nat.reduceLT, Int.reduceToNat, Int.reduceLE, Int.reduceEq, Int.reduceLT, Nat.reduceEqDiff, Nat.reduceAdd, zDk, pd_eql, pd_neq, pd_eql0, pd_neq0]
    cases hpre : Lib.hasPrefix s markE
    · rw [hpre, if_neg (by simp)] at hE
      refine CW_cond true (by rfl) (fun _ => CW_seq (CW_seq (CW_region ?_))) (fun h => by cases h)
      simp only [zZ, reduceIte, Nat.reduceLT, Int.reduceToNat, Int.reduceLE, Int.reduceEq, Int.reduceLT, Nat.reduceEqDiff, Nat.reduceAdd, zDk, pd_eql, pd_neq, pd_eql0, pd_neq0]
      refine ⟨by kernel_rfl, _, trim_spec (str s) 0 (by decide) (by show s.length ≤ _; omega) _, ?_⟩
      rintro _ M9 ⟨rfl, e9⟩; replace e9 := e9.symm; subst e9
      rw [e1]
      simp only [zZ, reduceIte, Nat.reduceLT, Int.reduceToNat, Int.reduceLE, Int.reduceEq, Int.reduceLT, Nat.reduceEqDiff, Nat.reduceAdd, zDk, pd_eql, pd_neq, pd_eql0, pd_neq0, beq_nilS]
      refine CW_cond (decide (Lib.trimB s 0 = [])) (by rfl) (fun h => CW_seq (CW_region ?_)) (fun h => CW_skip ?_)
      · have h := of_decide_eq_true h
        simp only [zZ, reduceIte, Nat.reduceLT, Int.reduceToNat, Int.reduceLE, Int.reduceEq, Int.reduceLT, Nat.reduceEqDiff, Nat.reduceAdd, zDk, pd_eql, pd_neq, pd_eql0, pd_neq0]
        refine CW_ret ?_
        simp only [zZ, reduceIte, Nat.reduceLT, Int.reduceToNat, Int.reduceLE, Int.reduceEq, Int.reduceLT, Nat.reduceEqDiff, Nat.reduceAdd, zDk, pd_eql, pd_neq, pd_eql0, pd_neq0, mEnd, sAnswer, sAnswer.sRes]
        rw [if_pos (show trim0 s = [] from h)] at hE
        subst hE
        exact ⟨_, Thin.refl _, rfl, rfl⟩
      · have h := of_decide_eq_false h
        simp only [zZ, reduceIte, Nat.reduceLT, Int.reduceToNat, Int.reduceLE, Int.reduceEq, Int.reduceLT, Nat.reduceEqDiff, Nat.reduceAdd, zDk, pd_eql, pd_neq, pd_eql0, pd_neq0]
        refine CW_seq (CW_region ?_)
        simp only [zZ, reduceIte, Nat.reduceLT, Int.reduceToNat, Int.reduceLE, Int.reduceEq, Int.reduceLT, Nat.reduceEqDiff, Nat.reduceAdd, zDk, pd_eql, pd_neq, pd_eql0, pd_neq0]
        refine CW_ret ?_
        simp only [zZ, reduceIte, Nat.reduceLT, Int.reduceToNat, Int.reduceLE, Int.reduceEq, Int.reduceLT, Nat.reduceEqDiff, Nat.reduceAdd, zDk, pd_eql, pd_neq, pd_eql0, pd_neq0, mEnd, sAnswer, sAnswer.sRes]
        rw [if_neg (show ¬ trim0 s = [] from h)] at hE
        subst hE
        exact ⟨_, Thin.refl _, rfl, rfl⟩
    · rw [hpre, if_pos rfl] at hE
      refine CW_cond false (by rfl) (fun h => by cases h) (fun _ => CW_skip ?_)
      simp only [zZ, reduceIte, Nat.reduceLT, Int.reduceToNat, Int.reduceLE, Int.reduceEq, Int.reduceLT, Nat.reduceEqDiff, Nat.reduceAdd, zDk, pd_eql, pd_neq, pd_eql0, pd_neq0]
      have htp : Lib.trimPrefix s markE = s.drop 4 := by unfold Lib.trimPrefix; rw [if_pos hpre]; rfl
      rw [htp]
      refine CW_seq (CW_region ?_)
      simp only [zZ, reduceIte, Nat.reduceLT, Int.reduceToNat, Int.reduceLE, Int.reduceEq, Int.reduceLT, Nat.reduceEqDiff, Nat.reduceAdd, zDk, pd_eql, pd_neq, pd_eql0, pd_neq0]
      refine ⟨by kernel_rfl, _, take_spec (str (s.drop 4)) 4 (by omega) (by omega) (by show 4 ≤ (s.drop 4).length; simp; omega) (by show (s.drop 4).length ≤ _; simp; omega) _, ?_⟩
      rintro _ M9 ⟨rfl, e9⟩; replace e9 := e9.symm; subst e9
      have e3 : (str (s.drop 4)).data.toList = s.drop 4 := rfl
      rw [e3, List.drop_drop]
      obtain ⟨n, hn⟩ : ∃ n, n = Sha.num ((s.drop 4).take 4) := ⟨_, rfl⟩
      rw [← hn] at hE ⊢
      simp only [zZ, reduceIte, Nat.reduceLT, Int.reduceToNat, Int.reduceLE, Int.reduceEq, Int.reduceLT, Nat.reduceEqDiff, Nat.reduceAdd, zDk, pd_eql, pd_neq, pd_eql0, pd_neq0, Nat.reduceAdd]
      refine CW_seq (CW_seq (CW_region ?_))
      have e4 : (str (s.drop 8)).data.toList = s.drop 8 := rfl
      have fin : ∀ b : Bool, (b = true ↔ ((n : Int) < 1 ∨ trim0 (s.drop 8) ≠ [])) → E = if b = true then (0, 2) else ((n : Int), 0) := fun b hb => by
        rw [hE]
        by_cases h : (n : Int) < 1 ∨ trim0 (s.drop 8) ≠ []
        · rw [if_pos h, if_pos (hb.2 h)]
        · rw [if_neg h, if_neg (fun q => h (hb.1 q))]
      have tail : ∀ b : Bool, (b = true ↔ ((n : Int) < 1 ∨ trim0 (s.drop 8) ≠ [])) → True := fun _ _ => trivial
      cases q1 : decide ((n : Int) < 1)
      · have q1' := of_decide_eq_false q1
        simp only [zZ, reduceIte, Nat.reduceLT, Int.reduceToNat, Int.reduceLE, Int.reduceEq, Int.reduceLT, Nat.reduceEqDiff, Nat.reduceAdd, zDk, pd_eql, pd_neq, pd_eql0, pd_neq0, q1]
        refine ⟨by kernel_rfl, _, trim_spec (str (s.drop 8)) 0 (by decide) (by show (s.drop 8).length ≤ _; simp; omega) _, ?_⟩
        rintro _ M9 ⟨rfl, e9⟩; replace e9 := e9.symm; subst e9
        rw [e4]
        simp only [zZ, reduceIte, Nat.reduceLT, Int.reduceToNat, Int.reduceLE, Int.reduceEq, Int.reduceLT, Nat.reduceEqDiff, Nat.reduceAdd, zDk, pd_eql, pd_neq, pd_eql0, pd_neq0, bne, beq_nilS, q1]
        refine CW_cond (!decide (Lib.trimB (s.drop 8) 0 = [])) (by rfl) (fun h => CW_seq (CW_region ?_)) (fun h => CW_skip ?_)
        · simp only [zZ, reduceIte, Nat.reduceLT, Int.reduceToNat, Int.reduceLE, Int.reduceEq, Int.reduceLT, Nat.reduceEqDiff, Nat.reduceAdd, zDk, pd_eql, pd_neq, pd_eql0, pd_neq0]
          refine CW_ret ?_
          simp only [zZ, reduceIte, Nat.reduceLT, Int.reduceToNat, Int.reduceLE, Int.reduceEq, Int.reduceLT, Nat.reduceEqDiff, Nat.reduceAdd, zDk, pd_eql, pd_neq, pd_eql0, pd_neq0, mEnd, sAnswer, sAnswer.sRes]
          have := fin true (by simpa using .inr (by simpa [trim0] using h))
          subst this
          exact ⟨_, Thin.refl _, rfl, rfl⟩
        · simp only [zZ, reduceIte, Nat.reduceLT, Int.reduceToNat, Int.reduceLE, Int.reduceEq, Int.reduceLT, Nat.reduceEqDiff, Nat.reduceAdd, zDk, pd_eql, pd_neq, pd_eql0, pd_neq0]
          refine CW_seq (CW_region ?_)
          simp only [zZ, reduceIte, Nat.reduceLT, Int.reduceToNat, Int.reduceLE, Int.reduceEq, Int.reduceLT, Nat.reduceEqDiff, Nat.reduceAdd, zDk, pd_eql, pd_neq, pd_eql0, pd_neq0]
          refine CW_ret ?_
          simp only [zZ, reduceIte, Nat.reduceLT, Int.reduceToNat, Int.reduceLE, Int.reduceEq, Int.reduceLT, Nat.reduceEqDiff, Nat.reduceAdd, zDk, pd_eql, pd_neq, pd_eql0, pd_neq0, mEnd, sAnswer, sAnswer.sRes]
          have := fin false (by
            have h : trim0 (s.drop 8) = [] := by simpa [trim0] using h
            simp [h]; omega)
          subst this
          exact ⟨_, Thin.refl _, rfl, rfl⟩
      · have q1' := of_decide_eq_true q1
        simp only [zZ, reduceIte, Nat.reduceLT, Int.reduceToNat, Int.reduceLE, Int.reduceEq, Int.reduceLT, Nat.reduceEqDiff, Nat.reduceAdd, zDk, pd_eql, pd_neq, pd_eql0, pd_neq0, q1]
        refine CW_cond true (by rfl) (fun _ => CW_seq (CW_region ?_)) (fun h => by cases h)
        simp only [zZ, reduceIte, Nat.reduceLT, Int.reduceToNat, Int.reduceLE, Int.reduceEq, Int.reduceLT, Nat.reduceEqDiff, Nat.reduceAdd, zDk, pd_eql, pd_neq, pd_eql0, pd_neq0]
        refine CW_ret ?_
        simp only [zZ, reduceIte, Nat.reduceLT, Int.reduceToNat, Int.reduceLE, Int.reduceEq, Int.reduceLT, Nat.reduceEqDiff, Nat.reduceAdd, zDk, pd_eql, pd_neq, pd_eql0, pd_neq0, mEnd, sAnswer, sAnswer.sRes]
        have := fin true (by simpa using .inl q1')
        subst this
        exact ⟨_, Thin.refl _, rfl, rfl⟩
  · rw [if_neg hm] at hE ⊢
    refine CW_cond true (by simp only; simp [hm, AL.look, AL.get]) (fun _ => CW_seq (CW_region ?_)) (fun h => by cases h)
    simp only [zZ, reduceIte, Nat.reduceLT, Int.reduceToNat, Int.reduceLE, Int.reduceEq, Int.reduceLT, Nat.reduceEqDiff, Nat.reduceAdd, zDk, pd_eql, pd_neq, pd_eql0, pd_neq0]
    refine CW_ret ?_
    simp only [zZ, reduceIte, Nat.reduceLT, Int.reduceToNat, Int.reduceLE, Int.reduceEq, Int.reduceLT, Nat.reduceEqDiff, Nat.reduceAdd, zDk, pd_eql, pd_neq, pd_eql0, pd_neq0, mEnd, sAnswer, sAnswer.sRes]
    subst hE
    exact ⟨_, Thin.refl _, rfl, rfl⟩
end Go.Proofs.YtmnebimijlnlkaaGreatDoor
namespace Go.Proofs.YtmnebimijlnlkaaGreatDoor
open Go.RowKit
set_option maxHeartbeats 400000 in
theorem extract_any (salt secret : ByteArray) (w : World) (h1 : salt.size ≤ 140737488355000) (h2 : secret.size ≤ 140737488355000) :
    Calls Tryz.prog 50 #[.string salt, .string secret] w fun e w' => e = .returned (.string (str (Sha.tag salt.data.toList secret.data.toList))) ∧ Below w.heap.size w w' := by
  have hj : joined [secret] = secret.data.toList := by simp [joined]
  have hl : secret.data.toList.length = secret.size := by rw [Array.length_toList]; rfl
  have HJ := Lib.hid hj
  have HL := Lib.hid hl
  clear hj hl
  go_enter Tryz.func50, Tryz.ntmps50
  go_wp2_with fail
  refine (tag_any salt (.slice (some ⟨w.heap.size, 0, none⟩) 1 1) [secret] _ (SliceOf.litS _ _ rfl _ 9 1 rfl (by decide) _ rfl) (by omega) (by simp [maxLen]) (by rw [HJ.out, HL.out]; exact h2)).mono ?_
  rintro e w1 ⟨rfl, hb⟩
  rw [HJ.out]
  go_wp2_with fail
  go_ret
  exact ⟨rfl, ((Below.refl w.heap.size w).alloc (Nat.le_refl _) _).trans (hb.mono (by simp))⟩
theorem fixed_one (j : Nat) (hj : j < 255) : Sha.fixed ((j : Int) + 1) (1 : Int).toNat = [UInt8.ofNat (j + 1)] := by
  show Sha.fixed ((j : Int) + 1) 1 = _
  simp only [Sha.fixed, List.nil_append]
  have : (((j : Int) + 1) % 256).toNat = j + 1 := by omega
  rw [this]
set_option maxRecDepth 100000 in
set_option maxHeartbeats 1000000 in
theorem expand_any (key info : ByteArray) (n : Nat) (hn1 : 1 ≤ n) (hn : n ≤ 8160) (w : World) (hk : key.size ≤ 140737488355000) (hi : info.size ≤ 1000000) :
    Calls Tryz.prog 94 #[.string key, .string info, .int .i64 n] w fun e w' => e = .returned (.tuple #[.string (str (Sha.expand key.data.toList info.data.toList n)), .int .i64 0]) ∧ Below w.heap.size w w' := by
  obtain ⟨i0, hi0, hz0, hz1, hz2⟩ := info_parts info_byte
  have n1 : (1 : Int) ≤ n := by omega
  have n2 : (n : Int) ≤ 8160 := by omega
  have hil : info.data.toList.length = info.size := by rw [Array.length_toList]; rfl
  have HIL := Lib.hid hil
  clear hil
  go_enter Tryz.func94, Tryz.ntmps94
  go_wp2_with fail
  go_loopg [8, 9, 10] 256 (fun k v t i wr => ∃ j : Nat, j + k = 256 ∧ 32 * j ≤ n + 31 ∧ i = .int .i64 ((j : Int) + 1) ∧ t = .string (str (Sha.parts key.data.toList info.data.toList j).1) ∧ Below w.heap.size w wr ∧
    wr.ownsRow w.heap.size 5 1 v (32 * j) (bytesV (Sha.parts key.data.toList info.data.toList j).2))
  case atStart => exact ⟨0, by omega, by omega, rfl, rfl, Below.refl _ _, World.ownsRow_nil _ _ _ _⟩
  case round =>
    obtain ⟨j, hjk, hjn, rfl, rfl, hb, hown⟩ := hrel
    have HO := Lib.hid hown
    have HB := Lib.hid hb
    have hsz := hb.size
    obtain ⟨av, capv, hv, hel⟩ := elems_of_owned byteV hown
    rw [Sha.parts_length] at hv
    subst hv
    have hcap : 32 * j ≤ capv := by
      rcases hel with ⟨h0, _⟩ | ⟨_, _, _, _, hlc, _⟩
      · have := congrArg List.length h0; rw [Sha.parts_length] at this; simp at this; omega
      · rw [Sha.parts_length] at hlc; exact hlc
    have HEL : Hid (ElemsAt bytesS wr av capv (Sha.parts key.data.toList info.data.toList j).2) := hel
    have HPL := Lib.hid (Sha.parts_length key.data.toList info.data.toList j)
    clear hown hb hel
    by_cases hlt : 32 * j < n
    · have hlt' : (32 * (j : Int)) < n := by omega
      obtain ⟨bt, hbt⟩ : ∃ bt, bt = UInt8.ofNat (j + 1) := ⟨_, rfl⟩
      have HBT := Lib.hid hbt
      have hst : Hid (Sha.parts key.data.toList info.data.toList (j + 1) = (Sha.tag key.data.toList ((Sha.parts key.data.toList info.data.toList j).1 ++ (info.data.toList ++ [bt])), (Sha.parts key.data.toList info.data.toList j).2 ++ Sha.tag key.data.toList ((Sha.parts key.data.toList info.data.toList j).1 ++ (info.data.toList ++ [bt])))) := by rw [hbt]; rfl
      have ht1 : (Sha.parts key.data.toList info.data.toList j).1.length ≤ 32 := by
        cases j with
        | zero => simp [Sha.parts]
        | succ j => simp [Sha.parts, Sha.tag_length]
      have HT1 := Lib.hid ht1
      clear ht1 hbt
      go_wp2_with fail
      refine (fixed_i _ _ (by decide) (by decide) _).mono ?_
      rintro e w1 ⟨rfl, hb1⟩
      rw [fixed_one j (by omega), ← HBT.out]
      have HO1 := Lib.hid (ownsRow_below HO.out hb1)
      have HB1 := Lib.hid (HB.out.trans (hb1.mono hsz))
      have hsz1 := HB1.out.size
      clear hb1 HO HB
      have hj : joined [str (Sha.parts key.data.toList info.data.toList j).1, info, str [bt]] = (Sha.parts key.data.toList info.data.toList j).1 ++ (info.data.toList ++ [bt]) := by simp [joined, str]
      have HJ := Lib.hid hj
      have hjl : Hid ((joined [str (Sha.parts key.data.toList info.data.toList j).1, info, str [bt]]).length ≤ 140737488355000) := by
        have h3 := HT1.out
        have h4 := HIL.out
        show _ ≤ _
        rw [hj]; simp only [List.length_append, List.length_singleton]; omega
      clear hj
      go_wp2_with fail
      refine (tag_any key (.slice (some ⟨w1.heap.size, 0, none⟩) 3 3) [str (Sha.parts key.data.toList info.data.toList j).1, info, str [bt]] _ (SliceOf.litS _ _ rfl _ 9 3 rfl (by decide) _ rfl) (by omega) (by simp [maxLen]) hjl.out).mono ?_
      rintro e w2 ⟨rfl, hb2⟩
      rw [HJ.out]
      obtain ⟨tg, htg⟩ : ∃ tg, tg = Sha.tag key.data.toList ((Sha.parts key.data.toList info.data.toList j).1 ++ (info.data.toList ++ [bt])) := ⟨_, rfl⟩
      have htl : (str tg).size = 32 := by rw [str_size, htg, Sha.tag_length]
      rw [← htg] at hst ⊢
      have HO2 := Lib.hid (ownsRow_below (HO1.out.alloc (.cells #[.string (str (Sha.parts key.data.toList info.data.toList j).1), .string info, .string (str [bt])] 9)) hb2)
      have HB2 := Lib.hid ((HB1.out.alloc hsz1 (.cells #[.string (str (Sha.parts key.data.toList info.data.toList j).1), .string info, .string (str [bt])] 9)).trans (hb2.mono (by simp; omega)))
      have hsz2 := HB2.out.size
      have HTL := Lib.hid htl
      clear hb2 htg htl HO1 HB1
      go_wp2_with (at_builtin; refine Lib.wpList_append_own_string _ rfl _ _ 49 9 rfl w.heap.size 5 i0 Tryz.underlying49 Tryz.underlying9 hi0 hz0 hz1 hz2 _ _ _ rfl HO2.out (str tg) rfl (by rw [HTL.out]; simp [maxLen]; omega) (by rw [HTL.out]; omega) hsz2 ?_)
      intro v3 w3 hown3 hgr3 _
      have hb3 : Below w.heap.size w w3 := HB2.out.grown hgr3 hsz2 (fun k hk => (HO2.out.lt k hk).1)
      have hown4 : w3.ownsRow w.heap.size 5 1 v3 (32 * (j + 1)) (bytesV (Sha.parts key.data.toList info.data.toList (j + 1)).2) := by
        rw [hst.out]
        have e : bytesV ((Sha.parts key.data.toList info.data.toList j).2 ++ tg) = bytesV (Sha.parts key.data.toList info.data.toList j).2 ++ Lib.strCells (str tg) := by simp only [bytesV, List.map_append]; rfl
        rw [e, show 32 * (j + 1) = 32 * j + (str tg).size by rw [HTL.out]; omega]
        exact hown3
      have HO4 := Lib.hid hown4
      have HB4 := Lib.hid hb3
      have hp1 : Hid ((Sha.parts key.data.toList info.data.toList (j + 1)).1 = tg) := by rw [hst.out]; rfl
      clear hown3 hgr3 hb3 hown4
      go_wp2_with fail
      go_roundg (gk - 1)
      case measure => omega
      case rel => exact ⟨j + 1, by omega, by omega, by go_num, by rw [hp1.out], HB4.out, HO4.out⟩
    · have hge : ¬ (32 * (j : Int)) < n := by omega
      have hcap' : (n : Int) ≤ capv := by omega
      have hexp : Hid (Sha.expand key.data.toList info.data.toList n = (Sha.parts key.data.toList info.data.toList j).2.take n) := by
        show _ = _
        have e : (n + 31) / 32 = j := by omega
        rw [Sha.expand, e]
      generalize hP : (Sha.parts key.data.toList info.data.toList j).2 = P2 at *
      have hl2 : (P2.take n).length = n := by rw [List.length_take, HPL.out]; omega
      obtain ⟨b6, off6, rfl, _, _⟩ := HEL.out.byte (i := 0) (by rw [HPL.out]; omega)
      have hcv := run_convert_bytes_back (P := Tryz.prog) wr 49 9 5 ⟨b6, off6, none⟩ capv (P2.take n) Tryz.underlying49 Tryz.underlying5 Tryz.underlying9 (fun i hi => by
        obtain ⟨b7, off7, e7, _, h7⟩ := (HEL.out.take n).byte hi
        cases e7
        have e8 : (⟨b6, off6, none⟩ : Addr).add i = ⟨b6, off6 + i, none⟩ := by cases i <;> simp [Addr.add]
        rw [e8, h7]
        rw [List.getD_eq_getElem?_getD, List.getElem?_eq_getElem hi]
        rfl)
      rw [hl2] at hcv
      obtain ⟨res, hres⟩ : ∃ res, res = P2.take n := ⟨_, rfl⟩
      rw [← hres] at hcv hexp
      clear hl2 hres hP
      go_wp2
      go_ret2
      exact ⟨by rw [hexp.out]; rfl, HB.out⟩
end Go.Proofs.YtmnebimijlnlkaaGreatDoor
namespace Go.Proofs.YtmnebimijlnlkaaGreatDoor
open Go.RowKit
set_option maxHeartbeats 400000 in
theorem of_any (name key : ByteArray) (w : World) (hk : key.size ≤ 140737488355000) (hi : name.size ≤ 1000000) :
    Calls Tryz.prog 51 #[.string name, .string key] w fun e w' => e = .returned (.string (str (Sha.expand key.data.toList name.data.toList 32))) ∧ Below w.heap.size w w' := by
  go_enter Tryz.func51, Tryz.ntmps51
  go_wp2_with fail
  refine (expand_any key name 32 (by decide) (by decide) _ hk hi).mono ?_
  rintro e w1 ⟨rfl, hb⟩
  go_wp2_with fail
  go_ret
  exact ⟨rfl, hb⟩
def keysV (secret salt : List UInt8) : Value := .agg #[.string (str (Sha.encKey secret salt)), .string (str (Sha.macKey secret salt)), .string (str (Sha.headKey secret))]
set_option maxHeartbeats 1000000 in
theorem keys_any (secret salt : ByteArray) (w : World) (h1 : secret.size ≤ 140737488355000) (h2 : salt.size ≤ 140737488355000) :
    Calls Tryz.prog 25 #[.string secret, .string salt] w fun e w' => e = .returned (keysV secret.data.toList salt.data.toList) ∧ Below w.heap.size w w' := by
  have ht : ∀ a b, (str (Sha.tag a b)).size ≤ 140737488355000 := fun a b => by rw [str_size, Sha.tag_length]; decide
  have HT := Lib.hid ht
  clear ht
  go_enter Tryz.func25, Tryz.ntmps25
  go_wp2_with fail
  refine (extract_any salt secret _ h2 h1).mono ?_
  rintro e w1 ⟨rfl, hb1⟩
  have hB1 : Below w.heap.size w w1 := ((Below.refl w.heap.size w).alloc (Nat.le_refl _) _).trans (hb1.mono (by simp))
  have hg1 : w1.heap[w.heap.size]? = _ := heap_below (heap_alloc_new _ _) hb1
  have HB1 := Lib.hid hB1
  have HG1 := Lib.hid hg1
  have hs1 := hB1.size
  clear hb1 hB1 hg1
  go_wp2_with fail
  refine (of_any (str Sha.forBytes) _ _ (HT.out _ _) (by decide)).mono ?_
  rintro e w2 ⟨rfl, hb2⟩
  have HB2 := Lib.hid (HB1.out.trans (hb2.mono hs1))
  have HG2 := Lib.hid (heap_below HG1.out hb2)
  have hs2 := HB2.out.size
  clear hb2 HB1 HG1
  go_wp2_with fail
  refine (of_any (str Sha.forTags) _ _ (HT.out _ _) (by decide)).mono ?_
  rintro e w3 ⟨rfl, hb3⟩
  have HB3 := Lib.hid (HB2.out.trans (hb3.mono hs2))
  have HG3 := Lib.hid (heap_below HG2.out hb3)
  have hs3 := HB3.out.size
  clear hb3 HB2 HG2
  go_wp2_with fail
  refine (extract_any (str []) secret _ (by decide) h1).mono ?_
  rintro e w4 ⟨rfl, hb4⟩
  have HB4 := Lib.hid (HB3.out.trans (hb4.mono hs3))
  have HG4 := Lib.hid (heap_below HG3.out hb4)
  have hs4 := HB4.out.size
  clear hb4 HB3 HG3
  go_wp2_with fail
  refine (of_any (str Sha.forHeads) _ _ (HT.out _ _) (by decide)).mono ?_
  rintro e w5 ⟨rfl, hb5⟩
  have HB5 := Lib.hid (HB4.out.trans (hb5.mono hs4))
  have hg5 := heap_below HG4.out hb5
  clear hb5 HB4 HG4
  have c0 := cell_of hg5 0
  have c1 := cell_of hg5 1
  have c2 := cell_of hg5 2
  have z0 := frozen_of hg5 0
  have z1 := frozen_of hg5 1
  have z2 := frozen_of hg5 2
  simp at c0 c1 c2
  have HG5 := Lib.hid hg5
  clear hg5
  have hb6 := ((HB5.out.setCell (p := ⟨w.heap.size, 0, none⟩) (Nat.le_refl _) (.string (str (Sha.encKey secret.data.toList salt.data.toList)))).setCell (p := ⟨w.heap.size, 1, none⟩) (Nat.le_refl _) (.string (str (Sha.macKey secret.data.toList salt.data.toList)))).setCell (p := ⟨w.heap.size, 2, none⟩) (Nat.le_refl _) (.string (str (Sha.headKey secret.data.toList)))
  have hW := heap_setCell (heap_setCell (heap_setCell HG5.out 0 (.string (str (Sha.encKey secret.data.toList salt.data.toList)))) 1 (.string (str (Sha.macKey secret.data.toList salt.data.toList)))) 2 (.string (str (Sha.headKey secret.data.toList)))
  have HW := Lib.hid hW
  have HB6 := Lib.hid hb6
  clear hW hb6
  go_wp2
  refine bodyPost_ret (v := keysV secret.data.toList salt.data.toList) ?r ?d ?fin
  case fin => exact ⟨rfl, HB6.out⟩
  case d => rfl
  case r => exact results_cell_row Tryz.results25 _ _ w.heap.size _ _ (0, 0) _ rfl HW.out Tryz.underlying67 rfl (by kernel_rfl)
end Go.Proofs.YtmnebimijlnlkaaGreatDoor
namespace Go.Proofs.YtmnebimijlnlkaaGreatDoor
open Go.RowKit Abs
theorem keys_spec (secret salt : ByteArray) (h1 : secret.size ≤ 140737488355000) (h2 : salt.size ≤ 140737488355000) (m : Mem) :
    Abs.Spec Tryz.prog 25 [.string secret, .string salt] m fun u M => u = keysV secret.data.toList salt.data.toList ∧ M = m :=
  Abs.Spec.of_flat (by simp [flat]) rfl fun w => keys_any secret salt w h1 h2
def zeroExt : List Value := [.int .i64 0, .string ⟨#[]⟩, .int .i64 0, .int .i64 0, .int .i64 0, .string ⟨#[]⟩, .string ⟨#[]⟩, .int .i64 0]
def zeroRec : List Value := zeroExt ++ [.int .i64 0, .int .u64 0, .int .u64 0, .int .u64 0, .int .u64 0]
theorem bd_Ext0 : aBuild Tryz.prog 75 [] = some (.agg zeroExt.toArray) := by kernel_rfl
theorem bd_Rec0 : aBuild Tryz.prog 85 [] = some (.agg zeroRec.toArray) := by kernel_rfl
theorem Only.setNew {M M1 : Mem} (h : Only [] M M1) {k : Nat} (hk : M.size ≤ k) (o : Option Blk) : Only [] M (M1.set k o) := fun b x hb hx => by
  rw [Mem.get_set_ne (by have := get_live hx; omega)]
  exact h b x hb hx
theorem trim_zero : trim0 (List.replicate 256 0) = [] := by decide +kernel
set_option maxRecDepth 100000 in
set_option maxHeartbeats 2000000 in
theorem ctake_blank (M : Mem) (s : List UInt8) (hs : s.length = 256) (h0 : trim0 s = []) :
    Abs.Spec Tryz.prog 27 [.string (str s)] M fun u M' => u = .tuple #[.agg zeroExt.toArray, .int .i64 8] ∧ Only [] M M' ∧ M.size ≤ M'.size := by
  refine Abs.Spec.walkM Tryz.func27 (by rfl) _ Tryz.results27 _ Tryz.ntmps27 (by simp) ?_
  intro hc hx k
  have hal : nAlloc Tryz.prog 75 = some (.cells false (aStride Tryz.prog 75) zeroExt) := al_Ext
  generalize aStride Tryz.prog 75 = s1 at hal
  have e1 : (str s).data.toList = s := rfl
  refine CW_seq (CW_region ?_)
  simp only [zZ, reduceIte, Nat.reduceLT, Int.reduceToNat, Int.reduceLE, Int.reduceEq, Int.reduceLT, Nat.reduceEqDiff, Nat.reduceAdd, zDk, pd_eql, pd_neq, pd_eql0, pd_neq0, hal]
  obtain ⟨M1, hM1⟩ : ∃ M1, M1 = M.push (.cells false s1 zeroExt) := ⟨_, rfl⟩
  have hg1 : M1.get M.size = some (.cells false s1 zeroExt) := by rw [hM1, Mem.get_push_new]
  have ho1 : Only [] M M1 := by rw [hM1]; exact Only.push _ _ _
  have hs1 : M1.size = M.size + 1 := by rw [hM1, Mem.size_push]
  rw [← hM1]
  clear hM1
  refine CW_seq (CW_region ?_)
  simp only [zZ, reduceIte, Nat.reduceLT, Int.reduceToNat, Int.reduceLE, Int.reduceEq, Int.reduceLT, Nat.reduceEqDiff, Nat.reduceAdd, zDk, pd_eql, pd_neq, pd_eql0, pd_neq0]
  refine ⟨by kernel_rfl, _, cutPrefix_spec (str s) _ _, ?_⟩
  rintro _ M9 ⟨rfl, e9⟩; replace e9 := e9.symm; subst e9
  simp only [zZ, reduceIte, Nat.reduceLT, Int.reduceToNat, Int.reduceLE, Int.reduceEq, Int.reduceLT, Nat.reduceEqDiff, Nat.reduceAdd, zDk, pd_eql, pd_neq, pd_eql0, pd_neq0]
  refine CW_seq (CW_block (CW_seq (CW_region ?_)))
  simp only [zZ, reduceIte, Nat.reduceLT, Int.reduceToNat, Int.reduceLE, Int.reduceEq, Int.reduceLT, Nat.reduceEqDiff, Nat.reduceAdd, zDk, pd_eql, pd_neq, pd_eql0, pd_neq0]
  refine ⟨by kernel_rfl, _, trim_spec (str s) 0 (by decide) (by show s.length ≤ _; omega) _, ?_⟩
  rintro _ M9 ⟨rfl, e9⟩; replace e9 := e9.symm; subst e9
  have h0' : Lib.trimB (str s).data.toList 0 = [] := h0
  rw [h0']
  simp only [zZ, reduceIte, Nat.reduceLT, Int.reduceToNat, Int.reduceLE, Int.reduceEq, Int.reduceLT, Nat.reduceEqDiff, Nat.reduceAdd, zDk, pd_eql, pd_neq, pd_eql0, pd_neq0, beq_nilS]
  refine CW_cond true (by rfl) (fun _ => CW_seq (CW_region ?_)) (fun h => by cases h)
  have hput : putIn 8 M1 M.size 0 zeroExt (M1.get M.size) = some (M1.set M.size (some (.cells false s1 zeroExt))) := by rw [hg1]; rfl
  have hgs : (M1.set M.size (some (.cells false s1 zeroExt))).get M.size = some (.cells false s1 zeroExt) := Mem.get_set_same hg1 _
  have hrow : rowIn 8 0 (some (.cells false s1 zeroExt)) = some (.agg zeroExt.toArray) := rfl
  simp only [zZ, reduceIte, Nat.reduceLT, Int.reduceToNat, Int.reduceLE, Int.reduceEq, Int.reduceLT, Nat.reduceEqDiff, Nat.reduceAdd, zDk, pd_eql, pd_neq, pd_eql0, pd_neq0, bd_Ext0, agg_cells, hput]
  refine CW_ret ?_
  simp only [zZ, reduceIte, Nat.reduceLT, Int.reduceToNat, Int.reduceLE, Int.reduceEq, Int.reduceLT, Nat.reduceEqDiff, Nat.reduceAdd, zDk, pd_eql, pd_neq, pd_eql0, pd_neq0, mEnd, sAnswer, sAnswer.sRes, aLoad_g, hgs, hrow]
  exact ⟨_, Thin.refl _, ho1.setNew (Nat.le_refl _) _, by rw [Mem.size_set, hs1]; omega⟩
theorem jblank_spec (M : Mem) (s : List UInt8) (hs : s.length ≤ 1000000) :
    Abs.Spec Tryz.prog 61 [.string (str s)] M fun u M' => u = .bool (decide (trim0 s = [])) ∧ M' = M := by
  refine Abs.Spec.walkM Tryz.func61 (by rfl) _ Tryz.results61 _ Tryz.ntmps61 (by simp) ?_
  intro hc hx k
  refine CW_seq (CW_region ?_)
  simp only [zZ, reduceIte, Nat.reduceLT, Int.reduceToNat, Int.reduceLE, Int.reduceEq, Int.reduceLT, Nat.reduceEqDiff, Nat.reduceAdd, zDk, pd_eql, pd_neq, pd_eql0, pd_neq0]
  refine CW_seq (CW_region ?_)
  simp only [zZ, reduceIte, Nat.reduceLT, Int.reduceToNat, Int.reduceLE, Int.reduceEq, Int.reduceLT, Nat.reduceEqDiff, Nat.reduceAdd, zDk, pd_eql, pd_neq, pd_eql0, pd_neq0]
  refine ⟨by kernel_rfl, _, trim_spec (str s) 0 (by decide) (by show s.length ≤ _; omega) _, ?_⟩
  rintro _ M9 ⟨rfl, e9⟩; replace e9 := e9.symm; subst e9
  simp only [zZ, reduceIte, Nat.reduceLT, Int.reduceToNat, Int.reduceLE, Int.reduceEq, Int.reduceLT, Nat.reduceEqDiff, Nat.reduceAdd, zDk, pd_eql, pd_neq, pd_eql0, pd_neq0, beq_nilS]
  refine CW_ret ?_
  simp only [zZ, reduceIte, Nat.reduceLT, Int.reduceToNat, Int.reduceLE, Int.reduceEq, Int.reduceLT, Nat.reduceEqDiff, Nat.reduceAdd, zDk, pd_eql, pd_neq, pd_eql0, pd_neq0, mEnd, sAnswer, sAnswer.sRes]
  exact ⟨_, Thin.refl _, rfl, rfl⟩
set_option maxRecDepth 100000 in
set_option maxHeartbeats 2000000 in
theorem jtake_blank (M : Mem) (s : List UInt8) (hs : s.length = 256) (h0 : trim0 s = []) :
    Abs.Spec Tryz.prog 31 [.string (str s)] M fun u M' => u = .tuple #[.agg zeroRec.toArray, .int .i64 8] ∧ Only [] M M' ∧ M.size ≤ M'.size := by
  refine Abs.Spec.walkM Tryz.func31 (by rfl) _ Tryz.results31 _ Tryz.ntmps31 (by simp) ?_
  intro hc hx k
  have hal : nAlloc Tryz.prog 85 = some (.cells false (aStride Tryz.prog 85) zeroRec) := al_Rec
  generalize aStride Tryz.prog 85 = s1 at hal
  refine CW_seq (CW_region ?_)
  simp only [zZ, reduceIte, Nat.reduceLT, Int.reduceToNat, Int.reduceLE, Int.reduceEq, Int.reduceLT, Nat.reduceEqDiff, Nat.reduceAdd, zDk, pd_eql, pd_neq, pd_eql0, pd_neq0, hal]
  obtain ⟨M1, hM1⟩ : ∃ M1, M1 = M.push (.cells false s1 zeroRec) := ⟨_, rfl⟩
  have hg1 : M1.get M.size = some (.cells false s1 zeroRec) := by rw [hM1, Mem.get_push_new]
  have ho1 : Only [] M M1 := by rw [hM1]; exact Only.push _ _ _
  have hs1 : M1.size = M.size + 1 := by rw [hM1, Mem.size_push]
  rw [← hM1]
  clear hM1
  refine CW_seq (CW_block (CW_seq (CW_region ?_)))
  simp only [zZ, reduceIte, Nat.reduceLT, Int.reduceToNat, Int.reduceLE, Int.reduceEq, Int.reduceLT, Nat.reduceEqDiff, Nat.reduceAdd, zDk, pd_eql, pd_neq, pd_eql0, pd_neq0]
  refine ⟨by kernel_rfl, _, jblank_spec _ s (by omega), ?_⟩
  rintro _ M9 ⟨rfl, e9⟩; replace e9 := e9.symm; subst e9
  rw [h0]
  simp only [zZ, reduceIte, Nat.reduceLT, Int.reduceToNat, Int.reduceLE, Int.reduceEq, Int.reduceLT, Nat.reduceEqDiff, Nat.reduceAdd, zDk, pd_eql, pd_neq, pd_eql0, pd_neq0]
  refine CW_cond true (by rfl) (fun _ => CW_seq (CW_region ?_)) (fun h => by cases h)
  have hput : putIn 13 M1 M.size 0 zeroRec (M1.get M.size) = some (M1.set M.size (some (.cells false s1 zeroRec))) := by rw [hg1]; rfl
  have hgs : (M1.set M.size (some (.cells false s1 zeroRec))).get M.size = some (.cells false s1 zeroRec) := Mem.get_set_same hg1 _
  have hrow : rowIn 13 0 (some (.cells false s1 zeroRec)) = some (.agg zeroRec.toArray) := rfl
  simp only [zZ, reduceIte, Nat.reduceLT, Int.reduceToNat, Int.reduceLE, Int.reduceEq, Int.reduceLT, Nat.reduceEqDiff, Nat.reduceAdd, zDk, pd_eql, pd_neq, pd_eql0, pd_neq0, bd_Rec0, agg_cells, hput]
  refine CW_ret ?_
  simp only [zZ, reduceIte, Nat.reduceLT, Int.reduceToNat, Int.reduceLE, Int.reduceEq, Int.reduceLT, Nat.reduceEqDiff, Nat.reduceAdd, zDk, pd_eql, pd_neq, pd_eql0, pd_neq0, mEnd, sAnswer, sAnswer.sRes, aLoad_g, hgs, hrow]
  exact ⟨_, Thin.refl _, ho1.setNew (Nat.le_refl _) _, by rw [Mem.size_set, hs1]; omega⟩
end Go.Proofs.YtmnebimijlnlkaaGreatDoor
namespace Go.Proofs.YtmnebimijlnlkaaGreatDoor
open Go.RowKit Abs
structure BlankD (d : Dsk) (e : Int) : Prop where
  ok : d.Ok
  live : d.dead = false
  zeros : ∀ i, 1 ≤ i → i < d.old.length → d.sector i = List.replicate 256 0
  epoch : d.lastE 0 = (e, 0)
  pos : 0 ≤ e ∧ e ≤ 4294967295
theorem BlankD.may {d : Dsk} {e : Int} (h : BlankD d e) {i : Nat} (hi : i < d.old.length) : d.may (i : Int) = 0 := by
  unfold Dsk.may
  rw [if_neg (by rw [h.live]; simp), if_neg (by omega)]
theorem BlankD.trim {d : Dsk} {e : Int} (h : BlankD d e) {i : Nat} (h1 : 1 ≤ i) (hi : i < d.old.length) : (d.sector i).length = 256 ∧ trim0 (d.sector i) = [] := by
  rw [h.zeros i h1 hi]; exact ⟨List.length_replicate, trim_zero⟩
def scnC (p gl n : Nat) (key : ByteArray) : List Value := [dp p, .string key, .slice (some ⟨gl, 0, none⟩) n n, .slice none 0 0, .slice none 0 0]
structure ScnAt (M : Mem) (sp p gl n : Nat) (key : ByteArray) (secs : List Value) : Prop where
  row : ∃ s, M.get sp = some (.cells false s (scnC p gl n key))
  l : M.get gl = some (.cells false 3 secs)
  len : secs.length = n * 3
  ne : sp ≠ gl
theorem ScnAt.same {M M' : Mem} {sp p gl n : Nat} {key : ByteArray} {secs : List Value} (h : ScnAt M sp p gl n key secs) {l : List Nat} (hs : Only l M M') (h1 : sp ∉ l) (h2 : gl ∉ l) : ScnAt M' sp p gl n key secs :=
  ⟨h.row.imp fun _ hr => hs _ _ h1 hr, hs _ _ h2 h.l, h.len, h.ne⟩
set_option maxRecDepth 100000 in
set_option maxHeartbeats 2000000 in
theorem sread_spec (M : Mem) (sp p q g gl n : Nat) (key : ByteArray) (secs : List Value) (d : Dsk) (hd : DskAt M p q g d) (hs : ScnAt M sp p gl n key secs) (i : Int) (hm : d.may i = 0) :
    Abs.Spec Tryz.prog 28 [dp sp, .int .i64 i] M fun u M' => u = .string (str (d.sector i.toNat)) ∧ M' = M := by
  refine Abs.Spec.walkM Tryz.func28 (by rfl) _ Tryz.results28 _ Tryz.ntmps28 (by simp [dp]) ?_
  intro hc hx k
  obtain ⟨s, hr⟩ := hs.row
  unfold scnC at hr
  have hdp : dp sp = .pointer (some ⟨sp, 0, none⟩) := rfl
  have hrd : d.read i = (d.sector i.toNat, 0) := by unfold Dsk.read; rw [if_pos hm]
  refine CW_seq (CW_region ?_)
  simp only [zZ, reduceIte, Nat.reduceLT, Int.reduceToNat, Int.reduceLE, Int.reduceEq, Int.reduceLT, Nat.reduceEqDiff, Nat.reduceAdd, zDk, pd_eql, pd_neq, pd_eql0, pd_neq0]
  refine CW_seq (CW_region ?_)
  simp only [zZ, reduceIte, Nat.reduceLT, Int.reduceToNat, Int.reduceLE, Int.reduceEq, Int.reduceLT, Nat.reduceEqDiff, Nat.reduceAdd, zDk, pd_eql, pd_neq, pd_eql0, pd_neq0, hdp, hr]
  refine ⟨by kernel_rfl, _, read_spec M p q g d hd i, ?_⟩
  rintro _ M9 ⟨rfl, e9⟩; replace e9 := e9.symm; subst e9
  rw [hrd]
  simp only [zZ, reduceIte, Nat.reduceLT, Int.reduceToNat, Int.reduceLE, Int.reduceEq, Int.reduceLT, Nat.reduceEqDiff, Nat.reduceAdd, zDk, pd_eql, pd_neq, pd_eql0, pd_neq0]
  refine CW_seq (CW_seq (CW_region ?_))
  simp only [zZ, reduceIte, Nat.reduceLT, Int.reduceToNat, Int.reduceLE, Int.reduceEq, Int.reduceLT, Nat.reduceEqDiff, Nat.reduceAdd, zDk, pd_eql, pd_neq, pd_eql0, pd_neq0]
  refine CW_cond false (by rfl) (fun h => by cases h) (fun _ => CW_skip ?_)
  simp only [zZ, reduceIte, Nat.reduceLT, Int.reduceToNat, Int.reduceLE, Int.reduceEq, Int.reduceLT, Nat.reduceEqDiff, Nat.reduceAdd, zDk, pd_eql, pd_neq, pd_eql0, pd_neq0]
  refine CW_seq (CW_region ?_)
  simp only [zZ, reduceIte, Nat.reduceLT, Int.reduceToNat, Int.reduceLE, Int.reduceEq, Int.reduceLT, Nat.reduceEqDiff, Nat.reduceAdd, zDk, pd_eql, pd_neq, pd_eql0, pd_neq0]
  refine CW_ret ?_
  simp only [zZ, reduceIte, Nat.reduceLT, Int.reduceToNat, Int.reduceLE, Int.reduceEq, Int.reduceLT, Nat.reduceEqDiff, Nat.reduceAdd, zDk, pd_eql, pd_neq, pd_eql0, pd_neq0, mEnd, sAnswer, sAnswer.sRes]
  exact ⟨_, Thin.refl _, rfl⟩
set_option maxRecDepth 100000 in
set_option maxHeartbeats 2000000 in
theorem splace_none (M : Mem) (sp : Nat) (i kind : Int) (xs : List Value) (hx0 : oneAll xs = true) :
    Abs.Spec Tryz.prog 29 [dp sp, .int .i64 i, .int .i64 kind, .agg xs.toArray, .int .i64 8] M fun u M' => u = .bool false ∧ Only [] M M' ∧ M.size ≤ M'.size := by
  refine Abs.Spec.walkM Tryz.func29 (by rfl) _ Tryz.results29 _ Tryz.ntmps29 (by simp [dp]) ?_
  intro hc hx k
  have hbx : nBox Tryz.prog 75 (.agg xs.toArray) = some (.cells false (aStride Tryz.prog 75) xs) := bx_Ext xs.toArray hx0
  generalize aStride Tryz.prog 75 = s1 at hbx
  refine CW_seq (CW_region ?_)
  simp only [zZ, reduceIte, Nat.reduceLT, Int.reduceToNat, Int.reduceLE, Int.reduceEq, Int.reduceLT, Nat.reduceEqDiff, Nat.reduceAdd, zDk, pd_eql, pd_neq, pd_eql0, pd_neq0, hbx]
  refine CW_seq (CW_seq (CW_region ?_))
  simp only [zZ, reduceIte, Nat.reduceLT, Int.reduceToNat, Int.reduceLE, Int.reduceEq, Int.reduceLT, Nat.reduceEqDiff, Nat.reduceAdd, zDk, pd_eql, pd_neq, pd_eql0, pd_neq0]
  refine CW_cond true (by rfl) (fun _ => CW_seq (CW_region ?_)) (fun h => by cases h)
  simp only [zZ, reduceIte, Nat.reduceLT, Int.reduceToNat, Int.reduceLE, Int.reduceEq, Int.reduceLT, Nat.reduceEqDiff, Nat.reduceAdd, zDk, pd_eql, pd_neq, pd_eql0, pd_neq0]
  refine CW_ret ?_
  simp only [zZ, reduceIte, Nat.reduceLT, Int.reduceToNat, Int.reduceLE, Int.reduceEq, Int.reduceLT, Nat.reduceEqDiff, Nat.reduceAdd, zDk, pd_eql, pd_neq, pd_eql0, pd_neq0, mEnd, sAnswer, sAnswer.sRes]
  exact ⟨_, Thin.refl _, Only.push _ _ _, by rw [Mem.size_push]; omega⟩
set_option maxRecDepth 100000 in
set_option maxHeartbeats 2000000 in
theorem sepoch_spec (M : Mem) (sp p q g gl n : Nat) (key : ByteArray) (secs : List Value) (d : Dsk) (e : Int) (hb : BlankD d e) (hd : DskAt M p q g d) (hs : ScnAt M sp p gl n key secs) (hn : 0 < n) :
    Abs.Spec Tryz.prog 26 [dp sp] M fun u M' => ScnAt M' sp p gl n key (if 0 < e then setL secs 0 [.int .i64 1, .int .i64 0, .int .i64 e] else secs) ∧ Only [gl] M M' ∧ M'.size = M.size := by
  refine Abs.Spec.walkM Tryz.func26 (by rfl) _ Tryz.results26 _ Tryz.ntmps26 (by simp [dp]) ?_
  intro hc hx k
  obtain ⟨s, hr⟩ := hs.row
  unfold scnC at hr
  have hdp : dp sp = .pointer (some ⟨sp, 0, none⟩) := rfl
  refine CW_seq (CW_region ?_)
  simp only [zZ, reduceIte, Nat.reduceLT, Int.reduceToNat, Int.reduceLE, Int.reduceEq, Int.reduceLT, Nat.reduceEqDiff, Nat.reduceAdd, zDk, pd_eql, pd_neq, pd_eql0, pd_neq0, hdp, hr]
  refine ⟨by kernel_rfl, _, last_spec M p q g d hd 0, ?_⟩
  rintro _ M9 ⟨rfl, e9⟩; replace e9 := e9.symm; subst e9
  rw [hb.epoch]
  simp only [zZ, reduceIte, Nat.reduceLT, Int.reduceToNat, Int.reduceLE, Int.reduceEq, Int.reduceLT, Nat.reduceEqDiff, Nat.reduceAdd, zDk, pd_eql, pd_neq, pd_eql0, pd_neq0]
  refine CW_block (CW_seq (CW_region ?_))
  simp only [zZ, reduceIte, Nat.reduceLT, Int.reduceToNat, Int.reduceLE, Int.reduceEq, Int.reduceLT, Nat.reduceEqDiff, Nat.reduceAdd, zDk, pd_eql, pd_neq, pd_eql0, pd_neq0]
  refine CW_cond false (by rfl) (fun h => by cases h) (fun _ => CW_seq (CW_region ?_))
  simp only [zZ, reduceIte, Nat.reduceLT, Int.reduceToNat, Int.reduceLE, Int.reduceEq, Int.reduceLT, Nat.reduceEqDiff, Nat.reduceAdd, zDk, pd_eql, pd_neq, pd_eql0, pd_neq0]
  refine CW_cond (decide (e > 0)) (by rfl) (fun h => CW_region ?_) (fun h => CW_skip ?_)
  · have h := of_decide_eq_true h
    rw [if_pos (by omega)]
    have hbd : aBuild Tryz.prog 27 [(0, .int .i64 1), (2, .int .i64 e)] = some (.agg #[.int .i64 1, .int .i64 0, .int .i64 e]) := by kernel_rfl
    have hput : putIn 3 M gl 0 [.int .i64 1, .int .i64 0, .int .i64 e] (M.get gl) = some (M.set gl (some (.cells false 3 (setL secs 0 [.int .i64 1, .int .i64 0, .int .i64 e])))) := by
      rw [hs.l]
      simp only [putIn]
      rw [if_pos ⟨rfl, by rw [hs.len]; simp only [List.length_cons, List.length_nil]; omega, rfl⟩]
    simp only [zZ, reduceIte, Nat.reduceLT, Int.reduceToNat, Int.reduceLE, Int.reduceEq, Int.reduceLT, Nat.reduceEqDiff, Nat.reduceAdd, zDk, pd_eql, pd_neq, pd_eql0, pd_neq0, hr, hbd, hput, mEnd, sAnswer, sAnswer.sRes]
    refine ⟨by omega, _, Thin.refl _, ⟨⟨s, by rw [Mem.get_set_ne (Ne.symm hs.ne)]; exact hr⟩, Mem.get_set_same hs.l _, by simpa using hs.len, hs.ne⟩, Only.set (by simp) _, by rw [Mem.size_set]⟩
  · have h := of_decide_eq_false h
    rw [if_neg (by omega)]
    simp only [zZ, reduceIte, Nat.reduceLT, Int.reduceToNat, Int.reduceLE, Int.reduceEq, Int.reduceLT, Nat.reduceEqDiff, Nat.reduceAdd, zDk, pd_eql, pd_neq, pd_eql0, pd_neq0, mEnd, sAnswer, sAnswer.sRes]
    exact ⟨M, Thin.refl _, hs, Only.refl _ _, rfl⟩
set_option maxRecDepth 100000 in
set_option maxHeartbeats 2000000 in
theorem sstrays_spec (M : Mem) (sp p q g gl : Nat) (key : ByteArray) (secs : List Value) (d : Dsk) (e : Int) (hb : BlankD d e) (hd : DskAt M p q g d) (hs : ScnAt M sp p gl d.old.length key secs) (hz : ∀ i, 3 ≤ i → i < secs.length → secs[i]? = some (.int .i64 0)) :
    Abs.Spec Tryz.prog 33 [dp sp] M fun u M' => M' = M := by
  refine Abs.Spec.walkM Tryz.func33 (by rfl) _ Tryz.results33 _ Tryz.ntmps33 (by simp [dp]) ?_
  intro hc hx k
  obtain ⟨s, hr⟩ := hs.row
  unfold scnC at hr
  have hn := hb.ok.n
  have hdp : dp sp = .pointer (some ⟨sp, 0, none⟩) := rfl
  refine CW_seq (CW_region ?_)
  simp only [zZ, reduceIte, Nat.reduceLT, Int.reduceToNat, Int.reduceLE, Int.reduceEq, Int.reduceLT, Nat.reduceEqDiff, Nat.reduceAdd, zDk, pd_eql, pd_neq, pd_eql0, pd_neq0]
  refine CW_block (MW_loop (fun j f M' => ∃ i : Nat, 13 ≤ i ∧ j = d.old.length - i ∧ f = [(0, dp sp), (2, .int .i64 (i : Nat))] ∧ M' = M) (d.old.length - 13) ?_ ?_)
  · refine ⟨[0, 2], ?_⟩
    simp only [zZ, reduceIte, Nat.reduceLT, Int.reduceToNat, Int.reduceLE, Int.reduceEq, Int.reduceLT, Nat.reduceEqDiff, Nat.reduceAdd, keepF]
    exact ⟨M, Thin.refl _, 13, Nat.le_refl _, rfl, rfl, rfl⟩
  · rintro j f M' ⟨i, hi, rfl, rfl, e9⟩; subst e9
    refine CW_seq (CW_seq (CW_region ?_))
    simp only [zZ, reduceIte, Nat.reduceLT, Int.reduceToNat, Int.reduceLE, Int.reduceEq, Int.reduceLT, Nat.reduceEqDiff, Nat.reduceAdd, zDk, pd_eql, pd_neq, pd_eql0, pd_neq0, hdp, hr]
    refine ⟨by kernel_rfl, _, dlen_spec M' p q g d hd, ?_⟩
    rintro _ M9 ⟨rfl, e9⟩; replace e9 := e9.symm; subst e9
    simp only [zZ, reduceIte, Nat.reduceLT, Int.reduceToNat, Int.reduceLE, Int.reduceEq, Int.reduceLT, Nat.reduceEqDiff, Nat.reduceAdd, zDk, pd_eql, pd_neq, pd_eql0, pd_neq0]
    refine CW_cond (decide ((i : Int) < (d.old.length : Int))) (by rfl) (fun h => CW_skip ?_) (fun h => CW_exit ?_)
    · have h := of_decide_eq_true h
      have hil : i < d.old.length := by omega
      have g0 : (0 : Int) ≤ (i : Int) := by omega
      have hcell : cellIn (i * 3) (some (.cells false 3 secs)) = some (.int .i64 0) := by
        unfold cellIn
        exact hz _ (by omega) (by rw [hs.len]; omega)
      have htr := hb.trim (i := i) (by omega) hil
      have w1 : IntKind.i64.wrap ((i : Int) + 1) = ((i + 1 : Nat) : Int) := by rw [wri (by omega) (by omega)]; omega
      simp only [zZ, reduceIte, Nat.reduceLT, Int.reduceToNat, Int.reduceLE, Int.reduceEq, Int.reduceLT, Nat.reduceEqDiff, Nat.reduceAdd]
      refine CW_seq (CW_block (CW_seq (CW_region ?_)))
      have q0 : ((0 : Int) == 0) = true := rfl
      simp only [zZ, reduceIte, Nat.reduceLT, Int.reduceToNat, Int.reduceLE, Int.reduceEq, Int.reduceLT, Nat.reduceEqDiff, Nat.reduceAdd, zDk, pd_eql, pd_neq, pd_eql0, pd_neq0, hr, g0, h, and_self, hs.l, hcell, q0]
      refine ⟨by kernel_rfl, _, sread_spec M' sp p q g gl d.old.length key secs d hd hs (i : Int) (hb.may hil), ?_⟩
      rintro _ M9 ⟨rfl, e9⟩; replace e9 := e9.symm; subst e9
      rw [Int.toNat_natCast]
      simp only [zZ, reduceIte, Nat.reduceLT, Int.reduceToNat, Int.reduceLE, Int.reduceEq, Int.reduceLT, Nat.reduceEqDiff, Nat.reduceAdd, zDk, pd_eql, pd_neq, pd_eql0, pd_neq0]
      refine ⟨by kernel_rfl, _, trim_spec (str (d.sector i)) 0 (by decide) (by show (d.sector i).length ≤ _; omega) _, ?_⟩
      rintro _ M9 ⟨rfl, e9⟩; replace e9 := e9.symm; subst e9
      have h0' : Lib.trimB (str (d.sector i)).data.toList 0 = [] := htr.2
      rw [h0']
      simp only [zZ, reduceIte, Nat.reduceLT, Int.reduceToNat, Int.reduceLE, Int.reduceEq, Int.reduceLT, Nat.reduceEqDiff, Nat.reduceAdd, zDk, pd_eql, pd_neq, pd_eql0, pd_neq0, bne, beq_nilS, q0]
      refine CW_cond false (by rfl) (fun h => by cases h) (fun _ => CW_skip ?_)
      simp only [zZ, reduceIte, Nat.reduceLT, Int.reduceToNat, Int.reduceLE, Int.reduceEq, Int.reduceLT, Nat.reduceEqDiff, Nat.reduceAdd, zDk, pd_eql, pd_neq, pd_eql0, pd_neq0]
      refine CW_region ?_
      simp only [zZ, reduceIte, Nat.reduceLT, Int.reduceToNat, Int.reduceLE, Int.reduceEq, Int.reduceLT, Nat.reduceEqDiff, Nat.reduceAdd, zDk, pd_eql, pd_neq, pd_eql0, pd_neq0, w1]
      refine ⟨[0, 2], ?_⟩
      simp only [zZ, reduceIte, Nat.reduceLT, Int.reduceToNat, Int.reduceLE, Int.reduceEq, Int.reduceLT, Nat.reduceEqDiff, Nat.reduceAdd, keepF]
      exact ⟨M', Thin.refl _, d.old.length - (i + 1), ⟨i + 1, by omega, rfl, rfl, rfl⟩, by omega⟩
    · simp only [zZ, reduceIte, Nat.reduceLT, Int.reduceToNat, Int.reduceLE, Int.reduceEq, Int.reduceLT, Nat.reduceEqDiff, Nat.reduceAdd, zDk, pd_eql, pd_neq, pd_eql0, pd_neq0, mEnd, sAnswer, sAnswer.sRes]
      exact ⟨M', Thin.refl _, rfl⟩
end Go.Proofs.YtmnebimijlnlkaaGreatDoor
namespace Go.Proofs.YtmnebimijlnlkaaGreatDoor
open Go.RowKit Abs
theorem push_set (m : Mem) (x y : Blk) : (m.push x).set m.size (some y) = m.push y := by
  unfold Mem.push Mem.set Mem.size
  simp
end Go.Proofs.YtmnebimijlnlkaaGreatDoor
namespace Go.Proofs.YtmnebimijlnlkaaGreatDoor
open Go.RowKit Abs
theorem mk_Secs (m : Mem) (n : Nat) (hn : n ≤ 1000000) : aMakeSlice Tryz.prog m 23 (.int .i64 (n : Nat)) (.int .i64 (n : Nat)) = some (.slice (some ⟨m.size, 0, none⟩) n n, m.push (.cells false 3 (List.replicate (n * 3) (.int .i64 0)))) := by
  have hz : Tryz.t27.zero = some (.agg #[.int .i64 0, .int .i64 0, .int .i64 0]) := rfl
  have hb : Tryz.t27.bytes ≤ 100 := by decide
  have hs : Tryz.t27.size = 3 := rfl
  unfold aMakeSlice
  simp only [Tryz.underlying23, inf_Sec, hz, hs]
  have hc : ((Tryz.t27.bytes : Nat) : Int) * ((n : Nat) : Int) ≤ 281474976710656 := by
    have : Tryz.t27.bytes * n ≤ 100 * 1000000 := Nat.mul_le_mul hb hn
    rw [← Int.natCast_mul]; omega
  rw [if_pos ⟨rfl, by decide, rfl, by omega, Int.le_refl _, hc, by omega⟩]
  simp only [Int.toNat_natCast]
  congr 4
  show (List.range (n * 3)).map (fun i => (([.int .i64 0, .int .i64 0, .int .i64 0] : List Value)[i % 3]?).getD default) = _
  apply List.ext_getElem?
  intro i
  rw [List.getElem?_map, List.getElem?_replicate]
  by_cases hi : i < n * 3
  · rw [List.getElem?_range hi, if_pos hi]
    have : i % 3 = 0 ∨ i % 3 = 1 ∨ i % 3 = 2 := by omega
    rcases this with h | h | h <;> simp [h]
  · rw [if_neg hi, List.getElem?_eq_none (by simpa using hi)]
    rfl
def secsV (e : Int) (n : Nat) : List Value := if 0 < e then setL (List.replicate (n * 3) (.int .i64 0)) 0 [.int .i64 1, .int .i64 0, .int .i64 e] else List.replicate (n * 3) (.int .i64 0)
theorem secsV_zero (e : Int) (n : Nat) {i : Nat} (h3 : 3 ≤ i) (hi : i < n * 3) : (secsV e n)[i]? = some (.int .i64 0) := by
  unfold secsV
  split
  · rw [setL_get _ _ _ _ (by simp; omega), if_neg (by simp only [List.length_cons, List.length_nil]; omega), List.getElem?_replicate, if_pos hi]
  · rw [List.getElem?_replicate, if_pos hi]
theorem secsV_len (e : Int) (n : Nat) : (secsV e n).length = n * 3 := by
  unfold secsV
  split
  · rw [setL_length, List.length_replicate]
  · rw [List.length_replicate]
set_option maxRecDepth 100000 in
set_option maxHeartbeats 4000000 in
theorem scan_blank (M : Mem) (p q g : Nat) (d : Dsk) (e : Int) (hb : BlankD d e) (hd : DskAt M p q g d) (secret : ByteArray) (hsec : secret.size ≤ 1000000) (hn : 13 ≤ d.old.length) :
    Abs.Spec Tryz.prog 10 [dp p, .string secret] M fun u M' => ∃ gl, u = .tuple #[.slice (some ⟨gl, 0, none⟩) d.old.length d.old.length, .slice none 0 0, .int .i64 0] ∧ M'.get gl = some (.cells false 3 (secsV e d.old.length)) ∧ M.size ≤ gl ∧ Only [] M M' ∧ M.size ≤ M'.size := by
  refine Abs.Spec.walkM Tryz.func10 (by rfl) _ Tryz.results10 _ Tryz.ntmps10 (by simp [dp]) ?_
  intro hc hx k
  have hN := hb.ok.n
  have hpl : p < M.size := by obtain ⟨s, h⟩ := hd.row; exact get_live h
  have hql : q < M.size := get_live hd.kv
  have hgl0 : g < M.size := get_live hd.old
  refine CW_seq (CW_region ?_)
  simp only [zZ, reduceIte, Nat.reduceLT, Int.reduceToNat, Int.reduceLE, Int.reduceEq, Int.reduceLT, Nat.reduceEqDiff, Nat.reduceAdd, zDk, pd_eql, pd_neq, pd_eql0, pd_neq0]
  refine CW_seq (CW_block (CW_seq (CW_region ?_)))
  simp only [zZ, reduceIte, Nat.reduceLT, Int.reduceToNat, Int.reduceLE, Int.reduceEq, Int.reduceLT, Nat.reduceEqDiff, Nat.reduceAdd, zDk, pd_eql, pd_neq, pd_eql0, pd_neq0]
  refine ⟨by kernel_rfl, _, dlen_spec M p q g d hd, ?_⟩
  rintro _ M9 ⟨rfl, e9⟩; replace e9 := e9.symm; subst e9
  simp only [zZ, reduceIte, Nat.reduceLT, Int.reduceToNat, Int.reduceLE, Int.reduceEq, Int.reduceLT, Nat.reduceEqDiff, Nat.reduceAdd, zDk, pd_eql, pd_neq, pd_eql0, pd_neq0]
  refine CW_cond (decide ((d.old.length : Int) < 13)) (by rfl) (fun h => absurd (of_decide_eq_true h) (by omega)) (fun h => CW_seq (CW_region ?_))
  simp only [zZ, reduceIte, Nat.reduceLT, Int.reduceToNat, Int.reduceLE, Int.reduceEq, Int.reduceLT, Nat.reduceEqDiff, Nat.reduceAdd, zDk, pd_eql, pd_neq, pd_eql0, pd_neq0]
  refine ⟨by kernel_rfl, _, dead_spec M p q g d hd, ?_⟩
  rintro _ M9 ⟨rfl, e9⟩; replace e9 := e9.symm; subst e9
  rw [hb.live]
  simp only [zZ, reduceIte, Nat.reduceLT, Int.reduceToNat, Int.reduceLE, Int.reduceEq, Int.reduceLT, Nat.reduceEqDiff, Nat.reduceAdd, zDk, pd_eql, pd_neq, pd_eql0, pd_neq0]
  refine CW_cond false (by rfl) (fun h => by cases h) (fun h => CW_skip ?_)
  simp only [zZ, reduceIte, Nat.reduceLT, Int.reduceToNat, Int.reduceLE, Int.reduceEq, Int.reduceLT, Nat.reduceEqDiff, Nat.reduceAdd, zDk, pd_eql, pd_neq, pd_eql0, pd_neq0]
  refine CW_seq (CW_region ?_)
  simp only [zZ, reduceIte, Nat.reduceLT, Int.reduceToNat, Int.reduceLE, Int.reduceEq, Int.reduceLT, Nat.reduceEqDiff, Nat.reduceAdd, zDk, pd_eql, pd_neq, pd_eql0, pd_neq0]
  refine ⟨by kernel_rfl, _, keys_spec secret _ (by omega) (by decide) M, ?_⟩
  rintro _ M9 ⟨rfl, e9⟩; replace e9 := e9.symm; subst e9
  obtain ⟨key, hkey⟩ : ∃ key, key = str (Sha.headKey secret.data.toList) := ⟨_, rfl⟩
  have hkv : keysV secret.data.toList (⟨#[]⟩ : ByteArray).data.toList = .agg #[.string (str (Sha.encKey secret.data.toList [])), .string (str (Sha.macKey secret.data.toList [])), .string key] := by rw [hkey]; rfl
  rw [hkv]
  have hfld : vField Tryz.prog 67 (some (.agg #[.string (str (Sha.encKey secret.data.toList [])), .string (str (Sha.macKey secret.data.toList [])), .string key])) 2 = some (.string key) := by rfl
  simp only [zZ, reduceIte, Nat.reduceLT, Int.reduceToNat, Int.reduceLE, Int.reduceEq, Int.reduceLT, Nat.reduceEqDiff, Nat.reduceAdd, zDk, pd_eql, pd_neq, pd_eql0, pd_neq0, hfld]
  refine ⟨by kernel_rfl, _, dlen_spec M p q g d hd, ?_⟩
  rintro _ M9 ⟨rfl, e9⟩; replace e9 := e9.symm; subst e9
  have hbd : aBuild Tryz.prog 71 [(0, .pointer (some ⟨p, 0, none⟩)), (1, .string key), (2, .slice (some ⟨M.size, 0, none⟩) d.old.length d.old.length)] = some (.agg #[.pointer (some ⟨p, 0, none⟩), .string key, .slice (some ⟨M.size, 0, none⟩) d.old.length d.old.length, .slice none 0 0, .slice none 0 0]) := by kernel_rfl
  have hbx : nBox Tryz.prog 71 (.agg #[.pointer (some ⟨p, 0, none⟩), .string key, .slice (some ⟨M.size, 0, none⟩) d.old.length d.old.length, .slice none 0 0, .slice none 0 0]) = some (.cells false (aStride Tryz.prog 71) [.pointer (some ⟨p, 0, none⟩), .string key, .slice (some ⟨M.size, 0, none⟩) d.old.length d.old.length, .slice none 0 0, .slice none 0 0]) := bx_Scn _ rfl
  generalize aStride Tryz.prog 71 = s1 at hbx
  have hdp : dp p = .pointer (some ⟨p, 0, none⟩) := rfl
  simp only [zZ, reduceIte, Nat.reduceLT, Int.reduceToNat, Int.reduceLE, Int.reduceEq, Int.reduceLT, Nat.reduceEqDiff, Nat.reduceAdd, zDk, pd_eql, pd_neq, pd_eql0, pd_neq0, mk_Secs M d.old.length (by omega), hdp, hbd, hbx]
  obtain ⟨M1, hM1⟩ : ∃ M1, M1 = (M.push (.cells false 3 (List.replicate (d.old.length * 3) (.int .i64 0)))).push (.cells false s1 [.pointer (some ⟨p, 0, none⟩), .string key, .slice (some ⟨M.size, 0, none⟩) d.old.length d.old.length, .slice none 0 0, .slice none 0 0]) := ⟨_, rfl⟩
  obtain ⟨gl, hgl⟩ : ∃ gl, gl = M.size := ⟨_, rfl⟩
  obtain ⟨sp, hsp⟩ : ∃ sp, sp = M.size + 1 := ⟨_, rfl⟩
  have hg1 : M1.get gl = some (.cells false 3 (List.replicate (d.old.length * 3) (.int .i64 0))) := by rw [hM1, hgl, Mem.get_push_old (by rw [Mem.size_push]; omega), Mem.get_push_new]
  have hsp1 : M1.get sp = some (.cells false s1 (scnC p gl d.old.length key)) := by
    have := Mem.get_push_new (M.push (.cells false 3 (List.replicate (d.old.length * 3) (.int .i64 0)))) (.cells false s1 [.pointer (some ⟨p, 0, none⟩), .string key, .slice (some ⟨M.size, 0, none⟩) d.old.length d.old.length, .slice none 0 0, .slice none 0 0])
    rw [Mem.size_push] at this
    rw [hM1, hsp, this, hgl]; rfl
  have ho1 : Only [] M M1 := by rw [hM1]; exact (Only.push _ _ _).trans (Only.push _ _ _)
  have hs1 : M1.size = M.size + 2 := by rw [hM1]; simp only [Mem.size_push]
  rw [Mem.size_push, ← hM1, ← hsp, ← hgl]
  have hd1 : DskAt M1 p q g d := hd.only ho1 (by simp) (by simp) (by simp)
  have hsc1 : ScnAt M1 sp p gl d.old.length key (List.replicate (d.old.length * 3) (.int .i64 0)) := ⟨⟨s1, hsp1⟩, hg1, by simp, by omega⟩
  refine CW_seq (CW_region ?_)
  simp only [zZ, reduceIte, Nat.reduceLT, Int.reduceToNat, Int.reduceLE, Int.reduceEq, Int.reduceLT, Nat.reduceEqDiff, Nat.reduceAdd, zDk, pd_eql, pd_neq, pd_eql0, pd_neq0]
  refine ⟨by kernel_rfl, _, sepoch_spec M1 sp p q g gl d.old.length key _ d e hb hd1 hsc1 (by omega), ?_⟩
  rintro u0 M2 ⟨hsc2, ho2, hs2⟩
  have hsv : (if 0 < e then setL (List.replicate (d.old.length * 3) (.int .i64 0)) 0 [.int .i64 1, .int .i64 0, .int .i64 e] else List.replicate (d.old.length * 3) (.int .i64 0)) = secsV e d.old.length := rfl
  rw [hsv] at hsc2
  have hd2 : DskAt M2 p q g d := hd1.only ho2 (by simp; omega) (by simp; omega) (by simp; omega)
  have ho2' : Only [] M M2 := fun b x _ hx => by
    have := get_live hx
    exact ho2 b x (by simp; omega) (ho1 b x (by simp) hx)
  simp only [zZ, reduceIte, Nat.reduceLT, Int.reduceToNat, Int.reduceLE, Int.reduceEq, Int.reduceLT, Nat.reduceEqDiff, Nat.reduceAdd, zDk, pd_eql, pd_neq, pd_eql0, pd_neq0]
  have hloop : ∀ M', Only [] M2 M' → DskAt M' p q g d ∧ ScnAt M' sp p gl d.old.length key (secsV e d.old.length) := fun M' ho => ⟨hd2.only ho (by simp) (by simp) (by simp), hsc2.same ho (by simp) (by simp)⟩
  refine CW_seq (CW_seq (CW_region ?_))
  simp only [zZ, reduceIte, Nat.reduceLT, Int.reduceToNat, Int.reduceLE, Int.reduceEq, Int.reduceLT, Nat.reduceEqDiff, Nat.reduceAdd, zDk, pd_eql, pd_neq, pd_eql0, pd_neq0]
  refine CW_block (MW_loop (fun j f M' => ∃ i : Nat, j = 8 - i ∧ i ≤ 8 ∧ f = [(0, .pointer (some ⟨p, 0, none⟩)), (7, .pointer (some ⟨sp, 0, none⟩)), (35, .int .i64 (i : Nat))] ∧ Only [] M2 M' ∧ M2.size ≤ M'.size) 8 ?_ ?_)
  · refine ⟨[0, 7, 35], ?_⟩
    simp only [zZ, reduceIte, Nat.reduceLT, Int.reduceToNat, Int.reduceLE, Int.reduceEq, Int.reduceLT, Nat.reduceEqDiff, Nat.reduceAdd, keepF]
    exact ⟨M2, Thin.refl _, 0, rfl, by omega, rfl, Only.refl _ _, Nat.le_refl _⟩
  · rintro j f M' ⟨i, rfl, hi8, rfl, ho, hss⟩
    obtain ⟨hd', hsc'⟩ := hloop M' ho
    refine CW_seq (CW_region ?_)
    simp only [zZ, reduceIte, Nat.reduceLT, Int.reduceToNat, Int.reduceLE, Int.reduceEq, Int.reduceLT, Nat.reduceEqDiff, Nat.reduceAdd, zDk, pd_eql, pd_neq, pd_eql0, pd_neq0]
    refine CW_seq (CW_cond (decide ((i : Int) < 8)) (by rfl) (fun h => CW_skip ?_) (fun h => CW_exit ?_))
    · have h := of_decide_eq_true h
      have hi : i < 8 := by omega
      have w1 : IntKind.i64.wrap (5 + (i : Int)) = ((5 + i : Nat) : Int) := by rw [wri (by omega) (by omega)]; omega
      have w2 : IntKind.i64.wrap ((i : Int) + 1) = ((i + 1 : Nat) : Int) := by rw [wri (by omega) (by omega)]; omega
      have htr := hb.trim (i := 5 + i) (by omega) (by omega)
      simp only [zZ, reduceIte, Nat.reduceLT, Int.reduceToNat, Int.reduceLE, Int.reduceEq, Int.reduceLT, Nat.reduceEqDiff, Nat.reduceAdd]
      refine CW_seq (CW_block (CW_seq (CW_region ?_)))
      simp only [zZ, reduceIte, Nat.reduceLT, Int.reduceToNat, Int.reduceLE, Int.reduceEq, Int.reduceLT, Nat.reduceEqDiff, Nat.reduceAdd, zDk, pd_eql, pd_neq, pd_eql0, pd_neq0]
      refine CW_seq (CW_region ?_)
      simp only [zZ, reduceIte, Nat.reduceLT, Int.reduceToNat, Int.reduceLE, Int.reduceEq, Int.reduceLT, Nat.reduceEqDiff, Nat.reduceAdd, zDk, pd_eql, pd_neq, pd_eql0, pd_neq0, w1]
      refine CW_seq (CW_region ?_)
      simp only [zZ, reduceIte, Nat.reduceLT, Int.reduceToNat, Int.reduceLE, Int.reduceEq, Int.reduceLT, Nat.reduceEqDiff, Nat.reduceAdd, zDk, pd_eql, pd_neq, pd_eql0, pd_neq0]
      refine ⟨by kernel_rfl, _, sread_spec M' sp p q g gl d.old.length key _ d hd' hsc' ((5 + i : Nat) : Int) (hb.may (by omega)), ?_⟩
      rintro _ M9 ⟨rfl, e9⟩; replace e9 := e9.symm; subst e9
      rw [Int.toNat_natCast]
      simp only [zZ, reduceIte, Nat.reduceLT, Int.reduceToNat, Int.reduceLE, Int.reduceEq, Int.reduceLT, Nat.reduceEqDiff, Nat.reduceAdd, zDk, pd_eql, pd_neq, pd_eql0, pd_neq0]
      refine ⟨by kernel_rfl, _, ctake_blank M' _ htr.1 htr.2, ?_⟩
      rintro _ M3 ⟨rfl, ho3, hs3⟩
      have hal : nAlloc Tryz.prog 75 = some (.cells false (aStride Tryz.prog 75) zeroExt) := al_Ext
      generalize aStride Tryz.prog 75 = s2 at hal
      have hput : putIn 8 (M3.push (.cells false s2 zeroExt)) M3.size 0 zeroExt ((M3.push (.cells false s2 zeroExt)).get M3.size) = some (M3.push (.cells false s2 zeroExt)) := by
        rw [Mem.get_push_new]
        simp only [putIn]
        rw [if_pos ⟨rfl, by decide, rfl⟩]
        congr 1
        exact push_set _ _ _
      simp only [zZ, reduceIte, Nat.reduceLT, Int.reduceToNat, Int.reduceLE, Int.reduceEq, Int.reduceLT, Nat.reduceEqDiff, Nat.reduceAdd, zDk, pd_eql, pd_neq, pd_eql0, pd_neq0, hal, agg_cells, hput]
      obtain ⟨M4, hM4⟩ : ∃ M4, M4 = M3.push (.cells false s2 zeroExt) := ⟨_, rfl⟩
      have hg4 : M4.get M3.size = some (.cells false s2 zeroExt) := by rw [hM4, Mem.get_push_new]
      have ho4 : Only [] M2 M4 := ho.trans (ho3.trans (by rw [hM4]; exact Only.push _ _ _))
      have hs4 : M4.size = M3.size + 1 := by rw [hM4, Mem.size_push]
      have hrow : rowIn 8 0 (some (.cells false s2 zeroExt)) = some (.agg zeroExt.toArray) := rfl
      rw [← hM4]
      refine CW_seq (CW_region ?_)
      simp only [zZ, reduceIte, Nat.reduceLT, Int.reduceToNat, Int.reduceLE, Int.reduceEq, Int.reduceLT, Nat.reduceEqDiff, Nat.reduceAdd, zDk, pd_eql, pd_neq, pd_eql0, pd_neq0, hg4, hrow]
      refine ⟨by kernel_rfl, _, splace_none M4 sp ((5 + i : Nat) : Int) 3 zeroExt rfl, ?_⟩
      rintro _ M5 ⟨rfl, ho5, hs5⟩
      simp only [zZ, reduceIte, Nat.reduceLT, Int.reduceToNat, Int.reduceLE, Int.reduceEq, Int.reduceLT, Nat.reduceEqDiff, Nat.reduceAdd, zDk, pd_eql, pd_neq, pd_eql0, pd_neq0]
      refine CW_cond false (by rfl) (fun h => by cases h) (fun _ => CW_skip ?_)
      simp only [zZ, reduceIte, Nat.reduceLT, Int.reduceToNat, Int.reduceLE, Int.reduceEq, Int.reduceLT, Nat.reduceEqDiff, Nat.reduceAdd, zDk, pd_eql, pd_neq, pd_eql0, pd_neq0]
      refine CW_region ?_
      simp only [zZ, reduceIte, Nat.reduceLT, Int.reduceToNat, Int.reduceLE, Int.reduceEq, Int.reduceLT, Nat.reduceEqDiff, Nat.reduceAdd, zDk, pd_eql, pd_neq, pd_eql0, pd_neq0, w2]
      refine ⟨[0, 7, 35], ?_⟩
      simp only [zZ, reduceIte, Nat.reduceLT, Int.reduceToNat, Int.reduceLE, Int.reduceEq, Int.reduceLT, Nat.reduceEqDiff, Nat.reduceAdd, keepF]
      exact ⟨M5, Thin.refl _, 8 - (i + 1), ⟨i + 1, rfl, by omega, rfl, ho4.trans ho5, by omega⟩, by omega⟩
    · simp only [zZ, reduceIte, Nat.reduceLT, Int.reduceToNat, Int.reduceLE, Int.reduceEq, Int.reduceLT, Nat.reduceEqDiff, Nat.reduceAdd, zDk, pd_eql, pd_neq, pd_eql0, pd_neq0]
      refine CW_seq (CW_seq (CW_region ?_))
      simp only [zZ, reduceIte, Nat.reduceLT, Int.reduceToNat, Int.reduceLE, Int.reduceEq, Int.reduceLT, Nat.reduceEqDiff, Nat.reduceAdd, zDk, pd_eql, pd_neq, pd_eql0, pd_neq0]
      obtain ⟨M6, hM6⟩ : ∃ M6, M6 = M' := ⟨_, rfl⟩
      rw [← hM6] at ho hss ⊢
      clear hd' hsc' hM6 M'
      refine CW_block (MW_loop (fun j f M' => ∃ i : Nat, j = 4 - i ∧ i ≤ 4 ∧ f = [(0, .pointer (some ⟨p, 0, none⟩)), (7, .pointer (some ⟨sp, 0, none⟩)), (57, .int .i64 (i : Nat))] ∧ Only [] M2 M' ∧ M2.size ≤ M'.size) 4 ?_ ?_)
      · refine ⟨[0, 7, 57], ?_⟩
        simp only [zZ, reduceIte, Nat.reduceLT, Int.reduceToNat, Int.reduceLE, Int.reduceEq, Int.reduceLT, Nat.reduceEqDiff, Nat.reduceAdd, keepF]
        exact ⟨M6, Thin.refl _, 0, rfl, by omega, rfl, ho, hss⟩
      · clear ho hss
        rintro j f M' ⟨i, rfl, hi8', rfl, ho, hss⟩
        obtain ⟨hd', hsc'⟩ := hloop M' ho
        refine CW_seq (CW_region ?_)
        simp only [zZ, reduceIte, Nat.reduceLT, Int.reduceToNat, Int.reduceLE, Int.reduceEq, Int.reduceLT, Nat.reduceEqDiff, Nat.reduceAdd, zDk, pd_eql, pd_neq, pd_eql0, pd_neq0]
        refine CW_seq (CW_cond (decide ((i : Int) < 4)) (by rfl) (fun h => CW_skip ?_) (fun h => CW_exit ?_))
        · have h := of_decide_eq_true h
          have hi : i < 4 := by omega
          have w1 : IntKind.i64.wrap (1 + (i : Int)) = ((1 + i : Nat) : Int) := by rw [wri (by omega) (by omega)]; omega
          have w2 : IntKind.i64.wrap ((i : Int) + 1) = ((i + 1 : Nat) : Int) := by rw [wri (by omega) (by omega)]; omega
          have htr := hb.trim (i := 1 + i) (by omega) (by omega)
          simp only [zZ, reduceIte, Nat.reduceLT, Int.reduceToNat, Int.reduceLE, Int.reduceEq, Int.reduceLT, Nat.reduceEqDiff, Nat.reduceAdd]
          refine CW_seq (CW_block (CW_seq (CW_region ?_)))
          simp only [zZ, reduceIte, Nat.reduceLT, Int.reduceToNat, Int.reduceLE, Int.reduceEq, Int.reduceLT, Nat.reduceEqDiff, Nat.reduceAdd, zDk, pd_eql, pd_neq, pd_eql0, pd_neq0]
          refine CW_seq (CW_region ?_)
          simp only [zZ, reduceIte, Nat.reduceLT, Int.reduceToNat, Int.reduceLE, Int.reduceEq, Int.reduceLT, Nat.reduceEqDiff, Nat.reduceAdd, zDk, pd_eql, pd_neq, pd_eql0, pd_neq0, w1]
          refine ⟨by kernel_rfl, _, sread_spec M' sp p q g gl d.old.length key _ d hd' hsc' ((1 + i : Nat) : Int) (hb.may (by omega)), ?_⟩
          rintro _ M9 ⟨rfl, e9⟩; replace e9 := e9.symm; subst e9
          rw [Int.toNat_natCast]
          simp only [zZ, reduceIte, Nat.reduceLT, Int.reduceToNat, Int.reduceLE, Int.reduceEq, Int.reduceLT, Nat.reduceEqDiff, Nat.reduceAdd, zDk, pd_eql, pd_neq, pd_eql0, pd_neq0]
          refine ⟨by kernel_rfl, _, jtake_blank M' _ htr.1 htr.2, ?_⟩
          rintro _ M3 ⟨rfl, ho3, hs3⟩
          have hal : nAlloc Tryz.prog 85 = some (.cells false (aStride Tryz.prog 85) zeroRec) := al_Rec
          generalize aStride Tryz.prog 85 = s2 at hal
          have hput : putIn 13 (M3.push (.cells false s2 zeroRec)) M3.size 0 zeroRec ((M3.push (.cells false s2 zeroRec)).get M3.size) = some (M3.push (.cells false s2 zeroRec)) := by
            rw [Mem.get_push_new]
            simp only [putIn]
            rw [if_pos ⟨rfl, by decide, rfl⟩]
            congr 1
            exact push_set _ _ _
          simp only [zZ, reduceIte, Nat.reduceLT, Int.reduceToNat, Int.reduceLE, Int.reduceEq, Int.reduceLT, Nat.reduceEqDiff, Nat.reduceAdd, zDk, pd_eql, pd_neq, pd_eql0, pd_neq0, hal, agg_cells, hput]
          obtain ⟨M4, hM4⟩ : ∃ M4, M4 = M3.push (.cells false s2 zeroRec) := ⟨_, rfl⟩
          have hg4 : M4.get M3.size = some (.cells false s2 zeroRec) := by rw [hM4, Mem.get_push_new]
          have ho4 : Only [] M2 M4 := ho.trans (ho3.trans (by rw [hM4]; exact Only.push _ _ _))
          have hs4 : M4.size = M3.size + 1 := by rw [hM4, Mem.size_push]
          have hrow : rowIn 8 0 (some (.cells false s2 zeroRec)) = some (.agg zeroExt.toArray) := rfl
          rw [← hM4]
          refine CW_seq (CW_seq (CW_region ?_))
          simp only [zZ, reduceIte, Nat.reduceLT, Int.reduceToNat, Int.reduceLE, Int.reduceEq, Int.reduceLT, Nat.reduceEqDiff, Nat.reduceAdd, zDk, pd_eql, pd_neq, pd_eql0, pd_neq0, hg4, hrow, w1]
          refine ⟨by kernel_rfl, _, splace_none M4 sp ((1 + i : Nat) : Int) 2 zeroExt rfl, ?_⟩
          rintro _ M5 ⟨rfl, ho5, hs5⟩
          simp only [zZ, reduceIte, Nat.reduceLT, Int.reduceToNat, Int.reduceLE, Int.reduceEq, Int.reduceLT, Nat.reduceEqDiff, Nat.reduceAdd, zDk, pd_eql, pd_neq, pd_eql0, pd_neq0]
          refine CW_cond true (by rfl) (fun _ => CW_exit ?_) (fun h => by cases h)
          simp only [zZ, reduceIte, Nat.reduceLT, Int.reduceToNat, Int.reduceLE, Int.reduceEq, Int.reduceLT, Nat.reduceEqDiff, Nat.reduceAdd, zDk, pd_eql, pd_neq, pd_eql0, pd_neq0]
          refine CW_region ?_
          simp only [zZ, reduceIte, Nat.reduceLT, Int.reduceToNat, Int.reduceLE, Int.reduceEq, Int.reduceLT, Nat.reduceEqDiff, Nat.reduceAdd, zDk, pd_eql, pd_neq, pd_eql0, pd_neq0, w2]
          refine ⟨[0, 7, 57], ?_⟩
          simp only [zZ, reduceIte, Nat.reduceLT, Int.reduceToNat, Int.reduceLE, Int.reduceEq, Int.reduceLT, Nat.reduceEqDiff, Nat.reduceAdd, keepF]
          exact ⟨M5, Thin.refl _, 4 - (i + 1), ⟨i + 1, rfl, by omega, rfl, ho4.trans ho5, by omega⟩, by omega⟩
        · simp only [zZ, reduceIte, Nat.reduceLT, Int.reduceToNat, Int.reduceLE, Int.reduceEq, Int.reduceLT, Nat.reduceEqDiff, Nat.reduceAdd, zDk, pd_eql, pd_neq, pd_eql0, pd_neq0]
          refine CW_seq (CW_region ?_)
          simp only [zZ, reduceIte, Nat.reduceLT, Int.reduceToNat, Int.reduceLE, Int.reduceEq, Int.reduceLT, Nat.reduceEqDiff, Nat.reduceAdd, zDk, pd_eql, pd_neq, pd_eql0, pd_neq0]
          refine ⟨by kernel_rfl, _, sstrays_spec M' sp p q g gl key _ d e hb hd' hsc' (fun i h3 hi => secsV_zero e _ h3 (by rw [secsV_len] at hi; exact hi)), ?_⟩
          rintro u1 M9 e9; replace e9 := e9.symm; subst e9
          simp only [zZ, reduceIte, Nat.reduceLT, Int.reduceToNat, Int.reduceLE, Int.reduceEq, Int.reduceLT, Nat.reduceEqDiff, Nat.reduceAdd, zDk, pd_eql, pd_neq, pd_eql0, pd_neq0]
          obtain ⟨s5, hr5⟩ := hsc'.row
          unfold scnC at hr5
          refine CW_seq (CW_draw2 hmix 9 (by kernel_rfl) ?_)
          simp only [zZ, reduceIte, Nat.reduceLT, Int.reduceToNat, Int.reduceLE, Int.reduceEq, Int.reduceLT, Nat.reduceEqDiff, Nat.reduceAdd, zDk, pd_eql, pd_neq, pd_eql0, pd_neq0, hr5]
          refine CW_ret ?_
          simp only [zZ, reduceIte, Nat.reduceLT, Int.reduceToNat, Int.reduceLE, Int.reduceEq, Int.reduceLT, Nat.reduceEqDiff, Nat.reduceAdd, zDk, pd_eql, pd_neq, pd_eql0, pd_neq0, mEnd, sAnswer, sAnswer.sRes]
          exact ⟨_, Thin.refl _, gl, rfl, hsc'.l, by omega, ho2'.trans ho, by omega⟩
end Go.Proofs.YtmnebimijlnlkaaGreatDoor
namespace Go.Proofs.YtmnebimijlnlkaaGreatDoor.Abs
open Go
theorem frame_init {n : Nat → Prop} {ι : Nat → Loc} {xs ys : List Value} {fn : Func} (hys : VRels n ι xs ys) : ARel n ι (aFrame fn xs) { tmps := ys.toArray ++ Array.replicate (fn.ntmps - ys.toArray.size) undef, defers := [] } := by
  refine ⟨rfl, ?_⟩
  simp only [Array.toList_append, Array.toList_replicate, List.size_toArray]
  rw [← hys.1]
  unfold aFrame
  refine VRels.append hys ⟨rfl, fun i x y hx hy => ?_⟩
  rw [hx] at hy
  cases hy
  have := List.mem_of_getElem? hx
  rw [List.mem_replicate] at this
  rw [this.2]
  exact undef_rel
theorem Spec.of_defer {P : Program} {k k' : FuncId} {fn fn' : Func} {c0 c2 c' : Code} {id : Nat} {o1 o2 : Oper} {t : Nat} {caps : Array Operand} {xs : List Value} {m : Mem} {R : Value → Mem → Prop}
    (hf : P.funcs[k]? = some fn) (hb : fn.body = some (.seq c0 (.seq (.region id #[o1, o2] false) c2)))
    (ho1 : o1.op = .makeFunc (.func k') #[] caps) (hd1 : o1.dst = some t) (hg1 : o1.guard = none) (ho2 : o2.op = .defer { callee := .value (.tmp t), args := #[], argTypes := #[] }) (hd2 : o2.dst = none) (hg2 : o2.guard = none)
    (he : entered P k' = true) (hf' : P.funcs[k']? = some fn') (hb' : fn'.body = some c')
    (h : AW P c0 (fun e a1 m1 => e = .normal ∧ ∃ l, evArgs a1 caps.toList = some l ∧ t < a1.length ∧
      ∀ D : Defs, @AW D P c2 (fun e a2 m2 => (e = .ret ∨ e = .normal) ∧ @AW defsNil P c' (fun e' a3 m3 => (e' = .ret ∨ e' = .normal) ∧ (∃ u, aAnswer P fn'.results.toList a3 m3 = some u) ∧ ∃ u, aAnswer P fn.results.toList a2 m3 = some u ∧ R u m3) (aFrame fn' l) m2)
        (a1.set t (.func (.func k') #[] l.toArray)) m1) (aFrame fn xs) m) : Spec P k xs m R := by
  intro ι w ys hys hr
  refine calls_of_wp_defers hf hb ?_
  refine wp_seq (wp_mono (h ι m w ι _ w (Step.refl _ _ _) (frame_init hys) hr) ?_)
  rintro e act w1 ⟨κ, a1, m1, ⟨rfl, l, hl, htl, h2⟩, ha, hr1, hs1⟩
  refine wp_seq (wp_region_list ?_)
  have hla := evArgs_rel ha hl
  obtain ⟨cs, hcs⟩ : ∃ cs, cs = caps.map act.eval := ⟨_, rfl⟩
  have hlc : VRels m1.Has κ l cs.toList := by rw [hcs, Array.toList_map]; exact hla
  have hty : act.tmps.size = a1.length := by have := ha.tmps.1; simpa using this.symm
  have hw : ∀ (o : Oper) (y : Nat → Option Bool), o.guard = none → Region.wanted o y = true := fun o y hg => by unfold Region.wanted; rw [hg]
  have run1 : (execOp act.eval o1).run P w1 = .ok (.value (.func (.func k') #[] cs)) w1 := by
    simp [execOp, ho1, hcs, Instr.makeFunc]
  obtain ⟨act1, hact1⟩ : ∃ act1, act1 = act.put (some t) (.func (.func k') #[] cs) := ⟨_, rfl⟩
  have heval : act1.eval (.tmp t) = .func (.func k') #[] cs := by
    rw [hact1]
    simp [Act.eval, Act.put, hty, htl]
  have run2 : (execOp act1.eval o2).run P w1 = .ok (.defer ⟨.fn (.func k') cs, #[]⟩) w1 := by
    unfold execOp
    rw [ho2]
    simp [resolve, heval, Deferred.ofValue]
  have hput : ({ act1 with defers := ⟨.fn (.func k') cs, #[]⟩ :: act1.defers } : Act).put o2.dst undef = { tmps := act1.tmps, defers := [⟨.fn (.func k') cs, #[]⟩] } := by
    have : act1.defers = [] := by rw [hact1]; exact ha.defers
    rw [hd2, this]
    rfl
  simp only [wpList]
  rw [if_pos (hw _ _ hg1)]
  left
  unfold Oper.wp
  rw [run1, Oper.upon_value, hd1, ← hact1]
  rw [if_pos (hw _ _ hg2)]
  left
  rw [run2, Oper.upon_defer, hput]
  -- what comes behind
  have ha1 : ARel m1.Has κ (a1.set t (.func (.func k') #[] l.toArray)) act1 := by
    rw [hact1]
    refine ha.put t (.func _ _ _ _ _ rfl (fun i x y hx => by simp at hx) ?_ fun i x y hx hy => ?_)
    · have := hlc.1; simpa using this
    · exact hlc.2 i x y (by simpa using hx) (by simpa using hy)
  have ha2 : @ARel ⟨[⟨.fn (.func k') cs, #[]⟩]⟩ m1.Has κ (a1.set t (.func (.func k') #[] l.toArray)) { tmps := act1.tmps, defers := [⟨.fn (.func k') cs, #[]⟩] } := @ARel.mk ⟨[⟨.fn (.func k') cs, #[]⟩]⟩ _ _ _ _ rfl ha1.tmps
  refine wp_mono (h2 ⟨[⟨.fn (.func k') cs, #[]⟩]⟩ κ m1 w1 κ _ w1 (Step.refl _ _ _) ha2 hr1) ?_
  rintro e act2 w2 ⟨μ, a2, m2, ⟨he2, haw⟩, hA2, hr2, hs2⟩
  have hdef : act2.defers = [⟨.fn (.func k') cs, #[]⟩] := @ARel.defers ⟨[⟨.fn (.func k') cs, #[]⟩]⟩ _ _ _ _ hA2
  have hinv : (invoke (.fn (.func k') cs) #[]).run P w2 = .ok (.enter k' cs) w2 := by
    unfold entered at he
    rw [hf'] at he
    simp only [Bool.and_eq_true, Bool.not_eq_true'] at he
    have hbn : fn'.body.isNone = false := by rw [hb']; rfl
    simp only [invoke, callFunc, Sem.run_bind, run_program, Result.andThen_ok, hf', he.2, hbn, Bool.false_eq_true, if_false, Array.empty_append]
    rfl
  have hlc2 : VRels m2.Has μ l cs.toList := hlc.mono hs2.grows hs2.at_
  have hleave : Leaves P fn act2.tmps (fun e w' => ∃ v v' κ m', R v m' ∧ e = .returned v' ∧ VRel m'.Has κ v v' ∧ Rel κ m' w' ∧ Step ι m w κ m' w') [⟨.fn (.func k') cs, #[]⟩] .returning w2 := by
    refine leaves_cons (by simp) hinv (CallsD.mono (callsD_of_wp (R := fun e w' => ∃ v', e = .returned v' ∧ ∃ u0, (results fn act2.tmps).run P w' = .ok u0 w' ∧ ∃ v v' κ m', R v m' ∧ Ending.returned u0 = .returned v' ∧ VRel m'.Has κ v v' ∧ Rel κ m' w' ∧ Step ι m w κ m' w') hf' hb' ?_) ?_)
    · have hfi := frame_init (fn := fn') hlc2
      rw [Array.toArray_toList] at hfi
      refine wp_mono (haw μ m2 w2 μ _ w2 (Step.refl _ _ _) hfi hr2) ?_
      rintro e act3 w3 ⟨ν, a3, m3, ⟨he3, ⟨u1, hu1⟩, u, hu, hR⟩, hA3, hr3, hs3⟩
      obtain ⟨v1, hv1, _⟩ := aAnswer_run hA3 hr3 hu1
      have hA2' : @ARel ⟨[⟨.fn (.func k') cs, #[]⟩]⟩ m3.Has ν a2 act2 := @ARel.mono ⟨[⟨.fn (.func k') cs, #[]⟩]⟩ _ _ _ _ hs3.grows hs3.at_ _ _ hA2
      obtain ⟨v2, hv2, hv3⟩ := @aAnswer_run _ _ _ ⟨[⟨.fn (.func k') cs, #[]⟩]⟩ _ _ _ _ _ hA2' hr3 hu
      have key : ∃ v, (results fn' act3.tmps).run P w3 = .ok v w3 ∧ ∃ v', Ending.returned v = .returned v' ∧ ∃ u0, (results fn act2.tmps).run P w3 = .ok u0 w3 ∧ ∃ v v' κ m', R v m' ∧ Ending.returned u0 = .returned v' ∧ VRel m'.Has κ v v' ∧ Rel κ m' w3 ∧ Step ι m w κ m' w3 :=
        ⟨v1, hv1, v1, rfl, v2, hv2, u, v2, ν, m3, hR, rfl, hv3, hr3, (hs1.trans hs2).trans hs3⟩
      rcases he3 with rfl | rfl
      · exact ⟨hA3.defers, key⟩
      · exact ⟨hA3.defers, key⟩
    · rintro e u' w' ⟨rfl, v', rfl, u0, hu0, hR⟩
      exact ⟨u0, hu0, hR⟩
  rcases he2 with rfl | rfl
  · show Leaves P fn act2.tmps _ act2.defers .returning w2
    rw [hdef]; exact hleave
  · show Leaves P fn act2.tmps _ act2.defers .returning w2
    rw [hdef]; exact hleave
end Go.Proofs.YtmnebimijlnlkaaGreatDoor.Abs
namespace Go.Proofs.YtmnebimijlnlkaaGreatDoor.Abs
open Go Go.RowKit
theorem sAnswer_spec {P : Program} {rs : List ResultVar} {n : Nat} {f : AL} {a : List Value} {m : Mem} (h1 : Knows n f a) {v : Value} (hv : sAnswer P rs f m = some v) : aAnswer P rs a m = some v := by
  unfold sAnswer at hv
  unfold aAnswer
  split at hv <;> first | (cases hv; done) | skip
  · rename_i v0 hv0; cases hv; simp only [sRes_spec h1 _ _ hv0]
  · rename_i l hne hl
    cases hv
    simp only [sRes_spec h1 _ _ hl]
theorem knows_frame {xs : List Value} {fn : Func} (hx : xs.length ≤ fn.ntmps) : Knows fn.ntmps (alOf 0 xs) (aFrame fn xs) := by
  refine ⟨by simp [aFrame]; omega, fun t v hv => ?_⟩
  obtain ⟨_, h2⟩ := alOf_get xs 0 t v hv
  unfold aFrame
  rw [List.getElem?_append, if_pos]
  · exact h2
  · exact (List.getElem?_eq_some_iff.1 h2).1
def dEnd (P : Program) (c' : Code) (n' : Nat) (l : List Value) (rs : List ResultVar) (R : Value → Mem → Prop) (e : Exit) (f2 : AL) (m2 : Mem) : Prop :=
  (e = .ret ∨ e = .normal) ∧ @SW defsNil P n' c' (fun e' _ m3 => (e' = .ret ∨ e' = .normal) ∧ ∃ u, sAnswer P rs f2 m3 = some u ∧ R u m3) (alOf 0 l) m2
theorem Spec.walk_defer {P : Program} {k k' : FuncId} {fn fn' : Func} {c0 c2 c' : Code} {id : Nat} {o1 o2 : Oper} {t : Nat} {caps : Array Operand} {xs : List Value} {m : Mem} {R : Value → Mem → Prop}
    (hf : P.funcs[k]? = some fn) (hb : fn.body = some (.seq c0 (.seq (.region id #[o1, o2] false) c2)))
    (ho1 : o1.op = .makeFunc (.func k') #[] caps) (hd1 : o1.dst = some t) (hg1 : o1.guard = none) (ho2 : o2.op = .defer { callee := .value (.tmp t), args := #[], argTypes := #[] }) (hd2 : o2.dst = none) (hg2 : o2.guard = none)
    (he : entered P k' = true) (hf' : P.funcs[k']? = some fn') (hb' : fn'.body = some c') (hr' : fn'.results = #[]) (rs : Array ResultVar) (hr : fn.results = rs) (n : Nat) (hn : fn.ntmps = n) (hx : xs.length ≤ n) (htn : t < n) (n' : Nat) (hn' : fn'.ntmps = n')
    (h : SW P n c0 (fun e f1 m1 => e = .normal ∧ ∃ l, sArgs (AL.look f1) caps.toList = some l ∧ l.length ≤ n' ∧
      ∀ D : Defs, @SW D P n c2 (dEnd P c' n' l rs.toList R) ((t, .func (.func k') #[] l.toArray) :: f1) m1) (alOf 0 xs) m) : Spec P k xs m R := by
  subst hr; subst hn; subst hn'
  refine Spec.of_defer hf hb ho1 hd1 hg1 ho2 hd2 hg2 he hf' hb' ((h _ (knows_frame hx)).mono ?_)
  rintro e a1 m1 ⟨f1, k1, rfl, l, hl, hll, h2⟩
  have close : ∀ e f2 a2 m2, Knows fn.ntmps f2 a2 → dEnd P c' fn'.ntmps l fn.results.toList R e f2 m2 →
      (e = .ret ∨ e = .normal) ∧ AW P c' (fun e' a3 m3 => (e' = .ret ∨ e' = .normal) ∧ (∃ u, aAnswer P fn'.results.toList a3 m3 = some u) ∧ ∃ u, aAnswer P fn.results.toList a2 m3 = some u ∧ R u m3) (aFrame fn' l) m2 := by
    rintro e f2 a2 m2 k2 ⟨he2, h3⟩
    refine ⟨he2, (h3 _ (knows_frame hll)).mono ?_⟩
    rintro e' a3 m3 ⟨f3, k3, he3, u, hu, hR⟩
    refine ⟨he3, ⟨.tuple #[], by rw [hr']; rfl⟩, u, sAnswer_spec k2 hu, hR⟩
  refine ⟨rfl, l, ?_, by rw [k1.1]; exact htn, fun D => ?_⟩
  · rw [sArgs_eq] at hl
    exact fArgs_spec k1.look _ hl
  · have := h2 D _ (k1.put htn (.func (.func k') #[] l.toArray))
    refine @AW.mono D _ _ _ _ _ _ this ?_
    rintro e a2 m2 ⟨f2, k2, h3⟩
    exact close e f2 a2 m2 k2 h3
end Go.Proofs.YtmnebimijlnlkaaGreatDoor.Abs
namespace Go.Proofs.YtmnebimijlnlkaaGreatDoor
open Go.RowKit Abs
def epochText (n : Int) : List UInt8 := markE ++ Sha.fixed n 4
def Dsk.nextE (d : Dsk) (i : Int) : Dsk × Int × Int :=
  if (d.lastE i).2 ≠ 0 then (d, 0, (d.lastE i).2) else if 4294967295 < (d.lastE i).1 + 1 then (d, 0, 3) else
  if (d.write i (epochText ((d.lastE i).1 + 1))).2 ≠ 0 then ((d.write i (epochText ((d.lastE i).1 + 1))).1, 0, (d.write i (epochText ((d.lastE i).1 + 1))).2) else
  if ((d.write i (epochText ((d.lastE i).1 + 1))).1.sync).2 ≠ 0 then (((d.write i (epochText ((d.lastE i).1 + 1))).1.sync).1, 0, ((d.write i (epochText ((d.lastE i).1 + 1))).1.sync).2) else
  (((d.write i (epochText ((d.lastE i).1 + 1))).1.sync).1, (d.lastE i).1 + 1, 0)
theorem text_spec (n : Int) (m : Mem) : Abs.Spec Tryz.prog 86 [.int .i64 n] m fun u M => u = .string (str (epochText n)) ∧ M = m := by
  refine Abs.Spec.walkM Tryz.func86 (by rfl) _ Tryz.results86 _ Tryz.ntmps86 (by simp) ?_
  intro hc hx k
  have hcat : bsize (str markE) + bsize (str (Sha.fixed n 4)) ≤ 4611686018427387904 := by show 4 + (Sha.fixed n 4).length ≤ _; rw [Sha.fixed_length]; decide
  refine CW_seq (CW_region ?_)
  simp only [zZ, reduceIte, Nat.reduceLT, Int.reduceToNat, Int.reduceLE, Int.reduceEq, Int.reduceLT, Nat.reduceEqDiff, Nat.reduceAdd, zDk, pd_eql, pd_neq, pd_eql0, pd_neq0]
  refine CW_seq (CW_region ?_)
  simp only [zZ, reduceIte, Nat.reduceLT, Int.reduceToNat, Int.reduceLE, Int.reduceEq, Int.reduceLT, Nat.reduceEqDiff, Nat.reduceAdd, zDk, pd_eql, pd_neq, pd_eql0, pd_neq0]
  refine ⟨by kernel_rfl, _, fixed_spec n 4 (by omega) (by omega) _, ?_⟩
  rintro _ M9 ⟨rfl, e9⟩; replace e9 := e9.symm; subst e9
  simp only [zZ, reduceIte, Nat.reduceLT, Int.reduceToNat, Int.reduceLE, Int.reduceEq, Int.reduceLT, Nat.reduceEqDiff, Nat.reduceAdd, zDk, pd_eql, pd_neq, pd_eql0, pd_neq0]
  refine ⟨hcat, ?_⟩
  refine CW_ret ?_
  simp only [zZ, reduceIte, Nat.reduceLT, Int.reduceToNat, Int.reduceLE, Int.reduceEq, Int.reduceLT, Nat.reduceEqDiff, Nat.reduceAdd, zDk, pd_eql, pd_neq, pd_eql0, pd_neq0, mEnd, sAnswer, sAnswer.sRes]
  exact ⟨_, Thin.refl _, rfl, rfl⟩
theorem num4 (l : List UInt8) (h : l.length ≤ 4) : (Sha.num l : Int) ≤ 4294967295 := by
  have h1 := Sha.num_lt l
  have h2 : 256 ^ l.length ≤ 256 ^ 4 := Nat.pow_le_pow_right (by decide) h
  have h3 : (256 : Nat) ^ 4 = 4294967296 := by decide
  omega
theorem lastE_range (d : Dsk) (i : Int) : 0 ≤ (d.lastE i).1 ∧ (d.lastE i).1 ≤ 4294967295 := by
  unfold Dsk.lastE lastV
  split
  · split
    · split
      · exact ⟨Int.le_refl _, by decide⟩
      · exact ⟨Int.natCast_nonneg _, num4 _ (by rw [List.length_take]; omega)⟩
    · split <;> exact ⟨Int.le_refl _, by decide⟩
  · exact ⟨Int.le_refl _, by show (0 : Int) ≤ 4294967295; decide⟩
set_option maxRecDepth 100000 in
set_option maxHeartbeats 2000000 in
theorem next_spec (M : Mem) (p q g : Nat) (d : Dsk) (hd : DskAt M p q g d) (i : Int) :
    Abs.Spec Tryz.prog 43 [dp p, .int .i64 i] M fun u M' => u = .tuple #[.int .i64 (d.nextE i).2.1, .int .i64 (d.nextE i).2.2] ∧ DskAt M' p q g (d.nextE i).1 ∧ Only [p, q, g] M M' ∧ M.size ≤ M'.size := by
  obtain ⟨E, hE⟩ : ∃ E, E = d.nextE i := ⟨_, rfl⟩
  rw [← hE]
  refine Abs.Spec.walk_defer (k' := 85) Tryz.func43 (by rfl) rfl rfl rfl rfl rfl rfl (by kernel_rfl) Tryz.func85 (by rfl) Tryz.results85 _ Tryz.results43 _ Tryz.ntmps43 (by simp [dp]) (by decide) _ Tryz.ntmps85 ?_
  refine SW_region ?_
  simp only [zS, reduceIte, Nat.reduceLT, Int.reduceToNat, Int.reduceLE, Int.reduceEq, Int.reduceLT, Nat.reduceEqDiff, Nat.reduceAdd, zDk, pd_eql, pd_neq, pd_eql0, pd_neq0, zZ]
  generalize aStride Tryz.prog 3 = s1
  generalize aStride Tryz.prog 33 = s2
  obtain ⟨M1, hM1⟩ : ∃ M1, M1 = (M.push (.cells false s1 [.int .i64 0])).push (.cells false s2 [.int .i64 0]) := ⟨_, rfl⟩
  obtain ⟨bn, hbn⟩ : ∃ bn, bn = M.size := ⟨_, rfl⟩
  obtain ⟨be, hbe⟩ : ∃ be, be = M.size + 1 := ⟨_, rfl⟩
  have hold1 : ∀ b x, M.get b = some x → M1.get b = some x := fun b x hb => by
    have := get_live hb
    rw [hM1, Mem.get_push_old (by rw [Mem.size_push]; omega), Mem.get_push_old this]; exact hb
  have hn1 : M1.get bn = some (.cells false s1 [.int .i64 0]) := by rw [hM1, hbn, Mem.get_push_old (by rw [Mem.size_push]; omega), Mem.get_push_new]
  have he1 : M1.get be = some (.cells false s2 [.int .i64 0]) := by
    have := Mem.get_push_new (M.push (.cells false s1 [.int .i64 0])) (.cells false s2 [.int .i64 0])
    rw [Mem.size_push] at this
    rw [hM1, hbe]; exact this
  have hs1 : M1.size = M.size + 2 := by rw [hM1]; simp only [Mem.size_push]
  have hd1 := hd.same hold1
  have hpl : p < M.size := by obtain ⟨s, h⟩ := hd.row; exact get_live h
  have hql : q < M.size := get_live hd.kv
  have hgl : g < M.size := get_live hd.old
  rw [Mem.size_push, ← hM1, ← hbe, ← hbn]
  refine ⟨_, rfl, by show 2 ≤ 4; decide, ?_⟩
  -- what is done behind the body
  generalize hQ : dEnd Tryz.prog _ _ _ _ _ = Q
  have close : ∀ (f2 : AL) (m2 : Mem) (d' : Dsk) (n e : Int), AL.get f2 4 = some (.pointer (some ⟨bn, 0, none⟩)) → AL.get f2 5 = some (.pointer (some ⟨be, 0, none⟩)) → m2.get bn = some (.cells false s1 [.int .i64 n]) → m2.get be = some (.cells false s2 [.int .i64 e]) →
      DskAt m2 p q g d' → Only [p, q, g] M m2 → M.size ≤ m2.size → E = (d', if e = 0 then n else 0, e) → Q .ret f2 m2 := fun f2 m2 d' n e h4 h5 gn ge gd go gs gE => by
    rw [← hQ]
    have hans : ∀ (m3 : Mem) (n e : Int), m3.get bn = some (.cells false s1 [.int .i64 n]) → m3.get be = some (.cells false s2 [.int .i64 e]) → sAnswer Tryz.prog [.cell 4 3, .cell 5 33] f2 m3 = some (.tuple #[.int .i64 n, .int .i64 e]) := fun m3 n e g1 g2 => by
      have l1 : aLoad Tryz.prog m3 3 (.pointer (some ⟨bn, 0, none⟩)) = some (.int .i64 n) := by simp only [aLoad_g, zDk, pd_eql, pd_neq, pd_eql0, pd_neq0, g1]; rfl
      have l2 : aLoad Tryz.prog m3 33 (.pointer (some ⟨be, 0, none⟩)) = some (.int .i64 e) := by simp only [aLoad_g, zDk, pd_eql, pd_neq, pd_eql0, pd_neq0, g2]; rfl
      simp only [sAnswer, sAnswer.sRes, h4, h5, l1, l2]
    refine ⟨.inl rfl, SW_seq (SW_region ?_)⟩
    simp only [zS, reduceIte, Nat.reduceLT, Int.reduceToNat, Int.reduceLE, Int.reduceEq, Int.reduceLT, Nat.reduceEqDiff, Nat.reduceAdd, zDk, pd_eql, pd_neq, pd_eql0, pd_neq0, zZ, ge]
    refine SW_cond (e != 0) (by rfl) (fun h => SW_region ?_) (fun h => SW_skip ?_)
    · have h : e ≠ 0 := by simpa using h
      simp only [zS, reduceIte, Nat.reduceLT, Int.reduceToNat, Int.reduceLE, Int.reduceEq, Int.reduceLT, Nat.reduceEqDiff, Nat.reduceAdd, zDk, pd_eql, pd_neq, pd_eql0, pd_neq0, zZ, gn]
      refine ⟨.inr trivial, _, hans _ 0 e (Mem.get_set_same gn _) (by rw [Mem.get_set_ne (by omega)]; exact ge), ?_⟩
      rw [gE, if_neg h]
      refine ⟨rfl, gd.only (Only.set (l := [bn]) (by simp) _) (by simp; omega) (by simp; omega) (by simp; omega), fun b x hb hx => ?_, by rw [Mem.size_set]; omega⟩
      rw [Mem.get_set_ne (by have := get_live hx; omega)]
      exact go b x hb hx
    · have h : e = 0 := by simpa using h
      simp only [zS, reduceIte, Nat.reduceLT, Int.reduceToNat, Int.reduceLE, Int.reduceEq, Int.reduceLT, Nat.reduceEqDiff, Nat.reduceAdd, zDk, pd_eql, pd_neq, pd_eql0, pd_neq0, zZ]
      refine ⟨.inr trivial, _, hans _ n e gn ge, ?_⟩
      rw [gE, if_pos h]
      exact ⟨rfl, gd, go, by omega⟩
  clear hQ
  intro D
  refine SW_seq (SW_seq (SW_region ?_))
  simp only [zS, reduceIte, Nat.reduceLT, Int.reduceToNat, Int.reduceLE, Int.reduceEq, Int.reduceLT, Nat.reduceEqDiff, Nat.reduceAdd, zDk, pd_eql, pd_neq, pd_eql0, pd_neq0, zZ]
  refine ⟨by kernel_rfl, _, last_spec M1 p q g d hd1 i, ?_⟩
  rintro _ M9 ⟨rfl, e9⟩; replace e9 := e9.symm; subst e9
  obtain ⟨N, hN⟩ : ∃ N, N = (d.lastE i).1 := ⟨_, rfl⟩
  obtain ⟨e, he⟩ : ∃ e, e = (d.lastE i).2 := ⟨_, rfl⟩
  unfold Dsk.nextE at hE
  rw [← hN, ← he] at hE ⊢
  have sne : ∀ (m : Mem) (x : Option Blk), (m.set bn x).get be = m.get be := fun m x => Mem.get_set_ne (by omega) x
  have sen : ∀ (m : Mem) (x : Option Blk), (m.set be x).get bn = m.get bn := fun m x => Mem.get_set_ne (by omega) x
  -- a memory in which both are told
  have upd : ∀ (m : Mem) (d' : Dsk) (n e n' e' : Int), m.get bn = some (.cells false s1 [.int .i64 n]) → m.get be = some (.cells false s2 [.int .i64 e]) → DskAt m p q g d' → Only [p, q, g] M m → M.size ≤ m.size →
      ∃ m2, m2 = (m.set bn (some (.cells false s1 [.int .i64 n']))).set be (some (.cells false s2 [.int .i64 e'])) ∧ m2.get bn = some (.cells false s1 [.int .i64 n']) ∧ m2.get be = some (.cells false s2 [.int .i64 e']) ∧ DskAt m2 p q g d' ∧ Only [p, q, g] M m2 ∧ M.size ≤ m2.size := fun m d' n e n' e' gn ge gd go gs => by
    refine ⟨_, rfl, by rw [sen]; exact Mem.get_set_same gn _, Mem.get_set_same (by rw [sne]; exact ge) _, (gd.only (Only.set (l := [bn]) (by simp) _) (by simp; omega) (by simp; omega) (by simp; omega)).only (Only.set (l := [be]) (by simp) _) (by simp; omega) (by simp; omega) (by simp; omega), fun b x hb hx => ?_, by rw [Mem.size_set, Mem.size_set]; omega⟩
    have := get_live hx
    rw [Mem.get_set_ne (by omega), Mem.get_set_ne (by omega)]
    exact go b x hb hx
  have updN : ∀ (m : Mem) (d' : Dsk) (n e n' : Int), m.get bn = some (.cells false s1 [.int .i64 n]) → m.get be = some (.cells false s2 [.int .i64 e]) → DskAt m p q g d' → Only [p, q, g] M m → M.size ≤ m.size →
      ∃ m2, m2 = m.set bn (some (.cells false s1 [.int .i64 n'])) ∧ m2.get bn = some (.cells false s1 [.int .i64 n']) ∧ m2.get be = some (.cells false s2 [.int .i64 e]) ∧ DskAt m2 p q g d' ∧ Only [p, q, g] M m2 ∧ M.size ≤ m2.size := fun m d' n e n' gn ge gd go gs => by
    refine ⟨_, rfl, Mem.get_set_same gn _, by rw [sne]; exact ge, gd.only (Only.set (l := [bn]) (by simp) _) (by simp; omega) (by simp; omega) (by simp; omega), fun b x hb hx => ?_, by rw [Mem.size_set]; omega⟩
    have := get_live hx
    rw [Mem.get_set_ne (by omega)]
    exact go b x hb hx
  have updE : ∀ (m : Mem) (d' : Dsk) (n e e' : Int), m.get bn = some (.cells false s1 [.int .i64 n]) → m.get be = some (.cells false s2 [.int .i64 e]) → DskAt m p q g d' → Only [p, q, g] M m → M.size ≤ m.size →
      ∃ m2, m2 = m.set be (some (.cells false s2 [.int .i64 e'])) ∧ m2.get bn = some (.cells false s1 [.int .i64 n]) ∧ m2.get be = some (.cells false s2 [.int .i64 e']) ∧ DskAt m2 p q g d' ∧ Only [p, q, g] M m2 ∧ M.size ≤ m2.size := fun m d' n e e' gn ge gd go gs => by
    refine ⟨_, rfl, by rw [sen]; exact gn, Mem.get_set_same ge _, gd.only (Only.set (l := [be]) (by simp) _) (by simp; omega) (by simp; omega) (by simp; omega), fun b x hb hx => ?_, by rw [Mem.size_set]; omega⟩
    have := get_live hx
    rw [Mem.get_set_ne (by omega)]
    exact go b x hb hx
  have go1 : Only [p, q, g] M M1 := fun b x _ hx => hold1 b x hx
  obtain ⟨M2, hM2, hn2, he2, hd2, go2, gs2⟩ := upd M1 d 0 0 N e hn1 he1 hd1 go1 (by omega)
  simp only [zS, reduceIte, Nat.reduceLT, Int.reduceToNat, Int.reduceLE, Int.reduceEq, Int.reduceLT, Nat.reduceEqDiff, Nat.reduceAdd, zDk, pd_eql, pd_neq, pd_eql0, pd_neq0, zZ, hn1, sne, he1]
  rw [← hM2]
  refine SW_seq (SW_region ?_)
  simp only [zS, reduceIte, Nat.reduceLT, Int.reduceToNat, Int.reduceLE, Int.reduceEq, Int.reduceLT, Nat.reduceEqDiff, Nat.reduceAdd, zDk, pd_eql, pd_neq, pd_eql0, pd_neq0, zZ, he2]
  refine SW_cond (e != 0) (by rfl) (fun h => SW_seq (SW_draw4L hmix 2 [1] (by kernel_rfl) ?_)) (fun h => SW_skip ?_)
  · have h : e ≠ 0 := by simpa using h
    rw [if_pos h] at hE
    obtain ⟨M3, hM3, hn3, he3, hd3, go3, gs3⟩ := upd M2 d N e N e hn2 he2 hd2 go2 gs2
    simp only [zS, reduceIte, Nat.reduceLT, Int.reduceToNat, Int.reduceLE, Int.reduceEq, Int.reduceLT, Nat.reduceEqDiff, Nat.reduceAdd, zDk, pd_eql, pd_neq, pd_eql0, pd_neq0, zZ, hn2, he2, sQB, idleOK, sne, Option.bind_some]
    refine ⟨⟨_, rfl, rfl⟩, ?_⟩
    rw [← hM3]
    refine SW_ret ?_
    simp only [zS, reduceIte, Nat.reduceLT, Int.reduceToNat, Int.reduceLE, Int.reduceEq, Int.reduceLT, Nat.reduceEqDiff, Nat.reduceAdd, zDk, pd_eql, pd_neq, pd_eql0, pd_neq0, zZ]
    exact close _ M3 d N e rfl rfl hn3 he3 hd3 go3 gs3 (by rw [hE, if_neg h])
  · have h : e = 0 := by simpa using h
    rw [if_neg (by simp [h])] at hE
    simp only [zS, reduceIte, Nat.reduceLT, Int.reduceToNat, Int.reduceLE, Int.reduceEq, Int.reduceLT, Nat.reduceEqDiff, Nat.reduceAdd, zDk, pd_eql, pd_neq, pd_eql0, pd_neq0, zZ]
    have hNr : 0 ≤ N ∧ N ≤ 4294967295 := by rw [hN]; exact lastE_range d i
    have w1 : IntKind.i64.wrap (N + 1) = N + 1 := wri (by omega) (by omega)
    obtain ⟨M3, hM3, hn3, he3, hd3, go3, gs3⟩ := updN M2 d N e (N + 1) hn2 he2 hd2 go2 gs2
    refine SW_seq (SW_seq (SW_region ?_))
    simp only [zS, reduceIte, Nat.reduceLT, Int.reduceToNat, Int.reduceLE, Int.reduceEq, Int.reduceLT, Nat.reduceEqDiff, Nat.reduceAdd, zDk, pd_eql, pd_neq, pd_eql0, pd_neq0, zZ, hn2, w1]
    rw [← hM3]
    refine SW_seq (SW_region ?_)
    simp only [zS, reduceIte, Nat.reduceLT, Int.reduceToNat, Int.reduceLE, Int.reduceEq, Int.reduceLT, Nat.reduceEqDiff, Nat.reduceAdd, zDk, pd_eql, pd_neq, pd_eql0, pd_neq0, zZ, hn3]
    refine SW_cond (decide (N + 1 > 4294967295)) (by rfl) (fun h => SW_seq (SW_region ?_)) (fun h => SW_skip ?_)
    · have h := of_decide_eq_true h
      rw [if_pos (by omega)] at hE
      obtain ⟨M4, hM4, hn4, he4, hd4, go4, gs4⟩ := upd M3 d (N + 1) e (N + 1) 3 hn3 he3 hd3 go3 gs3
      simp only [zS, reduceIte, Nat.reduceLT, Int.reduceToNat, Int.reduceLE, Int.reduceEq, Int.reduceLT, Nat.reduceEqDiff, Nat.reduceAdd, zDk, pd_eql, pd_neq, pd_eql0, pd_neq0, zZ, hn3, sne, he3]
      rw [← hM4]
      refine SW_ret ?_
      simp only [zS, reduceIte, Nat.reduceLT, Int.reduceToNat, Int.reduceLE, Int.reduceEq, Int.reduceLT, Nat.reduceEqDiff, Nat.reduceAdd, zDk, pd_eql, pd_neq, pd_eql0, pd_neq0, zZ]
      exact close _ M4 d (N + 1) 3 rfl rfl hn4 he4 hd4 go4 gs4 (by rw [hE]; rfl)
    · have h := of_decide_eq_false h
      rw [if_neg (by omega)] at hE
      simp only [zS, reduceIte, Nat.reduceLT, Int.reduceToNat, Int.reduceLE, Int.reduceEq, Int.reduceLT, Nat.reduceEqDiff, Nat.reduceAdd, zDk, pd_eql, pd_neq, pd_eql0, pd_neq0, zZ]
      refine SW_seq (SW_seq (SW_region ?_))
      simp only [zS, reduceIte, Nat.reduceLT, Int.reduceToNat, Int.reduceLE, Int.reduceEq, Int.reduceLT, Nat.reduceEqDiff, Nat.reduceAdd, zDk, pd_eql, pd_neq, pd_eql0, pd_neq0, zZ, hn3]
      refine ⟨by kernel_rfl, _, text_spec (N + 1) _, ?_⟩
      rintro _ M9 ⟨rfl, e9⟩; replace e9 := e9.symm; subst e9
      simp only [zS, reduceIte, Nat.reduceLT, Int.reduceToNat, Int.reduceLE, Int.reduceEq, Int.reduceLT, Nat.reduceEqDiff, Nat.reduceAdd, zDk, pd_eql, pd_neq, pd_eql0, pd_neq0, zZ]
      refine ⟨by kernel_rfl, _, write_spec M3 p q g d hd3 i (epochText (N + 1)) (by unfold epochText; rw [List.length_append, Sha.fixed_length]; decide), ?_⟩
      rintro _ M4 ⟨rfl, hd4, go4, gs4⟩
      obtain ⟨W, hW⟩ : ∃ W, W = d.write i (epochText (N + 1)) := ⟨_, rfl⟩
      rw [← hW] at hE hd4 ⊢
      have hn4 := go4 _ _ (by simp; omega) hn3
      have he4 := go4 _ _ (by simp; omega) he3
      have go4' := go3.trans (go4.mono (l' := [p, q, g]) (by simp))
      obtain ⟨M5, hM5, hn5, he5, hd5, go5, gs5⟩ := updE M4 W.1 (N + 1) e W.2 hn4 he4 hd4 go4' (by omega)
      simp only [zS, reduceIte, Nat.reduceLT, Int.reduceToNat, Int.reduceLE, Int.reduceEq, Int.reduceLT, Nat.reduceEqDiff, Nat.reduceAdd, zDk, pd_eql, pd_neq, pd_eql0, pd_neq0, zZ, he4]
      rw [← hM5]
      refine SW_seq (SW_region ?_)
      simp only [zS, reduceIte, Nat.reduceLT, Int.reduceToNat, Int.reduceLE, Int.reduceEq, Int.reduceLT, Nat.reduceEqDiff, Nat.reduceAdd, zDk, pd_eql, pd_neq, pd_eql0, pd_neq0, zZ, he5]
      refine SW_cond (W.2 != 0) (by rfl) (fun h => SW_seq (SW_draw4L hmix 2 [1] (by kernel_rfl) ?_)) (fun h => SW_skip ?_)
      · have h : W.2 ≠ 0 := by simpa using h
        rw [if_pos h] at hE
        obtain ⟨M6, hM6, hn6, he6, hd6, go6, gs6⟩ := upd M5 W.1 (N + 1) W.2 (N + 1) W.2 hn5 he5 hd5 go5 gs5
        simp only [zS, reduceIte, Nat.reduceLT, Int.reduceToNat, Int.reduceLE, Int.reduceEq, Int.reduceLT, Nat.reduceEqDiff, Nat.reduceAdd, zDk, pd_eql, pd_neq, pd_eql0, pd_neq0, zZ, hn5, he5, sQB, idleOK, sne, Option.bind_some]
        refine ⟨⟨_, rfl, rfl⟩, ?_⟩
        rw [← hM6]
        refine SW_ret ?_
        simp only [zS, reduceIte, Nat.reduceLT, Int.reduceToNat, Int.reduceLE, Int.reduceEq, Int.reduceLT, Nat.reduceEqDiff, Nat.reduceAdd, zDk, pd_eql, pd_neq, pd_eql0, pd_neq0, zZ]
        exact close _ M6 W.1 (N + 1) W.2 rfl rfl hn6 he6 hd6 go6 gs6 (by rw [hE, if_neg h])
      · have h : W.2 = 0 := by simpa using h
        rw [if_neg (by simp [h])] at hE
        simp only [zS, reduceIte, Nat.reduceLT, Int.reduceToNat, Int.reduceLE, Int.reduceEq, Int.reduceLT, Nat.reduceEqDiff, Nat.reduceAdd, zDk, pd_eql, pd_neq, pd_eql0, pd_neq0, zZ]
        refine SW_seq (SW_draw6L hmix 2 [0] (by kernel_rfl) ?_)
        simp only [zS, reduceIte, Nat.reduceLT, Int.reduceToNat, Int.reduceLE, Int.reduceEq, Int.reduceLT, Nat.reduceEqDiff, Nat.reduceAdd, zDk, pd_eql, pd_neq, pd_eql0, pd_neq0, zZ, hn5, sQB6]
        refine ⟨by kernel_rfl, _, sync_spec M5 p q g W.1 hd5, ?_⟩
        rintro _ M6 ⟨rfl, hd6, go6, gs6⟩
        have hn6 := go6 _ _ (by simp; omega) hn5
        have he6 := go6 _ _ (by simp; omega) he5
        obtain ⟨Y, hY⟩ : ∃ Y, Y = W.1.sync := ⟨_, rfl⟩
        rw [← hY] at hE hd6 ⊢
        obtain ⟨M7, hM7, hn7, he7, hd7, go7, gs7⟩ := upd M6 Y.1 (N + 1) W.2 (N + 1) Y.2 hn6 he6 hd6 (go5.trans go6) (by omega)
        simp only [zS, reduceIte, Nat.reduceLT, Int.reduceToNat, Int.reduceLE, Int.reduceEq, Int.reduceLT, Nat.reduceEqDiff, Nat.reduceAdd, zDk, pd_eql, pd_neq, pd_eql0, pd_neq0, zZ, hn6, he6, idleOK, sne, Option.bind_some]
        refine ⟨⟨.int .i64 (N + 1), by rw [hn5]; rfl, rfl⟩, ?_⟩
        rw [← hM7]
        refine SW_ret ?_
        refine close _ M7 Y.1 (N + 1) Y.2 rfl rfl hn7 he7 hd7 go7 gs7 ?_
        rw [hE]
        by_cases hy : Y.2 = 0
        · rw [if_neg (by simp [hy]), if_pos hy, hy]
        · rw [if_pos hy, if_neg hy]
end Go.Proofs.YtmnebimijlnlkaaGreatDoor
namespace Go.Proofs.YtmnebimijlnlkaaGreatDoor
open Go.RowKit Abs
def depC (p : Nat) (key : ByteArray) (e : Int) : List Value := [dp p, .string key, .int .i64 e, .pointer none, .pointer none, .pointer none, .pointer none, .pointer none, .pointer none, .pointer none, .pointer none, .pointer none, .pointer none, .pointer none, .pointer none, .int .i64 0]
set_option maxRecDepth 100000 in
set_option maxHeartbeats 4000000 in
theorem open_blank (M : Mem) (p q g : Nat) (d : Dsk) (e : Int) (hb : BlankD d e) (hd : DskAt M p q g d) (secret : ByteArray) (hsec : secret.size ≤ 1000000) (hn : 13 ≤ d.old.length) (hnx : (d.nextE 0).2.2 = 0) :
    Abs.Spec Tryz.prog 15 [dp p, .string secret] M fun u M' => ∃ dep, u = .tuple #[dp dep, .int .i64 0] ∧ (∃ s, M'.get dep = some (.cells false s (depC p (str (Sha.headKey secret.data.toList)) (d.nextE 0).2.1))) ∧ M.size ≤ dep ∧ DskAt M' p q g (d.nextE 0).1 ∧ Only [p, q, g] M M' ∧ M.size ≤ M'.size := by
  refine Abs.Spec.walkM Tryz.func15 (by rfl) _ Tryz.results15 _ Tryz.ntmps15 (by simp [dp]) ?_
  intro hc hx k
  have hN := hb.ok.n
  have hpl : p < M.size := by obtain ⟨s, h⟩ := hd.row; exact get_live h
  have hql : q < M.size := get_live hd.kv
  have hgl0 : g < M.size := get_live hd.old
  have hdp : dp p = .pointer (some ⟨p, 0, none⟩) := rfl
  refine CW_seq (CW_region ?_)
  simp only [zZ, reduceIte, Nat.reduceLT, Int.reduceToNat, Int.reduceLE, Int.reduceEq, Int.reduceLT, Nat.reduceEqDiff, Nat.reduceAdd, zDk, pd_eql, pd_neq, pd_eql0, pd_neq0]
  refine CW_seq (CW_seq (CW_region ?_))
  simp only [zZ, reduceIte, Nat.reduceLT, Int.reduceToNat, Int.reduceLE, Int.reduceEq, Int.reduceLT, Nat.reduceEqDiff, Nat.reduceAdd, zDk, pd_eql, pd_neq, pd_eql0, pd_neq0]
  refine ⟨by kernel_rfl, _, dlen_spec M p q g d hd, ?_⟩
  rintro _ M9 ⟨rfl, e9⟩; replace e9 := e9.symm; subst e9
  simp only [zZ, reduceIte, Nat.reduceLT, Int.reduceToNat, Int.reduceLE, Int.reduceEq, Int.reduceLT, Nat.reduceEqDiff, Nat.reduceAdd, zDk, pd_eql, pd_neq, pd_eql0, pd_neq0]
  refine CW_cond (decide ((d.old.length : Int) < 13)) (by rfl) (fun h => absurd (of_decide_eq_true h) (by omega)) (fun h => CW_skip ?_)
  simp only [zZ, reduceIte, Nat.reduceLT, Int.reduceToNat, Int.reduceLE, Int.reduceEq, Int.reduceLT, Nat.reduceEqDiff, Nat.reduceAdd, zDk, pd_eql, pd_neq, pd_eql0, pd_neq0]
  refine CW_seq (CW_region ?_)
  simp only [zZ, reduceIte, Nat.reduceLT, Int.reduceToNat, Int.reduceLE, Int.reduceEq, Int.reduceLT, Nat.reduceEqDiff, Nat.reduceAdd, zDk, pd_eql, pd_neq, pd_eql0, pd_neq0]
  refine ⟨by kernel_rfl, _, keys_spec secret _ (by omega) (by decide) M, ?_⟩
  rintro _ M9 ⟨rfl, e9⟩; replace e9 := e9.symm; subst e9
  obtain ⟨key, hkey⟩ : ∃ key, key = str (Sha.headKey secret.data.toList) := ⟨_, rfl⟩
  rw [← hkey]
  have hkv : keysV secret.data.toList (⟨#[]⟩ : ByteArray).data.toList = .agg #[.string (str (Sha.encKey secret.data.toList [])), .string (str (Sha.macKey secret.data.toList [])), .string key] := by rw [hkey]; rfl
  rw [hkv]
  have hfld : vField Tryz.prog 67 (some (.agg #[.string (str (Sha.encKey secret.data.toList [])), .string (str (Sha.macKey secret.data.toList [])), .string key])) 2 = some (.string key) := by rfl
  have hbd : aBuild Tryz.prog 112 [(0, .pointer (some ⟨p, 0, none⟩)), (1, .string key)] = some (.agg (depC p key 0).toArray) := by kernel_rfl
  have hbx : nBox Tryz.prog 112 (.agg (depC p key 0).toArray) = some (.cells false (aStride Tryz.prog 112) (depC p key 0)) := bx_Dep _ rfl
  generalize aStride Tryz.prog 112 = s1 at hbx
  simp only [zZ, reduceIte, Nat.reduceLT, Int.reduceToNat, Int.reduceLE, Int.reduceEq, Int.reduceLT, Nat.reduceEqDiff, Nat.reduceAdd, zDk, pd_eql, pd_neq, pd_eql0, pd_neq0, hfld, hdp, hbd, hbx]
  obtain ⟨M2, hM2⟩ : ∃ M2, M2 = M.push (.cells false s1 (depC p key 0)) := ⟨_, rfl⟩
  obtain ⟨dep, hdep⟩ : ∃ dep, dep = M.size := ⟨_, rfl⟩
  have hg2 : M2.get dep = some (.cells false s1 (depC p key 0)) := by rw [hM2, hdep, Mem.get_push_new]
  have ho2 : Only [] M M2 := by rw [hM2]; exact Only.push _ _ _
  have hs2 : M2.size = M.size + 1 := by rw [hM2, Mem.size_push]
  rw [← hM2, ← hdep]
  have hd2 : DskAt M2 p q g d := hd.only ho2 (by simp) (by simp) (by simp)
  have hloop : ∀ M', Only [] M2 M' → DskAt M' p q g d ∧ M'.get dep = some (.cells false s1 (depC p key 0)) := fun M' ho => ⟨hd2.only ho (by simp) (by simp) (by simp), ho _ _ (by simp) hg2⟩
  refine CW_seq (CW_seq (CW_region ?_))
  simp only [zZ, reduceIte, Nat.reduceLT, Int.reduceToNat, Int.reduceLE, Int.reduceEq, Int.reduceLT, Nat.reduceEqDiff, Nat.reduceAdd, zDk, pd_eql, pd_neq, pd_eql0, pd_neq0]
  refine CW_block (MW_loop (fun j f M' => ∃ i : Nat, j = 8 - i ∧ i ≤ 8 ∧ f = [(0, .pointer (some ⟨p, 0, none⟩)), (6, .pointer (some ⟨dep, 0, none⟩)), (29, .int .i64 (i : Nat))] ∧ Only [] M2 M' ∧ M2.size ≤ M'.size) 8 ?_ ?_)
  · refine ⟨[0, 6, 29], ?_⟩
    simp only [zZ, reduceIte, Nat.reduceLT, Int.reduceToNat, Int.reduceLE, Int.reduceEq, Int.reduceLT, Nat.reduceEqDiff, Nat.reduceAdd, keepF]
    exact ⟨M2, Thin.refl _, 0, rfl, by omega, rfl, Only.refl _ _, Nat.le_refl _⟩
  · rintro j f M' ⟨i, rfl, hi8, rfl, ho, hss⟩
    obtain ⟨hd', hg'⟩ := hloop M' ho
    refine CW_seq (CW_region ?_)
    simp only [zZ, reduceIte, Nat.reduceLT, Int.reduceToNat, Int.reduceLE, Int.reduceEq, Int.reduceLT, Nat.reduceEqDiff, Nat.reduceAdd, zDk, pd_eql, pd_neq, pd_eql0, pd_neq0]
    refine CW_seq (CW_cond (decide ((i : Int) < 8)) (by rfl) (fun h => CW_skip ?_) (fun h => CW_exit ?_))
    · have h := of_decide_eq_true h
      have hi : i < 8 := by omega
      have w1 : IntKind.i64.wrap (5 + (i : Int)) = ((5 + i : Nat) : Int) := by rw [wri (by omega) (by omega)]; omega
      have w2 : IntKind.i64.wrap ((i : Int) + 1) = ((i + 1 : Nat) : Int) := by rw [wri (by omega) (by omega)]; omega
      have htr := hb.trim (i := 5 + i) (by omega) (by omega)
      have hrd : d.read ((5 + i : Nat) : Int) = (d.sector (5 + i), 0) := by unfold Dsk.read; rw [if_pos (hb.may (by omega))]; rfl
      simp only [zZ, reduceIte, Nat.reduceLT, Int.reduceToNat, Int.reduceLE, Int.reduceEq, Int.reduceLT, Nat.reduceEqDiff, Nat.reduceAdd]
      refine CW_seq (CW_block (CW_seq (CW_region ?_)))
      simp only [zZ, reduceIte, Nat.reduceLT, Int.reduceToNat, Int.reduceLE, Int.reduceEq, Int.reduceLT, Nat.reduceEqDiff, Nat.reduceAdd, zDk, pd_eql, pd_neq, pd_eql0, pd_neq0]
      refine CW_seq (CW_region ?_)
      simp only [zZ, reduceIte, Nat.reduceLT, Int.reduceToNat, Int.reduceLE, Int.reduceEq, Int.reduceLT, Nat.reduceEqDiff, Nat.reduceAdd, zDk, pd_eql, pd_neq, pd_eql0, pd_neq0, w1]
      refine ⟨by kernel_rfl, _, read_spec M' p q g d hd' ((5 + i : Nat) : Int), ?_⟩
      rintro _ M9 ⟨rfl, e9⟩; replace e9 := e9.symm; subst e9
      rw [hrd]
      simp only [zZ, reduceIte, Nat.reduceLT, Int.reduceToNat, Int.reduceLE, Int.reduceEq, Int.reduceLT, Nat.reduceEqDiff, Nat.reduceAdd, zDk, pd_eql, pd_neq, pd_eql0, pd_neq0]
      refine CW_seq (CW_seq (CW_region ?_))
      simp only [zZ, reduceIte, Nat.reduceLT, Int.reduceToNat, Int.reduceLE, Int.reduceEq, Int.reduceLT, Nat.reduceEqDiff, Nat.reduceAdd, zDk, pd_eql, pd_neq, pd_eql0, pd_neq0]
      refine CW_cond false (by rfl) (fun h => by cases h) (fun _ => CW_skip ?_)
      simp only [zZ, reduceIte, Nat.reduceLT, Int.reduceToNat, Int.reduceLE, Int.reduceEq, Int.reduceLT, Nat.reduceEqDiff, Nat.reduceAdd, zDk, pd_eql, pd_neq, pd_eql0, pd_neq0]
      refine CW_seq (CW_region ?_)
      simp only [zZ, reduceIte, Nat.reduceLT, Int.reduceToNat, Int.reduceLE, Int.reduceEq, Int.reduceLT, Nat.reduceEqDiff, Nat.reduceAdd, zDk, pd_eql, pd_neq, pd_eql0, pd_neq0]
      refine ⟨by kernel_rfl, _, ctake_blank M' _ htr.1 htr.2, ?_⟩
      rintro _ M3 ⟨rfl, ho3, hs3⟩
      have hal : nAlloc Tryz.prog 75 = some (.cells false (aStride Tryz.prog 75) zeroExt) := al_Ext
      generalize aStride Tryz.prog 75 = s2 at hal
      have hput : putIn 8 (M3.push (.cells false s2 zeroExt)) M3.size 0 zeroExt ((M3.push (.cells false s2 zeroExt)).get M3.size) = some (M3.push (.cells false s2 zeroExt)) := by
        rw [Mem.get_push_new]
        simp only [putIn]
        rw [if_pos ⟨rfl, by decide, rfl⟩]
        congr 1
        exact push_set _ _ _
      simp only [zZ, reduceIte, Nat.reduceLT, Int.reduceToNat, Int.reduceLE, Int.reduceEq, Int.reduceLT, Nat.reduceEqDiff, Nat.reduceAdd, zDk, pd_eql, pd_neq, pd_eql0, pd_neq0, hal, agg_cells, hput]
      obtain ⟨M4, hM4⟩ : ∃ M4, M4 = M3.push (.cells false s2 zeroExt) := ⟨_, rfl⟩
      have ho4 : Only [] M2 M4 := ho.trans (ho3.trans (by rw [hM4]; exact Only.push _ _ _))
      have hs4 : M4.size = M3.size + 1 := by rw [hM4, Mem.size_push]
      rw [← hM4]
      have q1 : ((8 : Int) == 0) = false := rfl
      refine CW_seq (CW_region ?_)
      simp only [zZ, reduceIte, Nat.reduceLT, Int.reduceToNat, Int.reduceLE, Int.reduceEq, Int.reduceLT, Nat.reduceEqDiff, Nat.reduceAdd, zDk, pd_eql, pd_neq, pd_eql0, pd_neq0, q1]
      refine CW_cond false (by rfl) (fun h => by cases h) (fun _ => CW_skip ?_)
      simp only [zZ, reduceIte, Nat.reduceLT, Int.reduceToNat, Int.reduceLE, Int.reduceEq, Int.reduceLT, Nat.reduceEqDiff, Nat.reduceAdd, zDk, pd_eql, pd_neq, pd_eql0, pd_neq0]
      refine CW_region ?_
      simp only [zZ, reduceIte, Nat.reduceLT, Int.reduceToNat, Int.reduceLE, Int.reduceEq, Int.reduceLT, Nat.reduceEqDiff, Nat.reduceAdd, zDk, pd_eql, pd_neq, pd_eql0, pd_neq0, w2]
      refine ⟨[0, 6, 29], ?_⟩
      simp only [zZ, reduceIte, Nat.reduceLT, Int.reduceToNat, Int.reduceLE, Int.reduceEq, Int.reduceLT, Nat.reduceEqDiff, Nat.reduceAdd, keepF]
      exact ⟨M4, Thin.refl _, 8 - (i + 1), ⟨i + 1, rfl, by omega, rfl, ho4, by omega⟩, by omega⟩
    · simp only [zZ, reduceIte, Nat.reduceLT, Int.reduceToNat, Int.reduceLE, Int.reduceEq, Int.reduceLT, Nat.reduceEqDiff, Nat.reduceAdd, zDk, pd_eql, pd_neq, pd_eql0, pd_neq0]
      refine CW_seq (CW_seq (CW_region ?_))
      simp only [zZ, reduceIte, Nat.reduceLT, Int.reduceToNat, Int.reduceLE, Int.reduceEq, Int.reduceLT, Nat.reduceEqDiff, Nat.reduceAdd, zDk, pd_eql, pd_neq, pd_eql0, pd_neq0]
      obtain ⟨M6, hM6⟩ : ∃ M6, M6 = M' := ⟨_, rfl⟩
      rw [← hM6] at ho hss ⊢
      clear hd' hg' hM6 M'
      refine CW_block (MW_loop (fun j f M' => ∃ i : Nat, j = 4 - i ∧ i ≤ 4 ∧ f = [(0, .pointer (some ⟨p, 0, none⟩)), (6, .pointer (some ⟨dep, 0, none⟩)), (60, .int .i64 (i : Nat))] ∧ Only [] M2 M' ∧ M2.size ≤ M'.size) 4 ?_ ?_)
      · refine ⟨[0, 6, 60], ?_⟩
        simp only [zZ, reduceIte, Nat.reduceLT, Int.reduceToNat, Int.reduceLE, Int.reduceEq, Int.reduceLT, Nat.reduceEqDiff, Nat.reduceAdd, keepF]
        exact ⟨M6, Thin.refl _, 0, rfl, by omega, rfl, ho, hss⟩
      · clear ho hss
        rintro j f M' ⟨i, rfl, hi8', rfl, ho, hss⟩
        obtain ⟨hd', hg'⟩ := hloop M' ho
        refine CW_seq (CW_region ?_)
        simp only [zZ, reduceIte, Nat.reduceLT, Int.reduceToNat, Int.reduceLE, Int.reduceEq, Int.reduceLT, Nat.reduceEqDiff, Nat.reduceAdd, zDk, pd_eql, pd_neq, pd_eql0, pd_neq0]
        refine CW_seq (CW_cond (decide ((i : Int) < 4)) (by rfl) (fun h => CW_skip ?_) (fun h => CW_exit ?_))
        · have h := of_decide_eq_true h
          have hi : i < 4 := by omega
          have w1 : IntKind.i64.wrap (1 + (i : Int)) = ((1 + i : Nat) : Int) := by rw [wri (by omega) (by omega)]; omega
          have w2 : IntKind.i64.wrap ((i : Int) + 1) = ((i + 1 : Nat) : Int) := by rw [wri (by omega) (by omega)]; omega
          have htr := hb.trim (i := 1 + i) (by omega) (by omega)
          have hrd : d.read ((1 + i : Nat) : Int) = (d.sector (1 + i), 0) := by unfold Dsk.read; rw [if_pos (hb.may (by omega))]; rfl
          simp only [zZ, reduceIte, Nat.reduceLT, Int.reduceToNat, Int.reduceLE, Int.reduceEq, Int.reduceLT, Nat.reduceEqDiff, Nat.reduceAdd]
          refine CW_seq (CW_block (CW_seq (CW_region ?_)))
          simp only [zZ, reduceIte, Nat.reduceLT, Int.reduceToNat, Int.reduceLE, Int.reduceEq, Int.reduceLT, Nat.reduceEqDiff, Nat.reduceAdd, zDk, pd_eql, pd_neq, pd_eql0, pd_neq0]
          refine CW_seq (CW_region ?_)
          simp only [zZ, reduceIte, Nat.reduceLT, Int.reduceToNat, Int.reduceLE, Int.reduceEq, Int.reduceLT, Nat.reduceEqDiff, Nat.reduceAdd, zDk, pd_eql, pd_neq, pd_eql0, pd_neq0, w1]
          refine ⟨by kernel_rfl, _, read_spec M' p q g d hd' ((1 + i : Nat) : Int), ?_⟩
          rintro _ M9 ⟨rfl, e9⟩; replace e9 := e9.symm; subst e9
          rw [hrd]
          simp only [zZ, reduceIte, Nat.reduceLT, Int.reduceToNat, Int.reduceLE, Int.reduceEq, Int.reduceLT, Nat.reduceEqDiff, Nat.reduceAdd, zDk, pd_eql, pd_neq, pd_eql0, pd_neq0]
          refine CW_seq (CW_seq (CW_region ?_))
          simp only [zZ, reduceIte, Nat.reduceLT, Int.reduceToNat, Int.reduceLE, Int.reduceEq, Int.reduceLT, Nat.reduceEqDiff, Nat.reduceAdd, zDk, pd_eql, pd_neq, pd_eql0, pd_neq0]
          refine CW_cond false (by rfl) (fun h => by cases h) (fun _ => CW_skip ?_)
          simp only [zZ, reduceIte, Nat.reduceLT, Int.reduceToNat, Int.reduceLE, Int.reduceEq, Int.reduceLT, Nat.reduceEqDiff, Nat.reduceAdd, zDk, pd_eql, pd_neq, pd_eql0, pd_neq0]
          refine CW_seq (CW_region ?_)
          simp only [zZ, reduceIte, Nat.reduceLT, Int.reduceToNat, Int.reduceLE, Int.reduceEq, Int.reduceLT, Nat.reduceEqDiff, Nat.reduceAdd, zDk, pd_eql, pd_neq, pd_eql0, pd_neq0]
          refine ⟨by kernel_rfl, _, jtake_blank M' _ htr.1 htr.2, ?_⟩
          rintro _ M3 ⟨rfl, ho3, hs3⟩
          have hal : nAlloc Tryz.prog 85 = some (.cells false (aStride Tryz.prog 85) zeroRec) := al_Rec
          generalize aStride Tryz.prog 85 = s2 at hal
          have hput : putIn 13 (M3.push (.cells false s2 zeroRec)) M3.size 0 zeroRec ((M3.push (.cells false s2 zeroRec)).get M3.size) = some (M3.push (.cells false s2 zeroRec)) := by
            rw [Mem.get_push_new]
            simp only [putIn]
            rw [if_pos ⟨rfl, by decide, rfl⟩]
            congr 1
            exact push_set _ _ _
          simp only [zZ, reduceIte, Nat.reduceLT, Int.reduceToNat, Int.reduceLE, Int.reduceEq, Int.reduceLT, Nat.reduceEqDiff, Nat.reduceAdd, zDk, pd_eql, pd_neq, pd_eql0, pd_neq0, hal, agg_cells, hput]
          obtain ⟨M4, hM4⟩ : ∃ M4, M4 = M3.push (.cells false s2 zeroRec) := ⟨_, rfl⟩
          have ho4 : Only [] M2 M4 := ho.trans (ho3.trans (by rw [hM4]; exact Only.push _ _ _))
          have hs4 : M4.size = M3.size + 1 := by rw [hM4, Mem.size_push]
          rw [← hM4]
          have q1 : ((8 : Int) == 0) = false := rfl
          have q2 : ((8 : Int) != 8) = false := rfl
          refine CW_seq (CW_region ?_)
          simp only [zZ, reduceIte, Nat.reduceLT, Int.reduceToNat, Int.reduceLE, Int.reduceEq, Int.reduceLT, Nat.reduceEqDiff, Nat.reduceAdd, zDk, pd_eql, pd_neq, pd_eql0, pd_neq0, q1]
          refine CW_cond false (by rfl) (fun h => by cases h) (fun _ => CW_seq (CW_region ?_))
          simp only [zZ, reduceIte, Nat.reduceLT, Int.reduceToNat, Int.reduceLE, Int.reduceEq, Int.reduceLT, Nat.reduceEqDiff, Nat.reduceAdd, zDk, pd_eql, pd_neq, pd_eql0, pd_neq0, q2]
          refine CW_cond false (by rfl) (fun h => by cases h) (fun _ => CW_skip ?_)
          simp only [zZ, reduceIte, Nat.reduceLT, Int.reduceToNat, Int.reduceLE, Int.reduceEq, Int.reduceLT, Nat.reduceEqDiff, Nat.reduceAdd, zDk, pd_eql, pd_neq, pd_eql0, pd_neq0]
          refine CW_region ?_
          simp only [zZ, reduceIte, Nat.reduceLT, Int.reduceToNat, Int.reduceLE, Int.reduceEq, Int.reduceLT, Nat.reduceEqDiff, Nat.reduceAdd, zDk, pd_eql, pd_neq, pd_eql0, pd_neq0, w2]
          refine ⟨[0, 6, 60], ?_⟩
          simp only [zZ, reduceIte, Nat.reduceLT, Int.reduceToNat, Int.reduceLE, Int.reduceEq, Int.reduceLT, Nat.reduceEqDiff, Nat.reduceAdd, keepF]
          exact ⟨M4, Thin.refl _, 4 - (i + 1), ⟨i + 1, rfl, by omega, rfl, ho4, by omega⟩, by omega⟩
        · simp only [zZ, reduceIte, Nat.reduceLT, Int.reduceToNat, Int.reduceLE, Int.reduceEq, Int.reduceLT, Nat.reduceEqDiff, Nat.reduceAdd, zDk, pd_eql, pd_neq, pd_eql0, pd_neq0]
          refine CW_seq (CW_region ?_)
          simp only [zZ, reduceIte, Nat.reduceLT, Int.reduceToNat, Int.reduceLE, Int.reduceEq, Int.reduceLT, Nat.reduceEqDiff, Nat.reduceAdd, zDk, pd_eql, pd_neq, pd_eql0, pd_neq0]
          refine ⟨by kernel_rfl, _, next_spec M' p q g d hd' 0, ?_⟩
          rintro _ M7 ⟨rfl, hd7, ho7, hs7⟩
          rw [hnx]
          simp only [zZ, reduceIte, Nat.reduceLT, Int.reduceToNat, Int.reduceLE, Int.reduceEq, Int.reduceLT, Nat.reduceEqDiff, Nat.reduceAdd, zDk, pd_eql, pd_neq, pd_eql0, pd_neq0]
          refine CW_seq (CW_seq (CW_region ?_))
          simp only [zZ, reduceIte, Nat.reduceLT, Int.reduceToNat, Int.reduceLE, Int.reduceEq, Int.reduceLT, Nat.reduceEqDiff, Nat.reduceAdd, zDk, pd_eql, pd_neq, pd_eql0, pd_neq0]
          refine CW_cond false (by rfl) (fun h => by cases h) (fun _ => CW_skip ?_)
          simp only [zZ, reduceIte, Nat.reduceLT, Int.reduceToNat, Int.reduceLE, Int.reduceEq, Int.reduceLT, Nat.reduceEqDiff, Nat.reduceAdd, zDk, pd_eql, pd_neq, pd_eql0, pd_neq0]
          have hg7 : M7.get dep = some (.cells false s1 (depC p key 0)) := ho7 _ _ (by simp; omega) hg'
          have hg7' := hg7
          unfold depC at hg7
          refine CW_seq (CW_region ?_)
          simp only [zZ, reduceIte, Nat.reduceLT, Int.reduceToNat, Int.reduceLE, Int.reduceEq, Int.reduceLT, Nat.reduceEqDiff, Nat.reduceAdd, zDk, pd_eql, pd_neq, pd_eql0, pd_neq0, hg7]
          refine CW_seq (CW_region ?_)
          simp only [zZ, reduceIte, Nat.reduceLT, Int.reduceToNat, Int.reduceLE, Int.reduceEq, Int.reduceLT, Nat.reduceEqDiff, Nat.reduceAdd, zDk, pd_eql, pd_neq, pd_eql0, pd_neq0]
          refine CW_ret ?_
          simp only [zZ, reduceIte, Nat.reduceLT, Int.reduceToNat, Int.reduceLE, Int.reduceEq, Int.reduceLT, Nat.reduceEqDiff, Nat.reduceAdd, zDk, pd_eql, pd_neq, pd_eql0, pd_neq0, mEnd, sAnswer, sAnswer.sRes]
          refine ⟨_, Thin.refl _, dep, rfl, ⟨s1, Mem.get_set_same hg7' _⟩, by omega, hd7.only (Only.set (l := [dep]) (by simp) _) (by simp; omega) (by simp; omega) (by simp; omega), ?_, by rw [Mem.size_set]; omega⟩
          intro b x hbn hbx
          have := get_live hbx
          rw [Mem.get_set_ne (by omega)]
          exact ho7 b x hbn (ho b x (by simp) (ho2 b x (by simp) hbx))
end Go.Proofs.YtmnebimijlnlkaaGreatDoor
