/-
  The walks of sha: what the sum is.
  The walks of sha: New, Sum.
  The walks of mac.
  The walks of mac: tags, and their comparison.
  mac.Tag's contract, for the abstract machine.
  The walk of manifest.Put.
  The walks of mac: tags held against one another.
  The walk of manifest.Take, over a text that was put.
  Headers, compared; the walk of the law's same.
  The walk of chapter 46's waking.
  Headers of one's own, cut and joined.
  The walk of the reference's Sort.
  The walk of the reference's Line.
  Appending to what '[]byte(s)' made: a block whose frozen stretch lies behind its end.
  The walks of the document's answer for layer 2: turned words.
  The walks of the document's answer for layer 2: a text with what stands behind it.
-/
import Derived.Test.YtabffcplbjaklaaGreatDoorPart09
import Derived.Test.YtabffcplbjaklaaGreatDoorPart08
import Derived.Lib.BufferWrite
import Derived.Test.YtabffcplbjaklaaGreatDoorPart06
import Derived.Test.YtabffcplbjaklaaGreatDoorPart07
import Derived.Test.YtabffcplbjaklaaGreatDoorPart01
import Derived.Lib.FrozenHead2
import Derived.Laws.IdiomStrings
import Derived.Deep.QuietTactic
import Derived.BigQuiet
set_option linter.unusedSimpArgs false
set_option linter.unusedVariables false
set_option linter.unusedSectionVars false
set_option linter.unnecessarySimpa false
set_option linter.defProp false
namespace Go.Proofs.YtabffcplbjaklaaGreatDoor
open Go.RowKit
def padK (m : List UInt8) (k : Nat) : List UInt8 := Sha.rest m ++ 0x80 :: List.replicate k 0
theorem padK_snoc (m : List UInt8) (k : Nat) : bytesV (padK m k) ++ [byteV 0] = bytesV (padK m (k + 1)) := by
  simp [bytesV, padK, List.replicate_succ']
theorem padK_length (m : List UInt8) (k : Nat) : (padK m k).length = m.length % 64 + 1 + k := by
  simp [padK, Sha.rest_length]; omega
theorem be8_get (N j : Nat) (hj : j < 8) : (Sha.be8 N)[j]? = some (UInt8.ofNat (N >>> (56 - 8 * j))) := by
  have : j = 0 ∨ j = 1 ∨ j = 2 ∨ j = 3 ∨ j = 4 ∨ j = 5 ∨ j = 6 ∨ j = 7 := by omega
  rcases this with rfl | rfl | rfl | rfl | rfl | rfl | rfl | rfl <;> rfl
theorem be8_byte (n j : Nat) : byteV (UInt8.ofNat ((8 * n) >>> (56 - 8 * j))) = .int .u8 ((n : Int) * 8 / 2 ^ (56 - 8 * j) % 256) := by
  unfold byteV
  congr 1
  rw [UInt8.toNat_ofNat', Nat.shiftRight_eq_div_pow, Nat.mul_comm 8 n]
  simp
theorem be8_snoc (q : List UInt8) (n j : Nat) (hj : j < 8) : bytesV (q ++ (Sha.be8 (8 * n)).take j) ++ [Value.int .u8 ((n : Int) * 8 / 2 ^ (56 - 8 * j) % 256)] = bytesV (q ++ (Sha.be8 (8 * n)).take (j + 1)) := by
  rw [← be8_byte, List.take_add_one, be8_get _ _ hj]
  simp [bytesV]
theorem w8_word (x : Sha.W8) (u : Nat) (hu : u < 8) : ∃ n : Nat, (w8c x)[u]? = some (.int .u32 n) ∧ x.bytes.take (4 * (u + 1)) = x.bytes.take (4 * u) ++ Sha.be4 n := by
  have : u = 0 ∨ u = 1 ∨ u = 2 ∨ u = 3 ∨ u = 4 ∨ u = 5 ∨ u = 6 ∨ u = 7 := by omega
  rcases this with rfl | rfl | rfl | rfl | rfl | rfl | rfl | rfl <;> exact ⟨_, rfl, rfl⟩
theorem be4_vals (n : Nat) : bytesV (Sha.be4 n) = [.int .u8 ((n : Int) / 16777216 % 256), .int .u8 ((n : Int) / 65536 % 256), .int .u8 ((n : Int) / 256 % 256), .int .u8 ((n : Int) % 256)] := by
  simp only [bytesV, Sha.be4, List.map_cons, List.map_nil, byteV, UInt8.toNat_ofNat', Nat.shiftRight_eq_div_pow]
  simp
set_option maxRecDepth 100000 in
set_option maxHeartbeats 4000000 in
theorem hsum_any (base g : Nat) (m : List UInt8) (w : World) (hm : m.length ≤ 140737488355200) (hh : HashAt base w g m) :
    Calls Tryz.prog 51 #[.pointer (some ⟨g, 0, none⟩)] w fun e w' => e = .returned (.string ⟨(Sha.sum m).toArray⟩) ∧ Below w.heap.size w w' := by
  obtain ⟨lv, hbg, hg, hown⟩ := hh
  have hlr := Sha.rest_length m
  have hfit : (Sha.blocks Sha.start m).Fit := Sha.blocks_fit m Sha.start_fit
  generalize hst : Sha.blocks Sha.start m = st at *
  obtain ⟨av, capv, hv, hel⟩ := elems_of_owned byteV hown
  subst hv
  have c8 := cell_of hg 8
  simp [hcells] at c8
  have HG := Lib.hid hg
  have HS := Lib.hid hst
  have HL := Lib.hid hlr
  have HEL : Hid (ElemsAt bytesS w av capv (Sha.rest m)) := hel
  have hlr' : (Sha.rest m).length < 64 := by omega
  clear hg hst hown hel hlr
  go_enter Tryz.func51, Tryz.ntmps51
  go_wp2_with (at_builtin; refine wpList_append_flat byteV byteV_one rfl _ _ 44 rfl w.heap.size 5 (.int .u8 0) 1 Tryz.underlying44 info_byte rfl (.slice none 0 0) 0 [] rfl (World.ownsRow_nil _ _ _ _) av _ capv (Sha.rest m) rfl rfl HEL.out (by omega) (by decide) (Nat.le_refl _) ?_)
  intro v1 w1 hown1 hgr1
  replace hown1 : w1.ownsRow w.heap.size 5 1 v1 (Sha.rest m).length (bytesV (Sha.rest m)) := by first | exact hown1 | simpa using hown1
  have hb1 : Below w.heap.size w w1 := (Below.refl _ _).grown hgr1 (Nat.le_refl _) (fun k hk => by simp [Value.ownBlock] at hk)
  have hsz1 := hb1.size
  go_wp2_with (at_builtin; refine wpList_append_elem rfl _ _ 44 rfl w.heap.size 5 (.int .u8 0) 1 1 Tryz.underlying44 info_byte rfl (by decide) _ _ _ rfl hown1 _ rfl rfl (by simp [Value.oneCell']) (by omega) (by decide) hsz1 ?_)
  intro v2 w2 hown2 hgr2
  have hb2 := below_append hb1 hown1 hgr2 hsz1 (Nat.le_refl _)
  replace hown2 : w2.ownsRow w.heap.size 5 1 v2 ((Sha.rest m).length + 1) (bytesV (padK m 0)) := by
    have e : bytesV (Sha.rest m) ++ [byteV 0x80] = bytesV (padK m 0) := by simp [bytesV, padK]
    rw [← e]; exact hown2
  clear hgr2 hgr1 hb1 hsz1 hown1
  go_wp2_with fail
  go_loopg [3] (Sha.zeros (m.length + 1)) (fun k v wr => ∃ j : Nat, j + k = Sha.zeros (m.length + 1) ∧ Below w.heap.size w wr ∧ wr.ownsRow w.heap.size 5 1 v ((padK m j).length) (bytesV (padK m j)))
  case atStart => exact ⟨0, by omega, hb2, by rw [padK_length]; rw [HL.out] at hown2; exact hown2⟩
  case round =>
    obtain ⟨j, hj, hb, hown⟩ := hrel
    have hsz := hb.size
    have hpl := padK_length m j
    have HO := Lib.hid hown
    clear hown hown2 hb2
    by_cases hz : j < Sha.zeros (m.length + 1)
    · have hne : ((((padK m j).length : Nat) : Int) % 64 == 56) = false := by
        have hz2 := hz
        unfold Sha.zeros at hz2 hj
        rw [hpl]; simp; omega
      have HPL := Lib.hid hpl
      clear hpl
      obtain ⟨ap, capp, rfl, _⟩ := elems_of_owned byteV HO.out
      have hbd : (padK m j).length < 200 := by rw [HPL.out]; unfold Sha.zeros at hz; omega
      go_wp2_with (at_builtin; refine wpList_append_elem rfl _ _ 44 rfl w.heap.size 5 (.int .u8 0) 1 1 Tryz.underlying44 info_byte rfl (by decide) _ _ _ rfl HO.out _ rfl rfl (by simp [Value.oneCell']) (by omega) (by decide) hsz ?_)
      intro v3 w3 hown3 hgr3
      have hb3 := below_append hb HO.out hgr3 hsz (Nat.le_refl _)
      have e3 : bytesV (padK m j) ++ [byteV 0] = bytesV (padK m (j + 1)) := padK_snoc m j
      have e4 : (padK m (j + 1)).length = (padK m j).length + 1 := by rw [padK_length, padK_length]; omega
      have hown4 : w3.ownsRow w.heap.size 5 1 v3 (padK m (j + 1)).length (bytesV (padK m (j + 1))) := by rw [e4, ← e3]; exact hown3
      have HO4 := Lib.hid hown4
      clear hown3 hgr3 e3 e4 hown4
      go_wp2_with fail
      go_roundg (gk - 1)
      case measure => omega
      case rel => exact ⟨j + 1, by omega, hb3, HO4.out⟩
    · have ej : j = Sha.zeros (m.length + 1) := by omega
      have hne : ((((padK m j).length : Nat) : Int) % 64 == 56) = true := by
        rw [hpl, ej]; unfold Sha.zeros; simp; omega
      have hne' : ((((padK m j).length : Nat) : Int) % 64 != 56) = false := by rw [bne, hne]; rfl
      have hbd : (padK m j).length < 200 := by rw [hpl, ej]; unfold Sha.zeros; omega
      have EJ := Lib.hid ej
      have HPL := Lib.hid hpl
      clear hpl ej hz
      generalize hQ : padK m j = q at *
      have HQ := Lib.hid hQ
      clear hQ
      obtain ⟨ap, capp, rfl, _⟩ := elems_of_owned byteV HO.out
      go_wp2_with fail
      have hN : m.length * 8 ≤ 1125899906841600 := by omega
      clear hne hne'
      go_loopg [3, 26] 8 (fun k v i wr => ∃ j : Nat, j + k = 8 ∧ i = .int .i64 j ∧ Below w.heap.size w wr ∧ wr.ownsRow w.heap.size 5 1 v (q.length + j) (bytesV (q ++ (Sha.be8 (8 * m.length)).take j)))
      case atStart => exact ⟨0, by omega, rfl, hb, by simpa using HO.out⟩
      case round =>
        clear HO hb hsz
        obtain ⟨j, hj, rfl, hb, hown⟩ := hrel
        have hsz := hb.size
        have HO := Lib.hid hown
        clear hown
        obtain ⟨ap, capp, hv, _⟩ := elems_of_owned byteV HO.out
        have hlt9 : (q ++ (Sha.be8 (8 * m.length)).take j).length = q.length + j := by simp [Sha.be8]; omega
        rw [hlt9] at hv
        clear hlt9
        subst hv
        have c9 : wr.cell? ⟨g, 9, none⟩ = some (.int .i64 m.length) := by
          rw [hb.cell (lt_of_heap HG.out), cell_of HG.out]; rfl
        by_cases hj8 : j < 8
        · go_wp2_with (at_builtin; refine wpList_append_elem rfl _ _ 44 rfl w.heap.size 5 (.int .u8 0) 1 1 Tryz.underlying44 info_byte rfl (by decide) _ _ _ rfl HO.out _ rfl rfl (by simp [Value.oneCell']) (by omega) (by decide) hsz ?_)
          intro v3 w3 hown3 hgr3
          have hb3 := below_append hb HO.out hgr3 hsz (Nat.le_refl _)
          have e3 := be8_snoc q m.length j hj8
          have hown4 : w3.ownsRow w.heap.size 5 1 v3 (q.length + (j + 1)) (bytesV (q ++ (Sha.be8 (8 * m.length)).take (j + 1))) := by rw [← e3]; exact hown3
          have HO4 := Lib.hid hown4
          clear hown3 hgr3 e3 hown4
          go_wp2_with fail
          go_roundg (gk - 1)
          case measure => omega
          case rel => exact ⟨j + 1, by omega, by go_num, hb3, HO4.out⟩
        · have ej : j = 8 := by omega
          have hall : Hid (q ++ (Sha.be8 (8 * m.length)).take j = Sha.rest m ++ Sha.tail m.length) := by
            rw [ej, ← HQ.out, EJ.out]
            simp [padK, Sha.tail, Sha.be8, Hid]
          generalize hA : q ++ (Sha.be8 (8 * m.length)).take j = all at *
          have hal : all.length = q.length + j := by rw [← hA]; simp [Sha.be8]; omega
          have HAL := Lib.hid hal
          clear hA hal ej c9
          have hgw := heap_below HG.out hb
          have c0 := cell_of hgw 0
          have c1 := cell_of hgw 1
          have c2 := cell_of hgw 2
          have c3 := cell_of hgw 3
          have c4 := cell_of hgw 4
          have c5 := cell_of hgw 5
          have c6 := cell_of hgw 6
          have c7 := cell_of hgw 7
          simp [hcells] at c0 c1 c2 c3 c4 c5 c6 c7
          clear hgw
          go_wp2_with fail
          clear c0 c1 c2 c3 c4 c5 c6 c7
          have hz64 : all.length % 64 = 0 := by
            have h9 := HPL.out
            rw [EJ.out] at h9
            unfold Sha.zeros at h9
            have := HAL.out
            omega
          obtain ⟨a5, cap5, hv5, hel5⟩ := elems_of_owned byteV HO.out
          have hgv : (wr.alloc (.cells #[.int .u32 st.a, .int .u32 st.b, .int .u32 st.c, .int .u32 st.d, .int .u32 st.e, .int .u32 st.f, .int .u32 st.g, .int .u32 st.h] 97)).heap[wr.heap.size]? = some (.cells (w8c (Sha.blocksN st all 0)) 97 (0, 0)) := heap_alloc_new _ _
          have hbv := hb.alloc hsz (.cells #[.int .u32 st.a, .int .u32 st.b, .int .u32 st.c, .int .u32 st.d, .int .u32 st.e, .int .u32 st.f, .int .u32 st.g, .int .u32 st.h] 97)
          have hev : ElemsAt bytesS (wr.alloc (.cells #[.int .u32 st.a, .int .u32 st.b, .int .u32 st.c, .int .u32 st.d, .int .u32 st.e, .int .u32 st.f, .int .u32 st.g, .int .u32 st.h] 97)) a5 cap5 all := hel5.mono ((Below.refl _ _).alloc (Nat.le_refl _) _)
          have hnb : ∀ x, a5 = some x → x.block ≠ wr.heap.size := by
            rintro x rfl
            have := (HO.out.lt x.block (by rw [hv5]; rfl)).2
            omega
          obtain ⟨gv, hgvn⟩ : ∃ gv, gv = wr.heap.size := ⟨_, rfl⟩
          have hgw : Hid (w.heap.size ≤ gv) := by rw [hgvn]; exact hsz
          rw [← hgvn] at hgv hnb hsz ⊢
          have HGV := Lib.hid hgv
          have HBV := Lib.hid hbv
          have HEV := Lib.hid hev
          have HNB := Lib.hid hnb
          have HV5 := Lib.hid hv5
          clear hgv hbv hev hnb hv5 hel5 hgvn HO hb
          generalize wr.alloc (.cells #[.int .u32 st.a, .int .u32 st.b, .int .u32 st.c, .int .u32 st.d, .int .u32 st.e, .int .u32 st.f, .int .u32 st.g, .int .u32 st.h] 97) = wq at *
          go_loopg [3] (all.length / 64) (fun k v wr => ∃ (j : Nat) (a : Option Addr) (cap : Nat), j + k = all.length / 64 ∧ v = .slice a (all.length - 64 * j) cap ∧ Below w.heap.size w wr ∧ wr.heap[gv]? = some (.cells (w8c (Sha.blocksN st all j)) 97 (0, 0)) ∧
            ElemsAt bytesS wr a cap (all.drop (64 * j)) ∧ ∀ x, a = some x → x.block ≠ gv)
          case atStart => exact ⟨0, a5, cap5, by omega, by have := HV5.out; rw [HAL.out] at this ⊢; simpa using this, HBV.out, HGV.out, by simpa using HEV.out, HNB.out⟩
          case round =>
            clear HGV HBV HEV HNB HV5
            obtain ⟨i, a, cap, hi, rfl, hb, hg, he, hnb⟩ := hrel
            have hsz2 := hb.size
            have HG2 := Lib.hid hg
            have HB2 := Lib.hid hb
            have HE2 := Lib.hid he
            have HNB2 := Lib.hid hnb
            clear hg hb he hnb
            by_cases hik : i < all.length / 64
            · have hln : (all.drop (64 * i)).length = all.length - 64 * i := by simp
              obtain ⟨b, off, ha, hbl, _⟩ := HE2.out.byte (i := 0) (by omega)
              subst ha
              have hge : (0 : Int) < ((all.length - 64 * i : Nat) : Int) := by omega
              have hge2 : (64 : Int) ≤ ((all.length - 64 * i : Nat) : Int) := by omega
              have hfx : (Sha.blocksN st all i).Fit := Sha.blocksN_fit i all hfit
              have hmix : Hid (Sha.blocksN st all (i + 1) = Sha.mix (Sha.blocksN st all i) ((all.drop (64 * i)).take 64)) := Sha.blocksN_succ i st all
              have hl64 : ((all.drop (64 * i)).take 64).length = 64 := by simp; omega
              have HL64 := Lib.hid hl64
              have HFIT := Lib.hid hfx
              have heT := Lib.hid (HE2.out.take 64)
              generalize Sha.blocksN st all i = x at *
              clear hl64 hln hfx
              go_wp2_with fail
              refine region_pure_tail 4 (by kernel_rfl) (by kernel_rfl) fun I ne fw hfb hback => ?_
              simp only [List.take_succ_cons, List.take_zero, List.drop_succ_cons, List.drop_zero]
              have hcg : ∀ i k, (fw i).cell? ⟨gv, k, none⟩ = _ := fun i k => (hfb i).cell (lt_of_heap HG2.out)
              have d0 : ∀ i, (fw i).cell? ⟨gv, 0, none⟩ = some (.int .u32 x.a) := fun i => by rw [hcg, cell_of HG2.out]; rfl
              have d1 : ∀ i, (fw i).cell? ⟨gv, 1, none⟩ = some (.int .u32 x.b) := fun i => by rw [hcg, cell_of HG2.out]; rfl
              have d2 : ∀ i, (fw i).cell? ⟨gv, 2, none⟩ = some (.int .u32 x.c) := fun i => by rw [hcg, cell_of HG2.out]; rfl
              have d3 : ∀ i, (fw i).cell? ⟨gv, 3, none⟩ = some (.int .u32 x.d) := fun i => by rw [hcg, cell_of HG2.out]; rfl
              have d4 : ∀ i, (fw i).cell? ⟨gv, 4, none⟩ = some (.int .u32 x.e) := fun i => by rw [hcg, cell_of HG2.out]; rfl
              have d5 : ∀ i, (fw i).cell? ⟨gv, 5, none⟩ = some (.int .u32 x.f) := fun i => by rw [hcg, cell_of HG2.out]; rfl
              have d6 : ∀ i, (fw i).cell? ⟨gv, 6, none⟩ = some (.int .u32 x.g) := fun i => by rw [hcg, cell_of HG2.out]; rfl
              have d7 : ∀ i, (fw i).cell? ⟨gv, 7, none⟩ = some (.int .u32 x.h) := fun i => by rw [hcg, cell_of HG2.out]; rfl
              have hcap : (64 : Int) ≤ cap := by
                rcases HE2.out with ⟨h0, _⟩ | ⟨_, _, _, _, hlc, _⟩
                · have := congrArg List.length h0; simp at this; omega
                · simp at hlc; omega
              have hfb' := Lib.hid hfb
              clear hfb hcg
              repeat (quiet_step ((go_at_call 68; exact pure_of hfb'.out hback (mix_lit x HFIT.out b off cap ((all.drop (64 * i)).take 64) HL64.out _ (heT.out.mono (hfb'.out _))))))
              refine wpQuiet_nil ?_
              intro ii
              have hfi := hfb'.out ii
              have hg3 : (fw ii).heap[gv]? = _ := heap_below HG2.out hfi
              have he3 := Lib.hid (HE2.out.mono hfi)
              have hb3 := Lib.hid (HB2.out.trans (hfi.mono hsz2))
              generalize fw ii = w3 at *
              clear hfi hback hfb' d0 d1 d2 d3 d4 d5 d6 d7 HG2 HE2 HB2 heT
              have z0 := frozen_of hg3 0
              have z1 := frozen_of hg3 1
              have z2 := frozen_of hg3 2
              have z3 := frozen_of hg3 3
              have z4 := frozen_of hg3 4
              have z5 := frozen_of hg3 5
              have z6 := frozen_of hg3 6
              have z7 := frozen_of hg3 7
              have c0 := cell_of hg3 0
              have c1 := cell_of hg3 1
              have c2 := cell_of hg3 2
              have c3 := cell_of hg3 3
              have c4 := cell_of hg3 4
              have c5 := cell_of hg3 5
              have c6 := cell_of hg3 6
              have c7 := cell_of hg3 7
              simp [w8c] at c0 c1 c2 c3 c4 c5 c6 c7
              generalize hY : Sha.mix x ((all.drop (64 * i)).take 64) = y at *
              have HG3 := Lib.hid hg3
              clear hg3 HL64 HFIT hY
              have hcapn : 64 ≤ cap := by omega
              have hbg2 : b ≠ gv := HNB2.out ⟨b, off, none⟩ rfl
              by_cases hce : cap = 64
              · have hd : all.drop (64 * (i + 1)) = [] := by
                  rcases he3.out with ⟨h0, _⟩ | ⟨_, _, _, _, hlc, _⟩
                  · have := congrArg List.length h0; simp at this
                    apply List.drop_eq_nil_of_le; omega
                  · simp at hlc
                    apply List.drop_eq_nil_of_le; omega
                have HD := Lib.hid hd
                have hll : Hid (all.length - 64 * i - 64 = 0) := by have := congrArg List.length hd; simp at this; show _ = _; omega
                have hce' : ((cap : Nat) : Int) = 64 := by omega
                clear hd
                go_wp2_with fail
                go_roundg (gk - 1)
                case measure => omega
                case rel =>
                  refine ⟨i + 1, some ⟨b, off, none⟩, cap - 64, by omega, by first | (rw [show all.length - 64 * (i + 1) = all.length - 64 * i - 64 by omega]; done) | rw [show all.length - 64 * (i + 1) = all.length - 64 * i - 64 by omega, show cap - 64 = 0 by omega], ((((((((hb3.out.setCell (p := ⟨gv, 0, none⟩) hgw.out _).setCell (p := ⟨gv, 1, none⟩) hgw.out _).setCell (p := ⟨gv, 2, none⟩) hgw.out _).setCell (p := ⟨gv, 3, none⟩) hgw.out _).setCell (p := ⟨gv, 4, none⟩) hgw.out _).setCell (p := ⟨gv, 5, none⟩) hgw.out _).setCell (p := ⟨gv, 6, none⟩) hgw.out _).setCell (p := ⟨gv, 7, none⟩) hgw.out _), ?_, ?_, HNB2.out⟩
                  · rw [heap_setCell (heap_setCell (heap_setCell (heap_setCell (heap_setCell (heap_setCell (heap_setCell (heap_setCell HG3.out 0 _) 1 _) 2 _) 3 _) 4 _) 5 _) 6 _) 7 _, hmix.out]
                    simp [w8c]
                  · rw [HD.out]; exact .inl ⟨rfl, by have : maxLen = 9223372036854775807 := rfl; omega, by simp⟩
              · have hce' : (64 : Int) < cap := by omega
                go_wp2_with fail
                go_roundg (gk - 1)
                case measure => omega
                case rel =>
                  refine ⟨i + 1, some ⟨b, off + 64, none⟩, cap - 64, by omega, by first | (rw [show all.length - 64 * (i + 1) = all.length - 64 * i - 64 by omega]; done) | rw [show all.length - 64 * (i + 1) = all.length - 64 * i - 64 by omega, show cap - 64 = 0 by omega], ((((((((hb3.out.setCell (p := ⟨gv, 0, none⟩) hgw.out _).setCell (p := ⟨gv, 1, none⟩) hgw.out _).setCell (p := ⟨gv, 2, none⟩) hgw.out _).setCell (p := ⟨gv, 3, none⟩) hgw.out _).setCell (p := ⟨gv, 4, none⟩) hgw.out _).setCell (p := ⟨gv, 5, none⟩) hgw.out _).setCell (p := ⟨gv, 6, none⟩) hgw.out _).setCell (p := ⟨gv, 7, none⟩) hgw.out _), ?_, ?_, by rintro x e; cases e; exact hbg2⟩
                  · rw [heap_setCell (heap_setCell (heap_setCell (heap_setCell (heap_setCell (heap_setCell (heap_setCell (heap_setCell HG3.out 0 _) 1 _) 2 _) 3 _) 4 _) 5 _) 6 _) 7 _, hmix.out]
                    simp [w8c]
                  · have hd := he3.out.drop 64 (by simp; omega)
                    rw [List.drop_drop, show 64 * i + 64 = 64 * (i + 1) by omega] at hd
                    exact (ElemsAt.setCell (c := byteV) (ElemsAt.setCell (c := byteV) (ElemsAt.setCell (c := byteV) (ElemsAt.setCell (c := byteV) (ElemsAt.setCell (c := byteV) (ElemsAt.setCell (c := byteV) (ElemsAt.setCell (c := byteV) (ElemsAt.setCell (c := byteV) hd ⟨gv, 0, none⟩ (by rintro x e; cases e; exact hbg2) _) ⟨gv, 1, none⟩ (by rintro x e; cases e; exact hbg2) _) ⟨gv, 2, none⟩ (by rintro x e; cases e; exact hbg2) _) ⟨gv, 3, none⟩ (by rintro x e; cases e; exact hbg2) _) ⟨gv, 4, none⟩ (by rintro x e; cases e; exact hbg2) _) ⟨gv, 5, none⟩ (by rintro x e; cases e; exact hbg2) _) ⟨gv, 6, none⟩ (by rintro x e; cases e; exact hbg2) _) ⟨gv, 7, none⟩ (by rintro x e; cases e; exact hbg2) _)
            · have ei : i = all.length / 64 := by omega
              have hz0 : all.length - 64 * i = 0 := by omega
              have hblk : Hid (Sha.sum m = (Sha.blocksN st all i).bytes) := by
                show _ = _
                rw [Sha.sum_eq, HS.out, ← hall.out, ei]
                rfl
              have hfv : (Sha.blocksN st all i).Fit := Sha.blocksN_fit i all hfit
              generalize Sha.blocksN st all i = x at *
              have HZ := Lib.hid hz0
              have HFV := Lib.hid hfv
              have hz1 : ((all.length - 64 * i : Nat) : Int) ≤ 0 := by omega
              have hg := HG2.out
              have c0 := cell_of hg 0
              have c1 := cell_of hg 1
              have c2 := cell_of hg 2
              have c3 := cell_of hg 3
              have c4 := cell_of hg 4
              have c5 := cell_of hg 5
              have c6 := cell_of hg 6
              have c7 := cell_of hg 7
              simp [w8c] at c0 c1 c2 c3 c4 c5 c6 c7
              have hz3 : decide ((0 : Int) < ((all.length - 64 * i : Nat) : Int)) = false := decide_eq_false (by omega)
              have hz4 : decide (0 < all.length - 64 * i) = false := decide_eq_false (by omega)
              clear hg hz0 hfv ei
              go_wp2_with fail
              clear hz4 c0 c1 c2 c3 c4 c5 c6 c7 hz3 hz1
              go_loopg [6, 57] 8 (fun k v i wr => ∃ u : Nat, u + k = 8 ∧ i = .int .i64 u ∧ Below w.heap.size w wr ∧ wr.ownsRow w.heap.size 5 1 v (4 * u) (bytesV (x.bytes.take (4 * u))))
              case atStart => exact ⟨0, by omega, rfl, HB2.out, by simpa [bytesV] using World.ownsRow_nil _ _ _ _⟩
              case round =>
                clear HB2 HG2 HE2 HNB2 hsz2
                obtain ⟨u, hu, rfl, hb, hown⟩ := hrel
                have hsz2 := hb.size
                have HO := Lib.hid hown
                clear hown
                by_cases hu8 : u < 8
                · obtain ⟨n, hn, hsn⟩ := w8_word x u hu8
                  have hix : ∀ wz : World, (Instr.index 97 (.agg #[.int .u32 x.a, .int .u32 x.b, .int .u32 x.c, .int .u32 x.d, .int .u32 x.e, .int .u32 x.f, .int .u32 x.g, .int .u32 x.h]) (.int .i64 u)).run Tryz.prog wz = .ok (.int .u32 n) wz :=
                    fun wz => run_index_agg 97 96 8 Tryz.underlying96 Tryz.underlying97 (by kernel_rfl) _ rfl u _ hn wz
                  have hsn' : Hid (bytesV (x.bytes.take (4 * u)) ++ [.int .u8 ((n : Int) / 16777216 % 256), .int .u8 ((n : Int) / 65536 % 256), .int .u8 ((n : Int) / 256 % 256), .int .u8 ((n : Int) % 256)] = bytesV (x.bytes.take (4 * (u + 1)))) := by
                    show _ = _
                    rw [← be4_vals, hsn]; simp [bytesV]
                  clear hn hsn
                  go_wp2_with (at_builtin; refine wpList_append_lit rfl _ _ 44 rfl w.heap.size 5 (.int .u8 0) 1 Tryz.underlying44 info_byte rfl _ _ _ rfl HO.out _ 4 rfl rfl (by simp [Value.oneCell']) (by omega) (by decide) hsz2 ?_)
                  intro v3 w3 hown3 hgr3
                  have hb3 := below_append hb HO.out hgr3 hsz2 (Nat.le_refl _)
                  have hown4 : w3.ownsRow w.heap.size 5 1 v3 (4 * (u + 1)) (bytesV (x.bytes.take (4 * (u + 1)))) := by rw [← hsn'.out]; exact hown3
                  have HO4 := Lib.hid hown4
                  clear hown3 hgr3 hown4
                  go_wp2_with fail
                  go_roundg (gk - 1)
                  case measure => omega
                  case rel => exact ⟨u + 1, by omega, by go_num, hb3, HO4.out⟩
                · have eu : u = 8 := by omega
                  have hxb : x.bytes.length = 32 := by simp [Sha.W8.bytes, Sha.be4]
                  have hO := HO.out
                  rw [eu, show 4 * 8 = 32 from rfl, List.take_of_length_le (by omega)] at hO
                  obtain ⟨a6, cap6, hv6, he6⟩ := elems_of_owned byteV hO
                  rw [hxb] at hv6
                  obtain ⟨b6, off6, rfl, _, _⟩ := (show ElemsAt bytesS wr a6 cap6 x.bytes from he6).byte (i := 0) (by omega)
                  have hcv := run_convert_bytes_back (P := Tryz.prog) wr 44 9 5 ⟨b6, off6, none⟩ cap6 x.bytes Tryz.underlying44 Tryz.underlying5 Tryz.underlying9 (fun j hj => by
                    obtain ⟨b7, off7, e7, _, h7⟩ := (show ElemsAt bytesS wr (some ⟨b6, off6, none⟩) cap6 x.bytes from he6).byte hj
                    cases e7
                    have e8 : (⟨b6, off6, none⟩ : Addr).add j = ⟨b6, off6 + j, none⟩ := by cases j <;> simp [Addr.add]
                    rw [e8, h7]
                    simp [List.getD, List.getElem?_eq_getElem hj])
                  rw [hxb] at hcv
                  subst hv6
                  clear hO he6 hxb HO eu
                  go_wp2
                  go_ret
                  exact ⟨by rw [hblk.out]; rfl, hb⟩
end Go.Proofs.YtabffcplbjaklaaGreatDoor
namespace Go.Proofs.YtabffcplbjaklaaGreatDoor
open Go.RowKit
set_option maxRecDepth 100000 in
set_option maxHeartbeats 400000 in
theorem new_any (w : World) : Calls Tryz.prog 47 #[] w fun e w' => e = .returned (.pointer (some ⟨w.heap.size, 0, none⟩)) ∧ HashAt w.heap.size w' w.heap.size [] ∧ Below w.heap.size w w' := by
  go_enter Tryz.func47, Tryz.ntmps47
  go_wp2
  go_ret
  exact ⟨rfl, ⟨.slice none 0 0, Nat.le_refl _, heap_alloc_new _ _, World.ownsRow_nil _ _ _ _⟩, (Below.refl _ _).alloc (Nat.le_refl _) _⟩
def joined (ss : List ByteArray) : List UInt8 := ss.flatMap fun s => s.data.toList
theorem joined_take (ss : List ByteArray) (k : Nat) (hk : k < ss.length) : joined (ss.take (k + 1)) = joined (ss.take k) ++ ss[k].data.toList := by
  unfold joined
  rw [List.take_succ_eq_append_getElem hk, List.flatMap_append]
  simp only [List.flatMap_cons, List.flatMap_nil, List.append_nil]
theorem joined_le (ss : List ByteArray) (k : Nat) (hk : k < ss.length) : (joined (ss.take k)).length + ss[k].size ≤ (joined ss).length := by
  have h1 : joined ss = joined (ss.take (k + 1)) ++ joined (ss.drop (k + 1)) := by
    unfold joined
    rw [← List.flatMap_append, List.take_append_drop]
  have h2 := congrArg List.length h1
  rw [joined_take ss k hk] at h2
  simp only [List.length_append] at h2
  have h3 : ss[k].data.toList.length = ss[k].size := by rw [Array.length_toList]; rfl
  omega
set_option maxHeartbeats 400000 in
theorem shasum_any (v : Value) (ss : List ByteArray) (w : World) (hs : SliceOf strS w v ss) (hlen : ss.length ≤ maxLen) (hsz : (joined ss).length ≤ 140737488355200) :
    Calls Tryz.prog 50 #[v] w fun e w' => e = .returned (.string ⟨(Sha.sum (joined ss)).toArray⟩) ∧ Below w.heap.size w w' := by
  obtain ⟨a, cap, rfl, he⟩ := hs
  unfold maxLen at hlen
  have HE := Lib.hid he
  clear he
  go_enter Tryz.func50, Tryz.ntmps50
  go_wp2_with fail
  refine (new_any _).mono ?_
  rintro e w1 ⟨rfl, hh, hb⟩
  have HH := Lib.hid hh
  have HB := Lib.hid hb
  clear hh hb
  go_wp2_with fail
  go_loopw [9] (fun i wr => ∃ k : Nat, k ≤ ss.length ∧ i = .int .i64 k ∧ Below w.heap.size w wr ∧ HashAt w.heap.size wr w.heap.size (joined (ss.take k))) (fun i _ => ss.length - (intOf i).toNat)
  case atStart => exact ⟨0, Nat.zero_le _, rfl, HB.out, by simpa [joined] using HH.out⟩
  case round =>
    clear HH HB
    obtain ⟨k, hk, rfl, hb, hh⟩ := hrel
    have HH := Lib.hid hh
    have HB := Lib.hid hb
    have hsz0 := hb.size
    clear hh
    by_cases hlt : k < ss.length
    · obtain ⟨b, off, rfl, hbl, hc⟩ := (HE.out.mono hb).str hlt
      have hjl := joined_le ss k hlt
      clear hb
      go_wp2_with fail
      refine (write_any w.heap.size w.heap.size (joined (ss.take k)) ss[k] _ hsz0 (by omega) HH.out).mono ?_
      rintro e w2 ⟨rfl, hh2, hb2⟩
      have HH2 := Lib.hid hh2
      have HB2 := Lib.hid (HB.out.trans hb2)
      clear hh2 hb2 hjl
      go_wp2_with fail
      go_roundw
      case rel => exact ⟨k + 1, by omega, by go_num, HB2.out, by rw [joined_take ss k hlt]; exact HH2.out⟩
      case measure => simp [intOf]; omega
    · have ek : k = ss.length := by omega
      have hall : Hid (joined (ss.take k) = joined ss) := by show _ = _; rw [ek, List.take_length]
      clear hb ek
      go_wp2_with fail
      refine (hsum_any w.heap.size w.heap.size (joined (ss.take k)) _ (by rw [hall.out]; omega) HH.out).mono ?_
      rintro e w2 ⟨rfl, hb2⟩
      rw [hall.out]
      go_wp2_with fail
      go_ret
      exact ⟨rfl, HB.out.trans (hb2.mono hsz0)⟩
end Go.Proofs.YtabffcplbjaklaaGreatDoor
namespace Go.Proofs.YtabffcplbjaklaaGreatDoor
open Go.RowKit
theorem SliceOf.litS (w : World) (g : Nat) (hg : g = w.heap.size) (ss : List ByteArray) (T n : Nat) (hn : ss.length = n) (hm : n ≤ maxLen) (C : Array Value) (hC : C = (ss.map Value.string).toArray) :
    SliceOf strS (w.alloc (.cells C T)) (.slice (some ⟨g, 0, none⟩) n n) ss := by
  subst hC hn hg
  refine ⟨some ⟨w.heap.size, 0, none⟩, ss.length, rfl, .inr ⟨w.heap.size, 0, rfl, by simp, Nat.le_refl _, hm, fun i x hx => ⟨_, rfl, fun j c hj => ?_⟩⟩⟩
  cases j with
  | zero =>
    simp only [List.getElem?_cons_zero, Option.some.injEq] at hj
    subst hj
    simp [strS, Shape.flat, hx]
  | succ j => simp at hj
theorem wpList_copy_text {P : Program} {w : World} {ops : Array Oper} {rest : List Oper} {o : Oper} {a : Act} {Q : Exit → Act → World → Prop} (hgd : o.guard = none) (d s : Operand) (dT sT : TypeId)
    (ho : o.op = .call { callee := .builtin .copy, args := #[d, s], argTypes := #[dT, sT] }) (elem : TypeId) (hu : P.underlying dT = some (.slice elem)) (hsz : (P.info? elem).map (·.size) = some 1)
    (g off dLen dCap : Nat) (str : ByteArray) (hd : a.eval d = .slice (some ⟨g, off, none⟩) dLen dCap) (hs : a.eval s = .string str)
    (cur : Array Value) (t : TypeId) (hg : w.heap[g]? = some (.cells cur t (0, 0))) (hle : str.size ≤ dLen) (hfit : off + str.size ≤ cur.size)
    (h : ∀ wz, wz.heap[g]? = some (.cells (cur.toList.take off ++ bytesV str.data.toList ++ cur.toList.drop (off + str.size)).toArray t (0, 0)) → w.grownBy wz (some g) → wpList P ops Q rest (a.put o.dst (goInt str.size)) wz) :
    wpList P ops Q (o :: rest) a w := by
  refine wpList_plain hgd fun K hK => ?_
  have hr := Lib.run_copy_row_string (P := P) w dT sT o.type elem g off dLen dCap str cur t hu hsz hg hle hfit
  unfold Oper.wp execOp
  simp only [ho, resolve, invoke, builtin, Sem.run_bind, Sem.run_pure, Result.andThen_ok, List.map_toArray, List.map_cons, List.map_nil, hd, hs, hr]
  exact hK _ _ (h _ (setRow_heap _ _ _ _ _ _ hg) ⟨rfl, rfl, rfl, by simp [World.setRow], fun k _ hk => setRow_other w g k _ (fun e => hk (by simp [e]))⟩)
set_option maxRecDepth 100000 in
set_option maxHeartbeats 1000000 in
theorem pad_small (k : ByteArray) (m : UInt8) (w : World) (hk : k.size ≤ 64) :
    Calls Tryz.prog 49 #[.string k, .int .u8 m.toNat] w fun e w' => e = .returned (.string ⟨(Sha.pad k.data.toList m).toArray⟩) ∧ Below w.heap.size w w' := by
  have hk' : ¬ (64 : Int) < k.size := by omega
  go_enter Tryz.func49, Tryz.ntmps49
  go_wp2_with (refine wpList_copy_text rfl (.tmp 13) (.tmp 14) 44 9 rfl 5 Tryz.underlying44 (by kernel_rfl) w.heap.size 0 64 64 k rfl rfl _ _ (heap_alloc_new _ _) hk (by simpa using hk) ?_)
  intro w1 hg1 hgr1
  have hlen : k.data.toList.length = k.size := by rw [Array.length_toList]; rfl
  have hkey : Sha.key64 k.data.toList = k.data.toList ++ List.replicate (64 - k.size) 0 := by
    unfold Sha.key64
    simp only [hlen, show ¬ 64 < k.size by omega, if_false]
  have hg2 : w1.heap[w.heap.size]? = some (.cells (bytesV (Sha.key64 k.data.toList)).toArray 101 (0, 0)) := by
    rw [hg1, hkey]
    congr 2
    have e : ∀ L : List Value, L = List.replicate 64 (.int .u8 0) → (bytesV k.data.toList ++ List.drop k.size L).toArray = (bytesV (k.data.toList ++ List.replicate (64 - k.size) 0)).toArray := by
      rintro L rfl
      simp only [bytesV, List.map_append, List.map_replicate, List.drop_replicate]
      rfl
    exact e _ rfl
  have hb1 : Below w.heap.size w w1 := ((Below.refl w.heap.size w).alloc (Nat.le_refl _) _).grown hgr1 (by simp) (fun k hk => by cases hk; exact Nat.le_refl _)
  have hkl : (Sha.key64 k.data.toList).length = 64 := Sha.key64_length _
  have hA : (bytesV (Sha.pad k.data.toList m)) = (Sha.key64 k.data.toList).map fun b => byteV (b ^^^ m) := by simp [bytesV, Sha.pad]
  generalize hK : Sha.key64 k.data.toList = K at *
  generalize hP : Sha.pad k.data.toList m = pd at *
  have hpl : pd.length = 64 := by rw [← hP]; exact Sha.pad_length _ _
  have HG := Lib.hid hg2
  have HB := Lib.hid hb1
  have HA := Lib.hid hA
  have HKL := Lib.hid hkl
  have HPL := Lib.hid hpl
  have HPD := Lib.hid hP
  clear hg1 hgr1 hlen hkey hg2 hb1 hK hP hA hkl hpl
  go_wp2_with fail
  go_loopw [16] (fun i wr => ∃ t : Nat, t ≤ 64 ∧ i = .int .i64 t ∧ Below w.heap.size w wr ∧ wr.heap[w.heap.size]? = some (.cells ((bytesV pd).take t ++ (bytesV K).drop t).toArray 101 (0, 0))) (fun i _ => 64 - (intOf i).toNat)
  case atStart => exact ⟨0, by omega, rfl, HB.out, by simpa using HG.out⟩
  case round =>
    clear HG HB
    obtain ⟨t, ht, rfl, hb, hg⟩ := hrel
    have HG := Lib.hid hg
    have HB := Lib.hid hb
    clear hb
    by_cases hlt : t < 64
    · have hbl : (bytesV pd).length = (bytesV K).length := by simp [bytesV, HKL.out, HPL.out]
      have hkt : t < K.length := by rw [HKL.out]; exact hlt
      have hkb : (bytesV K)[t]? = some (.int .u8 (K[t].toNat : Nat)) := by simp [bytesV, hkt, byteV]
      have hpb : (bytesV pd)[t]? = some (.int .u8 ((K[t].toNat ^^^ m.toNat : Nat) : Int)) := by
        rw [HA.out]; simp [hkt, byteV, UInt8.toNat_xor]
      have c := cell_of hg t
      rw [blend_get _ _ _ hbl (by simp [bytesV, HPL.out]; omega), hkb] at c
      have z := frozen_of hg t
      have hx := u8_xor_nat K[t].toNat m.toNat K[t].toNat_lt m.toNat_lt
      generalize K[t].toNat = kb at *
      have HBL := Lib.hid hbl
      have HPB := Lib.hid hpb
      have hlt' : (t : Int) < 64 := by omega
      clear hg hbl hkb hpb hkt
      go_wp2
      go_roundw
      case rel =>
        refine ⟨t + 1, by omega, by go_num, HB.out.setCell (Nat.le_refl _) _, ?_⟩
        rw [heap_setCell HG.out, blend_set _ _ _ HBL.out _ HPB.out]
      case measure => simp [intOf]; omega
    · have et : t = 64 := by omega
      rw [et, List.take_of_length_le (by simp [bytesV, HPL.out]), List.drop_of_length_le (by simp [bytesV, HKL.out]), List.append_nil] at hg
      have hcv := run_convert_bytes_back (P := Tryz.prog) wr 44 9 5 ⟨w.heap.size, 0, none⟩ 64 pd Tryz.underlying44 Tryz.underlying5 Tryz.underlying9 (fun j hj => by
        rw [cells_add hg]; simp [bytesV, byteV, hj])
      rw [HPL.out] at hcv
      clear hg et
      go_wp2
      go_ret
      exact ⟨by rw [HPD.out]; rfl, HB.out⟩
set_option maxRecDepth 100000 in
set_option maxHeartbeats 1000000 in
theorem pad_big (k : ByteArray) (m : UInt8) (w : World) (hk : 64 < k.size) (hk2 : k.size ≤ 140737488355200) :
    Calls Tryz.prog 49 #[.string k, .int .u8 m.toNat] w fun e w' => e = .returned (.string ⟨(Sha.pad k.data.toList m).toArray⟩) ∧ Below w.heap.size w w' := by
  have hk' : (64 : Int) < k.size := by omega
  have hkl0 : k.data.toList.length = k.size := by rw [Array.length_toList]; rfl
  have hj : joined [k] = k.data.toList := by simp [joined]
  obtain ⟨str, hstr⟩ : ∃ str : ByteArray, str = ⟨(Sha.sum k.data.toList).toArray⟩ := ⟨_, rfl⟩
  have hsz : str.size = 32 := by rw [hstr]; show (Sha.sum k.data.toList).toArray.size = 32; simp [Sha.sum_length]
  have hsd : str.data.toList = Sha.sum k.data.toList := by rw [hstr]
  have HSTR := Lib.hid hstr
  have HSZ := Lib.hid hsz
  have HSD := Lib.hid hsd
  have HJ := Lib.hid hj
  have HKL0 := Lib.hid hkl0
  clear hstr hsz hsd hj hkl0
  go_enter Tryz.func49, Tryz.ntmps49
  go_wp2_with fail
  refine (shasum_any (.slice (some ⟨w.heap.size + 1, 0, none⟩) 1 1) [k] _ (SliceOf.litS _ _ (by simp) [k] 9 1 rfl (by decide) #[.string k] rfl) (by simp [maxLen]) (by rw [HJ.out, HKL0.out]; exact hk2)).mono ?_
  rintro e w0 ⟨rfl, hb0⟩
  rw [HJ.out, ← HSTR.out]
  have hg0 : w0.heap[w.heap.size]? = some (.cells (List.replicate 64 (.int .u8 0)).toArray 101 (0, 0)) := heap_below (heap_alloc_old (heap_alloc_new _ _)) hb0
  have hbw : Below w.heap.size w w0 := (((Below.refl w.heap.size w).alloc (Nat.le_refl _) _).alloc (by simp) _).trans (hb0.mono (by simp; omega))
  have HG0 := Lib.hid hg0
  have HBW := Lib.hid hbw
  clear hg0 hbw hb0
  go_wp2_with (refine wpList_copy_text rfl (.tmp 13) (.tmp 14) 44 9 rfl 5 Tryz.underlying44 (by kernel_rfl) w.heap.size 0 64 64 str rfl rfl _ _ HG0.out (by rw [HSZ.out]; decide) (by rw [HSZ.out]; decide) ?_)
  intro w1 hg1 hgr1
  have hkey : Sha.key64 k.data.toList = str.data.toList ++ List.replicate (64 - str.size) 0 := by
    unfold Sha.key64
    simp only [HKL0.out, show 64 < k.size by omega, if_true]
    rw [HSD.out, Sha.sum_length, HSZ.out]
  have hg2 : w1.heap[w.heap.size]? = some (.cells (bytesV (Sha.key64 k.data.toList)).toArray 101 (0, 0)) := by
    rw [hg1, hkey]
    congr 2
    have e : ∀ L : List Value, L = List.replicate 64 (.int .u8 0) → (bytesV str.data.toList ++ List.drop str.size L).toArray = (bytesV (str.data.toList ++ List.replicate (64 - str.size) 0)).toArray := by
      rintro L rfl
      simp only [bytesV, List.map_append, List.map_replicate, List.drop_replicate]
      rfl
    exact e _ rfl
  have hb1 : Below w.heap.size w w1 := HBW.out.grown hgr1 HBW.out.size (fun k hk => by cases hk; exact Nat.le_refl _)
  have hkl : (Sha.key64 k.data.toList).length = 64 := Sha.key64_length _
  have hA : (bytesV (Sha.pad k.data.toList m)) = (Sha.key64 k.data.toList).map fun b => byteV (b ^^^ m) := by simp [bytesV, Sha.pad]
  generalize hK : Sha.key64 k.data.toList = K at *
  generalize hP : Sha.pad k.data.toList m = pd at *
  have hpl : pd.length = 64 := by rw [← hP]; exact Sha.pad_length _ _
  have HG := Lib.hid hg2
  have HB := Lib.hid hb1
  have HA := Lib.hid hA
  have HKL := Lib.hid hkl
  have HPL := Lib.hid hpl
  have HPD := Lib.hid hP
  clear hg1 hgr1 hkey hg2 hb1 hK hP hA hkl hpl
  go_wp2_with fail
  go_loopw [16] (fun i wr => ∃ t : Nat, t ≤ 64 ∧ i = .int .i64 t ∧ Below w.heap.size w wr ∧ wr.heap[w.heap.size]? = some (.cells ((bytesV pd).take t ++ (bytesV K).drop t).toArray 101 (0, 0))) (fun i _ => 64 - (intOf i).toNat)
  case atStart => exact ⟨0, by omega, rfl, HB.out, by simpa using HG.out⟩
  case round =>
    clear HG HB
    obtain ⟨t, ht, rfl, hb, hg⟩ := hrel
    have HG := Lib.hid hg
    have HB := Lib.hid hb
    clear hb
    by_cases hlt : t < 64
    · have hbl : (bytesV pd).length = (bytesV K).length := by simp [bytesV, HKL.out, HPL.out]
      have hkt : t < K.length := by rw [HKL.out]; exact hlt
      have hkb : (bytesV K)[t]? = some (.int .u8 (K[t].toNat : Nat)) := by simp [bytesV, hkt, byteV]
      have hpb : (bytesV pd)[t]? = some (.int .u8 ((K[t].toNat ^^^ m.toNat : Nat) : Int)) := by
        rw [HA.out]; simp [hkt, byteV, UInt8.toNat_xor]
      have c := cell_of hg t
      rw [blend_get _ _ _ hbl (by simp [bytesV, HPL.out]; omega), hkb] at c
      have z := frozen_of hg t
      have hx := u8_xor_nat K[t].toNat m.toNat K[t].toNat_lt m.toNat_lt
      generalize K[t].toNat = kb at *
      have HBL := Lib.hid hbl
      have HPB := Lib.hid hpb
      have hlt' : (t : Int) < 64 := by omega
      clear hg hbl hkb hpb hkt
      go_wp2
      go_roundw
      case rel =>
        refine ⟨t + 1, by omega, by go_num, HB.out.setCell (Nat.le_refl _) _, ?_⟩
        rw [heap_setCell HG.out, blend_set _ _ _ HBL.out _ HPB.out]
      case measure => simp [intOf]; omega
    · have et : t = 64 := by omega
      rw [et, List.take_of_length_le (by simp [bytesV, HPL.out]), List.drop_of_length_le (by simp [bytesV, HKL.out]), List.append_nil] at hg
      have hcv := run_convert_bytes_back (P := Tryz.prog) wr 44 9 5 ⟨w.heap.size, 0, none⟩ 64 pd Tryz.underlying44 Tryz.underlying5 Tryz.underlying9 (fun j hj => by
        rw [cells_add hg]; simp [bytesV, byteV, hj])
      rw [HPL.out] at hcv
      clear hg et
      go_wp2
      go_ret
      exact ⟨by rw [HPD.out]; rfl, HB.out⟩
theorem pad_any (k : ByteArray) (m : UInt8) (w : World) (hk2 : k.size ≤ 140737488355200) :
    Calls Tryz.prog 49 #[.string k, .int .u8 m.toNat] w fun e w' => e = .returned (.string ⟨(Sha.pad k.data.toList m).toArray⟩) ∧ Below w.heap.size w w' := by
  by_cases hk : k.size ≤ 64
  · exact pad_small k m w hk
  · exact pad_big k m w (by omega) hk2
end Go.Proofs.YtabffcplbjaklaaGreatDoor
namespace Go.Proofs.YtabffcplbjaklaaGreatDoor
open Go.RowKit
set_option maxRecDepth 100000 in
set_option maxHeartbeats 1000000 in
theorem tag_any (k : ByteArray) (v : Value) (ss : List ByteArray) (w : World) (hs : SliceOf strS w v ss) (hk : k.size ≤ 140737488355200) (hlen : ss.length ≤ maxLen) (hsz : (joined ss).length ≤ 140737488355000) :
    Calls Tryz.prog 21 #[.string k, v] w fun e w' => e = .returned (.string (str (Sha.tag k.data.toList (joined ss)))) ∧ Below w.heap.size w w' := by
  obtain ⟨a, cap, rfl, he⟩ := hs
  unfold maxLen at hlen
  have HE := Lib.hid he
  clear he
  go_enter Tryz.func21, Tryz.ntmps21
  go_wp2_with fail
  refine (new_any _).mono ?_
  rintro e w1 ⟨rfl, hh, hb⟩
  have HH := Lib.hid hh
  have HB := Lib.hid hb
  clear hh hb
  go_wp2_with fail
  refine (pad_any k 54 _ hk).mono ?_
  rintro e w2 ⟨rfl, hb2⟩
  have hw1 := HB.out.size
  have HH2 := Lib.hid (HH.out.below hb2)
  have HB2 := Lib.hid (HB.out.trans (hb2.mono hw1))
  clear HH HB hb2
  have hp54 : (Sha.pad k.data.toList 54).length = 64 := Sha.pad_length _ _
  have HP := Lib.hid hp54
  clear hp54
  go_wp2_with fail
  refine (write_any w.heap.size w.heap.size [] (str (Sha.pad k.data.toList 54)) _ HB2.out.size (by rw [str_size, HP.out]; decide) HH2.out).mono ?_
  rintro e w3 ⟨rfl, hh3, hb3⟩
  rw [List.nil_append, str_data] at hh3
  have HH3 := Lib.hid hh3
  have HB3 := Lib.hid (HB2.out.trans hb3)
  clear hh3 hb3 HH2 HB2
  go_wp2_with fail
  go_loopw [15] (fun i wr => ∃ n : Nat, n ≤ ss.length ∧ i = .int .i64 n ∧ Below w.heap.size w wr ∧ HashAt w.heap.size wr w.heap.size (Sha.pad k.data.toList 54 ++ joined (ss.take n))) (fun i _ => ss.length - (intOf i).toNat)
  case atStart => exact ⟨0, Nat.zero_le _, rfl, HB3.out, by simpa [joined] using HH3.out⟩
  case round =>
    clear HH3 HB3
    obtain ⟨n, hn, rfl, hb, hh⟩ := hrel
    have HH := Lib.hid hh
    have HB := Lib.hid hb
    have hsz0 := hb.size
    clear hh
    by_cases hlt : n < ss.length
    · obtain ⟨b, off, rfl, hbl, hc⟩ := (HE.out.mono hb).str hlt
      have hjl := joined_le ss n hlt
      clear hb
      go_wp2_with fail
      refine (write_any w.heap.size w.heap.size (Sha.pad k.data.toList 54 ++ joined (ss.take n)) ss[n] _ hsz0 (by rw [List.length_append, HP.out]; omega) HH.out).mono ?_
      rintro e w4 ⟨rfl, hh4, hb4⟩
      have HH4 := Lib.hid hh4
      have HB4 := Lib.hid (HB.out.trans hb4)
      clear hh4 hb4 hjl
      go_wp2_with fail
      go_roundw
      case rel => exact ⟨n + 1, by omega, by go_num, HB4.out, by rw [joined_take ss n hlt, ← List.append_assoc]; exact HH4.out⟩
      case measure => simp [intOf]; omega
    · have en : n = ss.length := by omega
      have hall : Hid (joined (ss.take n) = joined ss) := by show _ = _; rw [en, List.take_length]
      clear hb en
      go_wp2_with fail
      refine (pad_any k 92 _ hk).mono ?_
      rintro e w4 ⟨rfl, hb4⟩
      have HH4 := Lib.hid (HH.out.below hb4)
      have HB4 := Lib.hid (HB.out.trans (hb4.mono hsz0))
      have hsz4 := HB4.out.size
      clear hb4 HH HB
      go_wp2_with fail
      refine (hsum_any w.heap.size w.heap.size (Sha.pad k.data.toList 54 ++ joined (ss.take n)) _ (by rw [hall.out, List.length_append, HP.out]; omega) HH4.out).mono ?_
      rintro e w5 ⟨rfl, hb5⟩
      rw [hall.out]
      have HB5 := Lib.hid (HB4.out.trans (hb5.mono hsz4))
      have hsz5 := HB5.out.size
      clear hb5 HH4 HB4
      have hp92 : (Sha.pad k.data.toList 92).length = 64 := Sha.pad_length _ _
      have hsl : (Sha.sum (Sha.pad k.data.toList 54 ++ joined ss)).length = 32 := Sha.sum_length _
      have hj : joined [str (Sha.pad k.data.toList 92), str (Sha.sum (Sha.pad k.data.toList 54 ++ joined ss))] = Sha.pad k.data.toList 92 ++ Sha.sum (Sha.pad k.data.toList 54 ++ joined ss) := by simp [joined, str]
      have HJ := Lib.hid hj
      have HJL := Lib.hid (show (joined [str (Sha.pad k.data.toList 92), str (Sha.sum (Sha.pad k.data.toList 54 ++ joined ss))]).length ≤ 140737488355200 by rw [hj, List.length_append, hp92, hsl]; decide)
      clear hj hp92 hsl
      go_wp2_with fail
      refine (shasum_any (.slice (some ⟨w5.heap.size, 0, none⟩) 2 2) [str (Sha.pad k.data.toList 92), str (Sha.sum (Sha.pad k.data.toList 54 ++ joined ss))] _ (SliceOf.litS _ _ rfl _ 9 2 rfl (by decide) _ rfl) (by simp [maxLen]) HJL.out).mono ?_
      rintro e w6 ⟨rfl, hb6⟩
      rw [HJ.out]
      go_wp2_with fail
      go_ret
      exact ⟨rfl, HB5.out.trans (((Below.refl w.heap.size w5).alloc hsz5 _).trans (hb6.mono (by simp; omega)))⟩
end Go.Proofs.YtabffcplbjaklaaGreatDoor
namespace Go.Proofs.YtabffcplbjaklaaGreatDoor
open Go.RowKit Abs
theorem mtag_spec (key : ByteArray) (v : Value) (xs : List ByteArray) (m : Mem) (hd : Rd m 1 v xs.length (xs.map .string)) (hk : key.size ≤ 140737488355200) (hlen : xs.length ≤ maxLen) (hsz : (joined xs).length ≤ 140737488355000) :
    Abs.Spec Tryz.prog 21 [.string key, v] m fun u M => u = .string (str (Sha.tag key.data.toList (joined xs))) ∧ M = m :=
  Spec.of_below rfl fun ι w ys hy hr => by
    obtain ⟨a', b', rfl, ha, hb⟩ := vrels_two hy
    cases ha
    exact tag_any key b' xs w (Rd.strs hr hd hb) hk hlen hsz
end Go.Proofs.YtabffcplbjaklaaGreatDoor
namespace Go.Proofs.YtabffcplbjaklaaGreatDoor
open Go.RowKit Abs Stab
theorem new_one (s : ByteArray) : nBuildSlice Tryz.prog 59 1 [(0, .string s)] = some (.cells false 1 [.string s]) := by kernel_rfl
theorem al_Bld : nAlloc Tryz.prog 46 = some (.cells false 0 [.pointer none, .slice none 0 0]) := by kernel_rfl
theorem hexV_le (l : List UInt8) : (hexV l).length ≤ 2 * l.length + 1 := hexV_len' l
theorem tag_len32 (k m : List UInt8) : (Sha.tag k m).length = 32 := by rw [Sha.tag, Sha.sum_length]
theorem bat_keep {K p : Nat} {M M' : Mem} {t : List UInt8} (h : BAt K M p t) (hk : ∀ b x, M.get b = some x → M'.get b = some x) : BAt K M' p t := by
  obtain ⟨h1, a, V, h2, h3, h4⟩ := h
  refine ⟨h1, a, V, hk _ _ h2, h3, ?_⟩
  rcases h4 with h4 | ⟨h5, g, rest, h6, h7, h8, h9, h10⟩
  · exact .inl h4
  · exact .inr ⟨h5, g, rest, h6, h7, h8, h9, hk _ _ h10⟩
theorem joined_one (s : List UInt8) : joined [str s] = s := by simp [joined, str]
set_option maxRecDepth 100000 in
set_option maxHeartbeats 4000000 in
theorem put_spec (key : ByteArray) (hkey : key.size ≤ 1000000) (K : Nat) (M : Mem) (V : Value) (L : List Header) (h : HdrsOwn K M V L) (hl : L.length ≤ 1000) (hs : Small L) :
    Abs.Spec Tryz.prog 8 [.string key, V] M fun u M' => (∀ b x, b < M.size → M.get b = some x → M'.get b = some x) ∧ M.size ≤ M'.size ∧ PutIs key L u := by
  obtain ⟨a0, c0, hV⟩ := h.len
  subst hV
  refine Abs.Spec.walkM Tryz.func8 (by rfl) _ Tryz.results8 _ Tryz.ntmps8 (by simp) ?_
  intro hc hx k
  have hB := al_Bld
  refine CW_seq (CW_region ?_)
  simp only [zZ, reduceIte, Nat.reduceLT, Int.reduceToNat, Int.reduceLE, Int.reduceEq, Int.reduceLT, Nat.reduceEqDiff, Nat.reduceAdd, zMn]
  refine CW_seq (CW_region ?_)
  simp only [zZ, reduceIte, Nat.reduceLT, Int.reduceToNat, Int.reduceLE, Int.reduceEq, Int.reduceLT, Nat.reduceEqDiff, Nat.reduceAdd, zMn]
  refine ⟨by kernel_rfl, _, sorted_spec K M _ L h hl hs, ?_⟩
  rintro u1 M1 ⟨ho1, hs1, hso⟩
  unfold SortedIs at hso
  by_cases h256 : 256 < L.length
  · rw [if_pos h256] at hso
    subst hso
    simp only [zZ, reduceIte, Nat.reduceLT, Int.reduceToNat, Int.reduceLE, Int.reduceEq, Int.reduceLT, Nat.reduceEqDiff, Nat.reduceAdd, zMn]
    refine CW_seq (CW_seq (CW_region ?_))
    simp only [zZ, reduceIte, Nat.reduceLT, Int.reduceToNat, Int.reduceLE, Int.reduceEq, Int.reduceLT, Nat.reduceEqDiff, Nat.reduceAdd, zMn]
    refine CW_cond true (by rfl) (fun _ => CW_seq (CW_region ?_)) (fun h => by cases h)
    simp only [zZ, reduceIte, Nat.reduceLT, Int.reduceToNat, Int.reduceLE, Int.reduceEq, Int.reduceLT, Nat.reduceEqDiff, Nat.reduceAdd, zMn]
    refine CW_ret ?_
    simp only [zZ, reduceIte, Nat.reduceLT, Int.reduceToNat, Int.reduceLE, Int.reduceEq, Int.reduceLT, Nat.reduceEqDiff, Nat.reduceAdd, zMn, mEnd, sAnswer, sAnswer.sRes]
    exact ⟨M1, Thin.refl _, ho1, hs1, .inl ⟨h256, rfl⟩⟩
  rw [if_neg h256] at hso
  obtain ⟨R, hst, hso⟩ := hso
  by_cases he : sortErr none R = 0
  · rw [if_pos he] at hso
    obtain ⟨V1, rfl, hown⟩ := hso
    obtain ⟨a1, c1, hV1⟩ := hown.len
    subst hV1
    have hRl := hst.len
    have hmay : ∀ x ∈ R, mayH x = true := sortErr_may he
    simp only [zZ, reduceIte, Nat.reduceLT, Int.reduceToNat, Int.reduceLE, Int.reduceEq, Int.reduceLT, Nat.reduceEqDiff, Nat.reduceAdd, zMn]
    refine CW_seq (CW_seq (CW_region ?_))
    simp only [zZ, reduceIte, Nat.reduceLT, Int.reduceToNat, Int.reduceLE, Int.reduceEq, Int.reduceLT, Nat.reduceEqDiff, Nat.reduceAdd, zMn]
    refine CW_cond false (by rfl) (fun h => by cases h) (fun _ => CW_skip ?_)
    simp only [zZ, reduceIte, Nat.reduceLT, Int.reduceToNat, Int.reduceLE, Int.reduceEq, Int.reduceLT, Nat.reduceEqDiff, Nat.reduceAdd]
    refine CW_seq (CW_region ?_)
    simp only [zZ, reduceIte, Nat.reduceLT, Int.reduceToNat, Int.reduceLE, Int.reduceEq, Int.reduceLT, Nat.reduceEqDiff, Nat.reduceAdd, zMn, hB]
    obtain ⟨M0, hM0⟩ : ∃ M0, M0 = M1.push (.cells false 0 [.pointer none, .slice none 0 0]) := ⟨_, rfl⟩
    obtain ⟨p, hp⟩ : ∃ p, p = M1.size := ⟨_, rfl⟩
    rw [← hM0, ← hp]
    have hM0s : M0.size = p + 1 := by rw [hM0, Mem.size_push, hp]
    have hold0 : ∀ b y, M1.get b = some y → M0.get b = some y := fun b y hb => by rw [hM0, Mem.get_push_old (get_live hb)]; exact hb
    have hB0 : BAt p M0 p [] := ⟨Nat.le_refl _, _, _, by rw [hM0, hp]; exact Mem.get_push_new _ _, .inl rfl, .inl ⟨rfl, rfl⟩⟩
    have zfirst : (⟨#[115, 108, 101, 100, 103, 101, 32, 109, 97, 110, 105, 102, 101, 115, 116, 32, 49, 10]⟩ : ByteArray) = str (firstW ++ [10]) := rfl
    have zc10 : (⟨#[10]⟩ : ByteArray) = str [10] := rfl
    have ztag : (⟨#[116, 97, 103, 32]⟩ : ByteArray) = str tagW := rfl
    have htw : tagW.length = 4 := rfl
    refine CW_seq (CW_region ?_)
    simp only [zZ, reduceIte, Nat.reduceLT, Int.reduceToNat, Int.reduceLE, Int.reduceEq, Int.reduceLT, Nat.reduceEqDiff, Nat.reduceAdd, zMn, zfirst]
    refine ⟨by kernel_rfl, _, ws_spec p p _ [] (str (firstW ++ [10])) hB0 (by show ([] : List UInt8).length + (firstW ++ [10]).length ≤ _; decide), ?_⟩
    rintro _ M2 ⟨rfl, hb2, hk2, hs2⟩
    simp only [zZ, reduceIte, Nat.reduceLT, Int.reduceToNat, Int.reduceLE, Int.reduceEq, Int.reduceLT, Nat.reduceEqDiff, Nat.reduceAdd, zMn]
    have hold2 : ∀ b y, M1.get b = some y → M2.get b = some y := fun b y hb => hk2.1 b y (by rw [hp]; exact get_live hb) (hold0 b y hb)
    have hal : nAlloc Tryz.prog 40 = some (.cells false (aStride Tryz.prog 40) [.int .i64 0, .string ⟨#[]⟩, .int .i64 0, .int .i64 0, .int .i64 0, .string ⟨#[]⟩, .string ⟨#[]⟩]) := al_Hdr
    generalize aStride Tryz.prog 40 = s2 at hal
    have at2 : ∀ M', (∀ b x, M1.get b = some x → M'.get b = some x) → ∀ (i : Nat) (x : Header), R[i]? = some x → ∃ g, a1 = some ⟨g, 0, none⟩ ∧ HdrsIn M' g R := by
      intro M' hM i x hx
      rcases hown with ⟨h1, _⟩ | ⟨h1, g, _, h3, h4⟩
      · rw [h1] at hx; cases hx
      · cases h3; exact ⟨g, rfl, hM _ _ h4⟩
    have hbody : ∀ i, (firstW ++ [10] ++ (R.take i).flatMap lineN).length ≤ 18 + 10001 * 256 := fun i => by
      have := bodyOf_len (S := R.take i) fun x hx => hmay x (List.mem_of_mem_take hx)
      have h2 : (R.take i).length ≤ 256 := by rw [List.length_take]; omega
      unfold bodyOf at this
      omega
    have hb2' : BAt p M2 p (firstW ++ [10]) := hb2
    clear hb2
    refine MW_mid (fun f M' => f = [(0, .string key), (7, .pointer (some ⟨p, 0, none⟩))] ∧ BAt p M' p (bodyOf R) ∧ Keeps p M2 M' ∧ M2.size ≤ M'.size) ?_ ?_
    · refine CW_seq (CW_region ?_)
      simp only [zZ, reduceIte, Nat.reduceLT, Int.reduceToNat, Int.reduceLE, Int.reduceEq, Int.reduceLT, Nat.reduceEqDiff, Nat.reduceAdd, zMn]
      refine CW_block (MW_loop (fun j f M' => ∃ i : Nat, j = R.length - i ∧ f = [(0, .string key), (7, .pointer (some ⟨p, 0, none⟩)), (19, .slice a1 R.length c1), (20, .int .i64 (R.length : Nat)), (21, .int .i64 (i : Nat))] ∧ i ≤ R.length ∧
        BAt p M' p (firstW ++ [10] ++ (R.take i).flatMap lineN) ∧ Keeps p M2 M' ∧ M2.size ≤ M'.size) R.length ?_ ?_)
      · refine ⟨[0, 7, 19, 20, 21], ?_⟩
        simp only [zZ, reduceIte, Nat.reduceLT, Int.reduceToNat, Int.reduceLE, Int.reduceEq, Int.reduceLT, Nat.reduceEqDiff, Nat.reduceAdd, keepF]
        exact ⟨M2, Thin.refl _, 0, rfl, rfl, by omega, by simpa using hb2', Keeps.refl _ _, Nat.le_refl _⟩
      · rintro j f M' ⟨i, rfl, rfl, hi, hbi, hki, hsi⟩
        refine CW_seq (CW_region ?_)
        simp only [zZ, reduceIte, Nat.reduceLT, Int.reduceToNat, Int.reduceLE, Int.reduceEq, Int.reduceLT, Nat.reduceEqDiff, Nat.reduceAdd, zMn]
        refine CW_seq (CW_cond (decide ((i : Int) < (R.length : Int))) (by rfl) (fun h => CW_skip ?_) (fun h => CW_exit ?_))
        · have h := of_decide_eq_true h
          obtain ⟨x, hX⟩ : ∃ x, R[i]? = some x := ⟨_, List.getElem?_eq_getElem (by omega)⟩
          obtain ⟨g, rfl, hg⟩ := at2 M' (fun b y hb => hki.1 b y (by rw [hp]; exact get_live hb) (hold2 b y hb)) i x hX
          have r1 := hdr_row hg hX
          have z0 : (0 : Int) ≤ (i : Int) := by omega
          have mb := may_of (hmay x (List.mem_of_getElem? hX))
          have hput : putIn 7 (M'.push (.cells false s2 [.int .i64 0, .string ⟨#[]⟩, .int .i64 0, .int .i64 0, .int .i64 0, .string ⟨#[]⟩, .string ⟨#[]⟩])) M'.size 0 x.cells (some (.cells false s2 [.int .i64 0, .string ⟨#[]⟩, .int .i64 0, .int .i64 0, .int .i64 0, .string ⟨#[]⟩, .string ⟨#[]⟩])) = some (M'.push (.cells false s2 x.cells)) := by
            simp only [putIn]
            rw [if_pos ⟨rfl, Nat.le_refl 7, rfl⟩]
            congr 1
            exact push_set _ _ _
          simp only [zZ, reduceIte, Nat.reduceLT, Int.reduceToNat, Int.reduceLE, Int.reduceEq, Int.reduceLT, Nat.reduceEqDiff, Nat.reduceAdd]
          refine CW_seq (CW_block (CW_seq (CW_region ?_)))
          simp only [zZ, reduceIte, Nat.reduceLT, Int.reduceToNat, Int.reduceLE, Int.reduceEq, Int.reduceLT, Nat.reduceEqDiff, Nat.reduceAdd, zMn, z0, h, and_self, r1, hal, Mem.get_push_new, agg_cells, hput]
          obtain ⟨M4, hM4⟩ : ∃ M4, M4 = M'.push (.cells false s2 x.cells) := ⟨_, rfl⟩
          obtain ⟨bs, hbs⟩ : ∃ bs, bs = M'.size := ⟨_, rfl⟩
          have hg4 : M4.get bs = some (.cells false s2 x.cells) := by rw [hM4, hbs, Mem.get_push_new]
          have hold4 : ∀ b y, M'.get b = some y → M4.get b = some y := fun b y hy => by rw [hM4, Mem.get_push_old (get_live hy)]; exact hy
          have hs4 : M4.size = M'.size + 1 := by rw [hM4, Mem.size_push]
          have rx : rowIn 7 0 (some (.cells false s2 x.cells)) = some (.agg x.cells.toArray) := rfl
          rw [← hM4, ← hbs]
          refine CW_region ?_
          simp only [zZ, reduceIte, Nat.reduceLT, Int.reduceToNat, Int.reduceLE, Int.reduceEq, Int.reduceLT, Nat.reduceEqDiff, Nat.reduceAdd, zMn, hg4, rx]
          refine ⟨by kernel_rfl, _, line_spec x mb.idI mb.n mb.bytes mb.raw (by have := mb.salt; omega) (by have := mb.root; omega) (by have := mb.tag; omega) M4, ?_⟩
          rintro _ M9 ⟨rfl, e9⟩; replace e9 := e9.symm; subst e9
          have hxl : (lineV x ++ [10]).length ≤ 10001 := lineN_len (hmay x (List.mem_of_getElem? hX))
          have hxl2 : (lineV x).length ≤ 10001 := by rw [List.length_append] at hxl; omega
          simp only [zZ, reduceIte, Nat.reduceLT, Int.reduceToNat, Int.reduceLE, Int.reduceEq, Int.reduceLT, Nat.reduceEqDiff, Nat.reduceAdd, zMn, zc10, cat_str, siz_str]
          refine ⟨by first | omega | (simp only [List.length_append, List.length_cons, List.length_nil] <;> omega), ?_⟩
          have hl9 := hbody i
          refine ⟨by kernel_rfl, _, ws_spec p p _ _ (str (lineV x ++ [10])) (bat_keep hbi hold4) (by show _ + (lineV x ++ [10]).length ≤ _; omega), ?_⟩
          rintro _ M5 ⟨rfl, hb5, hk5, hs5⟩
          simp only [zZ, reduceIte, Nat.reduceLT, Int.reduceToNat, Int.reduceLE, Int.reduceEq, Int.reduceLT, Nat.reduceEqDiff, Nat.reduceAdd, zMn]
          refine CW_region ?_
          have w9 : IntKind.i64.wrap ((i : Int) + 1) = ((i + 1 : Nat) : Int) := by rw [wri (by omega) (by omega)]; omega
          simp only [zZ, reduceIte, Nat.reduceLT, Int.reduceToNat, Int.reduceLE, Int.reduceEq, Int.reduceLT, Nat.reduceEqDiff, Nat.reduceAdd, zMn, w9]
          refine ⟨[0, 7, 19, 20, 21], ?_⟩
          simp only [zZ, reduceIte, Nat.reduceLT, Int.reduceToNat, Int.reduceLE, Int.reduceEq, Int.reduceLT, Nat.reduceEqDiff, Nat.reduceAdd, keepF]
          have e5 : firstW ++ [10] ++ (R.take (i + 1)).flatMap lineN = firstW ++ [10] ++ (R.take i).flatMap lineN ++ (lineV x ++ [10]) := by
            rw [List.take_add_one, hX, List.flatMap_append, List.append_assoc]
            simp [lineN]
          exact ⟨M5, Thin.refl _, R.length - (i + 1), ⟨i + 1, rfl, rfl, by omega, by rw [e5]; exact hb5, hki.trans (Keeps.trans ⟨fun b y _ hy => hold4 b y hy, fun b s cs hy => hold4 b _ hy⟩ hk5), by omega⟩, by omega⟩
        · have h := of_decide_eq_false h
          refine ⟨[0, 7], ?_⟩
          simp only [zZ, reduceIte, Nat.reduceLT, Int.reduceToNat, Int.reduceLE, Int.reduceEq, Int.reduceLT, Nat.reduceEqDiff, Nat.reduceAdd, keepF]
          refine ⟨M', Thin.refl _, ?_, hki, hsi⟩
          rw [List.take_of_length_le (by omega)] at hbi
          exact hbi
    · rintro _ M3 ⟨rfl, hb3, hk3, hs3⟩
      obtain ⟨T, hT⟩ : ∃ T, T = Sha.tag key.data.toList (bodyOf R) := ⟨_, rfl⟩
      have hTl : T.length = 32 := by rw [hT]; exact tag_len32 _ _
      have hHl := hexV_le T
      have hbl : (bodyOf R).length ≤ 18 + 10001 * 256 := by have := bodyOf_len hmay; omega
      refine CW_seq (CW_region ?_)
      simp only [zZ, reduceIte, Nat.reduceLT, Int.reduceToNat, Int.reduceLE, Int.reduceEq, Int.reduceLT, Nat.reduceEqDiff, Nat.reduceAdd, zMn]
      refine ⟨by kernel_rfl, _, bstr1_spec p p M3 (bodyOf R) hb3, ?_⟩
      rintro _ M4 ⟨rfl, hk4, hb4⟩
      simp only [zZ, reduceIte, Nat.reduceLT, Int.reduceToNat, Int.reduceLE, Int.reduceEq, Int.reduceLT, Nat.reduceEqDiff, Nat.reduceAdd, zMn, ztag, cat_str, siz_str]
      refine ⟨by first | omega | (simp only [List.length_append, List.length_cons, List.length_nil] <;> omega), ?_⟩
      refine ⟨by kernel_rfl, _, bstr2_spec p p M4 (bodyOf R) hb4, ?_⟩
      rintro _ M9 ⟨rfl, e9⟩; replace e9 := e9.symm; subst e9
      simp only [zZ, reduceIte, Nat.reduceLT, Int.reduceToNat, Int.reduceLE, Int.reduceEq, Int.reduceLT, Nat.reduceEqDiff, Nat.reduceAdd, zMn, new_one]
      obtain ⟨M5, hM5⟩ : ∃ M5, M5 = M4.push (.cells false 1 [.string (str (bodyOf R))]) := ⟨_, rfl⟩
      rw [← hM5]
      have hg5 : M5.get M4.size = some (.cells false 1 [.string (str (bodyOf R))]) := by rw [hM5, Mem.get_push_new]
      have hj : joined [str (bodyOf R)] = bodyOf R := joined_one _
      refine ⟨by kernel_rfl, _, mtag_spec key (.slice (some ⟨M4.size, 0, none⟩) 1 1) [str (bodyOf R)] M5 ⟨_, _, rfl, rfl, Nat.le_refl _, (show 1 ≤ maxLen by decide), (fun h => by cases h), fun p hp => ⟨_, (Option.some.inj hp).symm, fun _ => ⟨false, hg5⟩⟩⟩ (by omega) (show 1 ≤ maxLen by decide) (by rw [hj]; omega), ?_⟩
      rintro _ M9 ⟨rfl, e9⟩; replace e9 := e9.symm; subst e9
      rw [hj, ← hT]
      simp only [zZ, reduceIte, Nat.reduceLT, Int.reduceToNat, Int.reduceLE, Int.reduceEq, Int.reduceLT, Nat.reduceEqDiff, Nat.reduceAdd, zMn]
      refine ⟨by kernel_rfl, _, hex_spec (str T) (by rw [str_size]; omega) _, ?_⟩
      rintro _ M9 ⟨rfl, e9⟩; replace e9 := e9.symm; subst e9
      have hTT : hexV (str T).data.toList = hexV T := rfl
      rw [hTT]
      simp only [zZ, reduceIte, Nat.reduceLT, Int.reduceToNat, Int.reduceLE, Int.reduceEq, Int.reduceLT, Nat.reduceEqDiff, Nat.reduceAdd, zMn, zc10, cat_str, siz_str]
      refine ⟨by first | omega | (simp only [List.length_append, List.length_cons, List.length_nil] <;> omega), by first | omega | (simp only [List.length_append, List.length_cons, List.length_nil] <;> omega), ?_⟩
      refine CW_ret ?_
      simp only [zZ, reduceIte, Nat.reduceLT, Int.reduceToNat, Int.reduceLE, Int.reduceEq, Int.reduceLT, Nat.reduceEqDiff, Nat.reduceAdd, zMn, mEnd, sAnswer, sAnswer.sRes]
      refine ⟨M5, Thin.refl _, fun b x hb hx => ?_, ?_, .inr ⟨h256, R, hst, .inl ⟨he, ?_⟩⟩⟩
      · have h1 := ho1 b x hb hx
        have hbp : b < p := by rw [hp]; omega
        rw [hM5, Mem.get_push_old (get_live (hk4.1 b x hbp (hk3.1 b x hbp (hold2 b x h1))))]
        exact hk4.1 b x hbp (hk3.1 b x hbp (hold2 b x h1))
      · rw [hM5, Mem.size_push]
        have := get_live hb4.2.choose_spec.choose_spec.1
        omega
      · unfold putV
        rw [← hT]
  · rw [if_neg he] at hso
    subst hso
    have he' : (sortErr none R != 0) = true := by simpa using he
    simp only [zZ, reduceIte, Nat.reduceLT, Int.reduceToNat, Int.reduceLE, Int.reduceEq, Int.reduceLT, Nat.reduceEqDiff, Nat.reduceAdd, zMn]
    refine CW_seq (CW_seq (CW_region ?_))
    simp only [zZ, reduceIte, Nat.reduceLT, Int.reduceToNat, Int.reduceLE, Int.reduceEq, Int.reduceLT, Nat.reduceEqDiff, Nat.reduceAdd, zMn, he']
    refine CW_cond true (by rfl) (fun _ => CW_seq (CW_region ?_)) (fun h => by cases h)
    simp only [zZ, reduceIte, Nat.reduceLT, Int.reduceToNat, Int.reduceLE, Int.reduceEq, Int.reduceLT, Nat.reduceEqDiff, Nat.reduceAdd, zMn]
    refine CW_ret ?_
    simp only [zZ, reduceIte, Nat.reduceLT, Int.reduceToNat, Int.reduceLE, Int.reduceEq, Int.reduceLT, Nat.reduceEqDiff, Nat.reduceAdd, zMn, mEnd, sAnswer, sAnswer.sRes]
    exact ⟨M1, Thin.refl _, ho1, hs1, .inr ⟨h256, R, hst, .inr ⟨he, rfl⟩⟩⟩
end Go.Proofs.YtabffcplbjaklaaGreatDoor
namespace Go.Proofs.YtabffcplbjaklaaGreatDoor
open Go.RowKit
theorem byte_at (s : ByteArray) (i : Nat) (hi : i < s.size) : s.data.toList.getD i 0 = s[i] := by
  have : i < s.data.toList.length := by rw [Array.length_toList]; exact hi
  rw [List.getD_eq_getElem?_getD, List.getElem?_eq_getElem this]
  rfl
theorem at_in (s : ByteArray) (i : Nat) (hi : i < s.size) (w : World) :
    Calls Tryz.prog 60 #[.string s, .int .i64 i] w fun e w' => e = .returned (.int .u8 (s.data.toList.getD i 0).toNat) ∧ w = w' := by
  go_enter Tryz.func60, Tryz.ntmps60
  go_wp2
  go_ret
  exact ⟨by rw [byte_at s i hi]; rfl, rfl⟩
theorem at_out (s : ByteArray) (i : Nat) (hi : ¬ i < s.size) (w : World) :
    Calls Tryz.prog 60 #[.string s, .int .i64 i] w fun e w' => e = .returned (.int .u8 (s.data.toList.getD i 0).toNat) ∧ w = w' := by
  have h : s.data.toList.getD i 0 = 0 := by
    rw [List.getD_eq_getElem?_getD, List.getElem?_eq_none (by rw [Array.length_toList]; show s.size ≤ i; omega)]; rfl
  rw [h]
  clear h
  go_enter Tryz.func60, Tryz.ntmps60
  go_wp2
  go_ret
  exact ⟨rfl, rfl⟩
theorem at_any (s : ByteArray) (i : Nat) (w : World) :
    Calls Tryz.prog 60 #[.string s, .int .i64 i] w fun e w' => e = .returned (.int .u8 (s.data.toList.getD i 0).toNat) ∧ w = w' := by
  by_cases h : i < s.size
  · exact at_in s i h w
  · exact at_out s i h w
theorem ofInt_i64 (a : Nat) (ha : a < 9223372036854775808) : (BitVec.ofInt 64 (a : Int)).toNat = a := by
  rw [BitVec.ofInt_natCast, BitVec.toNat_ofNat]; exact Nat.mod_eq_of_lt (by omega)
theorem i64_and_nat (a b : Nat) (ha : a < 9223372036854775808) (hb : b < 9223372036854775808) : bits .and .i64 (a : Int) (b : Int) = ((a &&& b : Nat) : Int) := by
  have hx : a &&& b < 2 ^ 63 := Nat.and_lt_two_pow _ (by omega)
  show IntKind.i64.wrap ((BitVec.ofInt 64 (a : Int) &&& BitVec.ofInt 64 (b : Int)).toNat : Int) = _
  rw [BitVec.toNat_and, ofInt_i64 a ha, ofInt_i64 b hb, IntKind.wrap_i64]
  omega
theorem i64_or_nat (a b : Nat) (ha : a < 9223372036854775808) (hb : b < 9223372036854775808) : bits .or .i64 (a : Int) (b : Int) = ((a ||| b : Nat) : Int) := by
  have hx : a ||| b < 2 ^ 63 := Nat.or_lt_two_pow (by omega) (by omega)
  show IntKind.i64.wrap ((BitVec.ofInt 64 (a : Int) ||| BitVec.ofInt 64 (b : Int)).toNat : Int) = _
  rw [BitVec.toNat_or, ofInt_i64 a ha, ofInt_i64 b hb, IntKind.wrap_i64]
  omega
theorem i64_xor_nat (a b : Nat) (ha : a < 9223372036854775808) (hb : b < 9223372036854775808) : bits .xor .i64 (a : Int) (b : Int) = ((a ^^^ b : Nat) : Int) := by
  have hx : a ^^^ b < 2 ^ 63 := Nat.xor_lt_two_pow (by omega) (by omega)
  show IntKind.i64.wrap ((BitVec.ofInt 64 (a : Int) ^^^ BitVec.ofInt 64 (b : Int)).toNat : Int) = _
  rw [BitVec.toNat_xor, ofInt_i64 a ha, ofInt_i64 b hb, IntKind.wrap_i64]
  omega
def sameB (x y : List UInt8) : Bool := decide (x = y)
def dist (a b : List UInt8) : Nat → Nat
  | 0 => a.length ^^^ b.length
  | t + 1 => dist a b t ||| ((a.getD t 0).toNat ^^^ (b.getD t 0).toNat)
theorem xor_zero {x y : Nat} : x ^^^ y = 0 ↔ x = y := by
  constructor
  · intro h
    have h1 : (x ^^^ y) ^^^ y = x := by rw [Nat.xor_assoc, Nat.xor_self, Nat.xor_zero]
    rw [h, Nat.zero_xor] at h1
    exact h1.symm
  · rintro rfl; exact Nat.xor_self _
theorem or_zero {x y : Nat} : x ||| y = 0 ↔ x = 0 ∧ y = 0 := Nat.or_eq_zero_iff
theorem dist_lt (a b : List UInt8) (ha : a.length < 4611686018427387904) (hb : b.length < 4611686018427387904) : ∀ t, dist a b t < 9223372036854775808
  | 0 => Nat.lt_of_lt_of_le (Nat.xor_lt_two_pow (n := 62) ha hb) (by decide)
  | t + 1 => Nat.or_lt_two_pow (n := 63) (dist_lt a b ha hb t) (Nat.lt_of_lt_of_le (Nat.xor_lt_two_pow (n := 8) (UInt8.toNat_lt _) (UInt8.toNat_lt _)) (by decide))
theorem dist_zero (a b : List UInt8) : ∀ t, dist a b t = 0 ↔ (a.length = b.length ∧ ∀ i, i < t → a.getD i 0 = b.getD i 0)
  | 0 => by simp [dist, xor_zero]
  | t + 1 => by
    rw [dist, or_zero, dist_zero a b t, xor_zero]
    constructor
    · rintro ⟨⟨h1, h2⟩, h3⟩
      refine ⟨h1, fun i hi => ?_⟩
      by_cases e : i = t
      · subst e; exact UInt8.toNat_inj.1 h3
      · exact h2 i (by omega)
    · rintro ⟨h1, h2⟩
      exact ⟨⟨h1, fun i hi => h2 i (by omega)⟩, by rw [h2 t (by omega)]⟩
theorem dist_eq (a b : List UInt8) : dist a b (max a.length b.length) = 0 ↔ a = b := by
  rw [dist_zero]
  constructor
  · rintro ⟨h1, h2⟩
    apply List.ext_getElem h1
    intro i h3 h4
    have := h2 i (by omega)
    simpa [List.getD, h3, h4] using this
  · rintro rfl
    exact ⟨rfl, fun _ _ => rfl⟩
set_option maxHeartbeats 1000000 in
theorem equal_lt (a b : ByteArray) (w : World) (ha : a.size < 4611686018427387904) (hb : b.size < 4611686018427387904) (hle : a.size < b.size) :
    Calls Tryz.prog 30 #[.string a, .string b] w fun e w' => e = .returned (.tuple #[.bool (sameB a.data.toList b.data.toList), .int .i64 (max a.size b.size : Nat)]) ∧ Below w.heap.size w w' := by
  have hx := i64_xor_nat a.size b.size (by omega) (by omega)
  have hla : a.data.toList.length = a.size := by rw [Array.length_toList]; rfl
  have hlb : b.data.toList.length = b.size := by rw [Array.length_toList]; rfl
  have hd0 : a.size ^^^ b.size = dist a.data.toList b.data.toList 0 := by rw [dist, hla, hlb]
  rw [hd0] at hx
  have hmax : max a.size b.size = b.size := by omega
  have hfin : Hid (dist a.data.toList b.data.toList b.size = 0 ↔ a.data.toList = b.data.toList) := by
    have := dist_eq a.data.toList b.data.toList
    rw [hla, hlb, hmax] at this
    exact this
  have hdl := Lib.hid (dist_lt a.data.toList b.data.toList (by omega) (by omega))
  have hle2 : (a.size : Int) < b.size := by omega
  rw [hmax]
  clear hla hlb hd0 hmax
  go_enter Tryz.func30, Tryz.ntmps30
  go_wp2
  go_loop [7, 20] (fun d i => ∃ t : Nat, t ≤ b.size ∧ i = .int .i64 t ∧ d = .int .i64 (dist a.data.toList b.data.toList t : Nat)) (fun _ i => b.size - (intOf i).toNat)
  case atStart => exact ⟨0, Nat.zero_le _, rfl, rfl⟩
  case round =>
    clear hx
    obtain ⟨t, ht, rfl, rfl⟩ := hrel
    by_cases hlt : t < b.size
    · have hdt := hdl.out t
      have hx1 := u8_xor_nat (a.data.toList.getD t 0).toNat (b.data.toList.getD t 0).toNat (UInt8.toNat_lt _) (UInt8.toNat_lt _)
      have hx2 : (a.data.toList.getD t 0).toNat ^^^ (b.data.toList.getD t 0).toNat < 256 := Nat.xor_lt_two_pow (n := 8) (UInt8.toNat_lt _) (UInt8.toNat_lt _)
      have hx3 := i64_or_nat (dist a.data.toList b.data.toList t) ((a.data.toList.getD t 0).toNat ^^^ (b.data.toList.getD t 0).toNat) hdt (by omega)
      have hst : Hid (dist a.data.toList b.data.toList (t + 1) = dist a.data.toList b.data.toList t ||| ((a.data.toList.getD t 0).toNat ^^^ (b.data.toList.getD t 0).toNat)) := rfl
      have hA := at_any a t
      have hB := at_any b t
      generalize (a.data.toList.getD t 0).toNat = x at *
      generalize (b.data.toList.getD t 0).toNat = y at *
      have HA := Lib.hid hA
      have HB := Lib.hid hB
      clear hA hB
      generalize dist a.data.toList b.data.toList t = d at *
      go_wp2_with fail
      refine (HA.out _).mono ?_
      rintro e w' ⟨rfl, rfl⟩
      go_wp2_with fail
      refine (HB.out _).mono ?_
      rintro e w' ⟨rfl, rfl⟩
      go_wp2_with fail
      go_round
      case rel => exact ⟨t + 1, by omega, by go_num, by rw [hst.out]⟩
      case measure => simp [intOf]; omega
    · have et : t = b.size := by omega
      have hz : Hid ((((dist a.data.toList b.data.toList t : Nat) : Int) == 0) = sameB a.data.toList b.data.toList) := by
        show _ = _
        rw [et, Bool.eq_iff_iff, beq_iff_eq, sameB, decide_eq_true_iff, ← hfin.out]; omega
      generalize dist a.data.toList b.data.toList t = d at *
      clear et
      go_wp2_with fail
      go_ret2
      refine ⟨?_, Below.refl _ _⟩
      rw [← hz.out]
      rfl
set_option maxHeartbeats 1000000 in
theorem equal_ge (a b : ByteArray) (w : World) (ha : a.size < 4611686018427387904) (hb : b.size < 4611686018427387904) (hle : b.size ≤ a.size) :
    Calls Tryz.prog 30 #[.string a, .string b] w fun e w' => e = .returned (.tuple #[.bool (sameB a.data.toList b.data.toList), .int .i64 (max a.size b.size : Nat)]) ∧ Below w.heap.size w w' := by
  have hx := i64_xor_nat a.size b.size (by omega) (by omega)
  have hla : a.data.toList.length = a.size := by rw [Array.length_toList]; rfl
  have hlb : b.data.toList.length = b.size := by rw [Array.length_toList]; rfl
  have hd0 : a.size ^^^ b.size = dist a.data.toList b.data.toList 0 := by rw [dist, hla, hlb]
  rw [hd0] at hx
  have hmax : max a.size b.size = a.size := by omega
  have hfin : Hid (dist a.data.toList b.data.toList a.size = 0 ↔ a.data.toList = b.data.toList) := by
    have := dist_eq a.data.toList b.data.toList
    rw [hla, hlb, hmax] at this
    exact this
  have hdl := Lib.hid (dist_lt a.data.toList b.data.toList (by omega) (by omega))
  have hle2 : (b.size : Int) ≤ a.size := by omega
  rw [hmax]
  clear hla hlb hd0 hmax
  go_enter Tryz.func30, Tryz.ntmps30
  go_wp2
  go_loop [7, 20] (fun d i => ∃ t : Nat, t ≤ a.size ∧ i = .int .i64 t ∧ d = .int .i64 (dist a.data.toList b.data.toList t : Nat)) (fun _ i => a.size - (intOf i).toNat)
  case atStart => exact ⟨0, Nat.zero_le _, rfl, rfl⟩
  case round =>
    clear hx
    obtain ⟨t, ht, rfl, rfl⟩ := hrel
    by_cases hlt : t < a.size
    · have hdt := hdl.out t
      have hx1 := u8_xor_nat (a.data.toList.getD t 0).toNat (b.data.toList.getD t 0).toNat (UInt8.toNat_lt _) (UInt8.toNat_lt _)
      have hx2 : (a.data.toList.getD t 0).toNat ^^^ (b.data.toList.getD t 0).toNat < 256 := Nat.xor_lt_two_pow (n := 8) (UInt8.toNat_lt _) (UInt8.toNat_lt _)
      have hx3 := i64_or_nat (dist a.data.toList b.data.toList t) ((a.data.toList.getD t 0).toNat ^^^ (b.data.toList.getD t 0).toNat) hdt (by omega)
      have hst : Hid (dist a.data.toList b.data.toList (t + 1) = dist a.data.toList b.data.toList t ||| ((a.data.toList.getD t 0).toNat ^^^ (b.data.toList.getD t 0).toNat)) := rfl
      have hA := at_any a t
      have hB := at_any b t
      generalize (a.data.toList.getD t 0).toNat = x at *
      generalize (b.data.toList.getD t 0).toNat = y at *
      have HA := Lib.hid hA
      have HB := Lib.hid hB
      clear hA hB
      generalize dist a.data.toList b.data.toList t = d at *
      go_wp2_with fail
      refine (HA.out _).mono ?_
      rintro e w' ⟨rfl, rfl⟩
      go_wp2_with fail
      refine (HB.out _).mono ?_
      rintro e w' ⟨rfl, rfl⟩
      go_wp2_with fail
      go_round
      case rel => exact ⟨t + 1, by omega, by go_num, by rw [hst.out]⟩
      case measure => simp [intOf]; omega
    · have et : t = a.size := by omega
      have hz : Hid ((((dist a.data.toList b.data.toList t : Nat) : Int) == 0) = sameB a.data.toList b.data.toList) := by
        show _ = _
        rw [et, Bool.eq_iff_iff, beq_iff_eq, sameB, decide_eq_true_iff, ← hfin.out]; omega
      generalize dist a.data.toList b.data.toList t = d at *
      clear et
      go_wp2_with fail
      go_ret2
      refine ⟨?_, Below.refl _ _⟩
      rw [← hz.out]
      rfl
theorem equal_any (a b : ByteArray) (w : World) (ha : a.size < 4611686018427387904) (hb : b.size < 4611686018427387904) :
    Calls Tryz.prog 30 #[.string a, .string b] w fun e w' => e = .returned (.tuple #[.bool (sameB a.data.toList b.data.toList), .int .i64 (max a.size b.size : Nat)]) ∧ Below w.heap.size w w' := by
  by_cases h : a.size < b.size
  · exact equal_lt a b w ha hb h
  · exact equal_ge a b w ha hb (by omega)
end Go.Proofs.YtabffcplbjaklaaGreatDoor
namespace Go.Proofs.YtabffcplbjaklaaGreatDoor
open Go.RowKit Abs Stab
theorem equal_spec (a b : ByteArray) (ha : a.size < 4611686018427387904) (hb : b.size < 4611686018427387904) (m : Mem) :
    Abs.Spec Tryz.prog 30 [.string a, .string b] m fun u M => u = .tuple #[.bool (sameB a.data.toList b.data.toList), .int .i64 (max a.size b.size : Nat)] ∧ M = m :=
  Abs.Spec.of_flat (by intro x hx; simp at hx; rcases hx with rfl | rfl <;> rfl) rfl fun w => equal_any a b w ha hb
theorem slice_strs_from (get : Nat → Option Blk) (b n : Nat) (ro : Bool) (cs : List Value) (hb : get b = some (.cells ro 1 cs)) (k : Int) (h0 : 0 ≤ k) (h1 : k ≤ (n : Int)) :
    gSlice Tryz.prog get 59 (.slice (some ⟨b, 0, none⟩) n n) (some (.int .i64 k)) none = some (.slice (some ⟨b, k.toNat, none⟩) (n - k.toNat) (n - k.toNat)) := by
  unfold gSlice aBound
  simp only [Tryz.underlying59, inf_str, Abs.str_size, hb]
  rw [if_pos ⟨h0, h1⟩]
  simp
def Strict (S : List Header) : Prop := ∀ i x y, S[i]? = some x → S[i + 1]? = some y → x.id < y.id
def TakeIs (K : Nat) (M' : Mem) (S : List Header) (same : Bool) (u : Value) : Prop :=
  if same = true then ∃ V, u = .tuple #[V, .int .i64 0, .int .i64 0] ∧ HdrsOwn K M' V S else u = .tuple #[.slice none 0 0, .int .i64 (S.length + 2 : Nat), .int .i64 4]
set_option maxRecDepth 100000 in
set_option maxHeartbeats 4000000 in
theorem take_spec (key key' : ByteArray) (hk' : key'.size ≤ 1000000) (S : List Header) (hm : ∀ h ∈ S, mayH h = true) (hst : Strict S) (hl : S.length ≤ 256) (M : Mem) :
    Abs.Spec Tryz.prog 10 [.string key', .string (str (putV key S))] M fun u M' => (∀ b x, b < M.size → M.get b = some x → M'.get b = some x) ∧ M.size ≤ M'.size ∧
      TakeIs M.size M' S (sameB (Sha.tag key.data.toList (bodyOf S)) (Sha.tag key'.data.toList (bodyOf S))) u := by
  obtain ⟨G, hG⟩ : ∃ G, G = Sha.tag key.data.toList (bodyOf S) := ⟨_, rfl⟩
  have hGl : G.length = 32 := by rw [hG]; exact tag_len32 _ _
  have hTl := putV_len key S hm hl
  have hjl := join_len S G key hG
  have hTe := putV_join key S
  rw [← hG] at hTe ⊢
  obtain ⟨T, hT⟩ : ∃ T, T = putV key S := ⟨_, rfl⟩
  obtain ⟨R, hR⟩ : ∃ R, R = Lib.join (linesOf S G) [10] := ⟨_, rfl⟩
  rw [← hT] at hTl hjl hTe ⊢
  rw [← hR] at hjl hTe
  refine Abs.Spec.walkM Tryz.func10 (by rfl) _ Tryz.results10 _ Tryz.ntmps10 (by simp) ?_
  intro hc hx k
  have zc10 : (⟨#[10]⟩ : ByteArray) = str [10] := rfl
  have ztag : (⟨#[116, 97, 103, 32]⟩ : ByteArray) = str tagW := rfl
  have zfirst : (⟨#[115, 108, 101, 100, 103, 101, 32, 109, 97, 110, 105, 102, 101, 115, 116, 32, 49]⟩ : ByteArray) = str firstW := rfl
  have hlen : (linesOf S G).length = S.length + 2 := by simp [linesOf]
  have hcut := fun (m : Mem) => suffix_spec (str T) (str [10]) (by rw [str_size]; omega) m
  have hcv : Lib.trimSuffix (str T).data.toList (str [10]).data.toList = R := by show Lib.trimSuffix T [10] = R; rw [hTe]; exact trim_eq R 10
  have hcb : Lib.hasSuffix (str T).data.toList (str [10]).data.toList = true := (suffix_iff T 10).2 ⟨R, hTe⟩
  rw [hcv, hcb] at hcut
  have hsp := fun (m : Mem) => msplit_spec (linesOf S G) 10 (by simp [linesOf]) (lines_free S G) (by rw [← hR]; omega) m
  rw [← hR, hlen] at hsp
  obtain ⟨W, hW⟩ : ∃ W, W = wC (linesOf S G) := ⟨_, rfl⟩
  rw [← hW] at hsp
  refine CW_seq (CW_region ?_)
  simp only [zZ, reduceIte, Nat.reduceLT, Int.reduceToNat, Int.reduceLE, Int.reduceEq, Int.reduceLT, Nat.reduceEqDiff, Nat.reduceAdd, zMn]
  refine CW_seq (CW_region ?_)
  simp only [zZ, reduceIte, Nat.reduceLT, Int.reduceToNat, Int.reduceLE, Int.reduceEq, Int.reduceLT, Nat.reduceEqDiff, Nat.reduceAdd, zMn, zc10]
  refine ⟨by kernel_rfl, _, hcut M, ?_⟩
  rintro _ M9 ⟨rfl, e9⟩; replace e9 := e9.symm; subst e9
  simp only [zZ, reduceIte, Nat.reduceLT, Int.reduceToNat, Int.reduceLE, Int.reduceEq, Int.reduceLT, Nat.reduceEqDiff, Nat.reduceAdd, zMn]
  refine CW_seq (CW_region ?_)
  simp only [zZ, reduceIte, Nat.reduceLT, Int.reduceToNat, Int.reduceLE, Int.reduceEq, Int.reduceLT, Nat.reduceEqDiff, Nat.reduceAdd, zMn, zc10]
  refine ⟨by kernel_rfl, _, hsp M, ?_⟩
  rintro _ M1 ⟨rfl, hM1⟩
  have hg1 : M1.get M.size = some (.cells false 1 W) := by
    rw [hM1]
    have := ext_get M [some (some (.cells false 1 W))] 0
    rw [Nat.add_zero] at this
    rw [this]; rfl
  have hs1 : M1.size = M.size + 1 := by rw [hM1, ext_size]; rfl
  have hold1 : ∀ b x, M.get b = some x → M1.get b = some x := fun b x hb => by rw [hM1]; exact ext_get_old _ hb
  obtain ⟨g1, hgg⟩ : ∃ g1, g1 = M.size := ⟨_, rfl⟩
  rw [← hgg] at hg1 ⊢
  simp only [zZ, reduceIte, Nat.reduceLT, Int.reduceToNat, Int.reduceLE, Int.reduceEq, Int.reduceLT, Nat.reduceEqDiff, Nat.reduceAdd, zMn]
  have w0 : W[0]? = some (.string (str firstW)) := by rw [hW]; rfl
  have n0 : (0 : Int) < ((S.length + 2 : Nat) : Int) := by omega
  have bq : beqB (str firstW) (str firstW) = true := by rw [beqB_dec]; exact decide_eq_true rfl
  refine CW_seq (CW_seq (CW_region ?_))
  simp only [zZ, reduceIte, Nat.reduceLT, Int.reduceToNat, Int.reduceLE, Int.reduceEq, Int.reduceLT, Nat.reduceEqDiff, Nat.reduceAdd, zMn, n0, and_self, hg1, w0, zfirst, bq, Bool.not_true, Bool.not_false]
  refine CW_cond false (by rfl) (fun h => by cases h) (fun _ => CW_skip ?_)
  simp only [zZ, reduceIte, Nat.reduceLT, Int.reduceToNat, Int.reduceLE, Int.reduceEq, Int.reduceLT, Nat.reduceEqDiff, Nat.reduceAdd]
  refine CW_seq (CW_region ?_)
  simp only [zZ, reduceIte, Nat.reduceLT, Int.reduceToNat, Int.reduceLE, Int.reduceEq, Int.reduceLT, Nat.reduceEqDiff, Nat.reduceAdd, zMn]
  have hsl : gSlice Tryz.prog M1.get 59 (.slice (some ⟨g1, 0, none⟩) (S.length + 2) (S.length + 2)) (some (.int .i64 1)) none = some (.slice (some ⟨g1, 1, none⟩) (S.length + 1) (S.length + 1)) := by
    rw [slice_strs_from M1.get g1 (S.length + 2) false W hg1 1 (by decide) (by omega)]
    rfl
  have wi : ∀ (i : Nat) (x : Header), S[i]? = some x → W[1 + i]? = some (.string (str (lineV x))) := fun i x hx => by
    rw [hW]
    unfold wC linesOf
    rw [List.getElem?_map, Nat.add_comm 1 i, List.getElem?_cons_succ, List.getElem?_append_left (by rw [List.length_map]; exact (List.getElem?_eq_some_iff.1 hx).1), List.getElem?_map, hx]
    rfl
  have wt : W[1 + S.length]? = some (.string (str (tagLine G))) := by
    rw [hW]
    unfold wC linesOf
    rw [List.getElem?_map, Nat.add_comm 1 S.length, List.getElem?_cons_succ, List.getElem?_append_right (by simp)]
    simp
  have hal : nAlloc Tryz.prog 40 = some (.cells false (aStride Tryz.prog 40) zeroH) := al_Hdr
  generalize aStride Tryz.prog 40 = s2 at hal
  refine CW_seq (CW_seq (CW_region ?_))
  simp only [zZ, reduceIte, Nat.reduceLT, Int.reduceToNat, Int.reduceLE, Int.reduceEq, Int.reduceLT, Nat.reduceEqDiff, Nat.reduceAdd, zMn, hsl]
  refine CW_block (MW_loop (fun j f M' => ∃ (i : Nat) (V : Value), j = S.length + 1 - i ∧ f = [(0, .string key'), (1, .string (str T)), (8, .bool true), (9, .slice (some ⟨g1, 0, none⟩) (S.length + 2) (S.length + 2)), (10, V), (42, .slice (some ⟨g1, 1, none⟩) (S.length + 1) (S.length + 1)), (43, .int .i64 (S.length + 1 : Nat)), (44, .int .i64 (i : Nat))] ∧
    i ≤ S.length ∧ HdrsOwn M1.size M' V (S.take i) ∧ (∀ b x, b < M1.size → M1.get b = some x → M'.get b = some x) ∧ M1.size ≤ M'.size) (S.length + 1) ?_ ?_)
  · refine ⟨[0, 1, 8, 9, 10, 42, 43, 44], ?_⟩
    simp only [zZ, reduceIte, Nat.reduceLT, Int.reduceToNat, Int.reduceLE, Int.reduceEq, Int.reduceLT, Nat.reduceEqDiff, Nat.reduceAdd, keepF]
    exact ⟨M1, Thin.refl _, 0, _, rfl, rfl, by omega, .inl ⟨by simp, rfl⟩, fun _ _ _ h => h, Nat.le_refl _⟩
  · rintro j f M' ⟨i, V, rfl, rfl, hi, hown, hold, hsz⟩
    have hiT : decide ((i : Int) < ((S.length + 1 : Nat) : Int)) = true := decide_eq_true (by omega)
    have hi1 : (i : Int) < ((S.length + 1 : Nat) : Int) := by omega
    have z0 : (0 : Int) ≤ (i : Int) := by omega
    have hgM := hold g1 _ (by rw [hgg]; omega) hg1
    have htl : (S.take i).length = i := by rw [List.length_take]; omega
    have w9 : IntKind.i64.wrap ((i : Int) + 1) = ((i + 1 : Nat) : Int) := by rw [wri (by omega) (by omega)]; omega
    have w2 : IntKind.i64.wrap ((i : Int) + 2) = ((i + 2 : Nat) : Int) := by rw [wri (by omega) (by omega)]; omega
    have olds : ∀ b x, b < M.size → M.get b = some x → M'.get b = some x := fun b x hb hx => hold b x (by omega) (hold1 b x hx)
    refine CW_seq (CW_region ?_)
    simp only [zZ, reduceIte, Nat.reduceLT, Int.reduceToNat, Int.reduceLE, Int.reduceEq, Int.reduceLT, Nat.reduceEqDiff, Nat.reduceAdd, zMn, hiT]
    refine CW_seq (CW_cond true (by rfl) (fun _ => CW_skip ?_) (fun h => by cases h))
    simp only [zZ, reduceIte, Nat.reduceLT, Int.reduceToNat, Int.reduceLE, Int.reduceEq, Int.reduceLT, Nat.reduceEqDiff, Nat.reduceAdd]
    by_cases hiS : i < S.length
    · obtain ⟨x, hX⟩ : ∃ x, S[i]? = some x := ⟨_, List.getElem?_eq_getElem hiS⟩
      have hmx := hm x (List.mem_of_getElem? hX)
      have mb := may_of hmx
      have hwi := wi i x hX
      have hcp := fun (m : Mem) => cutPrefix_spec (str (lineV x)) (str tagW) m
      have hcf : Lib.hasPrefix (str (lineV x)).data.toList (str tagW).data.toList = false := line_noTag x mb.id.1
      rw [hcf] at hcp
      have hrd := mread_spec x hmx
      refine CW_seq (CW_block (CW_seq (CW_region ?_)))
      simp only [zZ, reduceIte, Nat.reduceLT, Int.reduceToNat, Int.reduceLE, Int.reduceEq, Int.reduceLT, Nat.reduceEqDiff, Nat.reduceAdd, zMn, z0, hi1, and_self, hgM, hwi]
      refine CW_seq (CW_seq (CW_region ?_))
      simp only [zZ, reduceIte, Nat.reduceLT, Int.reduceToNat, Int.reduceLE, Int.reduceEq, Int.reduceLT, Nat.reduceEqDiff, Nat.reduceAdd, zMn, ztag]
      refine ⟨by kernel_rfl, _, hcp M', ?_⟩
      rintro _ M9 ⟨rfl, e9⟩; replace e9 := e9.symm; subst e9
      simp only [zZ, reduceIte, Nat.reduceLT, Int.reduceToNat, Int.reduceLE, Int.reduceEq, Int.reduceLT, Nat.reduceEqDiff, Nat.reduceAdd, zMn]
      refine CW_seq (CW_region ?_)
      simp only [zZ, reduceIte, Nat.reduceLT, Int.reduceToNat, Int.reduceLE, Int.reduceEq, Int.reduceLT, Nat.reduceEqDiff, Nat.reduceAdd, zMn]
      refine CW_cond false (by rfl) (fun h => by cases h) (fun _ => CW_skip ?_)
      simp only [zZ, reduceIte, Nat.reduceLT, Int.reduceToNat, Int.reduceLE, Int.reduceEq, Int.reduceLT, Nat.reduceEqDiff, Nat.reduceAdd]
      refine CW_seq (CW_region ?_)
      simp only [zZ, reduceIte, Nat.reduceLT, Int.reduceToNat, Int.reduceLE, Int.reduceEq, Int.reduceLT, Nat.reduceEqDiff, Nat.reduceAdd, zMn]
      refine ⟨by kernel_rfl, _, hrd M', ?_⟩
      rintro _ M9 ⟨rfl, e9⟩; replace e9 := e9.symm; subst e9
      have hput : putIn 7 (M'.push (.cells false s2 zeroH)) M'.size 0 x.cells (some (.cells false s2 zeroH)) = some (M'.push (.cells false s2 x.cells)) := by
        simp only [putIn]
        rw [if_pos ⟨rfl, Nat.le_refl 7, rfl⟩]
        congr 1
        exact push_set _ _ _
      simp only [zZ, reduceIte, Nat.reduceLT, Int.reduceToNat, Int.reduceLE, Int.reduceEq, Int.reduceLT, Nat.reduceEqDiff, Nat.reduceAdd, zMn, hal, Mem.get_push_new, agg_cells, List.toList_toArray, hput]
      obtain ⟨M4, hM4⟩ : ∃ M4, M4 = M'.push (.cells false s2 x.cells) := ⟨_, rfl⟩
      obtain ⟨bs, hbs⟩ : ∃ bs, bs = M'.size := ⟨_, rfl⟩
      have hg4 : M4.get bs = some (.cells false s2 x.cells) := by rw [hM4, hbs, Mem.get_push_new]
      have hold4 : ∀ b y, M'.get b = some y → M4.get b = some y := fun b y hy => by rw [hM4, Mem.get_push_old (get_live hy)]; exact hy
      have hs4 : M4.size = M'.size + 1 := by rw [hM4, Mem.size_push]
      have rx : rowIn 7 0 (some (.cells false s2 x.cells)) = some (.agg x.cells.toArray) := rfl
      have cx : cellIn 0 (some (.cells false s2 x.cells)) = some (.int .i64 x.id) := rfl
      have cx' : x.cells[0]? = some (.int .i64 x.id) := rfl
      rw [← hM4, ← hbs]
      have hown4 := hown.same (M' := M4) fun b y _ hy => hold4 b y hy
      obtain ⟨a1, c1, hV⟩ := hown.len
      rw [htl] at hV
      subst hV
      obtain ⟨M5, V5, ap5, hb5, hown5, hs5, hold5⟩ := happ hown4 (by omega) (by omega) x
      have nw := new_hdr1 x
      have q256 : ((i : Int) == 256) = false := by rw [beq_eq_false_iff_ne]; omega
      have e5 : S.take i ++ [x] = S.take (i + 1) := by rw [List.take_add_one, hX]; rfl
      rw [e5] at hown5
      refine CW_seq (CW_seq (CW_draw hmix 16 (by kernel_rfl) (by kernel_rfl) ?_))
      have done : ∀ (f : AL), True := fun _ => trivial
      have hkeep5 : ∀ b y, b < M1.size → M1.get b = some y → M5.get b = some y := fun b y hb hy => hold5 b y (fun e => by have := (hown4.live e).1; omega) (hold4 b y (hold b y hb hy))
      by_cases hi0 : i = 0
      · have q1 : decide ((i : Int) > 0) = false := decide_eq_false (by omega)
        simp only [zZ, reduceIte, Nat.reduceLT, Int.reduceToNat, Int.reduceLE, Int.reduceEq, Int.reduceLT, Nat.reduceEqDiff, Nat.reduceAdd, zMn, q1]
        refine CW_cond false (by rfl) (fun h => by cases h) (fun _ => CW_skip ?_)
        simp only [zZ, reduceIte, Nat.reduceLT, Int.reduceToNat, Int.reduceLE, Int.reduceEq, Int.reduceLT, Nat.reduceEqDiff, Nat.reduceAdd]
        refine CW_seq (CW_seq (CW_region ?_))
        simp only [zZ, reduceIte, Nat.reduceLT, Int.reduceToNat, Int.reduceLE, Int.reduceEq, Int.reduceLT, Nat.reduceEqDiff, Nat.reduceAdd, zMn, q256]
        refine CW_cond false (by rfl) (fun h => by cases h) (fun _ => CW_skip ?_)
        simp only [zZ, reduceIte, Nat.reduceLT, Int.reduceToNat, Int.reduceLE, Int.reduceEq, Int.reduceLT, Nat.reduceEqDiff, Nat.reduceAdd]
        refine CW_region ?_
        simp only [zZ, reduceIte, Nat.reduceLT, Int.reduceToNat, Int.reduceLE, Int.reduceEq, Int.reduceLT, Nat.reduceEqDiff, Nat.reduceAdd, zMn, hg4, rx, nw, ap5]
        refine CW_region ?_
        simp only [zZ, reduceIte, Nat.reduceLT, Int.reduceToNat, Int.reduceLE, Int.reduceEq, Int.reduceLT, Nat.reduceEqDiff, Nat.reduceAdd, zMn, w9]
        refine ⟨[0, 1, 8, 9, 10, 42, 43, 44], ?_⟩
        simp only [zZ, reduceIte, Nat.reduceLT, Int.reduceToNat, Int.reduceLE, Int.reduceEq, Int.reduceLT, Nat.reduceEqDiff, Nat.reduceAdd, keepF]
        exact ⟨M5, Thin.refl _, S.length + 1 - (i + 1), ⟨i + 1, V5, rfl, rfl, by omega, hown5, hkeep5, by omega⟩, by omega⟩
      · have q1 : decide ((i : Int) > 0) = true := decide_eq_true (by omega)
        obtain ⟨y, hY⟩ : ∃ y, S[i - 1]? = some y := ⟨_, List.getElem?_eq_getElem (by omega)⟩
        have hYt : (S.take i)[i - 1]? = some y := by rw [List.getElem?_take, if_pos (by omega)]; exact hY
        obtain ⟨g3, rfl, hg3⟩ : ∃ g3, a1 = some ⟨g3, 0, none⟩ ∧ HdrsIn M4 g3 (S.take i) := by
          rcases hown4 with ⟨h1, _⟩ | ⟨h1, g, _, h3, h4⟩
          · rw [h1] at hYt; cases hYt
          · rw [htl] at h3
            cases h3; exact ⟨g, rfl, h4⟩
        have cy := hdr_cell hYt (o := 0) (by decide) false 7 (.int .i64 y.id) rfl rfl
        rw [Nat.add_zero] at cy
        unfold HdrsIn at hg3
        have w1 : IntKind.i64.wrap ((i : Int) - 1) = ((i - 1 : Nat) : Int) := by rw [wri (by omega) (by omega)]; omega
        have z1 : (0 : Int) ≤ ((i - 1 : Nat) : Int) := by omega
        have z2 : ((i - 1 : Nat) : Int) < (i : Int) := by omega
        have hlt := hst (i - 1) y x hY (by rw [show i - 1 + 1 = i by omega]; exact hX)
        have qd : decide (x.id ≤ y.id) = false := decide_eq_false (by omega)
        simp only [zZ, reduceIte, Nat.reduceLT, Int.reduceToNat, Int.reduceLE, Int.reduceEq, Int.reduceLT, Nat.reduceEqDiff, Nat.reduceAdd, zMn, q1, w1, z1, z2, and_self, hg3, hg4, cy, cx, cx', qd]
        refine CW_cond false (by rfl) (fun h => by cases h) (fun _ => CW_skip ?_)
        simp only [zZ, reduceIte, Nat.reduceLT, Int.reduceToNat, Int.reduceLE, Int.reduceEq, Int.reduceLT, Nat.reduceEqDiff, Nat.reduceAdd]
        refine CW_seq (CW_seq (CW_region ?_))
        simp only [zZ, reduceIte, Nat.reduceLT, Int.reduceToNat, Int.reduceLE, Int.reduceEq, Int.reduceLT, Nat.reduceEqDiff, Nat.reduceAdd, zMn, q256]
        refine CW_cond false (by rfl) (fun h => by cases h) (fun _ => CW_skip ?_)
        simp only [zZ, reduceIte, Nat.reduceLT, Int.reduceToNat, Int.reduceLE, Int.reduceEq, Int.reduceLT, Nat.reduceEqDiff, Nat.reduceAdd]
        refine CW_region ?_
        simp only [zZ, reduceIte, Nat.reduceLT, Int.reduceToNat, Int.reduceLE, Int.reduceEq, Int.reduceLT, Nat.reduceEqDiff, Nat.reduceAdd, zMn, hg4, rx, nw, ap5]
        refine CW_region ?_
        simp only [zZ, reduceIte, Nat.reduceLT, Int.reduceToNat, Int.reduceLE, Int.reduceEq, Int.reduceLT, Nat.reduceEqDiff, Nat.reduceAdd, zMn, w9]
        refine ⟨[0, 1, 8, 9, 10, 42, 43, 44], ?_⟩
        simp only [zZ, reduceIte, Nat.reduceLT, Int.reduceToNat, Int.reduceLE, Int.reduceEq, Int.reduceLT, Nat.reduceEqDiff, Nat.reduceAdd, keepF]
        exact ⟨M5, Thin.refl _, S.length + 1 - (i + 1), ⟨i + 1, V5, rfl, rfl, by omega, hown5, hkeep5, by omega⟩, by omega⟩
    · have hiE : i = S.length := by omega
      subst hiE
      rw [List.take_of_length_le (Nat.le_refl _)] at hown
      have hcp := fun (m : Mem) => cutPrefix_spec (str (tagLine G)) (str tagW) m
      have hcf : Lib.hasPrefix (str (tagLine G)).data.toList (str tagW).data.toList = true := tag_has (hexV G)
      have hct : Lib.trimPrefix (str (tagLine G)).data.toList (str tagW).data.toList = hexV G := tag_trim (hexV G)
      have hGe : hexV G = hexL G := hexV_full fun e => by rw [e] at hGl; cases hGl
      rw [hcf, hct, hGe] at hcp
      have hun := munhex_spec G 32 hGl (by decide) (by decide)
      have htagl : (tagLine G).length = 4 + 64 := by
        unfold tagLine
        rw [hGe, List.length_append, hexL_len, hGl]
        rfl
      have hTb : T = bodyOf S ++ (tagLine G ++ [10]) := by
        rw [hT]
        unfold putV tagLine
        rw [← hG]
        simp
      have hTlen : T.length = (bodyOf S).length + (tagLine G).length + 1 := by
        rw [hTb]; simp only [List.length_append, List.length_cons, List.length_nil]; omega
      have w3 : IntKind.i64.wrap ((T.length : Int) - ((tagLine G).length : Int)) = (((bodyOf S).length + 1 : Nat) : Int) := by rw [wri (by omega) (by omega)]; omega
      have w4 : IntKind.i64.wrap ((((bodyOf S).length + 1 : Nat) : Int) - 1) = ((bodyOf S).length : Int) := by rw [wri (by omega) (by omega)]; omega
      have hst2 : ∀ get, gSlice Tryz.prog get 9 (.string (str T)) none (some (.int .i64 ((bodyOf S).length : Int))) = some (.string (str (bodyOf S))) := fun get => by
        rw [slice_to get (str T) (bodyOf S).length (by rw [str_size]; omega)]
        show some (Value.string (str (T.take (bodyOf S).length))) = _
        rw [hTb, List.take_left']
        rfl
      have q5 : decide (((S.length + 2 : Nat) : Int) < ((S.length + 2 : Nat) : Int)) = false := decide_eq_false (by omega)
      have hbs1 : bsize (str T) = T.length := rfl
      have hbs2 : bsize (str (tagLine G)) = (tagLine G).length := rfl
      refine CW_seq (CW_block (CW_seq (CW_region ?_)))
      simp only [zZ, reduceIte, Nat.reduceLT, Int.reduceToNat, Int.reduceLE, Int.reduceEq, Int.reduceLT, Nat.reduceEqDiff, Nat.reduceAdd, zMn, z0, hi1, and_self, hgM, wt]
      refine CW_seq (CW_seq (CW_region ?_))
      simp only [zZ, reduceIte, Nat.reduceLT, Int.reduceToNat, Int.reduceLE, Int.reduceEq, Int.reduceLT, Nat.reduceEqDiff, Nat.reduceAdd, zMn, ztag]
      refine ⟨by kernel_rfl, _, hcp M', ?_⟩
      rintro _ M9 ⟨rfl, e9⟩; replace e9 := e9.symm; subst e9
      simp only [zZ, reduceIte, Nat.reduceLT, Int.reduceToNat, Int.reduceLE, Int.reduceEq, Int.reduceLT, Nat.reduceEqDiff, Nat.reduceAdd, zMn]
      refine CW_seq (CW_region ?_)
      simp only [zZ, reduceIte, Nat.reduceLT, Int.reduceToNat, Int.reduceLE, Int.reduceEq, Int.reduceLT, Nat.reduceEqDiff, Nat.reduceAdd, zMn]
      refine CW_cond true (by rfl) (fun _ => CW_seq (CW_region ?_)) (fun h => by cases h)
      simp only [zZ, reduceIte, Nat.reduceLT, Int.reduceToNat, Int.reduceLE, Int.reduceEq, Int.reduceLT, Nat.reduceEqDiff, Nat.reduceAdd, zMn]
      refine ⟨by kernel_rfl, _, hun M', ?_⟩
      rintro _ M9 ⟨rfl, e9⟩; replace e9 := e9.symm; subst e9
      simp only [zZ, reduceIte, Nat.reduceLT, Int.reduceToNat, Int.reduceLE, Int.reduceEq, Int.reduceLT, Nat.reduceEqDiff, Nat.reduceAdd, zMn]
      refine CW_seq (CW_seq (CW_region ?_))
      simp only [zZ, reduceIte, Nat.reduceLT, Int.reduceToNat, Int.reduceLE, Int.reduceEq, Int.reduceLT, Nat.reduceEqDiff, Nat.reduceAdd, zMn, w2, q5, Bool.not_true]
      refine CW_cond false (by rfl) (fun h => by cases h) (fun _ => CW_skip ?_)
      simp only [zZ, reduceIte, Nat.reduceLT, Int.reduceToNat, Int.reduceLE, Int.reduceEq, Int.reduceLT, Nat.reduceEqDiff, Nat.reduceAdd]
      refine CW_seq (CW_seq (CW_region ?_))
      simp only [zZ, reduceIte, Nat.reduceLT, Int.reduceToNat, Int.reduceLE, Int.reduceEq, Int.reduceLT, Nat.reduceEqDiff, Nat.reduceAdd, zMn, hbs1, hbs2, w3, w4, hst2, new_one]
      obtain ⟨M5, hM5⟩ : ∃ M5, M5 = M'.push (.cells false 1 [.string (str (bodyOf S))]) := ⟨_, rfl⟩
      rw [← hM5]
      have hg5 : M5.get M'.size = some (.cells false 1 [.string (str (bodyOf S))]) := by rw [hM5, Mem.get_push_new]
      have hj : joined [str (bodyOf S)] = bodyOf S := joined_one _
      obtain ⟨G', hG'⟩ : ∃ G', G' = Sha.tag key'.data.toList (bodyOf S) := ⟨_, rfl⟩
      have hGl' : G'.length = 32 := by rw [hG']; exact tag_len32 _ _
      refine ⟨by kernel_rfl, _, mtag_spec key' (.slice (some ⟨M'.size, 0, none⟩) 1 1) [str (bodyOf S)] M5 ⟨_, _, rfl, rfl, Nat.le_refl _, (show 1 ≤ maxLen by decide), (fun h => by cases h), fun p hp => ⟨_, (Option.some.inj hp).symm, fun _ => ⟨false, hg5⟩⟩⟩ (by omega) (show 1 ≤ maxLen by decide) (by rw [hj]; omega), ?_⟩
      rintro _ M9 ⟨rfl, e9⟩; replace e9 := e9.symm; subst e9
      rw [hj, ← hG']
      simp only [zZ, reduceIte, Nat.reduceLT, Int.reduceToNat, Int.reduceLE, Int.reduceEq, Int.reduceLT, Nat.reduceEqDiff, Nat.reduceAdd, zMn]
      refine ⟨by kernel_rfl, _, equal_spec (str G) (str G') (by rw [str_size]; omega) (by rw [str_size]; omega) M5, ?_⟩
      rintro _ M9 ⟨rfl, e9⟩; replace e9 := e9.symm; subst e9
      have hsm : sameB (str G).data.toList (str G').data.toList = sameB G G' := rfl
      rw [hsm]
      have hold5 : ∀ b y, M'.get b = some y → M5.get b = some y := fun b y hy => by rw [hM5, Mem.get_push_old (get_live hy)]; exact hy
      have hs5 : M5.size = M'.size + 1 := by rw [hM5, Mem.size_push]
      cases qs : sameB G G'
      · simp only [zZ, reduceIte, Nat.reduceLT, Int.reduceToNat, Int.reduceLE, Int.reduceEq, Int.reduceLT, Nat.reduceEqDiff, Nat.reduceAdd, zMn]
        refine CW_seq (CW_region ?_)
        simp only [zZ, reduceIte, Nat.reduceLT, Int.reduceToNat, Int.reduceLE, Int.reduceEq, Int.reduceLT, Nat.reduceEqDiff, Nat.reduceAdd, zMn]
        refine CW_cond true (by rfl) (fun _ => CW_seq (CW_region ?_)) (fun h => by cases h)
        simp only [zZ, reduceIte, Nat.reduceLT, Int.reduceToNat, Int.reduceLE, Int.reduceEq, Int.reduceLT, Nat.reduceEqDiff, Nat.reduceAdd, zMn, w2]
        refine CW_ret ?_
        simp only [zZ, reduceIte, Nat.reduceLT, Int.reduceToNat, Int.reduceLE, Int.reduceEq, Int.reduceLT, Nat.reduceEqDiff, Nat.reduceAdd, zMn, mEnd, sAnswer, sAnswer.sRes]
        refine ⟨M5, Thin.refl _, fun b y hb hy => hold5 b y (olds b y (by omega) hy), by omega, ?_⟩
        unfold TakeIs
        rw [if_neg (by simp)]
      · simp only [zZ, reduceIte, Nat.reduceLT, Int.reduceToNat, Int.reduceLE, Int.reduceEq, Int.reduceLT, Nat.reduceEqDiff, Nat.reduceAdd, zMn]
        refine CW_seq (CW_region ?_)
        simp only [zZ, reduceIte, Nat.reduceLT, Int.reduceToNat, Int.reduceLE, Int.reduceEq, Int.reduceLT, Nat.reduceEqDiff, Nat.reduceAdd, zMn]
        refine CW_cond false (by rfl) (fun h => by cases h) (fun _ => CW_skip ?_)
        simp only [zZ, reduceIte, Nat.reduceLT, Int.reduceToNat, Int.reduceLE, Int.reduceEq, Int.reduceLT, Nat.reduceEqDiff, Nat.reduceAdd]
        refine CW_seq (CW_region ?_)
        simp only [zZ, reduceIte, Nat.reduceLT, Int.reduceToNat, Int.reduceLE, Int.reduceEq, Int.reduceLT, Nat.reduceEqDiff, Nat.reduceAdd, zMn]
        refine CW_ret ?_
        simp only [zZ, reduceIte, Nat.reduceLT, Int.reduceToNat, Int.reduceLE, Int.reduceEq, Int.reduceLT, Nat.reduceEqDiff, Nat.reduceAdd, zMn, mEnd, sAnswer, sAnswer.sRes]
        refine ⟨M5, Thin.refl _, fun b y hb hy => hold5 b y (olds b y (by omega) hy), by omega, ?_⟩
        unfold TakeIs
        rw [if_pos rfl]
        refine ⟨V, rfl, ?_⟩
        rcases hown with h0 | ⟨h0, g, h1, h2, h3⟩
        · exact .inl h0
        · exact .inr ⟨h0, g, by omega, h2, hold5 _ _ h3⟩
end Go.Proofs.YtabffcplbjaklaaGreatDoor
namespace Go.Proofs.YtabffcplbjaklaaGreatDoor
open Go.RowKit Abs
def chainH : List Bool → Option Bool
  | [] => some true
  | b :: r => match some b with
    | some true => chainH r
    | some false => some false
    | none => none
theorem chainH_eq : ∀ l : List Bool, chainH l = some (l.all id)
  | [] => rfl
  | true :: r => by simp [chainH, chainH_eq r]
  | false :: r => by simp [chainH]
def sameH (x y : Header) : Bool := [x.id == y.id, beqB x.salt y.salt, x.n == y.n, x.bytes == y.bytes, x.raw == y.raw, beqB x.root y.root, beqB x.tag y.tag].all id
theorem sameH_iff (x y : Header) : sameH x y = true ↔ x = y := by
  obtain ⟨a0, a1, a2, a3, a4, a5, a6⟩ := x
  obtain ⟨b0, b1, b2, b3, b4, b5, b6⟩ := y
  unfold sameH
  simp only [List.all_cons, List.all_nil, id, Bool.and_true, Bool.and_eq_true, beq_iff_eq, decide_eq_true_eq, Header.mk.injEq, beqB_dec]
theorem sameH_self (x : Header) : sameH x x = true := (sameH_iff x x).2 rfl
set_option maxRecDepth 100000 in
theorem hdr_neq (cx : Bool) (x y : Header) : aBin Tryz.prog .neq 40 cx (.agg x.cells.toArray) (.agg y.cells.toArray) = some (.bool (!sameH x y)) := by
  obtain ⟨a0, a1, a2, a3, a4, a5, a6⟩ := x
  obtain ⟨b0, b1, b2, b3, b4, b5, b6⟩ := y
  have e0 : aBin Tryz.prog .neq 40 cx (.agg (Header.cells ⟨a0, a1, a2, a3, a4, a5, a6⟩).toArray) (.agg (Header.cells ⟨b0, b1, b2, b3, b4, b5, b6⟩).toArray) = (chainH [a0 == b0, beqB a1 b1, a2 == b2, a3 == b3, a4 == b4, beqB a5 b5, beqB a6 b6]).map fun b => .bool (!b) := by cases cx <;> kernel_rfl
  rw [e0, chainH_eq, Option.map_some]
  rfl
set_option maxRecDepth 100000 in
set_option maxHeartbeats 4000000 in
theorem same_true (K K' : Nat) (M : Mem) (va vb : Value) (S : List Header) (ha : HdrsOwn K M va S) (hb : HdrsOwn K' M vb S) (hl : S.length ≤ 1000) :
    Abs.Spec Tryz.prog 11 [va, vb] M fun u M' => u = .bool true ∧ M' = M := by
  obtain ⟨a1, c1, hV⟩ := ha.len
  subst hV
  obtain ⟨a2, c2, hV⟩ := hb.len
  subst hV
  refine Abs.Spec.walkM Tryz.func11 (by rfl) _ Tryz.results11 _ Tryz.ntmps11 (by simp) ?_
  intro hc hx k
  have q0 : (((S.length : Nat) : Int) != ((S.length : Nat) : Int)) = false := bne_self_eq_false _
  refine CW_seq (CW_region ?_)
  simp only [zZ, reduceIte, Nat.reduceLT, Int.reduceToNat, Int.reduceLE, Int.reduceEq, Int.reduceLT, Nat.reduceEqDiff, Nat.reduceAdd, zMn]
  refine CW_seq (CW_seq (CW_region ?_))
  simp only [zZ, reduceIte, Nat.reduceLT, Int.reduceToNat, Int.reduceLE, Int.reduceEq, Int.reduceLT, Nat.reduceEqDiff, Nat.reduceAdd, zMn, q0]
  refine CW_cond false (by rfl) (fun h => by cases h) (fun _ => CW_skip ?_)
  simp only [zZ, reduceIte, Nat.reduceLT, Int.reduceToNat, Int.reduceLE, Int.reduceEq, Int.reduceLT, Nat.reduceEqDiff, Nat.reduceAdd]
  refine CW_seq (CW_seq (CW_region ?_))
  simp only [zZ, reduceIte, Nat.reduceLT, Int.reduceToNat, Int.reduceLE, Int.reduceEq, Int.reduceLT, Nat.reduceEqDiff, Nat.reduceAdd, zMn]
  refine CW_block (MW_loop (fun j f M' => ∃ i : Nat, j = S.length - i ∧ f = [(0, .slice a1 S.length c1), (1, .slice a2 S.length c2), (5, .int .i64 (i : Nat))] ∧ i ≤ S.length ∧ M' = M) S.length ?_ ?_)
  · refine ⟨[0, 1, 5], ?_⟩
    simp only [zZ, reduceIte, Nat.reduceLT, Int.reduceToNat, Int.reduceLE, Int.reduceEq, Int.reduceLT, Nat.reduceEqDiff, Nat.reduceAdd, keepF]
    exact ⟨M, Thin.refl _, 0, rfl, rfl, by omega, rfl⟩
  · rintro j f M' ⟨i, rfl, rfl, hi, e9⟩
    replace e9 := e9.symm; subst e9
    refine CW_seq (CW_seq (CW_region ?_))
    simp only [zZ, reduceIte, Nat.reduceLT, Int.reduceToNat, Int.reduceLE, Int.reduceEq, Int.reduceLT, Nat.reduceEqDiff, Nat.reduceAdd, zMn]
    refine CW_cond (decide ((i : Int) < (S.length : Int))) (by rfl) (fun hq => CW_skip ?_) (fun hq => CW_exit ?_)
    · have hiL := of_decide_eq_true hq
      obtain ⟨x, hX⟩ : ∃ x, S[i]? = some x := ⟨_, List.getElem?_eq_getElem (by omega)⟩
      obtain ⟨g1, rfl, hg1⟩ : ∃ g, a1 = some ⟨g, 0, none⟩ ∧ HdrsIn M g S := by
        rcases ha with ⟨h1, _⟩ | ⟨h1, g, _, h3, h4⟩
        · rw [h1] at hX; cases hX
        · cases h3; exact ⟨g, rfl, h4⟩
      obtain ⟨g2, rfl, hg2⟩ : ∃ g, a2 = some ⟨g, 0, none⟩ ∧ HdrsIn M g S := by
        rcases hb with ⟨h1, _⟩ | ⟨h1, g, _, h3, h4⟩
        · rw [h1] at hX; cases hX
        · cases h3; exact ⟨g, rfl, h4⟩
      have z0 : (0 : Int) ≤ (i : Int) := by omega
      have r1 := hdr_row hg1 hX
      have r2 := hdr_row hg2 hX
      have w9 : IntKind.i64.wrap ((i : Int) + 1) = ((i + 1 : Nat) : Int) := by rw [wri (by omega) (by omega)]; omega
      have e0 : (!sameH x x) = false := by rw [sameH_self]; rfl
      simp only [zZ, reduceIte, Nat.reduceLT, Int.reduceToNat, Int.reduceLE, Int.reduceEq, Int.reduceLT, Nat.reduceEqDiff, Nat.reduceAdd]
      refine CW_seq (CW_block (CW_seq (CW_draw hmix 8 (by kernel_rfl) (by kernel_rfl) ?_)))
      simp only [zZ, reduceIte, Nat.reduceLT, Int.reduceToNat, Int.reduceLE, Int.reduceEq, Int.reduceLT, Nat.reduceEqDiff, Nat.reduceAdd, zMn, z0, hiL, and_self, r1, r2, hdr_neq, e0]
      refine CW_cond false (by rfl) (fun h => by cases h) (fun _ => CW_skip ?_)
      simp only [zZ, reduceIte, Nat.reduceLT, Int.reduceToNat, Int.reduceLE, Int.reduceEq, Int.reduceLT, Nat.reduceEqDiff, Nat.reduceAdd]
      refine CW_region ?_
      simp only [zZ, reduceIte, Nat.reduceLT, Int.reduceToNat, Int.reduceLE, Int.reduceEq, Int.reduceLT, Nat.reduceEqDiff, Nat.reduceAdd, zMn, w9]
      refine ⟨[0, 1, 5], ?_⟩
      simp only [zZ, reduceIte, Nat.reduceLT, Int.reduceToNat, Int.reduceLE, Int.reduceEq, Int.reduceLT, Nat.reduceEqDiff, Nat.reduceAdd, keepF]
      exact ⟨M, Thin.refl _, S.length - (i + 1), ⟨i + 1, rfl, rfl, by omega, rfl⟩, by omega⟩
    · simp only [zZ, reduceIte, Nat.reduceLT, Int.reduceToNat, Int.reduceLE, Int.reduceEq, Int.reduceLT, Nat.reduceEqDiff, Nat.reduceAdd]
      refine CW_seq (CW_region ?_)
      simp only [zZ, reduceIte, Nat.reduceLT, Int.reduceToNat, Int.reduceLE, Int.reduceEq, Int.reduceLT, Nat.reduceEqDiff, Nat.reduceAdd, zMn]
      refine CW_ret ?_
      simp only [zZ, reduceIte, Nat.reduceLT, Int.reduceToNat, Int.reduceLE, Int.reduceEq, Int.reduceLT, Nat.reduceEqDiff, Nat.reduceAdd, zMn, mEnd, sAnswer, sAnswer.sRes]
      exact ⟨M, Thin.refl _, rfl⟩
end Go.Proofs.YtabffcplbjaklaaGreatDoor
namespace Go.Proofs.YtabffcplbjaklaaGreatDoor
open Go.RowKit Abs Stab
theorem stable_nil' {R : List Header} (h : Stable hid [] R) : R = [] := List.eq_nil_of_length_eq_zero h.len
set_option maxRecDepth 100000 in
theorem tags_differ : sameB (Sha.tag [107] (bodyOf [])) (Sha.tag [111, 116, 104, 101, 114] (bodyOf [])) = false := by decide +kernel
set_option maxRecDepth 100000 in
set_option maxHeartbeats 4000000 in
theorem awake46_spec (M : Mem) : Abs.Spec Tryz.prog 7 [] M fun u _ => u = .bool true := by
  refine Abs.Spec.walkM Tryz.func7 (by rfl) _ Tryz.results7 _ Tryz.ntmps7 (by simp) ?_
  intro hc hx k
  have zk : (⟨#[107]⟩ : ByteArray) = str [107] := rfl
  have zo : (⟨#[111, 116, 104, 101, 114]⟩ : ByteArray) = str [111, 116, 104, 101, 114] := rfl
  obtain ⟨K, hK⟩ : ∃ K, K = str [107] := ⟨_, rfl⟩
  obtain ⟨O, hO⟩ : ∃ O, O = str [111, 116, 104, 101, 114] := ⟨_, rfl⟩
  rw [← hK] at zk
  rw [← hO] at zo
  have hKs : K.size ≤ 1000000 := by rw [hK]; decide
  have hOs : O.size ≤ 1000000 := by rw [hO]; decide
  have nil1 : ∀ M : Mem, HdrsOwn M.size M (.slice none 0 0) [] := fun M => .inl ⟨rfl, rfl⟩
  have hput := put_spec K hKs M.size M (.slice none 0 0) [] (nil1 M) (by decide) (by intro h hh; cases hh)
  refine CW_seq (CW_region ?_)
  simp only [zZ, reduceIte, Nat.reduceLT, Int.reduceToNat, Int.reduceLE, Int.reduceEq, Int.reduceLT, Nat.reduceEqDiff, Nat.reduceAdd, zMn]
  refine CW_seq (CW_region ?_)
  simp only [zZ, reduceIte, Nat.reduceLT, Int.reduceToNat, Int.reduceLE, Int.reduceEq, Int.reduceLT, Nat.reduceEqDiff, Nat.reduceAdd, zMn, zk]
  refine ⟨by kernel_rfl, _, hput, ?_⟩
  rintro u M1 ⟨_, hs1, hp⟩
  obtain ⟨T, hT⟩ : ∃ T, T = putV K [] := ⟨_, rfl⟩
  have hu : u = .tuple #[.string (str T), .int .i64 0] := by
    rcases hp with ⟨h1, _⟩ | ⟨_, R, h2, h3⟩
    · simp at h1
    · obtain rfl := stable_nil' h2
      rcases h3 with ⟨_, rfl⟩ | ⟨h4, _⟩
      · rw [hT]
      · exact absurd rfl h4
  subst hu
  have htk := fun (k2 : ByteArray) (h : k2.size ≤ 1000000) (m : Mem) => take_spec K k2 h [] (by intro h hh; cases hh) (by intro i x y h1; simp at h1) (by decide) m
  simp only [← hT] at htk
  have hTl : T.length = 87 := by
    rw [hT]
    have hl : (Sha.tag K.data.toList (bodyOf [])).length = 32 := tag_len32 _ _
    have hne : Sha.tag K.data.toList (bodyOf []) ≠ [] := fun e => by rw [e] at hl; cases hl
    unfold putV
    rw [hexV_full hne]
    simp only [List.length_append, hexL_len, hl]
    rfl
  have hT18 : T.take 18 = firstW ++ [10] := by rw [hT]; rfl
  have hsame : sameB (Sha.tag K.data.toList (bodyOf [])) (Sha.tag K.data.toList (bodyOf [])) = true := decide_eq_true rfl
  have hdiff : sameB (Sha.tag K.data.toList (bodyOf [])) (Sha.tag O.data.toList (bodyOf [])) = false := by rw [hK, hO]; exact tags_differ
  simp only [zZ, reduceIte, Nat.reduceLT, Int.reduceToNat, Int.reduceLE, Int.reduceEq, Int.reduceLT, Nat.reduceEqDiff, Nat.reduceAdd, zMn]
  refine CW_seq (CW_region ?_)
  simp only [zZ, reduceIte, Nat.reduceLT, Int.reduceToNat, Int.reduceLE, Int.reduceEq, Int.reduceLT, Nat.reduceEqDiff, Nat.reduceAdd, zMn, zk]
  refine ⟨by kernel_rfl, _, htk K hKs M1, ?_⟩
  rintro u M2 ⟨_, hs2, ht2⟩
  rw [hsame] at ht2
  obtain ⟨V, rfl, hV⟩ := ht2
  rcases hV with ⟨_, rfl⟩ | ⟨h0, _⟩
  rotate_left
  · exact absurd rfl h0
  simp only [zZ, reduceIte, Nat.reduceLT, Int.reduceToNat, Int.reduceLE, Int.reduceEq, Int.reduceLT, Nat.reduceEqDiff, Nat.reduceAdd, zMn]
  refine CW_seq (CW_region ?_)
  simp only [zZ, reduceIte, Nat.reduceLT, Int.reduceToNat, Int.reduceLE, Int.reduceEq, Int.reduceLT, Nat.reduceEqDiff, Nat.reduceAdd, zMn, zo]
  refine ⟨by kernel_rfl, _, htk O hOs M2, ?_⟩
  rintro u M3 ⟨_, hs3, ht3⟩
  rw [hdiff] at ht3
  replace ht3 : u = .tuple #[.slice none 0 0, .int .i64 2, .int .i64 4] := ht3
  subst ht3
  have q87 : (((T.length : Nat) : Int) == 87) = true := by rw [hTl]; rfl
  have hbs : bsize (str T) = T.length := rfl
  have z18 : (⟨#[115, 108, 101, 100, 103, 101, 32, 109, 97, 110, 105, 102, 101, 115, 116, 32, 49, 10]⟩ : ByteArray) = str (firstW ++ [10]) := rfl
  have hsl : ∀ get, gSlice Tryz.prog get 9 (.string (str T)) none (some (.int .i64 18)) = some (.string (str (firstW ++ [10]))) := fun get => by
    have := slice_to get (str T) 18 (by rw [str_size]; omega)
    rw [show (str T).data.toList = T from rfl, hT18] at this
    exact this
  have bq : beqB (str (firstW ++ [10])) (str (firstW ++ [10])) = true := by rw [beqB_dec]; exact decide_eq_true rfl
  have c0 : (((0 : Nat) : Int) == 0) = true := rfl
  simp only [zZ, reduceIte, Nat.reduceLT, Int.reduceToNat, Int.reduceLE, Int.reduceEq, Int.reduceLT, Nat.reduceEqDiff, Nat.reduceAdd, zMn]
  refine CW_seq (CW_region ?_)
  simp only [zZ, reduceIte, Nat.reduceLT, Int.reduceToNat, Int.reduceLE, Int.reduceEq, Int.reduceLT, Nat.reduceEqDiff, Nat.reduceAdd, zMn, Int.reduceBEq, hbs, q87, hsl, z18, bq, c0]
  refine CW_ret ?_
  simp only [zZ, reduceIte, Nat.reduceLT, Int.reduceToNat, Int.reduceLE, Int.reduceEq, Int.reduceLT, Nat.reduceEqDiff, Nat.reduceAdd, zMn, mEnd, sAnswer, sAnswer.sRes]
  exact ⟨M3, Thin.refl _⟩
end Go.Proofs.YtabffcplbjaklaaGreatDoor
namespace Go.Proofs.YtabffcplbjaklaaGreatDoor
open Go.RowKit Abs
theorem hdr_flat (L : List Header) : (L.flatMap Header.cells).length = L.length * 7 := flatMap_len Header.cells 7 L fun x _ => hdr_len x
theorem take_flat (L : List Header) (k : Nat) (hk : k ≤ L.length) : (L.flatMap Header.cells).take (k * 7) = (L.take k).flatMap Header.cells := by
  have h : L = L.take k ++ L.drop k := (List.take_append_drop k L).symm
  have hl : ((L.take k).flatMap Header.cells).length = k * 7 := by rw [hdr_flat, List.length_take]; congr 1; omega
  conv => lhs; rw [h, List.flatMap_append]
  rw [List.take_append_of_le_length (by omega), List.take_of_length_le (by omega)]
theorem drop_flat (L : List Header) (k : Nat) (hk : k ≤ L.length) : (L.flatMap Header.cells).drop (k * 7) = (L.drop k).flatMap Header.cells := by
  have h : L = L.take k ++ L.drop k := (List.take_append_drop k L).symm
  have hl : ((L.take k).flatMap Header.cells).length = k * 7 := by rw [hdr_flat, List.length_take]; congr 1; omega
  conv => lhs; rw [h, List.flatMap_append]
  rw [List.drop_append_of_le_length (by omega), List.drop_eq_nil_of_le (by omega), List.nil_append]
theorem hcut_front {K : Nat} {M : Mem} {V : Value} {L : List Header} (h : HdrsOwn K M V L) (k : Nat) (hk : k ≤ L.length) :
    ∃ x, gSlice Tryz.prog M.get 22 V none (some (.int .i64 (k : Nat))) = some x ∧ ∀ M', (∀ b y, blkAt V = some b → M.get b = some y → M'.get b = some y) → aSrc Tryz.prog M' 22 7 x = some (k, (L.take k).flatMap Header.cells) := by
  rcases h with ⟨rfl, rfl⟩ | ⟨h0, g, hgk, rfl, hg⟩
  · have : k = 0 := by simpa using hk
    subst this
    refine ⟨.slice none 0 0, ?_, fun M' _ => ?_⟩
    · unfold gSlice aBound
      simp only [Tryz.underlying22, inf_Hdr]
      rfl
    · unfold aSrc
      simp only [Tryz.underlying22]
      rfl
  · unfold HdrsIn at hg
    refine ⟨.slice (some ⟨g, 0, none⟩) k L.length, ?_, fun M' hM => ?_⟩
    · unfold gSlice aBound
      simp only [Tryz.underlying22, inf_Hdr, sz_Hdr, hg]
      rw [if_pos ⟨by omega, by omega⟩]
      simp
    · have := hM g _ rfl hg
      unfold aSrc
      simp only [Tryz.underlying22, this]
      rw [if_pos (by rw [hdr_flat]; have := Nat.mul_le_mul_right 7 hk; omega), List.drop_zero, take_flat _ _ hk]
theorem hcut_back {K : Nat} {M : Mem} {V : Value} {L : List Header} (h : HdrsOwn K M V L) (k : Nat) (hk : k ≤ L.length) :
    ∃ x, gSlice Tryz.prog M.get 22 V (some (.int .i64 (k : Nat))) none = some x ∧ ∀ M', (∀ b y, blkAt V = some b → M.get b = some y → M'.get b = some y) → aSrc Tryz.prog M' 22 7 x = some (L.length - k, (L.drop k).flatMap Header.cells) := by
  rcases h with ⟨rfl, rfl⟩ | ⟨h0, g, hgk, rfl, hg⟩
  · have : k = 0 := by simpa using hk
    subst this
    refine ⟨.slice none 0 0, ?_, fun M' _ => ?_⟩
    · unfold gSlice aBound
      simp only [Tryz.underlying22, inf_Hdr]
      rfl
    · unfold aSrc
      simp only [Tryz.underlying22]
      rfl
  · unfold HdrsIn at hg
    refine ⟨.slice (some ⟨g, 0 + k * 7, none⟩) (L.length - k) (L.length - k), ?_, fun M' hM => ?_⟩
    · unfold gSlice aBound
      simp only [Tryz.underlying22, inf_Hdr, sz_Hdr, hg]
      rw [if_pos ⟨by omega, by omega⟩]
      simp
    · have := hM g _ rfl hg
      unfold aSrc
      simp only [Tryz.underlying22, this]
      rw [if_pos (by rw [hdr_flat, Nat.zero_add, ← Nat.add_mul]; have := Nat.mul_le_mul_right 7 (show k + (L.length - k) ≤ L.length by omega); omega), Nat.zero_add, drop_flat _ _ hk, List.take_of_length_le (by rw [hdr_flat, List.length_drop]; omega)]
theorem happL {k n : Nat} {M : Mem} {V x : Value} {A B : List Header} (h : HdrsOwn k M V A) (hk : k ≤ M.size) (hl : A.length + B.length ≤ 1000000) (hn : B.length = n) (hs : aSrc Tryz.prog M 22 7 x = some (n, B.flatMap Header.cells)) :
    ∃ M' V', aAppend Tryz.prog M 22 22 V x = some (V', M') ∧ (∀ b, blkAt V' = some b → blkAt V = some b ∨ M.size ≤ b) ∧ HdrsOwn k M' V' (A ++ B) ∧
      M.size ≤ M'.size ∧ (∀ b y, blkAt V ≠ some b → M.get b = some y → M'.get b = some y) := by
  have hu := Tryz.underlying22
  have hby := Hdr_bytes
  by_cases h0n : n = 0
  · subst h0n
    have hB : B = [] := List.length_eq_zero_iff.1 hn
    subst hB
    refine ⟨M, V, ?_, fun b hb => .inl hb, by rw [List.append_nil]; exact h, Nat.le_refl _, fun _ _ _ hy => hy⟩
    rcases h with ⟨rfl, rfl⟩ | ⟨_, g, _, rfl, _⟩
    · unfold aAppend
      simp only [hu, inf_Hdr, Hdr_zero, sz_Hdr, hs]
      rfl
    · unfold aAppend
      simp only [hu, inf_Hdr, Hdr_zero, sz_Hdr, hs]
      rfl
  · rcases h with ⟨rfl, rfl⟩ | ⟨h0, g, hgk, rfl, hg⟩
    · have ha := gapp_nil (P := Tryz.prog) (N := 7) (k := n) (news := B.flatMap Header.cells) hu inf_Hdr Hdr_zero sz_Hdr rfl M hs h0n (by have := Nat.mul_le_mul (show n ≤ 1000000 by simp only [List.length_nil] at hl; omega) hby; omega) (by simp only [List.length_nil] at hl; omega)
      refine ⟨_, _, ha, fun b hb => by cases hb; exact .inr (Nat.le_refl _), .inr ⟨by rw [List.nil_append]; intro e; apply h0n; rw [← hn, e]; rfl, M.size, hk, by rw [List.nil_append, hn], ?_⟩, by simp only [Mem.size_push]; omega, fun b y _ hy => ?_⟩
      · unfold HdrsIn
        rw [Mem.get_push_new, List.nil_append]
      · rw [Mem.get_push_old (get_live hy)]; exact hy
    · have hgl := get_live hg
      have ha := gapp (P := Tryz.prog) (N := 7) (k := n) (n := A.length) (cs := A.flatMap Header.cells) (news := B.flatMap Header.cells) hu inf_Hdr Hdr_zero sz_Hdr rfl M hs h0n
        hg (hdr_flat A) (by have := Nat.mul_le_mul (show A.length + n ≤ 1000000 by omega) hby; omega) (by omega)
      refine ⟨_, _, ha, fun b hb => by cases hb; exact .inr (Nat.le_refl _), .inr ⟨by simp [h0], M.size, hk, by rw [List.length_append, hn], ?_⟩, by simp only [Mem.size_push, Mem.size_set]; omega, fun b y hb hy => ?_⟩
      · have := Mem.get_push_new (M.set g none) (.cells false 7 (A.flatMap Header.cells ++ B.flatMap Header.cells))
        rw [Mem.size_set] at this
        unfold HdrsIn
        rw [this, List.flatMap_append]
      · have := get_live hy
        rw [Mem.get_push_old (by rw [Mem.size_set]; omega), Mem.get_set_ne (by intro e; apply hb; rw [e]; rfl)]; exact hy
end Go.Proofs.YtabffcplbjaklaaGreatDoor
namespace Go.Proofs.YtabffcplbjaklaaGreatDoor
open Go.RowKit Abs Stab
set_option maxRecDepth 100000 in
set_option maxHeartbeats 4000000 in
theorem rsort_spec (K : Nat) (M : Mem) (V : Value) (L : List Header) (h : HdrsOwn K M V L) (hl : L.length ≤ 1000) :
    Abs.Spec Tryz.prog 12 [V] M fun u M' => (∀ b x, b < M.size → M.get b = some x → M'.get b = some x) ∧ M.size ≤ M'.size ∧ ∃ R, Stable hid L R ∧ HdrsOwn M.size M' u R := by
  obtain ⟨a0, c0, hV⟩ := h.len
  subst hV
  refine Abs.Spec.walkM Tryz.func12 (by rfl) _ Tryz.results12 _ Tryz.ntmps12 (by simp) ?_
  intro hc hx k
  refine CW_seq (CW_region ?_)
  simp only [zZ, reduceIte, Nat.reduceLT, Int.reduceToNat, Int.reduceLE, Int.reduceEq, Int.reduceLT, Nat.reduceEqDiff, Nat.reduceAdd, zMn]
  refine CW_seq (CW_region ?_)
  simp only [zZ, reduceIte, Nat.reduceLT, Int.reduceToNat, Int.reduceLE, Int.reduceEq, Int.reduceLT, Nat.reduceEqDiff, Nat.reduceAdd, zMn]
  refine CW_seq (CW_seq (CW_region ?_))
  simp only [zZ, reduceIte, Nat.reduceLT, Int.reduceToNat, Int.reduceLE, Int.reduceEq, Int.reduceLT, Nat.reduceEqDiff, Nat.reduceAdd, zMn]
  have atL : ∀ (i : Nat) (x : Header), L[i]? = some x → ∃ g, a0 = some ⟨g, 0, none⟩ ∧ g < M.size ∧ HdrsIn M g L := by
    intro i x hx
    rcases h with ⟨h1, _⟩ | ⟨h1, g, _, h3, h4⟩
    · rw [h1] at hx; cases hx
    · cases h3; exact ⟨g, rfl, get_live h4, h4⟩
  refine CW_block (MW_loop (fun j f M' => ∃ (i : Nat) (R : List Header) (V3 : Value), j = L.length - i ∧ f = [(0, .slice a0 L.length c0), (3, V3), (4, .int .i64 (i : Nat))] ∧ i ≤ L.length ∧ Stable hid (L.take i) R ∧ HdrsOwn M.size M' V3 R ∧
    (∀ b x, b < M.size → M.get b = some x → M'.get b = some x) ∧ M.size ≤ M'.size) L.length ?_ ?_)
  · refine ⟨[0, 3, 4], ?_⟩
    simp only [zZ, reduceIte, Nat.reduceLT, Int.reduceToNat, Int.reduceLE, Int.reduceEq, Int.reduceLT, Nat.reduceEqDiff, Nat.reduceAdd, keepF]
    exact ⟨M, Thin.refl _, 0, [], _, rfl, rfl, by omega, by rw [List.take_zero]; exact Stable.refl hid List.Pairwise.nil, .inl ⟨rfl, rfl⟩, fun _ _ _ h => h, Nat.le_refl _⟩
  · rintro j f M' ⟨i, R, V3, rfl, rfl, hi, hst, hown, hold, hsz⟩
    refine CW_seq (CW_seq (CW_region ?_))
    simp only [zZ, reduceIte, Nat.reduceLT, Int.reduceToNat, Int.reduceLE, Int.reduceEq, Int.reduceLT, Nat.reduceEqDiff, Nat.reduceAdd, zMn]
    have hRl : R.length = i := by rw [hst.len, List.length_take]; omega
    refine CW_cond (decide ((i : Int) < (L.length : Int))) (by rfl) (fun h => CW_skip ?_) (fun h => CW_exit ?_)
    · have hiL := of_decide_eq_true h
      obtain ⟨x, hX⟩ : ∃ x, L[i]? = some x := ⟨_, List.getElem?_eq_getElem (by omega)⟩
      obtain ⟨g, rfl, hgl, hg0⟩ := atL i x hX
      have hg := hold g _ hgl hg0
      have z0 : (0 : Int) ≤ (i : Int) := by omega
      have cx := hdr_cell hX (o := 0) (by decide) false 7 (.int .i64 x.id) rfl rfl
      rw [Nat.add_zero] at cx
      obtain ⟨a3, c3, hV3⟩ := hown.len
      simp only [zZ, reduceIte, Nat.reduceLT, Int.reduceToNat, Int.reduceLE, Int.reduceEq, Int.reduceLT, Nat.reduceEqDiff, Nat.reduceAdd]
      refine CW_seq (CW_block (CW_seq (CW_region ?_)))
      subst hV3
      simp only [zZ, reduceIte, Nat.reduceLT, Int.reduceToNat, Int.reduceLE, Int.reduceEq, Int.reduceLT, Nat.reduceEqDiff, Nat.reduceAdd, zMn]
      refine MW_mid (fun f M2 => ∃ k : Nat, f = [(0, .slice (some ⟨g, 0, none⟩) L.length c0), (3, .slice a3 R.length c3), (4, .int .i64 (i : Nat)), (5, .int .i64 (k : Nat))] ∧ M2 = M' ∧ k ≤ R.length ∧ (∀ y ∈ R.take k, y.id ≤ x.id) ∧ ∀ y ∈ R.drop k, x.id < y.id) ?_ ?_
      · refine CW_block (MW_loop (fun j f M2 => f = [(0, .slice (some ⟨g, 0, none⟩) L.length c0), (3, .slice a3 R.length c3), (4, .int .i64 (i : Nat)), (5, .int .i64 (j : Nat))] ∧ M2 = M' ∧ j ≤ R.length ∧ ∀ y ∈ R.drop j, x.id < y.id) R.length ?_ ?_)
        · refine ⟨[0, 3, 4, 5], ?_⟩
          simp only [zZ, reduceIte, Nat.reduceLT, Int.reduceToNat, Int.reduceLE, Int.reduceEq, Int.reduceLT, Nat.reduceEqDiff, Nat.reduceAdd, keepF]
          exact ⟨M', Thin.refl _, rfl, Nat.le_refl _, by simp⟩
        · rintro j f M2 ⟨rfl, e9, hj, hdr⟩
          replace e9 := e9.symm; subst e9
          refine CW_seq (CW_seq (CW_draw hmix 14 (by kernel_rfl) (by kernel_rfl) ?_))
          by_cases hj0 : j = 0
          · have q1 : decide ((j : Int) > 0) = false := decide_eq_false (by omega)
            simp only [zZ, reduceIte, Nat.reduceLT, Int.reduceToNat, Int.reduceLE, Int.reduceEq, Int.reduceLT, Nat.reduceEqDiff, Nat.reduceAdd, zMn, q1]
            refine CW_cond false (by rfl) (fun h => by cases h) (fun _ => CW_exit ?_)
            refine ⟨[0, 3, 4, 5], ?_⟩
            simp only [zZ, reduceIte, Nat.reduceLT, Int.reduceToNat, Int.reduceLE, Int.reduceEq, Int.reduceLT, Nat.reduceEqDiff, Nat.reduceAdd, keepF]
            exact ⟨M', Thin.refl _, j, rfl, rfl, hj, by rw [hj0]; simp, hdr⟩
          · have q1 : decide ((j : Int) > 0) = true := decide_eq_true (by omega)
            obtain ⟨y, hY⟩ : ∃ y, R[j - 1]? = some y := ⟨_, List.getElem?_eq_getElem (by omega)⟩
            obtain ⟨g3, rfl, hg3⟩ : ∃ g3, a3 = some ⟨g3, 0, none⟩ ∧ HdrsIn M' g3 R := by
              rcases hown with ⟨h1, _⟩ | ⟨h1, g, _, h3, h4⟩
              · rw [h1] at hY; cases hY
              · cases h3; exact ⟨g, rfl, h4⟩
            have cy := hdr_cell hY (o := 0) (by decide) false 7 (.int .i64 y.id) rfl rfl
            rw [Nat.add_zero] at cy
            have w1 : IntKind.i64.wrap ((j : Int) - 1) = ((j - 1 : Nat) : Int) := by rw [wri (by omega) (by omega)]; omega
            have z1 : (0 : Int) ≤ ((j - 1 : Nat) : Int) := by omega
            have z2 : ((j - 1 : Nat) : Int) < (R.length : Int) := by omega
            unfold HdrsIn at hg3 hg
            cases qd : decide (y.id > x.id)
            · simp only [zZ, reduceIte, Nat.reduceLT, Int.reduceToNat, Int.reduceLE, Int.reduceEq, Int.reduceLT, Nat.reduceEqDiff, Nat.reduceAdd, zMn, q1, w1, z0, hiL, z1, z2, and_self, hg3, hg, cy, cx, qd]
              refine CW_cond false (by rfl) (fun h => by cases h) (fun _ => CW_exit ?_)
              refine ⟨[0, 3, 4, 5], ?_⟩
              simp only [zZ, reduceIte, Nat.reduceLT, Int.reduceToNat, Int.reduceLE, Int.reduceEq, Int.reduceLT, Nat.reduceEqDiff, Nat.reduceAdd, keepF]
              refine ⟨M', Thin.refl _, j, rfl, rfl, hj, fun w hw => ?_, hdr⟩
              have hle := of_decide_eq_false qd
              have hri := hst.rising
              have e1 : R.take j = R.take (j - 1) ++ [y] := by
                have := List.take_add_one (l := R) (i := j - 1)
                rw [show j - 1 + 1 = j by omega, hY] at this
                exact this
              rw [e1] at hw
              rcases List.mem_append.1 hw with hw | hw
              · have e2 : R = R.take (j - 1) ++ ([y] ++ R.drop j) := by
                  rw [← List.append_assoc, ← e1, List.take_append_drop]
                rw [e2] at hri
                obtain ⟨_, _, hc3⟩ := Rising.parts hid hri
                have := hc3 w hw y (by simp)
                unfold hid at this
                omega
              · simp only [List.mem_singleton] at hw
                subst hw; omega
            · simp only [zZ, reduceIte, Nat.reduceLT, Int.reduceToNat, Int.reduceLE, Int.reduceEq, Int.reduceLT, Nat.reduceEqDiff, Nat.reduceAdd, zMn, q1, w1, z0, hiL, z1, z2, and_self, hg3, hg, cy, cx, qd]
              refine CW_cond true (by rfl) (fun _ => CW_skip ?_) (fun h => by cases h)
              simp only [zZ, reduceIte, Nat.reduceLT, Int.reduceToNat, Int.reduceLE, Int.reduceEq, Int.reduceLT, Nat.reduceEqDiff, Nat.reduceAdd]
              refine CW_block (CW_region ?_)
              simp only [zZ, reduceIte, Nat.reduceLT, Int.reduceToNat, Int.reduceLE, Int.reduceEq, Int.reduceLT, Nat.reduceEqDiff, Nat.reduceAdd, zMn, w1]
              refine ⟨[0, 3, 4, 5], ?_⟩
              simp only [zZ, reduceIte, Nat.reduceLT, Int.reduceToNat, Int.reduceLE, Int.reduceEq, Int.reduceLT, Nat.reduceEqDiff, Nat.reduceAdd, keepF]
              refine ⟨M', Thin.refl _, j - 1, ⟨rfl, rfl, by omega, fun w hw => ?_⟩, by omega⟩
              have hgt := of_decide_eq_true qd
              have e1 : R.drop (j - 1) = y :: R.drop j := by
                obtain ⟨h1, rfl⟩ := List.getElem?_eq_some_iff.1 hY
                rw [List.drop_eq_getElem_cons h1, show j - 1 + 1 = j by omega]
              rw [e1] at hw
              rcases List.mem_cons.1 hw with rfl | hw
              · omega
              · exact hdr w hw
      · rintro _ M2 ⟨k, rfl, e9, hk, hlo, hhi⟩
        replace e9 := e9.symm; subst e9
        obtain ⟨x1, gs1, so1⟩ := hcut_front hown k hk
        have nil1 : HdrsOwn M.size M' (.slice none 0 0) [] := .inl ⟨rfl, rfl⟩
        obtain ⟨M2, V6, ap1, bl1, own1, hs1, old1⟩ := happL nil1 hsz (by rw [List.length_take]; simp; omega) (by rw [List.length_take]; omega) (so1 M' fun _ _ _ h => h)
        have keep2 : ∀ b y, M'.get b = some y → M2.get b = some y := fun b y hy => old1 b y (by simp [blkAt]) hy
        have hown2 := hown.same (M' := M2) fun b y _ hy => keep2 b y hy
        have rx := rowIn_at (n := 7) (f := Header.cells) (fun a _ => hdr_len a) hX false 7
        obtain ⟨M3, V7, ap2, hb2, own2, hs2, old2⟩ := happ own1 (by omega) (by rw [List.length_append, List.length_take]; simp; omega) x
        have ne2 : ∀ b, blkAt V6 = some b → M'.size ≤ b := fun b hb => by
          rcases bl1 b hb with hb | hb
          · cases hb
          · exact hb
        have keep3 : ∀ b y, b < M'.size → M'.get b = some y → M3.get b = some y := fun b y hb hy => old2 b y (fun e => by have := ne2 b e; omega) (keep2 b y hy)
        have hown3 := hown.same (M' := M3) fun b y hb hy => keep3 b y (hown.live hb).2 hy
        obtain ⟨x3, gs3, so3⟩ := hcut_back hown3 k hk
        obtain ⟨M4, V8, ap3, bl3, own4, hs4, old4⟩ := happL own2 (by omega) (by rw [List.length_append, List.length_append, List.length_take, List.length_drop]; simp; omega) (by rw [List.length_drop]) (so3 M3 fun _ _ _ h => h)
        have nw := new_hdr1 x
        have hg2 := keep2 g _ hg
        unfold HdrsIn at hg2
        refine CW_seq (CW_region ?_)
        simp only [zZ, reduceIte, Nat.reduceLT, Int.reduceToNat, Int.reduceLE, Int.reduceEq, Int.reduceLT, Nat.reduceEqDiff, Nat.reduceAdd, zMn]
        refine CW_seq (CW_region ?_)
        simp only [zZ, reduceIte, Nat.reduceLT, Int.reduceToNat, Int.reduceLE, Int.reduceEq, Int.reduceLT, Nat.reduceEqDiff, Nat.reduceAdd, zMn, gs1, ap1]
        refine CW_seq (CW_region ?_)
        simp only [zZ, reduceIte, Nat.reduceLT, Int.reduceToNat, Int.reduceLE, Int.reduceEq, Int.reduceLT, Nat.reduceEqDiff, Nat.reduceAdd, zMn, z0, hiL, and_self, hg2, rx, nw, ap2]
        refine CW_seq (CW_region ?_)
        simp only [zZ, reduceIte, Nat.reduceLT, Int.reduceToNat, Int.reduceLE, Int.reduceEq, Int.reduceLT, Nat.reduceEqDiff, Nat.reduceAdd, zMn, gs3, ap3]
        refine CW_region ?_
        simp only [zZ, reduceIte, Nat.reduceLT, Int.reduceToNat, Int.reduceLE, Int.reduceEq, Int.reduceLT, Nat.reduceEqDiff, Nat.reduceAdd, zMn]
        refine CW_region ?_
        have w9 : IntKind.i64.wrap ((i : Int) + 1) = ((i + 1 : Nat) : Int) := by rw [wri (by omega) (by omega)]; omega
        simp only [zZ, reduceIte, Nat.reduceLT, Int.reduceToNat, Int.reduceLE, Int.reduceEq, Int.reduceLT, Nat.reduceEqDiff, Nat.reduceAdd, zMn, w9]
        refine ⟨[0, 3, 4], ?_⟩
        simp only [zZ, reduceIte, Nat.reduceLT, Int.reduceToNat, Int.reduceLE, Int.reduceEq, Int.reduceLT, Nat.reduceEqDiff, Nat.reduceAdd, keepF]
        have keep4 : ∀ b y, b < M'.size → M'.get b = some y → M4.get b = some y := fun b y hb hy => old4 b y (fun e => by rw [hb2] at e; cases e; omega) (keep3 b y hb hy)
        refine ⟨M4, Thin.refl _, L.length - (i + 1), ⟨i + 1, R.take k ++ [x] ++ R.drop k, V8, rfl, rfl, by omega, ?_, ?_, fun b y hb hy => keep4 b y (by omega) (hold b y hb hy), by omega⟩, by omega⟩
        · rw [List.take_add_one, hX]
          have hx1 : Stable hid [x] [x] := Stable.refl hid (List.pairwise_singleton _ _)
          refine Stable.app hid hst hx1 ?_
          have := insert_right hid (y := x) (x1 := R.take k) (x2 := R.drop k) (by rw [List.take_append_drop]; exact hst.rising) hlo hhi
          rw [List.take_append_drop] at this
          simpa using this
        · simpa using own4
    · have h := of_decide_eq_false h
      simp only [zZ, reduceIte, Nat.reduceLT, Int.reduceToNat, Int.reduceLE, Int.reduceEq, Int.reduceLT, Nat.reduceEqDiff, Nat.reduceAdd]
      refine CW_seq (CW_region ?_)
      simp only [zZ, reduceIte, Nat.reduceLT, Int.reduceToNat, Int.reduceLE, Int.reduceEq, Int.reduceLT, Nat.reduceEqDiff, Nat.reduceAdd, zMn]
      refine CW_ret ?_
      simp only [zZ, reduceIte, Nat.reduceLT, Int.reduceToNat, Int.reduceLE, Int.reduceEq, Int.reduceLT, Nat.reduceEqDiff, Nat.reduceAdd, zMn, mEnd, sAnswer, sAnswer.sRes]
      rw [List.take_of_length_le (by omega)] at hst
      exact ⟨M', Thin.refl _, hold, hsz, R, hst, hown⟩
end Go.Proofs.YtabffcplbjaklaaGreatDoor
namespace Go.Proofs.YtabffcplbjaklaaGreatDoor
open Go.RowKit Abs
set_option maxRecDepth 100000 in
set_option maxHeartbeats 4000000 in
theorem rline_spec (h : Header) (h1 : inI h.id) (h2 : inI h.n) (h3 : inI h.bytes) (h4 : inI h.raw) (t1 : h.salt.size ≤ 1000) (t2 : h.root.size ≤ 1000) (t3 : h.tag.size ≤ 1000) (m : Mem) :
    Abs.Spec Tryz.prog 23 [.agg h.cells.toArray] m fun u M => u = .string (str (lineV h)) ∧ M = m := by
  refine Abs.Spec.walkB Tryz.func23 (by rfl) _ Tryz.results23 _ Tryz.ntmps23 (by simp) m [] (ext_nil m).symm 0 rfl (.inl rfl) ?_
  intro hc _
  have bx : nBox Tryz.prog 40 (.agg h.cells.toArray) = some (.cells false (aStride Tryz.prog 40) h.cells) := bx_Hdr _ rfl
  generalize aStride Tryz.prog 40 = s1 at bx
  have k0 : cellIn 0 (some (.cells false s1 h.cells)) = some (.int .i64 h.id) := rfl
  have k1 : cellIn 1 (some (.cells false s1 h.cells)) = some (.string h.salt) := rfl
  have k2 : cellIn 2 (some (.cells false s1 h.cells)) = some (.int .i64 h.n) := rfl
  have k3 : cellIn 3 (some (.cells false s1 h.cells)) = some (.int .i64 h.bytes) := rfl
  have k4 : cellIn 4 (some (.cells false s1 h.cells)) = some (.int .i64 h.raw) := rfl
  have k5 : cellIn 5 (some (.cells false s1 h.cells)) = some (.string h.root) := rfl
  have k6 : cellIn 6 (some (.cells false s1 h.cells)) = some (.string h.tag) := rfl
  have zc32 : (⟨#[32]⟩ : ByteArray) = str [32] := rfl
  have a1 := itoa_len' h.id h1.1 h1.2
  have a2 := itoa_len' h.n h2.1 h2.2
  have a3 := itoa_len' h.bytes h3.1 h3.2
  have a4 := itoa_len' h.raw h4.1 h4.2
  have b1 := hexV_len' h.salt.data.toList
  have b2 := hexV_len' h.root.data.toList
  have b3 := hexV_len' h.tag.data.toList
  rw [size_list] at b1 b2 b3
  refine CW_seq (CW_region ?_)
  simp only [zZ, reduceIte, Nat.reduceLT, Int.reduceToNat, Int.reduceLE, Int.reduceEq, Int.reduceLT, Nat.reduceEqDiff, Nat.reduceAdd, zMn, bx]
  refine CW_seq (CW_draw hmix 32 (by kernel_rfl) (by kernel_rfl) ?_)
  simp only [zZ, reduceIte, Nat.reduceLT, Int.reduceToNat, Int.reduceLE, Int.reduceEq, Int.reduceLT, Nat.reduceEqDiff, Nat.reduceAdd, zMn, k0, k1, k2, k3, k4, k5, k6, zc32, cat_str, siz_str]
  refine ⟨by kernel_rfl, _, rdigits_spec h.id h1.1 h1.2 _, ?_⟩
  simp only [zZ, reduceIte, Nat.reduceLT, Int.reduceToNat, Int.reduceLE, Int.reduceEq, Int.reduceLT, Nat.reduceEqDiff, Nat.reduceAdd, zMn, k0, k1, k2, k3, k4, k5, k6, zc32, cat_str, siz_str]
  refine ⟨by first | omega | (simp only [List.length_append, List.length_cons, List.length_nil] <;> omega), by kernel_rfl, _, rdigits_spec h.n h2.1 h2.2 _, ?_⟩
  simp only [zZ, reduceIte, Nat.reduceLT, Int.reduceToNat, Int.reduceLE, Int.reduceEq, Int.reduceLT, Nat.reduceEqDiff, Nat.reduceAdd, zMn, k0, k1, k2, k3, k4, k5, k6, zc32, cat_str, siz_str]
  refine ⟨by first | omega | (simp only [List.length_append, List.length_cons, List.length_nil] <;> omega), by first | omega | (simp only [List.length_append, List.length_cons, List.length_nil] <;> omega), by kernel_rfl, _, rdigits_spec h.bytes h3.1 h3.2 _, ?_⟩
  simp only [zZ, reduceIte, Nat.reduceLT, Int.reduceToNat, Int.reduceLE, Int.reduceEq, Int.reduceLT, Nat.reduceEqDiff, Nat.reduceAdd, zMn, k0, k1, k2, k3, k4, k5, k6, zc32, cat_str, siz_str]
  refine ⟨by first | omega | (simp only [List.length_append, List.length_cons, List.length_nil] <;> omega), by first | omega | (simp only [List.length_append, List.length_cons, List.length_nil] <;> omega), by kernel_rfl, _, rdigits_spec h.raw h4.1 h4.2 _, ?_⟩
  simp only [zZ, reduceIte, Nat.reduceLT, Int.reduceToNat, Int.reduceLE, Int.reduceEq, Int.reduceLT, Nat.reduceEqDiff, Nat.reduceAdd, zMn, k0, k1, k2, k3, k4, k5, k6, zc32, cat_str, siz_str]
  refine ⟨by first | omega | (simp only [List.length_append, List.length_cons, List.length_nil] <;> omega), by first | omega | (simp only [List.length_append, List.length_cons, List.length_nil] <;> omega), by kernel_rfl, _, rhex_spec h.salt (by omega) _, ?_⟩
  simp only [zZ, reduceIte, Nat.reduceLT, Int.reduceToNat, Int.reduceLE, Int.reduceEq, Int.reduceLT, Nat.reduceEqDiff, Nat.reduceAdd, zMn, k0, k1, k2, k3, k4, k5, k6, zc32, cat_str, siz_str]
  refine ⟨by first | omega | (simp only [List.length_append, List.length_cons, List.length_nil] <;> omega), by first | omega | (simp only [List.length_append, List.length_cons, List.length_nil] <;> omega), by kernel_rfl, _, rhex_spec h.root (by omega) _, ?_⟩
  simp only [zZ, reduceIte, Nat.reduceLT, Int.reduceToNat, Int.reduceLE, Int.reduceEq, Int.reduceLT, Nat.reduceEqDiff, Nat.reduceAdd, zMn, k0, k1, k2, k3, k4, k5, k6, zc32, cat_str, siz_str]
  refine ⟨by first | omega | (simp only [List.length_append, List.length_cons, List.length_nil] <;> omega), by first | omega | (simp only [List.length_append, List.length_cons, List.length_nil] <;> omega), by kernel_rfl, _, rhex_spec h.tag (by omega) _, ?_⟩
  simp only [zZ, reduceIte, Nat.reduceLT, Int.reduceToNat, Int.reduceLE, Int.reduceEq, Int.reduceLT, Nat.reduceEqDiff, Nat.reduceAdd, zMn, k0, k1, k2, k3, k4, k5, k6, zc32, cat_str, siz_str]
  refine ⟨by first | omega | (simp only [List.length_append, List.length_cons, List.length_nil] <;> omega), ?_⟩
  refine CW_ret ?_
  simp only [zZ, reduceIte, Nat.reduceLT, Int.reduceToNat, Int.reduceLE, Int.reduceEq, Int.reduceLT, Nat.reduceEqDiff, Nat.reduceAdd, zMn, bEnd, sAnswer, sAnswer.sRes]
  refine told_flat rfl ?_
  unfold lineV lineWords
  simp [Lib.join]
end Go.Proofs.YtabffcplbjaklaaGreatDoor
namespace Go.Proofs.YtabffcplbjaklaaGreatDoor
open Go.RowKit
def ownsB (w : World) (base : Nat) (e : TypeId) (v : Value) (n : Nat) (xs : List Value) : Prop :=
  w.ownsRow base e 1 v n xs ∨
  (xs.length = n ∧ ∃ g cap cur fz, v = .slice (some ⟨g, 0, none⟩) n cap ∧ base ≤ g ∧ w.heap[g]? = some (.cells cur e fz) ∧ cur.size ≤ fz.1 ∧ n ≤ cap ∧ cap ≤ maxLen ∧ cur.size = cap ∧ cur.toList.take n = xs)
theorem ownsB.length {w : World} {base e n : Nat} {v : Value} {xs : List Value} (h : ownsB w base e v n xs) : xs.length = n := by
  rcases h with h | h
  · have := h.1; omega
  · exact h.1
section
variable {P : Program}
end
theorem ownsB.lt {w : World} {base e n : Nat} {v : Value} {xs : List Value} (h : ownsB w base e v n xs) : ∀ k, v.ownBlock = some k → base ≤ k ∧ k < w.heap.size := by
  rcases h with h | ⟨_, g, cap, cur, fz, rfl, hb, hg, _⟩
  · exact h.lt
  · intro k hk
    simp [Value.ownBlock] at hk
    subst hk
    exact ⟨hb, lt_of_heap hg⟩
theorem ownsB.slice {w : World} {base e n : Nat} {v : Value} {xs : List Value} (h : ownsB w base e v n xs) : ∃ a cap, v = .slice a n cap ∧ n ≤ cap := by
  rcases h with h | ⟨_, g, cap, cur, fz, rfl, _, _, _, h1, _⟩
  · rcases h.2 with ⟨rfl, rfl⟩ | ⟨g, cap, cur, rfl, _, _, h1, _⟩
    · exact ⟨none, 0, rfl, Nat.le_refl _⟩
    · exact ⟨_, cap, rfl, h1⟩
  · exact ⟨_, cap, rfl, h1⟩
theorem ownsB.reads {α : Type} (c : α → Value) {w : World} {base e n : Nat} {v : Value} {l : List α} (h : ownsB w base e v n (l.map c)) : SliceOf (Shape.flat 1 (fun x => [c x]) (fun _ => rfl)) w v l := by
  have hn : n = l.length := by have := h.length; simp at this; omega
  rcases h with h | ⟨h0, g, cap, cur, fz, rfl, hb, hg, _, h1, h2, h3, h4⟩
  · exact elems_of_owned c h
  · subst hn
    refine ⟨_, cap, rfl, .inr ⟨g, 0, rfl, lt_of_heap hg, h1, h2, fun i x hx => ⟨[c x], rfl, fun j u hj => ?_⟩⟩⟩
    cases j with
    | zero =>
      simp at hj
      subst hj
      have h5 : (l.map c)[i]? = some (c x) := by simp [hx]
      rw [← h4, List.getElem?_take] at h5
      split at h5
      · rw [cell_of hg, ← Array.getElem?_toList]
        simpa [Shape.flat] using h5
      · cases h5
    | succ j => simp at hj
end Go.Proofs.YtabffcplbjaklaaGreatDoor
namespace Go.Proofs.YtabffcplbjaklaaGreatDoor
open Go.RowKit
theorem rrotr_key (x n m : Nat) (hx : x < 4294967296) (hn1 : 2 ≤ n) (hn : n ≤ 31) (hm : m = 32 - n) :
    bits .or .i64 ((x : Int) / 2 ^ n) (bits .and .i64 (wrap64 ((x : Int) * 2 ^ m)) 4294967295) = (Sha.rotr x n : Nat) := by
  have hp : x * 2 ^ m ≤ 4611686018427387904 := by
    have h1 : 2 ^ m ≤ 2 ^ 30 := Nat.pow_le_pow_right (by decide) (by omega)
    exact Nat.le_trans (Nat.mul_le_mul (Nat.le_of_lt hx) h1) (by decide)
  have e1 : wrap64 ((x : Int) * 2 ^ m) = ((x * 2 ^ m : Nat) : Int) := by
    have e : ((x : Int) * 2 ^ m) = ((x * 2 ^ m : Nat) : Int) := by push_cast; rfl
    rw [e]
    generalize x * 2 ^ m = P at *
    unfold wrap64
    omega
  have e2 : ((x : Int) / 2 ^ n) = ((x / 2 ^ n : Nat) : Int) := by push_cast; rfl
  have h2 : x / 2 ^ n ≤ x := Nat.div_le_self _ _
  have e3 := i64_and_nat (x * 2 ^ m) 4294967295 (by omega) (by omega)
  rw [show x * 2 ^ m &&& 4294967295 = x * 2 ^ m % 4294967296 from Nat.and_two_pow_sub_one_eq_mod _ 32] at e3
  have h3 : x * 2 ^ m % 4294967296 < 4294967296 := Nat.mod_lt _ (by decide)
  rw [e1, e2]
  refine (congrArg (bits .or .i64 ((x / 2 ^ n : Nat) : Int)) e3).trans ?_
  rw [i64_or_nat _ _ (by omega) (by omega)]
  unfold Sha.rotr
  rw [Nat.shiftRight_eq_div_pow, Nat.shiftLeft_eq, hm]
set_option maxRecDepth 100000 in
theorem rrotr_any (x n : Nat) (hx : x < 4294967296) (hn1 : 2 ≤ n) (hn : n ≤ 31) (w : World) :
    Calls Tryz.prog 73 #[.int .i64 x, .int .i64 n] w fun e w' => e = .returned (.int .i64 (Sha.rotr x n : Nat)) ∧ Below w.heap.size w w' := by
  have n0 : (0 : Int) ≤ n := by omega
  have n1 : (n : Int) < 64 := by omega
  obtain ⟨m, hm⟩ : ∃ m : Nat, m = 32 - n := ⟨_, rfl⟩
  have m0 : (32 : Int) - n = m := by omega
  have m1 : (0 : Int) ≤ m := by omega
  have m2 : (m : Int) < 64 := by omega
  have HK := Lib.hid (rrotr_key x n m hx hn1 hn hm)
  clear hm
  go_enter Tryz.func73, Tryz.ntmps73
  go_wp2_with fail
  go_quiet (fail)
  have HB := Lib.hid ((Same.drewN w nq).below w.heap.size)
  generalize w.drewN nq = w1 at *
  go_wp2_with fail
  go_ret
  exact ⟨by rw [← HK.out]; rfl, HB.out⟩
def natV (n : Nat) : Value := .int .i64 n
def w8i (v : Sha.W8) : List Nat := [v.a, v.b, v.c, v.d, v.e, v.f, v.g, v.h]
end Go.Proofs.YtabffcplbjaklaaGreatDoor
namespace Go.Proofs.YtabffcplbjaklaaGreatDoor
open Go.RowKit
def padS (m : List UInt8) (k : Nat) : List UInt8 := m ++ 0x80 :: List.replicate k 0
theorem padS_snoc (m : List UInt8) (k : Nat) : bytesV (padS m k) ++ [byteV 0] = bytesV (padS m (k + 1)) := by
  simp [bytesV, padS, List.replicate_succ']
theorem padS_length (m : List UInt8) (k : Nat) : (padS m k).length = m.length + 1 + k := by
  simp [padS]; omega
theorem pad_byte (n j : Nat) (hn : n ≤ 140737488355200) (hj : j < 8) : Value.int .u8 (bits BinOp.and IntKind.i64 (8 * (n : Int) / 2 ^ (8 * (7 - j))) 255 % 256) = byteV (UInt8.ofNat ((8 * n) >>> (56 - 8 * j))) := by
  have e : (8 * (n : Int) / 2 ^ (8 * (7 - j))) = ((8 * n / 2 ^ (8 * (7 - j)) : Nat) : Int) := by push_cast; rfl
  have hle : 8 * n / 2 ^ (8 * (7 - j)) ≤ 8 * n := Nat.div_le_self _ _
  have e2 := i64_and_nat (8 * n / 2 ^ (8 * (7 - j))) 255 (by omega) (by omega)
  rw [show 8 * n / 2 ^ (8 * (7 - j)) &&& 255 = 8 * n / 2 ^ (8 * (7 - j)) % 256 from Nat.and_two_pow_sub_one_eq_mod _ 8] at e2
  rw [e]
  unfold byteV
  congr 1
  refine (congrArg (· % 256) e2).trans ?_
  rw [UInt8.toNat_ofNat', Nat.shiftRight_eq_div_pow, show 56 - 8 * j = 8 * (7 - j) by omega]
  omega
theorem pad_snoc (q : List UInt8) (n j : Nat) (hn : n ≤ 140737488355200) (hj : j < 8) : bytesV (q ++ (Sha.be8 (8 * n)).take j) ++ [Value.int .u8 (bits BinOp.and IntKind.i64 (8 * (n : Int) / 2 ^ (8 * (7 - j))) 255 % 256)] = bytesV (q ++ (Sha.be8 (8 * n)).take (j + 1)) := by
  rw [pad_byte n j hn hj, List.take_add_one, be8_get _ _ hj]
  simp [bytesV]
end Go.Proofs.YtabffcplbjaklaaGreatDoor
