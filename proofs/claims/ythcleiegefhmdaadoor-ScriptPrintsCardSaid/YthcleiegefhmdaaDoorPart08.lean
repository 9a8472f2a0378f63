/-
  strings.Builder: its contracts in an abstract memory. (A builder's variable and its buffer are marked: their types are told.)
  Loads, stores, addresses, new blocks of the types that script's world has.
  The walks of strings.HasPrefix, path.Under.
  Slices of strings; pieces of texts.
  The walk of script.Hex.
  The walk of script.number.
  The walk of script.numbers.
  The walk of filemap.clash.
  The walk of filemap.Check (under path.Check's contract).
  What a parser's memory holds; appends in any memory.
  The walk of (*parser).step.
  A digit's value.
  The walk of script.unhex.
  The walks of (*parser).side, inject, fate.
-/
import Derived.Test.YthcleiegefhmdaaDoorPart07
import Derived.Lib.Builder
import Derived.Lib.UnsafeStr
import Derived.WalkKit
import Derived.Lib.SplitLaws
import Derived.Lib.IndexBytes
import Derived.Lib.Strings
import Derived.Test.YthcleiegefhmdaaDoorPart05
set_option linter.unusedSimpArgs false
set_option linter.unusedVariables false
set_option linter.unusedSectionVars false
set_option linter.unnecessarySimpa false
set_option linter.defProp false
namespace Go.Proofs.YthcleiegefhmdaaDoor.Abs
open Go Go.RowKit
theorem bld_size : (Tryd.prog.info? 62).map (·.size) = some 2 := by kernel_rfl
theorem bld_lies : liesAt Tryd.prog Tryd.prog.depth 62 (2 / Tryd.prog.cellsOf 62) 0 62 1 = true := by kernel_rfl
set_option maxHeartbeats 1000000 in
set_option maxRecDepth 100000 in
theorem copy_used (b : Nat) (w : World) (h0 : w.cell? ⟨b, 0, none⟩ = some (.pointer (some ⟨b, 0, none⟩))) :
    Calls Tryd.prog 40 #[.pointer (some ⟨b, 0, none⟩)] w fun e w' => e = .returned (.tuple #[]) ∧ w' = w := by
  obtain ⟨j, hj, _⟩ := Option.map_eq_some_iff.1 bld_size
  go_enter Tryd.func40, Tryd.ntmps40
  go_wp2
  rw [Lib.run_neq_ptr_same w _ Tryd.underlying60 hj]
  go_wp2
  go_end0
  exact ⟨rfl, rfl⟩
set_option maxHeartbeats 1000000 in
set_option maxRecDepth 100000 in
theorem copy_fresh (b : Nat) (w : World) (h0 : w.cell? ⟨b, 0, none⟩ = some (.pointer none)) (hsh : w.shape? b = some (62, 2)) (hfz : w.frozen? ⟨b, 0, none⟩ = false) :
    Calls Tryd.prog 40 #[.pointer (some ⟨b, 0, none⟩)] w fun e w' => e = .returned (.tuple #[]) ∧ w' = w.setCell ⟨b, 0, none⟩ (.pointer (some ⟨b, 0, none⟩)) := by
  obtain ⟨j, hj, hjs⟩ := Option.map_eq_some_iff.1 bld_size
  go_enter Tryd.func40, Tryd.ntmps40
  go_wp2
  rw [Lib.run_to_unsafe w ⟨b, 0, none⟩ Tryd.underlying60 Tryd.underlying94 hj (by rw [hjs]; decide) hsh (Nat.zero_lt_succ 1)]
  simp only [Result.andThen]
  rw [Oper.upon_value]
  go_wp2
  rw [run_callFunc_extern Tryd.func50 (by kernel_rfl) (by kernel_rfl) (by kernel_rfl) (e := Extern.AbiNoEscape.same) (by kernel_rfl)]
  rw [Lib.run_noEscape]
  simp only [Result.andThen]
  rw [Oper.upon_value]
  go_wp2
  rw [Lib.run_from_unsafe w ⟨b, 0, none⟩ Tryd.underlying94 Tryd.underlying60 hj hsh bld_lies]
  simp only [Result.andThen]
  rw [Oper.upon_value]
  go_wp2
  go_end0
  exact ⟨rfl, rfl⟩
def BufAt (K p : Nat) (M : Mem) (V : Value) (l : List UInt8) : Prop :=
  (l = [] ∧ V = .slice none 0 0) ∨ (l ≠ [] ∧ ∃ g rest, K ≤ g ∧ g ≠ p ∧ V = .slice (some ⟨g, 0, none⟩) l.length (l.length + rest.length) ∧ l.length + rest.length ≤ maxLen ∧ M.get g = some (.cells false bufS (bytesV l ++ rest)))
theorem bytesV_cells (s : ByteArray) : byteCells' s = bytesV s.data.toList := rfl
theorem bytesV_flat (l : List UInt8) : ∀ v ∈ bytesV l, flat 3 v = true := fun v hv => by
  unfold bytesV at hv
  rw [List.mem_map] at hv
  obtain ⟨x, _, rfl⟩ := hv
  rfl
theorem flats_self {n : Nat → Prop} {ι : Nat → Loc} {cs : List Value} (h : ∀ v ∈ cs, flat 3 v = true) : VRels n ι cs cs := ⟨rfl, fun i x y hx hy => by
  rw [hx] at hy; cases hy
  exact flat_rel 3 _ (h _ (List.mem_of_getElem? hx))⟩
theorem zeroB_list (n : Nat) : (Builtin.zeroCells (Value.int .u8 0).cells n).toList = List.replicate n (.int .u8 0) := by
  have e : (Value.int .u8 0).cells = #[.int .u8 0] := rfl
  rw [e]
  unfold Builtin.zeroCells
  apply List.ext_getElem?
  intro i
  simp only [Array.toList_map, Array.toList_range, List.getElem?_map, List.getElem?_replicate]
  by_cases hi : i < n
  · simp [hi, Nat.mod_one]
  · simp [hi]
theorem setL_tail (a r v : List Value) (h : v.length ≤ r.length) : setL (a ++ r) a.length v = a ++ v ++ r.drop v.length := by
  apply List.ext_getElem?
  intro i
  rw [setL_get _ _ _ _ (by rw [List.length_append]; omega)]
  by_cases h1 : i < a.length
  · rw [if_neg (by omega), List.append_assoc, List.getElem?_append_left h1, List.getElem?_append_left h1]
  · by_cases h2 : i < a.length + v.length
    · rw [if_pos (by omega), List.append_assoc, List.getElem?_append_right (by omega), List.getElem?_append_left (by omega)]
    · rw [if_neg (by omega), List.append_assoc, List.getElem?_append_right (by omega), List.getElem?_append_right (by omega), List.getElem?_append_right (by omega), List.getElem?_drop]
      congr 1; omega
section
variable {P : Program} {ι : Nat → Loc} {M : Mem} {w : World} {t tx ty e : TypeId} {i : TypeInfo}
theorem bufNew (h : Rel ι M w) (hbt : bufT = some e) {K p cap : Nat} {l : List UInt8} {C : Array Value} (hK : K ≤ M.size) (hp : p < M.size) (hl0 : l ≠ []) (hcap : l.length ≤ cap) (hmx : cap ≤ maxLen)
    (hC : C.toList = bytesV l ++ List.replicate (cap - l.length) (.int .u8 0)) :
    ∃ κ M' V2, VRel M'.Has κ V2 (.slice (some ⟨w.heap.size, 0, none⟩) l.length cap) ∧ Rel κ M' (w.drew.alloc (.cells C e)) ∧ Step ι M w κ M' (w.drew.alloc (.cells C e)) ∧ BufAt K p M' V2 l ∧
      (∀ b x, (b < K ∨ b = p) → M.get b = some x → M'.get b = some x) ∧ (∀ b st cs, M.get b = some (.cells true st cs) → M'.get b = some (.cells true st cs)) ∧ M.size ≤ M'.size := by
  have hfl : ∀ v ∈ C.toList, flat 3 v = true := fun v hv => by
    rw [hC, List.mem_append] at hv
    rcases hv with hv | hv
    · exact bytesV_flat _ v hv
    · rw [(List.mem_replicate.1 hv).2]; rfl
  have hone : oneAll C.toList = true := by
    simp only [oneAll, List.all_eq_true]
    intro v hv
    rw [hC, List.mem_append] at hv
    rcases hv with hv | hv
    · unfold bytesV at hv
      rw [List.mem_map] at hv
      obtain ⟨x, _, rfl⟩ := hv
      rfl
    · rw [(List.mem_replicate.1 hv).2]; rfl
  have hCs : C.size = cap := by
    have := congrArg List.length hC
    rw [Array.length_toList, List.length_append, List.length_replicate] at this
    have hb : (bytesV l).length = l.length := by simp [bytesV]
    omega
  obtain ⟨hR, hS⟩ := h.newCells (cs := C.toList) (rest := []) (OneMore.drewAlloc w (.cells C e)) bufS (flats_self hfl).whole (by simp) hone (.inl rfl)
    ⟨fun h0 => absurd h0 (by decide), fun _ _ _ => ⟨hbt, rfl, by rw [hCs]; unfold maxLen at hmx; unfold bufS; omega⟩⟩
  refine ⟨_, _, .slice (some ⟨M.size, 0, none⟩) l.length cap, newSlice _ ⟨w.heap.size, 0, _, bufS⟩ _ _ _ hcap (.inl rfl), hR, hS, .inr ⟨hl0, M.size, List.replicate (cap - l.length) (.int .u8 0), hK, by omega, ?_, ?_, ?_⟩, ?_, ?_, ?_⟩
  · rw [List.length_replicate]; congr 1; omega
  · rw [List.length_replicate]; omega
  · rw [Mem.get_push_new, hC]
  · intro b x _ hb
    rw [Mem.get_push_old (Mem.get_lt hb)]; exact hb
  · intro b st cs hb
    rw [Mem.get_push_old (Mem.get_lt hb)]; exact hb
  · rw [Mem.size_push]; omega
theorem bufApp_run (h : Rel ι M w) (ht : P.underlying t = some (.slice e)) (hx : P.underlying tx = some .string) (hbt : bufT = some e) (hi : P.info? e = some i) (hz : i.zero = some (.int .u8 0)) (hs : i.size = 1) (hb : i.bytes = 1)
    {K p : Nat} {V V' : Value} {l : List UInt8} (hK : K ≤ M.size) (hp : p < M.size) (hV : BufAt K p M V l) (hVV : VRel M.Has ι V V') (s : ByteArray) (hlen : l.length + s.size ≤ 140737488355328) :
    ∃ v' w' κ M' V2, (Builtin.append_ #[t, tx] ty #[V', .string s]).run P w = .ok v' w' ∧ VRel M'.Has κ V2 v' ∧ Rel κ M' w' ∧ Step ι M w κ M' w' ∧ BufAt K p M' V2 (l ++ s.data.toList) ∧
      (∀ b x, (b < K ∨ b = p) → M.get b = some x → M'.get b = some x) ∧ (∀ b st cs, M.get b = some (.cells true st cs) → M'.get b = some (.cells true st cs)) ∧ M.size ≤ M'.size := by
  have hsrc : Src P i.size tx (.string s) s.size (byteCells' s) w := by rw [hs]; exact Src.ofString w hx s
  have hsl : (byteCells' s).length = s.size := byteCells'_length s
  have hz1 : (Value.int .u8 0).cells.toList.length = i.size := by rw [hs]; rfl
  have hsd : s.data.toList.length = s.size := by simp
  have hbl : (bytesV l).length = l.length := by simp [bytesV]
  by_cases hn : s.size = 0
  · -- nothing
    have hs0 : s.data.toList = [] := List.eq_nil_of_length_eq_zero (by omega)
    refine ⟨V', w, ι, M, V, ?_, hVV, h, Step.refl _ _ _, by rw [hs0, List.append_nil]; exact hV, fun _ _ _ h => h, fun _ _ _ h => h, Nat.le_refl _⟩
    have hus : byteCells' s = [] := List.eq_nil_of_length_eq_zero (by omega)
    rw [hus, hn] at hsrc
    rcases hV with ⟨_, rfl⟩ | ⟨_, g, rest, _, _, rfl, _⟩
    · cases hVV
      rcases hsrc.kind with ⟨e', hk⟩ | hk <;> simp [Builtin.append_, run_underlying ht, run_underlying hk, run_sizeOf' hi, hsrc.len, hsrc.cells]
    · have hsame : ∀ (a : Addr) (k cap' : Nat), k ≤ cap' → (Builtin.append_ #[t, tx] ty #[.slice (some a) k cap', .string s]).run P w = .ok (.slice (some a) k cap') w := by
        intro a k cap' hle
        rcases hsrc.kind with ⟨e', hk⟩ | hk <;> simp [Builtin.append_, run_underlying ht, run_underlying hk, run_sizeOf' hi, hsrc.len, hsrc.cells, hle, storeCells]
      generalize l.length = k at hVV
      generalize k + rest.length = c at hVV
      cases hVV with
      | slice _ _ _ _ cap' hlt hl hc => exact hsame _ _ _ (by rcases hc with hc | hc <;> omega)
      | empty _ _ o' hlt => exact hsame _ _ _ (Nat.le_refl _)
  have hne : l ++ s.data.toList ≠ [] := by
    intro h0
    have := congrArg List.length h0
    rw [List.length_append, hsd, List.length_nil] at this
    omega
  have hall : (l ++ s.data.toList).length = l.length + s.size := by rw [List.length_append, hsd]
  have hbv : bytesV (l ++ s.data.toList) = bytesV l ++ byteCells' s := by rw [bytesV_cells]; simp [bytesV]
  rcases hV with ⟨rfl, rfl⟩ | ⟨hl0, g, rest, hKg, hgp, rfl, hcm, hg⟩
  · cases hVV
    have hg := run_append_grow_src (P := P) w t tx ty e i _ ht hi hz none 0 0 [] (run_firstCells_none w.drew i.size 0 0 0) (.string s) s.size (byteCells' s) hsrc (by omega) (by omega) (growslice_fits (by omega) (by rw [hb]; simp only [List.length_nil] at hlen; omega))
    rw [Nat.zero_add] at hg
    have hmx := grownCap_le_maxLen w s.size 0 e (by simp only [maxLen]; omega)
    have hge := grownCap_ge w s.size 0 e
    generalize grownCap w s.size 0 e = cap at hg hmx hge
    obtain ⟨κ, M', V2, g1, g2⟩ := bufNew h hbt (K := K) (p := p) (cap := cap) (l := s.data.toList) (C := ([] ++ byteCells' s).toArray ++ Builtin.zeroCells (Value.int .u8 0).cells (cap - s.size)) hK hp (by simpa using hne) (by omega) hmx
      (by rw [Array.toList_append, zeroB_list, hsd]; rfl)
    rw [hsd] at g1
    exact ⟨_, _, κ, M', V2, hg, g1, g2⟩
  · obtain ⟨C, eC, fz, hC, hsz, hst, hlen', hv, hfz⟩ := h.at' g false bufS _ hg
    have hcl : (bytesV l ++ rest).length = l.length + rest.length := by rw [List.length_append, hbl]
    have hl1 : 0 < l.length := List.length_pos_iff.2 hl0
    obtain ⟨t1, t2, t3⟩ := hst.tag.2 rfl (by omega) (by rw [hcl]; unfold maxLen at hcm; unfold bufS; omega)
    have hol := (VRels.toL hlen' fun j v hi => (hv j v hi).2)
    have hstr := hst.eq
    generalize hkk : l.length = k at *
    generalize hcc : k + rest.length = c at *
    cases hVV with
    | empty _ _ o' hlt => omega
    | slice _ _ _ _ cap' hlt hl hc =>
      have hcap : cap' = c := by
        rcases hc with hc | ⟨hc1, hc2, _⟩
        · exact hc
        · exfalso
          rw [hstr] at hc2
          have : 1 * bufS ≤ cap' * bufS := Nat.mul_le_mul_right _ (by omega)
          omega
      subst hcap
      by_cases hroom : k + s.size ≤ cap'
      · have hw := h.write hg k (byteCells' s) (byteCells' s) (by rw [hcl, hsl]; omega) (oneAll_spec (byteCells'_one s)) (byteCells'_rel s _)
        have hset : setL (bytesV l ++ rest) k (byteCells' s) = bytesV (l ++ s.data.toList) ++ rest.drop s.size := by
          have := setL_tail (bytesV l) rest (byteCells' s) (by rw [hsl]; omega)
          rw [hbl] at this
          rw [this, hbv, hsl]
        rw [hset] at hw
        have hrun := run_append_room_src (P := P) w t tx ty e i ht hi (ι g).blk ((ι g).base + 0) k cap' (.string s) s.size (byteCells' s) hsrc hroom
          (fun j hj => by rw [hs, Nat.mul_one, cell_of_block hC]; simp; omega) (fun j hj => by rw [hs, Nat.mul_one]; exact frozen_of_block hC (hfz rfl _ (by omega)))
        rw [hs, Nat.mul_one, Nat.add_zero] at hrun
        refine ⟨_, _, ι, _, .slice (some ⟨g, 0, none⟩) (k + s.size) cap', hrun, .slice g 0 (k + s.size) cap' cap' (Mem.has_set _ hlt) hroom (.inl rfl), hw.1, hw.2, .inr ⟨hne, g, rest.drop s.size, hKg, hgp, ?_, ?_, Mem.get_set_same hg _⟩, ?_, ?_, ?_⟩
        · rw [hall, List.length_drop]; congr 1; omega
        · rw [hall, List.length_drop]; omega
        · intro b x hbk hbx
          rw [Mem.get_set_ne (by rintro rfl; rcases hbk with hbk | hbk <;> omega)]; exact hbx
        · intro b st cs hbx
          rw [Mem.get_set_ne (by rintro rfl; rw [hg] at hbx; cases hbx)]; exact hbx
        · rw [Mem.size_set]; exact Nat.le_refl _
      · have hcell : ∀ j u, (bytesV l)[j]? = some u → w.cell? ((⟨(ι g).blk, (ι g).base + 0, none⟩ : Addr).add j) = some u := by
          intro j u hj
          have hjl := (List.getElem?_eq_some_iff.1 hj).1
          obtain ⟨_, u', h8, h9⟩ := hv j u (by rw [List.getElem?_append_left hjl]; exact hj)
          have := flat_eq 3 _ _ (bytesV_flat l u (List.mem_of_getElem? hj)) h9
          subst this
          rw [Addr_add, cell_of_block hC, Nat.add_zero]
          exact h8
        have hg2 := run_append_grow_src (P := P) w t tx ty e i _ ht hi hz (some ⟨(ι g).blk, (ι g).base + 0, none⟩) k cap' (bytesV l) (run_firstCells_some w.drew i.size k _ k cap' (bytesV l) (by rw [hs, hbl, Nat.mul_one]) hcell) (.string s) s.size (byteCells' s) hsrc (by omega) (by omega) (growslice_fits (by omega) (by rw [hb]; omega))
        have hmx := grownCap_le_maxLen w (k + s.size) cap' e (by simp only [maxLen]; omega)
        have hge := grownCap_ge w (k + s.size) cap' e
        generalize grownCap w (k + s.size) cap' e = cap at hg2 hmx hge
        obtain ⟨κ, M', V2, g1, g2⟩ := bufNew h hbt (K := K) (p := p) (cap := cap) (l := l ++ s.data.toList) (C := (bytesV l ++ byteCells' s).toArray ++ Builtin.zeroCells (Value.int .u8 0).cells (cap - (k + s.size))) hK hp hne (by omega) hmx
          (by rw [Array.toList_append, zeroB_list, hall, hbv])
        rw [hall] at g1
        exact ⟨_, _, κ, M', V2, hg2, g1, g2⟩
end
def BAt (K : Nat) (M : Mem) (p : Nat) (l : List UInt8) : Prop :=
  K ≤ p ∧ ∃ a V, M.get p = some (.cells false 0 [a, V]) ∧ (a = .pointer none ∨ a = .pointer (some ⟨p, 0, none⟩)) ∧ BufAt K p M V l
theorem inf_byte : Tryd.prog.info? 5 = some Tryd.t5 := by kernel_rfl
theorem wpList_append_run {P : Program} {w : World} {ops : Array Oper} {rest : List Oper} {o : Oper} {a : Act} {Q : Exit → Act → World → Prop} (hgd : o.guard = none) (d s : Operand) (dT sT : TypeId)
    (ho : o.op = .call { callee := .builtin .append, args := #[d, s], argTypes := #[dT, sT] }) (x y v : Value) (w' : World) (hd : a.eval d = x) (hs : a.eval s = y)
    (hr : (Builtin.append_ #[dT, sT] o.type #[x, y]).run P w = .ok v w') (h : wpList P ops Q rest (a.put o.dst v) w') : wpList P ops Q (o :: rest) a w := by
  refine wpList_plain hgd fun K hK => ?_
  unfold Oper.wp execOp
  simp only [ho, resolve, invoke, builtin, Sem.run_bind, Sem.run_pure, Result.andThen_ok, List.map_toArray, List.map_cons, List.map_nil, hd, hs, hr]
  exact hK _ _ h
set_option maxHeartbeats 1000000 in
set_option maxRecDepth 100000 in
theorem ws_walk (P0 : Nat) (s : ByteArray) (w w1 w2 : World) (V' v' old : Value) (hsl : ∃ a n c, v' = .slice a n c)
    (hcc : Calls Tryd.prog 40 #[.pointer (some ⟨P0, 0, none⟩)] w (fun e w' => e = .returned (.tuple #[]) ∧ w' = w1))
    (c1 : w1.cell? ⟨P0, 1, none⟩ = some V') (a1 : (Builtin.append_ #[35, 9] 35 #[V', .string s]).run Tryd.prog w1 = .ok v' w2)
    (d1 : w2.cell? ⟨P0, 1, none⟩ = some old) (f1 : w2.frozen? ⟨P0, 1, none⟩ = false) :
    Calls Tryd.prog 20 #[.pointer (some ⟨P0, 0, none⟩), .string s] w fun e w' => e = .returned (.tuple #[.int .i64 s.size, .nilIface]) ∧ w' = w2.setCell ⟨P0, 1, none⟩ v' := by
  obtain ⟨va, vn, vc, rfl⟩ := hsl
  go_enter Tryd.func20, Tryd.ntmps20
  go_wp2_with fail
  refine hcc.mono ?_
  rintro e w' ⟨rfl, rfl⟩
  go_wp2_with (at_builtin; refine wpList_append_run rfl (.tmp 12) (.tmp 13) 35 9 rfl _ _ _ _ rfl rfl a1 ?_)
  clear a1 hcc c1
  go_wp2
  go_ret2
  exact ⟨rfl, rfl⟩
set_option maxHeartbeats 2000000 in
set_option maxRecDepth 100000 in
theorem ws_spec (K p : Nat) (M : Mem) (l : List UInt8) (s : ByteArray) (hB : BAt K M p l) (hlen : l.length + s.size ≤ 140737488355328) :
    Spec Tryd.prog 20 [.pointer (some ⟨p, 0, none⟩), .string s] M fun u M' => u = .tuple #[.int .i64 s.size, .nilIface] ∧ BAt K M' p (l ++ s.data.toList) ∧ Keeps K M M' ∧ M.size ≤ M'.size := by
  intro ι w ys hy hr
  obtain ⟨y0, y1, rfl, h0, h1⟩ := vrels_two hy
  cases h1
  obtain ⟨hKp, a, V, hg, ha, hV⟩ := hB
  obtain ⟨C, e, fz, hC, hsz, hst, hlen', hv, hfz⟩ := hr.at' p false 0 _ hg
  have hpl := Mem.get_lt hg
  obtain ⟨t1, t2, t3⟩ := hst.tag.1 rfl (by simp)
  have te : e = 62 := by
    have : tagT = some 62 := rfl
    rw [this] at t1; cases t1; rfl
  subst te
  obtain ⟨P0, hP0⟩ : ∃ P0, P0 = (ι p).blk := ⟨_, rfl⟩
  have hy0 : y0 = .pointer (some ⟨P0, 0, none⟩) := by
    cases h0
    rw [t2, hP0]
  subst hy0
  obtain ⟨o1, a', b1, b2⟩ := hv 0 a rfl
  obtain ⟨o2, V', b3, b4⟩ := hv 1 V rfl
  rw [t2, Nat.zero_add] at b1 b3
  have C2 : C.size = 2 := t3
  rw [← hP0] at hC
  have c0 : w.cell? ⟨P0, 0, none⟩ = some a' := by rw [cell_of_block hC]; exact b1
  have c1 : w.cell? ⟨P0, 1, none⟩ = some V' := by rw [cell_of_block hC]; exact b3
  -- behind copyCheck
  obtain ⟨w1, hcc, hM1⟩ : ∃ w1, Calls Tryd.prog 40 #[.pointer (some ⟨P0, 0, none⟩)] w (fun e w' => e = .returned (.tuple #[]) ∧ w' = w1) ∧
      ∃ M1, Rel ι M1 w1 ∧ Step ι M w ι M1 w1 ∧ M1.get p = some (.cells false 0 [.pointer (some ⟨p, 0, none⟩), V]) ∧ (∀ b x, b ≠ p → M.get b = some x → M1.get b = some x) ∧ M1.size = M.size ∧ w1.cell? ⟨P0, 1, none⟩ = some V' := by
    rcases ha with rfl | rfl
    · cases b2
      have hsh : w.shape? P0 = some (62, 2) := by simp [World.shape?, hC, C2]
      have hf0 : w.frozen? ⟨P0, 0, none⟩ = false := frozen_of_block hC (hfz rfl 0 (by omega))
      have hself : VRel M.Has ι (.pointer (some ⟨p, 0, none⟩)) (.pointer (some ⟨P0, 0, none⟩)) := h0
      obtain ⟨k1, k2⟩ := hr.write hg 0 [.pointer (some ⟨p, 0, none⟩)] [.pointer (some ⟨P0, 0, none⟩)] (by simp) (by simp [Value.oneCell']) (.cons hself .nil)
      rw [t2, ← hP0] at k1 k2
      refine ⟨_, copy_fresh P0 w c0 hsh hf0, _, k1, k2, Mem.get_set_same hg _, fun b x hb hx => by rw [Mem.get_set_ne (Ne.symm hb)]; exact hx, Mem.size_set .., ?_⟩
      have := heap_setCells [.pointer (some ⟨P0, 0, none⟩)] w P0 0 C _ fz hC
      rw [show w.setCells P0 0 [.pointer (some ⟨P0, 0, none⟩)] = w.setCell ⟨P0, 0, none⟩ (.pointer (some ⟨P0, 0, none⟩)) from rfl] at this
      rw [cell_of_block this]
      simp only [setA]
      rw [Array.getElem?_setIfInBounds_ne (by decide)]
      exact b3
    · cases b2
      rw [← hP0, t2] at c0
      exact ⟨w, copy_used P0 w c0, M, hr, Step.refl _ _ _, hg, fun b x _ hx => hx, rfl, c1⟩
  obtain ⟨M1, hr1, hs1, hg1, hk1, hz1, c1'⟩ := hM1
  have hV1 : BufAt K p M1 V l := by
    rcases hV with ⟨h1, h2⟩ | ⟨h1, g, rest, h2, h3, h4, h5, h6⟩
    · exact .inl ⟨h1, h2⟩
    · exact .inr ⟨h1, g, rest, h2, h3, h4, h5, hk1 g _ h3 h6⟩
  have hVV : VRel M1.Has ι V V' := b4.mono hs1.grows fun _ _ => rfl
  obtain ⟨v', w2, κ, M2, V2, a1, a2, a3, a4, a5, a6, a7, a8⟩ := bufApp_run (P := Tryd.prog) (t := 35) (tx := 9) (ty := 35) (i := Tryd.t5) hr1 Tryd.underlying35 Tryd.underlying9 rfl inf_byte rfl rfl rfl (K := K) (p := p) (by omega) (by omega) hV1 hVV s hlen
  have hg2 := a6 p _ (.inr rfl) hg1
  obtain ⟨D, e2, fz2, hD, hDs, hDt, hDl, hDv, hDf⟩ := a3.at' p false 0 _ hg2
  have eκ : κ p = ι p := a4.at_ p (Mem.get_has hg1)
  rw [eκ, ← hP0] at hD
  rw [eκ, t2, Nat.zero_add] at hDl
  have hD2 : 2 ≤ D.size := by simpa using hDl
  have f1 : w2.frozen? ⟨P0, 1, none⟩ = false := frozen_of_block hD (hDf rfl 1 (by omega))
  have d1 : w2.cell? ⟨P0, 1, none⟩ = some (D[1]'(by omega)) := by rw [cell_of_block hD]; exact Array.getElem?_eq_getElem _
  generalize D[1]'(by omega) = old at d1
  have hone : V2.oneCell' = true := by
    rcases a5 with ⟨_, rfl⟩ | ⟨_, g, rest, _, _, rfl, _⟩ <;> rfl
  obtain ⟨k1, k2⟩ := a3.write hg2 1 [V2] [v'] (by simp) (by simpa using hone) (.cons a2 .nil)
  rw [eκ, t2, ← hP0] at k1 k2
  have hvs : ∃ a n c, v' = .slice a n c := by
    rcases a5 with ⟨_, rfl⟩ | ⟨_, g, rest, _, _, rfl, _⟩
    · cases a2; exact ⟨_, _, _, rfl⟩
    · generalize (l ++ s.data.toList).length = k at a2
      generalize k + rest.length = c at a2
      cases a2 <;> exact ⟨_, _, _, rfl⟩
  refine Calls.mono (R := fun e w' => e = .returned (.tuple #[.int .i64 s.size, .nilIface]) ∧ w' = w2.setCell ⟨P0, 1, none⟩ v') ?_ ?_
  · exact ws_walk P0 s w w1 w2 V' v' old hvs hcc c1' a1 d1 f1
  · rintro e w' ⟨rfl, rfl⟩
    refine ⟨.tuple #[.int .i64 s.size, .nilIface], _, κ, _, ⟨rfl, ⟨hKp, _, V2, Mem.get_set_same hg2 _, .inr rfl, ?_⟩, ⟨fun b x hb hx => ?_, fun b st cs hx => ?_⟩, ?_⟩, rfl, flat_rel 3 _ rfl, k1, (hs1.trans a4).trans k2⟩
    · rcases a5 with ⟨h1, h2⟩ | ⟨h1, g, rest, h2, h3, h4, h5, h6⟩
      · exact .inl ⟨h1, h2⟩
      · exact .inr ⟨h1, g, rest, h2, h3, h4, h5, by rw [Mem.get_set_ne (Ne.symm h3)]; exact h6⟩
    · rw [Mem.get_set_ne (by omega)]
      exact a6 b x (.inl hb) (hk1 b x (by omega) hx)
    · have hbp : b ≠ p := by rintro rfl; rw [hg] at hx; cases hx
      rw [Mem.get_set_ne (Ne.symm hbp)]
      exact a7 b st cs (hk1 b _ hbp hx)
    · rw [Mem.size_set]; omega
set_option maxHeartbeats 2000000 in
set_option maxRecDepth 100000 in
theorem bstr_walk (P0 : Nat) (w : World) (V' : Value) (q : Option Addr) (n cap : Nat) (s : ByteArray) (w' : World) (hV : V' = .slice q n cap) (c1 : w.drew.cell? ⟨P0, 1, none⟩ = some (.slice q n cap)) (r : Option Addr)
    (hSD : (Builtin.unsafeSliceData_ #[35] 84 #[.slice q n cap]).run Tryd.prog w.drew = .ok (.pointer r) w.drew)
    (hUS : (Builtin.unsafeString_ #[84, 3] 9 #[.pointer r, .int .i64 n]).run Tryd.prog w.drew = .ok (.string s) w') :
    Calls Tryd.prog 24 #[.pointer (some ⟨P0, 0, none⟩)] w fun e w2 => e = .returned (.string s) ∧ w2 = w' := by
  go_enter Tryd.func24, Tryd.ntmps24
  go_wp2
  go_region
  all_goals (go_wp2; go_ret; exact ⟨rfl, rfl⟩)
theorem freeze_heap_ne (w : World) (a : Addr) (n k : Nat) (h : k ≠ a.block) : (w.freeze a n).heap[k]? = w.heap[k]? := by
  unfold World.freeze
  split
  · rfl
  · simp only [Array.getElem?_modify]
    rw [if_neg (Ne.symm h)]
theorem freeze_rest (w : World) (a : Addr) (n : Nat) : (w.freeze a n).heap.size = w.heap.size ∧ (w.freeze a n).os = w.os ∧ (w.freeze a n).tape = w.tape ∧ (w.freeze a n).output = w.output := by
  unfold World.freeze
  split
  · exact ⟨rfl, rfl, rfl, rfl⟩
  · exact ⟨by simp, rfl, rfl, rfl⟩
theorem Rel.frozen {ι : Nat → Loc} {M : Mem} {w : World} (h : Rel ι M w) {g s : Nat} {cs : List Value} (hg : M.get g = some (.cells false s cs)) (o n : Nat) :
    Rel ι (M.set g none) (w.drew.freeze ⟨(ι g).blk, o, none⟩ n) ∧ Step ι M w ι (M.set g none) (w.drew.freeze ⟨(ι g).blk, o, none⟩ n) := by
  obtain ⟨z1, z2, z3, z4⟩ := freeze_rest w.drew ⟨(ι g).blk, o, none⟩ n
  have hne : ∀ k, k ≠ (ι g).blk → (w.drew.freeze ⟨(ι g).blk, o, none⟩ n).heap[k]? = w.heap[k]? := fun k hk => freeze_heap_ne _ _ _ _ hk
  have hk := h.kill g
  have hgl := h.glob.own g ⟨s, cs, hg⟩
  refine ⟨⟨fun b ro s' cs' hb => ?_, hk.inj, ⟨hk.glob.known.keep fun k hk' => hne k (by omega), hk.glob.own⟩⟩, ⟨z2, z3, z4, by rw [z1]; exact Nat.le_refl _, fun _ hb => Mem.has_set none hb, fun _ _ => rfl, fun k _ hno => hne k fun e => hno g ⟨s, cs, hg⟩ e.symm, fun b hb => .inr ⟨b, own_of_set_none hb, rfl⟩⟩⟩
  obtain ⟨hb', hbg⟩ := get_of_set_none hb
  obtain ⟨C, e, fz, k1, k2⟩ := hk.at' b ro s' cs' hb
  exact ⟨C, e, fz, by rw [hne _ (h.inj b g (by rw [hb']; simp) ⟨s, cs, hg⟩ (Ne.symm hbg))]; exact k1, k2⟩
set_option maxHeartbeats 2000000 in
set_option maxRecDepth 100000 in
theorem bstr_spec (K p : Nat) (M : Mem) (l : List UInt8) (hB : BAt K M p l) :
    Spec Tryd.prog 24 [.pointer (some ⟨p, 0, none⟩)] M fun u M' => u = .string (str l) ∧ Keeps K M M' := by
  intro ι w ys hy hr
  obtain ⟨y0, rfl, h0⟩ := vrels_one hy
  obtain ⟨hKp, a, V, hg, ha, hV⟩ := hB
  obtain ⟨C, e, fz, hC, hsz, hst, hlen', hv, hfz⟩ := hr.at' p false 0 _ hg
  obtain ⟨t1, t2, t3⟩ := hst.tag.1 rfl (by simp)
  obtain ⟨P0, hP0⟩ : ∃ P0, P0 = (ι p).blk := ⟨_, rfl⟩
  have hy0 : y0 = .pointer (some ⟨P0, 0, none⟩) := by
    cases h0
    rw [t2, hP0]
  subst hy0
  obtain ⟨o2, V', b3, b4⟩ := hv 1 V rfl
  rw [t2, Nat.zero_add] at b3
  rw [← hP0] at hC
  have c1 : w.drew.cell? ⟨P0, 1, none⟩ = some V' := by
    have : w.drew.heap[P0]? = some (.cells C e fz) := hC
    rw [cell_of_block this]; exact b3
  rcases hV with ⟨rfl, rfl⟩ | ⟨hl0, g, rest, h2, h3, rfl, h5, h6⟩
  · cases b4
    refine (bstr_walk P0 w _ none 0 0 ⟨#[]⟩ w.drew rfl c1 none rfl (Lib.run_unsafeString_none _ _ _ _ none)).mono ?_
    rintro e w' ⟨rfl, rfl⟩
    have hb : Below w.heap.size w w.drew := (Below.refl _ w).trans ⟨rfl, rfl, rfl, Nat.le_refl _, fun _ _ => rfl⟩
    refine ⟨_, _, ι, M, ⟨rfl, Keeps.refl _ _⟩, rfl, .string _, ⟨fun b ro s cs hbk => ?_, hr.inj, ⟨hr.glob.known.keep fun k hk => rfl, hr.glob.own⟩⟩, ⟨rfl, rfl, rfl, Nat.le_refl _, fun b h => h, fun _ _ => rfl, fun _ _ _ => rfl, fun b hb => .inr ⟨b, hb, rfl⟩⟩⟩
    exact hr.at' b ro s cs hbk
  · obtain ⟨D, e2, fz2, hD, hDs, hDt, hDl, hDv, hDf⟩ := hr.at' g false bufS _ h6
    have hbl : (bytesV l).length = l.length := by simp [bytesV]
    have hl1 : 0 < l.length := List.length_pos_iff.2 hl0
    have hcl : (bytesV l ++ rest).length = l.length + rest.length := by rw [List.length_append, hbl]
    obtain ⟨s1, s2, s3⟩ := hDt.tag.2 rfl (by omega) (by rw [hcl]; unfold maxLen at h5; unfold bufS; omega)
    have te : e2 = 5 := by
      have : bufT = some 5 := rfl
      rw [this] at s1; cases s1; rfl
    subst te
    rw [hcl] at hDl
    generalize hkk : l.length = k at b4
    generalize k + rest.length = c at b4
    cases b4 with
    | empty _ _ o' hlt => omega
    | slice _ _ _ _ cap' hlt hl hc =>
      subst hkk
      have hcc : cap' ≠ 0 := by rcases hc with hc | hc <;> omega
      rw [s2, Nat.add_zero] at c1
      refine (bstr_walk P0 w _ _ _ _ ⟨l.toArray⟩ _ rfl c1 _ (Lib.run_unsafeSliceData_row _ _ _ _ _ _ hcc) (Lib.run_unsafeString_row w.drew 84 3 9 5 Tryd.underlying84 (by kernel_rfl) (ι g).blk D.size
        (by have hD' : w.drew.heap[(ι g).blk]? = some (.cells D 5 fz2) := hD
            simp [World.shape?, hD']) l hl0 (by omega) (by unfold maxLen at h5; omega) ?_)).mono ?_
      · intro j x hx
        obtain ⟨_, u', h8, h9⟩ := hDv j (.int .u8 x.toNat) (by
          have : (bytesV l)[j]? = some (.int .u8 x.toNat) := by simp [bytesV, hx, byteV]
          rw [List.getElem?_append_left (List.getElem?_eq_some_iff.1 this).1]; exact this)
        cases h9
        rw [s2, Nat.zero_add] at h8
        have hD' : w.drew.heap[(ι g).blk]? = some (.cells D 5 fz2) := hD
        rw [Addr_add, cell_of_block hD', Nat.zero_add]
        exact h8
      · rintro e w' ⟨rfl, rfl⟩
        obtain ⟨k1, k2⟩ := hr.frozen h6 0 l.length
        refine ⟨_, _, ι, M.set g none, ⟨rfl, Keeps.set h2 h6 _⟩, rfl, .string _, k1, k2⟩
end Go.Proofs.YthcleiegefhmdaaDoor.Abs
namespace Go.Proofs.YthcleiegefhmdaaDoor
open Go.RowKit Abs
theorem inf_File : Tryd.prog.info? 43 = some Tryd.t43 := by kernel_rfl
theorem sz_File : Tryd.t43.size = 2 := rfl
theorem ld_File (get : Nat → Option Blk) (b o : Nat) : gLoad Tryd.prog get 43 (.pointer (some ⟨b, o, none⟩)) = rowIn 2 o (get b) := ld_row Tryd.underlying43 (row_struct _) inf_File rfl get b o
theorem st_File (m : Mem) (b o : Nat) (v : Value) : aStore Tryd.prog m 43 (.pointer (some ⟨b, o, none⟩)) v = putIn 2 m b o v.cells.toList (m.get b) := st_any inf_File rfl m b o v
theorem al_File : nAlloc Tryd.prog 43 = some (.cells false (aStride Tryd.prog 43) [.string ⟨#[]⟩, .string ⟨#[]⟩]) := by kernel_rfl
theorem bx_File (xs : Array Value) (h : oneAll xs.toList = true) : nBox Tryd.prog 43 (.agg xs) = some (.cells false (aStride Tryd.prog 43) xs.toList) := nBox_row 43 h
theorem fa_File0 (b o : Nat) : aFieldAddr Tryd.prog 43 (.pointer (some ⟨b, o, none⟩)) 0 = some (.pointer (some ⟨b, o, none⟩)) := by kernel_rfl
theorem fa_File1 (b o : Nat) : aFieldAddr Tryd.prog 43 (.pointer (some ⟨b, o, none⟩)) 1 = some (.pointer (some ⟨b, o + 1, none⟩)) := by kernel_rfl
theorem inf_Fate : Tryd.prog.info? 39 = some Tryd.t39 := by kernel_rfl
theorem sz_Fate : Tryd.t39.size = 3 := rfl
theorem ld_Fate (get : Nat → Option Blk) (b o : Nat) : gLoad Tryd.prog get 39 (.pointer (some ⟨b, o, none⟩)) = rowIn 3 o (get b) := ld_row Tryd.underlying39 (row_struct _) inf_Fate rfl get b o
theorem st_Fate (m : Mem) (b o : Nat) (v : Value) : aStore Tryd.prog m 39 (.pointer (some ⟨b, o, none⟩)) v = putIn 3 m b o v.cells.toList (m.get b) := st_any inf_Fate rfl m b o v
theorem al_Fate : nAlloc Tryd.prog 39 = some (.cells false (aStride Tryd.prog 39) [.bool false, .int .i64 0, .int .i64 0]) := by kernel_rfl
theorem fa_Fate0 (b o : Nat) : aFieldAddr Tryd.prog 39 (.pointer (some ⟨b, o, none⟩)) 0 = some (.pointer (some ⟨b, o, none⟩)) := by kernel_rfl
theorem fa_Fate1 (b o : Nat) : aFieldAddr Tryd.prog 39 (.pointer (some ⟨b, o, none⟩)) 1 = some (.pointer (some ⟨b, o + 1, none⟩)) := by kernel_rfl
theorem fa_Fate2 (b o : Nat) : aFieldAddr Tryd.prog 39 (.pointer (some ⟨b, o, none⟩)) 2 = some (.pointer (some ⟨b, o + 2, none⟩)) := by kernel_rfl
theorem inf_Step : Tryd.prog.info? 41 = some Tryd.t41 := by kernel_rfl
theorem sz_Step : Tryd.t41.size = 7 := rfl
theorem ld_Step (get : Nat → Option Blk) (b o : Nat) : gLoad Tryd.prog get 41 (.pointer (some ⟨b, o, none⟩)) = rowIn 7 o (get b) := ld_row Tryd.underlying41 (row_struct _) inf_Step rfl get b o
theorem st_Step (m : Mem) (b o : Nat) (v : Value) : aStore Tryd.prog m 41 (.pointer (some ⟨b, o, none⟩)) v = putIn 7 m b o v.cells.toList (m.get b) := st_any inf_Step rfl m b o v
theorem al_Step : nAlloc Tryd.prog 41 = some (.cells false (aStride Tryd.prog 41) [.int .i64 0, .int .i64 0, .slice none 0 0, .string ⟨#[]⟩, .bool false, .int .i64 0, .int .i64 0]) := by kernel_rfl
theorem bx_Step (xs : Array Value) (h : oneAll xs.toList = true) : nBox Tryd.prog 41 (.agg xs) = some (.cells false (aStride Tryd.prog 41) xs.toList) := nBox_row 41 h
theorem fa_Step0 (b o : Nat) : aFieldAddr Tryd.prog 41 (.pointer (some ⟨b, o, none⟩)) 0 = some (.pointer (some ⟨b, o, none⟩)) := by kernel_rfl
theorem fa_Step1 (b o : Nat) : aFieldAddr Tryd.prog 41 (.pointer (some ⟨b, o, none⟩)) 1 = some (.pointer (some ⟨b, o + 1, none⟩)) := by kernel_rfl
theorem fa_Step2 (b o : Nat) : aFieldAddr Tryd.prog 41 (.pointer (some ⟨b, o, none⟩)) 2 = some (.pointer (some ⟨b, o + 2, none⟩)) := by kernel_rfl
theorem fa_Step3 (b o : Nat) : aFieldAddr Tryd.prog 41 (.pointer (some ⟨b, o, none⟩)) 3 = some (.pointer (some ⟨b, o + 3, none⟩)) := by kernel_rfl
theorem fa_Step4 (b o : Nat) : aFieldAddr Tryd.prog 41 (.pointer (some ⟨b, o, none⟩)) 4 = some (.pointer (some ⟨b, o + 4, none⟩)) := by kernel_rfl
theorem inf_Fair : Tryd.prog.info? 26 = some Tryd.t26 := by kernel_rfl
theorem sz_Fair : Tryd.t26.size = 2 := rfl
theorem ld_Fair (get : Nat → Option Blk) (b o : Nat) : gLoad Tryd.prog get 26 (.pointer (some ⟨b, o, none⟩)) = rowIn 2 o (get b) := ld_row Tryd.underlying26 (row_struct _) inf_Fair rfl get b o
theorem st_Fair (m : Mem) (b o : Nat) (v : Value) : aStore Tryd.prog m 26 (.pointer (some ⟨b, o, none⟩)) v = putIn 2 m b o v.cells.toList (m.get b) := st_any inf_Fair rfl m b o v
theorem al_Fair : nAlloc Tryd.prog 26 = some (.cells false (aStride Tryd.prog 26) [.int .i64 0, .int .i64 0]) := by kernel_rfl
theorem fa_Fair0 (b o : Nat) : aFieldAddr Tryd.prog 26 (.pointer (some ⟨b, o, none⟩)) 0 = some (.pointer (some ⟨b, o, none⟩)) := by kernel_rfl
theorem fa_Fair1 (b o : Nat) : aFieldAddr Tryd.prog 26 (.pointer (some ⟨b, o, none⟩)) 1 = some (.pointer (some ⟨b, o + 1, none⟩)) := by kernel_rfl
theorem inf_Scr : Tryd.prog.info? 29 = some Tryd.t29 := by kernel_rfl
theorem sz_Scr : Tryd.t29.size = 5 := rfl
theorem ld_Scr (get : Nat → Option Blk) (b o : Nat) : gLoad Tryd.prog get 29 (.pointer (some ⟨b, o, none⟩)) = rowIn 5 o (get b) := ld_row Tryd.underlying29 (row_struct _) inf_Scr rfl get b o
theorem st_Scr (m : Mem) (b o : Nat) (v : Value) : aStore Tryd.prog m 29 (.pointer (some ⟨b, o, none⟩)) v = putIn 5 m b o v.cells.toList (m.get b) := st_any inf_Scr rfl m b o v
theorem al_Scr : nAlloc Tryd.prog 29 = some (.cells false (aStride Tryd.prog 29) [.int .i64 0, .int .i64 0, .int .i64 0, .int .i64 0, .slice none 0 0]) := by kernel_rfl
theorem bx_Scr (xs : Array Value) (h : oneAll xs.toList = true) : nBox Tryd.prog 29 (.agg xs) = some (.cells false (aStride Tryd.prog 29) xs.toList) := nBox_row 29 h
theorem fa_Scr0 (b o : Nat) : aFieldAddr Tryd.prog 29 (.pointer (some ⟨b, o, none⟩)) 0 = some (.pointer (some ⟨b, o, none⟩)) := by kernel_rfl
theorem fa_Scr1 (b o : Nat) : aFieldAddr Tryd.prog 29 (.pointer (some ⟨b, o, none⟩)) 1 = some (.pointer (some ⟨b, o + 1, none⟩)) := by kernel_rfl
theorem fa_Scr2 (b o : Nat) : aFieldAddr Tryd.prog 29 (.pointer (some ⟨b, o, none⟩)) 2 = some (.pointer (some ⟨b, o + 2, none⟩)) := by kernel_rfl
theorem fa_Scr3 (b o : Nat) : aFieldAddr Tryd.prog 29 (.pointer (some ⟨b, o, none⟩)) 3 = some (.pointer (some ⟨b, o + 4, none⟩)) := by kernel_rfl
theorem inf_RScr : Tryd.prog.info? 49 = some Tryd.t49 := by kernel_rfl
theorem sz_RScr : Tryd.t49.size = 5 := rfl
theorem ld_RScr (get : Nat → Option Blk) (b o : Nat) : gLoad Tryd.prog get 49 (.pointer (some ⟨b, o, none⟩)) = rowIn 5 o (get b) := ld_row Tryd.underlying49 (row_struct _) inf_RScr rfl get b o
theorem st_RScr (m : Mem) (b o : Nat) (v : Value) : aStore Tryd.prog m 49 (.pointer (some ⟨b, o, none⟩)) v = putIn 5 m b o v.cells.toList (m.get b) := st_any inf_RScr rfl m b o v
theorem al_RScr : nAlloc Tryd.prog 49 = some (.cells false (aStride Tryd.prog 49) [.int .i64 0, .int .i64 0, .int .i64 0, .int .i64 0, .slice none 0 0]) := by kernel_rfl
theorem bx_RScr (xs : Array Value) (h : oneAll xs.toList = true) : nBox Tryd.prog 49 (.agg xs) = some (.cells false (aStride Tryd.prog 49) xs.toList) := nBox_row 49 h
theorem fa_RScr0 (b o : Nat) : aFieldAddr Tryd.prog 49 (.pointer (some ⟨b, o, none⟩)) 0 = some (.pointer (some ⟨b, o, none⟩)) := by kernel_rfl
theorem fa_RScr1 (b o : Nat) : aFieldAddr Tryd.prog 49 (.pointer (some ⟨b, o, none⟩)) 1 = some (.pointer (some ⟨b, o + 1, none⟩)) := by kernel_rfl
theorem fa_RScr2 (b o : Nat) : aFieldAddr Tryd.prog 49 (.pointer (some ⟨b, o, none⟩)) 2 = some (.pointer (some ⟨b, o + 2, none⟩)) := by kernel_rfl
theorem fa_RScr3 (b o : Nat) : aFieldAddr Tryd.prog 49 (.pointer (some ⟨b, o, none⟩)) 3 = some (.pointer (some ⟨b, o + 3, none⟩)) := by kernel_rfl
theorem fa_RScr4 (b o : Nat) : aFieldAddr Tryd.prog 49 (.pointer (some ⟨b, o, none⟩)) 4 = some (.pointer (some ⟨b, o + 4, none⟩)) := by kernel_rfl
theorem inf_Par : Tryd.prog.info? 54 = some Tryd.t54 := by kernel_rfl
theorem sz_Par : Tryd.t54.size = 6 := rfl
theorem ld_Par (get : Nat → Option Blk) (b o : Nat) : gLoad Tryd.prog get 54 (.pointer (some ⟨b, o, none⟩)) = rowIn 6 o (get b) := ld_row Tryd.underlying54 (row_struct _) inf_Par rfl get b o
theorem st_Par (m : Mem) (b o : Nat) (v : Value) : aStore Tryd.prog m 54 (.pointer (some ⟨b, o, none⟩)) v = putIn 6 m b o v.cells.toList (m.get b) := st_any inf_Par rfl m b o v
theorem al_Par : nAlloc Tryd.prog 54 = some (.cells false (aStride Tryd.prog 54) [.int .i64 0, .int .i64 0, .int .i64 0, .int .i64 0, .slice none 0 0, .int .i64 0]) := by kernel_rfl
theorem bx_Par (xs : Array Value) (h : oneAll xs.toList = true) : nBox Tryd.prog 54 (.agg xs) = some (.cells false (aStride Tryd.prog 54) xs.toList) := nBox_row 54 h
theorem fa_Par0 (b o : Nat) : aFieldAddr Tryd.prog 54 (.pointer (some ⟨b, o, none⟩)) 0 = some (.pointer (some ⟨b, o, none⟩)) := by kernel_rfl
theorem fa_Par1 (b o : Nat) : aFieldAddr Tryd.prog 54 (.pointer (some ⟨b, o, none⟩)) 1 = some (.pointer (some ⟨b, o + 5, none⟩)) := by kernel_rfl
theorem inf_Two : Tryd.prog.info? 80 = some Tryd.t80 := by kernel_rfl
theorem sz_Two : Tryd.t80.size = 2 := rfl
theorem ld_Two (get : Nat → Option Blk) (b o : Nat) : gLoad Tryd.prog get 80 (.pointer (some ⟨b, o, none⟩)) = rowIn 2 o (get b) := ld_row Tryd.underlying80 (row_array _ _) inf_Two rfl get b o
theorem st_Two (m : Mem) (b o : Nat) (v : Value) : aStore Tryd.prog m 80 (.pointer (some ⟨b, o, none⟩)) v = putIn 2 m b o v.cells.toList (m.get b) := st_any inf_Two rfl m b o v
theorem al_Two : nAlloc Tryd.prog 80 = some (.cells false (aStride Tryd.prog 80) [.int .i64 0, .int .i64 0]) := by kernel_rfl
theorem inf_Str : Tryd.prog.info? 9 = some Tryd.t9 := by kernel_rfl
theorem sz_Str : Tryd.t9.size = 1 := rfl
theorem ld_Str (get : Nat → Option Blk) (b o : Nat) : gLoad Tryd.prog get 9 (.pointer (some ⟨b, o, none⟩)) = cellIn o (get b) := ld_cell Tryd.underlying9 rfl get b o
theorem st_Str (m : Mem) (b o : Nat) (v : Value) : aStore Tryd.prog m 9 (.pointer (some ⟨b, o, none⟩)) v = putIn 1 m b o v.cells.toList (m.get b) := st_any inf_Str rfl m b o v
theorem al_Str : nAlloc Tryd.prog 9 = some (.cells false (aStride Tryd.prog 9) [.string ⟨#[]⟩]) := by kernel_rfl
theorem inf_Int : Tryd.prog.info? 3 = some Tryd.t3 := by kernel_rfl
theorem sz_Int : Tryd.t3.size = 1 := rfl
theorem ld_Int (get : Nat → Option Blk) (b o : Nat) : gLoad Tryd.prog get 3 (.pointer (some ⟨b, o, none⟩)) = cellIn o (get b) := ld_cell Tryd.underlying3 rfl get b o
theorem st_Int (m : Mem) (b o : Nat) (v : Value) : aStore Tryd.prog m 3 (.pointer (some ⟨b, o, none⟩)) v = putIn 1 m b o v.cells.toList (m.get b) := st_any inf_Int rfl m b o v
theorem al_Int : nAlloc Tryd.prog 3 = some (.cells false (aStride Tryd.prog 3) [.int .i64 0]) := by kernel_rfl
theorem inf_Bool : Tryd.prog.info? 4 = some Tryd.t4 := by kernel_rfl
theorem sz_Bool : Tryd.t4.size = 1 := rfl
theorem ld_Bool (get : Nat → Option Blk) (b o : Nat) : gLoad Tryd.prog get 4 (.pointer (some ⟨b, o, none⟩)) = cellIn o (get b) := ld_cell Tryd.underlying4 rfl get b o
theorem st_Bool (m : Mem) (b o : Nat) (v : Value) : aStore Tryd.prog m 4 (.pointer (some ⟨b, o, none⟩)) v = putIn 1 m b o v.cells.toList (m.get b) := st_any inf_Bool rfl m b o v
theorem al_Bool : nAlloc Tryd.prog 4 = some (.cells false (aStride Tryd.prog 4) [.bool false]) := by kernel_rfl
theorem inf_U8 : Tryd.prog.info? 5 = some Tryd.t5 := by kernel_rfl
theorem ld_U8 (get : Nat → Option Blk) (b o : Nat) : gLoad Tryd.prog get 5 (.pointer (some ⟨b, o, none⟩)) = cellIn o (get b) := ld_cell Tryd.underlying5 rfl get b o
theorem st_U8 (m : Mem) (b o : Nat) (v : Value) : aStore Tryd.prog m 5 (.pointer (some ⟨b, o, none⟩)) v = putIn 1 m b o v.cells.toList (m.get b) := st_any inf_U8 rfl m b o v
theorem al_U8 : nAlloc Tryd.prog 5 = some (.cells false (aStride Tryd.prog 5) [.int .u8 0]) := by kernel_rfl
theorem inf_SS : Tryd.prog.info? 58 = some Tryd.t58 := by kernel_rfl
theorem sz_SS : Tryd.t58.size = 1 := rfl
theorem ld_SS (get : Nat → Option Blk) (b o : Nat) : gLoad Tryd.prog get 58 (.pointer (some ⟨b, o, none⟩)) = cellIn o (get b) := ld_cell Tryd.underlying58 rfl get b o
theorem st_SS (m : Mem) (b o : Nat) (v : Value) : aStore Tryd.prog m 58 (.pointer (some ⟨b, o, none⟩)) v = putIn 1 m b o v.cells.toList (m.get b) := st_any inf_SS rfl m b o v
theorem al_SS : nAlloc Tryd.prog 58 = some (.cells false (aStride Tryd.prog 58) [.slice none 0 0]) := by kernel_rfl
theorem inf_Stps : Tryd.prog.info? 27 = some Tryd.t27 := by kernel_rfl
theorem sz_Stps : Tryd.t27.size = 1 := rfl
theorem ld_Stps (get : Nat → Option Blk) (b o : Nat) : gLoad Tryd.prog get 27 (.pointer (some ⟨b, o, none⟩)) = cellIn o (get b) := ld_cell Tryd.underlying27 rfl get b o
theorem st_Stps (m : Mem) (b o : Nat) (v : Value) : aStore Tryd.prog m 27 (.pointer (some ⟨b, o, none⟩)) v = putIn 1 m b o v.cells.toList (m.get b) := st_any inf_Stps rfl m b o v
theorem al_Stps : nAlloc Tryd.prog 27 = some (.cells false (aStride Tryd.prog 27) [.slice none 0 0]) := by kernel_rfl
theorem inf_Fls : Tryd.prog.info? 37 = some Tryd.t37 := by kernel_rfl
theorem sz_Fls : Tryd.t37.size = 1 := rfl
theorem ld_Fls (get : Nat → Option Blk) (b o : Nat) : gLoad Tryd.prog get 37 (.pointer (some ⟨b, o, none⟩)) = cellIn o (get b) := ld_cell Tryd.underlying37 rfl get b o
theorem st_Fls (m : Mem) (b o : Nat) (v : Value) : aStore Tryd.prog m 37 (.pointer (some ⟨b, o, none⟩)) v = putIn 1 m b o v.cells.toList (m.get b) := st_any inf_Fls rfl m b o v
theorem al_Fls : nAlloc Tryd.prog 37 = some (.cells false (aStride Tryd.prog 37) [.slice none 0 0]) := by kernel_rfl
theorem inf_Is : Tryd.prog.info? 77 = some Tryd.t77 := by kernel_rfl
theorem sz_Is : Tryd.t77.size = 1 := rfl
theorem ld_Is (get : Nat → Option Blk) (b o : Nat) : gLoad Tryd.prog get 77 (.pointer (some ⟨b, o, none⟩)) = cellIn o (get b) := ld_cell Tryd.underlying77 rfl get b o
theorem st_Is (m : Mem) (b o : Nat) (v : Value) : aStore Tryd.prog m 77 (.pointer (some ⟨b, o, none⟩)) v = putIn 1 m b o v.cells.toList (m.get b) := st_any inf_Is rfl m b o v
theorem al_Is : nAlloc Tryd.prog 77 = some (.cells false (aStride Tryd.prog 77) [.slice none 0 0]) := by kernel_rfl
theorem inf_Twos : Tryd.prog.info? 91 = some Tryd.t91 := by kernel_rfl
theorem sz_Twos : Tryd.t91.size = 1 := rfl
theorem ld_Twos (get : Nat → Option Blk) (b o : Nat) : gLoad Tryd.prog get 91 (.pointer (some ⟨b, o, none⟩)) = cellIn o (get b) := ld_cell Tryd.underlying91 rfl get b o
theorem st_Twos (m : Mem) (b o : Nat) (v : Value) : aStore Tryd.prog m 91 (.pointer (some ⟨b, o, none⟩)) v = putIn 1 m b o v.cells.toList (m.get b) := st_any inf_Twos rfl m b o v
theorem al_Twos : nAlloc Tryd.prog 91 = some (.cells false (aStride Tryd.prog 91) [.slice none 0 0]) := by kernel_rfl
theorem inf_Err : Tryd.prog.info? 30 = some Tryd.t30 := by kernel_rfl
theorem sz_Err : Tryd.t30.size = 1 := rfl
theorem ld_Err (get : Nat → Option Blk) (b o : Nat) : gLoad Tryd.prog get 30 (.pointer (some ⟨b, o, none⟩)) = cellIn o (get b) := ld_cell Tryd.underlying30 rfl get b o
theorem st_Err (m : Mem) (b o : Nat) (v : Value) : aStore Tryd.prog m 30 (.pointer (some ⟨b, o, none⟩)) v = putIn 1 m b o v.cells.toList (m.get b) := st_any inf_Err rfl m b o v
theorem al_Err : nAlloc Tryd.prog 30 = some (.cells false (aStride Tryd.prog 30) [.int .i64 0]) := by kernel_rfl
theorem cl_int (k : IntKind) (n : Int) : (Value.int k n).cells.toList = [.int k n] := rfl
theorem oc_int (k : IntKind) (n : Int) : (Value.int k n).oneCell' = true := rfl
theorem cl_string (s : ByteArray) : (Value.string s).cells.toList = [.string s] := rfl
theorem oc_string (s : ByteArray) : (Value.string s).oneCell' = true := rfl
theorem cl_bool (b : Bool) : (Value.bool b).cells.toList = [.bool b] := rfl
theorem oc_bool (b : Bool) : (Value.bool b).oneCell' = true := rfl
theorem cl_sl (a : Option Addr) (n c : Nat) : (Value.slice a n c).cells.toList = [.slice a n c] := rfl
theorem oc_sl (a : Option Addr) (n c : Nat) : (Value.slice a n c).oneCell' = true := rfl
theorem cl_pt (a : Option Addr) : (Value.pointer a).cells.toList = [.pointer a] := rfl
theorem oc_pt (a : Option Addr) : (Value.pointer a).oneCell' = true := rfl
theorem oa_cons (v : Value) (r : List Value) : oneAll (v :: r) = (v.oneCell' && oneAll r) := rfl
theorem oa_nil : oneAll [] = true := rfl
theorem g_nt : ((none : Option Bool) == some true) = false := rfl
theorem g_nf : ((none : Option Bool) == some false) = false := rfl
theorem undef_eq : undef = .tuple #[] := rfl
theorem ta_v (l : List Value) : l.toArray.toList = l := rfl
theorem rw_1_0_1 (r : Bool) (s : Nat) (a : Value) : rowIn 1 0 (some (.cells r s [a])) = some (.agg #[a]) := rfl
theorem pt_1_0_1 (m : Mem) (j s : Nat) (a x0 : Value) (h : oneAll [x0] = true) : putIn 1 m j 0 [x0] (some (.cells false s [a])) = some (m.set j (some (.cells false s [x0]))) := if_pos ⟨rfl, Nat.le_of_ble_eq_true rfl, h⟩
theorem rw_2_0_2 (r : Bool) (s : Nat) (a b : Value) : rowIn 2 0 (some (.cells r s [a, b])) = some (.agg #[a, b]) := rfl
theorem pt_2_0_2 (m : Mem) (j s : Nat) (a b x0 x1 : Value) (h : oneAll [x0, x1] = true) : putIn 2 m j 0 [x0, x1] (some (.cells false s [a, b])) = some (m.set j (some (.cells false s [x0, x1]))) := if_pos ⟨rfl, Nat.le_of_ble_eq_true rfl, h⟩
theorem pt_2_0_1 (m : Mem) (j s : Nat) (a b x0 : Value) (h : oneAll [x0] = true) : putIn 1 m j 0 [x0] (some (.cells false s [a, b])) = some (m.set j (some (.cells false s [x0, b]))) := if_pos ⟨rfl, Nat.le_of_ble_eq_true rfl, h⟩
theorem pt_2_1_1 (m : Mem) (j s : Nat) (a b x0 : Value) (h : oneAll [x0] = true) : putIn 1 m j 1 [x0] (some (.cells false s [a, b])) = some (m.set j (some (.cells false s [a, x0]))) := if_pos ⟨rfl, Nat.le_of_ble_eq_true rfl, h⟩
theorem rw_3_0_3 (r : Bool) (s : Nat) (a b c : Value) : rowIn 3 0 (some (.cells r s [a, b, c])) = some (.agg #[a, b, c]) := rfl
theorem pt_3_0_3 (m : Mem) (j s : Nat) (a b c x0 x1 x2 : Value) (h : oneAll [x0, x1, x2] = true) : putIn 3 m j 0 [x0, x1, x2] (some (.cells false s [a, b, c])) = some (m.set j (some (.cells false s [x0, x1, x2]))) := if_pos ⟨rfl, Nat.le_of_ble_eq_true rfl, h⟩
theorem pt_3_0_1 (m : Mem) (j s : Nat) (a b c x0 : Value) (h : oneAll [x0] = true) : putIn 1 m j 0 [x0] (some (.cells false s [a, b, c])) = some (m.set j (some (.cells false s [x0, b, c]))) := if_pos ⟨rfl, Nat.le_of_ble_eq_true rfl, h⟩
theorem pt_3_1_1 (m : Mem) (j s : Nat) (a b c x0 : Value) (h : oneAll [x0] = true) : putIn 1 m j 1 [x0] (some (.cells false s [a, b, c])) = some (m.set j (some (.cells false s [a, x0, c]))) := if_pos ⟨rfl, Nat.le_of_ble_eq_true rfl, h⟩
theorem pt_3_2_1 (m : Mem) (j s : Nat) (a b c x0 : Value) (h : oneAll [x0] = true) : putIn 1 m j 2 [x0] (some (.cells false s [a, b, c])) = some (m.set j (some (.cells false s [a, b, x0]))) := if_pos ⟨rfl, Nat.le_of_ble_eq_true rfl, h⟩
theorem rw_5_0_5 (r : Bool) (s : Nat) (a b c d e : Value) : rowIn 5 0 (some (.cells r s [a, b, c, d, e])) = some (.agg #[a, b, c, d, e]) := rfl
theorem pt_5_0_5 (m : Mem) (j s : Nat) (a b c d e x0 x1 x2 x3 x4 : Value) (h : oneAll [x0, x1, x2, x3, x4] = true) : putIn 5 m j 0 [x0, x1, x2, x3, x4] (some (.cells false s [a, b, c, d, e])) = some (m.set j (some (.cells false s [x0, x1, x2, x3, x4]))) := if_pos ⟨rfl, Nat.le_of_ble_eq_true rfl, h⟩
theorem pt_5_0_1 (m : Mem) (j s : Nat) (a b c d e x0 : Value) (h : oneAll [x0] = true) : putIn 1 m j 0 [x0] (some (.cells false s [a, b, c, d, e])) = some (m.set j (some (.cells false s [x0, b, c, d, e]))) := if_pos ⟨rfl, Nat.le_of_ble_eq_true rfl, h⟩
theorem pt_5_1_1 (m : Mem) (j s : Nat) (a b c d e x0 : Value) (h : oneAll [x0] = true) : putIn 1 m j 1 [x0] (some (.cells false s [a, b, c, d, e])) = some (m.set j (some (.cells false s [a, x0, c, d, e]))) := if_pos ⟨rfl, Nat.le_of_ble_eq_true rfl, h⟩
theorem pt_5_2_1 (m : Mem) (j s : Nat) (a b c d e x0 : Value) (h : oneAll [x0] = true) : putIn 1 m j 2 [x0] (some (.cells false s [a, b, c, d, e])) = some (m.set j (some (.cells false s [a, b, x0, d, e]))) := if_pos ⟨rfl, Nat.le_of_ble_eq_true rfl, h⟩
theorem pt_5_3_1 (m : Mem) (j s : Nat) (a b c d e x0 : Value) (h : oneAll [x0] = true) : putIn 1 m j 3 [x0] (some (.cells false s [a, b, c, d, e])) = some (m.set j (some (.cells false s [a, b, c, x0, e]))) := if_pos ⟨rfl, Nat.le_of_ble_eq_true rfl, h⟩
theorem pt_5_4_1 (m : Mem) (j s : Nat) (a b c d e x0 : Value) (h : oneAll [x0] = true) : putIn 1 m j 4 [x0] (some (.cells false s [a, b, c, d, e])) = some (m.set j (some (.cells false s [a, b, c, d, x0]))) := if_pos ⟨rfl, Nat.le_of_ble_eq_true rfl, h⟩
theorem rw_6_0_6 (r : Bool) (s : Nat) (a b c d e f : Value) : rowIn 6 0 (some (.cells r s [a, b, c, d, e, f])) = some (.agg #[a, b, c, d, e, f]) := rfl
theorem rw_6_0_5 (r : Bool) (s : Nat) (a b c d e f : Value) : rowIn 5 0 (some (.cells r s [a, b, c, d, e, f])) = some (.agg #[a, b, c, d, e]) := rfl
theorem pt_6_0_6 (m : Mem) (j s : Nat) (a b c d e f x0 x1 x2 x3 x4 x5 : Value) (h : oneAll [x0, x1, x2, x3, x4, x5] = true) : putIn 6 m j 0 [x0, x1, x2, x3, x4, x5] (some (.cells false s [a, b, c, d, e, f])) = some (m.set j (some (.cells false s [x0, x1, x2, x3, x4, x5]))) := if_pos ⟨rfl, Nat.le_of_ble_eq_true rfl, h⟩
theorem pt_6_0_5 (m : Mem) (j s : Nat) (a b c d e f x0 x1 x2 x3 x4 : Value) (h : oneAll [x0, x1, x2, x3, x4] = true) : putIn 5 m j 0 [x0, x1, x2, x3, x4] (some (.cells false s [a, b, c, d, e, f])) = some (m.set j (some (.cells false s [x0, x1, x2, x3, x4, f]))) := if_pos ⟨rfl, Nat.le_of_ble_eq_true rfl, h⟩
theorem pt_6_0_1 (m : Mem) (j s : Nat) (a b c d e f x0 : Value) (h : oneAll [x0] = true) : putIn 1 m j 0 [x0] (some (.cells false s [a, b, c, d, e, f])) = some (m.set j (some (.cells false s [x0, b, c, d, e, f]))) := if_pos ⟨rfl, Nat.le_of_ble_eq_true rfl, h⟩
theorem pt_6_1_1 (m : Mem) (j s : Nat) (a b c d e f x0 : Value) (h : oneAll [x0] = true) : putIn 1 m j 1 [x0] (some (.cells false s [a, b, c, d, e, f])) = some (m.set j (some (.cells false s [a, x0, c, d, e, f]))) := if_pos ⟨rfl, Nat.le_of_ble_eq_true rfl, h⟩
theorem pt_6_2_1 (m : Mem) (j s : Nat) (a b c d e f x0 : Value) (h : oneAll [x0] = true) : putIn 1 m j 2 [x0] (some (.cells false s [a, b, c, d, e, f])) = some (m.set j (some (.cells false s [a, b, x0, d, e, f]))) := if_pos ⟨rfl, Nat.le_of_ble_eq_true rfl, h⟩
theorem pt_6_3_1 (m : Mem) (j s : Nat) (a b c d e f x0 : Value) (h : oneAll [x0] = true) : putIn 1 m j 3 [x0] (some (.cells false s [a, b, c, d, e, f])) = some (m.set j (some (.cells false s [a, b, c, x0, e, f]))) := if_pos ⟨rfl, Nat.le_of_ble_eq_true rfl, h⟩
theorem pt_6_4_1 (m : Mem) (j s : Nat) (a b c d e f x0 : Value) (h : oneAll [x0] = true) : putIn 1 m j 4 [x0] (some (.cells false s [a, b, c, d, e, f])) = some (m.set j (some (.cells false s [a, b, c, d, x0, f]))) := if_pos ⟨rfl, Nat.le_of_ble_eq_true rfl, h⟩
theorem pt_6_5_1 (m : Mem) (j s : Nat) (a b c d e f x0 : Value) (h : oneAll [x0] = true) : putIn 1 m j 5 [x0] (some (.cells false s [a, b, c, d, e, f])) = some (m.set j (some (.cells false s [a, b, c, d, e, x0]))) := if_pos ⟨rfl, Nat.le_of_ble_eq_true rfl, h⟩
theorem rw_7_0_7 (r : Bool) (s : Nat) (a b c d e f g : Value) : rowIn 7 0 (some (.cells r s [a, b, c, d, e, f, g])) = some (.agg #[a, b, c, d, e, f, g]) := rfl
theorem rw_7_4_3 (r : Bool) (s : Nat) (a b c d e f g : Value) : rowIn 3 4 (some (.cells r s [a, b, c, d, e, f, g])) = some (.agg #[e, f, g]) := rfl
theorem pt_7_0_7 (m : Mem) (j s : Nat) (a b c d e f g x0 x1 x2 x3 x4 x5 x6 : Value) (h : oneAll [x0, x1, x2, x3, x4, x5, x6] = true) : putIn 7 m j 0 [x0, x1, x2, x3, x4, x5, x6] (some (.cells false s [a, b, c, d, e, f, g])) = some (m.set j (some (.cells false s [x0, x1, x2, x3, x4, x5, x6]))) := if_pos ⟨rfl, Nat.le_of_ble_eq_true rfl, h⟩
theorem pt_7_4_3 (m : Mem) (j s : Nat) (a b c d e f g x0 x1 x2 : Value) (h : oneAll [x0, x1, x2] = true) : putIn 3 m j 4 [x0, x1, x2] (some (.cells false s [a, b, c, d, e, f, g])) = some (m.set j (some (.cells false s [a, b, c, d, x0, x1, x2]))) := if_pos ⟨rfl, Nat.le_of_ble_eq_true rfl, h⟩
theorem pt_7_0_1 (m : Mem) (j s : Nat) (a b c d e f g x0 : Value) (h : oneAll [x0] = true) : putIn 1 m j 0 [x0] (some (.cells false s [a, b, c, d, e, f, g])) = some (m.set j (some (.cells false s [x0, b, c, d, e, f, g]))) := if_pos ⟨rfl, Nat.le_of_ble_eq_true rfl, h⟩
theorem pt_7_1_1 (m : Mem) (j s : Nat) (a b c d e f g x0 : Value) (h : oneAll [x0] = true) : putIn 1 m j 1 [x0] (some (.cells false s [a, b, c, d, e, f, g])) = some (m.set j (some (.cells false s [a, x0, c, d, e, f, g]))) := if_pos ⟨rfl, Nat.le_of_ble_eq_true rfl, h⟩
theorem pt_7_2_1 (m : Mem) (j s : Nat) (a b c d e f g x0 : Value) (h : oneAll [x0] = true) : putIn 1 m j 2 [x0] (some (.cells false s [a, b, c, d, e, f, g])) = some (m.set j (some (.cells false s [a, b, x0, d, e, f, g]))) := if_pos ⟨rfl, Nat.le_of_ble_eq_true rfl, h⟩
theorem pt_7_3_1 (m : Mem) (j s : Nat) (a b c d e f g x0 : Value) (h : oneAll [x0] = true) : putIn 1 m j 3 [x0] (some (.cells false s [a, b, c, d, e, f, g])) = some (m.set j (some (.cells false s [a, b, c, x0, e, f, g]))) := if_pos ⟨rfl, Nat.le_of_ble_eq_true rfl, h⟩
theorem pt_7_4_1 (m : Mem) (j s : Nat) (a b c d e f g x0 : Value) (h : oneAll [x0] = true) : putIn 1 m j 4 [x0] (some (.cells false s [a, b, c, d, e, f, g])) = some (m.set j (some (.cells false s [a, b, c, d, x0, f, g]))) := if_pos ⟨rfl, Nat.le_of_ble_eq_true rfl, h⟩
theorem pt_7_5_1 (m : Mem) (j s : Nat) (a b c d e f g x0 : Value) (h : oneAll [x0] = true) : putIn 1 m j 5 [x0] (some (.cells false s [a, b, c, d, e, f, g])) = some (m.set j (some (.cells false s [a, b, c, d, e, x0, g]))) := if_pos ⟨rfl, Nat.le_of_ble_eq_true rfl, h⟩
theorem pt_7_6_1 (m : Mem) (j s : Nat) (a b c d e f g x0 : Value) (h : oneAll [x0] = true) : putIn 1 m j 6 [x0] (some (.cells false s [a, b, c, d, e, f, g])) = some (m.set j (some (.cells false s [a, b, c, d, e, f, x0]))) := if_pos ⟨rfl, Nat.le_of_ble_eq_true rfl, h⟩
def zTy := And.intro (And.intro (And.intro (And.intro (And.intro (And.intro (And.intro (@inf_File) (@sz_File)) (And.intro (@ld_File) (And.intro (@st_File) (@al_File)))) (And.intro (And.intro (@fa_File0) (And.intro (@fa_File1) (@inf_Fate))) (And.intro (@sz_Fate) (And.intro (@ld_Fate) (@st_Fate))))) (And.intro (And.intro (And.intro (@al_Fate) (And.intro (@fa_Fate0) (@fa_Fate1))) (And.intro (@fa_Fate2) (And.intro (@inf_Step) (@sz_Step)))) (And.intro (And.intro (@ld_Step) (And.intro (@st_Step) (@al_Step))) (And.intro (@fa_Step0) (And.intro (@fa_Step1) (@fa_Step2)))))) (And.intro (And.intro (And.intro (And.intro (@fa_Step3) (And.intro (@fa_Step4) (@inf_Fair))) (And.intro (@sz_Fair) (And.intro (@ld_Fair) (@st_Fair)))) (And.intro (And.intro (@al_Fair) (And.intro (@fa_Fair0) (@fa_Fair1))) (And.intro (@inf_Scr) (And.intro (@sz_Scr) (@ld_Scr))))) (And.intro (And.intro (And.intro (@st_Scr) (And.intro (@al_Scr) (@fa_Scr0))) (And.intro (@fa_Scr1) (And.intro (@fa_Scr2) (@fa_Scr3)))) (And.intro (And.intro (@inf_RScr) (And.intro (@sz_RScr) (@ld_RScr))) (And.intro (@st_RScr) (And.intro (@al_RScr) (@fa_RScr0))))))) (And.intro (And.intro (And.intro (And.intro (And.intro (@fa_RScr1) (And.intro (@fa_RScr2) (@fa_RScr3))) (And.intro (@fa_RScr4) (And.intro (@inf_Par) (@sz_Par)))) (And.intro (And.intro (@ld_Par) (And.intro (@st_Par) (@al_Par))) (And.intro (@fa_Par0) (And.intro (@fa_Par1) (@inf_Two))))) (And.intro (And.intro (And.intro (@sz_Two) (And.intro (@ld_Two) (@st_Two))) (And.intro (@al_Two) (And.intro (@inf_Str) (@sz_Str)))) (And.intro (And.intro (@ld_Str) (And.intro (@st_Str) (@al_Str))) (And.intro (@inf_Int) (And.intro (@sz_Int) (@ld_Int)))))) (And.intro (And.intro (And.intro (And.intro (@st_Int) (And.intro (@al_Int) (@inf_Bool))) (And.intro (@sz_Bool) (And.intro (@ld_Bool) (@st_Bool)))) (And.intro (And.intro (@al_Bool) (And.intro (@ld_U8) (@st_U8))) (And.intro (@al_U8) (And.intro (@inf_SS) (@sz_SS))))) (And.intro (And.intro (And.intro (@ld_SS) (And.intro (@st_SS) (@al_SS))) (And.intro (@inf_Stps) (And.intro (@sz_Stps) (@ld_Stps)))) (And.intro (And.intro (@st_Stps) (And.intro (@al_Stps) (@inf_Fls))) (And.intro (@sz_Fls) (And.intro (@ld_Fls) (@st_Fls)))))))) (And.intro (And.intro (And.intro (And.intro (And.intro (And.intro (@al_Fls) (And.intro (@inf_Is) (@sz_Is))) (And.intro (@ld_Is) (And.intro (@st_Is) (@al_Is)))) (And.intro (And.intro (@inf_Twos) (And.intro (@sz_Twos) (@ld_Twos))) (And.intro (@st_Twos) (And.intro (@al_Twos) (@inf_Err))))) (And.intro (And.intro (And.intro (@sz_Err) (And.intro (@ld_Err) (@st_Err))) (And.intro (@al_Err) (And.intro (Tryd.underlying9) (Tryd.underlying3)))) (And.intro (And.intro (Tryd.underlying4) (And.intro (Tryd.underlying5) (Tryd.underlying58))) (And.intro (Tryd.underlying27) (And.intro (Tryd.underlying37) (Tryd.underlying77)))))) (And.intro (And.intro (And.intro (And.intro (Tryd.underlying91) (And.intro (Tryd.underlying80) (Tryd.underlying30))) (And.intro (Tryd.underlying43) (And.intro (Tryd.underlying39) (Tryd.underlying41)))) (And.intro (And.intro (Tryd.underlying26) (And.intro (Tryd.underlying29) (Tryd.underlying49))) (And.intro (Tryd.underlying54) (And.intro (Tryd.underlying35) (Tryd.underlying64))))) (And.intro (And.intro (And.intro (@cl_int) (And.intro (@oc_int) (@cl_string))) (And.intro (@oc_string) (And.intro (@cl_bool) (@oc_bool)))) (And.intro (And.intro (@cl_sl) (And.intro (@oc_sl) (@cl_pt))) (And.intro (@oc_pt) (And.intro (@oa_cons) (@oa_nil))))))) (And.intro (And.intro (And.intro (And.intro (And.intro (@g_nt) (And.intro (@g_nf) (@undef_eq))) (And.intro (@ta_v) (And.intro (@Bool.and_self) (@Bool.true_and)))) (And.intro (And.intro (@agg_cells) (And.intro (@setL.eq_1) (@setL.eq_2))) (And.intro (@rw_1_0_1) (And.intro (@pt_1_0_1) (@rw_2_0_2))))) (And.intro (And.intro (And.intro (@pt_2_0_2) (And.intro (@pt_2_0_1) (@pt_2_1_1))) (And.intro (@rw_3_0_3) (And.intro (@pt_3_0_3) (@pt_3_0_1)))) (And.intro (And.intro (@pt_3_1_1) (And.intro (@pt_3_2_1) (@rw_5_0_5))) (And.intro (@pt_5_0_5) (And.intro (@pt_5_0_1) (@pt_5_1_1)))))) (And.intro (And.intro (And.intro (And.intro (@pt_5_2_1) (And.intro (@pt_5_3_1) (@pt_5_4_1))) (And.intro (@rw_6_0_6) (And.intro (@rw_6_0_5) (@pt_6_0_6)))) (And.intro (And.intro (@pt_6_0_5) (And.intro (@pt_6_0_1) (@pt_6_1_1))) (And.intro (@pt_6_2_1) (And.intro (@pt_6_3_1) (@pt_6_4_1))))) (And.intro (And.intro (And.intro (@pt_6_5_1) (And.intro (@rw_7_0_7) (@rw_7_4_3))) (And.intro (@pt_7_0_7) (And.intro (@pt_7_4_3) (@pt_7_0_1)))) (And.intro (And.intro (@pt_7_1_1) (And.intro (@pt_7_2_1) (@pt_7_3_1))) (And.intro (@pt_7_4_1) (And.intro (@pt_7_5_1) (@pt_7_6_1))))))))
end Go.Proofs.YthcleiegefhmdaaDoor
namespace Go.Proofs.YthcleiegefhmdaaDoor
open Go.RowKit Abs
theorem bsub_str (l : List UInt8) (k : Nat) : bsub (str l) 0 k = str (l.take k) := rfl
theorem beqB_str (a b : List UInt8) : beqB (str a) (str b) = decide (a = b) := by
  rw [beqB_dec, decide_eq_decide]
  exact ⟨fun h => congrArg (fun x => x.data.toList) h, fun h => by rw [h]⟩
theorem u8_eql (a b : UInt8) : ((a.toNat : Int) == (b.toNat : Int)) = decide (a = b) := by
  rw [Bool.eq_iff_iff, beq_iff_eq, decide_eq_true_eq]
  exact ⟨fun h => UInt8.toNat_inj.1 (by omega), fun h => by rw [h]⟩
def prefV (s p : List UInt8) : Bool := decide (s.take p.length = p)
def underV (p f : List UInt8) : Bool := decide (f.length < p.length) && decide (p.getD f.length 0 = 47) && prefV p f
def zUnder := And.intro (And.intro Tryd.underlying9 Tryd.underlying5) (And.intro Tryd.underlying3 Tryd.underlying4)
set_option maxRecDepth 100000 in
set_option maxHeartbeats 2000000 in
theorem prefix2_spec (s p : List UInt8) (m : Mem) :
    Abs.Spec Tryd.prog 90 [.string (str s), .string (str p)] m fun u M => u = .bool (prefV s p) ∧ M = m := by
  refine Abs.Spec.walkB Tryd.func90 (by rfl) _ Tryd.results90 _ Tryd.ntmps90 (by simp) m [] (ext_nil m).symm 0 rfl (.inl rfl) ?_
  intro hc _
  refine CW_seq (CW_region ?_)
  simp only [zZ, reduceIte, Nat.reduceLT, Int.reduceToNat, Int.reduceLE, Int.reduceEq, Int.reduceLT, Nat.reduceEqDiff, Nat.reduceAdd, zUnder]
  refine CW_seq (CW_region ?_)
  cases c1 : decide ((p.length : Int) ≤ (s.length : Int))
  · simp only [zZ, reduceIte, Nat.reduceLT, Int.reduceToNat, Int.reduceLE, Int.reduceEq, Int.reduceLT, Nat.reduceEqDiff, Nat.reduceAdd, zUnder, bsize_str, c1]
    refine CW_ret ?_
    simp only [zZ, reduceIte, Nat.reduceLT, Int.reduceToNat, Int.reduceLE, Int.reduceEq, Int.reduceLT, Nat.reduceEqDiff, Nat.reduceAdd, zUnder, bEnd, sAnswer, sAnswer.sRes]
    refine told_flat rfl ?_
    have h := of_decide_eq_false c1
    unfold prefV
    rw [decide_eq_false fun e => by
      have := congrArg List.length e
      rw [List.length_take] at this
      omega]
  · have h := of_decide_eq_true c1
    have e1 : ∀ get : Nat → Option Blk, gSlice Tryd.prog get 9 (.string (str s)) none (some (.int .i64 (p.length : Nat))) = some (.string (bsub (str s) 0 ((p.length : Nat) : Int).toNat)) := fun get => slice_str (str s) _ (by omega) (by rw [bsize_str]; omega)
    simp only [zZ, reduceIte, Nat.reduceLT, Int.reduceToNat, Int.reduceLE, Int.reduceEq, Int.reduceLT, Nat.reduceEqDiff, Nat.reduceAdd, zUnder, bsize_str, c1, e1, Int.toNat_natCast, bsub_str, beqB_str]
    refine CW_ret ?_
    simp only [zZ, reduceIte, Nat.reduceLT, Int.reduceToNat, Int.reduceLE, Int.reduceEq, Int.reduceLT, Nat.reduceEqDiff, Nat.reduceAdd, zUnder, bEnd, sAnswer, sAnswer.sRes]
    exact told_flat rfl rfl
set_option maxRecDepth 100000 in
set_option maxHeartbeats 2000000 in
theorem prefix_spec (s p : List UInt8) (m : Mem) :
    Abs.Spec Tryd.prog 82 [.string (str s), .string (str p)] m fun u M => u = .bool (prefV s p) ∧ M = m := by
  refine Abs.Spec.walkB Tryd.func82 (by rfl) _ Tryd.results82 _ Tryd.ntmps82 (by simp) m [] (ext_nil m).symm 0 rfl (.inl rfl) ?_
  intro hc _
  refine CW_seq (CW_region ?_)
  simp only [zZ, reduceIte, Nat.reduceLT, Int.reduceToNat, Int.reduceLE, Int.reduceEq, Int.reduceLT, Nat.reduceEqDiff, Nat.reduceAdd, zUnder]
  refine CW_seq (CW_region ?_)
  simp only [zZ, reduceIte, Nat.reduceLT, Int.reduceToNat, Int.reduceLE, Int.reduceEq, Int.reduceLT, Nat.reduceEqDiff, Nat.reduceAdd, zUnder]
  refine ⟨by kernel_rfl, _, prefix2_spec s p _, ?_⟩
  rintro _ _ ⟨rfl, rfl⟩
  simp only [zZ, reduceIte, Nat.reduceLT, Int.reduceToNat, Int.reduceLE, Int.reduceEq, Int.reduceLT, Nat.reduceEqDiff, Nat.reduceAdd, zUnder]
  refine CW_ret ?_
  simp only [zZ, reduceIte, Nat.reduceLT, Int.reduceToNat, Int.reduceLE, Int.reduceEq, Int.reduceLT, Nat.reduceEqDiff, Nat.reduceAdd, zUnder, bEnd, sAnswer, sAnswer.sRes]
  exact told_flat rfl rfl
set_option maxRecDepth 100000 in
set_option maxHeartbeats 2000000 in
theorem under_spec (p f : List UInt8) (m : Mem) :
    Abs.Spec Tryd.prog 73 [.string (str p), .string (str f)] m fun u M => u = .bool (underV p f) ∧ M = m := by
  refine Abs.Spec.walkB Tryd.func73 (by rfl) _ Tryd.results73 _ Tryd.ntmps73 (by simp) m [] (ext_nil m).symm 0 rfl (.inl rfl) ?_
  intro hc _
  refine CW_seq (CW_region ?_)
  simp only [zZ, reduceIte, Nat.reduceLT, Int.reduceToNat, Int.reduceLE, Int.reduceEq, Int.reduceLT, Nat.reduceEqDiff, Nat.reduceAdd, zUnder]
  refine CW_seq (CW_region ?_)
  cases c1 : decide ((f.length : Int) < (p.length : Int))
  · simp only [zZ, reduceIte, Nat.reduceLT, Int.reduceToNat, Int.reduceLE, Int.reduceEq, Int.reduceLT, Nat.reduceEqDiff, Nat.reduceAdd, zUnder, bsize_str, c1]
    refine CW_ret ?_
    simp only [zZ, reduceIte, Nat.reduceLT, Int.reduceToNat, Int.reduceLE, Int.reduceEq, Int.reduceLT, Nat.reduceEqDiff, Nat.reduceAdd, zUnder, bEnd, sAnswer, sAnswer.sRes]
    refine told_flat rfl ?_
    have h := of_decide_eq_false c1
    unfold underV
    rw [decide_eq_false (by omega)]
    rfl
  · have h := of_decide_eq_true c1
    have i0 : aIndex Tryd.prog 9 (.string (str p)) (.int .i64 (f.length : Nat)) = some (.int .u8 ((p.getD f.length 0).toNat : Int)) := index_str (str p) _ f.length rfl (by rw [str_size]; omega)
    have e0 : (((p.getD f.length 0).toNat : Int) == 47) = decide (p.getD f.length 0 = 47) := u8_eql _ 47
    cases c2 : decide (p.getD f.length 0 = 47) <;> rw [c2] at e0
    · simp only [zZ, reduceIte, Nat.reduceLT, Int.reduceToNat, Int.reduceLE, Int.reduceEq, Int.reduceLT, Nat.reduceEqDiff, Nat.reduceAdd, zUnder, bsize_str, c1, i0, e0]
      refine CW_ret ?_
      simp only [zZ, reduceIte, Nat.reduceLT, Int.reduceToNat, Int.reduceLE, Int.reduceEq, Int.reduceLT, Nat.reduceEqDiff, Nat.reduceAdd, zUnder, bEnd, sAnswer, sAnswer.sRes]
      refine told_flat rfl ?_
      unfold underV
      rw [c2, Bool.and_false]
      rfl
    · simp only [zZ, reduceIte, Nat.reduceLT, Int.reduceToNat, Int.reduceLE, Int.reduceEq, Int.reduceLT, Nat.reduceEqDiff, Nat.reduceAdd, zUnder, bsize_str, c1, i0, e0]
      refine ⟨by kernel_rfl, _, prefix_spec p f _, ?_⟩
      rintro _ _ ⟨rfl, rfl⟩
      simp only [zZ, reduceIte, Nat.reduceLT, Int.reduceToNat, Int.reduceLE, Int.reduceEq, Int.reduceLT, Nat.reduceEqDiff, Nat.reduceAdd, zUnder]
      refine CW_ret ?_
      simp only [zZ, reduceIte, Nat.reduceLT, Int.reduceToNat, Int.reduceLE, Int.reduceEq, Int.reduceLT, Nat.reduceEqDiff, Nat.reduceAdd, zUnder, bEnd, sAnswer, sAnswer.sRes]
      refine told_flat rfl ?_
      unfold underV
      rw [c2, decide_eq_true (by omega)]
      rfl
end Go.Proofs.YthcleiegefhmdaaDoor
namespace Go.Proofs.YthcleiegefhmdaaDoor
open Go
def pieces (c : UInt8) : List UInt8 → List UInt8 → List (List UInt8)
  | [], cur => [cur]
  | b :: r, cur => if b = c then cur :: pieces c r [] else pieces c r (cur ++ [b])
def cut1 (c : UInt8) : List UInt8 → List UInt8 → List UInt8 × List UInt8 × Bool
  | [], cur => (cur, [], false)
  | b :: r, cur => if b = c then (cur, r, true) else cut1 c r (cur ++ [b])
theorem index_miss (l : List UInt8) (c : UInt8) : Lib.indexByte l c = -1 ∨ ∃ a b, l = a ++ c :: b ∧ c ∉ a ∧ Lib.indexByte l c = a.length := by
  induction l with
  | nil => exact .inl rfl
  | cons x r ih =>
    unfold Lib.indexByte
    by_cases hx : x = c
    · subst hx
      exact .inr ⟨[], r, rfl, by simp, by simp⟩
    · have hb : (x == c) = false := by simpa using hx
      rw [hb]
      simp only [Bool.false_eq_true, if_false]
      rcases ih with h | ⟨a, b, h1, h2, h3⟩
      · rw [h]; exact .inl rfl
      · refine .inr ⟨x :: a, b, by rw [h1]; rfl, by simp [h2, Ne.symm hx], ?_⟩
        have : (Lib.indexByte r c == -1) = false := by rw [h3]; simp
        rw [this, h3]
        simp
theorem index_not (l : List UInt8) (c : UInt8) (h : Lib.indexByte l c = -1) : c ∉ l := by
  induction l with
  | nil => simp
  | cons x r ih =>
    unfold Lib.indexByte at h
    by_cases hx : x = c
    · subst hx; simp at h
    · have hb : (x == c) = false := by simpa using hx
      rw [hb] at h
      simp only [Bool.false_eq_true, if_false] at h
      have hr : Lib.indexByte r c = -1 := by
        split at h
        · rename_i h'; simpa using h'
        · have := Lib.indexByte_ge r c; omega
      simp [ih hr, Ne.symm hx]
theorem pieces_not (c : UInt8) : ∀ (l cur : List UInt8), c ∉ l → pieces c l cur = [cur ++ l]
  | [], cur, _ => by simp [pieces]
  | b :: r, cur, h => by
    simp only [List.mem_cons, not_or] at h
    rw [pieces, if_neg (Ne.symm h.1), pieces_not c r _ h.2]; simp
theorem pieces_at (c : UInt8) : ∀ (a b cur : List UInt8), c ∉ a → pieces c (a ++ c :: b) cur = (cur ++ a) :: pieces c b []
  | [], b, cur, _ => by simp [pieces]
  | x :: r, b, cur, h => by
    simp only [List.mem_cons, not_or] at h
    rw [List.cons_append, pieces, if_neg (Ne.symm h.1), pieces_at c r b _ h.2]; simp
theorem cut1_not (c : UInt8) : ∀ (l cur : List UInt8), c ∉ l → cut1 c l cur = (cur ++ l, [], false)
  | [], cur, _ => by simp [cut1]
  | b :: r, cur, h => by
    simp only [List.mem_cons, not_or] at h
    rw [cut1, if_neg (Ne.symm h.1), cut1_not c r _ h.2]; simp
theorem cut1_at (c : UInt8) : ∀ (a b cur : List UInt8), c ∉ a → cut1 c (a ++ c :: b) cur = (cur ++ a, b, true)
  | [], b, cur, _ => by simp [cut1]
  | x :: r, b, cur, h => by
    simp only [List.mem_cons, not_or] at h
    rw [List.cons_append, cut1, if_neg (Ne.symm h.1), cut1_at c r b _ h.2]; simp
theorem cut_eq (l : List UInt8) (c : UInt8) : Lib.cut l [c] = cut1 c l [] := by
  unfold Lib.cut
  rw [Lib.index_one]
  rcases index_miss l c with h | ⟨a, b, h1, h2, h3⟩
  · rw [h, if_neg (by decide), cut1_not c l _ (index_not l c h)]; rfl
  · rw [h3, if_pos (by omega), h1, cut1_at c a b _ h2]; simp
theorem splitK_eq (c : UInt8) : ∀ (k : Nat) (l : List UInt8), l.count c = k → Lib.splitK [c] 0 k l = pieces c l []
  | k, l, hk => by
    rcases index_miss l c with h | ⟨a, b, h1, h2, h3⟩
    · have hn := index_not l c h
      have : k = 0 := by rw [← hk]; exact List.count_eq_zero.2 hn
      subst this
      rw [pieces_not c l _ hn]; rfl
    · have hc : l.count c = b.count c + 1 := by rw [h1, List.count_append, List.count_cons_self, List.count_eq_zero.2 h2]; omega
      obtain ⟨j, rfl⟩ : ∃ j, k = j + 1 := ⟨k - 1, by omega⟩
      rw [Lib.splitK, Lib.index_one, h3, if_neg (by simp), h1, pieces_at c a b _ h2]
      have e1 : (a ++ c :: b).take (((a.length : Nat) : Int).toNat + 0) = [] ++ a := by simp
      have e2 : (a ++ c :: b).drop (((a.length : Nat) : Int).toNat + [c].length) = b := by simp
      rw [e1, e2, splitK_eq c j b (by omega)]
termination_by k => k
theorem pieces_len (c : UInt8) : ∀ (l cur : List UInt8), (pieces c l cur).length = l.count c + 1
  | [], cur => rfl
  | b :: r, cur => by
    unfold pieces
    split
    · rename_i h; subst h; rw [List.length_cons, pieces_len, List.count_cons_self]
    · rename_i h; rw [pieces_len, List.count_cons_of_ne h]
theorem split_eq (s : ByteArray) (c : UInt8) : (Lib.splitB ⟨#[c]⟩ 0 (Lib.countB s ⟨#[c]⟩) s).map (·.data.toList) = pieces c s.data.toList [] := by
  rw [Lib.splitB_data]
  refine splitK_eq c _ _ ?_
  exact (Lib.count_one c s.data.toList).symm
theorem suffix_iff (l : List UInt8) (c : UInt8) : Lib.hasSuffix l [c] = true ↔ ∃ r, l = r ++ [c] := by
  unfold Lib.hasSuffix
  rw [List.isSuffixOf_iff_suffix]
  exact ⟨fun ⟨r, h⟩ => ⟨r, h.symm⟩, fun ⟨r, h⟩ => ⟨r, h.symm⟩⟩
theorem trim_eq (r : List UInt8) (c : UInt8) : Lib.trimSuffix (r ++ [c]) [c] = r := by
  unfold Lib.trimSuffix
  rw [if_pos ((suffix_iff _ _).2 ⟨r, rfl⟩)]
  simp
end Go.Proofs.YthcleiegefhmdaaDoor
namespace Go.Proofs.YthcleiegefhmdaaDoor
open Go.RowKit Abs
def sC (q : List (List UInt8)) : List Value := q.map fun p => .string (str p)
theorem Str_zero : Tryd.t9.zero = some (.string ⟨#[]⟩) := rfl
theorem Str_bytes : Tryd.t9.bytes = 16 := rfl
theorem slice_mid (get : Nat → Option Blk) (l : List UInt8) (a b : Nat) (h : a ≤ b) (hb : b ≤ l.length) :
    gSlice Tryd.prog get 9 (.string (str l)) (some (.int .i64 (a : Nat))) (some (.int .i64 (b : Nat))) = some (.string (str ((l.drop a).take (b - a)))) := by
  have hbs : bsize (str l) = l.length := rfl
  unfold gSlice aBound
  simp only [Tryd.underlying9, hbs]
  rw [if_pos (by omega), if_pos (by omega)]
  rfl
theorem wrs {x : Int} (h0 : -4611686018427387904 ≤ x) (h1 : x ≤ 4611686018427387904) : IntKind.i64.wrap x = x := by
  unfold IntKind.wrap; simp [IntKind.bits, IntKind.signed]; omega
def wordWorld : List UInt8 := [119, 111, 114, 108, 100]
theorem get_str (q : List (List UInt8)) (t : Nat) (x : List UInt8) (h : q[t]? = some x) : (sC q)[t]? = some (.string (str x)) := by
  unfold sC; rw [List.getElem?_map, h]; rfl
theorem cat_str (a b : List UInt8) : bcat (str a) (str b) = str (a ++ b) := by
  unfold bcat str
  simp
theorem siz_str (a : List UInt8) : bsize (str a) = a.length := rfl
theorem cat_lit (l b : List UInt8) : bcat ⟨l.toArray⟩ (str b) = str (l ++ b) := cat_str l b
theorem lit_cat (a l : List UInt8) : bcat (str a) ⟨l.toArray⟩ = str (a ++ l) := cat_str a l
theorem siz_lit (l : List UInt8) : bsize ⟨l.toArray⟩ = l.length := rfl
end Go.Proofs.YthcleiegefhmdaaDoor
namespace Go.Proofs.YthcleiegefhmdaaDoor
open Go.RowKit Abs
def digs : List UInt8 := [48, 49, 50, 51, 52, 53, 54, 55, 56, 57, 97, 98, 99, 100, 101, 102]
def digit (k : Nat) : UInt8 := digs.getD k 0
def hexL (l : List UInt8) : List UInt8 := l.flatMap fun b => [digit (b.toNat / 16), digit (b.toNat % 16)]
def hexV (l : List UInt8) : List UInt8 := if l = [] then [45] else hexL l
theorem digs_at (k : Nat) (hk : k < 16) (i : Int) (hi : i = k) : aIndex Tryd.prog 9 (.string (str digs)) (.int .u8 i) = some (byteV (digit k)) := by
  subst hi
  unfold aIndex
  have hk' : k < (str digs).data.toList.length := hk
  simp only [Tryd.underlying9, if_pos (show (0 : Int) ≤ (k : Int) by omega), Int.toNat_natCast, List.getElem?_eq_getElem hk']
  have hk2 : k < digs.length := hk
  have : digit k = digs[k] := by unfold digit; rw [List.getD_eq_getElem?_getD, List.getElem?_eq_getElem hk2]; rfl
  rw [this]
  rfl
theorem digs_hi (b : UInt8) : aIndex Tryd.prog 9 (.string ⟨#[48, 49, 50, 51, 52, 53, 54, 55, 56, 57, 97, 98, 99, 100, 101, 102]⟩) (.int .u8 ((b.toNat : Int).fdiv (2 ^ min 4 IntKind.u8.bits))) = some (byteV (digit (b.toNat / 16))) := by
  have := b.toNat_lt
  exact digs_at (b.toNat / 16) (by omega) _ (by show (b.toNat : Int).fdiv 16 = _; rw [Int.fdiv_eq_ediv_of_nonneg _ (by decide)]; omega)
theorem low_bits : ∀ n : Fin 256, bits BinOp.and IntKind.u8 (n.val : Int) 15 = ((n.val % 16 : Nat) : Int) := by decide +kernel
theorem digs_lo (b : UInt8) : aIndex Tryd.prog 9 (.string ⟨#[48, 49, 50, 51, 52, 53, 54, 55, 56, 57, 97, 98, 99, 100, 101, 102]⟩) (.int .u8 (bits BinOp.and IntKind.u8 (b.toNat : Int) 15)) = some (byteV (digit (b.toNat % 16))) := by
  have := b.toNat_lt
  exact digs_at (b.toNat % 16) (by omega) _ (low_bits ⟨b.toNat, this⟩)
theorem new_two (x y : Int) : nBuildSlice Tryd.prog 35 2 [(0, .int .u8 x), (1, .int .u8 y)] = some (.cells false 1 [.int .u8 x, .int .u8 y]) := by
  unfold nBuildSlice
  simp only [Tryd.underlying35, inf_u8, u8_size, u8_zero]
  rfl
def zHex := And.intro (And.intro Tryd.underlying9 Tryd.underlying35) (And.intro (Tryd.underlying5) (And.intro Tryd.underlying3 Tryd.underlying4))
set_option maxRecDepth 100000 in
set_option maxHeartbeats 2000000 in
theorem hex_spec (s : ByteArray) (hs : s.size ≤ 1000000) (m : Mem) :
    Abs.Spec Tryd.prog 7 [.string s] m fun u M => u = .string (str (hexV s.data.toList)) ∧ M = m := by
  refine Abs.Spec.walkB Tryd.func7 (by rfl) _ Tryd.results7 _ Tryd.ntmps7 (by simp) m [] (ext_nil m).symm 0 rfl (.inl rfl) ?_
  intro hc _
  refine CW_seq (CW_region ?_)
  simp only [zZ, reduceIte, Nat.reduceLT, Int.reduceToNat, Int.reduceLE, Int.reduceEq, Int.reduceLT, Nat.reduceEqDiff, Nat.reduceAdd, zHex]
  refine CW_seq (CW_seq (CW_region ?_))
  simp only [zZ, reduceIte, Nat.reduceLT, Int.reduceToNat, Int.reduceLE, Int.reduceEq, Int.reduceLT, Nat.reduceEqDiff, Nat.reduceAdd, zHex]
  refine CW_cond (beqB s ⟨#[]⟩) (by rfl) (fun h => CW_seq (CW_region ?_)) (fun h => CW_skip ?_)
  · simp only [zZ, reduceIte, Nat.reduceLT, Int.reduceToNat, Int.reduceLE, Int.reduceEq, Int.reduceLT, Nat.reduceEqDiff, Nat.reduceAdd, zHex]
    refine CW_ret ?_
    simp only [zZ, reduceIte, Nat.reduceLT, Int.reduceToNat, Int.reduceLE, Int.reduceEq, Int.reduceLT, Nat.reduceEqDiff, Nat.reduceAdd, zHex, bEnd, sAnswer, sAnswer.sRes]
    have e : s = ⟨#[]⟩ := by rw [beqB_dec] at h; exact of_decide_eq_true h
    subst e
    exact told_flat rfl rfl
  · simp only [zZ, reduceIte, Nat.reduceLT, Int.reduceToNat, Int.reduceLE, Int.reduceEq, Int.reduceLT, Nat.reduceEqDiff, Nat.reduceAdd]
    refine CW_seq (CW_region ?_)
    simp only [zZ, reduceIte, Nat.reduceLT, Int.reduceToNat, Int.reduceLE, Int.reduceEq, Int.reduceLT, Nat.reduceEqDiff, Nat.reduceAdd, zHex]
    refine CW_seq (CW_seq (CW_region ?_))
    simp only [zZ, reduceIte, Nat.reduceLT, Int.reduceToNat, Int.reduceLE, Int.reduceEq, Int.reduceLT, Nat.reduceEqDiff, Nat.reduceAdd, zHex]
    have hne : s ≠ ⟨#[]⟩ := by rw [beqB_dec] at h; exact of_decide_eq_false h
    have hbs : bsize s = s.size := rfl
    have rb : ∀ (σ : Nat → Option Nat) (q : List UInt8), renL (ren σ 4) (bytesV q) = some (bytesV q) := fun σ q => renL_flat fun x hx => by
      simp only [bytesV, List.mem_map] at hx
      obtain ⟨y, _, rfl⟩ := hx
      rfl
    obtain ⟨L, hL⟩ : ∃ L, L = s.data.toList := ⟨_, rfl⟩
    have hLl : L.length = s.size := by rw [hL]; rfl
    refine CW_block (BW_loop hc (fun n f l => ∃ (t : Nat) (V : Value), t + n = L.length ∧ f = [(0, .string s), (3, V), (8, .int .i64 (L.length : Int)), (9, .int .i64 (t : Int))] ∧
      ((t = 0 ∧ V = .slice none 0 0 ∧ l = []) ∨ (0 < t ∧ V = .slice (some ⟨m.size + 0, 0, none⟩) (2 * t) (2 * t) ∧ l = [some (some (.cells false 1 (bytesV (hexL (L.take t)))))]))) L.length ?_ ?_)
    · refine ⟨_, rfl, [], [0, 3, 8, 9], rfl, ?_⟩
      simp only [zZ, reduceIte, Nat.reduceLT, Int.reduceToNat, Int.reduceLE, Int.reduceEq, Int.reduceLT, Nat.reduceEqDiff, Nat.reduceAdd, zG, hbs, hLl]
      exact ⟨0, _, by omega, rfl, .inl ⟨rfl, rfl⟩⟩
    · rintro n f l ⟨t, V, htn, rfl, hV⟩
      refine CW_seq (CW_region ?_)
      simp only [zZ, reduceIte, Nat.reduceLT, Int.reduceToNat, Int.reduceLE, Int.reduceEq, Int.reduceLT, Nat.reduceEqDiff, Nat.reduceAdd, zHex]
      refine CW_seq (CW_cond (decide ((t : Int) < (L.length : Int))) (by rfl) (fun h => CW_skip ?_) (fun h => CW_exit ?_))
      · simp only [zZ, reduceIte, Nat.reduceLT, Int.reduceToNat, Int.reduceLE, Int.reduceEq, Int.reduceLT, Nat.reduceEqDiff, Nat.reduceAdd]
        have htl : t < L.length := by have := of_decide_eq_true h; omega
        refine CW_seq (CW_block (CW_seq (CW_region ?_)))
        simp only [zZ, reduceIte, Nat.reduceLT, Int.reduceToNat, Int.reduceLE, Int.reduceEq, Int.reduceLT, Nat.reduceEqDiff, Nat.reduceAdd, zHex]
        obtain ⟨b, hb⟩ : ∃ b, L[t]? = some b := ⟨_, List.getElem?_eq_getElem htl⟩
        have hi : aIndex Tryd.prog 9 (.string s) (.int .i64 (t : Int)) = some (byteV b) := by
          rw [index_str s t t rfl (by omega), ← hL, List.getD_eq_getElem?_getD, hb]; rfl
        refine CW_draw hmix 12 (by kernel_rfl) (by kernel_rfl) ?_
        simp only [zZ, reduceIte, Nat.reduceLT, Int.reduceToNat, Int.reduceLE, Int.reduceEq, Int.reduceLT, Nat.reduceEqDiff, Nat.reduceAdd, zHex, hi, byteV, digs_hi, digs_lo, new_two]
        have xi : IntKind.i64.wrap ((t : Int) + 1) = ((t + 1 : Nat) : Int) := by rw [wr (by omega) (by omega)]; omega
        have hx1 : hexL (L.take (t + 1)) = hexL (L.take t) ++ [digit (b.toNat / 16), digit (b.toNat % 16)] := by
          rw [List.take_add_one, hb]; simp [hexL]
        have hx2 : (hexL (L.take t)).length = 2 * t := by
          have : ∀ q : List UInt8, (hexL q).length = 2 * q.length := fun q => by
            induction q with
            | nil => rfl
            | cons x q ih => simp only [hexL, List.flatMap_cons, List.length_append, List.length_cons, List.length_nil] at ih ⊢; omega
          rw [this, List.length_take]; omega
        rcases hV with ⟨rfl, rfl, rfl⟩ | ⟨ht0, rfl, rfl⟩
        · have ha : aAppend Tryd.prog (ext m [some (some (.cells false 1 [.int .u8 (digit (b.toNat / 16)).toNat, .int .u8 (digit (b.toNat % 16)).toNat]))]) 35 35 (.slice none 0 0) (.slice (some ⟨m.size + 0, 0, none⟩) 2 2) =
              some (.slice (some ⟨m.size + 1, 0, none⟩) 2 2, ext m [some (some (.cells false 1 [.int .u8 (digit (b.toNat / 16)).toNat, .int .u8 (digit (b.toNat % 16)).toNat])), some (some (.cells false 1 [.int .u8 (digit (b.toNat / 16)).toNat, .int .u8 (digit (b.toNat % 16)).toNat]))]) :=
            bapp_nil Tryd.underlying35 inf_u8 u8_zero u8_size rfl m _ (src_block Tryd.underlying35 (by rw [ext_get]; rfl) rfl) (by decide) (by rw [u8_bytes]; decide) (by decide)
          simp only [zZ, reduceIte, Nat.reduceLT, Int.reduceToNat, Int.reduceLE, Int.reduceEq, Int.reduceLT, Nat.reduceEqDiff, Nat.reduceAdd, List.nil_append, List.length_nil, ha]
          refine CW_region ?_
          simp only [zZ, reduceIte, Nat.reduceLT, Int.reduceToNat, Int.reduceLE, Int.reduceEq, Int.reduceLT, Nat.reduceEqDiff, Nat.reduceAdd, xi]
          refine ⟨_, rfl, [1], [0, 3, 8, 9], rfl, ?_⟩
          simp only [zZ, reduceIte, Nat.reduceLT, Int.reduceToNat, Int.reduceLE, Int.reduceEq, Int.reduceLT, Nat.reduceEqDiff, Nat.reduceAdd, zG]
          exact ⟨n - 1, ⟨0 + 1, _, by omega, rfl, .inr ⟨by omega, rfl, by rw [hx1]; rfl⟩⟩, by omega⟩
        · have hx3 : bytesV (hexL (L.take t)) ++ [.int .u8 (digit (b.toNat / 16)).toNat, .int .u8 (digit (b.toNat % 16)).toNat] = bytesV (hexL (L.take (t + 1))) := by rw [hx1]; simp [bytesV, byteV]
          have hlb : (bytesV (hexL (L.take t))).length = 2 * t := by simp [bytesV, hx2]
          have ha : aAppend Tryd.prog (ext m [some (some (.cells false 1 (bytesV (hexL (L.take t))))), some (some (.cells false 1 [.int .u8 (digit (b.toNat / 16)).toNat, .int .u8 (digit (b.toNat % 16)).toNat]))]) 35 35 (.slice (some ⟨m.size + 0, 0, none⟩) (2 * t) (2 * t)) (.slice (some ⟨m.size + 1, 0, none⟩) 2 2) =
              some (.slice (some ⟨m.size + 2, 0, none⟩) (2 * t + 2) (2 * t + 2), ext m [some none, some (some (.cells false 1 [.int .u8 (digit (b.toNat / 16)).toNat, .int .u8 (digit (b.toNat % 16)).toNat])), some (some (.cells false 1 (bytesV (hexL (L.take t)) ++ [.int .u8 (digit (b.toNat / 16)).toNat, .int .u8 (digit (b.toNat % 16)).toNat])))]) :=
            bapp Tryd.underlying35 inf_u8 u8_zero u8_size rfl m _ (src_block Tryd.underlying35 (by rw [ext_get]; rfl) rfl) (by decide) rfl (by rw [hlb]; omega) (by rw [u8_bytes]; omega) (by omega)
          rw [hx3] at ha
          simp only [zZ, reduceIte, Nat.reduceLT, Int.reduceToNat, Int.reduceLE, Int.reduceEq, Int.reduceLT, Nat.reduceEqDiff, Nat.reduceAdd, List.cons_append, List.nil_append, List.length_cons, List.length_nil, ha]
          refine CW_region ?_
          simp only [zZ, reduceIte, Nat.reduceLT, Int.reduceToNat, Int.reduceLE, Int.reduceEq, Int.reduceLT, Nat.reduceEqDiff, Nat.reduceAdd, xi]
          refine ⟨_, rfl, [2], [0, 3, 8, 9], rfl, ?_⟩
          simp only [zZ, reduceIte, Nat.reduceLT, Int.reduceToNat, Int.reduceLE, Int.reduceEq, Int.reduceLT, Nat.reduceEqDiff, Nat.reduceAdd, zG, rb]
          exact ⟨n - 1, ⟨t + 1, _, by omega, rfl, .inr ⟨by omega, by congr 1, rfl⟩⟩, by omega⟩
      · have htl : t = L.length := by have := of_decide_eq_false h; omega
        subst htl
        simp only [zZ, reduceIte, Nat.reduceLT, Int.reduceToNat, Int.reduceLE, Int.reduceEq, Int.reduceLT, Nat.reduceEqDiff, Nat.reduceAdd]
        refine CW_seq (CW_region ?_)
        rcases hV with ⟨h0, rfl, rfl⟩ | ⟨ht0, rfl, rfl⟩
        · exact absurd (ByteArray.ext (Array.ext' (by rw [← hL]; exact List.eq_nil_of_length_eq_zero h0))) hne
        · simp only [zZ, reduceIte, Nat.reduceLT, Int.reduceToNat, Int.reduceLE, Int.reduceEq, Int.reduceLT, Nat.reduceEqDiff, Nat.reduceAdd, zHex]
          have hl2 : 2 * L.length = (hexL (L.take L.length)).length := by
            have : ∀ q : List UInt8, (hexL q).length = 2 * q.length := fun q => by
              induction q with
              | nil => rfl
              | cons x q ih => simp only [hexL, List.flatMap_cons, List.length_append, List.length_cons, List.length_nil] at ih ⊢; omega
            rw [this, List.length_take, Nat.min_self]
          rw [to_str (ro := false) (st := 1) (l := hexL (L.take L.length)) (by rw [ext_get]; rfl) hl2]
          simp only [zZ, reduceIte, Nat.reduceLT, Int.reduceToNat, Int.reduceLE, Int.reduceEq, Int.reduceLT, Nat.reduceEqDiff, Nat.reduceAdd]
          refine CW_ret ?_
          simp only [zZ, reduceIte, Nat.reduceLT, Int.reduceToNat, Int.reduceLE, Int.reduceEq, Int.reduceLT, Nat.reduceEqDiff, Nat.reduceAdd, zHex, bEnd, sAnswer, sAnswer.sRes]
          refine told_flat rfl ?_
          rw [List.take_length, ← hL]
          unfold hexV
          rw [if_neg fun e => hne (ByteArray.ext (Array.ext' (by rw [← hL]; exact e)))]
end Go.Proofs.YthcleiegefhmdaaDoor
namespace Go.Proofs.YthcleiegefhmdaaDoor
open Go.RowKit Abs
def numP (l : List UInt8) (least most : Int) : Int × Bool := match Lib.atoiAll l with
  | .ok v => (v, decide (Lib.itoa v = l) && decide (least ≤ v) && decide (v ≤ most))
  | Lib.NumEnd.syntax => (0, false)
  | .range => (Lib.atoiSat l, false)
theorem atoi_fits {l : List UInt8} {v : Int} (h : Lib.atoiAll l = .ok v) : -9223372036854775808 ≤ v ∧ v ≤ 9223372036854775807 := by
  unfold Lib.atoiAll at h
  split at h
  · cases h
  · simp only at h
    split at h <;> first | (cases h; done) | skip
    split at h
    · cases h
    · split at h
      · cases h
      · injection h with h
        subst h
        split <;> omega
theorem eq_nil : aBin Tryd.prog .eql 64 true .nilIface .nilIface = some (.bool true) := by kernel_rfl
theorem eq_err : aBin Tryd.prog .eql 64 true errV .nilIface = some (.bool false) := by kernel_rfl
def zNum := And.intro (And.intro (Tryd.underlying9) (And.intro Tryd.underlying5 Tryd.underlying3)) (And.intro (And.intro Tryd.underlying4 Tryd.underlying64) (And.intro @eq_nil @eq_err))
set_option maxRecDepth 100000 in
set_option maxHeartbeats 2000000 in
theorem number_spec (s : ByteArray) (least most : Int) (hs : s.size ≤ 1000000) (m : Mem) :
    Abs.Spec Tryd.prog 49 [.string s, .int .i64 least, .int .i64 most] m fun u M => u = .tuple #[.int .i64 (numP s.data.toList least most).1, .bool (numP s.data.toList least most).2] ∧ M = m := by
  refine Abs.Spec.walkB Tryd.func49 (by rfl) _ Tryd.results49 _ Tryd.ntmps49 (by simp) m [] (ext_nil m).symm 0 rfl (.inl rfl) ?_
  intro hc _
  obtain ⟨R, hR⟩ : ∃ R, R = numP s.data.toList least most := ⟨_, rfl⟩
  rw [← hR]
  refine CW_seq (CW_region ?_)
  simp only [zZ, reduceIte, Nat.reduceLT, Int.reduceToNat, Int.reduceLE, Int.reduceEq, Int.reduceLT, Nat.reduceEqDiff, Nat.reduceAdd, zNum]
  refine CW_seq (CW_region ?_)
  simp only [zZ, reduceIte, Nat.reduceLT, Int.reduceToNat, Int.reduceLE, Int.reduceEq, Int.reduceLT, Nat.reduceEqDiff, Nat.reduceAdd, zNum]
  refine ⟨by kernel_rfl, _, atoi_spec s (by omega) _, ?_⟩
  rintro _ _ ⟨rfl, rfl⟩
  rcases h : Lib.atoiAll s.data.toList with v | _ | _
  · skip
    have hR' : R = (v, decide (Lib.itoa v = s.data.toList) && decide (least ≤ v) && decide (v ≤ most)) := by rw [hR]; unfold numP; rw [h]
    obtain ⟨h0, h1⟩ := atoi_fits h
    have e : atoiV s.data.toList = .tuple #[.int .i64 v, .nilIface] := by unfold atoiV; rw [h]
    rw [e]
    simp only [zZ, reduceIte, Nat.reduceLT, Int.reduceToNat, Int.reduceLE, Int.reduceEq, Int.reduceLT, Nat.reduceEqDiff, Nat.reduceAdd, zNum]
    refine CW_seq (CW_region ?_)
    simp only [zZ, reduceIte, Nat.reduceLT, Int.reduceToNat, Int.reduceLE, Int.reduceEq, Int.reduceLT, Nat.reduceEqDiff, Nat.reduceAdd, zNum]
    refine ⟨by kernel_rfl, _, itoa_spec v h0 h1 _, ?_⟩
    rintro _ _ ⟨rfl, rfl⟩
    have hb' : beqB (str (Lib.itoa v)) s = decide (Lib.itoa v = s.data.toList) := by
      rw [beqB_dec, decide_eq_decide]
      exact ⟨fun e => by rw [← e]; rfl, fun e => by rw [e]; rfl⟩
    rw [← hb'] at hR'
    cases hb : beqB (str (Lib.itoa v)) s <;> cases hl : decide (least ≤ v) <;> rw [hb, hl] at hR' <;> simp only [zZ, reduceIte, Nat.reduceLT, Int.reduceToNat, Int.reduceLE, Int.reduceEq, Int.reduceLT, Nat.reduceEqDiff, Nat.reduceAdd, zNum, hb, hl]
    all_goals
      refine CW_ret ?_
      simp only [zZ, reduceIte, Nat.reduceLT, Int.reduceToNat, Int.reduceLE, Int.reduceEq, Int.reduceLT, Nat.reduceEqDiff, Nat.reduceAdd, zNum, bEnd, sAnswer, sAnswer.sRes]
      exact told_flat rfl (by rw [hR']; rfl)
  · skip
    have e : atoiV s.data.toList = .tuple #[.int .i64 0, errV] := by unfold atoiV; rw [h]
    rw [e]
    simp only [zZ, reduceIte, Nat.reduceLT, Int.reduceToNat, Int.reduceLE, Int.reduceEq, Int.reduceLT, Nat.reduceEqDiff, Nat.reduceAdd, zNum]
    refine CW_seq (CW_region ?_)
    simp only [zZ, reduceIte, Nat.reduceLT, Int.reduceToNat, Int.reduceLE, Int.reduceEq, Int.reduceLT, Nat.reduceEqDiff, Nat.reduceAdd, zNum]
    refine CW_ret ?_
    simp only [zZ, reduceIte, Nat.reduceLT, Int.reduceToNat, Int.reduceLE, Int.reduceEq, Int.reduceLT, Nat.reduceEqDiff, Nat.reduceAdd, zNum, bEnd, sAnswer, sAnswer.sRes]
    exact told_flat rfl (by rw [hR]; unfold numP; rw [h])
  · skip
    have e : atoiV s.data.toList = .tuple #[.int .i64 (Lib.atoiSat s.data.toList), errV] := by unfold atoiV; rw [h]
    rw [e]
    simp only [zZ, reduceIte, Nat.reduceLT, Int.reduceToNat, Int.reduceLE, Int.reduceEq, Int.reduceLT, Nat.reduceEqDiff, Nat.reduceAdd, zNum]
    refine CW_seq (CW_region ?_)
    simp only [zZ, reduceIte, Nat.reduceLT, Int.reduceToNat, Int.reduceLE, Int.reduceEq, Int.reduceLT, Nat.reduceEqDiff, Nat.reduceAdd, zNum]
    refine CW_ret ?_
    simp only [zZ, reduceIte, Nat.reduceLT, Int.reduceToNat, Int.reduceLE, Int.reduceEq, Int.reduceLT, Nat.reduceEqDiff, Nat.reduceAdd, zNum, bEnd, sAnswer, sAnswer.sRes]
    exact told_flat rfl (by rw [hR]; unfold numP; rw [h])
end Go.Proofs.YthcleiegefhmdaaDoor
namespace Go.Proofs.YthcleiegefhmdaaDoor
open Go.RowKit Abs
def numsV : List (List UInt8) → List (Int × Int) → Option (List Int)
  | [], [] => some []
  | w :: r, b :: bs => if (numP w b.1 b.2).2 = true then (numsV r bs).map ((numP w b.1 b.2).1 :: ·) else none
  | _, _ => none
theorem numsV_len : ∀ (ws : List (List UInt8)) (bs : List (Int × Int)), ws.length ≠ bs.length → numsV ws bs = none
  | [], [], h => absurd rfl h
  | [], _ :: _, _ => rfl
  | _ :: _, [], _ => rfl
  | w :: r, b :: bs, h => by
    rw [numsV, numsV_len r bs (fun e => h (by simp [e]))]
    simp
def iC (l : List Int) : List Value := l.map fun x => .int .i64 x
def numsR (m : Mem) (k : Nat) (R : Option (List Int)) (u : Value) (M : Mem) : Prop := match R with
  | none => u = .tuple #[.slice none 0 0, .bool false] ∧ M = m
  | some q => u = .tuple #[.slice (some ⟨m.size, 0, none⟩) k k, .bool true] ∧ M = ext m [some (some (.cells false 1 (iC q)))]
def bC (b : Int × Int) : List Value := [.int .i64 b.1, .int .i64 b.2]
theorem iC_flat (q : List Int) (σ : Nat → Option Nat) : renL (ren σ 4) (iC q) = some (iC q) := renL_flat fun x hx => by
  simp only [iC, List.mem_map] at hx
  obtain ⟨y, _, rfl⟩ := hx
  rfl
theorem Int_zero : Tryd.t3.zero = some (.int .i64 0) := rfl
theorem Int_bytes : Tryd.t3.bytes = 8 := rfl
theorem new_int1 (x : Int) : nBuildSlice Tryd.prog 77 1 [(0, .int .i64 x)] = some (.cells false 1 [.int .i64 x]) := by
  unfold nBuildSlice
  simp only [Tryd.underlying77, inf_Int, sz_Int, Int_zero]
  rfl
theorem iapp (m : Mem) (l : List (Option (Option Blk))) (k j : Nat) (q : List Int) (p : Int) (hs : nth l k = some (some (.cells false 1 [.int .i64 p]))) (hj : nth l j = some (some (.cells false 1 (iC q)))) (hq : q.length ≤ 1000000) :
    aAppend Tryd.prog (ext m l) 77 77 (.slice (some ⟨m.size + j, 0, none⟩) q.length q.length) (.slice (some ⟨m.size + k, 0, none⟩) 1 1) =
      some (.slice (some ⟨m.size + l.length, 0, none⟩) (q.length + 1) (q.length + 1), ext m (l.set j (some none) ++ [some (some (.cells false 1 (iC (q ++ [p]))))])) := by
  have h := bapp (N := 1) (n := q.length) (k := 1) (cs := iC q) Tryd.underlying77 inf_Int Int_zero sz_Int rfl m l (src_block (c := 1) (news := [.int .i64 p]) (ro := false) (s := 1) Tryd.underlying77 (by rw [ext_get, hs]) rfl) (by decide) hj (by simp [iC]) (by rw [Int_bytes]; omega) (by omega)
  rw [h]
  simp [iC]
theorem iapp_nil (m : Mem) (l : List (Option (Option Blk))) (k : Nat) (p : Int) (hs : nth l k = some (some (.cells false 1 [.int .i64 p]))) :
    aAppend Tryd.prog (ext m l) 77 77 (.slice none 0 0) (.slice (some ⟨m.size + k, 0, none⟩) 1 1) =
      some (.slice (some ⟨m.size + l.length, 0, none⟩) 1 1, ext m (l ++ [some (some (.cells false 1 (iC [p])))])) :=
  bapp_nil (N := 1) (k := 1) (news := [.int .i64 p]) Tryd.underlying77 inf_Int Int_zero sz_Int rfl m l (src_block (c := 1) (news := [.int .i64 p]) (ro := false) (s := 1) Tryd.underlying77 (by rw [ext_get, hs]) rfl) (by decide) (by rw [Int_bytes]; decide) (by decide)
set_option maxRecDepth 100000 in
set_option maxHeartbeats 2000000 in
theorem numbers_spec (ws : List (List UInt8)) (bs : List (Int × Int)) (g o n c gb k : Nat) (ro rb : Bool) (all : List Value) (m : Mem) (hg : m.get g = some (.cells ro 1 all)) (ha : ∀ i w, ws[i]? = some w → all[o + i]? = some (.string (str w)))
    (hn : ws.length = n) (hb : m.get gb = some (.cells rb 2 (bs.flatMap bC))) (hk : bs.length = k) (hk0 : 0 < k) (hk1 : k ≤ 1000000) (hs : ∀ w ∈ ws, w.length ≤ 1000000) :
    Abs.Spec Tryd.prog 35 [.slice (some ⟨g, o, none⟩) n c, .slice (some ⟨gb, 0, none⟩) k k] m (numsR m k (numsV ws bs)) := by
  refine Abs.Spec.walkB Tryd.func35 (by rfl) _ Tryd.results35 _ Tryd.ntmps35 (by simp) m [] (ext_nil m).symm 0 rfl (.inl rfl) ?_
  intro hc hx
  replace hx := hx rfl
  obtain ⟨R, hR⟩ : ∃ R, R = numsV ws bs := ⟨_, rfl⟩
  rw [← hR]
  have sg : ∀ keep, sig m.size keep g = some g := fun keep => sig_old keep (Mem.get_lt hg)
  have sb : ∀ keep, sig m.size keep gb = some gb := fun keep => sig_old keep (Mem.get_lt hb)
  have fw : ∀ keep j, ren (sig m.size keep) j (.slice (some ⟨g, o, none⟩) n c) = some (.slice (some ⟨g, o, none⟩) n c) := Cl.fix (hx _ (by simp))
  have hgl : ∀ l, (ext m l).get g = some (.cells ro 1 all) := fun l => ext_get_old l hg
  have hbl : ∀ l, (ext m l).get gb = some (.cells rb 2 (bs.flatMap bC)) := fun l => ext_get_old l hb
  have hal := al_Two
  generalize aStride Tryd.prog 80 = s1 at hal
  have none_told : ∀ L, R = none → ToldB m 0 (.tuple #[.slice none 0 0, .bool false]) (ext m L) (numsR m k R) := fun L h => by rw [h]; exact told_flat rfl rfl
  refine CW_seq (CW_region ?_)
  simp only [zZ, reduceIte, Nat.reduceLT, Int.reduceToNat, Int.reduceLE, Int.reduceEq, Int.reduceLT, Nat.reduceEqDiff, Nat.reduceAdd, zTy]
  refine CW_seq (CW_seq (CW_region ?_))
  simp only [zZ, reduceIte, Nat.reduceLT, Int.reduceToNat, Int.reduceLE, Int.reduceEq, Int.reduceLT, Nat.reduceEqDiff, Nat.reduceAdd, zTy]
  refine CW_cond ((n : Int) != (k : Int)) (by rfl) (fun h => CW_seq (CW_region ?_)) (fun h => CW_skip ?_)
  · simp only [zZ, reduceIte, Nat.reduceLT, Int.reduceToNat, Int.reduceLE, Int.reduceEq, Int.reduceLT, Nat.reduceEqDiff, Nat.reduceAdd, zTy]
    refine CW_ret ?_
    simp only [zZ, reduceIte, Nat.reduceLT, Int.reduceToNat, Int.reduceLE, Int.reduceEq, Int.reduceLT, Nat.reduceEqDiff, Nat.reduceAdd, zTy, bEnd, sAnswer, sAnswer.sRes]
    refine none_told _ (by rw [hR, numsV_len]; rw [bne_iff_ne] at h; omega)
  have hnk : n = k := by rw [bne_eq_false_iff_eq] at h; omega
  subst hnk
  simp only [zZ, reduceIte, Nat.reduceLT, Int.reduceToNat, Int.reduceLE, Int.reduceEq, Int.reduceLT, Nat.reduceEqDiff, Nat.reduceAdd]
  refine CW_seq (CW_region ?_)
  simp only [zZ, reduceIte, Nat.reduceLT, Int.reduceToNat, Int.reduceLE, Int.reduceEq, Int.reduceLT, Nat.reduceEqDiff, Nat.reduceAdd, zTy]
  refine CW_seq (CW_seq (CW_region ?_))
  simp only [zZ, reduceIte, Nat.reduceLT, Int.reduceToNat, Int.reduceLE, Int.reduceEq, Int.reduceLT, Nat.reduceEqDiff, Nat.reduceAdd, zTy]
  refine CW_block (BW_loop hc (fun j f l => ∃ (t : Nat) (q : List Int) (V : Value), t + j = n ∧ q.length = t ∧ R = (numsV (ws.drop t) (bs.drop t)).map (q ++ ·) ∧
    f = [(0, .slice (some ⟨g, o, none⟩) n c), (6, V), (16, .slice (some ⟨gb, 0, none⟩) n n), (17, .int .i64 (n : Nat)), (18, .int .i64 (t : Nat))] ∧
    ((q = [] ∧ t = 0 ∧ V = .slice none 0 0 ∧ l = []) ∨ (q ≠ [] ∧ V = .slice (some ⟨m.size + 0, 0, none⟩) q.length q.length ∧ l = [some (some (.cells false 1 (iC q)))]))) n ?_ ?_)
  · refine ⟨_, rfl, [], [0, 6, 16, 17, 18], rfl, ?_⟩
    simp only [zZ, reduceIte, Nat.reduceLT, Int.reduceToNat, Int.reduceLE, Int.reduceEq, Int.reduceLT, Nat.reduceEqDiff, Nat.reduceAdd, zG, fw, sb]
    exact ⟨0, [], _, by omega, rfl, by rw [hR]; simp, rfl, .inl ⟨rfl, rfl, rfl⟩⟩
  · rintro j f l ⟨t, q, V, htn, hqt, hun, rfl, hV⟩
    refine CW_seq (CW_region ?_)
    simp only [zZ, reduceIte, Nat.reduceLT, Int.reduceToNat, Int.reduceLE, Int.reduceEq, Int.reduceLT, Nat.reduceEqDiff, Nat.reduceAdd, zTy]
    refine CW_seq (CW_cond (decide ((t : Int) < (n : Int))) (by rfl) (fun h => CW_skip ?_) (fun h => CW_exit ?_))
    · simp only [zZ, reduceIte, Nat.reduceLT, Int.reduceToNat, Int.reduceLE, Int.reduceEq, Int.reduceLT, Nat.reduceEqDiff, Nat.reduceAdd]
      have htl : t < n := by have := of_decide_eq_true h; omega
      have h0 : (0 : Int) ≤ (t : Int) := by omega
      have h1 : (t : Int) < (n : Int) := by omega
      obtain ⟨w, hw⟩ : ∃ w, ws[t]? = some w := ⟨_, List.getElem?_eq_getElem (by omega)⟩
      obtain ⟨b, hb⟩ : ∃ b, bs[t]? = some b := ⟨_, List.getElem?_eq_getElem (by omega)⟩
      have aw := ha t w hw
      have hws := hs w (List.mem_of_getElem? hw)
      have hrow : rowIn 2 (t * 2) (some (.cells rb 2 (bs.flatMap bC))) = some (.agg #[.int .i64 b.1, .int .i64 b.2]) := rowIn_at (n := 2) (fun a _ => rfl) hb rb 2
      have dw : ws.drop t = w :: ws.drop (t + 1) := by
        rw [List.drop_eq_getElem_cons (show t < ws.length by omega), (List.getElem?_eq_some_iff.1 hw).2]
      have db : bs.drop t = b :: bs.drop (t + 1) := by
        rw [List.drop_eq_getElem_cons (show t < bs.length by omega), (List.getElem?_eq_some_iff.1 hb).2]
      rw [dw, db, numsV] at hun
      have xi : IntKind.i64.wrap ((t : Int) + 1) = ((t + 1 : Nat) : Int) := by rw [wr (by omega) (by omega)]; omega
      refine CW_seq (CW_block (CW_seq (CW_region ?_)))
      rcases hV with ⟨rfl, rfl, rfl, rfl⟩ | ⟨hq0, rfl, rfl⟩
      · simp only [zZ, reduceIte, Nat.reduceLT, Int.reduceToNat, Int.reduceLE, Int.reduceEq, Int.reduceLT, Nat.reduceEqDiff, Nat.reduceAdd, zTy, h0, h1, and_self, hbl, hrow, hal]
        refine CW_seq (CW_draw hmix 13 (by kernel_rfl) (by kernel_rfl) ?_)
        simp only [zZ, reduceIte, Nat.reduceLT, Int.reduceToNat, Int.reduceLE, Int.reduceEq, Int.reduceLT, Nat.reduceEqDiff, Nat.reduceAdd, zTy, h0, h1, and_self, hgl, aw]
        refine ⟨by decide, by decide, by kernel_rfl, _, number_spec (str w) b.1 b.2 (by rw [Go.Proofs.YthcleiegefhmdaaDoor.str_size]; omega) _, ?_⟩
        simp only [zZ, reduceIte, Nat.reduceLT, Int.reduceToNat, Int.reduceLE, Int.reduceEq, Int.reduceLT, Nat.reduceEqDiff, Nat.reduceAdd, zTy, str_data]
        rcases hxk : numP w b.1 b.2 with ⟨x, ok⟩
        rw [hxk] at hun
        cases ok
        case' false =>
          simp only [zZ, reduceIte, Nat.reduceLT, Int.reduceToNat, Int.reduceLE, Int.reduceEq, Int.reduceLT, Nat.reduceEqDiff, Nat.reduceAdd, zTy]
          refine CW_seq (CW_seq (CW_region ?_))
          simp only [zZ, reduceIte, Nat.reduceLT, Int.reduceToNat, Int.reduceLE, Int.reduceEq, Int.reduceLT, Nat.reduceEqDiff, Nat.reduceAdd, zTy]
          refine CW_cond true (by rfl) (fun _ => CW_seq (CW_region ?_)) (fun h => by cases h)
          simp only [zZ, reduceIte, Nat.reduceLT, Int.reduceToNat, Int.reduceLE, Int.reduceEq, Int.reduceLT, Nat.reduceEqDiff, Nat.reduceAdd, zTy]
          refine CW_ret ?_
          simp only [zZ, reduceIte, Nat.reduceLT, Int.reduceToNat, Int.reduceLE, Int.reduceEq, Int.reduceLT, Nat.reduceEqDiff, Nat.reduceAdd, zTy, bEnd, sAnswer, sAnswer.sRes]
          exact none_told _ (by rw [hun]; rfl)
        simp only [zZ, reduceIte, Nat.reduceLT, Int.reduceToNat, Int.reduceLE, Int.reduceEq, Int.reduceLT, Nat.reduceEqDiff, Nat.reduceAdd, zTy]
        refine CW_seq (CW_seq (CW_region ?_))
        simp only [zZ, reduceIte, Nat.reduceLT, Int.reduceToNat, Int.reduceLE, Int.reduceEq, Int.reduceLT, Nat.reduceEqDiff, Nat.reduceAdd, zTy]
        refine CW_cond false (by rfl) (fun h => by cases h) (fun _ => CW_skip ?_)
        have hal2 := iapp_nil m [some (some (.cells false s1 [.int .i64 b.1, .int .i64 b.2])), some (some (.cells false 1 [.int .i64 x]))] 1 x rfl
        simp only [zZ, reduceIte, Nat.reduceLT, Int.reduceToNat, Int.reduceLE, Int.reduceEq, Int.reduceLT, Nat.reduceEqDiff, Nat.reduceAdd]
        refine CW_region ?_
        simp only [zZ, reduceIte, Nat.reduceLT, Int.reduceToNat, Int.reduceLE, Int.reduceEq, Int.reduceLT, Nat.reduceEqDiff, Nat.reduceAdd, zTy, new_int1, List.cons_append, List.nil_append, List.length_nil, List.length_cons, hal2]
        refine CW_region ?_
        simp only [zZ, reduceIte, Nat.reduceLT, Int.reduceToNat, Int.reduceLE, Int.reduceEq, Int.reduceLT, Nat.reduceEqDiff, Nat.reduceAdd, zTy, xi]
        refine ⟨_, rfl, [2], [0, 6, 16, 17, 18], rfl, ?_⟩
        simp only [zZ, reduceIte, Nat.reduceLT, Int.reduceToNat, Int.reduceLE, Int.reduceEq, Int.reduceLT, Nat.reduceEqDiff, Nat.reduceAdd, zG, fw, sb, iC_flat]
        exact ⟨j - 1, ⟨0 + 1, [x], _, by omega, rfl, by rw [hun]; cases numsV (ws.drop (0 + 1)) (bs.drop (0 + 1)) <;> simp, rfl, .inr ⟨by simp, rfl, rfl⟩⟩, by omega⟩
      · simp only [zZ, reduceIte, Nat.reduceLT, Int.reduceToNat, Int.reduceLE, Int.reduceEq, Int.reduceLT, Nat.reduceEqDiff, Nat.reduceAdd, zTy, h0, h1, and_self, hbl, hrow, hal]
        refine CW_seq (CW_draw hmix 13 (by kernel_rfl) (by kernel_rfl) ?_)
        simp only [zZ, reduceIte, Nat.reduceLT, Int.reduceToNat, Int.reduceLE, Int.reduceEq, Int.reduceLT, Nat.reduceEqDiff, Nat.reduceAdd, zTy, h0, h1, and_self, hgl, aw]
        refine ⟨by decide, by decide, by kernel_rfl, _, number_spec (str w) b.1 b.2 (by rw [Go.Proofs.YthcleiegefhmdaaDoor.str_size]; omega) _, ?_⟩
        simp only [zZ, reduceIte, Nat.reduceLT, Int.reduceToNat, Int.reduceLE, Int.reduceEq, Int.reduceLT, Nat.reduceEqDiff, Nat.reduceAdd, zTy, str_data]
        rcases hxk : numP w b.1 b.2 with ⟨x, ok⟩
        rw [hxk] at hun
        cases ok
        case' false =>
          simp only [zZ, reduceIte, Nat.reduceLT, Int.reduceToNat, Int.reduceLE, Int.reduceEq, Int.reduceLT, Nat.reduceEqDiff, Nat.reduceAdd, zTy]
          refine CW_seq (CW_seq (CW_region ?_))
          simp only [zZ, reduceIte, Nat.reduceLT, Int.reduceToNat, Int.reduceLE, Int.reduceEq, Int.reduceLT, Nat.reduceEqDiff, Nat.reduceAdd, zTy]
          refine CW_cond true (by rfl) (fun _ => CW_seq (CW_region ?_)) (fun h => by cases h)
          simp only [zZ, reduceIte, Nat.reduceLT, Int.reduceToNat, Int.reduceLE, Int.reduceEq, Int.reduceLT, Nat.reduceEqDiff, Nat.reduceAdd, zTy]
          refine CW_ret ?_
          simp only [zZ, reduceIte, Nat.reduceLT, Int.reduceToNat, Int.reduceLE, Int.reduceEq, Int.reduceLT, Nat.reduceEqDiff, Nat.reduceAdd, zTy, bEnd, sAnswer, sAnswer.sRes]
          exact none_told _ (by rw [hun]; rfl)
        simp only [zZ, reduceIte, Nat.reduceLT, Int.reduceToNat, Int.reduceLE, Int.reduceEq, Int.reduceLT, Nat.reduceEqDiff, Nat.reduceAdd, zTy]
        refine CW_seq (CW_seq (CW_region ?_))
        simp only [zZ, reduceIte, Nat.reduceLT, Int.reduceToNat, Int.reduceLE, Int.reduceEq, Int.reduceLT, Nat.reduceEqDiff, Nat.reduceAdd, zTy]
        refine CW_cond false (by rfl) (fun h => by cases h) (fun _ => CW_skip ?_)
        have hal2 := iapp m [some (some (.cells false 1 (iC q))), some (some (.cells false s1 [.int .i64 b.1, .int .i64 b.2])), some (some (.cells false 1 [.int .i64 x]))] 2 0 q x rfl rfl (by omega)
        simp only [zZ, reduceIte, Nat.reduceLT, Int.reduceToNat, Int.reduceLE, Int.reduceEq, Int.reduceLT, Nat.reduceEqDiff, Nat.reduceAdd]
        refine CW_region ?_
        simp only [zZ, reduceIte, Nat.reduceLT, Int.reduceToNat, Int.reduceLE, Int.reduceEq, Int.reduceLT, Nat.reduceEqDiff, Nat.reduceAdd, zTy, new_int1, List.cons_append, List.nil_append, List.length_nil, List.length_cons, hal2]
        refine CW_region ?_
        simp only [zZ, reduceIte, Nat.reduceLT, Int.reduceToNat, Int.reduceLE, Int.reduceEq, Int.reduceLT, Nat.reduceEqDiff, Nat.reduceAdd, zTy, xi]
        refine ⟨_, rfl, [3], [0, 6, 16, 17, 18], rfl, ?_⟩
        simp only [zZ, reduceIte, Nat.reduceLT, Int.reduceToNat, Int.reduceLE, Int.reduceEq, Int.reduceLT, Nat.reduceEqDiff, Nat.reduceAdd, zG, fw, sb, iC_flat]
        exact ⟨j - 1, ⟨t + 1, q ++ [x], _, by omega, by simp; omega, by rw [hun]; cases numsV (ws.drop (t + 1)) (bs.drop (t + 1)) <;> simp, rfl, .inr ⟨by simp, by simp, rfl⟩⟩, by omega⟩
    · simp only [zZ, reduceIte, Nat.reduceLT, Int.reduceToNat, Int.reduceLE, Int.reduceEq, Int.reduceLT, Nat.reduceEqDiff, Nat.reduceAdd]
      have htl : t = n := by have := of_decide_eq_false h; omega
      have e1 : ws.drop t = [] := List.drop_eq_nil_of_le (by omega)
      have e2 : bs.drop t = [] := List.drop_eq_nil_of_le (by omega)
      rw [e1, e2, numsV] at hun
      have hun : R = some q := by rw [hun]; simp
      refine CW_seq (CW_region ?_)
      rcases hV with ⟨rfl, h0, rfl, rfl⟩ | ⟨hq0, rfl, rfl⟩
      · omega
      · simp only [zZ, reduceIte, Nat.reduceLT, Int.reduceToNat, Int.reduceLE, Int.reduceEq, Int.reduceLT, Nat.reduceEqDiff, Nat.reduceAdd, zTy]
        refine CW_ret ?_
        simp only [zZ, reduceIte, Nat.reduceLT, Int.reduceToNat, Int.reduceLE, Int.reduceEq, Int.reduceLT, Nat.reduceEqDiff, Nat.reduceAdd, zTy, bEnd, sAnswer, sAnswer.sRes]
        rw [hun]
        refine ⟨_, rfl, [0], rfl, ?_⟩
        simp only [zZ, reduceIte, Nat.reduceLT, Int.reduceToNat, Int.reduceLE, Int.reduceEq, Int.reduceLT, Nat.reduceEqDiff, Nat.reduceAdd, zG, iC_flat]
        exact ⟨by rw [hqt, htl]; rfl, rfl⟩
end Go.Proofs.YthcleiegefhmdaaDoor
namespace Go.Proofs.YthcleiegefhmdaaDoor
open Go.RowKit Abs
abbrev FileL := List UInt8 × List UInt8
def fileC (f : FileL) : List Value := [.string (str f.1), .string (str f.2)]
theorem fileC_len (f : FileL) : (fileC f).length = 2 := rfl
def clashV1 (a b : FileL) : Bool := decide (a.1 = b.1) || underV b.1 a.1
set_option maxRecDepth 100000 in
set_option maxHeartbeats 2000000 in
theorem clash_spec (a b : FileL) (m : Mem) :
    Abs.Spec Tryd.prog 61 [.agg (fileC a).toArray, .agg (fileC b).toArray] m fun u M => u = .bool (clashV1 a b) ∧ M = m := by
  refine Abs.Spec.walkB Tryd.func61 (by rfl) _ Tryd.results61 _ Tryd.ntmps61 (by simp) m [] (ext_nil m).symm 0 rfl (.inl rfl) ?_
  intro hc _
  have hb : ∀ f : FileL, nBox Tryd.prog 43 (.agg (fileC f).toArray) = some (.cells false (aStride Tryd.prog 43) [.string (str f.1), .string (str f.2)]) := fun f => bx_File _ rfl
  generalize aStride Tryd.prog 43 = s1 at hb
  refine CW_seq (CW_region ?_)
  simp only [zZ, reduceIte, Nat.reduceLT, Int.reduceToNat, Int.reduceLE, Int.reduceEq, Int.reduceLT, Nat.reduceEqDiff, Nat.reduceAdd, zTy, hb]
  refine CW_seq (CW_region ?_)
  cases c1 : decide (a.1 = b.1)
  · simp only [zZ, reduceIte, Nat.reduceLT, Int.reduceToNat, Int.reduceLE, Int.reduceEq, Int.reduceLT, Nat.reduceEqDiff, Nat.reduceAdd, zTy, cellIn, List.getElem?_cons_zero, beqB_str, c1]
    refine ⟨by kernel_rfl, _, under_spec b.1 a.1 _, ?_⟩
    rintro _ _ ⟨rfl, rfl⟩
    simp only [zZ, reduceIte, Nat.reduceLT, Int.reduceToNat, Int.reduceLE, Int.reduceEq, Int.reduceLT, Nat.reduceEqDiff, Nat.reduceAdd, zTy]
    refine CW_ret ?_
    simp only [zZ, reduceIte, Nat.reduceLT, Int.reduceToNat, Int.reduceLE, Int.reduceEq, Int.reduceLT, Nat.reduceEqDiff, Nat.reduceAdd, zTy, bEnd, sAnswer, sAnswer.sRes]
    exact told_flat rfl (by unfold clashV1; rw [c1]; rfl)
  · simp only [zZ, reduceIte, Nat.reduceLT, Int.reduceToNat, Int.reduceLE, Int.reduceEq, Int.reduceLT, Nat.reduceEqDiff, Nat.reduceAdd, zTy, cellIn, List.getElem?_cons_zero, beqB_str, c1]
    refine CW_ret ?_
    simp only [zZ, reduceIte, Nat.reduceLT, Int.reduceToNat, Int.reduceLE, Int.reduceEq, Int.reduceLT, Nat.reduceEqDiff, Nat.reduceAdd, zTy, bEnd, sAnswer, sAnswer.sRes]
    exact told_flat rfl (by unfold clashV1; rw [c1]; rfl)
end Go.Proofs.YthcleiegefhmdaaDoor
namespace Go.Proofs.YthcleiegefhmdaaDoor
open Go.RowKit Abs
def pathV (p : List UInt8) : Int := if p = [] ∨ 4096 < p.length ∨ 0 ∈ p ∨ (pieces 47 p []).any (fun s => decide (s = []) || decide (s = [46]) || decide (s = [46, 46])) = true then 5 else 0
def PathOk : Prop := ∀ (p : List UInt8) (m : Mem), p.length ≤ 1000000 → Abs.Spec Tryd.prog 60 [.string (str p)] m fun u M => u = .int .i64 (pathV p) ∧ M = m
def firstBad : List FileL → Option Int
  | [] => none
  | f :: r => if pathV f.1 ≠ 0 then some (pathV f.1) else if 1048576 < f.2.length then some 3 else firstBad r
def clashes : List FileL → Bool
  | [] => false
  | a :: r => r.any (fun b => clashV1 a b || clashV1 b a) || clashes r
def checkV (l : List FileL) : Int := if 64 < l.length then 3 else match firstBad l with
  | some e => e
  | none => if clashes l then 6 else 0
theorem drop_get {α : Type} {l : List α} {t : Nat} {a : α} (h : l[t]? = some a) : l.drop t = a :: l.drop (t + 1) := by
  obtain ⟨h1, h2⟩ := List.getElem?_eq_some_iff.1 h
  rw [List.drop_eq_getElem_cons h1, h2]
set_option maxRecDepth 100000 in
set_option maxHeartbeats 2000000 in
theorem fcheck_spec (hp : PathOk) (files : List FileL) (a : Option Addr) (cap : Nat) (m : Mem) (hF : Rd m 2 (.slice a files.length cap) files.length (files.flatMap fileC)) (hs : ∀ f ∈ files, f.1.length ≤ 1000000) (hl : files.length ≤ 1000000) :
    Abs.Spec Tryd.prog 48 [.slice a files.length cap] m fun u M => u = .int .i64 (checkV files) ∧ M = m := by
  obtain ⟨R, hR⟩ : ∃ R, R = checkV files := ⟨_, rfl⟩
  rw [← hR]
  refine Abs.Spec.walkB Tryd.func48 (by rfl) _ Tryd.results48 _ Tryd.ntmps48 (by simp) m [] (ext_nil m).symm 0 rfl (.inl rfl) ?_
  intro hc hx
  replace hx := hx rfl
  have fp : ∀ keep j, ren (sig m.size keep) j (.slice a files.length cap) = some (.slice a files.length cap) := Cl.fix (hx _ (by simp))
  have hal : nAlloc Tryd.prog 43 = some (.cells false (aStride Tryd.prog 43) [.string ⟨#[]⟩, .string ⟨#[]⟩]) := al_File
  generalize aStride Tryd.prog 43 = s1 at hal
  refine CW_seq (CW_region ?_)
  simp only [zZ, reduceIte, Nat.reduceLT, Int.reduceToNat, Int.reduceLE, Int.reduceEq, Int.reduceLT, Nat.reduceEqDiff, Nat.reduceAdd, zTy]
  refine CW_seq (CW_seq (CW_region ?_))
  simp only [zZ, reduceIte, Nat.reduceLT, Int.reduceToNat, Int.reduceLE, Int.reduceEq, Int.reduceLT, Nat.reduceEqDiff, Nat.reduceAdd, zTy]
  refine CW_cond (decide ((64 : Int) < (files.length : Int))) (by rfl) (fun h => CW_seq (CW_region ?_)) (fun h => CW_skip ?_)
  · simp only [zZ, reduceIte, Nat.reduceLT, Int.reduceToNat, Int.reduceLE, Int.reduceEq, Int.reduceLT, Nat.reduceEqDiff, Nat.reduceAdd, zTy]
    refine CW_ret ?_
    simp only [zZ, reduceIte, Nat.reduceLT, Int.reduceToNat, Int.reduceLE, Int.reduceEq, Int.reduceLT, Nat.reduceEqDiff, Nat.reduceAdd, zTy, bEnd, sAnswer, sAnswer.sRes]
    have := of_decide_eq_true h
    exact told_flat rfl (by rw [hR, checkV, if_pos (by omega)])
  have h64 := of_decide_eq_false h
  have hR1 : R = match firstBad files with | some e => e | none => if clashes files then 6 else 0 := by rw [hR, checkV, if_neg (by omega)]
  simp only [zZ, reduceIte, Nat.reduceLT, Int.reduceToNat, Int.reduceLE, Int.reduceEq, Int.reduceLT, Nat.reduceEqDiff, Nat.reduceAdd]
  refine BW_mid hc (fun f l => f = [(0, .slice a files.length cap)] ∧ l = [] ∧ firstBad files = none) ?_ ?_
  · refine CW_seq (CW_region ?_)
    simp only [zZ, reduceIte, Nat.reduceLT, Int.reduceToNat, Int.reduceLE, Int.reduceEq, Int.reduceLT, Nat.reduceEqDiff, Nat.reduceAdd, zTy]
    refine CW_block (BW_loop hc (fun n f l => ∃ t : Nat, t + n = files.length ∧ f = [(0, .slice a files.length cap), (13, .slice a files.length cap), (14, .int .i64 (files.length : Nat)), (15, .int .i64 (t : Nat))] ∧
      l = [] ∧ firstBad (files.drop t) = firstBad files) files.length ?_ ?_)
    · refine ⟨_, rfl, [], [0, 13, 14, 15], rfl, ?_⟩
      simp only [zZ, reduceIte, Nat.reduceLT, Int.reduceToNat, Int.reduceLE, Int.reduceEq, Int.reduceLT, Nat.reduceEqDiff, Nat.reduceAdd, zG, fp]
      exact ⟨0, by omega, rfl, rfl⟩
    · rintro n f l ⟨t, htn, rfl, rfl, hfb⟩
      refine CW_seq (CW_region ?_)
      simp only [zZ, reduceIte, Nat.reduceLT, Int.reduceToNat, Int.reduceLE, Int.reduceEq, Int.reduceLT, Nat.reduceEqDiff, Nat.reduceAdd, zTy]
      refine CW_seq (CW_cond (decide ((t : Int) < (files.length : Int))) (by rfl) (fun h => CW_skip ?_) (fun h => CW_exit ?_))
      · simp only [zZ, reduceIte, Nat.reduceLT, Int.reduceToNat, Int.reduceLE, Int.reduceEq, Int.reduceLT, Nat.reduceEqDiff, Nat.reduceAdd]
        have htl : t < files.length := by have := of_decide_eq_true h; omega
        have h0 : (0 : Int) ≤ (t : Int) := by omega
        have h1 : (t : Int) < (files.length : Int) := by omega
        obtain ⟨g, ro, hpa, hgp⟩ := hF.at (by omega)
        have hg : ∀ l, (ext m l).get g = some (.cells ro 2 (files.flatMap fileC)) := fun l => ext_get_old l hgp
        have sg : ∀ keep, sig m.size keep g = some g := fun keep => sig_old keep (Mem.get_lt hgp)
        obtain ⟨A, hA⟩ : ∃ A, files[t]? = some A := ⟨_, List.getElem?_eq_getElem htl⟩
        have hrow : rowIn 2 (t * 2) (some (.cells ro 2 (files.flatMap fileC))) = some (.agg #[.string (str A.1), .string (str A.2)]) := rowIn_at (n := 2) (fun a _ => fileC_len a) hA ro 2
        have hAs := hs A (List.mem_of_getElem? hA)
        have hfb2 : firstBad files = if pathV A.1 ≠ 0 then some (pathV A.1) else if 1048576 < A.2.length then some 3 else firstBad (files.drop (t + 1)) := by rw [← hfb, drop_get hA, firstBad]
        subst hpa
        refine BW_mid hc (fun f l => f = [(0, .slice (some ⟨g, 0, none⟩) files.length cap), (13, .slice (some ⟨g, 0, none⟩) files.length cap), (14, .int .i64 (files.length : Nat)), (15, .int .i64 (t : Nat))] ∧ l = [] ∧ firstBad (files.drop (t + 1)) = firstBad files) (CW_block (CW_seq (CW_region ?_))) ?_
        · simp only [zZ, reduceIte, Nat.reduceLT, Int.reduceToNat, Int.reduceLE, Int.reduceEq, Int.reduceLT, Nat.reduceEqDiff, Nat.reduceAdd, zTy, h0, h1, and_self, hg, hrow, hal]
          refine CW_seq (CW_seq (CW_region ?_))
          simp only [zZ, reduceIte, Nat.reduceLT, Int.reduceToNat, Int.reduceLE, Int.reduceEq, Int.reduceLT, Nat.reduceEqDiff, Nat.reduceAdd, zTy]
          refine ⟨by kernel_rfl, _, hp A.1 _ (by omega), ?_⟩
          rintro _ _ ⟨rfl, rfl⟩
          simp only [zZ, reduceIte, Nat.reduceLT, Int.reduceToNat, Int.reduceLE, Int.reduceEq, Int.reduceLT, Nat.reduceEqDiff, Nat.reduceAdd, zTy]
          refine CW_seq (CW_region ?_)
          simp only [zZ, reduceIte, Nat.reduceLT, Int.reduceToNat, Int.reduceLE, Int.reduceEq, Int.reduceLT, Nat.reduceEqDiff, Nat.reduceAdd, zTy]
          refine CW_cond (!(pathV A.1 == 0)) (by rfl) (fun hb => CW_seq (CW_region ?_)) (fun hb => CW_skip ?_)
          · simp only [zZ, reduceIte, Nat.reduceLT, Int.reduceToNat, Int.reduceLE, Int.reduceEq, Int.reduceLT, Nat.reduceEqDiff, Nat.reduceAdd, zTy]
            refine CW_ret ?_
            simp only [zZ, reduceIte, Nat.reduceLT, Int.reduceToNat, Int.reduceLE, Int.reduceEq, Int.reduceLT, Nat.reduceEqDiff, Nat.reduceAdd, zTy, bEnd, sAnswer, sAnswer.sRes]
            exact told_flat rfl (by rw [hR1, hfb2, if_pos (by simpa using hb)])
          · simp only [zZ, reduceIte, Nat.reduceLT, Int.reduceToNat, Int.reduceLE, Int.reduceEq, Int.reduceLT, Nat.reduceEqDiff, Nat.reduceAdd]
            refine CW_seq (CW_region ?_)
            simp only [zZ, reduceIte, Nat.reduceLT, Int.reduceToNat, Int.reduceLE, Int.reduceEq, Int.reduceLT, Nat.reduceEqDiff, Nat.reduceAdd, zTy, bsize_str]
            refine CW_cond (decide ((1048576 : Int) < (A.2.length : Int))) (by rfl) (fun hd => CW_seq (CW_region ?_)) (fun hd => CW_skip ?_)
            · simp only [zZ, reduceIte, Nat.reduceLT, Int.reduceToNat, Int.reduceLE, Int.reduceEq, Int.reduceLT, Nat.reduceEqDiff, Nat.reduceAdd, zTy]
              refine CW_ret ?_
              simp only [zZ, reduceIte, Nat.reduceLT, Int.reduceToNat, Int.reduceLE, Int.reduceEq, Int.reduceLT, Nat.reduceEqDiff, Nat.reduceAdd, zTy, bEnd, sAnswer, sAnswer.sRes]
              have := of_decide_eq_true hd
              exact told_flat rfl (by rw [hR1, hfb2, if_neg (by simpa using hb), if_pos (by omega)])
            · simp only [zZ, reduceIte, Nat.reduceLT, Int.reduceToNat, Int.reduceLE, Int.reduceEq, Int.reduceLT, Nat.reduceEqDiff, Nat.reduceAdd]
              refine ⟨_, rfl, [], [0, 13, 14, 15], rfl, ?_⟩
              simp only [zZ, reduceIte, Nat.reduceLT, Int.reduceToNat, Int.reduceLE, Int.reduceEq, Int.reduceLT, Nat.reduceEqDiff, Nat.reduceAdd, zG, sg]
              have := of_decide_eq_false hd
              rw [hfb2, if_neg (by simpa using hb), if_neg (by omega)]
        · rintro f l ⟨rfl, rfl, hfb3⟩
          refine CW_region ?_
          have xi : IntKind.i64.wrap ((t : Int) + 1) = ((t + 1 : Nat) : Int) := by rw [wr (by omega) (by omega)]; omega
          simp only [zZ, reduceIte, Nat.reduceLT, Int.reduceToNat, Int.reduceLE, Int.reduceEq, Int.reduceLT, Nat.reduceEqDiff, Nat.reduceAdd, xi]
          refine ⟨_, rfl, [], [0, 13, 14, 15], rfl, ?_⟩
          simp only [zZ, reduceIte, Nat.reduceLT, Int.reduceToNat, Int.reduceLE, Int.reduceEq, Int.reduceLT, Nat.reduceEqDiff, Nat.reduceAdd, zG, sg]
          exact ⟨n - 1, ⟨t + 1, by omega, rfl, hfb3⟩, by omega⟩
      · simp only [zZ, reduceIte, Nat.reduceLT, Int.reduceToNat, Int.reduceLE, Int.reduceEq, Int.reduceLT, Nat.reduceEqDiff, Nat.reduceAdd]
        have htl : t = files.length := by have := of_decide_eq_false h; omega
        refine ⟨_, rfl, [], [0], rfl, ?_⟩
        simp only [zZ, reduceIte, Nat.reduceLT, Int.reduceToNat, Int.reduceLE, Int.reduceEq, Int.reduceLT, Nat.reduceEqDiff, Nat.reduceAdd, zG, fp]
        rw [← hfb, htl, List.drop_length]; rfl
  · rintro f l ⟨rfl, rfl, hfb⟩
    have hR2 : R = if clashes files then 6 else 0 := by rw [hR1, hfb]
    refine BW_mid hc (fun f l => f = [] ∧ l = [] ∧ clashes files = false) ?_ ?_
    · refine CW_seq (CW_region ?_)
      simp only [zZ, reduceIte, Nat.reduceLT, Int.reduceToNat, Int.reduceLE, Int.reduceEq, Int.reduceLT, Nat.reduceEqDiff, Nat.reduceAdd, zTy]
      refine CW_block (BW_loop hc (fun n f l => ∃ t : Nat, t + n = files.length ∧ f = [(0, .slice a files.length cap), (30, .slice a files.length cap), (31, .int .i64 (files.length : Nat)), (32, .int .i64 (t : Nat))] ∧
        l = [] ∧ clashes (files.drop t) = clashes files) files.length ?_ ?_)
      · refine ⟨_, rfl, [], [0, 30, 31, 32], rfl, ?_⟩
        simp only [zZ, reduceIte, Nat.reduceLT, Int.reduceToNat, Int.reduceLE, Int.reduceEq, Int.reduceLT, Nat.reduceEqDiff, Nat.reduceAdd, zG, fp]
        exact ⟨0, by omega, rfl, rfl⟩
      · rintro n f l ⟨t, htn, rfl, rfl, hcl⟩
        refine CW_seq (CW_region ?_)
        simp only [zZ, reduceIte, Nat.reduceLT, Int.reduceToNat, Int.reduceLE, Int.reduceEq, Int.reduceLT, Nat.reduceEqDiff, Nat.reduceAdd, zTy]
        refine CW_seq (CW_cond (decide ((t : Int) < (files.length : Int))) (by rfl) (fun h => CW_skip ?_) (fun h => CW_exit ?_))
        · simp only [zZ, reduceIte, Nat.reduceLT, Int.reduceToNat, Int.reduceLE, Int.reduceEq, Int.reduceLT, Nat.reduceEqDiff, Nat.reduceAdd]
          have htl : t < files.length := by have := of_decide_eq_true h; omega
          have h0 : (0 : Int) ≤ (t : Int) := by omega
          have h1 : (t : Int) < (files.length : Int) := by omega
          obtain ⟨g, ro, hpa, hgp⟩ := hF.at (by omega)
          have hcap : files.length ≤ cap := by obtain ⟨_, _, e, _, h2, _⟩ := hF; cases e; exact h2
          have hg : ∀ l, (ext m l).get g = some (.cells ro 2 (files.flatMap fileC)) := fun l => ext_get_old l hgp
          have sg : ∀ keep, sig m.size keep g = some g := fun keep => sig_old keep (Mem.get_lt hgp)
          obtain ⟨A, hA⟩ : ∃ A, files[t]? = some A := ⟨_, List.getElem?_eq_getElem htl⟩
          have hrow : rowIn 2 (t * 2) (some (.cells ro 2 (files.flatMap fileC))) = some (.agg #[.string (str A.1), .string (str A.2)]) := rowIn_at (n := 2) (fun a _ => fileC_len a) hA ro 2
          have hcl2 : clashes files = ((files.drop (t + 1)).any (fun b => clashV1 A b || clashV1 b A) || clashes (files.drop (t + 1))) := by rw [← hcl, drop_get hA, clashes]
          have xi : IntKind.i64.wrap ((t : Int) + 1) = ((t + 1 : Nat) : Int) := by rw [wr (by omega) (by omega)]; omega
          subst hpa
          refine BW_mid hc (fun f l => f = [(0, .slice (some ⟨g, 0, none⟩) files.length cap), (30, .slice (some ⟨g, 0, none⟩) files.length cap), (31, .int .i64 (files.length : Nat)), (32, .int .i64 (t : Nat))] ∧ l = [] ∧ clashes (files.drop (t + 1)) = clashes files) (CW_block (CW_seq (CW_region ?_))) ?_
          · simp only [zZ, reduceIte, Nat.reduceLT, Int.reduceToNat, Int.reduceLE, Int.reduceEq, Int.reduceLT, Nat.reduceEqDiff, Nat.reduceAdd, zTy, h0, h1, and_self, hg, hrow, hal]
            have hsl : ∀ get : Nat → Option Blk, get g = some (.cells ro 2 (files.flatMap fileC)) → gSlice Tryd.prog get 37 (.slice (some ⟨g, 0, none⟩) files.length cap) (some (.int .i64 ((t + 1 : Nat) : Int))) none = some (.slice (some ⟨g, (t + 1) * 2, none⟩) (files.length - (t + 1)) (cap - (t + 1))) := fun get hget => by
              unfold gSlice aBound
              simp only [zTy, hget]
              rw [if_pos (by omega)]
              simp
            refine CW_seq (CW_region ?_)
            simp only [zZ, reduceIte, Nat.reduceLT, Int.reduceToNat, Int.reduceLE, Int.reduceEq, Int.reduceLT, Nat.reduceEqDiff, Nat.reduceAdd, zTy, xi, hsl _ (hg _)]
            refine CW_block (BW_loop hc (fun n f l => ∃ u : Nat, u + n = files.length - (t + 1) ∧ f = [(0, .slice (some ⟨g, 0, none⟩) files.length cap), (30, .slice (some ⟨g, 0, none⟩) files.length cap), (31, .int .i64 (files.length : Nat)), (32, .int .i64 (t : Nat)), (7, .pointer (some ⟨m.size + 0, 0, none⟩)), (40, .slice (some ⟨g, (t + 1) * 2, none⟩) (files.length - (t + 1)) (cap - (t + 1))), (41, .int .i64 ((files.length - (t + 1) : Nat) : Int)), (42, .int .i64 (u : Nat))] ∧
              l = [some (some (.cells false s1 [.string (str A.1), .string (str A.2)]))] ∧ ((files.drop (t + 1)).drop u).any (fun b => clashV1 A b || clashV1 b A) = (files.drop (t + 1)).any (fun b => clashV1 A b || clashV1 b A)) (files.length - (t + 1)) ?_ ?_)
            · refine ⟨_, rfl, [0], [0, 30, 31, 32, 7, 40, 41, 42], rfl, ?_⟩
              simp only [zZ, reduceIte, Nat.reduceLT, Int.reduceToNat, Int.reduceLE, Int.reduceEq, Int.reduceLT, Nat.reduceEqDiff, Nat.reduceAdd, zG, sg]
              exact ⟨0, by omega, rfl, rfl⟩
            · rintro n2 f l ⟨u, hun, rfl, rfl, hany⟩
              refine CW_seq (CW_region ?_)
              simp only [zZ, reduceIte, Nat.reduceLT, Int.reduceToNat, Int.reduceLE, Int.reduceEq, Int.reduceLT, Nat.reduceEqDiff, Nat.reduceAdd, zTy]
              refine CW_seq (CW_cond (decide ((u : Int) < ((files.length - (t + 1) : Nat) : Int))) (by rfl) (fun h => CW_skip ?_) (fun h => CW_exit ?_))
              · simp only [zZ, reduceIte, Nat.reduceLT, Int.reduceToNat, Int.reduceLE, Int.reduceEq, Int.reduceLT, Nat.reduceEqDiff, Nat.reduceAdd]
                have hul : u < files.length - (t + 1) := by have := of_decide_eq_true h; omega
                have k0 : (0 : Int) ≤ (u : Int) := by omega
                have k1 : (u : Int) < ((files.length - (t + 1) : Nat) : Int) := by omega
                obtain ⟨B, hB⟩ : ∃ B, files[t + 1 + u]? = some B := ⟨_, List.getElem?_eq_getElem (by omega)⟩
                have hB2 : (files.drop (t + 1))[u]? = some B := by rw [List.getElem?_drop]; exact hB
                have hrow2 : rowIn 2 ((t + 1) * 2 + u * 2) (some (.cells ro 2 (files.flatMap fileC))) = some (.agg #[.string (str B.1), .string (str B.2)]) := by
                  rw [← Nat.add_mul]; exact rowIn_at (n := 2) (fun a _ => fileC_len a) hB ro 2
                have hany2 : (files.drop (t + 1)).any (fun b => clashV1 A b || clashV1 b A) = ((clashV1 A B || clashV1 B A) || ((files.drop (t + 1)).drop (u + 1)).any (fun b => clashV1 A b || clashV1 b A)) := by rw [← hany, drop_get hB2, List.any_cons]
                have yi : IntKind.i64.wrap ((u : Int) + 1) = ((u + 1 : Nat) : Int) := by rw [wr (by omega) (by omega)]; omega
                refine BW_mid hc (fun f l => f = [(0, .slice (some ⟨g, 0, none⟩) files.length cap), (30, .slice (some ⟨g, 0, none⟩) files.length cap), (31, .int .i64 (files.length : Nat)), (32, .int .i64 (t : Nat)), (7, .pointer (some ⟨m.size + 0, 0, none⟩)), (40, .slice (some ⟨g, (t + 1) * 2, none⟩) (files.length - (t + 1)) (cap - (t + 1))), (41, .int .i64 ((files.length - (t + 1) : Nat) : Int)), (42, .int .i64 (u : Nat))] ∧
                  l = [some (some (.cells false s1 [.string (str A.1), .string (str A.2)]))] ∧ (clashV1 A B || clashV1 B A) = false) (CW_block (CW_seq (CW_region ?_))) ?_
                · simp only [zZ, reduceIte, Nat.reduceLT, Int.reduceToNat, Int.reduceLE, Int.reduceEq, Int.reduceLT, Nat.reduceEqDiff, Nat.reduceAdd, zTy, k0, k1, and_self, hg, hrow2, hal]
                  refine CW_seq (CW_region ?_)
                  simp only [zZ, reduceIte, Nat.reduceLT, Int.reduceToNat, Int.reduceLE, Int.reduceEq, Int.reduceLT, Nat.reduceEqDiff, Nat.reduceAdd, zTy]
                  refine ⟨by kernel_rfl, _, clash_spec A B _, ?_⟩
                  rintro _ _ ⟨rfl, rfl⟩
                  cases c1 : clashV1 A B
                  · simp only [zZ, reduceIte, Nat.reduceLT, Int.reduceToNat, Int.reduceLE, Int.reduceEq, Int.reduceLT, Nat.reduceEqDiff, Nat.reduceAdd, zTy, c1]
                    refine ⟨by kernel_rfl, _, clash_spec B A _, ?_⟩
                    rintro _ _ ⟨rfl, rfl⟩
                    simp only [zZ, reduceIte, Nat.reduceLT, Int.reduceToNat, Int.reduceLE, Int.reduceEq, Int.reduceLT, Nat.reduceEqDiff, Nat.reduceAdd, zTy]
                    refine CW_cond (clashV1 B A) (by rfl) (fun hb => CW_seq (CW_region ?_)) (fun hb => CW_skip ?_)
                    · simp only [zZ, reduceIte, Nat.reduceLT, Int.reduceToNat, Int.reduceLE, Int.reduceEq, Int.reduceLT, Nat.reduceEqDiff, Nat.reduceAdd, zTy]
                      refine CW_ret ?_
                      simp only [zZ, reduceIte, Nat.reduceLT, Int.reduceToNat, Int.reduceLE, Int.reduceEq, Int.reduceLT, Nat.reduceEqDiff, Nat.reduceAdd, zTy, bEnd, sAnswer, sAnswer.sRes]
                      exact told_flat rfl (by rw [hR2, hcl2, hany2, hb]; simp)
                    · simp only [zZ, reduceIte, Nat.reduceLT, Int.reduceToNat, Int.reduceLE, Int.reduceEq, Int.reduceLT, Nat.reduceEqDiff, Nat.reduceAdd]
                      refine ⟨_, rfl, [0], [0, 30, 31, 32, 7, 40, 41, 42], rfl, ?_⟩
                      simp only [zZ, reduceIte, Nat.reduceLT, Int.reduceToNat, Int.reduceLE, Int.reduceEq, Int.reduceLT, Nat.reduceEqDiff, Nat.reduceAdd, zG, sg]
                      rw [hb]; rfl
                  · simp only [zZ, reduceIte, Nat.reduceLT, Int.reduceToNat, Int.reduceLE, Int.reduceEq, Int.reduceLT, Nat.reduceEqDiff, Nat.reduceAdd, zTy, c1]
                    refine CW_cond true (by rfl) (fun hb => CW_seq (CW_region ?_)) (fun hb => by cases hb)
                    simp only [zZ, reduceIte, Nat.reduceLT, Int.reduceToNat, Int.reduceLE, Int.reduceEq, Int.reduceLT, Nat.reduceEqDiff, Nat.reduceAdd, zTy]
                    refine CW_ret ?_
                    simp only [zZ, reduceIte, Nat.reduceLT, Int.reduceToNat, Int.reduceLE, Int.reduceEq, Int.reduceLT, Nat.reduceEqDiff, Nat.reduceAdd, zTy, bEnd, sAnswer, sAnswer.sRes]
                    exact told_flat rfl (by rw [hR2, hcl2, hany2, c1]; simp)
                · rintro f l ⟨rfl, rfl, hb⟩
                  refine CW_region ?_
                  simp only [zZ, reduceIte, Nat.reduceLT, Int.reduceToNat, Int.reduceLE, Int.reduceEq, Int.reduceLT, Nat.reduceEqDiff, Nat.reduceAdd, yi]
                  refine ⟨_, rfl, [0], [0, 30, 31, 32, 7, 40, 41, 42], rfl, ?_⟩
                  simp only [zZ, reduceIte, Nat.reduceLT, Int.reduceToNat, Int.reduceLE, Int.reduceEq, Int.reduceLT, Nat.reduceEqDiff, Nat.reduceAdd, zG, sg]
                  exact ⟨n2 - 1, ⟨u + 1, by omega, rfl, by rw [hany2, hb]; rfl⟩, by omega⟩
              · simp only [zZ, reduceIte, Nat.reduceLT, Int.reduceToNat, Int.reduceLE, Int.reduceEq, Int.reduceLT, Nat.reduceEqDiff, Nat.reduceAdd]
                have hul : u = files.length - (t + 1) := by have := of_decide_eq_false h; omega
                refine ⟨_, rfl, [], [0, 30, 31, 32], rfl, ?_⟩
                simp only [zZ, reduceIte, Nat.reduceLT, Int.reduceToNat, Int.reduceLE, Int.reduceEq, Int.reduceLT, Nat.reduceEqDiff, Nat.reduceAdd, zG, sg]
                have e : (files.drop (t + 1)).drop (files.length - (t + 1)) = [] := by rw [List.drop_drop]; exact List.drop_eq_nil_of_le (by omega)
                rw [hcl2, ← hany, hul, e]; rfl
          · rintro f l ⟨rfl, rfl, hcl3⟩
            refine CW_region ?_
            simp only [zZ, reduceIte, Nat.reduceLT, Int.reduceToNat, Int.reduceLE, Int.reduceEq, Int.reduceLT, Nat.reduceEqDiff, Nat.reduceAdd, xi]
            refine ⟨_, rfl, [], [0, 30, 31, 32], rfl, ?_⟩
            simp only [zZ, reduceIte, Nat.reduceLT, Int.reduceToNat, Int.reduceLE, Int.reduceEq, Int.reduceLT, Nat.reduceEqDiff, Nat.reduceAdd, zG, sg]
            exact ⟨n - 1, ⟨t + 1, by omega, rfl, hcl3⟩, by omega⟩
        · simp only [zZ, reduceIte, Nat.reduceLT, Int.reduceToNat, Int.reduceLE, Int.reduceEq, Int.reduceLT, Nat.reduceEqDiff, Nat.reduceAdd]
          have htl : t = files.length := by have := of_decide_eq_false h; omega
          refine ⟨_, rfl, [], [], rfl, ?_⟩
          simp only [zZ, reduceIte, Nat.reduceLT, Int.reduceToNat, Int.reduceLE, Int.reduceEq, Int.reduceLT, Nat.reduceEqDiff, Nat.reduceAdd, zG]
          rw [← hcl, htl, List.drop_length]; rfl
    · rintro f l ⟨rfl, rfl, hcl⟩
      refine CW_seq (CW_region ?_)
      simp only [zZ, reduceIte, Nat.reduceLT, Int.reduceToNat, Int.reduceLE, Int.reduceEq, Int.reduceLT, Nat.reduceEqDiff, Nat.reduceAdd, zTy]
      refine CW_ret ?_
      simp only [zZ, reduceIte, Nat.reduceLT, Int.reduceToNat, Int.reduceLE, Int.reduceEq, Int.reduceLT, Nat.reduceEqDiff, Nat.reduceAdd, zTy, bEnd, sAnswer, sAnswer.sRes]
      exact told_flat rfl (by rw [hR2, hcl]; rfl)
end Go.Proofs.YthcleiegefhmdaaDoor
namespace Go.Proofs.YthcleiegefhmdaaDoor
open Go.RowKit Abs
structure StepL where
  kind : Int
  n : Int
  files : List FileL
  text : List UInt8
  drop : Bool
  delay : Int
  copies : Int
  deriving DecidableEq
def stepC (x : StepL × Value) : List Value := [.int .i64 x.1.kind, .int .i64 x.1.n, x.2, .string (str x.1.text), .bool x.1.drop, .int .i64 x.1.delay, .int .i64 x.1.copies]
theorem stepC_len (x : StepL × Value) : (stepC x).length = 7 := rfl
def FilesAt (M : Mem) (V : Value) (fs : List FileL) : Prop :=
  ∃ a cap, V = .slice a fs.length cap ∧ fs.length ≤ cap ∧ cap ≤ maxLen ∧ (a = none → cap = 0) ∧ ∀ p, a = some p → ∃ b, p = ⟨b, 0, none⟩ ∧ (fs ≠ [] → M.get b = some (.cells true 2 (fs.flatMap fileC)))
theorem fileC_all (fs : List FileL) : (fs.flatMap fileC).length = fs.length * 2 := flatMap_len fileC 2 fs fun x _ => fileC_len x
theorem FilesAt.rd {M : Mem} {V : Value} {fs : List FileL} (h : FilesAt M V fs) : Rd M 2 V fs.length (fs.flatMap fileC) := by
  obtain ⟨a, cap, rfl, h1, h2, h3, h4⟩ := h
  refine ⟨a, cap, rfl, fileC_all fs, h1, h2, h3, fun p hp => ?_⟩
  obtain ⟨b, rfl, hb⟩ := h4 p hp
  exact ⟨b, rfl, fun hk => ⟨true, hb fun e => hk (by rw [e]; rfl)⟩⟩
theorem FilesAt.nil (M : Mem) : FilesAt M (.slice none 0 0) [] := ⟨none, 0, rfl, Nat.le_refl _, Nat.zero_le _, fun _ => rfl, fun p hp => by cases hp⟩
theorem FilesAt.len {M : Mem} {V : Value} {fs : List FileL} (h : FilesAt M V fs) : ∃ a cap, V = .slice a fs.length cap := by
  obtain ⟨a, cap, e, _⟩ := h; exact ⟨a, cap, e⟩
theorem Keeps.files {k : Nat} {M M' : Mem} (h : Keeps k M M') {V : Value} {fs : List FileL} (hf : FilesAt M V fs) : FilesAt M' V fs := by
  obtain ⟨a, cap, rfl, h1, h2, h3, h4⟩ := hf
  refine ⟨a, cap, rfl, h1, h2, h3, fun p hp => ?_⟩
  obtain ⟨b, rfl, hb⟩ := h4 p hp
  exact ⟨b, rfl, fun hne => h.2 _ _ _ (hb hne)⟩
structure PState where
  a : Int
  b : Int
  c : Int
  d : Int
  steps : List (StepL × Value)
  n : Int
def StepsAt (M : Mem) (k p : Nat) (V : Value) (L : List (StepL × Value)) : Prop :=
  (∀ q ∈ L, FilesAt M q.2 q.1.files) ∧ ((L = [] ∧ V = .slice none 0 0) ∨ (L ≠ [] ∧ ∃ g, k ≤ g ∧ g ≠ p ∧ V = .slice (some ⟨g, 0, none⟩) L.length L.length ∧ M.get g = some (.cells false 7 (L.flatMap stepC))))
def PAt (k : Nat) (M : Mem) (p : Nat) (st : PState) : Prop :=
  k ≤ p ∧ ∃ s V, M.get p = some (.cells false s [.int .i64 st.a, .int .i64 st.b, .int .i64 st.c, .int .i64 st.d, V, .int .i64 st.n]) ∧ StepsAt M k p V st.steps
theorem PAt.same {k : Nat} {M M' : Mem} {p : Nat} {st : PState} (h : PAt k M p st) (hk : ∀ b x, M.get b = some x → M'.get b = some x) : PAt k M' p st := by
  obtain ⟨h1, s, V, h2, h3, h4⟩ := h
  refine ⟨h1, s, V, hk _ _ h2, fun q hq => ?_, ?_⟩
  · exact Keeps.files (k := 0) ⟨fun b x _ h => hk b x h, fun b s cs h => hk b _ h⟩ (h3 q hq)
  · rcases h4 with h4 | ⟨h5, g, h6, h7, h8, h9⟩
    · exact .inl h4
    · exact .inr ⟨h5, g, h6, h7, h8, hk _ _ h9⟩
theorem PAt.push {k : Nat} {M : Mem} {p : Nat} {st : PState} (h : PAt k M p st) (x : Blk) : PAt k (M.push x) p st := h.same fun b y hb => by rw [Mem.get_push_old (get_live hb)]; exact hb
theorem PAt.ext {k : Nat} {M : Mem} {p : Nat} {st : PState} (h : PAt k M p st) (l : List (Option (Option Blk))) : PAt k (Abs.ext M l) p st := h.same fun b y hb => ext_get_old l hb
section
variable {P : Program} {t tx e : TypeId} {i : TypeInfo} {z : Value} {N : Nat}
theorem gapp (hu : P.underlying t = some (.slice e)) (hi : P.info? e = some i) (hz : i.zero = some z) (hs : i.size = N) (hzc : z.cells.toList.length = N) (m : Mem) {x : Value} {k n g : Nat} {cs news : List Value}
    (hsrc : aSrc P m tx N x = some (k, news)) (hk : k ≠ 0) (hg : m.get g = some (.cells false N cs)) (hn : cs.length = n * N) (hb : (n + k) * i.bytes ≤ 140737488355328) (hb2 : n + k ≤ 140737488355328) :
    aAppend P m t tx (.slice (some ⟨g, 0, none⟩) n n) x = some (.slice (some ⟨m.size, 0, none⟩) (n + k) (n + k), (m.set g none).push (.cells false N (cs ++ news))) := by
  unfold aAppend
  simp only [hu, hi, hz, hs, hzc, if_true, hsrc, if_neg hk, hg]
  rw [if_neg (by omega), if_pos ⟨by omega, trivial, hb, hb2⟩, List.drop_zero, ← hn, List.take_length]
theorem gapp_nil (hu : P.underlying t = some (.slice e)) (hi : P.info? e = some i) (hz : i.zero = some z) (hs : i.size = N) (hzc : z.cells.toList.length = N) (m : Mem) {x : Value} {k : Nat} {news : List Value}
    (hsrc : aSrc P m tx N x = some (k, news)) (hk : k ≠ 0) (hb : k * i.bytes ≤ 140737488355328) (hb2 : k ≤ 140737488355328) :
    aAppend P m t tx (.slice none 0 0) x = some (.slice (some ⟨m.size, 0, none⟩) k k, m.push (.cells false N news)) := by
  unfold aAppend
  simp only [hu, hi, hz, hs, hzc, if_true, hsrc, if_neg hk]
  rw [if_pos ⟨hb, hb2⟩]
end
theorem Step_zero : Tryd.t41.zero = some (.agg #[.int .i64 0, .int .i64 0, .slice none 0 0, .string ⟨#[]⟩, .bool false, .int .i64 0, .int .i64 0]) := rfl
theorem Step_bytes : Tryd.t41.bytes ≤ 1000 := by decide
theorem Step_one (x : StepL × Value) (a : Option Addr) (n c : Nat) (h : x.2 = .slice a n c) : oneAll (stepC x) = true := by
  unfold stepC; rw [h]; rfl
theorem new_step1 (x : StepL × Value) (a : Option Addr) (n c : Nat) (h : x.2 = .slice a n c) : nBuildSlice Tryd.prog 27 1 [(0, .agg (stepC x).toArray)] = some (.cells false 7 (stepC x)) := by
  unfold nBuildSlice stepC
  rw [h]
  simp only [Tryd.underlying27, inf_Step, sz_Step, Step_zero]
  rfl
end Go.Proofs.YthcleiegefhmdaaDoor
namespace Go.Proofs.YthcleiegefhmdaaDoor
open Go.RowKit Abs
set_option maxRecDepth 100000 in
set_option maxHeartbeats 2000000 in
theorem step_spec (K p : Nat) (st : PState) (x : StepL × Value) (times : Nat) (m : Mem) (hp : PAt K m p st) (hK : K ≤ m.size) (hV : FilesAt m x.2 x.1.files) (hlen : st.steps.length ≤ 4096) (ht : times ≤ 1000000) :
    Abs.Spec Tryd.prog 36 [.pointer (some ⟨p, 0, none⟩), .agg (stepC x).toArray, .int .i64 (times : Nat)] m fun u M => Keeps K m M ∧ m.size ≤ M.size ∧ u = .bool (decide (st.steps.length + times ≤ 4096)) ∧ PAt K M p { st with steps := if st.steps.length + times ≤ 4096 then st.steps ++ List.replicate times x else st.steps } := by
  refine Abs.Spec.walkM Tryd.func36 (by rfl) _ Tryd.results36 _ Tryd.ntmps36 (by simp) ?_
  intro hc hx k
  obtain ⟨xa, xc, hxv, _⟩ := id hV
  have hone := Step_one x xa _ xc hxv
  have hbx : nBox Tryd.prog 41 (.agg (stepC x).toArray) = some (.cells false (aStride Tryd.prog 41) (stepC x)) := bx_Step (stepC x).toArray hone
  generalize aStride Tryd.prog 41 = s1 at hbx
  refine CW_seq (CW_region ?_)
  simp only [zZ, reduceIte, Nat.reduceLT, Int.reduceToNat, Int.reduceLE, Int.reduceEq, Int.reduceLT, Nat.reduceEqDiff, Nat.reduceAdd, zTy, hbx]
  obtain ⟨M1, hM1⟩ : ∃ M1, M1 = m.push (.cells false s1 (stepC x)) := ⟨_, rfl⟩
  have hb0 : M1.get m.size = some (.cells false s1 (stepC x)) := by rw [hM1, Mem.get_push_new]
  have hp1 : PAt K M1 p st := by rw [hM1]; exact hp.push _
  have hk1 : Keeps K m M1 := by rw [hM1]; exact Keeps.push _ _ _
  have hs1 : M1.size = m.size + 1 := by rw [hM1, Mem.size_push]
  have hpf : PAt K (fz1 m.size M1) p st := hp.same fun b y hb => by
    rw [fz1_ne (by have := get_live hb; omega), hM1, Mem.get_push_old (get_live hb)]; exact hb
  rw [← hM1]
  clear hM1
  obtain ⟨hKp, sp, V, hgp, hst⟩ := id hp1
  obtain ⟨va, hva⟩ : ∃ a, V = .slice a st.steps.length st.steps.length := by
    rcases hst.2 with ⟨h1, h2⟩ | ⟨_, g, _, _, h2, _⟩
    · exact ⟨none, by rw [h2, h1]; rfl⟩
    · exact ⟨_, h2⟩
  subst hva
  have w1 : IntKind.i64.wrap (4096 - (st.steps.length : Int)) = 4096 - (st.steps.length : Int) := wrs (by omega) (by omega)
  refine CW_seq (CW_seq (CW_region ?_))
  simp only [zZ, reduceIte, Nat.reduceLT, Int.reduceToNat, Int.reduceLE, Int.reduceEq, Int.reduceLT, Nat.reduceEqDiff, Nat.reduceAdd, zTy, hgp, w1]
  refine CW_cond (decide (4096 - (st.steps.length : Int) < (times : Int))) (by rfl) (fun h => CW_seq (CW_region ?_)) (fun h => CW_skip ?_)
  · simp only [zZ, reduceIte, Nat.reduceLT, Int.reduceToNat, Int.reduceLE, Int.reduceEq, Int.reduceLT, Nat.reduceEqDiff, Nat.reduceAdd, zTy]
    refine CW_ret ?_
    simp only [zZ, reduceIte, Nat.reduceLT, Int.reduceToNat, Int.reduceLE, Int.reduceEq, Int.reduceLT, Nat.reduceEqDiff, Nat.reduceAdd, zTy, mEnd, sAnswer, sAnswer.sRes]
    have h := of_decide_eq_true h
    refine ⟨M1, Thin.refl _, hk1, by omega, by rw [decide_eq_false (by omega)], ?_⟩
    rw [if_neg (by omega)]
    exact hp1
  have h := of_decide_eq_false h
  have hle : st.steps.length + times ≤ 4096 := by omega
  rw [decide_eq_true hle, if_pos hle]
  simp only [zZ, reduceIte, Nat.reduceLT, Int.reduceToNat, Int.reduceLE, Int.reduceEq, Int.reduceLT, Nat.reduceEqDiff, Nat.reduceAdd]
  refine CW_seq (CW_seq (CW_region ?_))
  simp only [zZ, reduceIte, Nat.reduceLT, Int.reduceToNat, Int.reduceLE, Int.reduceEq, Int.reduceLT, Nat.reduceEqDiff, Nat.reduceAdd, zTy]
  refine CW_block (MW_loop (fun j f M => ∃ t : Nat, t + j = times ∧ f = [(0, .pointer (some ⟨p, 0, none⟩)), (4, .pointer (some ⟨m.size, 0, none⟩)), (16, .int .i64 (times : Nat)), (17, .int .i64 (t : Nat))] ∧
    Keeps K m M ∧ m.size ≤ M.size ∧ M.get m.size = some (.cells true s1 (stepC x)) ∧ PAt K M p { st with steps := st.steps ++ List.replicate t x }) times ?_ ?_)
  · refine ⟨[0, 4, 16, 17], ?_⟩
    simp only [zZ, reduceIte, Nat.reduceLT, Int.reduceToNat, Int.reduceLE, Int.reduceEq, Int.reduceLT, Nat.reduceEqDiff, Nat.reduceAdd, keepF]
    refine ⟨fz1 m.size M1, fz1_thin _ _, 0, by omega, rfl, hk1.trans (Keeps.fz1 _ _ _ hK), by unfold fz1; rw [hb0]; simp only [Mem.size_set]; omega, fz1_get hb0, ?_⟩
    rw [List.replicate_zero, List.append_nil]
    exact hpf
  · rintro j f M ⟨t, htj, rfl, hk, hms, hbx2, hpa⟩
    refine CW_seq (CW_region ?_)
    simp only [zZ, reduceIte, Nat.reduceLT, Int.reduceToNat, Int.reduceLE, Int.reduceEq, Int.reduceLT, Nat.reduceEqDiff, Nat.reduceAdd, zTy]
    refine CW_seq (CW_cond (decide ((t : Int) < (times : Int))) (by rfl) (fun h => CW_skip ?_) (fun h => CW_exit ?_))
    · simp only [zZ, reduceIte, Nat.reduceLT, Int.reduceToNat, Int.reduceLE, Int.reduceEq, Int.reduceLT, Nat.reduceEqDiff, Nat.reduceAdd]
      have htl : t < times := by have := of_decide_eq_true h; omega
      obtain ⟨L, hL⟩ : ∃ L, L = st.steps ++ List.replicate t x := ⟨_, rfl⟩
      have hL2 : st.steps ++ List.replicate (t + 1) x = L ++ [x] := by rw [hL, List.append_assoc, List.replicate_succ']
      have hLl : L.length = st.steps.length + t := by rw [hL]; simp
      rw [← hL] at hpa
      obtain ⟨_, sp2, V2, hgp2, hst2⟩ := id hpa
      simp only at hgp2 hst2
      have hrow : rowIn 7 0 (some (.cells true s1 (stepC x))) = some (.agg (stepC x).toArray) := rowIn_whole (stepC_len x)
      have hnew := new_step1 x xa _ xc hxv
      have hxi : IntKind.i64.wrap ((t : Int) + 1) = ((t + 1 : Nat) : Int) := by rw [wr (by omega) (by omega)]; omega
      have hfiles : ∀ M', Keeps K M M' → ∀ q ∈ L ++ [x], FilesAt M' q.2 q.1.files := fun M' hkk q hq => by
        rcases List.mem_append.1 hq with hq | hq
        · exact hkk.files (hst2.1 q hq)
        · simp only [List.mem_singleton] at hq; subst hq; exact (hk.trans hkk).files hV
      have hpl : p < M.size := get_live hgp2
      have pin : ∀ (M3 : Mem) (g n c : Nat), M3.get p = some (.cells false sp2 [.int .i64 st.a, .int .i64 st.b, .int .i64 st.c, .int .i64 st.d, V2, .int .i64 st.n]) →
        putIn 1 M3 p 4 [.slice (some ⟨g, 0, none⟩) n c] (M3.get p) = some (M3.set p (some (.cells false sp2 [.int .i64 st.a, .int .i64 st.b, .int .i64 st.c, .int .i64 st.d, .slice (some ⟨g, 0, none⟩) n c, .int .i64 st.n]))) := fun M3 g n c h => by rw [h]; rfl
      refine CW_seq (CW_block (CW_draw2 hmix 8 (by kernel_rfl) ?_))
      rcases hst2.2 with ⟨hL0, hV2⟩ | ⟨hL0, g, hKg, hgne, hV2, hgg⟩
      · subst hV2
        have ha := gapp_nil (N := 7) (k := 1) (news := stepC x) Tryd.underlying27 inf_Step Step_zero sz_Step rfl (M.push (.cells false 7 (stepC x)))
          (src_block (c := 1) (news := stepC x) (ro := false) (s := 7) Tryd.underlying27 (Mem.get_push_new M _) (by rw [stepC_len])) (by decide) (by have := Step_bytes; omega) (by decide)
        obtain ⟨M2, hM2⟩ : ∃ M2, M2 = (M.push (.cells false 7 (stepC x))).push (.cells false 7 (stepC x)) := ⟨_, rfl⟩
        have hs2 : M2.size = M.size + 2 := by rw [hM2]; simp only [Mem.size_push]
        have hold : ∀ b y, M.get b = some y → M2.get b = some y := fun b y hb => by
          have := get_live hb
          rw [hM2, Mem.get_push_old (by rw [Mem.size_push]; omega), Mem.get_push_old this]; exact hb
        have hnew2 : M2.get (M.size + 1) = some (.cells false 7 (stepC x)) := by
          have := Mem.get_push_new (M.push (.cells false 7 (stepC x))) (.cells false 7 (stepC x))
          rw [Mem.size_push] at this
          rw [hM2]; exact this
        rw [← hM2, Mem.size_push] at ha
        have hput := pin M2 (M.size + 1) 1 1 (hold _ _ hgp2)
        simp only [zZ, reduceIte, Nat.reduceLT, Int.reduceToNat, Int.reduceLE, Int.reduceEq, Int.reduceLT, Nat.reduceEqDiff, Nat.reduceAdd, zTy, hgp2, hbx2, hrow, hnew, ha, hput]
        obtain ⟨M3, hM3⟩ : ∃ M3, M3 = M2.set p (some (.cells false sp2 [.int .i64 st.a, .int .i64 st.b, .int .i64 st.c, .int .i64 st.d, .slice (some ⟨M.size + 1, 0, none⟩) 1 1, .int .i64 st.n])) := ⟨_, rfl⟩
        rw [← hM3]
        have hk3 : Keeps K M M3 := by
          rw [hM3]
          exact Keeps.trans ⟨fun b y _ h => hold b y h, fun b s cs h => hold b _ h⟩ (Keeps.set hKp (hold _ _ hgp2) _)
        have hgp3 : M3.get p = some (.cells false sp2 [.int .i64 st.a, .int .i64 st.b, .int .i64 st.c, .int .i64 st.d, .slice (some ⟨M.size + 1, 0, none⟩) 1 1, .int .i64 st.n]) := by rw [hM3]; exact Mem.get_set_same (hold _ _ hgp2) _
        refine CW_region ?_
        simp only [zZ, reduceIte, Nat.reduceLT, Int.reduceToNat, Int.reduceLE, Int.reduceEq, Int.reduceLT, Nat.reduceEqDiff, Nat.reduceAdd, zTy, hxi]
        refine ⟨[0, 4, 16, 17], ?_⟩
        simp only [zZ, reduceIte, Nat.reduceLT, Int.reduceToNat, Int.reduceLE, Int.reduceEq, Int.reduceLT, Nat.reduceEqDiff, Nat.reduceAdd, keepF]
        refine ⟨M3, Thin.refl _, j - 1, ⟨t + 1, by omega, rfl, hk.trans hk3, by rw [hM3, Mem.size_set, hs2]; omega, hk3.2 _ _ _ hbx2, hKp, sp2, _, hgp3, ?_⟩, by omega⟩
        rw [hL2]
        refine ⟨hfiles M3 hk3, .inr ⟨by simp, M.size + 1, by omega, by omega, by rw [hL0]; rfl, ?_⟩⟩
        rw [hM3, Mem.get_set_ne (by omega), hnew2, hL0]
        simp
      · subst hV2
        have hgne2 : g ≠ M.size := by have := get_live hgg; omega
        have ha := gapp (N := 7) (k := 1) (n := L.length) (cs := L.flatMap stepC) (news := stepC x) Tryd.underlying27 inf_Step Step_zero sz_Step rfl (M.push (.cells false 7 (stepC x)))
          (src_block (c := 1) (news := stepC x) (ro := false) (s := 7) Tryd.underlying27 (Mem.get_push_new M _) (by rw [stepC_len])) (by decide) (by rw [Mem.get_push_old (get_live hgg)]; exact hgg) (flatMap_len stepC 7 L fun y _ => stepC_len y)
          (by have := Step_bytes; rw [show (140737488355328 : Nat) = 140737488355 * 1000 + 328 from rfl]; exact Nat.le_trans (Nat.mul_le_mul (show L.length + 1 ≤ 140737488355 by omega) this) (by omega)) (by omega)
        obtain ⟨M2, hM2⟩ : ∃ M2, M2 = ((M.push (.cells false 7 (stepC x))).set g none).push (.cells false 7 (L.flatMap stepC ++ stepC x)) := ⟨_, rfl⟩
        have hs2 : M2.size = M.size + 2 := by rw [hM2]; simp only [Mem.size_push, Mem.size_set]
        have hold : ∀ b y, b ≠ g → M.get b = some y → M2.get b = some y := fun b y hbg hb => by
          have := get_live hb
          rw [hM2, Mem.get_push_old (by rw [Mem.size_set, Mem.size_push]; omega), Mem.get_set_ne (Ne.symm hbg), Mem.get_push_old this]; exact hb
        have hnew2 : M2.get (M.size + 1) = some (.cells false 7 (L.flatMap stepC ++ stepC x)) := by
          have := Mem.get_push_new ((M.push (.cells false 7 (stepC x))).set g none) (.cells false 7 (L.flatMap stepC ++ stepC x))
          rw [Mem.size_set, Mem.size_push] at this
          rw [hM2]; exact this
        rw [← hM2, Mem.size_push] at ha
        have hput := pin M2 (M.size + 1) (L.length + 1) (L.length + 1) (hold _ _ (Ne.symm hgne) hgp2)
        simp only [zZ, reduceIte, Nat.reduceLT, Int.reduceToNat, Int.reduceLE, Int.reduceEq, Int.reduceLT, Nat.reduceEqDiff, Nat.reduceAdd, zTy, hgp2, hbx2, hrow, hnew, ha, hput]
        obtain ⟨M3, hM3⟩ : ∃ M3, M3 = M2.set p (some (.cells false sp2 [.int .i64 st.a, .int .i64 st.b, .int .i64 st.c, .int .i64 st.d, .slice (some ⟨M.size + 1, 0, none⟩) (L.length + 1) (L.length + 1), .int .i64 st.n])) := ⟨_, rfl⟩
        rw [← hM3]
        have hk3 : Keeps K M M3 := by
          rw [hM3]
          refine Keeps.trans (B := M2) ⟨fun b y hb h => hold b y (by omega) h, fun b s cs h => hold b _ (fun e => by rw [e, hgg] at h; cases h) h⟩ (Keeps.set hKp (hold _ _ (Ne.symm hgne) hgp2) _)
        have hgp3 : M3.get p = some (.cells false sp2 [.int .i64 st.a, .int .i64 st.b, .int .i64 st.c, .int .i64 st.d, .slice (some ⟨M.size + 1, 0, none⟩) (L.length + 1) (L.length + 1), .int .i64 st.n]) := by rw [hM3]; exact Mem.get_set_same (hold _ _ (Ne.symm hgne) hgp2) _
        refine CW_region ?_
        simp only [zZ, reduceIte, Nat.reduceLT, Int.reduceToNat, Int.reduceLE, Int.reduceEq, Int.reduceLT, Nat.reduceEqDiff, Nat.reduceAdd, zTy, hxi]
        refine ⟨[0, 4, 16, 17], ?_⟩
        simp only [zZ, reduceIte, Nat.reduceLT, Int.reduceToNat, Int.reduceLE, Int.reduceEq, Int.reduceLT, Nat.reduceEqDiff, Nat.reduceAdd, keepF]
        refine ⟨M3, Thin.refl _, j - 1, ⟨t + 1, by omega, rfl, hk.trans hk3, by rw [hM3, Mem.size_set, hs2]; omega, hk3.2 _ _ _ hbx2, hKp, sp2, _, hgp3, ?_⟩, by omega⟩
        rw [hL2]
        refine ⟨hfiles M3 hk3, .inr ⟨by simp, M.size + 1, by omega, by omega, by simp, ?_⟩⟩
        rw [hM3, Mem.get_set_ne (by omega), hnew2]
        simp
    · simp only [zZ, reduceIte, Nat.reduceLT, Int.reduceToNat, Int.reduceLE, Int.reduceEq, Int.reduceLT, Nat.reduceEqDiff, Nat.reduceAdd]
      have htl : t = times := by have := of_decide_eq_false h; omega
      subst htl
      refine CW_seq (CW_region ?_)
      simp only [zZ, reduceIte, Nat.reduceLT, Int.reduceToNat, Int.reduceLE, Int.reduceEq, Int.reduceLT, Nat.reduceEqDiff, Nat.reduceAdd, zTy]
      refine CW_ret ?_
      simp only [zZ, reduceIte, Nat.reduceLT, Int.reduceToNat, Int.reduceLE, Int.reduceEq, Int.reduceLT, Nat.reduceEqDiff, Nat.reduceAdd, zTy, mEnd, sAnswer, sAnswer.sRes]
      exact ⟨M, Thin.refl _, hk, hms, hpa⟩
end Go.Proofs.YthcleiegefhmdaaDoor
namespace Go.Proofs.YthcleiegefhmdaaDoor
def digI (k : Int) : Int := if 48 ≤ k ∧ k ≤ 57 then k - 48 else if 97 ≤ k ∧ k ≤ 102 then k - 87 else -1
def digN (b : UInt8) : Int := digI b.toNat
end Go.Proofs.YthcleiegefhmdaaDoor
namespace Go.Proofs.YthcleiegefhmdaaDoor
open Go.RowKit Abs
def unhexL : List UInt8 → Option (List UInt8)
  | [] => some []
  | [_] => none
  | a :: b :: r => if digN a < 0 ∨ digN b < 0 then none else match unhexL r with
    | some q => some (UInt8.ofNat (16 * digN a + digN b).toNat :: q)
    | none => none
def unhexV (l : List UInt8) : List UInt8 × Bool := if l = [45] then ([], true) else if l = [] then ([], false) else match unhexL l with
  | some q => (q, true)
  | none => ([], false)
theorem idx_digs : ∀ n : Fin 256, Lib.indexByte digs (UInt8.ofNat n.val) = digI n.val := by decide +kernel
theorem idx_dig (b : UInt8) : Lib.indexByte digs b = digN b := by
  have := idx_digs ⟨b.toNat, b.toNat_lt⟩
  simpa [digN] using this
theorem digN_lt : ∀ b, digN b < 16 := fun b => by unfold digN digI; split <;> (try split) <;> omega
theorem digN_ge : ∀ b, -1 ≤ digN b := fun b => by unfold digN digI; split <;> (try split) <;> omega
theorem unhexL_odd : ∀ (l : List UInt8), l.length % 2 = 1 → unhexL l = none
  | [], h => by simp at h
  | [_], _ => rfl
  | a :: b :: r, h => by
    unfold unhexL
    split
    · rfl
    · rw [unhexL_odd r (by simp only [List.length_cons] at h; omega)]
theorem or_bits : ∀ x y : Fin 16, IntKind.u8.wrap (bits BinOp.or IntKind.i64 (IntKind.i64.wrap ((x.val : Int) * 2 ^ min 4 IntKind.i64.bits)) (y.val : Int)) = ((16 * x.val + y.val : Nat) : Int) := by decide +kernel
theorem or_dig (a b : UInt8) (ha : ¬ digN a < 0) (hb : ¬ digN b < 0) : IntKind.u8.wrap (bits BinOp.or IntKind.i64 (IntKind.i64.wrap (digN a * 2 ^ min 4 IntKind.i64.bits)) (digN b)) = ((UInt8.ofNat (16 * digN a + digN b).toNat).toNat : Int) := by
  have a2 := digN_lt a
  have b2 := digN_lt b
  obtain ⟨x, hx⟩ : ∃ x : Nat, digN a = x := ⟨(digN a).toNat, by omega⟩
  obtain ⟨y, hy⟩ : ∃ y : Nat, digN b = y := ⟨(digN b).toNat, by omega⟩
  rw [hx, hy, or_bits ⟨x, by omega⟩ ⟨y, by omega⟩]
  have : (UInt8.ofNat (16 * (x : Int) + y).toNat).toNat = 16 * x + y := by
    rw [UInt8.toNat_ofNat']
    omega
  rw [this]
theorem slice_from {get : Nat → Option Blk} (s : ByteArray) (l : Int) (h1 : 0 ≤ l) (h2 : l ≤ (bsize s : Nat)) :
    gSlice Tryd.prog get 9 (.string s) (some (.int .i64 l)) none = some (.string (bsub s l.toNat (bsize s))) := by
  unfold gSlice aBound
  simp only [Tryd.underlying9, if_pos (And.intro h1 h2)]
def zUnh := And.intro (And.intro Tryd.underlying9 Tryd.underlying35) (And.intro (Tryd.underlying5) (And.intro Tryd.underlying3 Tryd.underlying4))
set_option maxRecDepth 100000 in
set_option maxHeartbeats 2000000 in
theorem unhex_spec (s : ByteArray) (hs : s.size ≤ 1000000) (m : Mem) :
    Abs.Spec Tryd.prog 47 [.string s] m fun u M => u = .tuple #[.string (str (unhexV s.data.toList).1), .bool (unhexV s.data.toList).2] ∧ M = m := by
  refine Abs.Spec.walkB Tryd.func47 (by rfl) _ Tryd.results47 _ Tryd.ntmps47 (by simp) m [] (ext_nil m).symm 0 rfl (.inl rfl) ?_
  intro hc _
  obtain ⟨L, hL⟩ : ∃ L, L = s.data.toList := ⟨_, rfl⟩
  obtain ⟨R, hR⟩ : ∃ R, R = unhexV L := ⟨_, rfl⟩
  rw [← hL, ← hR]
  refine CW_seq (CW_region ?_)
  simp only [zZ, reduceIte, Nat.reduceLT, Int.reduceToNat, Int.reduceLE, Int.reduceEq, Int.reduceLT, Nat.reduceEqDiff, Nat.reduceAdd, zUnh]
  refine CW_seq (CW_seq (CW_region ?_))
  simp only [zZ, reduceIte, Nat.reduceLT, Int.reduceToNat, Int.reduceLE, Int.reduceEq, Int.reduceLT, Nat.reduceEqDiff, Nat.reduceAdd, zUnh]
  refine CW_cond (beqB s ⟨#[45]⟩) (by rfl) (fun h => CW_seq (CW_region ?_)) (fun h => CW_skip ?_)
  · simp only [zZ, reduceIte, Nat.reduceLT, Int.reduceToNat, Int.reduceLE, Int.reduceEq, Int.reduceLT, Nat.reduceEqDiff, Nat.reduceAdd, zUnh]
    refine CW_ret ?_
    simp only [zZ, reduceIte, Nat.reduceLT, Int.reduceToNat, Int.reduceLE, Int.reduceEq, Int.reduceLT, Nat.reduceEqDiff, Nat.reduceAdd, zUnh, bEnd, sAnswer, sAnswer.sRes]
    have e : s = ⟨#[45]⟩ := by rw [beqB_dec] at h; exact of_decide_eq_true h
    subst e
    exact told_flat rfl (by rw [hR, hL]; rfl)
  · simp only [zZ, reduceIte, Nat.reduceLT, Int.reduceToNat, Int.reduceLE, Int.reduceEq, Int.reduceLT, Nat.reduceEqDiff, Nat.reduceAdd]
    refine CW_seq (CW_seq (CW_region ?_))
    have hbs : bsize s = L.length := by rw [hL]; rfl
    have hll : L.length ≤ 1000000 := by rw [hL]; exact hs
    cases hb : beqB s ⟨#[]⟩ <;> simp only [zZ, reduceIte, Nat.reduceLT, Int.reduceToNat, Int.reduceLE, Int.reduceEq, Int.reduceLT, Nat.reduceEqDiff, Nat.reduceAdd, zUnh, hb, hbs]
    · have tm : ((L.length : Int).tmod 2 == 1) = decide (L.length % 2 = 1) := by
        rw [Int.tmod_eq_emod_of_nonneg (by omega)]
        by_cases h : L.length % 2 = 1
        · rw [decide_eq_true h]; simp; omega
        · rw [decide_eq_false h]; simp; omega
      rw [tm]
      have hne0 : L ≠ [] := fun e => by
        rw [beqB_dec] at hb
        exact of_decide_eq_false hb (ByteArray.ext (Array.ext' (by rw [← hL]; exact e)))
      have hne1 : L ≠ [45] := fun e => by
        rw [beqB_dec] at h
        exact of_decide_eq_false h (ByteArray.ext (Array.ext' (by rw [← hL]; exact e)))
      have hR2 : R = match unhexL L with | some q => (q, true) | none => ([], false) := by rw [hR, unhexV, if_neg hne1, if_neg hne0]
      refine CW_cond (decide (L.length % 2 = 1)) (by rfl) (fun h => CW_seq (CW_region ?_)) (fun h => CW_skip ?_)
      · simp only [zZ, reduceIte, Nat.reduceLT, Int.reduceToNat, Int.reduceLE, Int.reduceEq, Int.reduceLT, Nat.reduceEqDiff, Nat.reduceAdd, zUnh]
        refine CW_ret ?_
        simp only [zZ, reduceIte, Nat.reduceLT, Int.reduceToNat, Int.reduceLE, Int.reduceEq, Int.reduceLT, Nat.reduceEqDiff, Nat.reduceAdd, zUnh, bEnd, sAnswer, sAnswer.sRes]
        exact told_flat rfl (by rw [hR2, unhexL_odd L (of_decide_eq_true h)]; rfl)
      · simp only [zZ, reduceIte, Nat.reduceLT, Int.reduceToNat, Int.reduceLE, Int.reduceEq, Int.reduceLT, Nat.reduceEqDiff, Nat.reduceAdd]
        have hev : L.length % 2 = 0 := by have := of_decide_eq_false h; omega
        refine CW_seq (CW_region ?_)
        simp only [zZ, reduceIte, Nat.reduceLT, Int.reduceToNat, Int.reduceLE, Int.reduceEq, Int.reduceLT, Nat.reduceEqDiff, Nat.reduceAdd, zUnh]
        refine CW_seq (CW_block (BW_loop hc (fun n f l => ∃ (r q : List UInt8) (V : Value), r.length = n ∧ r.length % 2 = 0 ∧ 2 * q.length + r.length = L.length ∧ unhexL L = (unhexL r).map (q ++ ·) ∧ f = [(0, .string (str r)), (4, V)] ∧
          ((q = [] ∧ V = .slice none 0 0 ∧ l = []) ∨ (q ≠ [] ∧ V = .slice (some ⟨m.size + 0, 0, none⟩) q.length q.length ∧ l = [some (some (.cells false 1 (bytesV q)))]))) L.length ?_ ?_))
        · refine ⟨_, rfl, [], [0, 4], rfl, ?_⟩
          simp only [zZ, reduceIte, Nat.reduceLT, Int.reduceToNat, Int.reduceLE, Int.reduceEq, Int.reduceLT, Nat.reduceEqDiff, Nat.reduceAdd, zG]
          exact ⟨L, [], _, rfl, hev, by simp, by simp, by rw [hL]; rfl, .inl ⟨rfl, rfl⟩⟩
        · rintro n f l ⟨r, q, V, hrn, hr2, hqr, hun, rfl, hV⟩
          refine CW_seq (CW_seq (CW_region ?_))
          simp only [zZ, reduceIte, Nat.reduceLT, Int.reduceToNat, Int.reduceLE, Int.reduceEq, Int.reduceLT, Nat.reduceEqDiff, Nat.reduceAdd, zUnh]
          refine CW_cond (!beqB (str r) ⟨#[]⟩) (by rfl) (fun h => CW_skip ?_) (fun h => CW_exit ?_)
          · simp only [zZ, reduceIte, Nat.reduceLT, Int.reduceToNat, Int.reduceLE, Int.reduceEq, Int.reduceLT, Nat.reduceEqDiff, Nat.reduceAdd]
            have hr0 : r ≠ [] := fun e => by rw [e] at h; revert h; decide
            obtain ⟨a, b, r', hr'⟩ : ∃ a b r', r = a :: b :: r' := by
              match r, hr0, hr2 with
              | [], h, _ => exact absurd rfl h
              | [_], _, h => simp at h
              | a :: b :: r', _, _ => exact ⟨a, b, r', rfl⟩
            have i0 : aIndex Tryd.prog 9 (.string (str r)) (.int .i64 0) = some (.int .u8 a.toNat) := by rw [index_str (str r) 0 0 rfl (by rw [hr', Go.Proofs.YthcleiegefhmdaaDoor.str_size]; simp), hr']; rfl
            have i1 : aIndex Tryd.prog 9 (.string (str r)) (.int .i64 1) = some (.int .u8 b.toNat) := by rw [index_str (str r) 1 1 rfl (by rw [hr', Go.Proofs.YthcleiegefhmdaaDoor.str_size]; simp), hr']; rfl
            refine CW_seq (CW_block (CW_seq (CW_draw hmix 5 (by kernel_rfl) (by kernel_rfl) ?_)))
            simp only [zZ, reduceIte, Nat.reduceLT, Int.reduceToNat, Int.reduceLE, Int.reduceEq, Int.reduceLT, Nat.reduceEqDiff, Nat.reduceAdd, zUnh, i0, i1]
            refine ⟨by kernel_rfl, _, idxByte_spec (str digs) a _, ?_⟩
            have e1 : Lib.indexByte (str digs).data.toList a = digN a := idx_dig a
            have e2 : Lib.indexByte (str digs).data.toList b = digN b := idx_dig b
            refine ⟨by decide, ?_⟩
            simp only [zZ, reduceIte, Nat.reduceLT, Int.reduceToNat, Int.reduceLE, Int.reduceEq, Int.reduceLT, Nat.reduceEqDiff, Nat.reduceAdd, zUnh, i1, e1]
            refine ⟨by kernel_rfl, _, idxByte_spec (str digs) b _, ?_⟩
            rintro _ _ ⟨rfl, rfl⟩
            simp only [zZ, reduceIte, Nat.reduceLT, Int.reduceToNat, Int.reduceLE, Int.reduceEq, Int.reduceLT, Nat.reduceEqDiff, Nat.reduceAdd, zUnh, e2]
            refine CW_seq (CW_seq (CW_region ?_))
            have a1 := digN_ge a
            have a2 := digN_lt a
            have b1 := digN_ge b
            have b2 := digN_lt b
            cases ca : decide (digN a < 0) <;> cases cb : decide (digN b < 0) <;> simp only [zZ, reduceIte, Nat.reduceLT, Int.reduceToNat, Int.reduceLE, Int.reduceEq, Int.reduceLT, Nat.reduceEqDiff, Nat.reduceAdd, zUnh, ca, cb]
            case' false.false =>
              refine CW_cond false (by rfl) (fun h => by cases h) (fun _ => CW_skip ?_)
              simp only [zZ, reduceIte, Nat.reduceLT, Int.reduceToNat, Int.reduceLE, Int.reduceEq, Int.reduceLT, Nat.reduceEqDiff, Nat.reduceAdd]
              refine CW_region ?_
              have od := or_dig a b (of_decide_eq_false ca) (of_decide_eq_false cb)
              obtain ⟨d, hd⟩ : ∃ d, d = UInt8.ofNat (16 * digN a + digN b).toNat := ⟨_, rfl⟩
              rw [← hd] at od
              have hsl : ∀ get : Nat → Option Blk, gSlice Tryd.prog get 9 (.string (str r)) (some (.int .i64 2)) none = some (.string (str r')) := fun get => by
                rw [slice_from (str r) 2 (by decide) (by rw [hr']; show (2 : Int) ≤ ((str (a :: b :: r')).size : Nat); rw [Go.Proofs.YthcleiegefhmdaaDoor.str_size]; simp only [List.length_cons]; omega), hr']
                congr 2
                unfold bsub
                congr 2
                show ((a :: b :: r').drop 2).take _ = r'
                rw [List.take_of_length_le]
                · rfl
                · show r'.length ≤ (str (a :: b :: r')).size - 2
                  rw [Go.Proofs.YthcleiegefhmdaaDoor.str_size]; simp
              have hun' : ∀ z, unhexL r' = z → unhexL r = z.map (d :: ·) := fun z hz => by
                rw [hr', unhexL, if_neg (by have := of_decide_eq_false ca; have := of_decide_eq_false cb; omega), hz, hd]
                cases z <;> rfl
              have hun2 : unhexL L = (unhexL r').map ((q ++ [d]) ++ ·) := by
                rw [hun, hun' _ rfl, Option.map_map]
                congr 1
                funext z; simp
              rcases hV with ⟨rfl, rfl, rfl⟩ | ⟨hq0, rfl, rfl⟩
              · have ha : aAppend Tryd.prog (ext m [some (some (.cells false 1 [.int .u8 d.toNat]))]) 35 35 (.slice none 0 0) (.slice (some ⟨m.size + 0, 0, none⟩) 1 1) =
                    some (.slice (some ⟨m.size + 1, 0, none⟩) 1 1, ext m [some (some (.cells false 1 [.int .u8 d.toNat])), some (some (.cells false 1 [.int .u8 d.toNat]))]) :=
                  bapp_nil Tryd.underlying35 inf_u8 u8_zero u8_size rfl m _ (src_block Tryd.underlying35 (by rw [ext_get]; rfl) rfl) (by decide) (by rw [u8_bytes]; decide) (by decide)
                simp only [zZ, reduceIte, Nat.reduceLT, Int.reduceToNat, Int.reduceLE, Int.reduceEq, Int.reduceLT, Nat.reduceEqDiff, Nat.reduceAdd, zUnh, od, List.nil_append, List.length_nil, ha]
                refine CW_region ?_
                simp only [zZ, reduceIte, Nat.reduceLT, Int.reduceToNat, Int.reduceLE, Int.reduceEq, Int.reduceLT, Nat.reduceEqDiff, Nat.reduceAdd, zUnh, hsl]
                refine ⟨_, rfl, [1], [0, 4], rfl, ?_⟩
                simp only [zZ, reduceIte, Nat.reduceLT, Int.reduceToNat, Int.reduceLE, Int.reduceEq, Int.reduceLT, Nat.reduceEqDiff, Nat.reduceAdd, zG]
                exact ⟨n - 2, ⟨r', [d], _, by rw [← hrn, hr']; simp, by rw [hr'] at hr2; simp at hr2; omega, by rw [hr'] at hqr; simp at hqr ⊢; omega, hun2, rfl, .inr ⟨by simp, rfl, rfl⟩⟩, by rw [← hrn, hr']; simp only [List.length_cons]; omega⟩
              · have hlb : (bytesV q).length = q.length := by simp [bytesV]
                have hx3 : bytesV q ++ [.int .u8 d.toNat] = bytesV (q ++ [d]) := by simp [bytesV, byteV]
                have ha : aAppend Tryd.prog (ext m [some (some (.cells false 1 (bytesV q))), some (some (.cells false 1 [.int .u8 d.toNat]))]) 35 35 (.slice (some ⟨m.size + 0, 0, none⟩) q.length q.length) (.slice (some ⟨m.size + 1, 0, none⟩) 1 1) =
                    some (.slice (some ⟨m.size + 2, 0, none⟩) (q.length + 1) (q.length + 1), ext m [some none, some (some (.cells false 1 [.int .u8 d.toNat])), some (some (.cells false 1 (bytesV q ++ [.int .u8 d.toNat])))]) :=
                  bapp Tryd.underlying35 inf_u8 u8_zero u8_size rfl m _ (src_block Tryd.underlying35 (by rw [ext_get]; rfl) rfl) (by decide) rfl (by rw [hlb]; omega) (by rw [u8_bytes]; omega) (by omega)
                rw [hx3] at ha
                have rb : renL (ren (sig m.size [2]) 4) (bytesV (q ++ [d])) = some (bytesV (q ++ [d])) := renL_flat fun x hx => by
                  simp only [bytesV, List.mem_map] at hx
                  obtain ⟨y, _, rfl⟩ := hx
                  rfl
                simp only [zZ, reduceIte, Nat.reduceLT, Int.reduceToNat, Int.reduceLE, Int.reduceEq, Int.reduceLT, Nat.reduceEqDiff, Nat.reduceAdd, zUnh, od, List.cons_append, List.nil_append, List.length_cons, List.length_nil, ha]
                refine CW_region ?_
                simp only [zZ, reduceIte, Nat.reduceLT, Int.reduceToNat, Int.reduceLE, Int.reduceEq, Int.reduceLT, Nat.reduceEqDiff, Nat.reduceAdd, zUnh, hsl]
                refine ⟨_, rfl, [2], [0, 4], rfl, ?_⟩
                simp only [zZ, reduceIte, Nat.reduceLT, Int.reduceToNat, Int.reduceLE, Int.reduceEq, Int.reduceLT, Nat.reduceEqDiff, Nat.reduceAdd, zG, rb]
                exact ⟨n - 2, ⟨r', q ++ [d], _, by rw [← hrn, hr']; simp, by rw [hr'] at hr2; simp at hr2; omega, by rw [hr'] at hqr; simp at hqr ⊢; omega, hun2, rfl, .inr ⟨by simp, by simp, rfl⟩⟩, by rw [← hrn, hr']; simp only [List.length_cons]; omega⟩
            all_goals
              refine CW_cond true (by rfl) (fun _ => CW_seq (CW_region ?_)) (fun h => by cases h)
              simp only [zZ, reduceIte, Nat.reduceLT, Int.reduceToNat, Int.reduceLE, Int.reduceEq, Int.reduceLT, Nat.reduceEqDiff, Nat.reduceAdd, zUnh]
              refine CW_ret ?_
              simp only [zZ, reduceIte, Nat.reduceLT, Int.reduceToNat, Int.reduceLE, Int.reduceEq, Int.reduceLT, Nat.reduceEqDiff, Nat.reduceAdd, zUnh, bEnd, sAnswer, sAnswer.sRes]
              refine told_flat rfl ?_
              have hn : unhexL r = none := by
                rw [hr', unhexL, if_pos]
                first | exact .inl (of_decide_eq_true ca) | exact .inr (of_decide_eq_true cb)
              rw [hR2, hun, hn]; rfl
          · have hr0 : r = [] := by
              rw [beqB_dec] at h
              have h : str r = ⟨#[]⟩ := by simpa using h
              exact congrArg (fun x => x.data.toList) h
            subst hr0
            simp only [zZ, reduceIte, Nat.reduceLT, Int.reduceToNat, Int.reduceLE, Int.reduceEq, Int.reduceLT, Nat.reduceEqDiff, Nat.reduceAdd]
            refine CW_seq (CW_region ?_)
            rcases hV with ⟨rfl, rfl, rfl⟩ | ⟨hq0, rfl, rfl⟩
            · exact absurd (List.eq_nil_of_length_eq_zero (by simp at hqr; omega)) hne0
            · simp only [zZ, reduceIte, Nat.reduceLT, Int.reduceToNat, Int.reduceLE, Int.reduceEq, Int.reduceLT, Nat.reduceEqDiff, Nat.reduceAdd, zUnh]
              rw [to_str (ro := false) (st := 1) (l := q) (by rw [ext_get]; rfl) rfl]
              simp only [zZ, reduceIte, Nat.reduceLT, Int.reduceToNat, Int.reduceLE, Int.reduceEq, Int.reduceLT, Nat.reduceEqDiff, Nat.reduceAdd, zUnh]
              refine CW_ret ?_
              simp only [zZ, reduceIte, Nat.reduceLT, Int.reduceToNat, Int.reduceLE, Int.reduceEq, Int.reduceLT, Nat.reduceEqDiff, Nat.reduceAdd, zUnh, bEnd, sAnswer, sAnswer.sRes]
              refine told_flat rfl ?_
              rw [hR2, hun]
              simp [unhexL]
    · refine CW_cond true (by rfl) (fun _ => CW_seq (CW_region ?_)) (fun h => by cases h)
      simp only [zZ, reduceIte, Nat.reduceLT, Int.reduceToNat, Int.reduceLE, Int.reduceEq, Int.reduceLT, Nat.reduceEqDiff, Nat.reduceAdd, zUnh]
      refine CW_ret ?_
      simp only [zZ, reduceIte, Nat.reduceLT, Int.reduceToNat, Int.reduceLE, Int.reduceEq, Int.reduceLT, Nat.reduceEqDiff, Nat.reduceAdd, zUnh, bEnd, sAnswer, sAnswer.sRes]
      have e : s = ⟨#[]⟩ := by rw [beqB_dec] at hb; exact of_decide_eq_true hb
      subst e
      exact told_flat rfl (by rw [hR, hL]; rfl)
end Go.Proofs.YthcleiegefhmdaaDoor
namespace Go.Proofs.YthcleiegefhmdaaDoor
open Go.RowKit Abs
def numQ (l : List UInt8) (a b : Int) : Option Int := if (numP l a b).2 = true then some (numP l a b).1 else none
def addS (L : List StepL) (r : Option (StepL × Nat)) : Option (List StepL) := match r with
  | none => none
  | some (x, t) => if L.length + t ≤ 4096 then some (L ++ List.replicate t x) else none
def stepsOf (st : PState) : List StepL := st.steps.map Prod.fst
def Added (K : Nat) (m : Mem) (p : Nat) (st : PState) (r : Option (StepL × Nat)) (u : Value) (M : Mem) : Prop :=
  Keeps K m M ∧ m.size ≤ M.size ∧ ∃ st', PAt K M p st' ∧ st'.n = st.n ∧ match addS (stepsOf st) r with
    | none => u = .bool false
    | some L => u = .bool true ∧ stepsOf st' = L ∧ st'.a = st.a ∧ st'.b = st.b ∧ st'.c = st.c ∧ st'.d = st.d
theorem Added.mono {K : Nat} {m m' M : Mem} {p : Nat} {st : PState} {r : Option (StepL × Nat)} {u : Value} (h : Added K m' p st r u M) (hk : Keeps K m m') (hs : m.size ≤ m'.size) : Added K m p st r u M :=
  ⟨hk.trans h.1, by have := h.2.1; omega, h.2.2⟩
theorem Added.no {K : Nat} {m M : Mem} {p : Nat} {st : PState} (hp : PAt K M p st) (hk : Keeps K m M) (hs : m.size ≤ M.size) : Added K m p st none (.bool false) M := ⟨hk, hs, st, hp, rfl, rfl⟩
theorem stepsOf_len (st : PState) : (stepsOf st).length = st.steps.length := by simp [stepsOf]
theorem added_spec (K p : Nat) (st : PState) (x : StepL) (V : Value) (times : Nat) (tv : Int) (htv : tv = times) (m : Mem) (hp : PAt K m p st) (hK : K ≤ m.size) (hV : FilesAt m V x.files) (hlen : st.steps.length ≤ 4096) (ht : times ≤ 1000000) :
    Abs.Spec Tryd.prog 36 [.pointer (some ⟨p, 0, none⟩), .agg (stepC (x, V)).toArray, .int .i64 tv] m (Added K m p st (some (x, times))) := by
  subst htv
  refine (step_spec K p st (x, V) times m hp hK hV hlen ht).thin ?_
  rintro u M ⟨h1, h2, h3, h4⟩
  refine ⟨M, Thin.refl _, h1, h2, _, h4, rfl, ?_⟩
  have e : addS (stepsOf st) (some (x, times)) = if st.steps.length + times ≤ 4096 then some (stepsOf st ++ List.replicate times x) else none := by
    rw [← stepsOf_len]; rfl
  rw [e]
  by_cases h : st.steps.length + times ≤ 4096
  · rw [if_pos h, if_pos h, h3, decide_eq_true h]
    exact ⟨rfl, by simp [stepsOf], rfl, rfl, rfl, rfl⟩
  · rw [if_neg h, h3, decide_eq_false h]
theorem Added.bool {K : Nat} {m M : Mem} {p : Nat} {st : PState} {r : Option (StepL × Nat)} {u : Value} (hA : Added K m p st r u M) : ∃ bb, u = .bool bb := by
  obtain ⟨_, _, st', _, _, h⟩ := hA
  revert h
  split
  · exact fun h => ⟨_, h⟩
  · exact fun h => ⟨_, h.1⟩
def wSender : List UInt8 := [115, 101, 110, 100, 101, 114]
def wReceiver : List UInt8 := [114, 101, 99, 101, 105, 118, 101, 114]
def wDrop : List UInt8 := [100, 114, 111, 112]
def stepK (k n : Int) : StepL := ⟨k, n, [], [], false, 0, 0⟩
def sideOf (ws : List (List UInt8)) (s r : Int) : Option (StepL × Nat) := match ws with
  | [a, b] => if a = wSender then (numQ b (-1) 4611686018427387903).map fun n => (stepK s n, 1) else if a = wReceiver then (numQ b (-1) 4611686018427387903).map fun n => (stepK r n, 1) else none
  | _ => none
def injectOf (ws : List (List UInt8)) : Option (StepL × Nat) := match ws with
  | [a, b, c] => if a = wSender ∨ a = wReceiver then
      (if (unhexV b).2 = true then (numQ c 0 64).map fun n => (⟨6, if a = wSender then 1 else 0, [], (unhexV b).1, false, n, 0⟩, 1) else none) else none
  | _ => none
def fateOf (ws : List (List UInt8)) : Option (StepL × Nat) := match ws with
  | [a] => if a = wDrop then some (⟨7, 0, [], [], true, 0, 0⟩, 1) else none
  | [a, b] => (numQ a 0 64).bind fun d => (numQ b 0 3).map fun c => (⟨7, 0, [], [], false, d, c⟩, 1)
  | _ => none
theorem build_step2 (k n : Int) : aBuild Tryd.prog 41 [(0, .int .i64 k), (1, .int .i64 n)] = some (.agg (stepC (stepK k n, .slice none 0 0)).toArray) := by kernel_rfl
theorem build_step1 (k : Int) : aBuild Tryd.prog 41 [(0, .int .i64 k)] = some (.agg (stepC (stepK k 0, .slice none 0 0)).toArray) := by kernel_rfl
theorem build_fate1 (b : Bool) : aBuild Tryd.prog 39 [(0, .bool b)] = some (.agg #[.bool b, .int .i64 0, .int .i64 0]) := by kernel_rfl
theorem build_fateD (n : Int) : aBuild Tryd.prog 39 [(1, .int .i64 n)] = some (.agg #[.bool false, .int .i64 n, .int .i64 0]) := by kernel_rfl
theorem build_fateC (n c : Int) : aBuild Tryd.prog 39 [(1, .int .i64 n), (2, .int .i64 c)] = some (.agg #[.bool false, .int .i64 n, .int .i64 c]) := by kernel_rfl
theorem build_stepF (k : Int) (b : Bool) (d c : Int) : aBuild Tryd.prog 41 [(0, .int .i64 k), (4, .agg #[.bool b, .int .i64 d, .int .i64 c])] = some (.agg (stepC (⟨k, 0, [], [], b, d, c⟩, .slice none 0 0)).toArray) := by kernel_rfl
theorem build_stepI (k : Int) (t : ByteArray) (b : Bool) (d c : Int) : aBuild Tryd.prog 41 [(0, .int .i64 k), (3, .string t), (4, .agg #[.bool b, .int .i64 d, .int .i64 c])] = some (.agg #[.int .i64 k, .int .i64 0, .slice none 0 0, .string t, .bool b, .int .i64 d, .int .i64 c]) := by kernel_rfl
set_option maxRecDepth 100000 in
set_option maxHeartbeats 2000000 in
theorem side_spec (K p : Nat) (st : PState) (ws : List (List UInt8)) (g o n c : Nat) (all : List Value) (s r : Int) (m : Mem) (hp : PAt K m p st) (hK : K ≤ m.size) (hlen : st.steps.length ≤ 4096) (hg : m.get g = some (.cells true 1 all)) (ha : ∀ i w, ws[i]? = some w → all[o + i]? = some (.string (str w)))
    (hn : ws.length = n) (hs : ∀ w ∈ ws, w.length ≤ 1000000) :
    Abs.Spec Tryd.prog 37 [.pointer (some ⟨p, 0, none⟩), .slice (some ⟨g, o, none⟩) n c, .int .i64 s, .int .i64 r] m (Added K m p st (sideOf ws s r)) := by
  refine Abs.Spec.walkM Tryd.func37 (by rfl) _ Tryd.results37 _ Tryd.ntmps37 (by simp) ?_
  intro hc hx k
  obtain ⟨R, hR⟩ : ∃ R, R = sideOf ws s r := ⟨_, rfl⟩
  rw [← hR]
  have no : R = none → ∃ m', Thin m m' ∧ Added K m p st R (.bool false) m' := fun h => ⟨m, Thin.refl _, by rw [h]; exact Added.no hp (Keeps.refl _ _) (Nat.le_refl _)⟩
  refine CW_seq (CW_region ?_)
  simp only [zZ, reduceIte, Nat.reduceLT, Int.reduceToNat, Int.reduceLE, Int.reduceEq, Int.reduceLT, Nat.reduceEqDiff, Nat.reduceAdd, zTy]
  refine CW_seq (CW_seq (CW_region ?_))
  by_cases h2 : n = 2
  case' neg =>
    have z0 : ((n : Int) != 2) = true := by rw [bne_iff_ne]; omega
    simp only [zZ, reduceIte, Nat.reduceLT, Int.reduceToNat, Int.reduceLE, Int.reduceEq, Int.reduceLT, Nat.reduceEqDiff, Nat.reduceAdd, zTy, z0]
    refine CW_cond true (by rfl) (fun _ => CW_seq (CW_region ?_)) (fun h => by cases h)
    simp only [zZ, reduceIte, Nat.reduceLT, Int.reduceToNat, Int.reduceLE, Int.reduceEq, Int.reduceLT, Nat.reduceEqDiff, Nat.reduceAdd, zTy]
    refine CW_ret ?_
    simp only [zZ, reduceIte, Nat.reduceLT, Int.reduceToNat, Int.reduceLE, Int.reduceEq, Int.reduceLT, Nat.reduceEqDiff, Nat.reduceAdd, zTy, mEnd, sAnswer, sAnswer.sRes]
    refine no ?_
    rw [hR]
    match ws, hn with
    | [], _ => rfl
    | [_], _ => rfl
    | [_, _], h => exact absurd h.symm h2
    | _ :: _ :: _ :: _, _ => rfl
  subst h2
  obtain ⟨w0, w1, rfl⟩ : ∃ w0 w1, ws = [w0, w1] := by
    match ws, hn with
    | [w0, w1], _ => exact ⟨w0, w1, rfl⟩
  have a0 := ha 0 w0 rfl
  have a1 := ha 1 w1 rfl
  have l2 : ((2 : Nat) : Int) = 2 := rfl
  have z0 : ((2 : Int) != 2) = false := rfl
  have b0 : beqB (str w0) ⟨#[115, 101, 110, 100, 101, 114]⟩ = decide (w0 = wSender) := beqB_str w0 _
  have b1 : beqB (str w0) ⟨#[114, 101, 99, 101, 105, 118, 101, 114]⟩ = decide (w0 = wReceiver) := beqB_str w0 _
  have hR1 : R = if w0 = wSender then (numQ w1 (-1) 4611686018427387903).map fun n => (stepK s n, 1) else if w0 = wReceiver then (numQ w1 (-1) 4611686018427387903).map fun n => (stepK r n, 1) else none := hR
  have hw1 := hs w1 (by simp)
  have adds : ∀ (k x : Int), R = some (stepK k x, 1) → Abs.Spec Tryd.prog 36 [.pointer (some ⟨p, 0, none⟩), .agg (stepC (stepK k x, .slice none 0 0)).toArray, .int .i64 1] m (Added K m p st R) := fun k x h => by
    rw [h]; exact added_spec K p st (stepK k x) _ 1 1 rfl m hp hK (FilesAt.nil m) hlen (by decide)
  cases c0 : decide (w0 = wSender)
  · have c0' := of_decide_eq_false c0
    cases c1 : decide (w0 = wReceiver)
    · simp only [zZ, reduceIte, Nat.reduceLT, Int.reduceToNat, Int.reduceLE, Int.reduceEq, Int.reduceLT, Nat.reduceEqDiff, Nat.reduceAdd, zTy, l2, z0, hg, a0, b0, b1, c0, c1]
      refine CW_cond true (by rfl) (fun _ => CW_seq (CW_region ?_)) (fun h => by cases h)
      simp only [zZ, reduceIte, Nat.reduceLT, Int.reduceToNat, Int.reduceLE, Int.reduceEq, Int.reduceLT, Nat.reduceEqDiff, Nat.reduceAdd, zTy]
      refine CW_ret ?_
      simp only [zZ, reduceIte, Nat.reduceLT, Int.reduceToNat, Int.reduceLE, Int.reduceEq, Int.reduceLT, Nat.reduceEqDiff, Nat.reduceAdd, zTy, mEnd, sAnswer, sAnswer.sRes]
      exact no (by rw [hR1, if_neg c0', if_neg (of_decide_eq_false c1)])
    · have hR2 : R = (numQ w1 (-1) 4611686018427387903).map fun n => (stepK r n, 1) := by rw [hR1, if_neg c0', if_pos (of_decide_eq_true c1)]
      simp only [zZ, reduceIte, Nat.reduceLT, Int.reduceToNat, Int.reduceLE, Int.reduceEq, Int.reduceLT, Nat.reduceEqDiff, Nat.reduceAdd, zTy, l2, z0, hg, a0, b0, b1, c0, c1]
      refine CW_cond false (by rfl) (fun h => by cases h) (fun _ => CW_skip ?_)
      simp only [zZ, reduceIte, Nat.reduceLT, Int.reduceToNat, Int.reduceLE, Int.reduceEq, Int.reduceLT, Nat.reduceEqDiff, Nat.reduceAdd]
      refine CW_seq (CW_region ?_)
      simp only [zZ, reduceIte, Nat.reduceLT, Int.reduceToNat, Int.reduceLE, Int.reduceEq, Int.reduceLT, Nat.reduceEqDiff, Nat.reduceAdd, zTy, l2, hg, a1]
      refine ⟨by kernel_rfl, _, number_spec (str w1) (-1) 4611686018427387903 (by rw [Go.Proofs.YthcleiegefhmdaaDoor.str_size]; omega) _, ?_⟩
      rintro _ _ ⟨rfl, rfl⟩
      simp only [zZ, reduceIte, Nat.reduceLT, Int.reduceToNat, Int.reduceLE, Int.reduceEq, Int.reduceLT, Nat.reduceEqDiff, Nat.reduceAdd, zTy, str_data]
      unfold numQ at hR2
      rcases hxk : numP w1 (-1) 4611686018427387903 with ⟨x, ok⟩
      rw [hxk] at hR2
      refine CW_seq (CW_seq (CW_region ?_))
      simp only [zZ, reduceIte, Nat.reduceLT, Int.reduceToNat, Int.reduceLE, Int.reduceEq, Int.reduceLT, Nat.reduceEqDiff, Nat.reduceAdd, zTy, l2, hg, a0, b0, c0]
      refine CW_cond false (by rfl) (fun h => by cases h) (fun _ => CW_skip ?_)
      simp only [zZ, reduceIte, Nat.reduceLT, Int.reduceToNat, Int.reduceLE, Int.reduceEq, Int.reduceLT, Nat.reduceEqDiff, Nat.reduceAdd]
      refine CW_seq (CW_region ?_)
      cases ok
      · simp only [zZ, reduceIte, Nat.reduceLT, Int.reduceToNat, Int.reduceLE, Int.reduceEq, Int.reduceLT, Nat.reduceEqDiff, Nat.reduceAdd, zTy]
        refine CW_ret ?_
        simp only [zZ, reduceIte, Nat.reduceLT, Int.reduceToNat, Int.reduceLE, Int.reduceEq, Int.reduceLT, Nat.reduceEqDiff, Nat.reduceAdd, zTy, mEnd, sAnswer, sAnswer.sRes]
        exact no (by rw [hR2]; rfl)
      · simp only [zZ, reduceIte, Nat.reduceLT, Int.reduceToNat, Int.reduceLE, Int.reduceEq, Int.reduceLT, Nat.reduceEqDiff, Nat.reduceAdd, zTy, build_step2]
        refine ⟨by kernel_rfl, _, adds r x (by rw [hR2]; rfl), ?_⟩
        rintro u M hA
        obtain ⟨bb, hbb⟩ := hA.bool
        subst hbb
        simp only [zZ, reduceIte, Nat.reduceLT, Int.reduceToNat, Int.reduceLE, Int.reduceEq, Int.reduceLT, Nat.reduceEqDiff, Nat.reduceAdd, zTy]
        refine CW_ret ?_
        simp only [zZ, reduceIte, Nat.reduceLT, Int.reduceToNat, Int.reduceLE, Int.reduceEq, Int.reduceLT, Nat.reduceEqDiff, Nat.reduceAdd, zTy, mEnd, sAnswer, sAnswer.sRes]
        exact ⟨M, Thin.refl _, hA⟩
  · have hR2 : R = (numQ w1 (-1) 4611686018427387903).map fun n => (stepK s n, 1) := by rw [hR1, if_pos (of_decide_eq_true c0)]
    simp only [zZ, reduceIte, Nat.reduceLT, Int.reduceToNat, Int.reduceLE, Int.reduceEq, Int.reduceLT, Nat.reduceEqDiff, Nat.reduceAdd, zTy, l2, z0, hg, a0, b0, b1, c0]
    refine CW_cond false (by rfl) (fun h => by cases h) (fun _ => CW_skip ?_)
    simp only [zZ, reduceIte, Nat.reduceLT, Int.reduceToNat, Int.reduceLE, Int.reduceEq, Int.reduceLT, Nat.reduceEqDiff, Nat.reduceAdd]
    refine CW_seq (CW_region ?_)
    simp only [zZ, reduceIte, Nat.reduceLT, Int.reduceToNat, Int.reduceLE, Int.reduceEq, Int.reduceLT, Nat.reduceEqDiff, Nat.reduceAdd, zTy, l2, hg, a1]
    refine ⟨by kernel_rfl, _, number_spec (str w1) (-1) 4611686018427387903 (by rw [Go.Proofs.YthcleiegefhmdaaDoor.str_size]; omega) _, ?_⟩
    rintro _ _ ⟨rfl, rfl⟩
    simp only [zZ, reduceIte, Nat.reduceLT, Int.reduceToNat, Int.reduceLE, Int.reduceEq, Int.reduceLT, Nat.reduceEqDiff, Nat.reduceAdd, zTy, str_data]
    unfold numQ at hR2
    rcases hxk : numP w1 (-1) 4611686018427387903 with ⟨x, ok⟩
    rw [hxk] at hR2
    refine CW_seq (CW_seq (CW_region ?_))
    simp only [zZ, reduceIte, Nat.reduceLT, Int.reduceToNat, Int.reduceLE, Int.reduceEq, Int.reduceLT, Nat.reduceEqDiff, Nat.reduceAdd, zTy, l2, hg, a0, b0, c0]
    refine CW_cond true (by rfl) (fun _ => CW_seq (CW_region ?_)) (fun h => by cases h)
    cases ok
    · simp only [zZ, reduceIte, Nat.reduceLT, Int.reduceToNat, Int.reduceLE, Int.reduceEq, Int.reduceLT, Nat.reduceEqDiff, Nat.reduceAdd, zTy]
      refine CW_ret ?_
      simp only [zZ, reduceIte, Nat.reduceLT, Int.reduceToNat, Int.reduceLE, Int.reduceEq, Int.reduceLT, Nat.reduceEqDiff, Nat.reduceAdd, zTy, mEnd, sAnswer, sAnswer.sRes]
      exact no (by rw [hR2]; rfl)
    · simp only [zZ, reduceIte, Nat.reduceLT, Int.reduceToNat, Int.reduceLE, Int.reduceEq, Int.reduceLT, Nat.reduceEqDiff, Nat.reduceAdd, zTy, build_step2]
      refine ⟨by kernel_rfl, _, adds s x (by rw [hR2]; rfl), ?_⟩
      rintro u M hA
      obtain ⟨bb, hbb⟩ := hA.bool
      subst hbb
      simp only [zZ, reduceIte, Nat.reduceLT, Int.reduceToNat, Int.reduceLE, Int.reduceEq, Int.reduceLT, Nat.reduceEqDiff, Nat.reduceAdd, zTy]
      refine CW_ret ?_
      simp only [zZ, reduceIte, Nat.reduceLT, Int.reduceToNat, Int.reduceLE, Int.reduceEq, Int.reduceLT, Nat.reduceEqDiff, Nat.reduceAdd, zTy, mEnd, sAnswer, sAnswer.sRes]
      exact ⟨M, Thin.refl _, hA⟩
end Go.Proofs.YthcleiegefhmdaaDoor
