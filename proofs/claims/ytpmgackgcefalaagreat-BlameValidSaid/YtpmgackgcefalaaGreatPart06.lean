/-
  The walks of the searches in lists of headers.
  The walks of the searches for a header, and of the tests whether two archives are the same.
  The walks of header: its check.
  The walks of header: it is verified.
  The walk of enc.Take.
  The walk of header.Take.
  The walks of bitset, as far as a packet's check needs them: they end, and answer a set, or a yes or no.
  The walk of bitset.Take: it ends, and answers some set.
  The walk of header.Take: what is no header.
  The walks of packet.Check: an offer's answer; any other packet has some answer.
  The walks of the small parts of packet.Take: strings.CutPrefix at its mark, enc.Take of a text that is too short, the reader's two methods.
  The walk of packet.Take: an offer.
  The walks of packet.Check: an answer, and data.
  The walk of packet.Take: what is no offer.
  The walk of packet.Take: other kinds.
  The walk of packet.Take: answers.
  The walk of packet.Take: data.
  The walk of blame.offered: the header of an offer.
  The walks of the document's answer for layer 1: numbers as bytes, and back; lists of texts.
-/
import Derived.Test.YtpmgackgcefalaaGreatPart05
import Derived.DeepKeys
import Derived.Deep.RegionHeld3
import Derived.Deep.CutRange
import Derived.Deep.AppendLies
set_option linter.unusedSimpArgs false
set_option linter.unusedVariables false
set_option linter.unusedSectionVars false
set_option linter.unnecessarySimpa false
set_option linter.defProp false
namespace Go.Proofs.YtpmgackgcefalaaGreat
open Go.RowKit
instance : DecidableEq Header := fun a b => by
  cases a; cases b
  simp only [Header.mk.injEq]
  exact inferInstance
set_option maxRecDepth 100000 in
theorem head_eq (h k : Header) (w : World) : (Op.equalIn 10000 30 h.val k.val).run Tryz.prog w = .ok (decide (h = k)) w := by
  obtain ⟨h0, h1, h2, h3, h4, h5, h6⟩ := h
  obtain ⟨k0, k1, k2, k3, k4, k5, k6⟩ := k
  simp only [Header.val]
  rw [run_equalIn_agg w 9999 _ _ _ (by simp [Program.fieldsOf, Tryz.underlying30]) (by kernel_rfl)]
  have pi : Tryz.prog.plainKey 3 = true := by kernel_rfl
  have ps : Tryz.prog.plainKey 9 = true := by kernel_rfl
  have pX0 (W : World) : (part 3 #[.int .i64 h0, .string h1, .int .i64 h2, .int .i64 h3, .int .i64 h4, .string h5, .string h6] 0).run Tryz.prog W = .ok (.int .i64 h0) W := run_part_plain W pi rfl
  have pX1 (W : World) : (part 9 #[.int .i64 h0, .string h1, .int .i64 h2, .int .i64 h3, .int .i64 h4, .string h5, .string h6] 1).run Tryz.prog W = .ok (.string h1) W := run_part_plain W ps rfl
  have pX2 (W : World) : (part 3 #[.int .i64 h0, .string h1, .int .i64 h2, .int .i64 h3, .int .i64 h4, .string h5, .string h6] 2).run Tryz.prog W = .ok (.int .i64 h2) W := run_part_plain W pi rfl
  have pX3 (W : World) : (part 3 #[.int .i64 h0, .string h1, .int .i64 h2, .int .i64 h3, .int .i64 h4, .string h5, .string h6] 3).run Tryz.prog W = .ok (.int .i64 h3) W := run_part_plain W pi rfl
  have pX4 (W : World) : (part 3 #[.int .i64 h0, .string h1, .int .i64 h2, .int .i64 h3, .int .i64 h4, .string h5, .string h6] 4).run Tryz.prog W = .ok (.int .i64 h4) W := run_part_plain W pi rfl
  have pX5 (W : World) : (part 9 #[.int .i64 h0, .string h1, .int .i64 h2, .int .i64 h3, .int .i64 h4, .string h5, .string h6] 5).run Tryz.prog W = .ok (.string h5) W := run_part_plain W ps rfl
  have pX6 (W : World) : (part 9 #[.int .i64 h0, .string h1, .int .i64 h2, .int .i64 h3, .int .i64 h4, .string h5, .string h6] 6).run Tryz.prog W = .ok (.string h6) W := run_part_plain W ps rfl
  generalize (#[.int .i64 h0, .string h1, .int .i64 h2, .int .i64 h3, .int .i64 h4, .string h5, .string h6] : Array Value) = X at *
  have pY0 (W : World) : (part 3 #[.int .i64 k0, .string k1, .int .i64 k2, .int .i64 k3, .int .i64 k4, .string k5, .string k6] 0).run Tryz.prog W = .ok (.int .i64 k0) W := run_part_plain W pi rfl
  have pY1 (W : World) : (part 9 #[.int .i64 k0, .string k1, .int .i64 k2, .int .i64 k3, .int .i64 k4, .string k5, .string k6] 1).run Tryz.prog W = .ok (.string k1) W := run_part_plain W ps rfl
  have pY2 (W : World) : (part 3 #[.int .i64 k0, .string k1, .int .i64 k2, .int .i64 k3, .int .i64 k4, .string k5, .string k6] 2).run Tryz.prog W = .ok (.int .i64 k2) W := run_part_plain W pi rfl
  have pY3 (W : World) : (part 3 #[.int .i64 k0, .string k1, .int .i64 k2, .int .i64 k3, .int .i64 k4, .string k5, .string k6] 3).run Tryz.prog W = .ok (.int .i64 k3) W := run_part_plain W pi rfl
  have pY4 (W : World) : (part 3 #[.int .i64 k0, .string k1, .int .i64 k2, .int .i64 k3, .int .i64 k4, .string k5, .string k6] 4).run Tryz.prog W = .ok (.int .i64 k4) W := run_part_plain W pi rfl
  have pY5 (W : World) : (part 9 #[.int .i64 k0, .string k1, .int .i64 k2, .int .i64 k3, .int .i64 k4, .string k5, .string k6] 5).run Tryz.prog W = .ok (.string k5) W := run_part_plain W ps rfl
  have pY6 (W : World) : (part 9 #[.int .i64 k0, .string k1, .int .i64 k2, .int .i64 k3, .int .i64 k4, .string k5, .string k6] 6).run Tryz.prog W = .ok (.string k6) W := run_part_plain W ps rfl
  generalize (#[.int .i64 k0, .string k1, .int .i64 k2, .int .i64 k3, .int .i64 k4, .string k5, .string k6] : Array Value) = Y at *
  have qi (x y : Int) (W : World) : (Op.equalIn 9999 3 (.int .i64 x) (.int .i64 y)).run Tryz.prog W = .ok (x == y) W := run_equalIn_int W 9998 _ _ _ x y Tryz.underlying3
  have qs (x y : ByteArray) (W : World) : (Op.equalIn 9999 9 (.string x) (.string y)).run Tryz.prog W = .ok (x.toList == y.toList) W := run_equalIn_string W 9998 _ x y Tryz.underlying9
  by_cases e0 : h0 = k0
  case neg => simp [Program.fieldsOf, Tryz.underlying30, Op.eqFields, pX0, pY0, qi, qs, text_beq, e0]
  by_cases e1 : h1 = k1
  case neg => simp [Program.fieldsOf, Tryz.underlying30, Op.eqFields, pX0, pY0, pX1, pY1, qi, qs, text_beq, e0, e1]
  by_cases e2 : h2 = k2
  case neg => simp [Program.fieldsOf, Tryz.underlying30, Op.eqFields, pX0, pY0, pX1, pY1, pX2, pY2, qi, qs, text_beq, e0, e1, e2]
  by_cases e3 : h3 = k3
  case neg => simp [Program.fieldsOf, Tryz.underlying30, Op.eqFields, pX0, pY0, pX1, pY1, pX2, pY2, pX3, pY3, qi, qs, text_beq, e0, e1, e2, e3]
  by_cases e4 : h4 = k4
  case neg => simp [Program.fieldsOf, Tryz.underlying30, Op.eqFields, pX0, pY0, pX1, pY1, pX2, pY2, pX3, pY3, pX4, pY4, qi, qs, text_beq, e0, e1, e2, e3, e4]
  by_cases e5 : h5 = k5
  case neg => simp [Program.fieldsOf, Tryz.underlying30, Op.eqFields, pX0, pY0, pX1, pY1, pX2, pY2, pX3, pY3, pX4, pY4, pX5, pY5, qi, qs, text_beq, e0, e1, e2, e3, e4, e5]
  by_cases e6 : h6 = k6 <;> simp [Program.fieldsOf, Tryz.underlying30, Op.eqFields, pX0, pY0, pX1, pY1, pX2, pY2, pX3, pY3, pX4, pY4, pX5, pY5, pX6, pY6, qi, qs, text_beq, e0, e1, e2, e3, e4, e5, e6]
theorem head_cells {w : World} {a : Option Addr} {cap : Nat} {hs : List Header} (h : ElemsAt headerS w a cap hs) {i : Nat} (hi : i < hs.length) :
    ∃ b off, a = some ⟨b, off, none⟩ ∧ b < w.heap.size ∧ w.cell? ⟨b, off + i * 7, none⟩ = some (.int .i64 hs[i].id) ∧ w.cell? ⟨b, off + i * 7 + 1, none⟩ = some (.string hs[i].salt) ∧
      w.cell? ⟨b, off + i * 7 + 2, none⟩ = some (.int .i64 hs[i].n) ∧ w.cell? ⟨b, off + i * 7 + 3, none⟩ = some (.int .i64 hs[i].bytes) ∧ w.cell? ⟨b, off + i * 7 + 4, none⟩ = some (.int .i64 hs[i].raw) ∧
      w.cell? ⟨b, off + i * 7 + 5, none⟩ = some (.string hs[i].root) ∧ w.cell? ⟨b, off + i * 7 + 6, none⟩ = some (.string hs[i].tag) := by
  obtain ⟨b, off, rfl, hb, cs, ⟨rfl, _⟩, hc⟩ := h.at hi
  exact ⟨b, off, rfl, hb, hc 0 _ rfl, hc 1 _ rfl, hc 2 _ rfl, hc 3 _ rfl, hc 4 _ rfl, hc 5 _ rfl, hc 6 _ rfl⟩
set_option maxRecDepth 100000 in
set_option maxHeartbeats 1000000 in
theorem index_head (v : Value) (hs : List Header) (x : Header) (w : World) (h : SliceOf headerS w v hs) (hl : hs.length ≤ 140737488355327) :
    Calls Tryz.prog 32 #[v, x.val] w fun e w' => (∃ i : Int, e = .returned (.int .i64 i) ∧ (0 ≤ i ↔ x ∈ hs)) ∧ Below w.heap.size w w' := by
  obtain ⟨a1, c1, rfl, he1⟩ := h
  have HQ := Lib.hid (fun (k : Header) W => head_eq x k W)
  have hb0 := (Below.refl w.heap.size w).alloc (Nat.le_refl _) (.cells #[.int .i64 x.id, .string x.salt, .int .i64 x.n, .int .i64 x.bytes, .int .i64 x.raw, .string x.root, .string x.tag] 30 (0, 0))
  have H1 := Lib.hid (he1.mono hb0)
  have HB0 := Lib.hid hb0
  have hx0 := heap_alloc_new w (.cells #[.int .i64 x.id, .string x.salt, .int .i64 x.n, .int .i64 x.bytes, .int .i64 x.raw, .string x.root, .string x.tag] 30 (0, 0))
  have HX0 := Lib.hid hx0
  clear he1 hb0 hx0
  simp only [Header.val] at HQ ⊢
  go_enter Tryz.func32, Tryz.ntmps32
  go_wp2_with fail
  generalize w.alloc (.cells #[.int .i64 x.id, .string x.salt, .int .i64 x.n, .int .i64 x.bytes, .int .i64 x.raw, .string x.root, .string x.tag] 30 (0, 0)) = w0 at *
  go_loopw [8] (fun i wr => ∃ t : Nat, t ≤ hs.length ∧ i = .int .i64 t ∧ Hid (∀ j (hj : j < hs.length), j < t → hs[j] ≠ x) ∧ Same w0 wr) (fun i _ => hs.length - (intOf i).toNat)
  case atStart => exact ⟨0, Nat.zero_le _, rfl, fun j _ hj => absurd hj (by omega), ⟨rfl, rfl, rfl, rfl⟩⟩
  case round =>
    obtain ⟨t, ht, rfl, hj, hw⟩ := hrel
    by_cases hlt : t < hs.length
    · have hlt' : (t : Int) < hs.length := by omega
      have t0 : (0 : Int) ≤ t := by omega
      obtain ⟨g1, o1, rfl, hg1, d0, d1, d2, d3, d4, d5, d6⟩ := head_cells (H1.out.mono (hw.below _)) hlt
      have hx1 := hw.at HX0.out
      have x0 := cell_of hx1 0
      have x1 := cell_of hx1 1
      have x2 := cell_of hx1 2
      have x3 := cell_of hx1 3
      have x4 := cell_of hx1 4
      have x5 := cell_of hx1 5
      have x6 := cell_of hx1 6
      simp at x0 x1 x2 x3 x4 x5 x6
      have HW := Lib.hid hw
      clear hx1 hg1 hw
      have hq := HQ.out hs[t]
      have hbd : Hid (x = hs[t] → x ∈ hs) := Lib.hid (fun e => by rw [e]; exact List.getElem_mem _)
      have hnx : Hid (¬ x = hs[t] → ∀ j (hj : j < hs.length), j < t + 1 → hs[j] ≠ x) := by
        intro hx j hjl hjt
        by_cases h : j < t
        · exact hj j hjl h
        · have : j = t := by omega
          subst this
          exact fun e => hx e.symm
      clear hj
      generalize hs[t] = y at *
      go_wp2
      go_quiet (fail)
      have HW2 := Lib.hid (HW.out.trans (Same.drewN wr nq))
      clear HW d0 d1 d2 d3 d4 d5 d6 x0 x1 x2 x3 x4 x5 x6 hq
      generalize wr.drewN nq = w2 at *
      by_cases hx : x = y
      · have hb : decide (x = y) = true := decide_eq_true hx
        have hin := Lib.hid (hbd.out hx)
        clear hbd hnx hx
        generalize decide (x = y) = q at *
        subst hb
        go_wp2
        go_ret
        exact ⟨⟨_, rfl, ⟨fun _ => hin.out, fun _ => by omega⟩⟩, HB0.out.trans ((HW2.out.below _))⟩
      · have hb : decide (x = y) = false := decide_eq_false hx
        have hj2 := Lib.hid (hnx.out hx)
        clear hbd hnx hx
        generalize decide (x = y) = q at *
        subst hb
        go_wp2
        go_roundw
        case rel => exact ⟨t + 1, by omega, by go_num, hj2.out, HW2.out⟩
        case measure => simp [intOf]; omega
    · have et : t = hs.length := by omega
      subst et
      have hno : Hid (¬ x ∈ hs) := by
        intro h
        obtain ⟨j, hjl, e⟩ := List.getElem_of_mem h
        exact hj j hjl hjl e
      have HW := Lib.hid hw
      clear hj hw
      go_wp2
      go_ret
      exact ⟨⟨_, rfl, ⟨fun h => absurd h (by decide), fun h => absurd h hno.out⟩⟩, HB0.out.trans (HW.out.below _)⟩
noncomputable def hasHead (hs : List Header) (x : Header) : Bool := @decide (x ∈ hs) (Classical.propDecidable _)
set_option maxRecDepth 100000 in
theorem contains_head (v : Value) (hs : List Header) (x : Header) (w : World) (h : SliceOf headerS w v hs) (hl : hs.length ≤ 140737488355327) :
    Calls Tryz.prog 13 #[v, x.val] w fun e w' => e = .returned (.bool (hasHead hs x)) ∧ Below w.heap.size w w' := by
  obtain ⟨r, hr⟩ : ∃ r, r = hasHead hs x := ⟨_, rfl⟩
  rw [← hr]
  have HR := Lib.hid hr
  clear hr
  have hb0 := (Below.refl w.heap.size w).alloc (Nat.le_refl _) (.cells #[.int .i64 x.id, .string x.salt, .int .i64 x.n, .int .i64 x.bytes, .int .i64 x.raw, .string x.root, .string x.tag] 30 (0, 0))
  have HI := Lib.hid (index_head v hs x _ (h.mono hb0) hl)
  have HB0 := Lib.hid hb0
  clear h hb0
  simp only [Header.val] at HI ⊢
  go_enter Tryz.func13, Tryz.ntmps13
  go_wp2_with fail
  refine HI.out.mono ?_
  rintro e w1 ⟨⟨i, rfl, hi⟩, hb1⟩
  have HB1 := Lib.hid (HB0.out.trans (hb1.mono HB0.out.size))
  clear hb1
  by_cases h0 : 0 ≤ i
  · have e : r = true := by rw [HR.out]; exact @decide_eq_true _ (Classical.propDecidable _) (hi.1 h0)
    subst e
    clear hi
    go_wp2_with fail
    go_ret
    exact ⟨rfl, HB1.out⟩
  · have e : r = false := by rw [HR.out]; exact @decide_eq_false _ (Classical.propDecidable _) (fun h => h0 (hi.2 h))
    subst e
    have h0' : decide (0 ≤ i) = false := decide_eq_false h0
    clear hi
    go_wp2_with fail
    go_ret
    exact ⟨rfl, HB1.out⟩
end Go.Proofs.YtpmgackgcefalaaGreat
namespace Go.Proofs.YtpmgackgcefalaaGreat
open Go.RowKit
set_option maxRecDepth 100000 in
set_option maxHeartbeats 1000000 in
theorem tagged_any (v : Value) (hs : List Header) (x : Header) (w : World) (h : SliceOf headerS w v hs) (hl : hs.length ≤ 140737488355327) :
    Calls Tryz.prog 17 #[v, x.val] w fun e w' => e = .returned (.bool (hasHead hs x)) ∧ Below w.heap.size w w' := by
  obtain ⟨r, hr⟩ : ∃ r, r = hasHead hs x := ⟨_, rfl⟩
  rw [← hr]
  have HR := Lib.hid hr
  clear hr
  obtain ⟨a1, c1, rfl, he1⟩ := h
  have HQ := Lib.hid (fun (k : Header) W => head_eq k x W)
  have hb0 := (Below.refl w.heap.size w).alloc (Nat.le_refl _) (.cells #[.int .i64 x.id, .string x.salt, .int .i64 x.n, .int .i64 x.bytes, .int .i64 x.raw, .string x.root, .string x.tag] 30 (0, 0))
  have H1 := Lib.hid (he1.mono hb0)
  have HB0 := Lib.hid hb0
  have hx0 := heap_alloc_new w (.cells #[.int .i64 x.id, .string x.salt, .int .i64 x.n, .int .i64 x.bytes, .int .i64 x.raw, .string x.root, .string x.tag] 30 (0, 0))
  have HX0 := Lib.hid hx0
  clear he1 hb0 hx0
  simp only [Header.val] at HQ ⊢
  go_enter Tryz.func17, Tryz.ntmps17
  go_wp2_with fail
  generalize w.alloc (.cells #[.int .i64 x.id, .string x.salt, .int .i64 x.n, .int .i64 x.bytes, .int .i64 x.raw, .string x.root, .string x.tag] 30 (0, 0)) = w0 at *
  go_loopw [5] (fun i wr => ∃ t : Nat, t ≤ hs.length ∧ i = .int .i64 t ∧ Hid (∀ j (hj : j < hs.length), j < t → hs[j] ≠ x) ∧ Same w0 wr) (fun i _ => hs.length - (intOf i).toNat)
  case atStart => exact ⟨0, Nat.zero_le _, rfl, fun j _ hj => absurd hj (by omega), ⟨rfl, rfl, rfl, rfl⟩⟩
  case round =>
    obtain ⟨t, ht, rfl, hj, hw⟩ := hrel
    by_cases hlt : t < hs.length
    · have hlt' : (t : Int) < hs.length := by omega
      have t0 : (0 : Int) ≤ t := by omega
      obtain ⟨g1, o1, rfl, hg1, d0, d1, d2, d3, d4, d5, d6⟩ := head_cells (H1.out.mono (hw.below _)) hlt
      have hx1 := hw.at HX0.out
      have x0 := cell_of hx1 0
      have x1 := cell_of hx1 1
      have x2 := cell_of hx1 2
      have x3 := cell_of hx1 3
      have x4 := cell_of hx1 4
      have x5 := cell_of hx1 5
      have x6 := cell_of hx1 6
      simp at x0 x1 x2 x3 x4 x5 x6
      have HW := Lib.hid hw
      clear hx1 hg1 hw
      have hq := HQ.out hs[t]
      have hbd : Hid (hs[t] = x → x ∈ hs) := Lib.hid (fun e => by rw [← e]; exact List.getElem_mem _)
      have hnx : Hid (¬ hs[t] = x → ∀ j (hj : j < hs.length), j < t + 1 → hs[j] ≠ x) := by
        intro hx j hjl hjt
        by_cases h : j < t
        · exact hj j hjl h
        · have : j = t := by omega
          subst this
          exact hx
      clear hj
      generalize hs[t] = y at *
      go_wp2
      go_quiet (fail)
      have HW2 := Lib.hid (HW.out.trans (Same.drewN wr nq))
      clear HW d0 d1 d2 d3 d4 d5 d6 x0 x1 x2 x3 x4 x5 x6 hq
      generalize wr.drewN nq = w2 at *
      by_cases hx : y = x
      · have hb : decide (y = x) = true := decide_eq_true hx
        have hin := Lib.hid (hbd.out hx)
        clear hbd hnx hx
        generalize decide (y = x) = q at *
        subst hb
        have e : r = true := by rw [HR.out]; exact @decide_eq_true _ (Classical.propDecidable _) hin.out
        subst e
        go_wp2
        go_ret
        exact ⟨rfl, HB0.out.trans ((HW2.out.below _))⟩
      · have hb : decide (y = x) = false := decide_eq_false hx
        have hj2 := Lib.hid (hnx.out hx)
        clear hbd hnx hx
        generalize decide (y = x) = q at *
        subst hb
        go_wp2
        go_roundw
        case rel => exact ⟨t + 1, by omega, by go_num, hj2.out, HW2.out⟩
        case measure => simp [intOf]; omega
    · have et : t = hs.length := by omega
      subst et
      have hno : Hid (¬ x ∈ hs) := by
        intro h
        obtain ⟨j, hjl, e⟩ := List.getElem_of_mem h
        exact hj j hjl hjl e
      have HW := Lib.hid hw
      clear hj hw
      have e : r = false := by rw [HR.out]; exact @decide_eq_false _ (Classical.propDecidable _) hno.out
      subst e
      go_wp2
      go_ret
      exact ⟨rfl, HB0.out.trans (HW.out.below _)⟩
def archC (h : Header) (sl : Value) : Array Value := #[.int .i64 h.id, .string h.salt, .int .i64 h.n, .int .i64 h.bytes, .int .i64 h.raw, .string h.root, .string h.tag, sl]
def sameArch (h k : Header) (xs ys : List ByteArray) : Bool := decide (h = k ∧ xs = ys)
structure TwoAt (w W : World) (C D : Array Value) : Prop where
  below : Below w.heap.size w W
  a : W.heap[w.heap.size]? = some (.cells C 32 (0, 0))
  b : W.heap[w.heap.size + 1]? = some (.cells D 32 (0, 0))
theorem TwoAt.start (w : World) (C D : Array Value) : TwoAt w ((w.alloc (.cells C 32 (0, 0))).alloc (.cells D 32 (0, 0))) C D :=
  ⟨((Below.refl _ _).alloc (Nat.le_refl _) _).alloc (by simp) _, heap_alloc_old (heap_alloc_new _ _), heap_alloc_at (by simp) _⟩
set_option maxRecDepth 100000 in
set_option maxHeartbeats 1000000 in
theorem rsamearch_any (h k : Header) (v1 v2 : Value) (xs ys : List ByteArray) (w : World) (h1 : SliceOf strS w v1 xs) (h2 : SliceOf strS w v2 ys) (hsz : xs.length ≤ 140737488355327) :
    Calls Tryz.prog 16 #[.agg (archC h v1), .agg (archC k v2)] w fun e w' => e = .returned (.bool (sameArch h k xs ys)) ∧ Below w.heap.size w w' := by
  obtain ⟨r, hr⟩ : ∃ r, r = sameArch h k xs ys := ⟨_, rfl⟩
  rw [← hr]
  have HR := Lib.hid hr
  have HT := Lib.hid (TwoAt.start w (archC h v1) (archC k v2))
  have H1 := Lib.hid (h1.mono HT.out.below)
  have H2 := Lib.hid (h2.mono HT.out.below)
  obtain ⟨a1, c1, rfl, -⟩ := h1
  obtain ⟨a2, c2, rfl, -⟩ := h2
  have hq := fun W => head_eq h k W
  clear hr
  simp only [archC, Header.val] at HT hq ⊢
  by_cases hx : h = k
  · have e : decide (h = k) = true := decide_eq_true hx
    have er : r = sameTexts xs ys := by rw [HR.out]; unfold sameArch sameTexts; simp [hx]
    have HE := Lib.hid er
    rw [e] at hq
    clear e hx er HR
    go_enter Tryz.func16, Tryz.ntmps16
    go_wp2_with fail
    refine (rsame_any _ _ xs ys _ H1.out H2.out hsz).mono ?_
    rintro e w1 ⟨rfl, hb1⟩
    have HB := Lib.hid (HT.out.below.trans (hb1.mono HT.out.below.size))
    rw [← HE.out]
    clear hb1 hq
    cases r
    · go_wp2_with fail
      go_ret
      exact ⟨rfl, HB.out⟩
    · go_wp2_with fail
      go_ret
      exact ⟨rfl, HB.out⟩
  · have e : decide (h = k) = false := decide_eq_false hx
    have er : r = false := by rw [HR.out]; exact decide_eq_false (fun x => hx x.1)
    rw [e] at hq
    subst er
    clear e hx HR
    go_enter Tryz.func16, Tryz.ntmps16
    go_wp2_with fail
    go_ret
    exact ⟨rfl, HT.out.below⟩
set_option maxRecDepth 100000 in
set_option maxHeartbeats 2000000 in
theorem samearch_any (h k : Header) (v1 v2 : Value) (xs ys : List ByteArray) (w : World) (h1 : SliceOf strS w v1 xs) (h2 : SliceOf strS w v2 ys) (hsz : xs.length ≤ 140737488355327) :
    Calls Tryz.prog 12 #[.agg (archC h v1), .agg (archC k v2)] w fun e w' => e = .returned (.bool (sameArch h k xs ys)) ∧ Below w.heap.size w w' := by
  obtain ⟨r, hr⟩ : ∃ r, r = sameArch h k xs ys := ⟨_, rfl⟩
  rw [← hr]
  have HR := Lib.hid hr
  have HT := Lib.hid (TwoAt.start w (archC h v1) (archC k v2))
  obtain ⟨a1, c1, rfl, he1⟩ := h1
  obtain ⟨a2, c2, rfl, he2⟩ := h2
  have H1 := Lib.hid (he1.mono HT.out.below)
  have H2 := Lib.hid (he2.mono HT.out.below)
  have hq := fun W => head_eq h k W
  clear hr he1 he2
  simp only [archC, Header.val] at HT hq H1 H2 ⊢
  by_cases hx : h = k
  case neg =>
    have e : decide (h = k) = false := decide_eq_false hx
    have er : r = false := by rw [HR.out]; exact decide_eq_false (fun x => hx x.1)
    rw [e] at hq
    subst er
    clear e hx HR
    go_enter Tryz.func12, Tryz.ntmps12
    go_wp2_with fail
    go_ret
    exact ⟨rfl, HT.out.below⟩
  have e : decide (h = k) = true := decide_eq_true hx
  have er : r = sameTexts xs ys := by rw [HR.out]; unfold sameArch sameTexts; simp [hx]
  have HE := Lib.hid er
  rw [e] at hq
  clear e hx er HR
  by_cases hl : xs.length = ys.length
  case neg =>
    have e : r = false := by rw [HE.out]; exact decide_eq_false (fun h => hl (by rw [h]))
    have hl' : ((xs.length : Int) == ys.length) = false := by simp; omega
    subst e
    clear HE
    go_enter Tryz.func12, Tryz.ntmps12
    go_wp2_with fail
    go_ret
    exact ⟨rfl, HT.out.below⟩
  have hl' : ((xs.length : Int) == (ys.length : Int)) = true := by simp [hl]
  have HL := Lib.hid hl
  clear hl
  go_enter Tryz.func12, Tryz.ntmps12
  go_wp2_with fail
  clear hl'
  generalize (w.alloc (.cells #[.int .i64 h.id, .string h.salt, .int .i64 h.n, .int .i64 h.bytes, .int .i64 h.raw, .string h.root, .string h.tag, .slice a1 xs.length c1] 32 (0, 0))).alloc (.cells #[.int .i64 k.id, .string k.salt, .int .i64 k.n, .int .i64 k.bytes, .int .i64 k.raw, .string k.root, .string k.tag, .slice a2 ys.length c2] 32 (0, 0)) = w0 at *
  clear hq
  go_loopw [24] (fun i wr => ∃ t : Nat, t ≤ xs.length ∧ i = .int .i64 t ∧ Hid (∀ j, j < t → xs[j]? = ys[j]?) ∧ Same w0 wr) (fun i _ => xs.length - (intOf i).toNat)
  case atStart => exact ⟨0, Nat.zero_le _, rfl, fun j hj => absurd hj (by omega), ⟨rfl, rfl, rfl, rfl⟩⟩
  case round =>
    obtain ⟨t, ht, rfl, hj, hw⟩ := hrel
    by_cases hlt : t < xs.length
    · have hlt' : (t : Int) < xs.length := by omega
      have hl := HL.out
      have hlt2 : (t : Int) < ys.length := by omega
      have hlt3 : t < ys.length := by omega
      clear hl
      obtain ⟨g1, o1, rfl, hg1, d1⟩ := H1.out.str hlt
      obtain ⟨g2, o2, rfl, hg2, d2⟩ := H2.out.str hlt3
      have d1' := hw.cell d1
      have d2' := hw.cell d2
      have y7 := cell_of (hw.at HT.out.b) 7
      simp at y7
      have HW := Lib.hid hw
      clear d1 d2 hg1 hg2 hw
      have t0 : (0 : Int) ≤ t := by omega
      by_cases hx : xs[t] = ys[t]
      · have hb : (xs[t].toList == ys[t].toList) = true := by rw [hx]; simp
        have hj2 : Hid (∀ j, j < t + 1 → xs[j]? = ys[j]?) := by
          intro j hjt
          by_cases h : j < t
          · exact hj j h
          · have : j = t := by omega
            subst this
            rw [List.getElem?_eq_getElem hlt, List.getElem?_eq_getElem hlt3, hx]
        clear hj hx
        go_wp2
        go_roundw
        case rel => exact ⟨t + 1, by omega, by go_num, hj2, HW.out⟩
        case measure => simp [intOf]; omega
      · have hb : (xs[t].toList == ys[t].toList) = false := by rw [text_beq]; exact decide_eq_false hx
        have e : r = false := by
          rw [HE.out]
          exact decide_eq_false (fun h => hx (by subst h; rfl))
        subst e
        clear hj hx HE
        go_wp2
        go_ret
        exact ⟨rfl, HT.out.below.trans (HW.out.below _)⟩
    · have et : t = xs.length := by omega
      subst et
      have e : r = true := by
        rw [HE.out]
        refine decide_eq_true (List.ext_getElem? fun j => ?_)
        by_cases h : j < xs.length
        · exact hj j h
        · rw [List.getElem?_eq_none (by omega), List.getElem?_eq_none (by have := HL.out; omega)]
      subst e
      have HW := Lib.hid hw
      clear hj hw HE
      go_wp2
      go_ret
      exact ⟨rfl, HT.out.below.trans (HW.out.below _)⟩
end Go.Proofs.YtpmgackgcefalaaGreat
namespace Go.Proofs.YtpmgackgcefalaaGreat
open Go.RowKit
def Header.check (h : Header) : Int :=
  if h.id < 1 then 1 else if 4294967295 < h.id then 1 else if h.salt.size ≠ 16 then 1 else if h.root.size ≠ 32 then 1 else if h.tag.size ≠ 32 then 1
  else if h.bytes < 1 then 1 else if 49152 < h.bytes then 1 else if h.n ≠ (h.bytes + 191) / 192 then 1 else if h.raw < 1 then 1 else if 134217728 < h.raw then 1 else 0
set_option maxRecDepth 100000 in
set_option maxHeartbeats 2000000 in
theorem check_any (h : Header) (w : World) :
    Calls Tryz.prog 43 #[h.val] w fun e w' => e = .returned (.int .i64 h.check) ∧ Below w.heap.size w w' := by
  obtain ⟨id, salt, n, bytes, raw, root, tag⟩ := h
  simp only [Header.val]
  have hB := fun o : Obj => (Below.refl w.heap.size w).alloc (Nat.le_refl _) o
  have HB := Lib.hid hB
  clear hB
  obtain ⟨r, hr⟩ : ∃ r, r = Header.check ⟨id, salt, n, bytes, raw, root, tag⟩ := ⟨_, rfl⟩
  rw [← hr]
  simp only [Header.check] at hr
  go_enter Tryz.func43, Tryz.ntmps43
  by_cases c1 : id < 1
  · rw [if_pos c1] at hr; subst hr; go_wp2; go_ret; exact ⟨rfl, HB.out _⟩
  rw [if_neg c1] at hr
  by_cases c2 : 4294967295 < id
  · rw [if_pos c2] at hr; subst hr; go_wp2; go_ret; exact ⟨rfl, HB.out _⟩
  rw [if_neg c2] at hr
  by_cases c3 : salt.size = 16
  case neg => 
    rw [if_pos c3] at hr; subst hr
    have c3' : ¬ (salt.size : Int) = 16 := by omega
    go_wp2; go_ret; exact ⟨rfl, HB.out _⟩
  rw [if_neg (by simp [c3])] at hr
  by_cases c4 : root.size = 32
  case neg => 
    rw [if_pos c4] at hr; subst hr
    have c4' : ¬ (root.size : Int) = 32 := by omega
    go_wp2; go_ret; exact ⟨rfl, HB.out _⟩
  rw [if_neg (by simp [c4])] at hr
  by_cases c5 : tag.size = 32
  case neg => 
    rw [if_pos c5] at hr; subst hr
    have c5' : ¬ (tag.size : Int) = 32 := by omega
    go_wp2; go_ret; exact ⟨rfl, HB.out _⟩
  rw [if_neg (by simp [c5])] at hr
  by_cases c6 : bytes < 1
  · rw [if_pos c6] at hr; subst hr; go_wp2; go_ret; exact ⟨rfl, HB.out _⟩
  rw [if_neg c6] at hr
  by_cases c7 : 49152 < bytes
  · rw [if_pos c7] at hr; subst hr; go_wp2; go_ret; exact ⟨rfl, HB.out _⟩
  rw [if_neg c7] at hr
  have e8 : (bytes + 191).tdiv 192 = (bytes + 191) / 192 := Int.tdiv_eq_ediv_of_nonneg (by omega)
  by_cases c8 : n = (bytes + 191) / 192
  case neg => 
    rw [if_pos c8] at hr; subst hr
    go_wp2; go_ret; exact ⟨rfl, HB.out _⟩
  rw [if_neg (by simp [c8])] at hr
  by_cases c9 : raw < 1
  · rw [if_pos c9] at hr; subst hr; go_wp2; go_ret; exact ⟨rfl, HB.out _⟩
  rw [if_neg c9] at hr
  by_cases c10 : 134217728 < raw
  · rw [if_pos c10] at hr; subst hr; go_wp2; go_ret; exact ⟨rfl, HB.out _⟩
  rw [if_neg c10] at hr
  subst hr; go_wp2; go_ret; exact ⟨rfl, HB.out _⟩
end Go.Proofs.YtpmgackgcefalaaGreat
namespace Go.Proofs.YtpmgackgcefalaaGreat
open Go.RowKit
theorem Header.check_cases (h : Header) : h.check = 1 ∨ (h.check = 0 ∧ h.salt.size = 16 ∧ h.root.size = 32 ∧ h.tag.size = 32) := by
  unfold Header.check
  repeat (split; · exact .inl rfl)
  exact .inr ⟨rfl, by omega, by omega, by omega⟩
def Header.verify (key : List UInt8) (h : Header) : Int := if h.check = 1 then 1 else if sameB (Sha.tag key h.fields.data.toList) h.tag.data.toList then 0 else 4
theorem Header.fields_size (h : Header) : h.fields.size = 18 + h.salt.size + h.root.size := by
  simp only [Header.fields, ByteArray.size_append, str_size, Sha.fixed_length]
  have : (ByteArray.mk #[83, 76, 71, 49]).size = 4 := rfl
  omega
theorem keep_cells {w w' : World} {g : Nat} (hb : Below w.heap.size w w') (h : g < w.heap.size) (k : Nat) : w'.cell? ⟨g, k, none⟩ = w.cell? ⟨g, k, none⟩ := hb.cell h
theorem keep_below {w w1 w2 : World} (hb : Below w1.heap.size w1 w2) (h : Below w.heap.size w w1) : Below w.heap.size w w2 := h.trans (hb.mono h.size)
theorem below_alloc1 {w w1 : World} {o : Obj} (h : Below w.heap.size w w1) : Below w.heap.size w (w1.alloc o) := h.alloc h.size o
theorem below_drew1 {w w1 : World} (h : Below w.heap.size w w1) : Below w.heap.size w w1.drew := h.trans ((Same.drew w1).below _)
set_option maxRecDepth 100000 in
set_option maxHeartbeats 4000000 in
theorem verify_any (key : ByteArray) (h : Header) (w : World) (hk : key.size ≤ 140737488355200) :
    Calls Tryz.prog 21 #[.string key, h.val] w fun e w' => e = .returned (.int .i64 (h.verify key.data.toList)) ∧ Below w.heap.size w w' := by
  have hch := fun w => check_any h w
  have hfl := fun a b w => fields_any h a b w
  have hfs := h.fields_size
  obtain ⟨r, hr⟩ : ∃ r, r = h.verify key.data.toList := ⟨_, rfl⟩
  rw [← hr]
  simp only [Header.verify] at hr
  have hcc := h.check_cases
  generalize h.check = c at *
  generalize h.fields = fl at *
  obtain ⟨id, salt, n, bytes, raw, root, tag⟩ := h
  simp only [Header.val] at *
  have HC := Lib.hid hch
  have HF := Lib.hid hfl
  clear hch hfl
  go_enter Tryz.func21, Tryz.ntmps21
  go_wp2_with fail
  refine (HC.out _).mono ?_
  rintro e w1 ⟨rfl, hb1⟩
  have hg1 := heap_below (heap_alloc_new w _) hb1
  have hB1 := ((Below.refl w.heap.size w).alloc (Nat.le_refl _) (.cells #[.int .i64 id, .string salt, .int .i64 n, .int .i64 bytes, .int .i64 raw, .string root, .string tag] 30 (0, 0))).trans (hb1.mono (by simp))
  have hs1 : w.heap.size < w1.heap.size := lt_of_heap hg1
  clear hb1
  rcases hcc with rfl | ⟨rfl, e1, e2, e3⟩
  · rw [if_pos rfl] at hr
    subst hr
    have HB := Lib.hid hB1
    clear hB1 hg1
    go_wp2_with fail
    go_ret
    exact ⟨rfl, HB.out⟩
  rw [if_neg (by decide)] at hr
  have c0 := cell_of hg1 0
  have c1 := cell_of hg1 1
  have c2 := cell_of hg1 2
  have c3 := cell_of hg1 3
  have c4 := cell_of hg1 4
  have c5 := cell_of hg1 5
  have c6 := cell_of hg1 6
  simp at c0 c1 c2 c3 c4 c5 c6
  have HB := Lib.hid hB1
  have HR := Lib.hid hr
  clear hB1 hg1 hr
  go_wp2_with fail
  have HB' := HB.out
  have hJ0 : joined [fl] = fl.data.toList := by simp [joined]
  have hJ : (joined [fl]).length ≤ 140737488355000 := by rw [hJ0, Array.length_toList]; show fl.size ≤ _; omega
  go_region_held3 (fun w' => w'.cell? ⟨w.heap.size, 0, none⟩ = some (.int .i64 id) ∧ w'.cell? ⟨w.heap.size, 1, none⟩ = some (.string salt) ∧ w'.cell? ⟨w.heap.size, 2, none⟩ = some (.int .i64 n) ∧ w'.cell? ⟨w.heap.size, 3, none⟩ = some (.int .i64 bytes) ∧ w'.cell? ⟨w.heap.size, 4, none⟩ = some (.int .i64 raw) ∧ w'.cell? ⟨w.heap.size, 5, none⟩ = some (.string root) ∧ w'.cell? ⟨w.heap.size, 6, none⟩ = some (.string tag) ∧ Below w.heap.size w w') (simp [*, World.cell?_alloc_some, World.cell?_setCell_far, below_alloc1, below_drew1])
   ((first
     | (go_at_call 46; refine (HF.out (by omega) (by omega) _).mono ?_; rintro e w2 ⟨rfl, hb2⟩; have hk2 := keep_cells hb2 (World.block_lt_of_cell? _ ⟨w.heap.size, 0, none⟩ (u := .int .i64 id) (by simp [*])); have hB2 := keep_below (w := w) hb2 (by simp [*, below_drew1]))
     | (go_at_call 45; refine (tag_any key _ [fl] _ (SliceOf.litS _ _ rfl [fl] 9 1 rfl (by decide) #[.string fl] rfl) (by omega) (by simp [maxLen]) hJ).mono ?_; rintro e w3 ⟨rfl, hb3⟩; have hk3 := keep_cells hb3 (World.block_lt_of_cell? _ ⟨w.heap.size, 0, none⟩ (u := .int .i64 id) (by simp [*, World.cell?_alloc_some])); have hB3 := keep_below (w := w) hb3 (by simp [*, below_drew1, below_alloc1]))
     | (go_at_call 44; refine (equal_any _ tag _ (by rw [str_size, Sha.tag_length]; decide) (by omega)).mono ?_; rintro e w4 ⟨rfl, hb4⟩; have hk4 := keep_cells hb4 (World.block_lt_of_cell? _ ⟨w.heap.size, 0, none⟩ (u := .int .i64 id) (by simp [*, World.cell?_alloc_some])); have hB4 := keep_below (w := w) hb4 (by simp [*, below_drew1, below_alloc1]))))
  have HB4 := Lib.hid hB4
  clear hk2 hk3 hk4 hb2 hb3 hb4 hB2 hB3 hB4 HB HB' hJ hJ0 HC HF
  have hR := HR.out
  clear HR
  have es : (str (Sha.tag key.data.toList fl.data.toList)).data.toList = Sha.tag key.data.toList fl.data.toList := rfl
  rw [es]
  clear es
  generalize (str (Sha.tag key.data.toList fl.data.toList)) = st
  generalize sameB (Sha.tag key.data.toList fl.data.toList) tag.data.toList = b at *
  cases b
  · rw [if_neg (by decide)] at hR; subst hR
    go_wp2; go_ret; exact ⟨rfl, HB4.out⟩
  · rw [if_pos rfl] at hR; subst hR
    go_wp2; go_ret; exact ⟨rfl, HB4.out⟩
end Go.Proofs.YtpmgackgcefalaaGreat
namespace Go.Proofs.YtpmgackgcefalaaGreat
open Go.RowKit
def Sha.num : List UInt8 → Nat := List.foldl (fun n c => n * 256 + c.toNat) 0
theorem Sha.num_snoc (l : List UInt8) (c : UInt8) : Sha.num (l ++ [c]) = Sha.num l * 256 + c.toNat := by simp [Sha.num, List.foldl_append]
theorem Sha.num_from (l : List UInt8) : ∀ a : Nat, l.foldl (fun n c => n * 256 + c.toNat) a + 1 ≤ (a + 1) * 256 ^ l.length := by
  induction l with
  | nil => intro a; simp
  | cons c l ih =>
    intro a
    have h1 := ih (a * 256 + c.toNat)
    have h2 := c.toNat_lt
    rw [List.foldl_cons, List.length_cons, Nat.pow_succ]
    refine Nat.le_trans h1 ?_
    rw [Nat.mul_comm (256 ^ l.length) 256, ← Nat.mul_assoc]
    exact Nat.mul_le_mul_right _ (by omega)
theorem Sha.num_lt (l : List UInt8) : Sha.num l < 256 ^ l.length := by
  have := Sha.num_from l 0
  simp at this
  exact this
set_option maxRecDepth 100000 in
set_option maxHeartbeats 1000000 in
theorem take_any (s : ByteArray) (k : Nat) (hk1 : 1 ≤ k) (hk : k ≤ 6) (hs : k ≤ s.size) (hsz : s.size ≤ 140737488355327) (w : World) :
    Calls Tryz.prog 65 #[.string s, .int .i64 k] w fun e w' => e = .returned (.tuple #[.int .i64 (Sha.num (s.data.toList.take k) : Nat), .string (s.extract k s.size), .int .i64 0]) ∧ Below w.heap.size w w' := by
  go_enter Tryz.func65, Tryz.ntmps65
  have k1 : ¬ (k : Int) < 1 := by omega
  have k2 : ¬ (8 : Int) < k := by omega
  have k3 : ¬ (s.size : Int) < k := by omega
  have hcv := fun w => run_bytes_of_string (P := Tryz.prog) w 9 99 5 (s.extract 0 k) Tryz.underlying9 Tryz.underlying99 Tryz.underlying5
  have hes : (s.extract 0 k).size = k := by simp; omega
  rw [hes] at hcv
  have k4 : (k : Int) ≤ s.size := by omega
  go_wp2_with fail
  go_loopg [7, 27] k (fun j v i wr => ∃ t : Nat, t ≤ k ∧ j = k - t ∧ i = .int .i64 t ∧ v = .int .i64 (Sha.num (s.data.toList.take t) : Nat) ∧ Below w.heap.size w wr ∧ (∀ j, j < k → wr.cell? ⟨w.heap.size, j, none⟩ = some (.int .u8 (s.data.toList.getD j 0).toNat)))
  case atStart =>
    refine ⟨0, Nat.zero_le _, rfl, rfl, rfl, ?_, fun j hj => ?_⟩
    · exact ((Same.drew w).below _).alloc (by simp) _ 
    · have hsd : j < (s.extract 0 k).data.size := by show j < (s.extract 0 k).size; omega
      have hb := bytesRow_at (s.extract 0 k) (grownCap w k 0 5) j hsd
      have e1 : (s.extract 0 k).data[j] = s.data.toList.getD j 0 := by
        have hj2 : j < s.data.size := by show j < s.size; omega
        rw [List.getD_eq_getElem?_getD, List.getElem?_eq_getElem (by rw [Array.length_toList]; exact hj2)]
        simp [ByteArray.data_extract]
      rw [e1] at hb
      refine (Same.drew _).cell ?_
      rw [cell_of (heap_alloc_new _ _)]
      exact hb
  case round =>
    obtain ⟨t, ht, rfl, rfl, rfl, hb, hc⟩ := hrel
    clear hcv
    have HB := Lib.hid hb
    by_cases hlt : t < k
    · have hlt' : (t : Int) < k := by omega
      have c := hc t hlt
      have HC := Lib.hid hc
      obtain ⟨b, hbb⟩ : ∃ b, b = s.data.toList.getD t 0 := ⟨_, rfl⟩
      have hnum : Sha.num (s.data.toList.take (t + 1)) = Sha.num (s.data.toList.take t) * 256 + b.toNat := by
        have ht' : t < s.data.toList.length := by rw [Array.length_toList]; show t < s.size; omega
        rw [List.take_succ_eq_append_getElem ht', Sha.num_snoc, hbb, List.getD_eq_getElem?_getD, List.getElem?_eq_getElem ht']; rfl
      have hN := Sha.num_lt (s.data.toList.take t)
      have hN' : Sha.num (s.data.toList.take t) < 1099511627776 := by
        refine Nat.lt_of_lt_of_le hN ?_
        have : (s.data.toList.take t).length ≤ 5 := by simp; omega
        exact Nat.le_trans (Nat.pow_le_pow_right (by decide) this) (by decide)
      rw [← hbb] at c
      have hbl := b.toNat_lt
      generalize b.toNat = B at *
      generalize Sha.num (s.data.toList.take t) = N at *
      have hor : bits .or .i64 ((N : Int) * 256) (B : Int) = ((N * 256 + B : Nat) : Int) := by
        have := i64_or_nat (N * 256) B (by omega) (by omega)
        rw [show N * 256 ||| B = N * 256 + B by
          have := Nat.shiftLeft_add_eq_or_of_lt (show B < 2 ^ 8 by omega) N
          rw [Nat.shiftLeft_eq] at this; exact this.symm] at this
        exact_mod_cast this
      have HN := Lib.hid hnum
      clear hb hc hN hnum
      go_wp2
      go_roundg (k - t - 1)
      case measure => omega
      case rel => exact ⟨t + 1, by omega, by omega, by go_num, by rw [HN.out]; simp, HB.out, HC.out⟩
    · have et : t = k := by omega
      subst et
      clear hb hc
      go_wp2
      go_quiet (fail)
      have HB2 := Lib.hid (HB.out.trans ((Same.drewN wr nq).below _))
      clear HB
      generalize wr.drewN nq = w2 at *
      go_wp2
      go_ret3
      exact ⟨rfl, HB2.out⟩
end Go.Proofs.YtpmgackgcefalaaGreat
namespace Go.Proofs.YtpmgackgcefalaaGreat
open Go.RowKit
set_option maxRecDepth 100000 in
set_option maxHeartbeats 1000000 in
theorem hnum_any (g : Nat) (s : ByteArray) (T : TypeId) (k : Nat) (hk1 : 1 ≤ k) (hk : k ≤ 6) (hs : k ≤ s.size) (hsz : s.size ≤ 140737488355327) (w : World) (hg : w.heap[g]? = some (.cells #[.string s] T (0, 0))) :
    Calls Tryz.prog 64 #[.int .i64 k, .pointer (some ⟨g, 0, none⟩)] w fun e w' => e = .returned (.int .i64 (Sha.num (s.data.toList.take k) : Nat)) ∧ ∃ w1, Below w.heap.size w w1 ∧ w' = w1.setCell ⟨g, 0, none⟩ (.string (s.extract k s.size)) := by
  have c := cell_of hg 0
  simp at c
  have HG := Lib.hid hg
  clear hg
  go_enter Tryz.func64, Tryz.ntmps64
  go_wp2_with fail
  refine (take_any s k hk1 hk hs hsz _).mono ?_
  rintro e w1 ⟨rfl, hb1⟩
  have hg1 := heap_below HG.out hb1
  have c1 := cell_of hg1 0
  have z1 := frozen_of hg1 0
  simp at c1
  have HB := Lib.hid hb1
  clear hg1 hb1 HG c
  go_wp2
  go_ret
  exact ⟨rfl, w1, HB.out, rfl⟩
set_option maxRecDepth 100000 in
set_option maxHeartbeats 1000000 in
theorem htext_any (g : Nat) (s : ByteArray) (T : TypeId) (k : Nat) (hs : k ≤ s.size) (hsz : s.size ≤ 140737488355327) (w : World) (hg : w.heap[g]? = some (.cells #[.string s] T (0, 0))) :
    Calls Tryz.prog 66 #[.int .i64 k, .pointer (some ⟨g, 0, none⟩)] w fun e w' => e = .returned (.string (s.extract 0 k)) ∧ w' = w.setCell ⟨g, 0, none⟩ (.string (s.extract k s.size)) := by
  have c := cell_of hg 0
  have z := frozen_of hg 0
  simp at c
  have HG := Lib.hid hg
  clear hg
  have k4 : (k : Int) ≤ s.size := by omega
  have k0 : (0 : Int) ≤ k := by omega
  go_enter Tryz.func66, Tryz.ntmps66
  go_wp2_with fail
  go_ret
  exact ⟨rfl, rfl⟩
def zeroH : Array Value := #[.int .i64 0, .string ⟨#[]⟩, .int .i64 0, .int .i64 0, .int .i64 0, .string ⟨#[]⟩, .string ⟨#[]⟩]
structure TakeAt (w W : World) (cur : ByteArray) (C : Array Value) : Prop where
  below : Below w.heap.size w W
  cur : W.heap[w.heap.size]? = some (.cells #[.string cur] 9 (0, 0))
  z : W.heap[w.heap.size + 1]? = some (.cells zeroH 30 (0, 0))
  h : W.heap[w.heap.size + 1 + 1]? = some (.cells C 30 (0, 0))
theorem TakeAt.after {w W w1 : World} {cur : ByteArray} {C : Array Value} (t : TakeAt w W cur C) (hb : Below W.heap.size W w1) : TakeAt w w1 cur C :=
  ⟨t.below.trans (hb.mono t.below.size), heap_below t.cur hb, heap_below t.z hb, heap_below t.h hb⟩
theorem TakeAt.put {w W : World} {cur : ByteArray} {C : Array Value} (t : TakeAt w W cur C) (c : ByteArray) : TakeAt w (W.setCell ⟨w.heap.size, 0, none⟩ (.string c)) c C :=
  ⟨t.below.setCell (Nat.le_refl _) _, heap_setCell t.cur _ _, by rw [heap_setCell_ne (by simp)]; exact t.z, by rw [heap_setCell_ne (by simp; omega)]; exact t.h⟩
theorem TakeAt.store {w W : World} {cur : ByteArray} {C : Array Value} (t : TakeAt w W cur C) (k : Nat) (v : Value) : TakeAt w (W.setCell ⟨w.heap.size + 1 + 1, k, none⟩ v) cur (C.setIfInBounds k v) :=
  ⟨t.below.setCell (by simp; omega) _, by rw [heap_setCell_ne (by simp; omega)]; exact t.cur, by rw [heap_setCell_ne (by simp)]; exact t.z, heap_setCell t.h _ _⟩
theorem cut_size (s : ByteArray) (hs : s.size = 98) (a : Nat) : (s.extract a 98).size = 98 - a := by simp; omega
theorem cut_cut (s : ByteArray) (hs : s.size = 98) (a k : Nat) (h : a + k ≤ 98) : (s.extract a 98).extract k (s.extract a 98).size = s.extract (a + k) 98 := by
  rw [cut_size s hs, ByteArray.extract_extract]; congr 1; omega
theorem cut_head (s : ByteArray) (hs : s.size = 98) (a k : Nat) (h : a + k ≤ 98) : (s.extract a 98).extract 0 k = s.extract a (a + k) := by
  rw [ByteArray.extract_extract]; congr 1; omega
def numAt (s : ByteArray) (a k : Nat) : Nat := Sha.num ((s.extract a 98).data.toList.take k)
theorem hnum_at (w W : World) (s : ByteArray) (hs : s.size = 98) (a k : Nat) (hk1 : 1 ≤ k) (hk : k ≤ 6) (ha : a + k ≤ 98) (C : Array Value) (t : TakeAt w W (s.extract a 98) C) :
    Calls Tryz.prog 64 #[.int .i64 k, .pointer (some ⟨w.heap.size, 0, none⟩)] W fun e w' => e = .returned (.int .i64 (numAt s a k : Nat)) ∧ TakeAt w w' (s.extract (a + k) 98) C := by
  refine (hnum_any w.heap.size (s.extract a 98) _ k hk1 hk (by rw [cut_size s hs]; omega) (by rw [cut_size s hs]; omega) W t.cur).mono ?_
  rintro e w' ⟨rfl, w1, hb, rfl⟩
  rw [cut_cut s hs a k ha]
  exact ⟨rfl, (t.after hb).put _⟩
theorem htext_at (w W : World) (s : ByteArray) (hs : s.size = 98) (a k : Nat) (ha : a + k ≤ 98) (C : Array Value) (t : TakeAt w W (s.extract a 98) C) :
    Calls Tryz.prog 66 #[.int .i64 k, .pointer (some ⟨w.heap.size, 0, none⟩)] W fun e w' => e = .returned (.string (s.extract a (a + k))) ∧ TakeAt w w' (s.extract (a + k) 98) C := by
  refine (htext_any w.heap.size (s.extract a 98) _ k (by rw [cut_size s hs]; omega) (by rw [cut_size s hs]; omega) W t.cur).mono ?_
  rintro e w' ⟨rfl, rfl⟩
  rw [cut_cut s hs a k ha, cut_head s hs a k ha]
  exact ⟨rfl, t.put _⟩
theorem results_cell_tmp {P : Program} {fn : Func} {p t2 : Tmp} {ty : TypeId} (h : fn.results = #[.cell p ty, .tmp t2]) (tmps : Array Value) (w : World) (g : Nat) (t : TypeId) (cs : Array Value) (fr : Nat × Nat) (d : TypeDesc)
    (hp : tmps.getD p undef = .pointer (some ⟨g, 0, none⟩)) (hg : w.heap[g]? = some (.cells cs t fr))
    (hu : P.underlying ty = some d) (hd : (match d with | .struct _ | .array _ _ => true | _ => false) = true) (hi : (P.info? ty).map (·.size) = some cs.size) :
    (results fn tmps).run P w = .ok (.tuple #[.agg cs, tmps.getD t2 undef]) w := by
  have hp' : tmps[p]?.getD undef = .pointer (some ⟨g, 0, none⟩) := by simpa using hp
  simp [results, h, hp', asAddr, run_loadVar_row w g t ty cs fr d hg hu hd hi]
theorem TakeAt.row {w W : World} {cur : ByteArray} {C : Array Value} (t : TakeAt w W cur C) (v0 v1 v2 v3 v4 v5 v6 : Value) :
    Below w.heap.size w (((((((W.setCell ⟨w.heap.size + 1, 0, none⟩ v0).setCell ⟨w.heap.size + 1, 1, none⟩ v1).setCell ⟨w.heap.size + 1, 2, none⟩ v2).setCell ⟨w.heap.size + 1, 3, none⟩ v3).setCell ⟨w.heap.size + 1, 4, none⟩ v4).setCell ⟨w.heap.size + 1, 5, none⟩ v5).setCell ⟨w.heap.size + 1, 6, none⟩ v6) ∧
    (((((((W.setCell ⟨w.heap.size + 1, 0, none⟩ v0).setCell ⟨w.heap.size + 1, 1, none⟩ v1).setCell ⟨w.heap.size + 1, 2, none⟩ v2).setCell ⟨w.heap.size + 1, 3, none⟩ v3).setCell ⟨w.heap.size + 1, 4, none⟩ v4).setCell ⟨w.heap.size + 1, 5, none⟩ v5).setCell ⟨w.heap.size + 1, 6, none⟩ v6).heap[w.heap.size + 1]? = some (.cells #[v0, v1, v2, v3, v4, v5, v6] 30 (0, 0)) := by
  have hl : w.heap.size ≤ w.heap.size + 1 := Nat.le_succ _
  exact ⟨((((((t.below.setCell hl _).setCell hl _).setCell hl _).setCell hl _).setCell hl _).setCell hl _).setCell hl _,
    heap_setCell (heap_setCell (heap_setCell (heap_setCell (heap_setCell (heap_setCell (heap_setCell t.z 0 v0) 1 v1) 2 v2) 3 v3) 4 v4) 5 v5) 6 v6⟩
def headOf (s : ByteArray) : Header := ⟨numAt s 4 4, s.extract 8 24, numAt s 24 2, numAt s 26 4, numAt s 30 4, s.extract 34 66, s.extract 66 98⟩
def htakeV (s : ByteArray) : Value := if (headOf s).check = 1 then .tuple #[.agg zeroH, .int .i64 2] else .tuple #[(headOf s).val, .int .i64 0]
set_option maxRecDepth 100000 in
set_option maxHeartbeats 4000000 in
theorem htake_in (s : ByteArray) (hs : s.size = 98) (hm : s.extract 0 4 = ⟨#[83, 76, 71, 49]⟩) (w : World) :
    Calls Tryz.prog 34 #[.string s] w fun e w' => e = .returned (htakeV s) ∧ Below w.heap.size w w' := by
  have hs' : (s.size : Int) = 98 := by omega
  have hv : htakeV s = if (headOf s).check = 1 then .tuple #[.agg zeroH, .int .i64 2] else .tuple #[(headOf s).val, .int .i64 0] := rfl
  generalize htakeV s = V at *
  have HV0 := Lib.hid hv
  clear hv
  have num := fun W => hnum_at w W s hs
  have text := fun W => htext_at w W s hs
  have NUM := Lib.hid num
  have TEXT := Lib.hid text
  clear num text
  go_enter Tryz.func34, Tryz.ntmps34
  go_wp2_with fail
  refine (NUM.out _ 4 4 (by decide) (by decide) (by decide) zeroH ?_).mono ?_
  · refine ⟨(((Below.refl w.heap.size w).alloc (Nat.le_refl _) _).alloc (by simp) _).alloc (by simp; omega) _, ?_, ?_, ?_⟩
    · exact heap_alloc_old (heap_alloc_old (heap_alloc_new _ _))
    · exact heap_alloc_old (heap_alloc_at (by simp) _)
    · exact heap_alloc_at (by simp) _
  rintro e W1 ⟨rfl, t1⟩
  have c1 := frozen_of t1.h 0
  have d1 := cell_of t1.h 0
  simp [zeroH] at d1
  have T1 := Lib.hid t1
  clear t1
  go_wp2_with fail
  refine (TEXT.out _ 8 16 (by decide) _ (T1.out.store 0 _)).mono ?_
  rintro e W2 ⟨rfl, t2⟩
  have z2 := frozen_of t2.h 1
  have d2 := cell_of t2.h 1
  simp [zeroH] at d2
  have T2 := Lib.hid t2
  clear t2 T1 c1 d1
  go_wp2_with fail
  refine (NUM.out _ 24 2 (by decide) (by decide) (by decide) _ (T2.out.store 1 _)).mono ?_
  rintro e W3 ⟨rfl, t3⟩
  have z3 := frozen_of t3.h 2
  have d3 := cell_of t3.h 2
  simp [zeroH] at d3
  have T3 := Lib.hid t3
  clear t3 T2 z2 d2
  go_wp2_with fail
  refine (NUM.out _ 26 4 (by decide) (by decide) (by decide) _ (T3.out.store 2 _)).mono ?_
  rintro e W4 ⟨rfl, t4⟩
  have z4 := frozen_of t4.h 3
  have d4 := cell_of t4.h 3
  simp [zeroH] at d4
  have T4 := Lib.hid t4
  clear t4 T3 z3 d3
  go_wp2_with fail
  refine (NUM.out _ 30 4 (by decide) (by decide) (by decide) _ (T4.out.store 3 _)).mono ?_
  rintro e W5 ⟨rfl, t5⟩
  have z5 := frozen_of t5.h 4
  have d5 := cell_of t5.h 4
  simp [zeroH] at d5
  have T5 := Lib.hid t5
  clear t5 T4 z4 d4
  go_wp2_with fail
  refine (TEXT.out _ 34 32 (by decide) _ (T5.out.store 4 _)).mono ?_
  rintro e W6 ⟨rfl, t6⟩
  have z6 := frozen_of t6.h 5
  have d6 := cell_of t6.h 5
  simp [zeroH] at d6
  have T6 := Lib.hid t6
  clear t6 T5 z5 d5
  go_wp2_with fail
  refine (TEXT.out _ 66 32 (by decide) _ (T6.out.store 5 _)).mono ?_
  rintro e W7 ⟨rfl, t7⟩
  have z7 := frozen_of t7.h 6
  have y0 := cell_of t7.h 0
  have y1 := cell_of t7.h 1
  have y2 := cell_of t7.h 2
  have y3 := cell_of t7.h 3
  have y4 := cell_of t7.h 4
  have y5 := cell_of t7.h 5
  have y6 := cell_of t7.h 6
  simp [zeroH] at y0 y1 y2 y3 y4 y5 y6
  have T7 := Lib.hid t7
  clear t7 T6 z6 d6
  go_wp2_with fail
  have T8 := Lib.hid (T7.out.store 6 (.string (s.extract 66 98)))
  clear T7
  refine (check_any (headOf s) _).mono ?_
  rintro e W8 ⟨rfl, hb8⟩
  have T9 := Lib.hid (T8.out.after hb8)
  have hg1 := T9.out.z
  have q0 := cell_of hg1 0
  have q1 := cell_of hg1 1
  have q2 := cell_of hg1 2
  have q3 := cell_of hg1 3
  have q4 := cell_of hg1 4
  have q5 := cell_of hg1 5
  have q6 := cell_of hg1 6
  have f0 := frozen_of hg1 0
  have f1 := frozen_of hg1 1
  have f2 := frozen_of hg1 2
  have f3 := frozen_of hg1 3
  have f4 := frozen_of hg1 4
  have f5 := frozen_of hg1 5
  have f6 := frozen_of hg1 6
  have hg2 := T9.out.h
  have x0 := cell_of hg2 0
  have x1 := cell_of hg2 1
  have x2 := cell_of hg2 2
  have x3 := cell_of hg2 3
  have x4 := cell_of hg2 4
  have x5 := cell_of hg2 5
  have x6 := cell_of hg2 6
  simp [zeroH] at q0 q1 q2 q3 q4 q5 q6 x0 x1 x2 x3 x4 x5 x6
  clear hb8 T8 y0 y1 y2 y3 y4 y5 y6 z7 hg1 hg2
  have hv := HV0.out
  clear HV0
  have hcc := (headOf s).check_cases
  generalize hc0 : (headOf s).check = c0 at *
  rcases hcc with rfl | ⟨rfl, -⟩
  · rw [if_pos rfl] at hv
    have HV := Lib.hid hv
    clear hv hc0
    go_wp2_with fail
    have R := T9.out.row (.int .i64 0) (.string ⟨#[]⟩) (.int .i64 0) (.int .i64 0) (.int .i64 0) (.string ⟨#[]⟩) (.string ⟨#[]⟩)
    refine bodyPost_ret (v := .tuple #[.agg zeroH, .int .i64 2]) ?r ?d ?fin
    case fin => exact ⟨by rw [HV.out], R.1⟩
    case d => rfl
    case r => exact results_cell_tmp Tryz.results34 _ _ (w.heap.size + 1) _ _ (0, 0) _ rfl R.2 Tryz.underlying30 rfl (by kernel_rfl)
  · rw [if_neg (by decide)] at hv
    have HV := Lib.hid hv
    clear hv hc0
    go_wp2_with fail
    have R := T9.out.row (.int .i64 (numAt s 4 4)) (.string (s.extract 8 24)) (.int .i64 (numAt s 24 2)) (.int .i64 (numAt s 26 4)) (.int .i64 (numAt s 30 4)) (.string (s.extract 34 66)) (.string (s.extract 66 98))
    refine bodyPost_ret (v := .tuple #[(headOf s).val, .int .i64 0]) ?r ?d ?fin
    case fin => exact ⟨by rw [HV.out], R.1⟩
    case d => rfl
    case r => exact results_cell_tmp Tryz.results34 _ _ (w.heap.size + 1) _ _ (0, 0) _ rfl R.2 Tryz.underlying30 rfl (by kernel_rfl)
end Go.Proofs.YtpmgackgcefalaaGreat
namespace Go.Proofs.YtpmgackgcefalaaGreat
open Go.RowKit
def rowSet (W : World) (g : Nat) : Nat → List Value → World
  | _, [] => W
  | k, v :: vs => rowSet (W.setCell ⟨g, k, none⟩ v) g (k + 1) vs
theorem below_rowSet {B g : Nat} {w : World} (hB : B ≤ g) : ∀ (vs : List Value) (k : Nat) (W : World), Below B w W → Below B w (rowSet W g k vs)
  | [], _, _, h => h
  | v :: vs, k, W, h => below_rowSet hB vs (k + 1) _ (h.setCell hB _)
theorem heap_rowSet_ne {g g' : Nat} (hne : g' ≠ g) : ∀ (vs : List Value) (k : Nat) (W : World), (rowSet W g k vs).heap[g']? = W.heap[g']?
  | [], _, _ => rfl
  | v :: vs, k, W => by rw [rowSet, heap_rowSet_ne hne vs, heap_setCell_ne hne]
theorem heap_rowSet_gen {g : Nat} {T : TypeId} {fr : Nat × Nat} : ∀ (vs pre suf : List Value) (W : World), suf.length = vs.length → W.heap[g]? = some (.cells (pre ++ suf).toArray T fr) → (rowSet W g pre.length vs).heap[g]? = some (.cells (pre ++ vs).toArray T fr)
  | [], pre, suf, W, hl, h => by
    have : suf = [] := List.eq_nil_of_length_eq_zero hl
    rw [this] at h
    exact h
  | v :: vs, pre, suf, W, hl, h => by
    match suf, hl with
    | u :: suf, hl =>
      have h1 := heap_setCell h pre.length v
      have e : ((pre ++ u :: suf).toArray.setIfInBounds pre.length v) = ((pre ++ [v]) ++ suf).toArray := by
        apply Array.ext'
        simp
      rw [e] at h1
      have h2 := heap_rowSet_gen vs (pre ++ [v]) suf _ (by simpa using hl) h1
      have e2 : (pre ++ [v]).length = pre.length + 1 := by simp
      rw [e2, List.append_assoc] at h2
      exact h2
theorem heap_rowSet {g : Nat} {T : TypeId} {fr : Nat × Nat} {C : Array Value} {W : World} (h : W.heap[g]? = some (.cells C T fr)) (vs : List Value) (hl : C.size = vs.length) : (rowSet W g 0 vs).heap[g]? = some (.cells vs.toArray T fr) := by
  have := heap_rowSet_gen (g := g) (T := T) (fr := fr) vs [] C.toList W (by simpa using hl) (by simpa using h)
  simpa using this
def setC (n a b c d : Int) : Array Value := #[.int .i64 n, .int .u64 a, .int .u64 b, .int .u64 c, .int .u64 d]
set_option maxRecDepth 100000 in
theorem bnew_any (n : Nat) (hn : n ≤ 256) (w : World) :
    Calls Tryz.prog 107 #[.int .i64 n] w fun e w' => e = .returned (.agg (setC n 0 0 0 0)) ∧ Below w.heap.size w w' := by
  have h1 : max (n : Int) 0 = n := by omega
  have h2 : min (n : Int) 256 = n := by omega
  go_enter Tryz.func107, Tryz.ntmps107
  go_wp2_with fail
  refine bodyPost_ret (v := .agg (setC n 0 0 0 0)) ?r ?d ?fin
  case fin => exact ⟨rfl, (Below.refl _ _).alloc (Nat.le_refl _) _⟩
  case d => rfl
  case r => exact results_cell_row Tryz.results107 _ _ w.heap.size _ _ (0, 0) _ rfl (heap_alloc_new _ _) Tryz.underlying135 rfl (by kernel_rfl)
theorem set_at (n a b c d : Int) (q : Nat) (hq : q < 4) : ∃ x : Int, (setC n a b c d)[1 + q]? = some (.int .u64 x) := by
  match q, hq with
  | 0, _ => exact ⟨a, rfl⟩
  | 1, _ => exact ⟨b, rfl⟩
  | 2, _ => exact ⟨c, rfl⟩
  | 3, _ => exact ⟨d, rfl⟩
theorem set_put (n a b c d : Int) (q : Nat) (hq : q < 4) (y : Int) : ∃ a' b' c' d' : Int, (setC n a b c d).setIfInBounds (1 + q) (.int .u64 y) = setC n a' b' c' d' := by
  match q, hq with
  | 0, _ => exact ⟨y, b, c, d, rfl⟩
  | 1, _ => exact ⟨a, y, c, d, rfl⟩
  | 2, _ => exact ⟨a, b, y, d, rfl⟩
  | 3, _ => exact ⟨a, b, c, y, rfl⟩
set_option maxRecDepth 100000 in
set_option maxHeartbeats 1000000 in
theorem bwith_any (n i : Nat) (hn : n ≤ 256) (hi : i < n) (a b c0 d : Int) (w : World) :
    Calls Tryz.prog 108 #[.agg (setC n a b c0 d), .int .i64 i] w fun e w' => (∃ a' b' c' d' : Int, e = .returned (.agg (setC n a' b' c' d'))) ∧ Below w.heap.size w w' := by
  have i0 : (0 : Int) ≤ i := by omega
  have i1 : (i : Int) < n := by omega
  obtain ⟨q, hq⟩ : ∃ q : Nat, q = i / 64 := ⟨_, rfl⟩
  have q4 : q < 4 := by omega
  have f1 := idx ((i : Int) / 64) q (by omega) (by omega)
  obtain ⟨r, hr⟩ : ∃ r : Nat, r = i % 64 := ⟨_, rfl⟩
  have f2 : (i : Int).tmod 64 = r := by rw [Int.tmod_eq_emod_of_nonneg i0, hr]; rfl
  have r0 : (0 : Int) ≤ r := by omega
  have r64 : (r : Int) < 64 := by omega
  have f3 : (i : Int) / 64 < 4 := by omega
  obtain ⟨x, hx⟩ := set_at n a b c0 d q q4
  have hg := heap_alloc_new w (.cells (setC n a b c0 d) 135 (0, 0))
  have hB := (Below.refl w.heap.size w).alloc (Nat.le_refl _) (.cells (setC n a b c0 d) 135 (0, 0))
  have HG := Lib.hid hg
  have HB := Lib.hid hB
  clear hg hB
  rw [show (Value.agg (setC n a b c0 d)) = Value.agg #[.int .i64 n, .int .u64 a, .int .u64 b, .int .u64 c0, .int .u64 d] from rfl]
  go_enter Tryz.func108, Tryz.ntmps108
  go_wp2_with fail
  generalize hW : ((w.alloc (.cells #[.int .i64 n, .int .u64 a, .int .u64 b, .int .u64 c0, .int .u64 d] 135 (0, 0))).alloc (.cells #[.int .i64 0, .int .u64 0, .int .u64 0, .int .u64 0, .int .u64 0] 135 (0, 0))) = W
  have hg1 : W.heap[w.heap.size]? = some (.cells (setC n a b c0 d) 135 (0, 0)) := by rw [← hW]; exact heap_alloc_old HG.out
  have hg2 : W.heap[w.heap.size + 1]? = some (.cells (setC 0 0 0 0 0) 135 (0, 0)) := by rw [← hW]; exact heap_alloc_at (by simp) _
  have hB2 : Below w.heap.size w W := by rw [← hW]; exact HB.out.alloc (by simp) _
  clear hW HG HB
  have HB := Lib.hid hB2
  have HG1 := Lib.hid hg1
  have HG2 := Lib.hid hg2
  clear hB2 hg1 hg2
  refine region_tail 11 (by kernel_rfl) (by kernel_rfl) fun w2 hs => ?_
  simp only [List.take_succ_cons, List.take_zero, List.drop_succ_cons, List.drop_zero]
  have hb2 := Lib.hid (HB.out.trans (hs.below _))
  have hg1 := hs.at HG1.out
  have hg2 := Lib.hid (hs.at HG2.out)
  have c := cell_of hg1 (1 + q)
  have z := frozen_of hg1 (1 + q)
  rw [hx] at c
  rw [hq] at c z
  have hg1' := Lib.hid hg1
  clear hg1 HG1 HG2 HB hx hs
  repeat still_step
  refine wpStill_nil ?_
  go_upto_region 3 with fail
  have hg3 := heap_setCell hg1'.out (1 + i / 64) (.int .u64 (bits .or .u64 x (IntKind.u64.wrap (2 ^ (i % 64)))))
  obtain ⟨a', b', c', d', he⟩ := set_put n a b c0 d q q4 (bits .or .u64 x (IntKind.u64.wrap (2 ^ (i % 64))))
  rw [hq] at he
  rw [he] at hg3
  have hz3 := hg2.out
  rw [← heap_setCell_ne (a := ⟨w.heap.size, 1 + i / 64, none⟩) (by simp) (.int .u64 (bits .or .u64 x (IntKind.u64.wrap (2 ^ (i % 64)))))] at hz3
  have hb3 := hb2.out.setCell (p := ⟨w.heap.size, 1 + i / 64, none⟩) (Nat.le_refl _) (.int .u64 (bits .or .u64 x (IntKind.u64.wrap (2 ^ (i % 64)))))
  generalize (w2.setCell { block := w.heap.size, off := 1 + i / 64 } (Value.int IntKind.u64 (bits BinOp.or IntKind.u64 x (IntKind.u64.wrap (2 ^ (i % 64)))))) = W3 at *
  clear c z hg1' hg2 hb2 he
  have y0 := cell_of hg3 0
  have y1 := cell_of hg3 1
  have y2 := cell_of hg3 2
  have y3 := cell_of hg3 3
  have y4 := cell_of hg3 4
  have u0 := cell_of hz3 0
  have u1 := cell_of hz3 1
  have u2 := cell_of hz3 2
  have u3 := cell_of hz3 3
  have u4 := cell_of hz3 4
  have v0 := frozen_of hz3 0
  have v1 := frozen_of hz3 1
  have v2 := frozen_of hz3 2
  have v3 := frozen_of hz3 3
  have v4 := frozen_of hz3 4
  simp [setC] at y0 y1 y2 y3 y4 u0 u1 u2 u3 u4
  have HZ := Lib.hid hz3
  have HB3 := Lib.hid hb3
  clear hz3 hb3 hg3
  go_wp2
  refine bodyPost_ret (v := .agg (setC n a' b' c' d')) ?r ?d ?fin
  case fin => exact ⟨⟨a', b', c', d', rfl⟩, below_rowSet (by simp) [.int .i64 n, .int .u64 a', .int .u64 b', .int .u64 c', .int .u64 d'] 0 _ HB3.out⟩
  case d => rfl
  case r => exact results_cell_row Tryz.results108 _ _ (w.heap.size + 1) _ _ (0, 0) _ rfl (heap_rowSet HZ.out [.int .i64 n, .int .u64 a', .int .u64 b', .int .u64 c', .int .u64 d'] rfl) Tryz.underlying135 rfl (by kernel_rfl)
set_option maxRecDepth 100000 in
theorem words_eq (a b c d a' b' c' d' : Int) (W : World) : ∃ r : Bool, (Op.equalIn 9999 133 (.agg #[.int .u64 a, .int .u64 b, .int .u64 c, .int .u64 d]) (.agg #[.int .u64 a', .int .u64 b', .int .u64 c', .int .u64 d'])).run Tryz.prog W = .ok r W := by
  have hk : Tryz.prog.plainKey 132 = true := by kernel_rfl
  obtain ⟨i, hi, hs⟩ := Option.map_eq_some_iff.1 (show (Tryz.prog.info? 132).map (·.size) = some 1 by kernel_rfl)
  have p (C : Array Value) (k : Nat) (v : Value) (hv : C[k]? = some v) (W : World) : (part 132 C k).run Tryz.prog W = .ok v W := run_part_plain W hk hv
  have q (x y : Int) (W : World) : (Op.equalIn 9998 132 (.int .u64 x) (.int .u64 y)).run Tryz.prog W = .ok (x == y) W := run_equalIn_int W 9997 _ _ _ x y Tryz.underlying132
  rw [show (9999 : Nat) = 9998 + 1 from rfl, run_equalIn_array W 9998 _ _ Tryz.underlying133 hi, show Tryz.prog.cellsOf 132 = 1 by kernel_rfl]
  rw [show List.range 4 = [0, 1, 2, 3] from rfl]
  have pX0 := p #[.int .u64 a, .int .u64 b, .int .u64 c, .int .u64 d] 0 (.int .u64 a) rfl
  have pX1 := p #[.int .u64 a, .int .u64 b, .int .u64 c, .int .u64 d] 1 (.int .u64 b) rfl
  have pX2 := p #[.int .u64 a, .int .u64 b, .int .u64 c, .int .u64 d] 2 (.int .u64 c) rfl
  have pX3 := p #[.int .u64 a, .int .u64 b, .int .u64 c, .int .u64 d] 3 (.int .u64 d) rfl
  generalize (#[.int .u64 a, .int .u64 b, .int .u64 c, .int .u64 d] : Array Value) = X at *
  have pY0 := p #[.int .u64 a', .int .u64 b', .int .u64 c', .int .u64 d'] 0 (.int .u64 a') rfl
  have pY1 := p #[.int .u64 a', .int .u64 b', .int .u64 c', .int .u64 d'] 1 (.int .u64 b') rfl
  have pY2 := p #[.int .u64 a', .int .u64 b', .int .u64 c', .int .u64 d'] 2 (.int .u64 c') rfl
  have pY3 := p #[.int .u64 a', .int .u64 b', .int .u64 c', .int .u64 d'] 3 (.int .u64 d') rfl
  generalize (#[.int .u64 a', .int .u64 b', .int .u64 c', .int .u64 d'] : Array Value) = Y at *
  clear p
  by_cases h0 : a = a' <;> by_cases h1 : b = b' <;> by_cases h2 : c = c' <;> by_cases h3 : d = d' <;> simp [Op.eqItems, pX0, pX1, pX2, pX3, pY0, pY1, pY2, pY3, q, h0, h1, h2, h3]
set_option maxRecDepth 100000 in
set_option maxHeartbeats 1000000 in
theorem bwithin_any (n a b c0 d n' a' b' c' d' : Int) (w : World) :
    Calls Tryz.prog 109 #[.agg (setC n a b c0 d), .agg (setC n' a' b' c' d')] w fun e w' => (∃ r : Bool, e = .returned (.bool r)) ∧ Below w.heap.size w w' := by
  rw [show (Value.agg (setC n a b c0 d)) = Value.agg #[.int .i64 n, .int .u64 a, .int .u64 b, .int .u64 c0, .int .u64 d] from rfl, show (Value.agg (setC n' a' b' c' d')) = Value.agg #[.int .i64 n', .int .u64 a', .int .u64 b', .int .u64 c', .int .u64 d'] from rfl]
  have hB := ((Below.refl w.heap.size w).alloc (Nat.le_refl _) (.cells (setC n a b c0 d) 135 (0, 0))).alloc (by simp) (.cells (setC n' a' b' c' d') 135 (0, 0))
  have HB := Lib.hid hB
  clear hB
  have heq := fun W => words_eq a b c0 d a' b' c' d' W
  have hx := fun (i : Nat) (v : Value) hv W => run_index_agg (P := Tryz.prog) 133 132 4 Tryz.underlying132 Tryz.underlying133 (by kernel_rfl) #[.int .u64 a, .int .u64 b, .int .u64 c0, .int .u64 d] rfl i v hv W
  have HX := Lib.hid hx
  clear hx
  have HE := Lib.hid heq
  clear heq
  go_enter Tryz.func109, Tryz.ntmps109
  go_upto_region 1 with fail
  obtain ⟨r, hr⟩ := HE.out ((w.alloc (.cells #[.int .i64 n, .int .u64 a, .int .u64 b, .int .u64 c0, .int .u64 d] 135 (0, 0))).alloc (.cells #[.int .i64 n', .int .u64 a', .int .u64 b', .int .u64 c', .int .u64 d'] 135 (0, 0)))
  go_cut [7, 8, 9] from 7 to 9 (fun x y z wx => (∃ r : Bool, z = .bool r) ∧ wx = ((w.alloc (.cells #[.int .i64 n, .int .u64 a, .int .u64 b, .int .u64 c0, .int .u64 d] 135 (0, 0))).alloc (.cells #[.int .i64 n', .int .u64 a', .int .u64 b', .int .u64 c', .int .u64 d'] 135 (0, 0))))
  case first =>
    by_cases h0 : n = n'
    · subst h0
      cases r
      · go_wp2_with fail
        go_meet
        exact ⟨⟨_, rfl⟩, rfl⟩
      · go_wp2_with fail
        go_meet
        exact ⟨⟨_, rfl⟩, rfl⟩
    · clear hr
      go_wp2_with fail
      go_meet
      exact ⟨⟨_, rfl⟩, rfl⟩
  case rest =>
    obtain ⟨⟨r, rfl⟩, rfl⟩ := hcut
    clear hr HE
    have hg := heap_alloc_at (w := w.alloc (.cells #[.int .i64 n, .int .u64 a, .int .u64 b, .int .u64 c0, .int .u64 d] 135 (0, 0))) (n := w.heap.size + 1) (by simp) (.cells #[.int .i64 n', .int .u64 a', .int .u64 b', .int .u64 c', .int .u64 d'] 135 (0, 0))
    have HG := Lib.hid hg
    clear hg
    cases r
    case true =>
      go_wp2_with fail
      go_ret
      exact ⟨⟨true, rfl⟩, HB.out⟩
    case false =>
      go_wp2_with fail
      go_loopw [12] (fun i wr => (i = .int .i64 0 ∨ i = .int .i64 1 ∨ i = .int .i64 2 ∨ i = .int .i64 3 ∨ i = .int .i64 4) ∧ Below w.heap.size w wr ∧ wr.heap[w.heap.size + 1]? = some (.cells #[.int .i64 n', .int .u64 a', .int .u64 b', .int .u64 c', .int .u64 d'] 135 (0, 0))) (fun i _ => 4 - (intOf i).toNat)
      case atStart => exact ⟨.inl rfl, HB.out, HG.out⟩
      case round =>
        obtain ⟨hi, hb, hg⟩ := hrel
        clear HB HG
        have x0 : (Instr.index 133 (.agg #[.int .u64 a, .int .u64 b, .int .u64 c0, .int .u64 d]) (.int .i64 0)).run Tryz.prog wr = .ok (.int .u64 a) wr := HX.out 0 _ rfl wr
        have x1 : (Instr.index 133 (.agg #[.int .u64 a, .int .u64 b, .int .u64 c0, .int .u64 d]) (.int .i64 1)).run Tryz.prog wr = .ok (.int .u64 b) wr := HX.out 1 _ rfl wr
        have x2 : (Instr.index 133 (.agg #[.int .u64 a, .int .u64 b, .int .u64 c0, .int .u64 d]) (.int .i64 2)).run Tryz.prog wr = .ok (.int .u64 c0) wr := HX.out 2 _ rfl wr
        have x3 : (Instr.index 133 (.agg #[.int .u64 a, .int .u64 b, .int .u64 c0, .int .u64 d]) (.int .i64 3)).run Tryz.prog wr = .ok (.int .u64 d) wr := HX.out 3 _ rfl wr
        clear HX
        have HBr := Lib.hid hb
        have HGr := Lib.hid hg
        have y1 := cell_of hg 1
        have y2 := cell_of hg 2
        have y3 := cell_of hg 3
        have y4 := cell_of hg 4
        simp at y1 y2 y3 y4
        clear hb hg
        rcases hi with rfl | rfl | rfl | rfl | rfl
        · go_wp2
          · go_ret; exact ⟨⟨_, rfl⟩, HBr.out⟩
          · go_roundw
            case rel => exact ⟨by simp, HBr.out, HGr.out⟩
            case measure => decide
        · go_wp2
          · go_ret; exact ⟨⟨_, rfl⟩, HBr.out⟩
          · go_roundw
            case rel => exact ⟨by simp, HBr.out, HGr.out⟩
            case measure => decide
        · go_wp2
          · go_ret; exact ⟨⟨_, rfl⟩, HBr.out⟩
          · go_roundw
            case rel => exact ⟨by simp, HBr.out, HGr.out⟩
            case measure => decide
        · go_wp2
          · go_ret; exact ⟨⟨_, rfl⟩, HBr.out⟩
          · go_roundw
            case rel => exact ⟨by simp, HBr.out, HGr.out⟩
            case measure => decide
        · go_wp2
          go_ret; exact ⟨⟨_, rfl⟩, HBr.out⟩
set_option maxRecDepth 100000 in
set_option maxHeartbeats 1000000 in
theorem take8_any (s : ByteArray) (hs : 8 ≤ s.size) (hsz : s.size ≤ 140737488355327) (w : World) :
    Calls Tryz.prog 65 #[.string s, .int .i64 8] w fun e w' => (∃ z : Int, e = .returned (.tuple #[.int .i64 z, .string (s.extract 8 s.size), .int .i64 0])) ∧ Below w.heap.size w w' := by
  go_enter Tryz.func65, Tryz.ntmps65
  have k3 : ¬ (s.size : Int) < 8 := by omega
  have hcv := fun w => run_bytes_of_string (P := Tryz.prog) w 9 99 5 (s.extract 0 8) Tryz.underlying9 Tryz.underlying99 Tryz.underlying5
  have hes : (s.extract 0 8).size = 8 := by simp; omega
  rw [hes] at hcv
  have k4 : (8 : Int) ≤ s.size := by omega
  go_wp2_with fail
  go_loopg [7, 27] 8 (fun j v i wr => ∃ t : Nat, t ≤ 8 ∧ j = 8 - t ∧ i = .int .i64 t ∧ (∃ z : Int, v = .int .i64 z) ∧ Below w.heap.size w wr ∧ (∀ j, j < 8 → wr.cell? ⟨w.heap.size, j, none⟩ = some (.int .u8 (s.data.toList.getD j 0).toNat)))
  case atStart =>
    refine ⟨0, Nat.zero_le _, rfl, rfl, ⟨_, rfl⟩, ?_, fun j hj => ?_⟩
    · exact ((Same.drew w).below _).alloc (by simp) _ 
    · have hsd : j < (s.extract 0 8).data.size := by show j < (s.extract 0 8).size; omega
      have hb := bytesRow_at (s.extract 0 8) (grownCap w 8 0 5) j hsd
      have e1 : (s.extract 0 8).data[j] = s.data.toList.getD j 0 := by
        have hj2 : j < s.data.size := by show j < s.size; omega
        rw [List.getD_eq_getElem?_getD, List.getElem?_eq_getElem (by rw [Array.length_toList]; exact hj2)]
        simp [ByteArray.data_extract]
      rw [e1] at hb
      refine (Same.drew _).cell ?_
      rw [cell_of (heap_alloc_new _ _)]
      exact hb
  case round =>
    obtain ⟨t, ht, rfl, rfl, ⟨z, rfl⟩, hb, hc⟩ := hrel
    clear hcv
    have HB := Lib.hid hb
    by_cases hlt : t < 8
    · have hlt' : (t : Int) < 8 := by omega
      have c := hc t hlt
      have HC := Lib.hid hc
      generalize (s.data.toList.getD t 0).toNat = B at *
      clear hb hc
      go_wp2
      go_roundg (8 - t - 1)
      case measure => omega
      case rel => exact ⟨t + 1, by omega, by omega, by go_num, ⟨_, rfl⟩, HB.out, HC.out⟩
    · have et : t = 8 := by omega
      subst et
      clear hb hc
      go_wp2
      go_quiet (fail)
      have HB2 := Lib.hid (HB.out.trans ((Same.drewN wr nq).below _))
      clear HB
      generalize wr.drewN nq = w2 at *
      go_wp2
      go_ret3
      exact ⟨⟨z, rfl⟩, HB2.out⟩
def TakesSet (e : Ending) : Prop := ∃ n a b c d z : Int, e = .returned (.tuple #[.agg (setC n a b c d), .int .i64 z])
set_option maxRecDepth 100000 in
set_option maxHeartbeats 2000000 in
theorem btake_out (n : Int) (s : ByteArray) (h : n < 0 ∨ 256 < n ∨ s.size ≠ 32) (w : World) :
    Calls Tryz.prog 94 #[.int .i64 n, .string s] w fun e w' => TakesSet e ∧ Below w.heap.size w w' := by
  by_cases h1 : n < 0
  · go_enter Tryz.func94, Tryz.ntmps94
    go_wp2_with fail
    refine bodyPost_ret (v := .tuple #[.agg (setC 0 0 0 0 0), .int .i64 1]) ?r ?d ?fin
    case fin => exact ⟨⟨_, _, _, _, _, _, rfl⟩, (Below.refl _ _).alloc (Nat.le_refl _) _⟩
    case d => rfl
    case r => exact results_cell_tmp Tryz.results94 _ _ w.heap.size _ _ (0, 0) _ rfl (heap_alloc_new _ _) Tryz.underlying135 rfl (by kernel_rfl)
  by_cases h2 : 256 < n
  · go_enter Tryz.func94, Tryz.ntmps94
    go_wp2_with fail
    refine bodyPost_ret (v := .tuple #[.agg (setC 0 0 0 0 0), .int .i64 1]) ?r ?d ?fin
    case fin => exact ⟨⟨_, _, _, _, _, _, rfl⟩, (Below.refl _ _).alloc (Nat.le_refl _) _⟩
    case d => rfl
    case r => exact results_cell_tmp Tryz.results94 _ _ w.heap.size _ _ (0, 0) _ rfl (heap_alloc_new _ _) Tryz.underlying135 rfl (by kernel_rfl)
  · have h3 : ¬ (s.size : Int) = 32 := by omega
    clear h
    go_enter Tryz.func94, Tryz.ntmps94
    go_wp2_with fail
    refine bodyPost_ret (v := .tuple #[.agg (setC 0 0 0 0 0), .int .i64 2]) ?r ?d ?fin
    case fin => exact ⟨⟨_, _, _, _, _, _, rfl⟩, (Below.refl _ _).alloc (Nat.le_refl _) _⟩
    case d => rfl
    case r => exact results_cell_tmp Tryz.results94 _ _ w.heap.size _ _ (0, 0) _ rfl (heap_alloc_new _ _) Tryz.underlying135 rfl (by kernel_rfl)
end Go.Proofs.YtpmgackgcefalaaGreat
namespace Go.Proofs.YtpmgackgcefalaaGreat
open Go.RowKit
structure BkAt (w W : World) (n : Int) : Prop where
  below : Below w.heap.size w W
  z : W.heap[w.heap.size]? = some (.cells (setC 0 0 0 0 0) 135 (0, 0))
  s : ∃ a b c d : Int, W.heap[w.heap.size + 1]? = some (.cells (setC n a b c d) 135 (0, 0))
theorem BkAt.after {w W w1 : World} {n : Int} (t : BkAt w W n) (hb : Below W.heap.size W w1) : BkAt w w1 n :=
  ⟨t.below.trans (hb.mono t.below.size), heap_below t.z hb, let ⟨a, b, c, d, h⟩ := t.s; ⟨a, b, c, d, heap_below h hb⟩⟩
theorem BkAt.put {w W : World} {n : Int} (t : BkAt w W n) (q : Nat) (hq : q < 4) (y : Int) : BkAt w (W.setCell ⟨w.heap.size + 1, 1 + q, none⟩ (.int .u64 y)) n := by
  obtain ⟨a, b, c, d, h⟩ := t.s
  obtain ⟨a', b', c', d', e⟩ := set_put n a b c d q hq y
  refine ⟨t.below.setCell (by simp) _, by rw [heap_setCell_ne (by simp)]; exact t.z, a', b', c', d', ?_⟩
  rw [heap_setCell h, e]
structure FkAt (w W : World) (n : Int) (g : Nat) : Prop where
  at' : BkAt w W n
  lt : w.heap.size + 1 < g
  f : ∃ a b c d : Int, W.heap[g]? = some (.cells (setC n a b c d) 135 (0, 0))
theorem FkAt.after {w W w1 : World} {n : Int} {g : Nat} (t : FkAt w W n g) (hb : Below W.heap.size W w1) : FkAt w w1 n g :=
  ⟨t.at'.after hb, t.lt, let ⟨a, b, c, d, h⟩ := t.f; ⟨a, b, c, d, heap_below h hb⟩⟩
theorem FkAt.put {w W : World} {n : Int} {g : Nat} (t : FkAt w W n g) (a b c d : Int) : FkAt w (rowSet W g 0 [.int .i64 n, .int .u64 a, .int .u64 b, .int .u64 c, .int .u64 d]) n g := by
  obtain ⟨a0, b0, c0, d0, h⟩ := t.f
  have hl := t.lt
  refine ⟨⟨below_rowSet (by omega) _ _ _ t.at'.below, by rw [heap_rowSet_ne (by omega)]; exact t.at'.z, ?_⟩, hl, a, b, c, d, heap_rowSet h _ rfl⟩
  obtain ⟨a1, b1, c1, d1, h1⟩ := t.at'.s
  exact ⟨a1, b1, c1, d1, by rw [heap_rowSet_ne (by omega)]; exact h1⟩
theorem cut32 (s : ByteArray) (hs : s.size = 32) (t : Nat) (ht : t < 4) : (s.extract (8 * t) 32).size = 32 - 8 * t ∧ (s.extract (8 * t) 32).extract 8 (32 - 8 * t) = s.extract (8 * (t + 1)) 32 := by
  have h1 : (s.extract (8 * t) 32).size = 32 - 8 * t := by simp; omega
  refine ⟨h1, ?_⟩
  rw [ByteArray.extract_extract]
  congr 1; omega
set_option maxRecDepth 100000 in
set_option maxHeartbeats 4000000 in
theorem btake_in (n : Nat) (s : ByteArray) (hn : n ≤ 256) (hs : s.size = 32) (w : World) :
    Calls Tryz.prog 94 #[.int .i64 n, .string s] w fun e w' => TakesSet e ∧ Below w.heap.size w w' := by
  have n0 : (0 : Int) ≤ n := by omega
  have n1 : (n : Int) ≤ 256 := by omega
  have hs' : (s.size : Int) = 32 := by omega
  go_enter Tryz.func94, Tryz.ntmps94
  go_wp2_with fail
  go_loopw [1, 26] (fun s1 i wr => ∃ t : Nat, t ≤ 4 ∧ i = .int .i64 t ∧ s1 = .string (s.extract (8 * t) 32) ∧ BkAt w wr n) (fun _ i _ => 4 - (intOf i).toNat)
  case atStart =>
    refine ⟨0, by omega, rfl, ?_, ⟨((Below.refl w.heap.size w).alloc (Nat.le_refl _) _).alloc (by simp) _, heap_alloc_old (heap_alloc_new _ _), 0, 0, 0, 0, heap_alloc_at (by simp) _⟩⟩
    congr 1
    simp [← hs]
  case round =>
    obtain ⟨t, ht, rfl, rfl, hk⟩ := hrel
    have HK := Lib.hid hk
    clear hk
    by_cases hlt : t < 4
    · have hlt' : (t : Int) < 4 := by omega
      obtain ⟨e1, e2⟩ := cut32 s hs t hlt
      have E2 := Lib.hid e2
      clear e2
      go_wp2_with fail
      refine (take8_any (s.extract (8 * t) 32) (by omega) (by omega) _).mono ?_
      rintro e w1 ⟨⟨z, rfl⟩, hb1⟩
      have HK1 := Lib.hid (HK.out.after hb1)
      obtain ⟨a, b, c0, d, hg⟩ := HK1.out.s
      obtain ⟨x, hx⟩ := set_at n a b c0 d t hlt
      have c := cell_of hg (1 + t)
      have f := frozen_of hg (1 + t)
      rw [hx] at c
      clear hb1 HK hg hx
      go_wp2
      go_roundw
      case rel => exact ⟨t + 1, by omega, by go_num, by rw [E2.out], HK1.out.put t hlt _⟩
      case measure => simp [intOf]; omega
    · have et : t = 4 := by omega
      subst et
      go_wp2_with fail
      refine (bnew_any n hn _).mono ?_
      rintro e w1 ⟨rfl, hb1⟩
      have HK1 := Lib.hid (HK.out.after hb1)
      clear hb1 HK
      simp only [setC]
      go_wp2_with fail
      have hF : FkAt w (w1.alloc (.cells #[.int .i64 n, .int .u64 0, .int .u64 0, .int .u64 0, .int .u64 0] 135 (0, 0))) n w1.heap.size := by
        obtain ⟨a, b, c0, d, hg⟩ := HK1.out.s
        exact ⟨⟨HK1.out.below.alloc HK1.out.below.size _, heap_alloc_old HK1.out.z, a, b, c0, d, heap_alloc_old hg⟩, lt_of_heap hg, 0, 0, 0, 0, heap_alloc_new _ _⟩
      have HF0 := Lib.hid hF
      clear hF HK1
      generalize w1.alloc (.cells #[.int .i64 n, .int .u64 0, .int .u64 0, .int .u64 0, .int .u64 0] 135 (0, 0)) = W1 at *
      generalize w1.heap.size = g at *
      go_loopw [45] (fun i wr => ∃ t : Nat, t ≤ n ∧ i = .int .i64 t ∧ FkAt w wr n g) (fun i _ => n - (intOf i).toNat)
      case atStart => exact ⟨0, by omega, rfl, HF0.out⟩
      case round =>
        clear HF0
        obtain ⟨t, ht, rfl, hf⟩ := hrel
        have HF := Lib.hid hf
        obtain ⟨a, b, c0, d, hg⟩ := hf.f
        have y0 := cell_of hg 0
        have y1 := cell_of hg 1
        have y2 := cell_of hg 2
        have y3 := cell_of hg 3
        have y4 := cell_of hg 4
        simp [setC] at y0 y1 y2 y3 y4
        clear hf
        by_cases hlt : t < n
        · have hlt' : (t : Int) < n := by omega
          clear hg
          go_wp2_with fail
          refine (bwith_any n t hn hlt a b c0 d _).mono ?_
          rintro e w2 ⟨⟨a', b', c', d', rfl⟩, hb2⟩
          have HF2 := Lib.hid (HF.out.after hb2)
          obtain ⟨a2, b2, c2, d2, hg⟩ := HF2.out.f
          have z0 := cell_of hg 0
          have z1 := cell_of hg 1
          have z2 := cell_of hg 2
          have z3 := cell_of hg 3
          have z4 := cell_of hg 4
          have f0 := frozen_of hg 0
          have f1 := frozen_of hg 1
          have f2 := frozen_of hg 2
          have f3 := frozen_of hg 3
          have f4 := frozen_of hg 4
          simp [setC] at z0 z1 z2 z3 z4
          clear hb2 HF y0 y1 y2 y3 y4 hg
          simp only [setC]
          go_wp2
          go_roundw
          case rel => exact ⟨t + 1, by omega, by go_num, HF2.out.put a' b' c' d'⟩
          case measure => simp [intOf]; omega
        · have hlt' : ¬ (t : Int) < n := by omega
          obtain ⟨a2, b2, c2, d2, hg2⟩ := HF.out.at'.s
          have z0 := cell_of hg2 0
          have z1 := cell_of hg2 1
          have z2 := cell_of hg2 2
          have z3 := cell_of hg2 3
          have z4 := cell_of hg2 4
          simp [setC] at z0 z1 z2 z3 z4
          clear hg hg2
          go_wp2_with fail
          refine (bwithin_any n a2 b2 c2 d2 n a b c0 d _).mono ?_
          rintro e w2 ⟨⟨r, rfl⟩, hb2⟩
          have HF2 := Lib.hid (HF.out.after hb2)
          have hz := HF2.out.at'.z
          obtain ⟨a3, b3, c3, d3, hg3⟩ := HF2.out.at'.s
          have x0 := cell_of hg3 0
          have x1 := cell_of hg3 1
          have x2 := cell_of hg3 2
          have x3 := cell_of hg3 3
          have x4 := cell_of hg3 4
          simp [setC] at x0 x1 x2 x3 x4
          have u0 := cell_of hz 0
          have u1 := cell_of hz 1
          have u2 := cell_of hz 2
          have u3 := cell_of hz 3
          have u4 := cell_of hz 4
          have f0 := frozen_of hz 0
          have f1 := frozen_of hz 1
          have f2 := frozen_of hz 2
          have f3 := frozen_of hz 3
          have f4 := frozen_of hz 4
          simp [setC] at u0 u1 u2 u3 u4
          have HZ := Lib.hid hz
          clear hb2 HF y0 y1 y2 y3 y4 z0 z1 z2 z3 z4 hg3 hz
          cases r
          · go_wp2_with fail
            refine bodyPost_ret (v := .tuple #[.agg (setC 0 0 0 0 0), .int .i64 2]) ?r ?d ?fin
            case fin => exact ⟨⟨_, _, _, _, _, _, rfl⟩, below_rowSet (Nat.le_refl _) [.int .i64 0, .int .u64 0, .int .u64 0, .int .u64 0, .int .u64 0] 0 _ HF2.out.at'.below⟩
            case d => rfl
            case r => exact results_cell_tmp Tryz.results94 _ _ w.heap.size _ _ (0, 0) _ rfl (heap_rowSet HZ.out [.int .i64 0, .int .u64 0, .int .u64 0, .int .u64 0, .int .u64 0] rfl) Tryz.underlying135 rfl (by kernel_rfl)
          · go_wp2_with fail
            refine bodyPost_ret (v := .tuple #[.agg (setC n a3 b3 c3 d3), .int .i64 0]) ?r ?d ?fin
            case fin => exact ⟨⟨_, _, _, _, _, _, rfl⟩, below_rowSet (Nat.le_refl _) [.int .i64 n, .int .u64 a3, .int .u64 b3, .int .u64 c3, .int .u64 d3] 0 _ HF2.out.at'.below⟩
            case d => rfl
            case r => exact results_cell_tmp Tryz.results94 _ _ w.heap.size _ _ (0, 0) _ rfl (heap_rowSet HZ.out [.int .i64 n, .int .u64 a3, .int .u64 b3, .int .u64 c3, .int .u64 d3] rfl) Tryz.underlying135 rfl (by kernel_rfl)
theorem btake_any (n : Int) (s : ByteArray) (w : World) :
    Calls Tryz.prog 94 #[.int .i64 n, .string s] w fun e w' => TakesSet e ∧ Below w.heap.size w w' := by
  by_cases h : n < 0 ∨ 256 < n ∨ s.size ≠ 32
  · exact btake_out n s h w
  · obtain ⟨k, rfl⟩ : ∃ k : Nat, n = k := ⟨n.toNat, by omega⟩
    exact btake_in k s (by omega) (by omega) w
end Go.Proofs.YtpmgackgcefalaaGreat
namespace Go.Proofs.YtpmgackgcefalaaGreat
open Go.RowKit
set_option maxRecDepth 100000 in
set_option maxHeartbeats 2000000 in
theorem htake_short (s : ByteArray) (hs : ¬ s.size = 98) (w : World) :
    Calls Tryz.prog 34 #[.string s] w fun e w' => e = .returned (.tuple #[.agg zeroH, .int .i64 2]) ∧ Below w.heap.size w w' := by
  have hs' : ¬ (s.size : Int) = 98 := by omega
  go_enter Tryz.func34, Tryz.ntmps34
  go_wp2_with fail
  refine bodyPost_ret (v := .tuple #[.agg zeroH, .int .i64 2]) ?r ?d ?fin
  case fin => exact ⟨rfl, ((Below.refl w.heap.size w).alloc (Nat.le_refl _) _).alloc (by simp) _⟩
  case d => rfl
  case r => exact results_cell_tmp Tryz.results34 _ _ (w.heap.size + 1) _ _ (0, 0) _ rfl (heap_alloc_at (by simp) _) Tryz.underlying30 rfl (by kernel_rfl)
set_option maxRecDepth 100000 in
set_option maxHeartbeats 2000000 in
theorem htake_mark (s : ByteArray) (hs : s.size = 98) (hm : ¬ s.extract 0 4 = ⟨#[83, 76, 71, 49]⟩) (w : World) :
    Calls Tryz.prog 34 #[.string s] w fun e w' => e = .returned (.tuple #[.agg zeroH, .int .i64 2]) ∧ Below w.heap.size w w' := by
  have hs' : (s.size : Int) = 98 := by omega
  have hml : ((s.extract 0 4).toList == [83, 76, 71, 49]) = false := by
    rw [beq_eq_false_iff_ne]
    intro h
    refine hm (ByteArray.ext (Array.ext' ?_))
    rw [← ByteArray.toList_eq, h]
  go_enter Tryz.func34, Tryz.ntmps34
  go_wp2_with fail
  refine bodyPost_ret (v := .tuple #[.agg zeroH, .int .i64 2]) ?r ?d ?fin
  case fin => exact ⟨rfl, ((Below.refl w.heap.size w).alloc (Nat.le_refl _) _).alloc (by simp) _⟩
  case d => rfl
  case r => exact results_cell_tmp Tryz.results34 _ _ (w.heap.size + 1) _ _ (0, 0) _ rfl (heap_alloc_at (by simp) _) Tryz.underlying30 rfl (by kernel_rfl)
def htakeAny (s : ByteArray) : Value :=
  if s.size = 98 then if s.extract 0 4 = ⟨#[83, 76, 71, 49]⟩ then htakeV s else .tuple #[.agg zeroH, .int .i64 2] else .tuple #[.agg zeroH, .int .i64 2]
theorem htake_any (s : ByteArray) (w : World) :
    Calls Tryz.prog 34 #[.string s] w fun e w' => e = .returned (htakeAny s) ∧ Below w.heap.size w w' := by
  unfold htakeAny
  by_cases h1 : s.size = 98
  · rw [if_pos h1]
    by_cases h2 : s.extract 0 4 = ⟨#[83, 76, 71, 49]⟩
    · rw [if_pos h2]; exact htake_in s h1 h2 w
    · rw [if_neg h2]; exact htake_mark s h1 h2 w
  · rw [if_neg h1]; exact htake_short s h1 w
end Go.Proofs.YtpmgackgcefalaaGreat
namespace Go.Proofs.YtpmgackgcefalaaGreat
open Go.RowKit
def pkC (kind frm seq id i n : Int) (text : ByteArray) (sl : Value) : Array Value := #[.int .i64 kind, .int .i64 frm, .int .i64 seq, .int .i64 id, .int .i64 i, .int .i64 n, .string text, sl]
def numOk (n least : Int) : Bool := decide (least ≤ n ∧ n ≤ 4294967295)
theorem pnum_any (n least : Int) (w : World) :
    Calls Tryz.prog 92 #[.int .i64 n, .int .i64 least] w fun e w' => e = .returned (.bool (numOk n least)) ∧ w' = w := by
  by_cases h1 : least ≤ n
  · by_cases h2 : n ≤ 4294967295
    · have e : numOk n least = true := decide_eq_true ⟨h1, h2⟩
      rw [e]
      go_enter Tryz.func92, Tryz.ntmps92
      go_wp2_with fail
      go_ret
      exact ⟨rfl, rfl⟩
    · have e : numOk n least = false := decide_eq_false (fun h => h2 h.2)
      rw [e]
      go_enter Tryz.func92, Tryz.ntmps92
      go_wp2_with fail
      go_ret
      exact ⟨rfl, rfl⟩
  · have e : numOk n least = false := decide_eq_false (fun h => h1 h.1)
    rw [e]
    go_enter Tryz.func92, Tryz.ntmps92
    go_wp2_with fail
    go_ret
    exact ⟨rfl, rfl⟩
theorem plain_offer (frm : Int) (text : ByteArray) (w : World) :
    Calls Tryz.prog 93 #[.agg (pkC 1 frm 0 0 0 0 text (.slice none 0 0))] w fun e w' => e = .returned (.bool true) ∧ Below w.heap.size w w' := by
  simp only [pkC]
  have hB := fun o : Obj => (Below.refl w.heap.size w).alloc (Nat.le_refl _) o
  have HB := Lib.hid hB
  clear hB
  go_enter Tryz.func93, Tryz.ntmps93
  go_wp2_with fail
  go_ret
  exact ⟨rfl, HB.out _⟩
set_option maxRecDepth 100000 in
set_option maxHeartbeats 1000000 in
theorem plain_any (kind frm seq id i n : Int) (text : ByteArray) (a : Option Addr) (len cap : Nat) (hk : kind = 2 ∨ kind = 3 ∨ kind = 4) (w : World) :
    Calls Tryz.prog 93 #[.agg (pkC kind frm seq id i n text (.slice a len cap))] w fun e w' => (∃ b : Bool, e = .returned (.bool b)) ∧ Below w.heap.size w w' := by
  simp only [pkC]
  have hB := fun o : Obj => (Below.refl w.heap.size w).alloc (Nat.le_refl _) o
  have HB := Lib.hid hB
  clear hB
  rcases hk with rfl | rfl | rfl
  · go_enter Tryz.func93, Tryz.ntmps93
    by_cases h1 : seq = 0
    · by_cases h2 : n = 0
      · go_wp2_with fail
        go_ret
        exact ⟨⟨_, rfl⟩, HB.out _⟩
      · go_wp2_with fail
        go_ret
        exact ⟨⟨_, rfl⟩, HB.out _⟩
    · go_wp2_with fail
      go_ret
      exact ⟨⟨_, rfl⟩, HB.out _⟩
  · go_enter Tryz.func93, Tryz.ntmps93
    go_wp2_with fail
    go_ret
    exact ⟨⟨_, rfl⟩, HB.out _⟩
  · go_enter Tryz.func93, Tryz.ntmps93
    by_cases h1 : i = 0
    · by_cases h2 : n = 0
      · go_wp2_with fail
        go_ret
        exact ⟨⟨_, rfl⟩, HB.out _⟩
      · go_wp2_with fail
        go_ret
        exact ⟨⟨_, rfl⟩, HB.out _⟩
    · go_wp2_with fail
      go_ret
      exact ⟨⟨_, rfl⟩, HB.out _⟩
def htakeHead (s : ByteArray) : Array Value := if s.size = 98 ∧ s.extract 0 4 = ⟨#[83, 76, 71, 49]⟩ ∧ (headOf s).check ≠ 1 then
  #[.int .i64 (headOf s).id, .string (headOf s).salt, .int .i64 (headOf s).n, .int .i64 (headOf s).bytes, .int .i64 (headOf s).raw, .string (headOf s).root, .string (headOf s).tag] else zeroH
def htakeErr (s : ByteArray) : Int := if s.size = 98 ∧ s.extract 0 4 = ⟨#[83, 76, 71, 49]⟩ ∧ (headOf s).check ≠ 1 then 0 else 2
theorem htakeAny_eq (s : ByteArray) : htakeAny s = .tuple #[.agg (htakeHead s), .int .i64 (htakeErr s)] := by
  unfold htakeAny htakeHead htakeErr htakeV
  by_cases h1 : s.size = 98
  · by_cases h2 : s.extract 0 4 = ⟨#[83, 76, 71, 49]⟩
    · by_cases h3 : (headOf s).check = 1
      · simp [h1, h2, h3]
      · simp [h1, h2, h3, Header.val]
    · simp [h1, h2]
  · simp [h1]
theorem htakeHead_cells (s : ByteArray) : ∃ (a c d e : Int) (b f g : ByteArray), htakeHead s = #[.int .i64 a, .string b, .int .i64 c, .int .i64 d, .int .i64 e, .string f, .string g] := by
  unfold htakeHead
  split
  · exact ⟨_, _, _, _, _, _, _, rfl⟩
  · exact ⟨_, _, _, _, _, _, _, rfl⟩
structure CkAt (w W : World) (C : Array Value) : Prop where
  below : Below w.heap.size w W
  p : W.heap[w.heap.size]? = some (.cells C 66 (0, 0))
theorem CkAt.start (w : World) (C : Array Value) : CkAt w (w.alloc (.cells C 66 (0, 0))) C := ⟨(Below.refl _ _).alloc (Nat.le_refl _) _, heap_alloc_new _ _⟩
theorem CkAt.after {w W w1 : World} {C : Array Value} (t : CkAt w W C) (hb : Below W.heap.size W w1) : CkAt w w1 C := ⟨t.below.trans (hb.mono t.below.size), heap_below t.p hb⟩
def offerErr (frm : Int) (text : ByteArray) : Int := if numOk frm 1 = true ∧ htakeErr text = 0 then 0 else 1
set_option maxRecDepth 100000 in
set_option maxHeartbeats 2000000 in
theorem pcheck_offer (frm : Int) (text : ByteArray) (w : World) :
    Calls Tryz.prog 63 #[.agg (pkC 1 frm 0 0 0 0 text (.slice none 0 0))] w fun e w' => e = .returned (.int .i64 (offerErr frm text)) ∧ Below w.heap.size w w' := by
  obtain ⟨r, hr⟩ : ∃ r, r = offerErr frm text := ⟨_, rfl⟩
  rw [← hr]
  unfold offerErr at hr
  have HR := Lib.hid hr
  clear hr
  have h0 := Lib.hid (CkAt.start w (pkC 1 frm 0 0 0 0 text (.slice none 0 0)))
  have hpl := Lib.hid (plain_offer frm text)
  simp only [pkC] at h0 hpl ⊢
  go_enter Tryz.func63, Tryz.ntmps63
  go_wp2_with fail
  refine (hpl.out _).mono ?_
  rintro e w1 ⟨rfl, hb1⟩
  have K1 := Lib.hid (h0.out.after hb1)
  have y0 := cell_of K1.out.p 0
  have y1 := cell_of K1.out.p 1
  have y6 := cell_of K1.out.p 6
  simp at y0 y1 y6
  clear hb1 h0
  go_wp2_with fail
  refine (pnum_any frm 1 _).mono ?_
  rintro e w2 ⟨rfl, rfl⟩
  have hr := HR.out
  clear HR
  cases hn : numOk frm 1
  · rw [if_neg (by simp [hn])] at hr
    subst hr
    go_wp2_with fail
    go_ret
    exact ⟨rfl, K1.out.below⟩
  · go_wp2_with fail
    refine (htake_any text _).mono ?_
    rintro e w3 ⟨rfl, hb3⟩
    have K3 := Lib.hid (K1.out.after hb3)
    rw [htakeAny_eq]
    obtain ⟨a, c, d, e, b, f, g, hh⟩ := htakeHead_cells text
    rw [hh]
    clear hh hb3 K1 y0 y1 y6
    have hB := Lib.hid (fun o => K3.out.below.alloc K3.out.below.size o)
    by_cases he : htakeErr text = 0
    · rw [if_pos ⟨hn, he⟩] at hr
      subst hr
      rw [he]
      clear he
      go_wp2_with fail
      go_ret
      exact ⟨rfl, hB.out _⟩
    · rw [if_neg (by simp [he])] at hr
      subst hr
      have he' : (htakeErr text == 0) = false := by simp [he]
      go_wp2_with fail
      go_ret
      exact ⟨rfl, hB.out _⟩
def SomeInt (w : World) (e : Ending) (w' : World) : Prop := (∃ z : Int, e = .returned (.int .i64 z)) ∧ Below w.heap.size w w'
set_option maxRecDepth 100000 in
set_option maxHeartbeats 2000000 in
theorem pcheck_none (kind frm seq id i n : Int) (text : ByteArray) (a : Option Addr) (len cap : Nat) (hk : kind < 1 ∨ 4 < kind) (w : World) :
    Calls Tryz.prog 63 #[.agg (pkC kind frm seq id i n text (.slice a len cap))] w (SomeInt w) := by
  have h0 := Lib.hid (CkAt.start w (pkC kind frm seq id i n text (.slice a len cap)))
  simp only [pkC] at h0 ⊢
  rcases hk with h | h
  · go_enter Tryz.func63, Tryz.ntmps63
    go_wp2_with fail
    go_ret
    exact ⟨⟨_, rfl⟩, h0.out.below⟩
  · go_enter Tryz.func63, Tryz.ntmps63
    go_wp2_with fail
    go_ret
    exact ⟨⟨_, rfl⟩, h0.out.below⟩
set_option maxRecDepth 100000 in
set_option maxHeartbeats 4000000 in
theorem pcheck_done (frm seq id i n : Int) (text : ByteArray) (a : Option Addr) (len cap : Nat) (w : World) :
    Calls Tryz.prog 63 #[.agg (pkC 4 frm seq id i n text (.slice a len cap))] w (SomeInt w) := by
  have h0 := Lib.hid (CkAt.start w (pkC 4 frm seq id i n text (.slice a len cap)))
  have hpl := Lib.hid (plain_any 4 frm seq id i n text a len cap (by simp))
  simp only [pkC] at h0 hpl ⊢
  go_enter Tryz.func63, Tryz.ntmps63
  go_wp2_with fail
  refine (hpl.out _).mono ?_
  rintro e w1 ⟨⟨b, rfl⟩, hb1⟩
  have K1 := Lib.hid (h0.out.after hb1)
  have y0 := cell_of K1.out.p 0
  have y1 := cell_of K1.out.p 1
  have y2 := cell_of K1.out.p 2
  have y3 := cell_of K1.out.p 3
  have y4 := cell_of K1.out.p 4
  have y5 := cell_of K1.out.p 5
  have y6 := cell_of K1.out.p 6
  have y7 := cell_of K1.out.p 7
  simp at y0 y1 y2 y3 y4 y5 y6 y7
  clear hb1 h0
  cases b
  · go_wp2_with fail
    go_ret
    exact ⟨⟨_, rfl⟩, K1.out.below⟩
  go_wp2_with fail
  refine (pnum_any frm 1 _).mono ?_
  rintro e w2 ⟨rfl, rfl⟩
  generalize numOk frm 1 = b1
  cases b1
  · go_wp2_with fail
    go_ret
    exact ⟨⟨_, rfl⟩, K1.out.below⟩
  go_wp2_with fail
  refine (pnum_any id 1 _).mono ?_
  rintro e w2 ⟨rfl, rfl⟩
  generalize numOk id 1 = b2
  cases b2
  · go_wp2_with fail
    go_ret
    exact ⟨⟨_, rfl⟩, K1.out.below⟩
  go_wp2_with fail
  refine (pnum_any seq 0 _).mono ?_
  rintro e w2 ⟨rfl, rfl⟩
  generalize numOk seq 0 = b3
  cases b3
  · go_wp2_with fail
    go_ret
    exact ⟨⟨_, rfl⟩, K1.out.below⟩
  by_cases ht : (text.size : Int) = 32
  · go_wp2_with fail
    go_ret
    exact ⟨⟨_, rfl⟩, K1.out.below⟩
  · have ht' : ((text.size : Int) == 32) = false := by simp [ht]
    go_wp2_with fail
    go_ret
    exact ⟨⟨_, rfl⟩, K1.out.below⟩
end Go.Proofs.YtpmgackgcefalaaGreat
namespace Go.Proofs.YtpmgackgcefalaaGreat
open Go.RowKit
def isSLP (s : ByteArray) : Bool := decide (s.extract 0 4 = ⟨#[83, 76, 80, 49]⟩)
theorem isSLP_size {s : ByteArray} (h : isSLP s = true) : 4 ≤ s.size := by
  unfold isSLP at h
  have h1 := congrArg ByteArray.size (of_decide_eq_true h)
  have h2 : (⟨#[83, 76, 80, 49]⟩ : ByteArray).size = 4 := rfl
  rw [h2] at h1
  simp at h1
  omega
theorem prefix_any (s : ByteArray) (w : World) :
    Calls Tryz.prog 106 #[.string s, .string ⟨#[83, 76, 80, 49]⟩] w fun e w' => e = .returned (.bool (isSLP s)) ∧ w' = w := by
  by_cases h4 : s.size < 4
  · have h4' : ¬ (4 : Int) ≤ s.size := by omega
    have e : isSLP s = false := by
      cases h : isSLP s with
      | false => rfl
      | true => exact absurd (isSLP_size h) (by omega)
    rw [e]
    go_enter Tryz.func106, Tryz.ntmps106
    go_wp2_with fail
    go_ret
    exact ⟨rfl, rfl⟩
  · have h4' : (4 : Int) ≤ s.size := by omega
    by_cases hm : s.extract 0 4 = ⟨#[83, 76, 80, 49]⟩
    · have e : isSLP s = true := decide_eq_true hm
      rw [e]
      go_enter Tryz.func106, Tryz.ntmps106
      go_wp2_with fail
      go_ret
      exact ⟨rfl, rfl⟩
    · have e : isSLP s = false := decide_eq_false hm
      have hml : ((s.extract 0 4).toList == [83, 76, 80, 49]) = false := by
        rw [beq_eq_false_iff_ne]
        intro h
        refine hm (ByteArray.ext (Array.ext' ?_))
        rw [← ByteArray.toList_eq, h]
      rw [e]
      go_enter Tryz.func106, Tryz.ntmps106
      go_wp2_with fail
      go_ret
      exact ⟨rfl, rfl⟩
def cutSLP (s : ByteArray) : ByteArray := if isSLP s = true then s.extract 4 s.size else s
theorem cutPrefix2_any (s : ByteArray) (w : World) :
    Calls Tryz.prog 91 #[.string s, .string ⟨#[83, 76, 80, 49]⟩] w fun e w' => e = .returned (.tuple #[.string (cutSLP s), .bool (isSLP s)]) ∧ w' = w := by
  have hp := prefix_any s
  cases hc : isSLP s with
  | false =>
    rw [hc] at hp
    rw [show cutSLP s = s by simp [cutSLP, hc]]
    clear hc
    go_enter Tryz.func91, Tryz.ntmps91
    go_wp2_with fail
    refine (hp _).mono ?_
    rintro e w1 ⟨rfl, rfl⟩
    go_wp2_with fail
    go_ret2
    exact ⟨rfl, rfl⟩
  | true =>
    have h4 : (4 : Int) ≤ s.size := by have := isSLP_size hc; omega
    rw [hc] at hp
    rw [show cutSLP s = s.extract 4 s.size by simp [cutSLP, hc]]
    clear hc
    go_enter Tryz.func91, Tryz.ntmps91
    go_wp2_with fail
    refine (hp _).mono ?_
    rintro e w1 ⟨rfl, rfl⟩
    go_wp2_with fail
    go_ret2
    exact ⟨rfl, rfl⟩
theorem cutPrefix_any (s : ByteArray) (w : World) :
    Calls Tryz.prog 60 #[.string s, .string ⟨#[83, 76, 80, 49]⟩] w fun e w' => e = .returned (.tuple #[.string (cutSLP s), .bool (isSLP s)]) ∧ w' = w := by
  go_enter Tryz.func60, Tryz.ntmps60
  go_wp2_with fail
  refine (cutPrefix2_any s _).mono ?_
  rintro e w1 ⟨rfl, rfl⟩
  go_wp2_with fail
  go_ret2
  exact ⟨rfl, rfl⟩
set_option maxRecDepth 100000 in
theorem take_short (s : ByteArray) (k : Nat) (hk1 : 1 ≤ k) (hk : k ≤ 8) (hs : s.size < k) (w : World) :
    Calls Tryz.prog 65 #[.string s, .int .i64 k] w fun e w' => e = .returned (.tuple #[.int .i64 0, .string ⟨#[]⟩, .int .i64 2]) ∧ Below w.heap.size w w' := by
  have k1 : ¬ (k : Int) < 1 := by omega
  have k2 : ¬ (8 : Int) < k := by omega
  have k3 : (s.size : Int) < k := by omega
  go_enter Tryz.func65, Tryz.ntmps65
  go_wp2_with fail
  go_ret3
  exact ⟨rfl, Below.refl _ _⟩
def rdNum (cur : ByteArray) (k : Nat) : Nat := if k ≤ cur.size then Sha.num (cur.data.toList.take k) else 0
def rdCur (cur : ByteArray) (k : Nat) : ByteArray := if k ≤ cur.size then cur.extract k cur.size else ⟨#[]⟩
def rdBad (cur : ByteArray) (bad : Bool) (k : Nat) : Bool := if k ≤ cur.size then bad else true
theorem rnum_any (g : Nat) (cur : ByteArray) (bad : Bool) (k : Nat) (hk1 : 1 ≤ k) (hk : k ≤ 6) (hsz : cur.size ≤ 140737488355327) (w : World) (hg : w.heap[g]? = some (.cells #[.string cur, .bool bad] 106 (0, 0))) :
    Calls Tryz.prog 61 #[.pointer (some ⟨g, 0, none⟩), .int .i64 k] w fun e w' => e = .returned (.int .i64 (rdNum cur k : Nat)) ∧ ∃ w1, Below w.heap.size w w1 ∧ w' = (w1.setCell ⟨g, 0, none⟩ (.string (rdCur cur k))).setCell ⟨g, 1, none⟩ (.bool (rdBad cur bad k)) := by
  unfold rdNum rdCur rdBad
  have c := cell_of hg 0
  simp at c
  have HG := Lib.hid hg
  clear hg
  by_cases hs : k ≤ cur.size
  · rw [if_pos hs, if_pos hs, if_pos hs]
    go_enter Tryz.func61, Tryz.ntmps61
    go_wp2_with fail
    refine (take_any cur k hk1 hk hs hsz _).mono ?_
    rintro e w1 ⟨rfl, hb1⟩
    have hg1 := heap_below HG.out hb1
    have c0 := cell_of hg1 0
    have c1 := cell_of hg1 1
    have z0 := frozen_of hg1 0
    have z1 := frozen_of hg1 1
    simp at c0 c1
    have HB := Lib.hid hb1
    clear hg1 hb1 HG c
    cases bad with
    | false =>
      go_wp2_with fail
      go_ret
      exact ⟨rfl, w1, HB.out, rfl⟩
    | true =>
      go_wp2_with fail
      go_ret
      exact ⟨rfl, w1, HB.out, rfl⟩
  · rw [if_neg hs, if_neg hs, if_neg hs]
    go_enter Tryz.func61, Tryz.ntmps61
    go_wp2_with fail
    refine (take_short cur k hk1 (by omega) (by omega) _).mono ?_
    rintro e w1 ⟨rfl, hb1⟩
    have hg1 := heap_below HG.out hb1
    have c0 := cell_of hg1 0
    have c1 := cell_of hg1 1
    have z0 := frozen_of hg1 0
    have z1 := frozen_of hg1 1
    simp at c0 c1
    have HB := Lib.hid hb1
    clear hg1 hb1 HG c
    cases bad with
    | false =>
      go_wp2_with fail
      go_ret
      exact ⟨rfl, w1, HB.out, rfl⟩
    | true =>
      go_wp2_with fail
      go_ret
      exact ⟨rfl, w1, HB.out, rfl⟩
theorem rtext_ok (g : Nat) (cur : ByteArray) (k : Nat) (hs : k ≤ cur.size) (w : World) (hg : w.heap[g]? = some (.cells #[.string cur, .bool false] 106 (0, 0))) :
    Calls Tryz.prog 62 #[.pointer (some ⟨g, 0, none⟩), .int .i64 k] w fun e w' => e = .returned (.string (cur.extract 0 k)) ∧ w' = w.setCell ⟨g, 0, none⟩ (.string (cur.extract k cur.size)) := by
  have c0 := cell_of hg 0
  have c1 := cell_of hg 1
  have z0 := frozen_of hg 0
  have z1 := frozen_of hg 1
  simp at c0 c1
  have HG := Lib.hid hg
  clear hg
  have k4 : (k : Int) ≤ cur.size := by omega
  have k0 : (0 : Int) ≤ k := by omega
  go_enter Tryz.func62, Tryz.ntmps62
  go_wp2_with fail
  go_ret
  exact ⟨rfl, rfl⟩
theorem rtext_bad (g : Nat) (cur : ByteArray) (bad : Bool) (k : Nat) (hs : bad = true ∨ cur.size < k) (w : World) (hg : w.heap[g]? = some (.cells #[.string cur, .bool bad] 106 (0, 0))) :
    Calls Tryz.prog 62 #[.pointer (some ⟨g, 0, none⟩), .int .i64 k] w fun e w' => e = .returned (.string ⟨#[]⟩) ∧ w' = w.setCell ⟨g, 1, none⟩ (.bool true) := by
  have c0 := cell_of hg 0
  have c1 := cell_of hg 1
  have z0 := frozen_of hg 0
  have z1 := frozen_of hg 1
  simp at c0 c1
  have HG := Lib.hid hg
  clear hg
  cases bad with
  | true =>
    clear hs
    go_enter Tryz.func62, Tryz.ntmps62
    go_wp2_with fail
    go_ret
    exact ⟨rfl, rfl⟩
  | false =>
    have k4 : (cur.size : Int) < k := by rcases hs with h | h; cases h; omega
    clear hs
    go_enter Tryz.func62, Tryz.ntmps62
    go_wp2_with fail
    go_ret
    exact ⟨rfl, rfl⟩
end Go.Proofs.YtpmgackgcefalaaGreat
namespace Go.Proofs.YtpmgackgcefalaaGreat
open Go.RowKit
def zeroP : Array Value := pkC 0 0 0 0 0 0 ⟨#[]⟩ (.slice none 0 0)
structure RdAt (w W : World) (cur : ByteArray) (bad : Bool) : Prop where
  below : Below w.heap.size w W
  z : W.heap[w.heap.size]? = some (.cells zeroP 66 (0, 0))
  r : W.heap[w.heap.size + 1]? = some (.cells #[.string cur, .bool bad] 106 (0, 0))
theorem RdAt.after {w W w1 : World} {cur : ByteArray} {bad : Bool} (t : RdAt w W cur bad) (hb : Below W.heap.size W w1) : RdAt w w1 cur bad :=
  ⟨t.below.trans (hb.mono t.below.size), heap_below t.z hb, heap_below t.r hb⟩
theorem RdAt.put {w W : World} {cur : ByteArray} {bad : Bool} (t : RdAt w W cur bad) (c : ByteArray) (b : Bool) : RdAt w ((W.setCell ⟨w.heap.size + 1, 0, none⟩ (.string c)).setCell ⟨w.heap.size + 1, 1, none⟩ (.bool b)) c b :=
  ⟨(t.below.setCell (by simp) _).setCell (by simp) _, by rw [heap_setCell_ne (by simp), heap_setCell_ne (by simp)]; exact t.z, heap_setCell (heap_setCell t.r 0 (.string c)) 1 (.bool b)⟩
theorem RdAt.put0 {w W : World} {cur : ByteArray} {bad : Bool} (t : RdAt w W cur bad) (c : ByteArray) : RdAt w (W.setCell ⟨w.heap.size + 1, 0, none⟩ (.string c)) c bad :=
  ⟨t.below.setCell (by simp) _, by rw [heap_setCell_ne (by simp)]; exact t.z, heap_setCell t.r 0 (.string c)⟩
theorem RdAt.put1 {w W : World} {cur : ByteArray} {bad : Bool} (t : RdAt w W cur bad) (b : Bool) : RdAt w (W.setCell ⟨w.heap.size + 1, 1, none⟩ (.bool b)) cur b :=
  ⟨t.below.setCell (by simp) _, by rw [heap_setCell_ne (by simp)]; exact t.z, heap_setCell t.r 1 (.bool b)⟩
structure PkAt (w W : World) (cur : ByteArray) (bad : Bool) (g : Nat) (C : Array Value) : Prop where
  rd : RdAt w W cur bad
  lt : w.heap.size + 1 < g
  p : W.heap[g]? = some (.cells C 66 (0, 0))
theorem PkAt.after {w W w1 : World} {cur : ByteArray} {bad : Bool} {g : Nat} {C : Array Value} (t : PkAt w W cur bad g C) (hb : Below W.heap.size W w1) : PkAt w w1 cur bad g C :=
  ⟨t.rd.after hb, t.lt, heap_below t.p hb⟩
theorem PkAt.put {w W : World} {cur : ByteArray} {bad : Bool} {g : Nat} {C : Array Value} (t : PkAt w W cur bad g C) (c : ByteArray) (b : Bool) : PkAt w ((W.setCell ⟨w.heap.size + 1, 0, none⟩ (.string c)).setCell ⟨w.heap.size + 1, 1, none⟩ (.bool b)) c b g C := by
  have hl := t.lt
  exact ⟨t.rd.put c b, hl, by rw [heap_setCell_ne (by simp; omega), heap_setCell_ne (by simp; omega)]; exact t.p⟩
theorem PkAt.put0 {w W : World} {cur : ByteArray} {bad : Bool} {g : Nat} {C : Array Value} (t : PkAt w W cur bad g C) (c : ByteArray) : PkAt w (W.setCell ⟨w.heap.size + 1, 0, none⟩ (.string c)) c bad g C := by
  have hl := t.lt
  exact ⟨t.rd.put0 c, hl, by rw [heap_setCell_ne (by simp; omega)]; exact t.p⟩
theorem PkAt.put1 {w W : World} {cur : ByteArray} {bad : Bool} {g : Nat} {C : Array Value} (t : PkAt w W cur bad g C) (b : Bool) : PkAt w (W.setCell ⟨w.heap.size + 1, 1, none⟩ (.bool b)) cur b g C := by
  have hl := t.lt
  exact ⟨t.rd.put1 b, hl, by rw [heap_setCell_ne (by simp; omega)]; exact t.p⟩
theorem PkAt.store {w W : World} {cur : ByteArray} {bad : Bool} {g : Nat} {C : Array Value} (t : PkAt w W cur bad g C) (k : Nat) (v : Value) : PkAt w (W.setCell ⟨g, k, none⟩ v) cur bad g (C.setIfInBounds k v) := by
  have hl := t.lt
  exact ⟨⟨t.rd.below.setCell (by simp; omega) _, by rw [heap_setCell_ne (by simp; omega)]; exact t.rd.z, by rw [heap_setCell_ne (by simp; omega)]; exact t.rd.r⟩, hl, heap_setCell t.p k v⟩
theorem rnum_rd (w W : World) (cur : ByteArray) (bad : Bool) (k : Nat) (hk1 : 1 ≤ k) (hk : k ≤ 6) (hsz : cur.size ≤ 140737488355327) (t : RdAt w W cur bad) :
    Calls Tryz.prog 61 #[.pointer (some ⟨w.heap.size + 1, 0, none⟩), .int .i64 k] W fun e w' => e = .returned (.int .i64 (rdNum cur k : Nat)) ∧ RdAt w w' (rdCur cur k) (rdBad cur bad k) := by
  refine (rnum_any (w.heap.size + 1) cur bad k hk1 hk hsz W t.r).mono ?_
  rintro e w' ⟨rfl, w1, hb, rfl⟩
  exact ⟨rfl, (t.after hb).put _ _⟩
theorem rnum_pk (w W : World) (cur : ByteArray) (bad : Bool) (g : Nat) (C : Array Value) (k : Nat) (hk1 : 1 ≤ k) (hk : k ≤ 6) (hsz : cur.size ≤ 140737488355327) (t : PkAt w W cur bad g C) :
    Calls Tryz.prog 61 #[.pointer (some ⟨w.heap.size + 1, 0, none⟩), .int .i64 k] W fun e w' => e = .returned (.int .i64 (rdNum cur k : Nat)) ∧ PkAt w w' (rdCur cur k) (rdBad cur bad k) g C := by
  refine (rnum_any (w.heap.size + 1) cur bad k hk1 hk hsz W t.rd.r).mono ?_
  rintro e w' ⟨rfl, w1, hb, rfl⟩
  exact ⟨rfl, (t.after hb).put _ _⟩
theorem RdAt.row {w W : World} {cur : ByteArray} {bad : Bool} (t : RdAt w W cur bad) (v0 v1 v2 v3 v4 v5 v6 v7 : Value) :
    Below w.heap.size w ((((((((W.setCell ⟨w.heap.size, 0, none⟩ v0).setCell ⟨w.heap.size, 1, none⟩ v1).setCell ⟨w.heap.size, 2, none⟩ v2).setCell ⟨w.heap.size, 3, none⟩ v3).setCell ⟨w.heap.size, 4, none⟩ v4).setCell ⟨w.heap.size, 5, none⟩ v5).setCell ⟨w.heap.size, 6, none⟩ v6).setCell ⟨w.heap.size, 7, none⟩ v7) ∧ ((((((((W.setCell ⟨w.heap.size, 0, none⟩ v0).setCell ⟨w.heap.size, 1, none⟩ v1).setCell ⟨w.heap.size, 2, none⟩ v2).setCell ⟨w.heap.size, 3, none⟩ v3).setCell ⟨w.heap.size, 4, none⟩ v4).setCell ⟨w.heap.size, 5, none⟩ v5).setCell ⟨w.heap.size, 6, none⟩ v6).setCell ⟨w.heap.size, 7, none⟩ v7).heap[w.heap.size]? = some (.cells #[v0, v1, v2, v3, v4, v5, v6, v7] 66 (0, 0)) := by
  have h1 := below_rowSet (Nat.le_refl _) [v0, v1, v2, v3, v4, v5, v6, v7] 0 _ t.below
  have h2 := heap_rowSet t.z [v0, v1, v2, v3, v4, v5, v6, v7] rfl
  simp only [rowSet, Nat.zero_add, Nat.reduceAdd] at h1 h2
  exact ⟨h1, h2⟩
theorem results_cell_val {P : Program} {fn : Func} {p t2 : Tmp} {ty : TypeId} (h : fn.results = #[.cell p ty, .tmp t2]) (tmps : Array Value) (w : World) (g : Nat) (t : TypeId) (cs : Array Value) (fr : Nat × Nat) (d : TypeDesc) (v2 : Value)
    (hp : tmps.getD p undef = .pointer (some ⟨g, 0, none⟩)) (h2 : tmps.getD t2 undef = v2) (hg : w.heap[g]? = some (.cells cs t fr))
    (hu : P.underlying ty = some d) (hd : (match d with | .struct _ | .array _ _ => true | _ => false) = true) (hi : (P.info? ty).map (·.size) = some cs.size) :
    (results fn tmps).run P w = .ok (.tuple #[.agg cs, v2]) w := by
  rw [results_cell_tmp h tmps w g t cs fr d hp hg hu hd hi, h2]
theorem offerErr_cases (frm : Int) (text : ByteArray) : offerErr frm text = 0 ∨ offerErr frm text = 1 := by
  unfold offerErr
  split
  · exact .inl rfl
  · exact .inr rfl
def offerFrom (s : ByteArray) : Nat := Sha.num ((s.extract 5 s.size).data.toList.take 4)
def offerV (s : ByteArray) : Value := if offerErr (offerFrom s) (s.extract 9 s.size) = 0 then .tuple #[.agg (pkC 1 (offerFrom s) 0 0 0 0 (s.extract 9 s.size) (.slice none 0 0)), .int .i64 0] else .tuple #[.agg zeroP, .int .i64 2]
theorem ext_ext (s : ByteArray) (a k : Nat) (h : a + k ≤ s.size) : (s.extract a s.size).extract k (s.extract a s.size).size = s.extract (a + k) s.size := by
  have h1 : (s.extract a s.size).size = s.size - a := by simp
  rw [h1, ByteArray.extract_extract]
  congr 1; omega
theorem extract_all (s : ByteArray) : s.extract 0 s.size = s := by
  apply ByteArray.ext
  rw [ByteArray.data_extract]
  exact Array.extract_size
theorem rd_in (s : ByteArray) (a k : Nat) (b : Bool) (h : a + k ≤ s.size) : rdCur (s.extract a s.size) k = s.extract (a + k) s.size ∧ rdBad (s.extract a s.size) b k = b := by
  have h1 : k ≤ (s.extract a s.size).size := by simp; omega
  unfold rdCur rdBad
  rw [if_pos h1, if_pos h1, ext_ext s a k h]
  exact ⟨rfl, rfl⟩
set_option maxRecDepth 100000 in
set_option maxHeartbeats 4000000 in
theorem ptake_offer (s : ByteArray) (hm : isSLP s = true) (h9 : 9 ≤ s.size) (h1 : rdNum (s.extract 4 s.size) 1 = 1) (hsz : s.size ≤ 140737488355327) (w : World) :
    Calls Tryz.prog 33 #[.string s] w fun e w' => e = .returned (offerV s) ∧ Below w.heap.size w w' := by
  obtain ⟨V, hV⟩ : ∃ V, V = offerV s := ⟨_, rfl⟩
  rw [← hV]
  have HV := Lib.hid hV
  clear hV
  have hcut := cutPrefix_any s
  rw [hm, show cutSLP s = s.extract 4 s.size by simp [cutSLP, hm]] at hcut
  have HC := Lib.hid hcut
  clear hcut
  obtain ⟨e1, f1⟩ := rd_in s 4 1 false (by omega)
  obtain ⟨e2, f2⟩ := rd_in s 5 4 false (by omega)
  have n2 : rdNum (s.extract 5 s.size) 4 = offerFrom s := by
    unfold rdNum offerFrom
    rw [if_pos (by simp; omega)]
  have z4 : (s.extract 4 s.size).size ≤ 140737488355327 := by simp; omega
  have z5 : (s.extract 5 s.size).size ≤ 140737488355327 := by simp; omega
  have HN1 := Lib.hid (fun W t => rnum_rd w W (s.extract 4 s.size) false 1 (by decide) (by decide) z4 t)
  have HN2 := Lib.hid (fun W t => rnum_rd w W (s.extract 5 s.size) false 4 (by decide) (by decide) z5 t)
  rw [h1, e1, f1] at HN1
  rw [n2, e2, f2] at HN2
  clear e1 f1 e2 f2 n2 z4 z5
  have hv := HV.out
  unfold offerV at hv
  have hx9 : (s.extract 9 s.size).size ≤ s.size := by simp
  simp only [show (5 + 4 : Nat) = 9 from rfl] at HN2
  generalize s.extract 9 s.size = tx at *
  have HV := Lib.hid hv
  clear hv
  go_enter Tryz.func33, Tryz.ntmps33
  go_wp2_with fail
  refine (HC.out _).mono ?_
  rintro e w1 ⟨rfl, rfl⟩
  go_wp2_with fail
  refine (HN1.out _ ?_).mono ?_
  · exact ⟨((Below.refl w.heap.size w).alloc (Nat.le_refl _) _).alloc (by simp) _, heap_alloc_old (heap_alloc_new _ _), heap_alloc_at (by simp) _⟩
  rintro e W1 ⟨rfl, t1⟩
  have T1 := Lib.hid t1
  clear t1
  go_wp2_with fail
  refine (HN2.out _ T1.out).mono ?_
  rintro e W2 ⟨rfl, t2⟩
  have T2 := Lib.hid t2
  have c0 := cell_of t2.r 0
  have hlt := lt_of_heap t2.r
  simp at c0
  clear t2 T1
  go_wp2_with fail
  have hP : PkAt w (W2.alloc (.cells #[.int .i64 1, .int .i64 (offerFrom s), .int .i64 0, .int .i64 0, .int .i64 0, .int .i64 0, .string ⟨#[]⟩, .slice none 0 0] 66 (0, 0))) tx false W2.heap.size (pkC 1 (offerFrom s) 0 0 0 0 ⟨#[]⟩ (.slice none 0 0)) :=
    ⟨⟨T2.out.below.alloc T2.out.below.size _, heap_alloc_old T2.out.z, heap_alloc_old T2.out.r⟩, hlt, heap_alloc_new _ _⟩
  have HP := Lib.hid hP
  clear hP T2 c0 hlt
  generalize W2.alloc (.cells #[.int .i64 1, .int .i64 (offerFrom s), .int .i64 0, .int .i64 0, .int .i64 0, .int .i64 0, .string ⟨#[]⟩, .slice none 0 0] 66 (0, 0)) = W at *
  generalize W2.heap.size = g at *
  refine (rtext_ok (w.heap.size + 1) tx tx.size (Nat.le_refl _) W HP.out.rd.r).mono ?_
  rintro e W3 ⟨rfl, rfl⟩
  have ha : tx.extract 0 tx.size = tx := extract_all tx
  have hn : tx.extract tx.size tx.size = ⟨#[]⟩ := by
    apply ByteArray.ext
    rw [ByteArray.data_extract]
    exact Array.extract_empty_of_stop_le_start (Nat.le_refl _)
  rw [ha, hn]
  clear ha hn
  have HP3 := Lib.hid (HP.out.put0 ⟨#[]⟩)
  generalize W.setCell ⟨w.heap.size + 1, 0, none⟩ (.string ⟨#[]⟩) = W3 at *
  have y6 := cell_of HP3.out.p 6
  have f6 := frozen_of HP3.out.p 6
  simp [pkC] at y6
  clear HP
  go_upto_region 20 with fail
  have HP4 := Lib.hid (HP3.out.store 6 (.string tx))
  clear HP3 y6 f6
  generalize W3.setCell ⟨g, 6, none⟩ (.string tx) = W4 at *
  have x0 := cell_of HP4.out.rd.r 0
  have x1 := cell_of HP4.out.rd.r 1
  have y0 := cell_of HP4.out.p 0
  have y1 := cell_of HP4.out.p 1
  have y2 := cell_of HP4.out.p 2
  have y3 := cell_of HP4.out.p 3
  have y4 := cell_of HP4.out.p 4
  have y5 := cell_of HP4.out.p 5
  have y6 := cell_of HP4.out.p 6
  have y7 := cell_of HP4.out.p 7
  simp [pkC] at x0 x1 y0 y1 y2 y3 y4 y5 y6 y7
  go_wp2_with fail
  refine (pcheck_offer (offerFrom s) tx _).mono ?_
  rintro e W5 ⟨rfl, hb5⟩
  have HP5 := Lib.hid (HP4.out.after hb5)
  clear hb5 HP4 x0 x1 y0 y1 y2 y3 y4 y5 y6 y7
  have y0 := cell_of HP5.out.p 0
  have y1 := cell_of HP5.out.p 1
  have y2 := cell_of HP5.out.p 2
  have y3 := cell_of HP5.out.p 3
  have y4 := cell_of HP5.out.p 4
  have y5 := cell_of HP5.out.p 5
  have y6 := cell_of HP5.out.p 6
  have y7 := cell_of HP5.out.p 7
  have z0 := cell_of HP5.out.rd.z 0
  have z1 := cell_of HP5.out.rd.z 1
  have z2 := cell_of HP5.out.rd.z 2
  have z3 := cell_of HP5.out.rd.z 3
  have z4 := cell_of HP5.out.rd.z 4
  have z5 := cell_of HP5.out.rd.z 5
  have z6 := cell_of HP5.out.rd.z 6
  have z7 := cell_of HP5.out.rd.z 7
  have f0 := frozen_of HP5.out.rd.z 0
  have f1 := frozen_of HP5.out.rd.z 1
  have f2 := frozen_of HP5.out.rd.z 2
  have f3 := frozen_of HP5.out.rd.z 3
  have f4 := frozen_of HP5.out.rd.z 4
  have f5 := frozen_of HP5.out.rd.z 5
  have f6 := frozen_of HP5.out.rd.z 6
  have f7 := frozen_of HP5.out.rd.z 7
  simp [pkC, zeroP] at y0 y1 y2 y3 y4 y5 y6 y7 z0 z1 z2 z3 z4 z5 z6 z7
  have hv := HV.out
  rcases offerErr_cases (offerFrom s) tx with hc | hc
  · rw [if_pos hc] at hv
    rw [hc]
    have HV2 := Lib.hid hv
    clear hv HV hc
    go_wp2_with fail
    have R := HP5.out.rd.row (.int .i64 1) (.int .i64 (offerFrom s)) (.int .i64 0) (.int .i64 0) (.int .i64 0) (.int .i64 0) (.string tx) (.slice none 0 0)
    refine bodyPost_ret (v := .tuple #[.agg (pkC 1 (offerFrom s) 0 0 0 0 tx (.slice none 0 0)), .int .i64 0]) ?r ?d ?fin
    case fin => exact ⟨by rw [HV2.out], R.1⟩
    case d => rfl
    case r => exact results_cell_val Tryz.results33 _ _ w.heap.size _ _ (0, 0) _ _ (by simp) (by simp) R.2 Tryz.underlying66 rfl (by kernel_rfl)
  · rw [if_neg (by rw [hc]; decide)] at hv
    rw [hc]
    have HV2 := Lib.hid hv
    clear hv HV hc
    go_wp2_with fail
    have R := HP5.out.rd.row (.int .i64 0) (.int .i64 0) (.int .i64 0) (.int .i64 0) (.int .i64 0) (.int .i64 0) (.string ⟨#[]⟩) (.slice none 0 0)
    refine bodyPost_ret (v := .tuple #[.agg zeroP, .int .i64 2]) ?r ?d ?fin
    case fin => exact ⟨by rw [HV2.out], R.1⟩
    case d => rfl
    case r => exact results_cell_val Tryz.results33 _ _ w.heap.size _ _ (0, 0) _ _ (by simp) (by simp) R.2 Tryz.underlying66 rfl (by kernel_rfl)
end Go.Proofs.YtpmgackgcefalaaGreat
namespace Go.Proofs.YtpmgackgcefalaaGreat
open Go.RowKit
set_option maxRecDepth 100000 in
set_option maxHeartbeats 4000000 in
theorem pcheck_ack (frm seq id i n : Int) (text : ByteArray) (a : Option Addr) (len cap : Nat) (w : World) :
    Calls Tryz.prog 63 #[.agg (pkC 3 frm seq id i n text (.slice a len cap))] w (SomeInt w) := by
  have h0 := Lib.hid (CkAt.start w (pkC 3 frm seq id i n text (.slice a len cap)))
  have hpl := Lib.hid (plain_any 3 frm seq id i n text a len cap (by simp))
  simp only [pkC] at h0 hpl ⊢
  go_enter Tryz.func63, Tryz.ntmps63
  go_wp2_with fail
  refine (hpl.out _).mono ?_
  rintro e w1 ⟨⟨b, rfl⟩, hb1⟩
  have K1 := Lib.hid (h0.out.after hb1)
  have y0 := cell_of K1.out.p 0
  have y1 := cell_of K1.out.p 1
  have y2 := cell_of K1.out.p 2
  have y3 := cell_of K1.out.p 3
  have y4 := cell_of K1.out.p 4
  have y5 := cell_of K1.out.p 5
  have y6 := cell_of K1.out.p 6
  have y7 := cell_of K1.out.p 7
  simp at y0 y1 y2 y3 y4 y5 y6 y7
  clear hb1 h0
  cases b
  · go_wp2_with fail
    go_ret
    exact ⟨⟨_, rfl⟩, K1.out.below⟩
  go_wp2_with fail
  refine (pnum_any frm 1 _).mono ?_
  rintro e w2 ⟨rfl, rfl⟩
  generalize numOk frm 1 = b1
  cases b1
  · go_wp2_with fail
    go_ret
    exact ⟨⟨_, rfl⟩, K1.out.below⟩
  go_wp2_with fail
  refine (pnum_any id 1 _).mono ?_
  rintro e w2 ⟨rfl, rfl⟩
  generalize numOk id 1 = b2
  cases b2
  · go_wp2_with fail
    go_ret
    exact ⟨⟨_, rfl⟩, K1.out.below⟩
  go_wp2_with fail
  refine (pnum_any seq 0 _).mono ?_
  rintro e w2 ⟨rfl, rfl⟩
  generalize numOk seq 0 = b3
  cases b3
  · go_wp2_with fail
    go_ret
    exact ⟨⟨_, rfl⟩, K1.out.below⟩
  go_wp2_with fail
  refine (btake_any n text _).mono ?_
  rintro e w3 ⟨⟨n2, a2, b2, c2, d2, z, rfl⟩, hb3⟩
  have K3 := Lib.hid (K1.out.after hb3)
  have hB := Lib.hid (fun o => K3.out.below.alloc K3.out.below.size o)
  have hlt := lt_of_heap K3.out.p
  have X0 := Lib.hid (fun o => cell_of (heap_alloc_old (o' := o) K3.out.p) 4)
  have X1 := Lib.hid (fun o => cell_of (heap_alloc_old (o' := o) K3.out.p) 5)
  clear hb3 K1 y0 y1 y2 y3 y4 y5 y6 y7 hpl K3
  simp only [setC]
  have x4 := X0.out (.cells #[.int .i64 n2, .int .u64 a2, .int .u64 b2, .int .u64 c2, .int .u64 d2] 135 (0, 0))
  have x5 := X1.out (.cells #[.int .i64 n2, .int .u64 a2, .int .u64 b2, .int .u64 c2, .int .u64 d2] 135 (0, 0))
  simp at x4 x5
  clear X0 X1
  by_cases hz : z = 0
  case neg =>
    have hz' : (z == 0) = false := by simp [hz]
    go_wp2_with fail
    go_ret
    exact ⟨⟨_, rfl⟩, hB.out _⟩
  subst hz
  by_cases h1 : 1 ≤ n
  case neg =>
    go_wp2_with fail
    go_ret
    exact ⟨⟨_, rfl⟩, hB.out _⟩
  by_cases h2 : 0 ≤ i
  case neg =>
    go_wp2_with fail
    go_ret
    exact ⟨⟨_, rfl⟩, hB.out _⟩
  by_cases h3 : i ≤ n
  case neg =>
    go_wp2_with fail
    go_ret
    exact ⟨⟨_, rfl⟩, hB.out _⟩
  go_wp2_with fail
  go_ret
  exact ⟨⟨_, rfl⟩, hB.out _⟩
set_option maxRecDepth 100000 in
set_option maxHeartbeats 4000000 in
theorem pcheck_data (frm seq id i n : Int) (text : ByteArray) (a : Option Addr) (cap : Nat) (ps : List ByteArray) (w : World) (hel : ElemsAt strS w a cap ps) (hsz : ps.length ≤ 140737488355327) :
    Calls Tryz.prog 63 #[.agg (pkC 2 frm seq id i n text (.slice a ps.length cap))] w (SomeInt w) := by
  have HEL := Lib.hid hel
  clear hel
  have h0 := Lib.hid (CkAt.start w (pkC 2 frm seq id i n text (.slice a ps.length cap)))
  have hpl := Lib.hid (plain_any 2 frm seq id i n text a ps.length cap (by simp))
  simp only [pkC] at h0 hpl ⊢
  go_enter Tryz.func63, Tryz.ntmps63
  go_wp2_with fail
  refine (hpl.out _).mono ?_
  rintro e w1 ⟨⟨b, rfl⟩, hb1⟩
  have K1 := Lib.hid (h0.out.after hb1)
  have y0 := cell_of K1.out.p 0
  have y1 := cell_of K1.out.p 1
  have y2 := cell_of K1.out.p 2
  have y3 := cell_of K1.out.p 3
  have y4 := cell_of K1.out.p 4
  have y5 := cell_of K1.out.p 5
  have y6 := cell_of K1.out.p 6
  have y7 := cell_of K1.out.p 7
  simp at y0 y1 y2 y3 y4 y5 y6 y7
  clear hb1 h0
  cases b
  · go_wp2_with fail
    go_ret
    exact ⟨⟨_, rfl⟩, K1.out.below⟩
  go_wp2_with fail
  refine (pnum_any frm 1 _).mono ?_
  rintro e w2 ⟨rfl, rfl⟩
  generalize numOk frm 1 = b1
  cases b1
  · go_wp2_with fail
    go_ret
    exact ⟨⟨_, rfl⟩, K1.out.below⟩
  go_wp2_with fail
  refine (pnum_any id 1 _).mono ?_
  rintro e w2 ⟨rfl, rfl⟩
  generalize numOk id 1 = b2
  cases b2
  · go_wp2_with fail
    go_ret
    exact ⟨⟨_, rfl⟩, K1.out.below⟩
  go_wp2_with fail
  refine (pnum_any seq 0 _).mono ?_
  rintro e w2 ⟨rfl, rfl⟩
  generalize numOk seq 0 = b3
  cases b3
  · go_wp2_with fail
    go_ret
    exact ⟨⟨_, rfl⟩, K1.out.below⟩
  go_upto_region 11 with fail
  go_cut [4, 75, 81, 87] from 68 to 87 (fun s4 s75 s81 s87 wx => (∃ b : Bool, s4 = .bool b) ∧ wx = w2)
  case first =>
    by_cases h1 : 0 ≤ i
    case neg =>
      go_wp2_with fail
      go_meet
      exact ⟨⟨_, rfl⟩, rfl⟩
    by_cases h2 : i < 256
    case neg =>
      go_wp2_with fail
      go_meet
      exact ⟨⟨_, rfl⟩, rfl⟩
    by_cases h3 : (text.size : Int) = 224
    case neg =>
      have h3' : ((text.size : Int) == 224) = false := by simp [h3]
      go_wp2_with fail
      go_meet
      exact ⟨⟨_, rfl⟩, rfl⟩
    by_cases h4 : (ps.length : Int) ≤ 8
    case neg =>
      go_wp2_with fail
      go_meet
      exact ⟨⟨_, rfl⟩, rfl⟩
    go_wp2_with fail
    go_meet
    exact ⟨⟨_, rfl⟩, rfl⟩
  case rest =>
    obtain ⟨⟨b, rfl⟩, rfl⟩ := hcut
    have HE2 := Lib.hid (HEL.out.mono K1.out.below)
    clear HEL hpl
    go_wp2_with fail
    go_loopw [4, 91] (fun s4 i wr => ∃ t : Nat, t ≤ ps.length ∧ i = .int .i64 t ∧ (∃ b : Bool, s4 = .bool b) ∧ wr = wc) (fun _ i _ => ps.length - (intOf i).toNat)
    case atStart => exact ⟨0, Nat.zero_le _, rfl, ⟨b, rfl⟩, rfl⟩
    case round =>
      obtain ⟨t, ht, rfl, ⟨b2, rfl⟩, rfl⟩ := hrel
      by_cases hlt : t < ps.length
      · have hlt' : (t : Int) < ps.length := by omega
        obtain ⟨g, off, rfl, hgl, hg⟩ := HE2.out.str hlt
        cases b2
        · go_wp2_with fail
          go_roundw
          case rel => exact ⟨t + 1, by omega, by go_num, ⟨_, rfl⟩, by simp⟩
          case measure => simp [intOf]; omega
        · by_cases hs : ((ps[t]).size : Int) = 32
          · go_wp2_with fail
            go_roundw
            case rel => exact ⟨t + 1, by omega, by go_num, ⟨_, rfl⟩, by simp⟩
            case measure => simp [intOf]; omega
          · have hs' : (((ps[t]).size : Int) == 32) = false := by simp [hs]
            go_wp2_with fail
            go_roundw
            case rel => exact ⟨t + 1, by omega, by go_num, ⟨_, rfl⟩, by simp⟩
            case measure => simp [intOf]; omega
      · have hlt' : ¬ (t : Int) < ps.length := by omega
        cases b2
        · go_wp2_with fail
          go_ret
          exact ⟨⟨_, rfl⟩, K1.out.below⟩
        · go_wp2_with fail
          go_ret
          exact ⟨⟨_, rfl⟩, K1.out.below⟩
theorem pcheck_any (kind frm seq id i n : Int) (text : ByteArray) (sl : Value) (ps : List ByteArray) (hk : kind ≠ 1) (w : World) (hsl : SliceOf strS w sl ps) (hsz : ps.length ≤ 140737488355327) :
    Calls Tryz.prog 63 #[.agg (pkC kind frm seq id i n text sl)] w (SomeInt w) := by
  obtain ⟨a, cap, rfl, hel⟩ := hsl
  by_cases h2 : kind = 2
  · subst h2; exact pcheck_data frm seq id i n text a cap ps w hel hsz
  by_cases h3 : kind = 3
  · subst h3; exact pcheck_ack frm seq id i n text a ps.length cap w
  by_cases h4 : kind = 4
  · subst h4; exact pcheck_done frm seq id i n text a ps.length cap w
  exact pcheck_none kind frm seq id i n text a ps.length cap (by omega) w
end Go.Proofs.YtpmgackgcefalaaGreat
namespace Go.Proofs.YtpmgackgcefalaaGreat
open Go.RowKit
def NotOffer (e : Ending) : Prop := ∃ (kind frm seq id i n : Int) (text : ByteArray) (a : Option Addr) (len cap : Nat) (z : Int), e = .returned (.tuple #[.agg (pkC kind frm seq id i n text (.slice a len cap)), .int .i64 z]) ∧ (z ≠ 0 ∨ kind ≠ 1)
theorem rdCur_le (cur : ByteArray) (k : Nat) : (rdCur cur k).size ≤ cur.size := by
  unfold rdCur
  split
  · simp
  · show 0 ≤ cur.size
    omega
theorem PkAt.grown {w W w3 : World} {cur : ByteArray} {bad : Bool} {g : Nat} {C : Array Value} (t : PkAt w W cur bad g C) {v : Value} {n : Nat} {xs : List Value} {o : Obj} (hown : W.ownsRow w.heap.size 9 1 v n xs) (hg : (W.alloc o).grownBy w3 v.ownBlock) : PkAt w w3 cur bad g C := by
  have n0 := ownBlock_ne hown t.rd.z (by decide)
  have n1 := ownBlock_ne hown t.rd.r (by decide)
  have n2 := ownBlock_ne hown t.p (by decide)
  have l0 := lt_of_heap (heap_alloc_old (o' := o) t.rd.z)
  have l1 := lt_of_heap (heap_alloc_old (o' := o) t.rd.r)
  have l2 := lt_of_heap (heap_alloc_old (o' := o) t.p)
  exact ⟨⟨below_append t.rd.below hown hg t.rd.below.size (Nat.le_refl _), (hg.block _ l0 (Ne.symm n0)).trans (heap_alloc_old t.rd.z), (hg.block _ l1 (Ne.symm n1)).trans (heap_alloc_old t.rd.r)⟩, t.lt, (hg.block _ l2 (Ne.symm n2)).trans (heap_alloc_old t.p)⟩
theorem info_str : (Tryz.prog.info? 9).map (fun i => (i.zero, i.size, i.bytes)) = some (some (.string ⟨#[]⟩), 1, 16) := by kernel_rfl
theorem rnum_weak (w W : World) (cur : ByteArray) (bad : Bool) (g : Nat) (C : Array Value) (k M : Nat) (hk1 : 1 ≤ k) (hk : k ≤ 6) (hM : M ≤ 140737488355327) (hsz : cur.size ≤ M) (t : PkAt w W cur bad g C) :
    Calls Tryz.prog 61 #[.pointer (some ⟨w.heap.size + 1, 0, none⟩), .int .i64 k] W fun e w' => ∃ (v : Nat) (cur' : ByteArray) (bad' : Bool), e = .returned (.int .i64 v) ∧ PkAt w w' cur' bad' g C ∧ cur'.size ≤ M ∧ v < 256 ^ k := by
  refine (rnum_pk w W cur bad g C k hk1 hk (by omega) t).mono ?_
  rintro e w' ⟨rfl, t'⟩
  refine ⟨_, _, _, rfl, t', Nat.le_trans (rdCur_le _ _) hsz, ?_⟩
  unfold rdNum
  split
  · refine Nat.lt_of_lt_of_le (Sha.num_lt _) (Nat.pow_le_pow_right (by decide) ?_)
    simp; omega
  · exact Nat.pow_pos (by decide)
theorem rtext_weak (w W : World) (cur : ByteArray) (bad : Bool) (g : Nat) (C : Array Value) (k M : Nat) (hsz : cur.size ≤ M) (t : PkAt w W cur bad g C) :
    Calls Tryz.prog 62 #[.pointer (some ⟨w.heap.size + 1, 0, none⟩), .int .i64 k] W fun e w' => ∃ (x cur' : ByteArray) (bad' : Bool), e = .returned (.string x) ∧ PkAt w w' cur' bad' g C ∧ cur'.size ≤ M ∧ (bad = true → bad' = true) ∧ ∃ (j : Nat) (u : Value), w' = W.setCell ⟨w.heap.size + 1, j, none⟩ u := by
  by_cases h : bad = false ∧ k ≤ cur.size
  · obtain ⟨rfl, hk⟩ := h
    refine (rtext_ok (w.heap.size + 1) cur k hk W t.rd.r).mono ?_
    rintro e w' ⟨rfl, rfl⟩
    exact ⟨_, _, _, rfl, t.put0 _, by simp; omega, id, _, _, rfl⟩
  · refine (rtext_bad (w.heap.size + 1) cur bad k (by cases bad <;> simp at h ⊢; omega) W t.rd.r).mono ?_
    rintro e w' ⟨rfl, rfl⟩
    exact ⟨_, _, _, rfl, t.put1 _, hsz, fun _ => rfl, _, _, rfl⟩
set_option maxRecDepth 100000 in
set_option maxHeartbeats 4000000 in
theorem ptake_one (s : ByteArray) (hK : rdNum (cutSLP s) 1 = 1) (hb : rdBad (rdCur (cutSLP s) 1) (rdBad (cutSLP s) (!isSLP s) 1) 4 = true) (hsz : s.size ≤ 140737488355327) (w : World) :
    Calls Tryz.prog 33 #[.string s] w fun e w' => NotOffer e ∧ Below w.heap.size w w' := by
  have HC := Lib.hid (cutPrefix_any s)
  obtain ⟨M, hM0⟩ : ∃ M, M = s.size := ⟨_, rfl⟩
  have hM : M ≤ 140737488355327 := by omega
  have hm0 : (cutSLP s).size ≤ M := by
    unfold cutSLP
    split
    · simp; omega
    · omega
  clear hM0 hsz
  generalize cutSLP s = cur0 at *
  generalize isSLP s = ok at *
  have hm1 : (rdCur cur0 1).size ≤ M := Nat.le_trans (rdCur_le _ _) hm0
  have hm2 : (rdCur (rdCur cur0 1) 4).size ≤ M := Nat.le_trans (rdCur_le _ _) hm1
  have HN1 := Lib.hid (fun W t => rnum_rd w W cur0 (!ok) 1 (by decide) (by decide) (Nat.le_trans hm0 hM) t)
  rw [hK] at HN1
  clear hK hm0
  generalize rdCur cur0 1 = cur1 at *
  generalize rdBad cur0 (!ok) 1 = bad1 at *
  have HN2 := Lib.hid (fun W t => rnum_rd w W cur1 bad1 4 (by decide) (by decide) (Nat.le_trans hm1 hM) t)
  clear hm1
  generalize rdNum cur1 4 = frm at *
  generalize rdCur cur1 4 = cur at *
  generalize hbb : rdBad cur1 bad1 4 = bad at *
  clear hbb
  have hbad := hb
  clear hb
  subst hbad
  have HM := Lib.hid hm2
  clear hm2
  go_enter Tryz.func33, Tryz.ntmps33
  go_wp2_with fail
  refine (HC.out _).mono ?_
  rintro e w1 ⟨rfl, rfl⟩
  go_wp2_with fail
  refine (HN1.out _ ?_).mono ?_
  · exact ⟨((Below.refl w.heap.size w).alloc (Nat.le_refl _) _).alloc (by simp) _, heap_alloc_old (heap_alloc_new _ _), heap_alloc_at (by simp) _⟩
  rintro e W1 ⟨rfl, t1⟩
  have T1 := Lib.hid t1
  clear t1
  go_wp2_with fail
  refine (HN2.out _ T1.out).mono ?_
  rintro e W2 ⟨rfl, t2⟩
  have T2 := Lib.hid t2
  have c0 := cell_of t2.r 0
  have hlt := lt_of_heap t2.r
  simp at c0
  clear t2 T1 HC HN1 HN2
  go_wp2_with fail
  have hP : PkAt w (W2.alloc (.cells #[.int .i64 1, .int .i64 frm, .int .i64 0, .int .i64 0, .int .i64 0, .int .i64 0, .string ⟨#[]⟩, .slice none 0 0] 66 (0, 0))) cur true W2.heap.size (pkC 1 frm 0 0 0 0 ⟨#[]⟩ (.slice none 0 0)) :=
    ⟨⟨T2.out.below.alloc T2.out.below.size _, heap_alloc_old T2.out.z, heap_alloc_old T2.out.r⟩, hlt, heap_alloc_new _ _⟩
  have HP := Lib.hid hP
  clear hP T2 c0 hlt
  generalize W2.alloc (.cells #[.int .i64 1, .int .i64 frm, .int .i64 0, .int .i64 0, .int .i64 0, .int .i64 0, .string ⟨#[]⟩, .slice none 0 0] 66 (0, 0)) = W at *
  generalize W2.heap.size = g at *
  refine (rtext_bad (w.heap.size + 1) cur true cur.size (.inl rfl) W HP.out.rd.r).mono ?_
  rintro e W3 ⟨rfl, rfl⟩
  have HP3 := Lib.hid (HP.out.put1 true)
  clear HP
  generalize W.setCell ⟨w.heap.size + 1, 1, none⟩ (.bool true) = W3 at *
  have y6 := cell_of HP3.out.p 6
  simp [pkC, zeroP] at y6
  have f6 := frozen_of HP3.out.p 6
  go_upto_region 20 with fail
  have HP1 : Hid (PkAt w (W3.setCell ⟨g, 6, none⟩ (.string ⟨#[]⟩)) cur true g (pkC 1 frm 0 0 0 0 ⟨#[]⟩ (.slice none 0 0))) := Lib.hid (HP3.out.store 6 (.string ⟨#[]⟩))
  clear HP3 y6 f6
  generalize (W3.setCell ⟨g, 6, none⟩ (.string ⟨#[]⟩)) = W1 at *
  have HP := HP1
  clear HP1
  have y0 := cell_of HP.out.p 0
  have y1 := cell_of HP.out.p 1
  have y2 := cell_of HP.out.p 2
  have y3 := cell_of HP.out.p 3
  have y4 := cell_of HP.out.p 4
  have y5 := cell_of HP.out.p 5
  have y6 := cell_of HP.out.p 6
  have y7 := cell_of HP.out.p 7
  simp [pkC, zeroP] at y0 y1 y2 y3 y4 y5 y6 y7
  have x0 := cell_of HP.out.rd.r 0
  have x1 := cell_of HP.out.rd.r 1
  simp at x0 x1
  have hz0 := HP.out.rd.z
  have z0 := cell_of hz0 0
  have z1 := cell_of hz0 1
  have z2 := cell_of hz0 2
  have z3 := cell_of hz0 3
  have z4 := cell_of hz0 4
  have z5 := cell_of hz0 5
  have z6 := cell_of hz0 6
  have z7 := cell_of hz0 7
  simp [pkC, zeroP] at z0 z1 z2 z3 z4 z5 z6 z7
  have f0 := frozen_of hz0 0
  have f1 := frozen_of hz0 1
  have f2 := frozen_of hz0 2
  have f3 := frozen_of hz0 3
  have f4 := frozen_of hz0 4
  have f5 := frozen_of hz0 5
  have f6 := frozen_of hz0 6
  have f7 := frozen_of hz0 7
  clear hz0
  go_wp2_with fail
  have R := HP.out.rd.row (.int .i64 0) (.int .i64 0) (.int .i64 0) (.int .i64 0) (.int .i64 0) (.int .i64 0) (.string ⟨#[]⟩) (.slice none 0 0)
  refine bodyPost_ret (v := .tuple #[.agg zeroP, .int .i64 2]) ?r ?d ?fin
  case fin => exact ⟨⟨0, 0, 0, 0, 0, 0, ⟨#[]⟩, none, 0, 0, 2, rfl, .inl (by decide)⟩, R.1⟩
  case d => rfl
  case r => exact results_cell_val Tryz.results33 _ _ w.heap.size _ _ (0, 0) _ _ (by simp) (by simp) R.2 Tryz.underlying66 rfl (by kernel_rfl)
end Go.Proofs.YtpmgackgcefalaaGreat
namespace Go.Proofs.YtpmgackgcefalaaGreat
open Go.RowKit
set_option maxRecDepth 100000 in
set_option maxHeartbeats 4000000 in
theorem ptake_none (s : ByteArray) (K : Nat) (h1 : K ≠ 1) (h2 : K ≠ 2) (h3 : K ≠ 3) (h4 : K ≠ 4) (hK : rdNum (cutSLP s) 1 = K) (hsz : s.size ≤ 140737488355327) (w : World) :
    Calls Tryz.prog 33 #[.string s] w fun e w' => NotOffer e ∧ Below w.heap.size w w' := by
  have HC := Lib.hid (cutPrefix_any s)
  obtain ⟨M, hM0⟩ : ∃ M, M = s.size := ⟨_, rfl⟩
  have hM : M ≤ 140737488355327 := by omega
  have hm0 : (cutSLP s).size ≤ M := by
    unfold cutSLP
    split
    · simp; omega
    · omega
  clear hM0 hsz
  generalize cutSLP s = cur0 at *
  generalize isSLP s = ok at *
  have hm1 : (rdCur cur0 1).size ≤ M := Nat.le_trans (rdCur_le _ _) hm0
  have hm2 : (rdCur (rdCur cur0 1) 4).size ≤ M := Nat.le_trans (rdCur_le _ _) hm1
  have HN1 := Lib.hid (fun W t => rnum_rd w W cur0 (!ok) 1 (by decide) (by decide) (Nat.le_trans hm0 hM) t)
  rw [hK] at HN1
  clear hK hm0
  generalize rdCur cur0 1 = cur1 at *
  generalize rdBad cur0 (!ok) 1 = bad1 at *
  have HN2 := Lib.hid (fun W t => rnum_rd w W cur1 bad1 4 (by decide) (by decide) (Nat.le_trans hm1 hM) t)
  clear hm1
  generalize rdNum cur1 4 = frm at *
  generalize rdCur cur1 4 = cur at *
  generalize rdBad cur1 bad1 4 = bad at *
  have HM := Lib.hid hm2
  clear hm2
  have k1 : ¬ (K : Int) = 1 := by omega
  have k2 : ¬ (K : Int) = 2 := by omega
  have k3 : ¬ (K : Int) = 3 := by omega
  have k4 : ¬ (K : Int) = 4 := by omega
  have b1 : ((K : Int) == 1) = false := by simp [k1]
  have b2 : ((K : Int) == 2) = false := by simp [k2]
  have b3 : ((K : Int) == 3) = false := by simp [k3]
  have b4 : ((K : Int) == 4) = false := by simp [k4]
  go_enter Tryz.func33, Tryz.ntmps33
  go_wp2_with fail
  refine (HC.out _).mono ?_
  rintro e w1 ⟨rfl, rfl⟩
  go_wp2_with fail
  refine (HN1.out _ ?_).mono ?_
  · exact ⟨((Below.refl w.heap.size w).alloc (Nat.le_refl _) _).alloc (by simp) _, heap_alloc_old (heap_alloc_new _ _), heap_alloc_at (by simp) _⟩
  rintro e W1 ⟨rfl, t1⟩
  have T1 := Lib.hid t1
  clear t1
  go_wp2_with fail
  refine (HN2.out _ T1.out).mono ?_
  rintro e W2 ⟨rfl, t2⟩
  have T2 := Lib.hid t2
  have c0 := cell_of t2.r 0
  have hlt := lt_of_heap t2.r
  simp at c0
  clear t2 T1 HC HN1 HN2
  go_wp2_with fail
  have hP : PkAt w (W2.alloc (.cells #[.int .i64 K, .int .i64 frm, .int .i64 0, .int .i64 0, .int .i64 0, .int .i64 0, .string ⟨#[]⟩, .slice none 0 0] 66 (0, 0))) cur bad W2.heap.size (pkC K frm 0 0 0 0 ⟨#[]⟩ (.slice none 0 0)) :=
    ⟨⟨T2.out.below.alloc T2.out.below.size _, heap_alloc_old T2.out.z, heap_alloc_old T2.out.r⟩, hlt, heap_alloc_new _ _⟩
  have HP := Lib.hid hP
  clear hP T2 c0 hlt
  generalize W2.alloc (.cells #[.int .i64 K, .int .i64 frm, .int .i64 0, .int .i64 0, .int .i64 0, .int .i64 0, .string ⟨#[]⟩, .slice none 0 0] 66 (0, 0)) = W at *
  generalize W2.heap.size = g at *
  refine (rnum_weak w _ cur bad g _ 4 M (by decide) (by decide) hM HM.out HP.out).mono ?_
  rintro e W1 ⟨v1, cur1a, bad1a, rfl, hp, hm, -⟩
  have HM1 := Lib.hid hm
  have HP1 := Lib.hid hp
  clear hp hm HP HM
  have y3 := cell_of HP1.out.p 3
  simp [pkC, zeroP] at y3
  have f3 := frozen_of HP1.out.p 3
  go_upto_region 8 with fail
  have HP2 : Hid (PkAt w (W1.setCell ⟨g, 3, none⟩ (.int .i64 v1)) cur1a bad1a g (pkC K frm 0 v1 0 0 ⟨#[]⟩ (.slice none 0 0))) := Lib.hid (HP1.out.store 3 (.int .i64 v1))
  clear HP1 y3 f3
  generalize (W1.setCell ⟨g, 3, none⟩ (.int .i64 v1)) = W2 at *
  have y0 := cell_of HP2.out.p 0
  simp [pkC, zeroP] at y0
  have x0 := cell_of HP2.out.rd.r 0
  simp at x0
  go_wp2_with fail
  clear y0 x0
  refine (rtext_weak w _ cur1a bad1a g _ cur1a.size M HM1.out HP2.out).mono ?_
  rintro e W3 ⟨x3, cur3a, bad3a, rfl, hp, hm, -, -⟩
  have HM3 := Lib.hid hm
  have HP3 := Lib.hid hp
  clear hp hm HP2 HM1
  have y6 := cell_of HP3.out.p 6
  simp [pkC, zeroP] at y6
  have f6 := frozen_of HP3.out.p 6
  go_upto_region 20 with fail
  have HP4 : Hid (PkAt w (W3.setCell ⟨g, 6, none⟩ (.string x3)) cur3a bad3a g (pkC K frm 0 v1 0 0 x3 (.slice none 0 0))) := Lib.hid (HP3.out.store 6 (.string x3))
  clear HP3 y6 f6
  generalize (W3.setCell ⟨g, 6, none⟩ (.string x3)) = W4 at *
  have HP := HP4
  clear HP4
  generalize cur3a = cur at *
  generalize bad3a = bad at *
  have y0 := cell_of HP.out.p 0
  have y1 := cell_of HP.out.p 1
  have y2 := cell_of HP.out.p 2
  have y3 := cell_of HP.out.p 3
  have y4 := cell_of HP.out.p 4
  have y5 := cell_of HP.out.p 5
  have y6 := cell_of HP.out.p 6
  have y7 := cell_of HP.out.p 7
  simp [pkC, zeroP] at y0 y1 y2 y3 y4 y5 y6 y7
  have x0 := cell_of HP.out.rd.r 0
  have x1 := cell_of HP.out.rd.r 1
  simp at x0 x1
  have hz0 := HP.out.rd.z
  have z0 := cell_of hz0 0
  have z1 := cell_of hz0 1
  have z2 := cell_of hz0 2
  have z3 := cell_of hz0 3
  have z4 := cell_of hz0 4
  have z5 := cell_of hz0 5
  have z6 := cell_of hz0 6
  have z7 := cell_of hz0 7
  simp [pkC, zeroP] at z0 z1 z2 z3 z4 z5 z6 z7
  have f0 := frozen_of hz0 0
  have f1 := frozen_of hz0 1
  have f2 := frozen_of hz0 2
  have f3 := frozen_of hz0 3
  have f4 := frozen_of hz0 4
  have f5 := frozen_of hz0 5
  have f6 := frozen_of hz0 6
  have f7 := frozen_of hz0 7
  clear hz0
  cases bad
  case true =>
    go_wp2_with fail
    have R := HP.out.rd.row (.int .i64 0) (.int .i64 0) (.int .i64 0) (.int .i64 0) (.int .i64 0) (.int .i64 0) (.string ⟨#[]⟩) (.slice none 0 0)
    refine bodyPost_ret (v := .tuple #[.agg zeroP, .int .i64 2]) ?r ?d ?fin
    case fin => exact ⟨⟨0, 0, 0, 0, 0, 0, ⟨#[]⟩, none, 0, 0, 2, rfl, .inl (by decide)⟩, R.1⟩
    case d => rfl
    case r => exact results_cell_val Tryz.results33 _ _ w.heap.size _ _ (0, 0) _ _ (by simp) (by simp) R.2 Tryz.underlying66 rfl (by kernel_rfl)
  case false =>
    by_cases hcur : cur = ⟨#[]⟩
    case neg =>
      have hcur' : (cur.toList == []) = false := by
        rw [beq_eq_false_iff_ne]
        intro h
        refine hcur (ByteArray.ext (Array.ext' ?_))
        rw [← ByteArray.toList_eq, h]
      clear hcur
      go_wp2_with fail
      have R := HP.out.rd.row (.int .i64 0) (.int .i64 0) (.int .i64 0) (.int .i64 0) (.int .i64 0) (.int .i64 0) (.string ⟨#[]⟩) (.slice none 0 0)
      refine bodyPost_ret (v := .tuple #[.agg zeroP, .int .i64 2]) ?r ?d ?fin
      case fin => exact ⟨⟨0, 0, 0, 0, 0, 0, ⟨#[]⟩, none, 0, 0, 2, rfl, .inl (by decide)⟩, R.1⟩
      case d => rfl
      case r => exact results_cell_val Tryz.results33 _ _ w.heap.size _ _ (0, 0) _ _ (by simp) (by simp) R.2 Tryz.underlying66 rfl (by kernel_rfl)
    subst hcur
    go_wp2_with fail
    refine (pcheck_any K frm 0 v1 0 0 x3 (.slice none 0 0) [] (by first | decide | omega) _ (SliceOf.nil strS _) (by first | exact Nat.zero_le _ | omega)).mono ?_
    rintro e W5 ⟨⟨z, rfl⟩, hb5⟩
    have HP5 := Lib.hid (HP.out.after hb5)
    clear hb5 HP x0 x1 y0 y1 y2 y3 y4 y5 y6 y7 z0 z1 z2 z3 z4 z5 z6 z7 f0 f1 f2 f3 f4 f5 f6 f7
    have y0 := cell_of HP5.out.p 0
    have y1 := cell_of HP5.out.p 1
    have y2 := cell_of HP5.out.p 2
    have y3 := cell_of HP5.out.p 3
    have y4 := cell_of HP5.out.p 4
    have y5 := cell_of HP5.out.p 5
    have y6 := cell_of HP5.out.p 6
    have y7 := cell_of HP5.out.p 7
    simp [pkC, zeroP] at y0 y1 y2 y3 y4 y5 y6 y7
    have hz0 := HP5.out.rd.z
    have z0 := cell_of hz0 0
    have z1 := cell_of hz0 1
    have z2 := cell_of hz0 2
    have z3 := cell_of hz0 3
    have z4 := cell_of hz0 4
    have z5 := cell_of hz0 5
    have z6 := cell_of hz0 6
    have z7 := cell_of hz0 7
    simp [pkC, zeroP] at z0 z1 z2 z3 z4 z5 z6 z7
    have f0 := frozen_of hz0 0
    have f1 := frozen_of hz0 1
    have f2 := frozen_of hz0 2
    have f3 := frozen_of hz0 3
    have f4 := frozen_of hz0 4
    have f5 := frozen_of hz0 5
    have f6 := frozen_of hz0 6
    have f7 := frozen_of hz0 7
    clear hz0
    by_cases hz : z = 0
    case neg =>
      have hz' : (z == 0) = false := by simp [hz]
      clear hz
      go_wp2_with fail
      have R := HP5.out.rd.row (.int .i64 0) (.int .i64 0) (.int .i64 0) (.int .i64 0) (.int .i64 0) (.int .i64 0) (.string ⟨#[]⟩) (.slice none 0 0)
      refine bodyPost_ret (v := .tuple #[.agg zeroP, .int .i64 2]) ?r ?d ?fin
      case fin => exact ⟨⟨0, 0, 0, 0, 0, 0, ⟨#[]⟩, none, 0, 0, 2, rfl, .inl (by decide)⟩, R.1⟩
      case d => rfl
      case r => exact results_cell_val Tryz.results33 _ _ w.heap.size _ _ (0, 0) _ _ (by simp) (by simp) R.2 Tryz.underlying66 rfl (by kernel_rfl)
    subst hz
    go_wp2_with fail
    have R := HP5.out.rd.row (.int .i64 K) (.int .i64 frm) (.int .i64 0) (.int .i64 v1) (.int .i64 0) (.int .i64 0) (.string x3) (.slice none 0 0)
    refine bodyPost_ret (v := .tuple #[.agg (pkC K frm 0 v1 0 0 x3 (.slice none 0 0)), .int .i64 0]) ?r ?d ?fin
    case fin => exact ⟨⟨_, _, _, _, _, _, _, none, 0, 0, 0, rfl, .inr (by first | decide | omega)⟩, R.1⟩
    case d => rfl
    case r => exact results_cell_val Tryz.results33 _ _ w.heap.size _ _ (0, 0) _ _ (by simp) (by simp) R.2 Tryz.underlying66 rfl (by kernel_rfl)
set_option maxRecDepth 100000 in
set_option maxHeartbeats 4000000 in
theorem ptake_four (s : ByteArray) (hK : rdNum (cutSLP s) 1 = 4) (hsz : s.size ≤ 140737488355327) (w : World) :
    Calls Tryz.prog 33 #[.string s] w fun e w' => NotOffer e ∧ Below w.heap.size w w' := by
  have HC := Lib.hid (cutPrefix_any s)
  obtain ⟨M, hM0⟩ : ∃ M, M = s.size := ⟨_, rfl⟩
  have hM : M ≤ 140737488355327 := by omega
  have hm0 : (cutSLP s).size ≤ M := by
    unfold cutSLP
    split
    · simp; omega
    · omega
  clear hM0 hsz
  generalize cutSLP s = cur0 at *
  generalize isSLP s = ok at *
  have hm1 : (rdCur cur0 1).size ≤ M := Nat.le_trans (rdCur_le _ _) hm0
  have hm2 : (rdCur (rdCur cur0 1) 4).size ≤ M := Nat.le_trans (rdCur_le _ _) hm1
  have HN1 := Lib.hid (fun W t => rnum_rd w W cur0 (!ok) 1 (by decide) (by decide) (Nat.le_trans hm0 hM) t)
  rw [hK] at HN1
  clear hK hm0
  generalize rdCur cur0 1 = cur1 at *
  generalize rdBad cur0 (!ok) 1 = bad1 at *
  have HN2 := Lib.hid (fun W t => rnum_rd w W cur1 bad1 4 (by decide) (by decide) (Nat.le_trans hm1 hM) t)
  clear hm1
  generalize rdNum cur1 4 = frm at *
  generalize rdCur cur1 4 = cur at *
  generalize rdBad cur1 bad1 4 = bad at *
  have HM := Lib.hid hm2
  clear hm2
  go_enter Tryz.func33, Tryz.ntmps33
  go_wp2_with fail
  refine (HC.out _).mono ?_
  rintro e w1 ⟨rfl, rfl⟩
  go_wp2_with fail
  refine (HN1.out _ ?_).mono ?_
  · exact ⟨((Below.refl w.heap.size w).alloc (Nat.le_refl _) _).alloc (by simp) _, heap_alloc_old (heap_alloc_new _ _), heap_alloc_at (by simp) _⟩
  rintro e W1 ⟨rfl, t1⟩
  have T1 := Lib.hid t1
  clear t1
  go_wp2_with fail
  refine (HN2.out _ T1.out).mono ?_
  rintro e W2 ⟨rfl, t2⟩
  have T2 := Lib.hid t2
  have c0 := cell_of t2.r 0
  have hlt := lt_of_heap t2.r
  simp at c0
  clear t2 T1 HC HN1 HN2
  go_wp2_with fail
  have hP : PkAt w (W2.alloc (.cells #[.int .i64 4, .int .i64 frm, .int .i64 0, .int .i64 0, .int .i64 0, .int .i64 0, .string ⟨#[]⟩, .slice none 0 0] 66 (0, 0))) cur bad W2.heap.size (pkC 4 frm 0 0 0 0 ⟨#[]⟩ (.slice none 0 0)) :=
    ⟨⟨T2.out.below.alloc T2.out.below.size _, heap_alloc_old T2.out.z, heap_alloc_old T2.out.r⟩, hlt, heap_alloc_new _ _⟩
  have HP := Lib.hid hP
  clear hP T2 c0 hlt
  generalize W2.alloc (.cells #[.int .i64 4, .int .i64 frm, .int .i64 0, .int .i64 0, .int .i64 0, .int .i64 0, .string ⟨#[]⟩, .slice none 0 0] 66 (0, 0)) = W at *
  generalize W2.heap.size = g at *
  refine (rnum_weak w _ cur bad g _ 4 M (by decide) (by decide) hM HM.out HP.out).mono ?_
  rintro e W5 ⟨v5, cur5a, bad5a, rfl, hp, hm, -⟩
  have HM5 := Lib.hid hm
  have HP5 := Lib.hid hp
  clear hp hm HP HM
  have y2 := cell_of HP5.out.p 2
  simp [pkC, zeroP] at y2
  have f2 := frozen_of HP5.out.p 2
  go_upto_region 6 with fail
  have HP6 : Hid (PkAt w (W5.setCell ⟨g, 2, none⟩ (.int .i64 v5)) cur5a bad5a g (pkC 4 frm v5 0 0 0 ⟨#[]⟩ (.slice none 0 0))) := Lib.hid (HP5.out.store 2 (.int .i64 v5))
  clear HP5 y2 f2
  generalize (W5.setCell ⟨g, 2, none⟩ (.int .i64 v5)) = W6 at *
  have y0 := cell_of HP6.out.p 0
  simp [pkC, zeroP] at y0
  go_wp2_with fail
  refine (rnum_weak w _ cur5a bad5a g _ 4 M (by decide) (by decide) hM HM5.out HP6.out).mono ?_
  rintro e W7 ⟨v7, cur7a, bad7a, rfl, hp, hm, -⟩
  have HM7 := Lib.hid hm
  have HP7 := Lib.hid hp
  clear hp hm HP6 HM5
  clear y0
  have y3 := cell_of HP7.out.p 3
  simp [pkC, zeroP] at y3
  have f3 := frozen_of HP7.out.p 3
  go_upto_region 8 with fail
  have HP8 : Hid (PkAt w (W7.setCell ⟨g, 3, none⟩ (.int .i64 v7)) cur7a bad7a g (pkC 4 frm v5 v7 0 0 ⟨#[]⟩ (.slice none 0 0))) := Lib.hid (HP7.out.store 3 (.int .i64 v7))
  clear HP7 y3 f3
  generalize (W7.setCell ⟨g, 3, none⟩ (.int .i64 v7)) = W8 at *
  have y0 := cell_of HP8.out.p 0
  simp [pkC, zeroP] at y0
  have x0 := cell_of HP8.out.rd.r 0
  simp at x0
  go_wp2_with fail
  clear y0 x0
  refine (rtext_weak w _ cur7a bad7a g _ cur7a.size M HM7.out HP8.out).mono ?_
  rintro e W9 ⟨x9, cur9a, bad9a, rfl, hp, hm, -, -⟩
  have HM9 := Lib.hid hm
  have HP9 := Lib.hid hp
  clear hp hm HP8 HM7
  have y6 := cell_of HP9.out.p 6
  simp [pkC, zeroP] at y6
  have f6 := frozen_of HP9.out.p 6
  go_upto_region 20 with fail
  have HP10 : Hid (PkAt w (W9.setCell ⟨g, 6, none⟩ (.string x9)) cur9a bad9a g (pkC 4 frm v5 v7 0 0 x9 (.slice none 0 0))) := Lib.hid (HP9.out.store 6 (.string x9))
  clear HP9 y6 f6
  generalize (W9.setCell ⟨g, 6, none⟩ (.string x9)) = W10 at *
  have HP := HP10
  clear HP10
  generalize cur9a = cur at *
  generalize bad9a = bad at *
  have y0 := cell_of HP.out.p 0
  have y1 := cell_of HP.out.p 1
  have y2 := cell_of HP.out.p 2
  have y3 := cell_of HP.out.p 3
  have y4 := cell_of HP.out.p 4
  have y5 := cell_of HP.out.p 5
  have y6 := cell_of HP.out.p 6
  have y7 := cell_of HP.out.p 7
  simp [pkC, zeroP] at y0 y1 y2 y3 y4 y5 y6 y7
  have x0 := cell_of HP.out.rd.r 0
  have x1 := cell_of HP.out.rd.r 1
  simp at x0 x1
  have hz0 := HP.out.rd.z
  have z0 := cell_of hz0 0
  have z1 := cell_of hz0 1
  have z2 := cell_of hz0 2
  have z3 := cell_of hz0 3
  have z4 := cell_of hz0 4
  have z5 := cell_of hz0 5
  have z6 := cell_of hz0 6
  have z7 := cell_of hz0 7
  simp [pkC, zeroP] at z0 z1 z2 z3 z4 z5 z6 z7
  have f0 := frozen_of hz0 0
  have f1 := frozen_of hz0 1
  have f2 := frozen_of hz0 2
  have f3 := frozen_of hz0 3
  have f4 := frozen_of hz0 4
  have f5 := frozen_of hz0 5
  have f6 := frozen_of hz0 6
  have f7 := frozen_of hz0 7
  clear hz0
  cases bad
  case true =>
    go_wp2_with fail
    have R := HP.out.rd.row (.int .i64 0) (.int .i64 0) (.int .i64 0) (.int .i64 0) (.int .i64 0) (.int .i64 0) (.string ⟨#[]⟩) (.slice none 0 0)
    refine bodyPost_ret (v := .tuple #[.agg zeroP, .int .i64 2]) ?r ?d ?fin
    case fin => exact ⟨⟨0, 0, 0, 0, 0, 0, ⟨#[]⟩, none, 0, 0, 2, rfl, .inl (by decide)⟩, R.1⟩
    case d => rfl
    case r => exact results_cell_val Tryz.results33 _ _ w.heap.size _ _ (0, 0) _ _ (by simp) (by simp) R.2 Tryz.underlying66 rfl (by kernel_rfl)
  case false =>
    by_cases hcur : cur = ⟨#[]⟩
    case neg =>
      have hcur' : (cur.toList == []) = false := by
        rw [beq_eq_false_iff_ne]
        intro h
        refine hcur (ByteArray.ext (Array.ext' ?_))
        rw [← ByteArray.toList_eq, h]
      clear hcur
      go_wp2_with fail
      have R := HP.out.rd.row (.int .i64 0) (.int .i64 0) (.int .i64 0) (.int .i64 0) (.int .i64 0) (.int .i64 0) (.string ⟨#[]⟩) (.slice none 0 0)
      refine bodyPost_ret (v := .tuple #[.agg zeroP, .int .i64 2]) ?r ?d ?fin
      case fin => exact ⟨⟨0, 0, 0, 0, 0, 0, ⟨#[]⟩, none, 0, 0, 2, rfl, .inl (by decide)⟩, R.1⟩
      case d => rfl
      case r => exact results_cell_val Tryz.results33 _ _ w.heap.size _ _ (0, 0) _ _ (by simp) (by simp) R.2 Tryz.underlying66 rfl (by kernel_rfl)
    subst hcur
    go_wp2_with fail
    refine (pcheck_any 4 frm v5 v7 0 0 x9 (.slice none 0 0) [] (by first | decide | omega) _ (SliceOf.nil strS _) (by first | exact Nat.zero_le _ | omega)).mono ?_
    rintro e W5 ⟨⟨z, rfl⟩, hb5⟩
    have HP5 := Lib.hid (HP.out.after hb5)
    clear hb5 HP x0 x1 y0 y1 y2 y3 y4 y5 y6 y7 z0 z1 z2 z3 z4 z5 z6 z7 f0 f1 f2 f3 f4 f5 f6 f7
    have y0 := cell_of HP5.out.p 0
    have y1 := cell_of HP5.out.p 1
    have y2 := cell_of HP5.out.p 2
    have y3 := cell_of HP5.out.p 3
    have y4 := cell_of HP5.out.p 4
    have y5 := cell_of HP5.out.p 5
    have y6 := cell_of HP5.out.p 6
    have y7 := cell_of HP5.out.p 7
    simp [pkC, zeroP] at y0 y1 y2 y3 y4 y5 y6 y7
    have hz0 := HP5.out.rd.z
    have z0 := cell_of hz0 0
    have z1 := cell_of hz0 1
    have z2 := cell_of hz0 2
    have z3 := cell_of hz0 3
    have z4 := cell_of hz0 4
    have z5 := cell_of hz0 5
    have z6 := cell_of hz0 6
    have z7 := cell_of hz0 7
    simp [pkC, zeroP] at z0 z1 z2 z3 z4 z5 z6 z7
    have f0 := frozen_of hz0 0
    have f1 := frozen_of hz0 1
    have f2 := frozen_of hz0 2
    have f3 := frozen_of hz0 3
    have f4 := frozen_of hz0 4
    have f5 := frozen_of hz0 5
    have f6 := frozen_of hz0 6
    have f7 := frozen_of hz0 7
    clear hz0
    by_cases hz : z = 0
    case neg =>
      have hz' : (z == 0) = false := by simp [hz]
      clear hz
      go_wp2_with fail
      have R := HP5.out.rd.row (.int .i64 0) (.int .i64 0) (.int .i64 0) (.int .i64 0) (.int .i64 0) (.int .i64 0) (.string ⟨#[]⟩) (.slice none 0 0)
      refine bodyPost_ret (v := .tuple #[.agg zeroP, .int .i64 2]) ?r ?d ?fin
      case fin => exact ⟨⟨0, 0, 0, 0, 0, 0, ⟨#[]⟩, none, 0, 0, 2, rfl, .inl (by decide)⟩, R.1⟩
      case d => rfl
      case r => exact results_cell_val Tryz.results33 _ _ w.heap.size _ _ (0, 0) _ _ (by simp) (by simp) R.2 Tryz.underlying66 rfl (by kernel_rfl)
    subst hz
    go_wp2_with fail
    have R := HP5.out.rd.row (.int .i64 4) (.int .i64 frm) (.int .i64 v5) (.int .i64 v7) (.int .i64 0) (.int .i64 0) (.string x9) (.slice none 0 0)
    refine bodyPost_ret (v := .tuple #[.agg (pkC 4 frm v5 v7 0 0 x9 (.slice none 0 0)), .int .i64 0]) ?r ?d ?fin
    case fin => exact ⟨⟨_, _, _, _, _, _, _, none, 0, 0, 0, rfl, .inr (by first | decide | omega)⟩, R.1⟩
    case d => rfl
    case r => exact results_cell_val Tryz.results33 _ _ w.heap.size _ _ (0, 0) _ _ (by simp) (by simp) R.2 Tryz.underlying66 rfl (by kernel_rfl)
end Go.Proofs.YtpmgackgcefalaaGreat
namespace Go.Proofs.YtpmgackgcefalaaGreat
open Go.RowKit
set_option maxRecDepth 100000 in
set_option maxHeartbeats 4000000 in
theorem ptake_three (s : ByteArray) (hK : rdNum (cutSLP s) 1 = 3) (hsz : s.size ≤ 140737488355327) (w : World) :
    Calls Tryz.prog 33 #[.string s] w fun e w' => NotOffer e ∧ Below w.heap.size w w' := by
  have HC := Lib.hid (cutPrefix_any s)
  obtain ⟨M, hM0⟩ : ∃ M, M = s.size := ⟨_, rfl⟩
  have hM : M ≤ 140737488355327 := by omega
  have hm0 : (cutSLP s).size ≤ M := by
    unfold cutSLP
    split
    · simp; omega
    · omega
  clear hM0 hsz
  generalize cutSLP s = cur0 at *
  generalize isSLP s = ok at *
  have hm1 : (rdCur cur0 1).size ≤ M := Nat.le_trans (rdCur_le _ _) hm0
  have hm2 : (rdCur (rdCur cur0 1) 4).size ≤ M := Nat.le_trans (rdCur_le _ _) hm1
  have HN1 := Lib.hid (fun W t => rnum_rd w W cur0 (!ok) 1 (by decide) (by decide) (Nat.le_trans hm0 hM) t)
  rw [hK] at HN1
  clear hK hm0
  generalize rdCur cur0 1 = cur1 at *
  generalize rdBad cur0 (!ok) 1 = bad1 at *
  have HN2 := Lib.hid (fun W t => rnum_rd w W cur1 bad1 4 (by decide) (by decide) (Nat.le_trans hm1 hM) t)
  clear hm1
  generalize rdNum cur1 4 = frm at *
  generalize rdCur cur1 4 = cur at *
  generalize rdBad cur1 bad1 4 = bad at *
  have HM := Lib.hid hm2
  clear hm2
  go_enter Tryz.func33, Tryz.ntmps33
  go_wp2_with fail
  refine (HC.out _).mono ?_
  rintro e w1 ⟨rfl, rfl⟩
  go_wp2_with fail
  refine (HN1.out _ ?_).mono ?_
  · exact ⟨((Below.refl w.heap.size w).alloc (Nat.le_refl _) _).alloc (by simp) _, heap_alloc_old (heap_alloc_new _ _), heap_alloc_at (by simp) _⟩
  rintro e W1 ⟨rfl, t1⟩
  have T1 := Lib.hid t1
  clear t1
  go_wp2_with fail
  refine (HN2.out _ T1.out).mono ?_
  rintro e W2 ⟨rfl, t2⟩
  have T2 := Lib.hid t2
  have c0 := cell_of t2.r 0
  have hlt := lt_of_heap t2.r
  simp at c0
  clear t2 T1 HC HN1 HN2
  go_wp2_with fail
  have hP : PkAt w (W2.alloc (.cells #[.int .i64 3, .int .i64 frm, .int .i64 0, .int .i64 0, .int .i64 0, .int .i64 0, .string ⟨#[]⟩, .slice none 0 0] 66 (0, 0))) cur bad W2.heap.size (pkC 3 frm 0 0 0 0 ⟨#[]⟩ (.slice none 0 0)) :=
    ⟨⟨T2.out.below.alloc T2.out.below.size _, heap_alloc_old T2.out.z, heap_alloc_old T2.out.r⟩, hlt, heap_alloc_new _ _⟩
  have HP := Lib.hid hP
  clear hP T2 c0 hlt
  generalize W2.alloc (.cells #[.int .i64 3, .int .i64 frm, .int .i64 0, .int .i64 0, .int .i64 0, .int .i64 0, .string ⟨#[]⟩, .slice none 0 0] 66 (0, 0)) = W at *
  generalize W2.heap.size = g at *
  refine (rnum_weak w _ cur bad g _ 4 M (by decide) (by decide) hM HM.out HP.out).mono ?_
  rintro e W1 ⟨v1, cur1a, bad1a, rfl, hp, hm, -⟩
  have HM1 := Lib.hid hm
  have HP1 := Lib.hid hp
  clear hp hm HP HM
  have y2 := cell_of HP1.out.p 2
  simp [pkC, zeroP] at y2
  have f2 := frozen_of HP1.out.p 2
  go_upto_region 6 with fail
  have HP2 : Hid (PkAt w (W1.setCell ⟨g, 2, none⟩ (.int .i64 v1)) cur1a bad1a g (pkC 3 frm v1 0 0 0 ⟨#[]⟩ (.slice none 0 0))) := Lib.hid (HP1.out.store 2 (.int .i64 v1))
  clear HP1 y2 f2
  generalize (W1.setCell ⟨g, 2, none⟩ (.int .i64 v1)) = W2 at *
  have y0 := cell_of HP2.out.p 0
  simp [pkC, zeroP] at y0
  go_wp2_with fail
  refine (rnum_weak w _ cur1a bad1a g _ 4 M (by decide) (by decide) hM HM1.out HP2.out).mono ?_
  rintro e W3 ⟨v3, cur3a, bad3a, rfl, hp, hm, -⟩
  have HM3 := Lib.hid hm
  have HP3 := Lib.hid hp
  clear hp hm HP2 HM1
  clear y0
  have y3 := cell_of HP3.out.p 3
  simp [pkC, zeroP] at y3
  have f3 := frozen_of HP3.out.p 3
  go_upto_region 8 with fail
  have HP4 : Hid (PkAt w (W3.setCell ⟨g, 3, none⟩ (.int .i64 v3)) cur3a bad3a g (pkC 3 frm v1 v3 0 0 ⟨#[]⟩ (.slice none 0 0))) := Lib.hid (HP3.out.store 3 (.int .i64 v3))
  clear HP3 y3 f3
  generalize (W3.setCell ⟨g, 3, none⟩ (.int .i64 v3)) = W4 at *
  have y0 := cell_of HP4.out.p 0
  simp [pkC, zeroP] at y0
  go_wp2_with fail
  clear y0
  refine (rnum_weak w _ cur3a bad3a g _ 2 M (by decide) (by decide) hM HM3.out HP4.out).mono ?_
  rintro e W5 ⟨v5, cur5a, bad5a, rfl, hp, hm, -⟩
  have HM5 := Lib.hid hm
  have HP5 := Lib.hid hp
  clear hp hm HP4 HM3
  go_wp2_with fail
  refine (rnum_weak w _ cur5a bad5a g _ 2 M (by decide) (by decide) hM HM5.out HP5.out).mono ?_
  rintro e W6 ⟨v6, cur6a, bad6a, rfl, hp, hm, -⟩
  have HM6 := Lib.hid hm
  have HP6 := Lib.hid hp
  clear hp hm HP5 HM5
  have y4 := cell_of HP6.out.p 4
  have y5 := cell_of HP6.out.p 5
  simp [pkC, zeroP] at y4 y5
  have f4 := frozen_of HP6.out.p 4
  have f5 := frozen_of HP6.out.p 5
  go_upto_region 19 with fail
  have HP7 : Hid (PkAt w ((W6.setCell ⟨g, 4, none⟩ (.int .i64 v5)).setCell ⟨g, 5, none⟩ (.int .i64 v6)) cur6a bad6a g (pkC 3 frm v1 v3 v5 v6 ⟨#[]⟩ (.slice none 0 0))) := Lib.hid ((HP6.out.store 4 (.int .i64 v5)).store 5 (.int .i64 v6))
  clear HP6 y4 f4 y5 f5
  generalize ((W6.setCell ⟨g, 4, none⟩ (.int .i64 v5)).setCell ⟨g, 5, none⟩ (.int .i64 v6)) = W7 at *
  go_wp2_with fail
  refine (rtext_weak w _ cur6a bad6a g _ 32 M HM6.out HP7.out).mono ?_
  rintro e W8 ⟨x8, cur8a, bad8a, rfl, hp, hm, -, -⟩
  have HM8 := Lib.hid hm
  have HP8 := Lib.hid hp
  clear hp hm HP7 HM6
  have y6 := cell_of HP8.out.p 6
  simp [pkC, zeroP] at y6
  have f6 := frozen_of HP8.out.p 6
  go_upto_region 20 with fail
  have HP9 : Hid (PkAt w (W8.setCell ⟨g, 6, none⟩ (.string x8)) cur8a bad8a g (pkC 3 frm v1 v3 v5 v6 x8 (.slice none 0 0))) := Lib.hid (HP8.out.store 6 (.string x8))
  clear HP8 y6 f6
  generalize (W8.setCell ⟨g, 6, none⟩ (.string x8)) = W9 at *
  have HP := HP9
  clear HP9
  generalize cur8a = cur at *
  generalize bad8a = bad at *
  have y0 := cell_of HP.out.p 0
  have y1 := cell_of HP.out.p 1
  have y2 := cell_of HP.out.p 2
  have y3 := cell_of HP.out.p 3
  have y4 := cell_of HP.out.p 4
  have y5 := cell_of HP.out.p 5
  have y6 := cell_of HP.out.p 6
  have y7 := cell_of HP.out.p 7
  simp [pkC, zeroP] at y0 y1 y2 y3 y4 y5 y6 y7
  have x0 := cell_of HP.out.rd.r 0
  have x1 := cell_of HP.out.rd.r 1
  simp at x0 x1
  have hz0 := HP.out.rd.z
  have z0 := cell_of hz0 0
  have z1 := cell_of hz0 1
  have z2 := cell_of hz0 2
  have z3 := cell_of hz0 3
  have z4 := cell_of hz0 4
  have z5 := cell_of hz0 5
  have z6 := cell_of hz0 6
  have z7 := cell_of hz0 7
  simp [pkC, zeroP] at z0 z1 z2 z3 z4 z5 z6 z7
  have f0 := frozen_of hz0 0
  have f1 := frozen_of hz0 1
  have f2 := frozen_of hz0 2
  have f3 := frozen_of hz0 3
  have f4 := frozen_of hz0 4
  have f5 := frozen_of hz0 5
  have f6 := frozen_of hz0 6
  have f7 := frozen_of hz0 7
  clear hz0
  cases bad
  case true =>
    go_wp2_with fail
    have R := HP.out.rd.row (.int .i64 0) (.int .i64 0) (.int .i64 0) (.int .i64 0) (.int .i64 0) (.int .i64 0) (.string ⟨#[]⟩) (.slice none 0 0)
    refine bodyPost_ret (v := .tuple #[.agg zeroP, .int .i64 2]) ?r ?d ?fin
    case fin => exact ⟨⟨0, 0, 0, 0, 0, 0, ⟨#[]⟩, none, 0, 0, 2, rfl, .inl (by decide)⟩, R.1⟩
    case d => rfl
    case r => exact results_cell_val Tryz.results33 _ _ w.heap.size _ _ (0, 0) _ _ (by simp) (by simp) R.2 Tryz.underlying66 rfl (by kernel_rfl)
  case false =>
    by_cases hcur : cur = ⟨#[]⟩
    case neg =>
      have hcur' : (cur.toList == []) = false := by
        rw [beq_eq_false_iff_ne]
        intro h
        refine hcur (ByteArray.ext (Array.ext' ?_))
        rw [← ByteArray.toList_eq, h]
      clear hcur
      go_wp2_with fail
      have R := HP.out.rd.row (.int .i64 0) (.int .i64 0) (.int .i64 0) (.int .i64 0) (.int .i64 0) (.int .i64 0) (.string ⟨#[]⟩) (.slice none 0 0)
      refine bodyPost_ret (v := .tuple #[.agg zeroP, .int .i64 2]) ?r ?d ?fin
      case fin => exact ⟨⟨0, 0, 0, 0, 0, 0, ⟨#[]⟩, none, 0, 0, 2, rfl, .inl (by decide)⟩, R.1⟩
      case d => rfl
      case r => exact results_cell_val Tryz.results33 _ _ w.heap.size _ _ (0, 0) _ _ (by simp) (by simp) R.2 Tryz.underlying66 rfl (by kernel_rfl)
    subst hcur
    go_wp2_with fail
    refine (pcheck_any 3 frm v1 v3 v5 v6 x8 (.slice none 0 0) [] (by first | decide | omega) _ (SliceOf.nil strS _) (by first | exact Nat.zero_le _ | omega)).mono ?_
    rintro e W5 ⟨⟨z, rfl⟩, hb5⟩
    have HP5 := Lib.hid (HP.out.after hb5)
    clear hb5 HP x0 x1 y0 y1 y2 y3 y4 y5 y6 y7 z0 z1 z2 z3 z4 z5 z6 z7 f0 f1 f2 f3 f4 f5 f6 f7
    have y0 := cell_of HP5.out.p 0
    have y1 := cell_of HP5.out.p 1
    have y2 := cell_of HP5.out.p 2
    have y3 := cell_of HP5.out.p 3
    have y4 := cell_of HP5.out.p 4
    have y5 := cell_of HP5.out.p 5
    have y6 := cell_of HP5.out.p 6
    have y7 := cell_of HP5.out.p 7
    simp [pkC, zeroP] at y0 y1 y2 y3 y4 y5 y6 y7
    have hz0 := HP5.out.rd.z
    have z0 := cell_of hz0 0
    have z1 := cell_of hz0 1
    have z2 := cell_of hz0 2
    have z3 := cell_of hz0 3
    have z4 := cell_of hz0 4
    have z5 := cell_of hz0 5
    have z6 := cell_of hz0 6
    have z7 := cell_of hz0 7
    simp [pkC, zeroP] at z0 z1 z2 z3 z4 z5 z6 z7
    have f0 := frozen_of hz0 0
    have f1 := frozen_of hz0 1
    have f2 := frozen_of hz0 2
    have f3 := frozen_of hz0 3
    have f4 := frozen_of hz0 4
    have f5 := frozen_of hz0 5
    have f6 := frozen_of hz0 6
    have f7 := frozen_of hz0 7
    clear hz0
    by_cases hz : z = 0
    case neg =>
      have hz' : (z == 0) = false := by simp [hz]
      clear hz
      go_wp2_with fail
      have R := HP5.out.rd.row (.int .i64 0) (.int .i64 0) (.int .i64 0) (.int .i64 0) (.int .i64 0) (.int .i64 0) (.string ⟨#[]⟩) (.slice none 0 0)
      refine bodyPost_ret (v := .tuple #[.agg zeroP, .int .i64 2]) ?r ?d ?fin
      case fin => exact ⟨⟨0, 0, 0, 0, 0, 0, ⟨#[]⟩, none, 0, 0, 2, rfl, .inl (by decide)⟩, R.1⟩
      case d => rfl
      case r => exact results_cell_val Tryz.results33 _ _ w.heap.size _ _ (0, 0) _ _ (by simp) (by simp) R.2 Tryz.underlying66 rfl (by kernel_rfl)
    subst hz
    go_wp2_with fail
    have R := HP5.out.rd.row (.int .i64 3) (.int .i64 frm) (.int .i64 v1) (.int .i64 v3) (.int .i64 v5) (.int .i64 v6) (.string x8) (.slice none 0 0)
    refine bodyPost_ret (v := .tuple #[.agg (pkC 3 frm v1 v3 v5 v6 x8 (.slice none 0 0)), .int .i64 0]) ?r ?d ?fin
    case fin => exact ⟨⟨_, _, _, _, _, _, _, none, 0, 0, 0, rfl, .inr (by first | decide | omega)⟩, R.1⟩
    case d => rfl
    case r => exact results_cell_val Tryz.results33 _ _ w.heap.size _ _ (0, 0) _ _ (by simp) (by simp) R.2 Tryz.underlying66 rfl (by kernel_rfl)
end Go.Proofs.YtpmgackgcefalaaGreat
namespace Go.Proofs.YtpmgackgcefalaaGreat
open Go.RowKit
set_option maxRecDepth 100000 in
set_option maxHeartbeats 4000000 in
theorem ptake_two (s : ByteArray) (hK : rdNum (cutSLP s) 1 = 2) (hsz : s.size ≤ 140737488355327) (w : World) :
    Calls Tryz.prog 33 #[.string s] w fun e w' => NotOffer e ∧ Below w.heap.size w w' := by
  have HC := Lib.hid (cutPrefix_any s)
  obtain ⟨M, hM0⟩ : ∃ M, M = s.size := ⟨_, rfl⟩
  have hM : M ≤ 140737488355327 := by omega
  have hm0 : (cutSLP s).size ≤ M := by
    unfold cutSLP
    split
    · simp; omega
    · omega
  clear hM0 hsz
  generalize cutSLP s = cur0 at *
  generalize isSLP s = ok at *
  have hm1 : (rdCur cur0 1).size ≤ M := Nat.le_trans (rdCur_le _ _) hm0
  have hm2 : (rdCur (rdCur cur0 1) 4).size ≤ M := Nat.le_trans (rdCur_le _ _) hm1
  have HN1 := Lib.hid (fun W t => rnum_rd w W cur0 (!ok) 1 (by decide) (by decide) (Nat.le_trans hm0 hM) t)
  rw [hK] at HN1
  clear hK hm0
  generalize rdCur cur0 1 = cur1 at *
  generalize rdBad cur0 (!ok) 1 = bad1 at *
  have HN2 := Lib.hid (fun W t => rnum_rd w W cur1 bad1 4 (by decide) (by decide) (Nat.le_trans hm1 hM) t)
  clear hm1
  generalize rdNum cur1 4 = frm at *
  generalize rdCur cur1 4 = cur at *
  generalize rdBad cur1 bad1 4 = bad at *
  have HM := Lib.hid hm2
  clear hm2
  go_enter Tryz.func33, Tryz.ntmps33
  go_wp2_with fail
  refine (HC.out _).mono ?_
  rintro e w1 ⟨rfl, rfl⟩
  go_wp2_with fail
  refine (HN1.out _ ?_).mono ?_
  · exact ⟨((Below.refl w.heap.size w).alloc (Nat.le_refl _) _).alloc (by simp) _, heap_alloc_old (heap_alloc_new _ _), heap_alloc_at (by simp) _⟩
  rintro e W1 ⟨rfl, t1⟩
  have T1 := Lib.hid t1
  clear t1
  go_wp2_with fail
  refine (HN2.out _ T1.out).mono ?_
  rintro e W2 ⟨rfl, t2⟩
  have T2 := Lib.hid t2
  have c0 := cell_of t2.r 0
  have hlt := lt_of_heap t2.r
  simp at c0
  clear t2 T1 HC HN1 HN2
  go_wp2_with fail
  have hP : PkAt w (W2.alloc (.cells #[.int .i64 2, .int .i64 frm, .int .i64 0, .int .i64 0, .int .i64 0, .int .i64 0, .string ⟨#[]⟩, .slice none 0 0] 66 (0, 0))) cur bad W2.heap.size (pkC 2 frm 0 0 0 0 ⟨#[]⟩ (.slice none 0 0)) :=
    ⟨⟨T2.out.below.alloc T2.out.below.size _, heap_alloc_old T2.out.z, heap_alloc_old T2.out.r⟩, hlt, heap_alloc_new _ _⟩
  have HP := Lib.hid hP
  clear hP T2 c0 hlt
  generalize W2.alloc (.cells #[.int .i64 2, .int .i64 frm, .int .i64 0, .int .i64 0, .int .i64 0, .int .i64 0, .string ⟨#[]⟩, .slice none 0 0] 66 (0, 0)) = W at *
  generalize W2.heap.size = g at *
  refine (rnum_weak w _ cur bad g _ 4 M (by decide) (by decide) hM HM.out HP.out).mono ?_
  rintro e W1 ⟨v1, cur1a, bad1a, rfl, hp, hm, -⟩
  have HM1 := Lib.hid hm
  have HP1 := Lib.hid hp
  clear hp hm HP HM
  have y3 := cell_of HP1.out.p 3
  simp [pkC, zeroP] at y3
  have f3 := frozen_of HP1.out.p 3
  go_upto_region 8 with fail
  have HP2 : Hid (PkAt w (W1.setCell ⟨g, 3, none⟩ (.int .i64 v1)) cur1a bad1a g (pkC 2 frm 0 v1 0 0 ⟨#[]⟩ (.slice none 0 0))) := Lib.hid (HP1.out.store 3 (.int .i64 v1))
  clear HP1 y3 f3
  generalize (W1.setCell ⟨g, 3, none⟩ (.int .i64 v1)) = W2 at *
  have y0 := cell_of HP2.out.p 0
  simp [pkC, zeroP] at y0
  go_wp2_with fail
  clear y0
  refine (rnum_weak w _ cur1a bad1a g _ 2 M (by decide) (by decide) hM HM1.out HP2.out).mono ?_
  rintro e W3 ⟨v3, cur3a, bad3a, rfl, hp, hm, -⟩
  have HM3 := Lib.hid hm
  have HP3 := Lib.hid hp
  clear hp hm HP2 HM1
  have y4 := cell_of HP3.out.p 4
  simp [pkC, zeroP] at y4
  have f4 := frozen_of HP3.out.p 4
  go_upto_region 12 with fail
  have HP4 : Hid (PkAt w (W3.setCell ⟨g, 4, none⟩ (.int .i64 v3)) cur3a bad3a g (pkC 2 frm 0 v1 v3 0 ⟨#[]⟩ (.slice none 0 0))) := Lib.hid (HP3.out.store 4 (.int .i64 v3))
  clear HP3 y4 f4
  generalize (W3.setCell ⟨g, 4, none⟩ (.int .i64 v3)) = W4 at *
  go_wp2_with fail
  refine (rtext_weak w _ cur3a bad3a g _ 224 M HM3.out HP4.out).mono ?_
  rintro e W5 ⟨x5, cur5a, bad5a, rfl, hp, hm, -, -⟩
  have HM5 := Lib.hid hm
  have HP5 := Lib.hid hp
  clear hp hm HP4 HM3
  have y6 := cell_of HP5.out.p 6
  simp [pkC, zeroP] at y6
  have f6 := frozen_of HP5.out.p 6
  go_upto_region 13 with fail
  have HP6 : Hid (PkAt w (W5.setCell ⟨g, 6, none⟩ (.string x5)) cur5a bad5a g (pkC 2 frm 0 v1 v3 0 x5 (.slice none 0 0))) := Lib.hid (HP5.out.store 6 (.string x5))
  clear HP5 y6 f6
  generalize (W5.setCell ⟨g, 6, none⟩ (.string x5)) = W6 at *
  go_wp2_with fail
  refine (rnum_weak w _ cur5a bad5a g _ 1 M (by decide) (by decide) hM HM5.out HP6.out).mono ?_
  rintro e W7 ⟨v7, cur7a, bad7a, rfl, hp, hm, hv⟩
  have HM7 := Lib.hid hm
  have HP7 := Lib.hid hp
  clear hp hm HP6 HM5
  have HP := HP7
  clear HP7
  generalize cur7a = cur at *
  generalize bad7a = bad at *
  have HM := HM7
  clear HM7
  go_wp2_with fail
  go_loopw [8] (fun u8 wr => ∃ (m : Nat) (cur : ByteArray) (bad : Bool) (a : Option Addr) (len cap : Nat) (ss : List ByteArray), u8 = .int .i64 m ∧ PkAt w wr cur bad g (pkC 2 frm 0 v1 v3 0 x5 (.slice a len cap)) ∧ wr.ownsRow w.heap.size 9 1 (.slice a len cap) ss.length (ss.map Value.string) ∧ cur.size ≤ M ∧ m + ss.length < 256) (fun u8 _ => (intOf u8).toNat)
  case atStart => exact ⟨v7, cur, bad, none, 0, 0, [], rfl, HP.out, World.ownsRow_nil _ _ _ _, HM.out, by simpa using hv⟩
  case round =>
    clear HP HM hv
    generalize v1 = idn at *
    generalize v3 = inn at *
    generalize cur = curx at *
    generalize bad = badx at *
    obtain ⟨m, cur, bad, a, len, cap, ss, rfl, hp, hown, hm, hmn⟩ := hrel
    have HP := Lib.hid hp
    have HM := Lib.hid hm
    have HO := Lib.hid hown
    have x1 := cell_of hp.rd.r 1
    have y7 := cell_of hp.p 7
    simp [pkC] at x1 y7
    clear hp hm hown
    by_cases hm0 : m = 0
    case pos =>
      subst hm0
      clear x1 y7
      obtain ⟨a', cap', he, -⟩ := SliceOf.strs HO.out
      injection he with he1 he2 he3
      subst he2
      clear he1 he3
      have y0 := cell_of HP.out.p 0
      have y1 := cell_of HP.out.p 1
      have y2 := cell_of HP.out.p 2
      have y3 := cell_of HP.out.p 3
      have y4 := cell_of HP.out.p 4
      have y5 := cell_of HP.out.p 5
      have y6 := cell_of HP.out.p 6
      have y7 := cell_of HP.out.p 7
      simp [pkC, zeroP] at y0 y1 y2 y3 y4 y5 y6 y7
      have x0 := cell_of HP.out.rd.r 0
      have x1 := cell_of HP.out.rd.r 1
      simp at x0 x1
      have hz0 := HP.out.rd.z
      have z0 := cell_of hz0 0
      have z1 := cell_of hz0 1
      have z2 := cell_of hz0 2
      have z3 := cell_of hz0 3
      have z4 := cell_of hz0 4
      have z5 := cell_of hz0 5
      have z6 := cell_of hz0 6
      have z7 := cell_of hz0 7
      simp [pkC, zeroP] at z0 z1 z2 z3 z4 z5 z6 z7
      have f0 := frozen_of hz0 0
      have f1 := frozen_of hz0 1
      have f2 := frozen_of hz0 2
      have f3 := frozen_of hz0 3
      have f4 := frozen_of hz0 4
      have f5 := frozen_of hz0 5
      have f6 := frozen_of hz0 6
      have f7 := frozen_of hz0 7
      clear hz0
      cases bad
      case true =>
        go_wp2_with fail
        have R := HP.out.rd.row (.int .i64 0) (.int .i64 0) (.int .i64 0) (.int .i64 0) (.int .i64 0) (.int .i64 0) (.string ⟨#[]⟩) (.slice none 0 0)
        refine bodyPost_ret (v := .tuple #[.agg zeroP, .int .i64 2]) ?r ?d ?fin
        case fin => exact ⟨⟨0, 0, 0, 0, 0, 0, ⟨#[]⟩, none, 0, 0, 2, rfl, .inl (by decide)⟩, R.1⟩
        case d => rfl
        case r => exact results_cell_val Tryz.results33 _ _ w.heap.size _ _ (0, 0) _ _ (by simp) (by simp) R.2 Tryz.underlying66 rfl (by kernel_rfl)
      case false =>
        by_cases hcur : cur = ⟨#[]⟩
        case neg =>
          have hcur' : (cur.toList == []) = false := by
            rw [beq_eq_false_iff_ne]
            intro h
            refine hcur (ByteArray.ext (Array.ext' ?_))
            rw [← ByteArray.toList_eq, h]
          clear hcur
          go_wp2_with fail
          have R := HP.out.rd.row (.int .i64 0) (.int .i64 0) (.int .i64 0) (.int .i64 0) (.int .i64 0) (.int .i64 0) (.string ⟨#[]⟩) (.slice none 0 0)
          refine bodyPost_ret (v := .tuple #[.agg zeroP, .int .i64 2]) ?r ?d ?fin
          case fin => exact ⟨⟨0, 0, 0, 0, 0, 0, ⟨#[]⟩, none, 0, 0, 2, rfl, .inl (by decide)⟩, R.1⟩
          case d => rfl
          case r => exact results_cell_val Tryz.results33 _ _ w.heap.size _ _ (0, 0) _ _ (by simp) (by simp) R.2 Tryz.underlying66 rfl (by kernel_rfl)
        subst hcur
        go_wp2_with fail
        refine (pcheck_any 2 frm 0 idn inn 0 x5 (.slice a ss.length cap) ss (by first | decide | omega) _ (SliceOf.strs HO.out) (by first | exact Nat.zero_le _ | omega)).mono ?_
        rintro e W5 ⟨⟨z, rfl⟩, hb5⟩
        have HP5 := Lib.hid (HP.out.after hb5)
        clear hb5 HP x0 x1 y0 y1 y2 y3 y4 y5 y6 y7 z0 z1 z2 z3 z4 z5 z6 z7 f0 f1 f2 f3 f4 f5 f6 f7
        have y0 := cell_of HP5.out.p 0
        have y1 := cell_of HP5.out.p 1
        have y2 := cell_of HP5.out.p 2
        have y3 := cell_of HP5.out.p 3
        have y4 := cell_of HP5.out.p 4
        have y5 := cell_of HP5.out.p 5
        have y6 := cell_of HP5.out.p 6
        have y7 := cell_of HP5.out.p 7
        simp [pkC, zeroP] at y0 y1 y2 y3 y4 y5 y6 y7
        have hz0 := HP5.out.rd.z
        have z0 := cell_of hz0 0
        have z1 := cell_of hz0 1
        have z2 := cell_of hz0 2
        have z3 := cell_of hz0 3
        have z4 := cell_of hz0 4
        have z5 := cell_of hz0 5
        have z6 := cell_of hz0 6
        have z7 := cell_of hz0 7
        simp [pkC, zeroP] at z0 z1 z2 z3 z4 z5 z6 z7
        have f0 := frozen_of hz0 0
        have f1 := frozen_of hz0 1
        have f2 := frozen_of hz0 2
        have f3 := frozen_of hz0 3
        have f4 := frozen_of hz0 4
        have f5 := frozen_of hz0 5
        have f6 := frozen_of hz0 6
        have f7 := frozen_of hz0 7
        clear hz0
        by_cases hz : z = 0
        case neg =>
          have hz' : (z == 0) = false := by simp [hz]
          clear hz
          go_wp2_with fail
          have R := HP5.out.rd.row (.int .i64 0) (.int .i64 0) (.int .i64 0) (.int .i64 0) (.int .i64 0) (.int .i64 0) (.string ⟨#[]⟩) (.slice none 0 0)
          refine bodyPost_ret (v := .tuple #[.agg zeroP, .int .i64 2]) ?r ?d ?fin
          case fin => exact ⟨⟨0, 0, 0, 0, 0, 0, ⟨#[]⟩, none, 0, 0, 2, rfl, .inl (by decide)⟩, R.1⟩
          case d => rfl
          case r => exact results_cell_val Tryz.results33 _ _ w.heap.size _ _ (0, 0) _ _ (by simp) (by simp) R.2 Tryz.underlying66 rfl (by kernel_rfl)
        subst hz
        go_wp2_with fail
        have R := HP5.out.rd.row (.int .i64 2) (.int .i64 frm) (.int .i64 0) (.int .i64 idn) (.int .i64 inn) (.int .i64 0) (.string x5) (.slice a ss.length cap)
        refine bodyPost_ret (v := .tuple #[.agg (pkC 2 frm 0 idn inn 0 x5 (.slice a ss.length cap)), .int .i64 0]) ?r ?d ?fin
        case fin => exact ⟨⟨_, _, _, _, _, _, _, a, ss.length, cap, 0, rfl, .inr (by first | decide | omega)⟩, R.1⟩
        case d => rfl
        case r => exact results_cell_val Tryz.results33 _ _ w.heap.size _ _ (0, 0) _ _ (by simp) (by simp) R.2 Tryz.underlying66 rfl (by kernel_rfl)
    case neg =>
      have hm1 : (0 : Int) < m := by omega
      cases bad
      case true =>
        clear x1 y7
        have y0 := cell_of HP.out.p 0
        have y1 := cell_of HP.out.p 1
        have y2 := cell_of HP.out.p 2
        have y3 := cell_of HP.out.p 3
        have y4 := cell_of HP.out.p 4
        have y5 := cell_of HP.out.p 5
        have y6 := cell_of HP.out.p 6
        have y7 := cell_of HP.out.p 7
        simp [pkC, zeroP] at y0 y1 y2 y3 y4 y5 y6 y7
        have x0 := cell_of HP.out.rd.r 0
        have x1 := cell_of HP.out.rd.r 1
        simp at x0 x1
        have hz0 := HP.out.rd.z
        have z0 := cell_of hz0 0
        have z1 := cell_of hz0 1
        have z2 := cell_of hz0 2
        have z3 := cell_of hz0 3
        have z4 := cell_of hz0 4
        have z5 := cell_of hz0 5
        have z6 := cell_of hz0 6
        have z7 := cell_of hz0 7
        simp [pkC, zeroP] at z0 z1 z2 z3 z4 z5 z6 z7
        have f0 := frozen_of hz0 0
        have f1 := frozen_of hz0 1
        have f2 := frozen_of hz0 2
        have f3 := frozen_of hz0 3
        have f4 := frozen_of hz0 4
        have f5 := frozen_of hz0 5
        have f6 := frozen_of hz0 6
        have f7 := frozen_of hz0 7
        clear hz0
        go_wp2_with fail
        have R := HP.out.rd.row (.int .i64 0) (.int .i64 0) (.int .i64 0) (.int .i64 0) (.int .i64 0) (.int .i64 0) (.string ⟨#[]⟩) (.slice none 0 0)
        refine bodyPost_ret (v := .tuple #[.agg zeroP, .int .i64 2]) ?r ?d ?fin
        case fin => exact ⟨⟨0, 0, 0, 0, 0, 0, ⟨#[]⟩, none, 0, 0, 2, rfl, .inl (by decide)⟩, R.1⟩
        case d => rfl
        case r => exact results_cell_val Tryz.results33 _ _ w.heap.size _ _ (0, 0) _ _ (by simp) (by simp) R.2 Tryz.underlying66 rfl (by kernel_rfl)
      case false =>
        go_upto_region 16 with fail
        obtain ⟨i0, hi0, hz0, hz1, hz2⟩ := info_parts info_str
        have hbase := HP.out.rd.below.size
        have hg := HP.out.lt
        have y7' := lt_of_heap HP.out.p
        have hnb := ownBlock_ne HO.out HP.out.rd.r (by decide)
        have hnp := ownBlock_ne HO.out HP.out.p (by decide)
        have hne : ¬ g = w.heap.size + 1 := by omega
        have hne' : ¬ w.heap.size + 1 = g := by omega
        go_region_law ((first
            | (refine step_append_lies _ (by rfl) _ _ _ (by rfl) w.heap.size 9 i0 _ 1 16 Tryz.underlying23 hi0 hz0 hz1 hz2 rfl (by decide) (.slice a len cap) ss.length (ss.map Value.string) (by rfl) ((ownsRow_setCell_ne (Same.owns (Same.drew _) HO.out) _ hnb _).alloc _) ⟨wr.heap.size, 0, none⟩ 1 1 [.string x] (by rfl) (by rfl) (World.news_of_block (cs := #[.string x]) (t := 9) (fr := (0, 0)) (heap_alloc_at (by simp) _)) (by simp [Value.oneCell']) (by decide) (by simp only [maxLen]; omega) (by omega) (by simp; omega) _ rfl ?_; intro gg cap2 w3 hown3 hgrow hat hlt3; have hz7 := (hgrow.frozen_far ⟨g, 7, none⟩ (by simp; omega) (Ne.symm hnp)).trans (frozen_of (heap_alloc_old hp2'.out.p) 7); have hc7 : w3.cell? ⟨g, 7, none⟩ = some (.slice a len cap) := (hgrow.cell_far ⟨g, 7, none⟩ (by simp; omega) (Ne.symm hnp)).trans (cell_of (heap_alloc_old hp2'.out.p) 7))
            | (go_simp; go_at_call 62; refine (rtext_weak w _ cur false g _ 32 M HM.out (HP.out.after ((Same.drew _).below _))).mono ?_; rintro e w2 ⟨x, cur2, bad2, rfl, hp2, hm2, -, j, u, rfl⟩; have hp2' := Lib.hid hp2; have hm2' := Lib.hid hm2; clear hp2 hm2)))
        all_goals
          have hown2 := ownsRow_setCell_ne HO.out ⟨w.heap.size + 1, j, none⟩ hnb u
          have hp3 := hp2'.out.grown hown2 hgrow
          have hp4 := hp3.store 7 (.slice (some ⟨gg, 0, none⟩) (ss.length + 1) cap2)
          have hown4 := ownsRow_setCell_ne hown3 ⟨g, 7, none⟩ (ownBlock_ne hown3 hp3.p (by decide)) (.slice (some ⟨gg, 0, none⟩) (ss.length + 1) cap2)
          have HP4 := Lib.hid hp4
          have HO4 := Lib.hid hown4
          clear hp3 hp4 hown2 hown4 hown3 hgrow hat hlt3 hz7 hnb hnp HO HP
          go_wp2
          go_roundw
          case rel => exact ⟨m - 1, cur2, bad2, some ⟨gg, 0, none⟩, ss.length + 1, cap2, ss ++ [x], by go_num, HP4.out, by simpa using HO4.out, hm2'.out, by simp; omega⟩
          case measure => simp [intOf]; omega
end Go.Proofs.YtpmgackgcefalaaGreat
namespace Go.Proofs.YtpmgackgcefalaaGreat
open Go.RowKit
def offerOk (s : ByteArray) : Prop := isSLP s = true ∧ 9 ≤ s.size ∧ rdNum (s.extract 4 s.size) 1 = 1
theorem ptake_other (s : ByteArray) (h : ¬ offerOk s) (hsz : s.size ≤ 140737488355327) (w : World) :
    Calls Tryz.prog 33 #[.string s] w fun e w' => NotOffer e ∧ Below w.heap.size w w' := by
  obtain ⟨K, hK⟩ : ∃ K, rdNum (cutSLP s) 1 = K := ⟨_, rfl⟩
  by_cases h1 : K = 1
  · subst h1
    refine ptake_one s hK ?_ hsz w
    cases hm : isSLP s with
    | false => 
      have : ∀ (c : ByteArray) (k : Nat), rdBad c true k = true := fun c k => by unfold rdBad; split <;> rfl
      simp [this]
    | true =>
      have e : cutSLP s = s.extract 4 s.size := by simp [cutSLP, hm]
      rw [e] at hK ⊢
      have h9 : ¬ 9 ≤ s.size := fun h9 => h ⟨hm, h9, hK⟩
      have h4 : (s.extract 4 s.size).size = s.size - 4 := by simp
      by_cases h5 : 1 ≤ (s.extract 4 s.size).size
      · have h6 : ¬ 4 ≤ (rdCur (s.extract 4 s.size) 1).size := by
          unfold rdCur
          rw [if_pos h5]
          simp
          omega
        unfold rdBad
        rw [if_neg h6]
      · unfold rdNum at hK
        rw [if_neg h5] at hK
        exact absurd hK (by decide)
  by_cases h2 : K = 2
  · subst h2; exact ptake_two s hK hsz w
  by_cases h3 : K = 3
  · subst h3; exact ptake_three s hK hsz w
  by_cases h4 : K = 4
  · subst h4; exact ptake_four s hK hsz w
  exact ptake_none s K h1 h2 h3 h4 hK hsz w
instance (s : ByteArray) : Decidable (offerOk s) := by unfold offerOk; exact inferInstance
def offeredH (s : ByteArray) : Option Header := if offerOk s ∧ numOk (offerFrom s) 1 = true ∧ htakeErr (s.extract 9 s.size) = 0 then some (headOf (s.extract 9 s.size)) else none
def optHead : Option Header → Value
  | some h => .tuple #[h.val, .bool true]
  | none => .tuple #[.agg zeroH, .bool false]
theorem htake_ok {t : ByteArray} (h : htakeErr t = 0) : .agg (htakeHead t) = (headOf t).val := by
  unfold htakeErr at h
  split at h
  · rename_i hc
    unfold htakeHead
    rw [if_pos hc]
    rfl
  · exact absurd h (by decide)
theorem row7 {w W : World} {g : Nat} {C : Array Value} {T : TypeId} (hB : w.heap.size ≤ g) (hb : Below w.heap.size w W) (hz : W.heap[g]? = some (.cells C T (0, 0))) (hC : C.size = 7) (v0 v1 v2 v3 v4 v5 v6 : Value) :
    Below w.heap.size w (((((((W.setCell ⟨g, 0, none⟩ v0).setCell ⟨g, 1, none⟩ v1).setCell ⟨g, 2, none⟩ v2).setCell ⟨g, 3, none⟩ v3).setCell ⟨g, 4, none⟩ v4).setCell ⟨g, 5, none⟩ v5).setCell ⟨g, 6, none⟩ v6) ∧
    (((((((W.setCell ⟨g, 0, none⟩ v0).setCell ⟨g, 1, none⟩ v1).setCell ⟨g, 2, none⟩ v2).setCell ⟨g, 3, none⟩ v3).setCell ⟨g, 4, none⟩ v4).setCell ⟨g, 5, none⟩ v5).setCell ⟨g, 6, none⟩ v6).heap[g]? = some (.cells #[v0, v1, v2, v3, v4, v5, v6] T (0, 0)) := by
  have h1 := below_rowSet hB [v0, v1, v2, v3, v4, v5, v6] 0 _ hb
  have h2 := heap_rowSet hz [v0, v1, v2, v3, v4, v5, v6] (by simpa using hC)
  simp only [rowSet, Nat.zero_add, Nat.reduceAdd] at h1 h2
  exact ⟨h1, h2⟩
structure OfAt (w W : World) : Prop where
  below : Below w.heap.size w W
  z : W.heap[w.heap.size]? = some (.cells zeroH 30 (0, 0))
theorem OfAt.start (w : World) : OfAt w (w.alloc (.cells zeroH 30 (0, 0))) := ⟨(Below.refl _ _).alloc (Nat.le_refl _) _, heap_alloc_new _ _⟩
theorem OfAt.after {w W w1 : World} (t : OfAt w W) (hb : Below W.heap.size W w1) : OfAt w w1 := ⟨t.below.trans (hb.mono t.below.size), heap_below t.z hb⟩
theorem OfAt.alloc {w W : World} (t : OfAt w W) (o : Obj) : OfAt w (W.alloc o) := ⟨t.below.alloc t.below.size _, heap_alloc_old t.z⟩
set_option maxRecDepth 100000 in
set_option maxHeartbeats 4000000 in
theorem offered_none (s : ByteArray) (h : ¬ offerOk s) (hsz : s.size ≤ 140737488355327) (w : World) :
    Calls Tryz.prog 14 #[.string s] w fun e w' => e = .returned (optHead none) ∧ Below w.heap.size w w' := by
  have HT := Lib.hid (fun W => ptake_other s h hsz W)
  have HO := Lib.hid (OfAt.start w)
  clear h hsz
  simp only [optHead, zeroH]
  simp only [zeroH] at HO
  go_enter Tryz.func14, Tryz.ntmps14
  go_wp2_with fail
  refine (HT.out _).mono ?_
  rintro e w1 ⟨⟨kind, frm, seq, id, i, n, text, a, len, cap, z, rfl, hk⟩, hb⟩
  have HO1 := Lib.hid ((HO.out.after hb).alloc (.cells (pkC kind frm seq id i n text (.slice a len cap)) 66 (0, 0)))
  clear hb HO HT
  simp only [pkC]
  simp only [pkC] at HO1
  by_cases hz : z = 0
  · have hk' : (kind == 1) = false := by rcases hk with h | h <;> simp_all
    have hk2 : (kind != 1) = true := by simp [bne, hk']
    subst hz
    clear hk
    go_upto_region 3 with fail
    generalize w1.alloc (.cells #[.int .i64 kind, .int .i64 frm, .int .i64 seq, .int .i64 id, .int .i64 i, .int .i64 n, .string text, .slice a len cap] 66 (0, 0)) = W at *
    have hz0 := HO1.out.z
    have x0 := cell_of hz0 0
    have x1 := cell_of hz0 1
    have x2 := cell_of hz0 2
    have x3 := cell_of hz0 3
    have x4 := cell_of hz0 4
    have x5 := cell_of hz0 5
    have x6 := cell_of hz0 6
    have f0 := frozen_of hz0 0
    have f1 := frozen_of hz0 1
    have f2 := frozen_of hz0 2
    have f3 := frozen_of hz0 3
    have f4 := frozen_of hz0 4
    have f5 := frozen_of hz0 5
    have f6 := frozen_of hz0 6
    simp [zeroH] at x0 x1 x2 x3 x4 x5 x6
    clear hz0
    go_wp2_with fail
    have R := row7 (Nat.le_refl _) HO1.out.below HO1.out.z rfl (.int .i64 0) (.string ⟨#[]⟩) (.int .i64 0) (.int .i64 0) (.int .i64 0) (.string ⟨#[]⟩) (.string ⟨#[]⟩)
    refine bodyPost_ret (v := .tuple #[.agg #[.int .i64 0, .string ⟨#[]⟩, .int .i64 0, .int .i64 0, .int .i64 0, .string ⟨#[]⟩, .string ⟨#[]⟩], .bool false]) ?r ?d ?fin
    case fin => exact ⟨rfl, R.1⟩
    case d => rfl
    case r => exact results_cell_val Tryz.results14 _ _ w.heap.size _ _ (0, 0) _ _ (by simp) (by simp) R.2 Tryz.underlying30 rfl (by kernel_rfl)
  · have hz' : (z == 0) = false := by simp [hz]
    clear hk hz
    go_upto_region 3 with fail
    generalize w1.alloc (.cells #[.int .i64 kind, .int .i64 frm, .int .i64 seq, .int .i64 id, .int .i64 i, .int .i64 n, .string text, .slice a len cap] 66 (0, 0)) = W at *
    have hz0 := HO1.out.z
    have x0 := cell_of hz0 0
    have x1 := cell_of hz0 1
    have x2 := cell_of hz0 2
    have x3 := cell_of hz0 3
    have x4 := cell_of hz0 4
    have x5 := cell_of hz0 5
    have x6 := cell_of hz0 6
    have f0 := frozen_of hz0 0
    have f1 := frozen_of hz0 1
    have f2 := frozen_of hz0 2
    have f3 := frozen_of hz0 3
    have f4 := frozen_of hz0 4
    have f5 := frozen_of hz0 5
    have f6 := frozen_of hz0 6
    simp [zeroH] at x0 x1 x2 x3 x4 x5 x6
    clear hz0
    go_wp2_with fail
    have R := row7 (Nat.le_refl _) HO1.out.below HO1.out.z rfl (.int .i64 0) (.string ⟨#[]⟩) (.int .i64 0) (.int .i64 0) (.int .i64 0) (.string ⟨#[]⟩) (.string ⟨#[]⟩)
    refine bodyPost_ret (v := .tuple #[.agg #[.int .i64 0, .string ⟨#[]⟩, .int .i64 0, .int .i64 0, .int .i64 0, .string ⟨#[]⟩, .string ⟨#[]⟩], .bool false]) ?r ?d ?fin
    case fin => exact ⟨rfl, R.1⟩
    case d => rfl
    case r => exact results_cell_val Tryz.results14 _ _ w.heap.size _ _ (0, 0) _ _ (by simp) (by simp) R.2 Tryz.underlying30 rfl (by kernel_rfl)
set_option maxRecDepth 100000 in
set_option maxHeartbeats 4000000 in
theorem offered_bad (s : ByteArray) (h : offerOk s) (he : offerErr (offerFrom s) (s.extract 9 s.size) = 1) (hsz : s.size ≤ 140737488355327) (w : World) :
    Calls Tryz.prog 14 #[.string s] w fun e w' => e = .returned (optHead none) ∧ Below w.heap.size w w' := by
  have HT := Lib.hid (fun W => ptake_offer s h.1 h.2.1 h.2.2 hsz W)
  have HO := Lib.hid (OfAt.start w)
  unfold offerV at HT
  rw [if_neg (by rw [he]; decide)] at HT
  clear h hsz he
  simp only [optHead, zeroH]
  simp only [zeroH] at HO
  simp only [zeroP, pkC] at HT
  go_enter Tryz.func14, Tryz.ntmps14
  go_wp2_with fail
  refine (HT.out _).mono ?_
  rintro e w1 ⟨rfl, hb⟩
  have HO1 := Lib.hid ((HO.out.after hb).alloc (.cells #[.int .i64 0, .int .i64 0, .int .i64 0, .int .i64 0, .int .i64 0, .int .i64 0, .string ⟨#[]⟩, .slice none 0 0] 66 (0, 0)))
  clear hb HO HT
  go_upto_region 3 with fail
  generalize w1.alloc (.cells #[.int .i64 0, .int .i64 0, .int .i64 0, .int .i64 0, .int .i64 0, .int .i64 0, .string ⟨#[]⟩, .slice none 0 0] 66 (0, 0)) = W at *
  have hz0 := HO1.out.z
  have x0 := cell_of hz0 0
  have x1 := cell_of hz0 1
  have x2 := cell_of hz0 2
  have x3 := cell_of hz0 3
  have x4 := cell_of hz0 4
  have x5 := cell_of hz0 5
  have x6 := cell_of hz0 6
  have f0 := frozen_of hz0 0
  have f1 := frozen_of hz0 1
  have f2 := frozen_of hz0 2
  have f3 := frozen_of hz0 3
  have f4 := frozen_of hz0 4
  have f5 := frozen_of hz0 5
  have f6 := frozen_of hz0 6
  simp [zeroH] at x0 x1 x2 x3 x4 x5 x6
  clear hz0
  go_wp2_with fail
  have R := row7 (Nat.le_refl _) HO1.out.below HO1.out.z rfl (.int .i64 0) (.string ⟨#[]⟩) (.int .i64 0) (.int .i64 0) (.int .i64 0) (.string ⟨#[]⟩) (.string ⟨#[]⟩)
  refine bodyPost_ret (v := .tuple #[.agg #[.int .i64 0, .string ⟨#[]⟩, .int .i64 0, .int .i64 0, .int .i64 0, .string ⟨#[]⟩, .string ⟨#[]⟩], .bool false]) ?r ?d ?fin
  case fin => exact ⟨rfl, R.1⟩
  case d => rfl
  case r => exact results_cell_val Tryz.results14 _ _ w.heap.size _ _ (0, 0) _ _ (by simp) (by simp) R.2 Tryz.underlying30 rfl (by kernel_rfl)
set_option maxRecDepth 100000 in
set_option maxHeartbeats 4000000 in
theorem offered_good (s : ByteArray) (h : offerOk s) (he : offerErr (offerFrom s) (s.extract 9 s.size) = 0) (ht : htakeErr (s.extract 9 s.size) = 0) (hsz : s.size ≤ 140737488355327) (w : World) :
    Calls Tryz.prog 14 #[.string s] w fun e w' => e = .returned (optHead (some (headOf (s.extract 9 s.size)))) ∧ Below w.heap.size w w' := by
  have HT := Lib.hid (fun W => ptake_offer s h.1 h.2.1 h.2.2 hsz W)
  have HO := Lib.hid (OfAt.start w)
  unfold offerV at HT
  rw [if_pos he] at HT
  generalize offerFrom s = frm at *
  have hh := htake_ok ht
  generalize s.extract 9 s.size = tx at *
  have HH := Lib.hid (fun W => htake_any tx W)
  rw [htakeAny_eq, ht, hh] at HH
  clear h hsz he hh ht
  generalize headOf tx = hd at *
  simp only [optHead]
  simp only [Header.val] at HH ⊢
  simp only [zeroH] at HO
  simp only [pkC] at HT
  go_enter Tryz.func14, Tryz.ntmps14
  go_wp2_with fail
  refine (HT.out _).mono ?_
  rintro e w1 ⟨rfl, hb⟩
  have HO1 := Lib.hid ((HO.out.after hb).alloc (.cells #[.int .i64 1, .int .i64 frm, .int .i64 0, .int .i64 0, .int .i64 0, .int .i64 0, .string tx, .slice none 0 0] 66 (0, 0)))
  clear hb HO HT
  go_wp2_with fail
  refine (HH.out _).mono ?_
  rintro e w2 ⟨rfl, hb⟩
  have HO2 := Lib.hid ((HO1.out.after hb).alloc (.cells #[.int .i64 hd.id, .string hd.salt, .int .i64 hd.n, .int .i64 hd.bytes, .int .i64 hd.raw, .string hd.root, .string hd.tag] 30 (0, 0)))
  have hz0 := HO2.out.z
  have x0 := cell_of hz0 0
  have x1 := cell_of hz0 1
  have x2 := cell_of hz0 2
  have x3 := cell_of hz0 3
  have x4 := cell_of hz0 4
  have x5 := cell_of hz0 5
  have x6 := cell_of hz0 6
  have f0 := frozen_of hz0 0
  have f1 := frozen_of hz0 1
  have f2 := frozen_of hz0 2
  have f3 := frozen_of hz0 3
  have f4 := frozen_of hz0 4
  have f5 := frozen_of hz0 5
  have f6 := frozen_of hz0 6
  simp [zeroH] at x0 x1 x2 x3 x4 x5 x6
  clear hz0 hb HO1 HH
  go_wp2_with fail
  have R := row7 (Nat.le_refl _) HO2.out.below HO2.out.z rfl (.int .i64 hd.id) (.string hd.salt) (.int .i64 hd.n) (.int .i64 hd.bytes) (.int .i64 hd.raw) (.string hd.root) (.string hd.tag)
  refine bodyPost_ret (v := .tuple #[.agg #[.int .i64 hd.id, .string hd.salt, .int .i64 hd.n, .int .i64 hd.bytes, .int .i64 hd.raw, .string hd.root, .string hd.tag], .bool true]) ?r ?d ?fin
  case fin => exact ⟨rfl, R.1⟩
  case d => rfl
  case r => exact results_cell_val Tryz.results14 _ _ w.heap.size _ _ (0, 0) _ _ (by simp) (by simp) R.2 Tryz.underlying30 rfl (by kernel_rfl)
theorem offered_any (s : ByteArray) (hsz : s.size ≤ 140737488355327) (w : World) :
    Calls Tryz.prog 14 #[.string s] w fun e w' => e = .returned (optHead (offeredH s)) ∧ Below w.heap.size w w' := by
  unfold offeredH
  by_cases h : offerOk s
  · by_cases hn : numOk (offerFrom s) 1 = true ∧ htakeErr (s.extract 9 s.size) = 0
    · rw [if_pos ⟨h, hn⟩]
      exact offered_good s h (by unfold offerErr; rw [if_pos hn]) hn.2 hsz w
    · rw [if_neg (fun x => hn x.2)]
      exact offered_bad s h (by unfold offerErr; rw [if_neg hn]) hsz w
  · rw [if_neg (fun x => h x.1)]
    exact offered_none s h hsz w
end Go.Proofs.YtpmgackgcefalaaGreat
namespace Go.Proofs.YtpmgackgcefalaaGreat
open Go.RowKit
theorem fixed_front (n : Int) : ∀ k : Nat, Sha.fixed n (k + 1) = UInt8.ofNat (n / 256 ^ k % 256).toNat :: Sha.fixed n k := by
  intro k
  induction k generalizing n with
  | zero => simp [Sha.fixed]
  | succ k ih =>
    rw [Sha.fixed, ih (n / 256), Sha.fixed]
    rw [show n / 256 / 256 ^ k = n / 256 ^ (k + 1) by rw [Int.ediv_ediv_of_nonneg (by decide), Int.pow_succ, Int.mul_comm]]
    rfl
set_option maxRecDepth 100000 in
theorem one_byte (b : UInt8) (w : World) :
    Calls Tryz.prog 105 #[.int .i64 b.toNat] w fun e w' => e = .returned (.string (str [b])) ∧ Below w.heap.size w w' := by
  have hl := b.toNat_lt
  have n0 : (0 : Int) ≤ b.toNat := by omega
  have n1 : (b.toNat : Int) < 256 := by omega
  obtain ⟨V, hV⟩ : ∃ V, V = str [b] := ⟨_, rfl⟩
  rw [← hV]
  have hcv := run_convert_bytes_back (P := Tryz.prog) (w.alloc (.cells #[.int .u8 b.toNat] 5 (0, 0))) 99 9 5 ⟨w.heap.size, 0, none⟩ 1 [b] Tryz.underlying99 Tryz.underlying5 Tryz.underlying9 (fun j hj => by
    have : j = 0 := by simp at hj; omega
    subst this
    rw [show (⟨w.heap.size, 0, none⟩ : Addr).add 0 = ⟨w.heap.size, 0, none⟩ from rfl, cell_of (heap_alloc_new _ _)]
    simp [byteV])
  rw [show (⟨[b].toArray⟩ : ByteArray) = V from hV.symm] at hcv
  simp only [List.length_singleton] at hcv
  have HV := Lib.hid hV
  clear hV
  have hB := Lib.hid ((Below.refl w.heap.size w).alloc (Nat.le_refl _) (.cells #[.int .u8 b.toNat] 5 (0, 0)))
  generalize b.toNat = m at *
  have HCV := Lib.hid hcv
  clear hcv
  go_enter Tryz.func105, Tryz.ntmps105
  go_wp2_with fail
  rw [HCV.out]
  go_wp2_with fail
  go_ret
  exact ⟨rfl, hB.out⟩
theorem one_any (n : Nat) (hn : n < 256) (w : World) :
    Calls Tryz.prog 105 #[.int .i64 n] w fun e w' => e = .returned (.string (str [UInt8.ofNat n])) ∧ Below w.heap.size w w' := by
  have := one_byte (UInt8.ofNat n) w
  rw [show (UInt8.ofNat n).toNat = n by simp; omega] at this
  exact this
theorem bits_low (n : Nat) (hn : n < 4611686018427387904) : bits .and .i64 (n : Int) 255 = ((n % 256 : Nat) : Int) := by
  have := i64_and_nat n 255 (by omega) (by omega)
  rw [show n &&& 255 = n % 256 from Nat.and_two_pow_sub_one_eq_mod n 8] at this
  exact this
set_option maxRecDepth 100000 in
set_option maxHeartbeats 1000000 in
theorem bytes_any (n k : Nat) (hn : n < 4611686018427387904) (hk : k ≤ 8) (w : World) :
    Calls Tryz.prog 90 #[.int .i64 n, .int .i64 k] w fun e w' => e = .returned (.string (str (Sha.fixed n k))) ∧ Below w.heap.size w w' := by
  go_enter Tryz.func90, Tryz.ntmps90
  go_wp2_with fail
  go_loopw [0, 5, 6] (fun u0 v i wr => ∃ t : Nat, t ≤ k ∧ i = .int .i64 t ∧ u0 = .int .i64 (n / 256 ^ t : Nat) ∧ v = .string (str (Sha.fixed n t)) ∧ Below w.heap.size w wr) (fun _ _ i _ => k - (intOf i).toNat)
  case atStart => exact ⟨0, Nat.zero_le _, rfl, by simp, rfl, Below.refl _ _⟩
  case round =>
    obtain ⟨t, ht, rfl, rfl, rfl, hb⟩ := hrel
    have HB := Lib.hid hb
    clear hb
    by_cases hlt : t < k
    · have hlt' : (t : Int) < k := by omega
      have hm := Nat.div_le_self n (256 ^ t)
      have hnext : Hid (n / 256 ^ t / 256 = n / 256 ^ (t + 1)) := Lib.hid (by rw [Nat.div_div_eq_div_mul, Nat.pow_succ])
      have hfr : Hid (str [UInt8.ofNat (n / 256 ^ t % 256)] ++ str (Sha.fixed n t) = str (Sha.fixed n (t + 1))) := Lib.hid (by
        rw [fixed_front]
        rw [show ((n : Int) / 256 ^ t % 256).toNat = n / 256 ^ t % 256 by
          have : ((n : Int) / 256 ^ t % 256) = ((n / 256 ^ t % 256 : Nat) : Int) := by push_cast; rfl
          rw [this, Int.toNat_natCast]]
        rfl)
      have q : (str (Sha.fixed n t)).size = t := by rw [str_size, Sha.fixed_length]
      generalize n / 256 ^ t = m at *
      have hbl := bits_low m (by omega)
      have hm0 : (0 : Int) ≤ m := by omega
      generalize str (Sha.fixed n t) = b at *
      go_wp2_with fail
      refine (one_any (m % 256) (by omega) _).mono ?_
      rintro e w1 ⟨rfl, hb1⟩
      have HB1 := Lib.hid (HB.out.trans (hb1.mono HB.out.size))
      have qa : (str [UInt8.ofNat (m % 256)]).size = 1 := rfl
      clear hb1 HB hbl
      generalize str [UInt8.ofNat (m % 256)] = a at *
      have qs : ¬ 9223372036854775807 < 1 + t := by omega
      go_wp2_with fail
      go_roundw
      case rel => exact ⟨t + 1, by omega, by go_num, by rw [← hnext.out]; simp, by rw [← hfr.out], HB1.out⟩
      case measure => simp [intOf]; omega
    · have et : t = k := by omega
      subst et
      go_wp2_with fail
      go_ret
      exact ⟨rfl, HB.out⟩
theorem rfixed_any (n k : Nat) (hn : n < 4611686018427387904) (hk : k ≤ 8) (w : World) :
    Calls Tryz.prog 59 #[.int .i64 n, .int .i64 k] w fun e w' => e = .returned (.string (str (Sha.fixed n k))) ∧ Below w.heap.size w w' := by
  have k0 : ¬ (k : Int) < 0 := by omega
  have k8 : ¬ (8 : Int) < k := by omega
  go_enter Tryz.func59, Tryz.ntmps59
  go_wp2_with fail
  refine (bytes_any n k hn hk _).mono ?_
  rintro e w1 ⟨rfl, hb1⟩
  have HB1 := Lib.hid hb1
  clear hb1
  go_wp2_with fail
  go_ret
  exact ⟨rfl, HB1.out⟩
theorem number_any (s : ByteArray) (hs : s.size ≤ 6) (w : World) :
    Calls Tryz.prog 95 #[.string s] w fun e w' => e = .returned (.int .i64 (Sha.num s.data.toList : Nat)) ∧ w' = w := by
  go_enter Tryz.func95, Tryz.ntmps95
  go_wp2_with fail
  go_loopw [3, 4] (fun v i wr => ∃ t : Nat, t ≤ s.size ∧ i = .int .i64 t ∧ v = .int .i64 (Sha.num (s.data.toList.take t) : Nat) ∧ wr = w) (fun _ i _ => s.size - (intOf i).toNat)
  case atStart => exact ⟨0, Nat.zero_le _, rfl, rfl, rfl⟩
  case round =>
    obtain ⟨t, ht, rfl, rfl, rfl⟩ := hrel
    by_cases hlt : t < s.size
    · have hlt' : (t : Int) < s.size := by omega
      have hN' : Sha.num (s.data.toList.take t) < 1099511627776 := by
        refine Nat.lt_of_lt_of_le (Sha.num_lt _) ?_
        have : (s.data.toList.take t).length ≤ 5 := by simp; omega
        exact Nat.le_trans (Nat.pow_le_pow_right (by decide) this) (by decide)
      have hnum : Hid (Sha.num (s.data.toList.take (t + 1)) = Sha.num (s.data.toList.take t) * 256 + s[t].toNat) := by
        have ht' : t < s.data.toList.length := by rw [Array.length_toList]; exact hlt
        rw [List.take_succ_eq_append_getElem ht', Sha.num_snoc]
        exact rfl
      have hB := s[t].toNat_lt
      generalize Sha.num (s.data.toList.take t) = N at *
      have hB' : (s[t].toNat : Int) < 256 := by omega
      have hB0 : (0 : Int) ≤ s[t].toNat := by omega
      go_wp2_with fail
      go_roundw
      case rel => exact ⟨t + 1, by omega, by go_num, by rw [hnum.out]; simp, by simp⟩
      case measure => simp [intOf]; omega
    · have et : t = s.size := by omega
      subst et
      rw [show s.data.toList.take s.size = s.data.toList from List.take_of_length_le (by rw [Array.length_toList]; exact Nat.le_refl _)]
      go_wp2_with fail
      go_ret
      exact ⟨rfl, rfl⟩
theorem num_take (s : ByteArray) (k : Nat) (h : k ≤ s.size) : (s.extract 0 k).data.toList = s.data.toList.take k := by
  rw [ByteArray.data_extract, Array.toList_extract]
  simp
set_option maxRecDepth 100000 in
theorem rtake_any (s : ByteArray) (k : Nat) (hk1 : 1 ≤ k) (hk : k ≤ 6) (hs : k ≤ s.size) (w : World) :
    Calls Tryz.prog 70 #[.string s, .int .i64 k] w fun e w' => e = .returned (.tuple #[.int .i64 (Sha.num (s.data.toList.take k) : Nat), .string (s.extract k s.size), .int .i64 0]) ∧ Below w.heap.size w w' := by
  have k1 : ¬ (k : Int) < 1 := by omega
  have k2 : ¬ (8 : Int) < k := by omega
  have k3 : ¬ (s.size : Int) < k := by omega
  have k4 : (k : Int) ≤ s.size := by omega
  have k0 : (0 : Int) ≤ k := by omega
  have hn := number_any (s.extract 0 k) (by simp; omega)
  rw [num_take s k hs] at hn
  go_enter Tryz.func70, Tryz.ntmps70
  go_wp2_with fail
  go_quiet ((go_at_call 95; exact Calls.quiet_of_same (hn _)))
  have HB := Lib.hid ((Same.drewN w nq).below w.heap.size)
  generalize w.drewN nq = w1 at *
  go_wp2_with fail
  go_ret3
  exact ⟨rfl, HB.out⟩
end Go.Proofs.YtpmgackgcefalaaGreat
