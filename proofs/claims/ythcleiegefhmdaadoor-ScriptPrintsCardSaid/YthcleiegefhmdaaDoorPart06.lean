/-
  The abstract machine walked with unknowns: loops over some slots, memory that grows, facts of the program's types.
  Data that came in, read off the abstract memory; and slices there as the contracts of worlds want them.
  Walks over any memory with local blocks: what the steps come to.
  Walks in a memory that is written: no base that stays; what is known are blocks by number.
-/
import Derived.Test.YthcleiegefhmdaaDoorPart05
set_option linter.unusedSimpArgs false
set_option linter.unusedVariables false
set_option linter.unusedSectionVars false
set_option linter.unnecessarySimpa false
set_option linter.defProp false
namespace Go.Proofs.YthcleiegefhmdaaDoor.Abs
open Go Go.RowKit
def AL.keep (f : AL) : List Nat → AL
  | [] => []
  | t :: r => match AL.get f t with
    | some v => (t, v) :: AL.keep f r
    | none => AL.keep f r
theorem AL.keep_cons (f : AL) (t : Nat) (r : List Nat) (v : Value) (h : AL.get f t = some v) : AL.keep f (t :: r) = (t, v) :: AL.keep f r := by
  unfold AL.keep
  rw [h]
  cases r <;> rfl
section
variable {P : Program} {n : Nat} {Q : Exit → AL → Mem → Prop} {f : AL} {m : Mem}
end
def Grows (m m' : Mem) : Prop := m.size ≤ m'.size ∧ ∀ b x, m.get b = some x → m'.get b = some x
theorem Grows.refl (m : Mem) : Grows m m := ⟨Nat.le_refl _, fun _ _ h => h⟩
theorem Grows.trans {m m' m'' : Mem} (h : Grows m m') (k : Grows m' m'') : Grows m m'' := ⟨Nat.le_trans h.1 k.1, fun b x hb => k.2 b x (h.2 b x hb)⟩
theorem Grows.push {m m' : Mem} (h : Grows m m') (x : Blk) : Grows m (m'.push x) :=
  ⟨by simp only [Mem.size_push]; have := h.1; omega, fun b y hb => by
    have h1 := h.2 b y hb
    rw [Mem.get_push_old (Mem.get_lt h1)]; exact h1⟩
theorem Grows.set {m m' : Mem} (h : Grows m m') {g : Nat} (hg : m.size ≤ g) (o : Option Blk) : Grows m (m'.set g o) :=
  ⟨by simp only [Mem.size_set]; exact h.1, fun b y hb => by
    have := Mem.get_lt hb
    rw [Mem.get_set_ne (by omega)]; exact h.2 b y hb⟩
theorem hmix : Tryd.prog.follows .mixedOrders = true := by kernel_rfl
theorem inf_int : Tryd.prog.info? 3 = some Tryd.t3 := by kernel_rfl
theorem inf_u8 : Tryd.prog.info? 5 = some Tryd.t5 := by kernel_rfl
theorem inf_str : Tryd.prog.info? 9 = some Tryd.t9 := by kernel_rfl
theorem int_size : Tryd.t3.size = 1 := rfl
theorem int_zero : Tryd.t3.zero = some (.int .i64 0) := rfl
theorem u8_size : Tryd.t5.size = 1 := rfl
theorem u8_bytes : Tryd.t5.bytes = 1 := rfl
theorem u8_zero : Tryd.t5.zero = some (.int .u8 0) := rfl
theorem str_size : Tryd.t9.size = 1 := rfl
theorem row_int (k : IntKind) : (TypeDesc.int k).isRow = false := rfl
theorem row_str : TypeDesc.string.isRow = false := rfl
theorem new_one {P : Program} {t e : TypeId} {i : TypeInfo} {z : Value} (hu : P.underlying t = some (.slice e)) (hi : P.info? e = some i) (hz : i.zero = some z) (hs : i.size = 1) (hf : flat 3 z = true) (hzc : z.cells.toList = [z]) (hz1 : oneAll [z] = true)
    (v : Value) (hv : v.cells.toList = [v]) (h1 : oneAll [v] = true) : nBuildSlice P t 1 [(0, v)] = some (.cells false 1 [v]) := by
  unfold nBuildSlice
  simp only [hu, hi, hz, hs, hf, hzc, hz1, hv, h1]
  simp [aFill, aZeros, hv, setL, h1]
theorem app_one {P : Program} {t e : TypeId} {i : TypeInfo} {z : Value} (hu : P.underlying t = some (.slice e)) (hi : P.info? e = some i) (hz : i.zero = some z) (hs : i.size = 1) (hzc : z.cells.toList.length = 1)
    (m : Mem) (v : Value) {g n : Nat} {xs : List Value} (hg : m.get g = some (.cells false 1 xs)) (hn : n = xs.length) (hb : (n + 1) * i.bytes ≤ 140737488355328) (hb2 : n + 1 ≤ 140737488355328) :
    aAppend P (m.push (.cells false 1 [v])) t t (.slice (some ⟨g, 0, none⟩) n n) (.slice (some ⟨m.size, 0, none⟩) 1 1) =
      some (.slice (some ⟨m.size + 1, 0, none⟩) (n + 1) (n + 1), ((m.push (.cells false 1 [v])).set g none).push (.cells false 1 (xs ++ [v]))) := by
  subst hn
  have h1 : (m.push (.cells false 1 [v])).get g = some (.cells false 1 xs) := by rw [Mem.get_push_old (Mem.get_lt hg)]; exact hg
  unfold aAppend aSrc
  simp only [hu, hi, hz, hs, hzc, if_true, Mem.get_push_new, h1]
  simp [hb, hb2]
theorem app_nil {P : Program} {t e : TypeId} {i : TypeInfo} {z : Value} (hu : P.underlying t = some (.slice e)) (hi : P.info? e = some i) (hz : i.zero = some z) (hs : i.size = 1) (hzc : z.cells.toList.length = 1)
    (m : Mem) (v : Value) (hb : i.bytes ≤ 140737488355328) :
    aAppend P (m.push (.cells false 1 [v])) t t (.slice none 0 0) (.slice (some ⟨m.size, 0, none⟩) 1 1) =
      some (.slice (some ⟨m.size + 1, 0, none⟩) 1 1, (m.push (.cells false 1 [v])).push (.cells false 1 [v])) := by
  unfold aAppend aSrc
  simp only [hu, hi, hz, hs, hzc, if_true, Mem.get_push_new]
  simp [hb]
def Sl (m : Mem) (v : Value) (xs : List Value) : Prop := (v = .slice none 0 0 ∧ xs = []) ∨ ∃ g, v = .slice (some ⟨g, 0, none⟩) xs.length xs.length ∧ m.get g = some (.cells false 1 xs)
theorem Sl.app {P : Program} {t e : TypeId} {i : TypeInfo} {z : Value} (hu : P.underlying t = some (.slice e)) (hi : P.info? e = some i) (hz : i.zero = some z) (hs : i.size = 1) (hzc : z.cells.toList.length = 1)
    {m₀ m : Mem} {s : Value} {xs : List Value} (h : Sl m s xs) (hgr : Grows m₀ m) (hnew : ∀ g l c, s = .slice (some ⟨g, 0, none⟩) l c → m₀.size ≤ g) (v : Value) (hb : (xs.length + 1) * i.bytes ≤ 140737488355328) (hb2 : xs.length + 1 ≤ 140737488355328) :
    ∃ s' m', aAppend P (m.push (.cells false 1 [v])) t t s (.slice (some ⟨m.size, 0, none⟩) 1 1) = some (s', m') ∧ Sl m' s' (xs ++ [v]) ∧ Grows m₀ m' ∧ (∀ g l c, s' = .slice (some ⟨g, 0, none⟩) l c → m₀.size ≤ g) := by
  rcases h with ⟨rfl, rfl⟩ | ⟨g, rfl, hg⟩
  · refine ⟨_, _, app_nil hu hi hz hs hzc m v (by simpa using hb), .inr ⟨m.size + 1, by simp, ?_⟩, (hgr.push _).push _, fun g l c e => ?_⟩
    · have := Mem.get_push_new (m.push (.cells false 1 [v])) (.cells false 1 [v])
      rw [Mem.size_push] at this
      simpa using this
    · cases e; have := hgr.1; omega
  · refine ⟨_, _, app_one hu hi hz hs hzc m v hg rfl hb hb2, .inr ⟨m.size + 1, by simp, ?_⟩, ((hgr.push _).set (hnew g _ _ rfl) _).push _, fun g l c e => ?_⟩
    · have := Mem.get_push_new ((m.push (.cells false 1 [v])).set g none) (.cells false 1 (xs ++ [v]))
      rw [Mem.size_set, Mem.size_push] at this
      exact this
    · cases e; have := hgr.1; omega
theorem index_str (s : ByteArray) (i : Int) (k : Nat) (h : i = k) (hk : k < s.size) : aIndex Tryd.prog 9 (.string s) (.int .i64 i) = some (.int .u8 ((s.data.toList.getD k 0).toNat : Int)) := by
  subst h
  unfold aIndex
  have hk' : k < s.data.toList.length := by rw [Array.length_toList]; exact hk
  simp only [Tryd.underlying9, if_pos (show (0 : Int) ≤ (k : Int) by omega), Int.toNat_natCast, List.getD, List.getElem?_eq_getElem hk', Option.getD_some]
theorem Sl.at {m : Mem} {v : Value} {xs : List Value} (h : Sl m v xs) (hn : 0 < xs.length) : ∃ g, v = .slice (some ⟨g, 0, none⟩) xs.length xs.length ∧ m.get g = some (.cells false 1 xs) := by
  rcases h with ⟨_, rfl⟩ | h
  · simp at hn
  · exact h
theorem Sl.block {m : Mem} {g n : Nat} {xs : List Value} (hn : n = xs.length) (h : m.get g = some (.cells false 1 xs)) : Sl m (.slice (some ⟨g, 0, none⟩) n n) xs := .inr ⟨g, by rw [hn], h⟩
theorem sConv_slice (P : Program) (get : Nat → Option Blk) (s d : TypeId) (a : Option Addr) (l c : Nat) : sConv P get s d (some (.slice a l c)) = gToString P get s d (.slice a l c) := rfl
theorem cellBytes_bytesV : ∀ l : List UInt8, cellBytes (bytesV l) = some l
  | [] => rfl
  | b :: l => by
    have e : bytesV (b :: l) = Value.int .u8 (b.toNat : Int) :: bytesV l := rfl
    rw [e]
    simp only [cellBytes, cellBytes_bytesV l]
    simp
theorem to_str {get : Nat → Option Blk} {g n : Nat} {ro : Bool} {st : Nat} {l : List UInt8} (h : get g = some (.cells ro st (bytesV l))) (hn : n = l.length) : gToString Tryd.prog get 35 9 (.slice (some ⟨g, 0, none⟩) n n) = some (.string (str l)) := by
  subst hn
  have hl : (bytesV l).length = l.length := by simp [bytesV]
  unfold gToString
  simp only [Tryd.underlying9, Tryd.underlying35, Tryd.underlying5, h, List.drop_zero, Nat.zero_add, hl, Nat.le_refl, if_true]
  rw [List.take_of_length_le (by omega), cellBytes_bytesV]
  rfl
theorem wr {x : Int} (h0 : 0 ≤ x) (h1 : x ≤ 4611686018427387904) : IntKind.i64.wrap x = x := by
  obtain ⟨n, rfl⟩ := Int.eq_ofNat_of_zero_le h0
  exact (idx (n : Int) n rfl (by omega)).1
theorem aStr_add (a b : ByteArray) : aStr .add a b = if bsize a + bsize b ≤ 4611686018427387904 then some (.string (bcat a b)) else none := rfl
theorem aStr_eql (a b : ByteArray) : aStr .eql a b = some (.bool (beqB a b)) := rfl
theorem aStr_neq (a b : ByteArray) : aStr .neq a b = some (.bool (!beqB a b)) := rfl
theorem bsize_str (l : List UInt8) : bsize (str l) = l.length := rfl
theorem slice_str {get : Nat → Option Blk} (s : ByteArray) (h : Int) (h1 : 0 ≤ h) (h2 : h ≤ (bsize s : Nat)) :
    gSlice Tryd.prog get 9 (.string s) none (some (.int .i64 h)) = some (.string (bsub s 0 h.toNat)) := by
  unfold gSlice aBound
  simp only [Tryd.underlying9, if_pos (And.intro h1 h2)]
theorem aInt_add (k : IntKind) (a b : Int) : aInt .add k a b = some (.int k (k.wrap (a + b))) := rfl
theorem aInt_sub (k : IntKind) (a b : Int) : aInt .sub k a b = some (.int k (k.wrap (a - b))) := rfl
theorem aInt_mul (k : IntKind) (a b : Int) : aInt .mul k a b = some (.int k (k.wrap (a * b))) := rfl
theorem aInt_quo (k : IntKind) (a b : Int) : aInt .quo k a b = if b = 0 then none else some (.int k (k.wrap (a.tdiv b))) := rfl
theorem aInt_rem (k : IntKind) (a b : Int) : aInt .rem k a b = if b = 0 then none else some (.int k (a.tmod b)) := rfl
theorem aInt_and (k : IntKind) (a b : Int) : aInt .and k a b = some (.int k (bits .and k a b)) := rfl
theorem aInt_or (k : IntKind) (a b : Int) : aInt .or k a b = some (.int k (bits .or k a b)) := rfl
theorem aInt_xor (k : IntKind) (a b : Int) : aInt .xor k a b = some (.int k (bits .xor k a b)) := rfl
theorem aInt_eql (k : IntKind) (a b : Int) : aInt .eql k a b = some (.bool (a == b)) := rfl
theorem aInt_neq (k : IntKind) (a b : Int) : aInt .neq k a b = some (.bool (a != b)) := rfl
theorem aInt_lss (k : IntKind) (a b : Int) : aInt .lss k a b = some (.bool (decide (a < b))) := rfl
theorem aInt_leq (k : IntKind) (a b : Int) : aInt .leq k a b = some (.bool (decide (a ≤ b))) := rfl
theorem aInt_gtr (k : IntKind) (a b : Int) : aInt .gtr k a b = some (.bool (decide (a > b))) := rfl
theorem aInt_geq (k : IntKind) (a b : Int) : aInt .geq k a b = some (.bool (decide (a ≥ b))) := rfl
theorem new_int (x : Int) : nBuildSlice Tryd.prog 77 1 [(0, .int .i64 x)] = some (.cells false 1 [.int .i64 x]) :=
  new_one Tryd.underlying77 inf_int int_zero int_size rfl rfl rfl _ rfl rfl
theorem new_u8 (x : Int) : nBuildSlice Tryd.prog 35 1 [(0, .int .u8 x)] = some (.cells false 1 [.int .u8 x]) :=
  new_one Tryd.underlying35 inf_u8 u8_zero u8_size rfl rfl rfl _ rfl rfl
end Go.Proofs.YthcleiegefhmdaaDoor.Abs
namespace Go.Proofs.YthcleiegefhmdaaDoor.Abs
open Go Go.RowKit
section
variable {P : Program} {m : Mem} {B : Nat} {t : TypeId} {cs : List Value}
theorem ARep.inv_bool (hu : P.underlying t = some .bool) (h : ARep P m B t cs) : ∃ b, cs = [.bool b] := by
  cases h <;> simp_all
theorem ARep.inv_int {k : IntKind} (hu : P.underlying t = some (.int k)) (h : ARep P m B t cs) : ∃ n, cs = [.int k n] ∧ (Lit.int k n).wf = true := by
  cases h <;> simp_all
theorem ARep.inv_string (hu : P.underlying t = some .string) (h : ARep P m B t cs) : ∃ s, cs = [.string s] ∧ s.size ≤ B := by
  cases h <;> simp_all
theorem ARep.inv_struct {fs : Array Field} (hu : P.underlying t = some (.struct fs)) (h : ARep P m B t cs) : cs.length = P.cellsOf t ∧ ∀ (i : Nat) (f : Field), fs[i]? = some f → ARep P m B f.type ((cs.drop f.offset).take (P.cellsOf f.type)) := by
  have : cs.length = P.cellsOf t ∧ ∀ f ∈ fs.toList, ARep P m B f.type ((cs.drop f.offset).take (P.cellsOf f.type)) := by cases h <;> simp_all
  exact ⟨this.1, fun i f hf => this.2 f (Array.mem_toList_iff.2 (Array.mem_of_getElem? hf))⟩
def Rd (m : Mem) (n : Nat) (v : Value) (k : Nat) (cells : List Value) : Prop :=
  ∃ a cap, v = .slice a k cap ∧ cells.length = k * n ∧ k ≤ cap ∧ cap ≤ maxLen ∧ (a = none → cap = 0) ∧ ∀ p, a = some p → ∃ b, p = ⟨b, 0, none⟩ ∧ (k ≠ 0 → ∃ ro, m.get b = some (.cells ro n cells))
theorem ARep.inv_slice {e : TypeId} (hu : P.underlying t = some (.slice e)) (h : ARep P m B t cs) : ∃ v k cells, cs = [v] ∧ Rd m (P.cellsOf e) v k cells ∧ (k ≤ B ∧ k * P.bytesOf e ≤ reachBytes) ∧ ∀ i, i < k → ARep P m B e ((cells.drop (i * P.cellsOf e)).take (P.cellsOf e)) := by
  cases h with
  | nil h => exact ⟨_, 0, [], rfl, ⟨none, 0, rfl, by simp, Nat.le_refl _, Nat.zero_le _, fun _ => rfl, fun p hp => by cases hp⟩, ⟨Nat.zero_le _, by simp⟩, fun i hi => by omega⟩
  | empty h b cap hb hc hB => exact ⟨_, 0, [], rfl, ⟨_, cap, rfl, by simp, Nat.zero_le _, hc, (fun hp => by cases hp), fun p hp => by cases hp; exact ⟨b, rfl, fun h => absurd rfl h⟩⟩, ⟨Nat.zero_le _, by simp⟩, fun i hi => by omega⟩
  | @slice _ e' h b len cap all hb hl hlc hc hB hx =>
    rw [h] at hu
    cases hu
    exact ⟨_, len, all, rfl, ⟨_, cap, rfl, hl, hlc, hc, (fun hp => by cases hp), fun p hp => by cases hp; exact ⟨b, rfl, fun _ => ⟨true, hb⟩⟩⟩, ⟨Nat.le_trans hlc hB.1, Nat.le_trans (Nat.mul_le_mul_right _ hlc) hB.2⟩, hx⟩
  | struct h => rw [h] at hu; cases hu
  | array h => rw [h] at hu; cases hu
  | _ h => rw [h] at hu; cases hu
theorem list_of_stretches {α : Type} (f : α → List Value) (wf : α → Prop) (n : Nat) : ∀ (k : Nat) (cells : List Value), cells.length = k * n → (∀ i, i < k → ∃ x, (cells.drop (i * n)).take n = f x ∧ wf x) → ∃ xs : List α, xs.length = k ∧ cells = xs.flatMap f ∧ ∀ x ∈ xs, wf x
  | 0, cells, h, _ => ⟨[], rfl, by simpa using h, fun x hx => by simp at hx⟩
  | k + 1, cells, h, hx => by
    rw [Nat.add_mul, Nat.one_mul] at h
    obtain ⟨x, h1, h2⟩ := hx 0 (by omega)
    obtain ⟨xs, g1, g2, g3⟩ := list_of_stretches f wf n k (cells.drop n) (by rw [List.length_drop]; omega) (by
      intro i hi
      obtain ⟨y, k1, k2⟩ := hx (i + 1) (by omega)
      refine ⟨y, ?_, k2⟩
      rw [← k1, List.drop_drop, Nat.add_mul, Nat.one_mul, Nat.add_comm])
    refine ⟨x :: xs, by simp [g1], ?_, fun y hy => ?_⟩
    · rw [List.flatMap_cons, ← g2, ← h1, Nat.zero_mul, List.drop_zero, List.take_append_drop]
    · rcases List.mem_cons.1 hy with rfl | hy
      · exact h2
      · exact g3 y hy
theorem ARep.list {α : Type} (f : α → List Value) (wf : α → Prop) {e : TypeId} {n : Nat} (hu : P.underlying t = some (.slice e)) (hn : P.cellsOf e = n) (he : ∀ cs, ARep P m B e cs → ∃ x, cs = f x ∧ wf x) (h : ARep P m B t cs) :
    ∃ v xs, cs = [v] ∧ Rd m n v (List.length xs) (xs.flatMap f) ∧ (xs.length ≤ B ∧ xs.length * P.bytesOf e ≤ reachBytes) ∧ ∀ x ∈ xs, wf x := by
  subst hn
  obtain ⟨v, k, cells, rfl, hr, hB, hx⟩ := h.inv_slice hu
  have hl : cells.length = k * P.cellsOf e := by obtain ⟨_, _, _, h, _⟩ := hr; exact h
  obtain ⟨xs, rfl, rfl, h3⟩ := list_of_stretches f wf _ k cells hl fun i hi => he _ (hx i hi)
  exact ⟨v, xs, rfl, hr, hB, h3⟩
end
theorem Rd.len {m : Mem} {n k : Nat} {v : Value} {cells : List Value} (h : Rd m n v k cells) : ∃ a cap, v = .slice a k cap := by
  obtain ⟨a, cap, rfl, _⟩ := h; exact ⟨a, cap, rfl⟩
theorem Rd.at {m : Mem} {n k cap : Nat} {a : Option Addr} {cells : List Value} (h : Rd m n (.slice a k cap) k cells) (hk : 0 < k) : ∃ b ro, a = some ⟨b, 0, none⟩ ∧ m.get b = some (.cells ro n cells) := by
  obtain ⟨a', cap', e, _, h2, _, h3, h4⟩ := h
  cases e
  cases a with
  | none => have := h3 rfl; omega
  | some p =>
    obtain ⟨b, rfl, hb⟩ := h4 p rfl
    obtain ⟨ro, hg⟩ := hb (by omega)
    exact ⟨b, ro, rfl, hg⟩
theorem Sl.rd {m : Mem} {v : Value} {xs : List Value} (h : Sl m v xs) (hx : xs.length ≤ maxLen) : Rd m 1 v xs.length xs := by
  rcases h with ⟨rfl, rfl⟩ | ⟨g, rfl, hg⟩
  · exact ⟨none, 0, rfl, by simp, Nat.le_refl _, Nat.zero_le _, fun _ => rfl, fun p hp => by cases hp⟩
  · exact ⟨_, _, rfl, by simp, Nat.le_refl _, hx, (fun hp => by cases hp), fun p hp => by cases hp; exact ⟨g, rfl, fun _ => ⟨_, hg⟩⟩⟩
theorem flatMap_at {α : Type} (f : α → List Value) (n : Nat) : ∀ (xs : List α) (i : Nat) (x : α), (∀ x ∈ xs, (f x).length = n) → xs[i]? = some x → ((xs.flatMap f).drop (i * n)).take n = f x
  | [], i, x, _, h => by simp at h
  | y :: r, 0, x, hl, h => by
    simp at h; subst h
    rw [Nat.zero_mul, List.drop_zero, List.flatMap_cons, ← hl y (by simp), List.take_left']
    rfl
  | y :: r, i + 1, x, hl, h => by
    have := flatMap_at f n r i x (fun x hx => hl x (by simp [hx])) (by simpa using h)
    rw [List.flatMap_cons, Nat.add_mul, Nat.one_mul, List.drop_append, List.drop_eq_nil_of_le (by rw [hl y (by simp)]; omega), List.nil_append, hl y (by simp), Nat.add_sub_cancel]
    exact this
theorem flatMap_len {α : Type} (f : α → List Value) (n : Nat) : ∀ (xs : List α), (∀ x ∈ xs, (f x).length = n) → (xs.flatMap f).length = xs.length * n
  | [], _ => by simp
  | y :: r, hl => by
    rw [List.flatMap_cons, List.length_append, flatMap_len f n r (fun x hx => hl x (by simp [hx])), hl y (by simp), List.length_cons, Nat.add_mul]
    omega
theorem vrels_one {n : Nat → Prop} {ι : Nat → Loc} {a : Value} {ys : List Value} (h : VRels n ι [a] ys) : ∃ a', ys = [a'] ∧ VRel n ι a a' := by
  have hl := h.1
  match ys, hl with
  | [a'], _ => exact ⟨a', rfl, h.2 0 _ _ rfl rfl⟩
theorem vrels_two {n : Nat → Prop} {ι : Nat → Loc} {a b : Value} {ys : List Value} (h : VRels n ι [a, b] ys) : ∃ a' b', ys = [a', b'] ∧ VRel n ι a a' ∧ VRel n ι b b' := by
  have hl := h.1
  match ys, hl with
  | [a', b'], _ => exact ⟨a', b', rfl, h.2 0 _ _ rfl rfl, h.2 1 _ _ rfl rfl⟩
theorem args_one {P : Program} {m : Mem} {B : Nat} {t : TypeId} {ts : List TypeId} {vs : List Value} (h : ArgsOf P m B (t :: ts) vs) : ∃ v r, vs = v :: r ∧ ArgOf P m B t v ∧ ArgsOf P m B ts r := by
  cases h with
  | cons h hs => exact ⟨_, _, rfl, h, hs⟩
theorem args_nil {P : Program} {m : Mem} {B : Nat} {vs : List Value} (h : ArgsOf P m B [] vs) : vs = [] := by cases h; rfl
theorem arg_str {P : Program} {m : Mem} {B : Nat} {t : TypeId} {v : Value} (hu : P.underlying t = some .string) (h : ArgOf P m B t v) : ∃ s, v = .string s ∧ s.size ≤ B := by
  unfold ArgOf at h
  rw [hu] at h
  obtain ⟨s, e, hs⟩ := h.inv_string hu
  exact ⟨s, by simpa using e, hs⟩
theorem arg_list {P : Program} {m : Mem} {B : Nat} {t e : TypeId} {v : Value} (hu : P.underlying t = some (.slice e)) (h : ArgOf P m B t v) : ARep P m B t [v] := by
  unfold ArgOf at h
  rw [hu] at h
  exact h
theorem arg_int {P : Program} {m : Mem} {B : Nat} {t : TypeId} {v : Value} {k : IntKind} (hu : P.underlying t = some (.int k)) (h : ArgOf P m B t v) : ∃ n, v = .int k n ∧ (Lit.int k n).wf = true := by
  unfold ArgOf at h
  rw [hu] at h
  obtain ⟨n, e, hs⟩ := h.inv_int hu
  exact ⟨n, by simpa using e, hs⟩
end Go.Proofs.YthcleiegefhmdaaDoor.Abs
namespace Go.Proofs.YthcleiegefhmdaaDoor.Abs
open Go Go.RowKit
theorem nth_zero (o : Option (Option Blk)) (r : List (Option (Option Blk))) : nth (o :: r) 0 = o := rfl
theorem nth_succ (o : Option (Option Blk)) (r : List (Option (Option Blk))) (i : Nat) : nth (o :: r) (i + 1) = nth r i := rfl
theorem sig_local (K : Nat) (keep : List Nat) (i : Nat) : sig K keep (K + i) = match pos keep i with | some c => some (K + c) | none => none := by
  unfold sig
  rw [if_neg (by omega), show K + i - K = i by omega]
  all_goals (cases pos keep i <;> rfl)
theorem sig_old {K b : Nat} (keep : List Nat) (h : b < K) : sig K keep b = some b := by unfold sig; rw [if_pos h]
theorem Cl.agg {p : Nat → Prop} {cs : Array Value} (h : Cl p (.agg cs)) : ∀ v ∈ cs.toList, Cl p v := by
  obtain ⟨κ, u, h⟩ := h
  obtain ⟨ys, rfl, hl, hh⟩ := h.agg_inv
  intro v hv
  obtain ⟨i, hi, rfl⟩ := List.getElem_of_mem hv
  exact (hh i _ _ (List.getElem?_eq_getElem hi) (List.getElem?_eq_getElem (by rw [← hl]; exact hi))).cl
theorem Cl.tuple {p : Nat → Prop} {cs : Array Value} (h : Cl p (.tuple cs)) : ∀ v ∈ cs.toList, Cl p v := by
  obtain ⟨κ, u, h⟩ := h
  obtain ⟨ys, rfl, hl, hh⟩ := h.tuple_inv
  intro v hv
  obtain ⟨i, hi, rfl⟩ := List.getElem_of_mem hv
  exact (hh i _ _ (List.getElem?_eq_getElem hi) (List.getElem?_eq_getElem (by rw [← hl]; exact hi))).cl
def rowIn (n o : Nat) : Option Blk → Option Value
  | some (.cells _ _ cs) => if o + n ≤ cs.length then some (.agg ((cs.drop o).take n).toArray) else none
  | none => none
def cellIn (o : Nat) : Option Blk → Option Value
  | some (.cells _ _ cs) => cs[o]?
  | none => none
def putIn (n : Nat) (m : Mem) (b o : Nat) (vs : List Value) : Option Blk → Option Mem
  | some (.cells false s cs) => if vs.length = n ∧ o + vs.length ≤ cs.length ∧ oneAll vs = true then some (m.set b (some (.cells false s (setL cs o vs)))) else none
  | _ => none
section
variable {P : Program} {t : TypeId} {d : TypeDesc} {i : TypeInfo} {n : Nat}
theorem ld_row (hu : P.underlying t = some d) (hd : d.isRow = true) (hi : P.info? t = some i) (hs : i.size = n) (get : Nat → Option Blk) (b o : Nat) : gLoad P get t (.pointer (some ⟨b, o, none⟩)) = rowIn n o (get b) := by
  subst hs
  cases hb : get b with
  | none => simp only [gLoad, hb, rowIn]
  | some x => obtain ⟨ro, s, cs⟩ := x; simp only [gLoad, hb, rowIn, hu, hd, if_true, hi]
theorem ld_cell (hu : P.underlying t = some d) (hd : d.isRow = false) (get : Nat → Option Blk) (b o : Nat) : gLoad P get t (.pointer (some ⟨b, o, none⟩)) = cellIn o (get b) := by
  cases hb : get b with
  | none => simp only [gLoad, hb, cellIn]
  | some x => obtain ⟨ro, s, cs⟩ := x; simp only [gLoad, hb, cellIn, hu, hd, Bool.false_eq_true, if_false]
theorem st_any (hi : P.info? t = some i) (hs : i.size = n) (m : Mem) (b o : Nat) (v : Value) : aStore P m t (.pointer (some ⟨b, o, none⟩)) v = putIn n m b o v.cells.toList (m.get b) := by
  subst hs
  cases hb : m.get b with
  | none => simp only [aStore, hb, putIn]
  | some x => obtain ⟨ro, s, cs⟩ := x; cases ro <;> simp only [aStore, hb, putIn, hi]
end
theorem aLoad_g (P : Program) (m : Mem) (t : TypeId) (p : Value) : aLoad P m t p = gLoad P m.get t p := by
  unfold aLoad gLoad
  rfl
theorem Grows.ext (m : Mem) (l : List (Option (Option Blk))) : Grows m (ext m l) := ⟨by rw [ext_size]; omega, fun b x h => ext_get_old l h⟩
theorem g_tt : ((some true : Option Bool) == some true) = true := rfl
theorem g_tf : ((some true : Option Bool) == some false) = false := rfl
theorem g_ft : ((some false : Option Bool) == some true) = false := rfl
theorem g_ff : ((some false : Option Bool) == some false) = true := rfl
theorem aUn_not (b : Bool) : aUn .not (.bool b) = some (.bool !b) := rfl
theorem agg_cells (xs : Array Value) : (Value.agg xs).cells.toList = xs.toList := rfl
theorem row_struct (fs : Array Field) : (TypeDesc.struct fs).isRow = true := rfl
theorem row_array (k : Nat) (e : TypeId) : (TypeDesc.array k e).isRow = true := rfl
theorem rowIn_whole {n : Nat} {ro : Bool} {s : Nat} {cs : List Value} (h : cs.length = n) : rowIn n 0 (some (.cells ro s cs)) = some (.agg cs.toArray) := by
  subst h
  simp [rowIn]
theorem rowIn_at {α : Type} {n : Nat} {f : α → List Value} {xs : List α} (hl : ∀ x ∈ xs, (f x).length = n) {k : Nat} {x : α} (hx : xs[k]? = some x) (ro : Bool) (s : Nat) : rowIn n (k * n) (some (.cells ro s (xs.flatMap f))) = some (.agg (f x).toArray) := by
  have h1 := flatMap_len f n xs hl
  have h2 := (List.getElem?_eq_some_iff.1 hx).1
  have h3 := Nat.mul_le_mul_right n (show k + 1 ≤ xs.length by omega)
  rw [Nat.add_mul, Nat.one_mul] at h3
  unfold rowIn
  simp only
  rw [if_pos (by omega), flatMap_at f n xs k x hl hx]
theorem flatMap_get {α : Type} {n : Nat} {f : α → List Value} {xs : List α} (hl : ∀ x ∈ xs, (f x).length = n) {k : Nat} {x : α} (hx : xs[k]? = some x) {o : Nat} (ho : o < n) : (xs.flatMap f)[k * n + o]? = (f x)[o]? := by
  rw [← flatMap_at f n xs k x hl hx, List.getElem?_take, if_pos ho, List.getElem?_drop]
theorem putIn_whole {n : Nat} (m : Mem) (b : Nat) {s : Nat} {vs cs : List Value} (h1 : vs.length = n) (h2 : cs.length = n) (h3 : oneAll vs = true) : putIn n m b 0 vs (some (.cells false s cs)) = some (m.set b (some (.cells false s vs))) := by
  unfold putIn
  simp only
  rw [if_pos ⟨h1, by omega, h3⟩]
  congr 5
  apply List.ext_getElem?
  intro j
  rw [setL_get _ _ _ _ (by omega)]
  by_cases hj : j < vs.length
  · rw [if_pos (by omega), Nat.sub_zero]
  · rw [if_neg (by omega), List.getElem?_eq_none (by omega), List.getElem?_eq_none (by omega)]
theorem nBox_row {P : Program} (t : TypeId) {xs : Array Value} (h : oneAll xs.toList = true) : nBox P t (.agg xs) = some (.cells false (aStride P t) xs.toList) := by
  unfold nBox
  rw [agg_cells, if_pos h]
def zZ := And.intro (And.intro (And.intro (And.intro (And.intro (And.intro (And.intro (@alOf.eq_1) (And.intro @alOf.eq_2 @sOps.eq_1)) (And.intro (And.intro @sOpsB.eq_1 @sOpsB.eq_2) (And.intro @sOp.eq_1 @sOne.eq_1))) (And.intro (And.intro (And.intro @sHOne.eq_1 @sHOp.eq_1) (And.intro @sGuard.eq_1 @sWant.eq_1)) (And.intro (And.intro @sFun.eq_1 @sGuarded.eq_1) (And.intro @sGuarded.eq_2 @sGuarded.eq_3)))) (And.intro (And.intro (And.intro (@sGuardedV.eq_1) (And.intro @sGuardedV.eq_2 @sGuardedV.eq_3)) (And.intro (And.intro @isFn.eq_1 @isFn.eq_2) (And.intro @isVal.eq_1 @isVal.eq_2))) (And.intro (And.intro (And.intro @kind.eq_1 @kind.eq_2) (And.intro @kind.eq_3 @kind.eq_4)) (And.intro (And.intro @kind.eq_5 @kind.eq_6) (And.intro @kind.eq_7 @kind.eq_8))))) (And.intro (And.intro (And.intro (And.intro (@kindB.eq_1) (And.intro @kindB.eq_2 @kindC.eq_1)) (And.intro (And.intro @kindC.eq_2 @kindT.eq_1) (And.intro @kindT.eq_2 @withV_some))) (And.intro (And.intro (And.intro @withV_ite @sVal.eq_1) (And.intro @sVal.eq_2 @sVal.eq_3)) (And.intro (And.intro @sVal.eq_4 @sVal.eq_5) (And.intro @sVal.eq_6 @sVal.eq_7)))) (And.intro (And.intro (And.intro (@sVal.eq_8) (And.intro @sVal.eq_9 @sVal.eq_10)) (And.intro (And.intro @sVal.eq_11 @sVal.eq_12) (And.intro @sVal.eq_13 @sVal.eq_14))) (And.intro (And.intro (And.intro @sVal.eq_15 @sVal.eq_16) (And.intro @sVal.eq_17 @sVal.eq_18)) (And.intro (And.intro @sVal.eq_19 @sNew.eq_1) (And.intro @sNew.eq_2 @sNew.eq_3)))))) (And.intro (And.intro (And.intro (And.intro (And.intro (@sNew.eq_4) (And.intro @sNew.eq_5 @sMem.eq_1)) (And.intro (And.intro @sMem.eq_2 @sMem.eq_3) (And.intro @sMem.eq_4 @sArgs.eq_1))) (And.intro (And.intro (And.intro @sArgs.eq_2 @sParts.eq_1) (And.intro @sParts.eq_2 @sBin.eq_1)) (And.intro (And.intro @sBin.eq_2 @sConv.eq_1) (And.intro @sConv.eq_2 @sConv.eq_3)))) (And.intro (And.intro (And.intro (@sConv.eq_4) (And.intro @sConv_slice @vSlice.eq_1)) (And.intro (And.intro @vSlice.eq_2 @vSlice.eq_3) (And.intro @vSlice.eq_4 @vSlice.eq_5))) (And.intro (And.intro (And.intro @fOpt.eq_1 @fOpt.eq_2) (And.intro @vPick.eq_1 @vPick.eq_2)) (And.intro (And.intro @vPick.eq_3 @vLoad.eq_1) (And.intro @vLoad.eq_2 @vIndexAddr.eq_1))))) (And.intro (And.intro (And.intro (And.intro (@vIndexAddr.eq_2) (And.intro @vIndexAddr.eq_3 @vIndex.eq_1)) (And.intro (And.intro @vIndex.eq_2 @vIndex.eq_3) (And.intro @vExtract.eq_1 @vExtract.eq_2))) (And.intro (And.intro (And.intro @vUn.eq_1 @vUn.eq_2) (And.intro @aUn_not @Bool.not_true)) (And.intro (And.intro @Bool.not_false @sCallee.eq_1) (And.intro @sCallee.eq_2 @AL.look.eq_1)))) (And.intro (And.intro (And.intro (And.intro @AL.look.eq_2 @AL.look.eq_3) (And.intro @AL.look.eq_4 @AL.get.eq_1)) (And.intro (And.intro @AL.get.eq_2 @AL.keep_cons) (And.intro @AL.keep.eq_1 @AL.keep.eq_2))) (And.intro (And.intro (And.intro @flat.eq_1 @flat.eq_2) (And.intro @flat.eq_3 @flat.eq_4)) (And.intro (And.intro @flat.eq_5 @flat.eq_6) (And.intro @flat.eq_7 @flat.eq_8))))))) (And.intro (And.intro (And.intro (And.intro (And.intro (And.intro (@flat.eq_9) (And.intro @flat.eq_10 @flat.eq_11)) (And.intro (And.intro @flat.eq_12 @flat.eq_13) (And.intro @flat.eq_14 @flat.eq_15))) (And.intro (And.intro (And.intro @sPut.eq_1 @sPut.eq_2) (And.intro @isC.eq_1 @isC.eq_2)) (And.intro (And.intro @sThen.eq_1 @sThen.eq_2) (And.intro @sBlock.eq_1 @sBlock.eq_2)))) (And.intro (And.intro (And.intro (@cThen.eq_1) (And.intro @cThen.eq_2 @cBlock.eq_1)) (And.intro (And.intro @cBlock.eq_2 @sHead.eq_1) (And.intro @sHeadB.eq_1 @sHeadB.eq_2))) (And.intro (And.intro (And.intro @sEnd.eq_1 @sEnd.eq_2) (And.intro @sEnd.eq_3 @List.take_succ_cons.{0})) (And.intro (And.intro @List.take_zero.{0} @List.drop_succ_cons.{0}) (And.intro @List.drop_zero.{0} @aBin_ii))))) (And.intro (And.intro (And.intro (And.intro (@aBin_ss) (And.intro @aBinI.eq_1 @aBinI.eq_2)) (And.intro (And.intro @aBinI.eq_3 @aInt_add) (And.intro @aInt_sub @aInt_mul))) (And.intro (And.intro (And.intro @aInt_quo @aInt_rem) (And.intro @aInt_and @aInt_or)) (And.intro (And.intro @aInt_xor @aInt_eql) (And.intro @aInt_neq @aInt_lss)))) (And.intro (And.intro (And.intro (And.intro @aInt_leq @aInt_gtr) (And.intro @aInt_geq @aStr_add)) (And.intro (And.intro @aStr_eql @aStr_neq) (And.intro @Bool.false_eq_true @Bool.or_true))) (And.intro (And.intro (And.intro @Bool.or_false @Bool.true_or) (And.intro @if_true.{1} @if_false.{1})) (And.intro (And.intro @true_and @and_true) (And.intro @List.nil_append.{0} @List.append_nil.{0})))))) (And.intro (And.intro (And.intro (And.intro (And.intro (Tryd.underlying35) (And.intro Tryd.underlying5 Tryd.underlying3)) (And.intro (And.intro Tryd.underlying77 Tryd.underlying9) (And.intro @inf_u8 @inf_int))) (And.intro (And.intro (And.intro @inf_str @u8_size) (And.intro @int_size @Abs.str_size)) (And.intro (And.intro @aIndexAddr.eq_1 @aIndexAddr.eq_2) (And.intro @row_int @row_str)))) (And.intro (And.intro (And.intro (@Nat.mul_one) (And.intro @Nat.zero_add @aLen.eq_1)) (And.intro (And.intro @aLen.eq_2 @aLen.eq_3) (And.intro @vCall.eq_1 @vCall.eq_2))) (And.intro (And.intro (And.intro @vCall.eq_3 @vBuiltin.eq_1) (And.intro @vBuiltin.eq_2 @vBuiltin.eq_3)) (And.intro (And.intro @vBuiltin.eq_4 @vLen.eq_1) (And.intro @vLen.eq_2 @vLen.eq_3))))) (And.intro (And.intro (And.intro (And.intro (@new_int) (And.intro @new_u8 @Int.toNat_natCast)) (And.intro (And.intro @vFieldAddr.eq_1 @vFieldAddr.eq_2) (And.intro @vBuild.eq_1 @vBuild.eq_2))) (And.intro (And.intro (And.intro @vNil.eq_1 @vNil.eq_2) (And.intro @vNil.eq_3 @ext_size)) (And.intro (And.intro @ext_push @ext_set) (And.intro @ext_get @nth_zero)))) (And.intro (And.intro (And.intro (And.intro @nth_succ @List.length_cons.{0}) (And.intro @List.length_nil.{0} @List.cons_append.{0})) (And.intro (And.intro @List.set_cons_zero.{0} @List.set_cons_succ.{0}) (And.intro @cellIn.eq_1 @cellIn.eq_2))) (And.intro (And.intro (And.intro @Region.wanted.eq_1 @g_tt) (And.intro @g_tf @g_ft)) (And.intro (And.intro @g_ff @List.getElem?_cons_succ.{0}) (And.intro @List.getElem?_cons_zero.{0} @List.toList_toArray.{0})))))))
def zG := And.intro (And.intro (And.intro (And.intro (And.intro @GcM.eq_1 @GcB.eq_1) (And.intro (@gcOk.eq_1) (And.intro @fixB.eq_1 @fixB.eq_2))) (And.intro (And.intro @fixB.eq_3 @nodupB.eq_1) (And.intro (@nodupB.eq_2) (And.intro @renF.eq_1 @renF.eq_2)))) (And.intro (And.intro (And.intro @renMs.eq_1 @renMs.eq_2) (And.intro (@renB.eq_1) (And.intro @renB.eq_2 @renB.eq_3))) (And.intro (And.intro @renL.eq_1 @renL.eq_2) (And.intro (@ren.eq_1) (And.intro @ren.eq_2 @ren.eq_3))))) (And.intro (And.intro (And.intro (And.intro @ren.eq_4 @ren.eq_5) (And.intro (@ren.eq_6) (And.intro @ren.eq_7 @ren.eq_8))) (And.intro (And.intro @ren.eq_9 @ren.eq_10) (And.intro (@ren.eq_11) (And.intro @ren.eq_12 @ren.eq_13)))) (And.intro (And.intro (And.intro @ren.eq_14 @ren.eq_15) (And.intro (@ren.eq_16) (And.intro @ren.eq_17 @sig_local))) (And.intro (And.intro (@pos.eq_1) (And.intro @pos.eq_2 @bEnd.eq_1)) (And.intro (@bEnd.eq_2) (And.intro @bEnd.eq_3 @ToldB.eq_1)))))
end Go.Proofs.YthcleiegefhmdaaDoor.Abs
namespace Go.Proofs.YthcleiegefhmdaaDoor.Abs
open Go
structure Thin (m m' : Mem) : Prop where
  has : ∀ b, m.Has b → m'.Has b
  get : ∀ b ro s cs, m'.get b = some (.cells ro s cs) → ∃ r, m.get b = some (.cells r s cs) ∧ (r = true → ro = true)
theorem Thin.refl (m : Mem) : Thin m m := ⟨fun _ h => h, fun b ro s cs h => ⟨ro, h, fun h => h⟩⟩
theorem Thin.trans {m m' m'' : Mem} (h : Thin m m') (k : Thin m' m'') : Thin m m'' :=
  ⟨fun b hb => k.has b (h.has b hb), fun b ro s cs hb => by
    obtain ⟨r, h1, h2⟩ := k.get b ro s cs hb
    obtain ⟨r', h3, h4⟩ := h.get b r s cs h1
    exact ⟨r', h3, fun e => h2 (h4 e)⟩⟩
theorem Thin.own {m m' : Mem} (h : Thin m m') {b : Nat} (hb : m'.Own b) : m.Own b := by
  obtain ⟨s, cs, hb⟩ := hb
  obtain ⟨r, h1, h2⟩ := h.get b false s cs hb
  cases r with
  | false => exact ⟨s, cs, h1⟩
  | true => cases h2 rfl
theorem Thin.live {m m' : Mem} (h : Thin m m') {b : Nat} (hb : m'.get b ≠ none) : m.get b ≠ none := by
  cases hx : m'.get b with
  | none => exact absurd hx hb
  | some x =>
    obtain ⟨ro, s, cs⟩ := x
    obtain ⟨r, h1, _⟩ := h.get b ro s cs hx
    rw [h1]; simp
theorem Rel.thin {ι : Nat → Loc} {m m' : Mem} {w : World} (h : Rel ι m w) (k : Thin m m') : Rel ι m' w := by
  refine ⟨fun b ro s cs hb => ?_, fun b b' hb hb' hne => h.inj b b' (k.live hb) (k.own hb') hne, ⟨h.glob.known, fun b hb => h.glob.own b (k.own hb)⟩⟩
  obtain ⟨r, h1, h2⟩ := k.get b ro s cs hb
  obtain ⟨C, e, fz, g1, g2, g3, g4, g5, g6⟩ := h.at' b r s cs h1
  refine ⟨C, e, fz, g1, g2, g3, g4, fun i v hi => ?_, fun hro => g6 ?_⟩
  · obtain ⟨g7, v', g8, g9⟩ := g5 i v hi
    exact ⟨g7, v', g8, g9.mono k.has fun _ _ => rfl⟩
  · cases r with
    | false => rfl
    | true => rw [h2 rfl] at hro; cases hro
theorem Step.thin {ι₀ ι : Nat → Loc} {m₀ m m' : Mem} {w₀ w : World} (h : Step ι₀ m₀ w₀ ι m w) (k : Thin m m') : Step ι₀ m₀ w₀ ι m' w :=
  ⟨h.os, h.tape, h.output, h.size, fun b hb => k.has b (h.grows b hb), h.at_, h.block, fun b hb => h.own b (k.own hb)⟩
def fz1 (g : Nat) (m : Mem) : Mem := match m.get g with | some (.cells _ s cs) => m.set g (some (.cells true s cs)) | none => m
theorem fz1_thin (g : Nat) (m : Mem) : Thin m (fz1 g m) := by
  unfold fz1
  split
  · rename_i r s cs hg
    refine ⟨fun b hb => Mem.has_set _ hb, fun b ro s' cs' hb => ?_⟩
    by_cases e : g = b
    · subst e
      rw [Mem.get_set_same hg] at hb
      cases hb
      exact ⟨r, hg, fun _ => rfl⟩
    · rw [Mem.get_set_ne e] at hb
      exact ⟨ro, hb, fun h => h⟩
  · exact .refl m
theorem fz1_get {g : Nat} {m : Mem} {ro : Bool} {s : Nat} {cs : List Value} (h : m.get g = some (.cells ro s cs)) : (fz1 g m).get g = some (.cells true s cs) := by
  unfold fz1
  rw [h]
  exact Mem.get_set_same h _
theorem fz1_ne {g b : Nat} {m : Mem} (h : g ≠ b) : (fz1 g m).get b = m.get b := by
  unfold fz1
  split
  · exact Mem.get_set_ne h _
  · rfl
theorem Spec.thin {P : Program} {f : FuncId} {xs : List Value} {m : Mem} {R R' : Value → Mem → Prop} (h : Spec P f xs m R) (hr : ∀ v M, R v M → ∃ M', Thin M M' ∧ R' v M') : Spec P f xs m R' := by
  intro ι w ys hy hw
  refine (h ι w ys hy hw).mono ?_
  rintro e w' ⟨v, v', κ, M, h1, h2, h3, h4, h5⟩
  obtain ⟨M', k1, k2⟩ := hr v M h1
  exact ⟨v, v', κ, M', k2, h2, h3.mono k1.has fun _ _ => rfl, h4.thin k1, h5.thin k1⟩
def keepF (f : AL) : List Nat → Option AL
  | [] => some []
  | t :: r => match AL.get f t with
    | none => none
    | some v => match keepF f r with
      | none => none
      | some q => some ((t, v) :: q)
theorem keepF_get {f : AL} : ∀ {ts : List Nat} {q : AL}, keepF f ts = some q → ∀ (t : Nat) (v : Value), AL.get q t = some v → AL.get f t = some v
  | [], q, h, t, v, hv => by simp only [keepF, Option.some.injEq] at h; subst h; simp [AL.get] at hv
  | u :: r, q, h, t, v, hv => by
    simp only [keepF] at h
    split at h <;> first | (cases h; done) | skip
    rename_i x hx
    split at h <;> first | (cases h; done) | skip
    rename_i q' hq'
    cases h
    simp only [AL.get] at hv
    split at hv
    · rename_i e; subst e; cases hv; exact hx
    · exact keepF_get hq' t v hv
theorem Knows.keepF {n : Nat} {f f' : AL} {a : List Value} {ts : List Nat} (h : Knows n f a) (hk : keepF f ts = some f') : Knows n f' a := ⟨h.1, fun t v hv => h.2 t v (keepF_get hk t v hv)⟩
def JoinM (f : AL) (m : Mem) [J : Box (AL → Mem → Prop)] : Prop := ∃ slots, @withV _ (keepF f slots) ⟨fun f' => ∃ m', Thin m m' ∧ J.k f' m'⟩
section
variable {P : Program} {n k : Nat} {f : AL} {m : Mem} {Q : Exit → AL → Mem → Prop}
theorem CW_thin {c : Code} {m' : Mem} (ht : Thin m m') (h : @CW P n k ⟨c⟩ ⟨Q⟩ f m') : @CW P n k ⟨c⟩ ⟨Q⟩ f m :=
  fun a ha ι₀ m₀ w₀ ι act w h0 hs hA hr => h a ha ι₀ m₀ w₀ ι act w h0 (hs.thin ht) (hA.mono ht.has fun _ _ => rfl) (hr.thin ht)
theorem MW_loop {c : Code} (I : Nat → AL → Mem → Prop) (j₀ : Nat) (h₀ : @JoinM f m ⟨I j₀⟩)
    (round : ∀ j f m, I j f m → @CW P n k ⟨c⟩ ⟨@cThen ⟨fun f' m' => @JoinM f' m' ⟨fun f2 m2 => ∃ j', I j' f2 m2 ∧ j' < j⟩⟩ ⟨Q⟩⟩ f m) : @CW P n k ⟨.loop c⟩ ⟨Q⟩ f m := by
  intro a ha ι₀ m₀ w₀ ι act w h0 hs hA hr
  have run : ∀ j f m, I j f m → ∀ (a : List Value) (ι : Nat → Loc) (act : Act) (w : World), Knows n f a → Step ι₀ m₀ w₀ ι m w → ARel m.Has ι a act → Rel ι m w →
      Code.rounds P c (Post ι₀ m₀ w₀ fun e a' m' => ∃ f', Knows n f' a' ∧ Q e f' m') (j + 1) act w := by
    intro j
    induction j using Nat.strongRecOn with
    | _ j ih =>
      intro f m hI a ι act w ha hs hA hr
      refine wp_mono (round j f m hI a ha ι₀ m₀ w₀ ι act w h0 hs hA hr) ?_
      rintro e act2 w2 ⟨κ, a2, m2, ⟨f2, hf2, hq2⟩, ha2, hr2, hs2⟩
      cases e with
      | normal =>
        obtain ⟨slots, hq2⟩ := hq2
        obtain ⟨f3, hf3, m3, ht, j', hI', hlt⟩ := withV_spec hq2
        exact SW_loop.rounds_le (ih j' hlt f3 m3 hI' a2 κ act2 w2 (hf2.keepF hf3) (hs2.thin ht) (ha2.mono ht.has fun _ _ => rfl) (hr2.thin ht)) (by omega)
      | _ => exact ⟨κ, a2, m2, ⟨f2, hf2, hq2⟩, ha2, hr2, hs2⟩
  obtain ⟨slots, hq2⟩ := h₀
  obtain ⟨f3, hf3, m3, ht, hI'⟩ := withV_spec hq2
  exact wp_loop_rounds (j₀ + 1) (run j₀ f3 m3 hI' a ι act w (ha.keepF hf3) (hs.thin ht) (hA.mono ht.has fun _ _ => rfl) (hr.thin ht))
theorem MW_mid {x y : Code} (I : AL → Mem → Prop) (h : @CW P n k ⟨x⟩ ⟨@cThen ⟨fun f' m' => @JoinM f' m' ⟨I⟩⟩ ⟨Q⟩⟩ f m) (hy : ∀ f m, I f m → @CW P n k ⟨y⟩ ⟨Q⟩ f m) : @CW P n k ⟨.seq x y⟩ ⟨Q⟩ f m := by
  refine CW_seq (h.mono ?_)
  intro e f' m' hq
  cases e with
  | normal =>
    obtain ⟨slots, hq⟩ := hq
    obtain ⟨f3, hf3, m3, ht, hI⟩ := withV_spec hq
    intro a ha ι₀ m₀ w₀ ι act w h0 hs hA hr
    exact hy f3 m3 hI a (ha.keepF hf3) ι₀ m₀ w₀ ι act w h0 (hs.thin ht) (hA.mono ht.has fun _ _ => rfl) (hr.thin ht)
  | _ => exact hq
def mEnd (P : Program) (rs : List ResultVar) (R : Value → Mem → Prop) : Exit → AL → Mem → Prop
  | .ret, f, m => @withV _ (sAnswer P rs f m) ⟨fun v => ∃ m', Thin m m' ∧ R v m'⟩
  | .normal, f, m => @withV _ (sAnswer P rs f m) ⟨fun v => ∃ m', Thin m m' ∧ R v m'⟩
  | _, _, _ => False
theorem Spec.walkM {g : FuncId} {fn : Func} {c : Code} {xs : List Value} {R : Value → Mem → Prop} {m : Mem} (hf : P.funcs[g]? = some fn) (hb : fn.body = some c) (rs : Array ResultVar) (hr : fn.results = rs) (n : Nat) (hn : fn.ntmps = n) (hx : xs.length ≤ n)
    (h : Within m → (∀ x ∈ xs, Cl m.Has x) → ∀ k, @CW P n k ⟨c⟩ ⟨mEnd P rs.toList R⟩ (alOf 0 xs) m) : Spec P g xs m R := by
  intro ι w ys hys hrel
  have hcl : ∀ x ∈ xs, Cl m.Has x := by
    intro x hx
    obtain ⟨i, hi, rfl⟩ := List.getElem_of_mem hx
    exact (hys.2 i _ _ (List.getElem?_eq_getElem hi) (List.getElem?_eq_getElem (by rw [← hys.1]; exact hi))).cl
  have hw := hrel.within
  have hs : Spec P g xs m fun v M => ∃ M', Thin M M' ∧ R v M' := by
    refine Spec.walk hf hb rs hr n hn hx fun a ha ι₀ m₀ w₀ ι act w hs hA hr => ?_
    refine wp_mono (h hw hcl m₀.size a ha ι₀ m₀ w₀ ι act w (Nat.le_refl _) hs hA hr) ?_
    rintro e act' w' ⟨κ, a', m', ⟨f', h1, h2⟩, h3⟩
    refine ⟨κ, a', m', ⟨f', h1, ?_⟩, h3⟩
    cases e <;> exact h2
  exact (hs.thin fun v M h => h) ι w ys hys hrel
end
end Go.Proofs.YthcleiegefhmdaaDoor.Abs
