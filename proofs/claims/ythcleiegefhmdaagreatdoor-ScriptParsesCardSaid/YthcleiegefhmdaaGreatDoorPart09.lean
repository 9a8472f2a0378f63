/-
  The walk of script.unhex.
  The walks of the document's bytes and side.
  The walks of (*parser).side, inject, fate.
  The walks of (*parser).inject, fate.
  The walk of the document's first line.
  The walks of the document's Split and May of paths.
  The walk of (*parser).first.
  The walk of (*parser).pack (under path.Check's contract).
  The walk of (*parser).line (under path.Check's contract).
  The walks of script.Print's closures: a line is put; a side's name.
  The walk of the document's Check of files.
-/
import Derived.Test.YthcleiegefhmdaaGreatDoorPart08
set_option linter.unusedSimpArgs false
set_option linter.unusedVariables false
set_option linter.unusedSectionVars false
set_option linter.unnecessarySimpa false
set_option linter.defProp false
namespace Go.Proofs.YthcleiegefhmdaaGreatDoor
open Go.RowKit Abs
def unhexL : List UInt8 → Option (List UInt8)
  | [] => some []
  | [_] => none
  | a :: b :: r => if digN a < 0 ∨ digN b < 0 then none else match unhexL r with
    | some q => some (UInt8.ofNat (16 * digN a + digN b).toNat :: q)
    | none => none
def unhexV (l : List UInt8) : List UInt8 × Bool := if l = [45] then ([], true) else if l = [] then ([], false) else match unhexL l with
  | some q => (q, true)
  | none => ([], false)
theorem idx_digs : ∀ n : Fin 256, Lib.indexByte digs (UInt8.ofNat n.val) = digI n.val := by decide +kernel
theorem idx_dig (b : UInt8) : Lib.indexByte digs b = digN b := by
  have := idx_digs ⟨b.toNat, b.toNat_lt⟩
  simpa [digN] using this
theorem digN_lt : ∀ b, digN b < 16 := fun b => by unfold digN digI; split <;> (try split) <;> omega
theorem digN_ge : ∀ b, -1 ≤ digN b := fun b => by unfold digN digI; split <;> (try split) <;> omega
theorem unhexL_odd : ∀ (l : List UInt8), l.length % 2 = 1 → unhexL l = none
  | [], h => by simp at h
  | [_], _ => rfl
  | a :: b :: r, h => by
    unfold unhexL
    split
    · rfl
    · rw [unhexL_odd r (by simp only [List.length_cons] at h; omega)]
theorem or_bits : ∀ x y : Fin 16, IntKind.u8.wrap (bits BinOp.or IntKind.i64 (IntKind.i64.wrap ((x.val : Int) * 2 ^ min 4 IntKind.i64.bits)) (y.val : Int)) = ((16 * x.val + y.val : Nat) : Int) := by decide +kernel
theorem or_dig (a b : UInt8) (ha : ¬ digN a < 0) (hb : ¬ digN b < 0) : IntKind.u8.wrap (bits BinOp.or IntKind.i64 (IntKind.i64.wrap (digN a * 2 ^ min 4 IntKind.i64.bits)) (digN b)) = ((UInt8.ofNat (16 * digN a + digN b).toNat).toNat : Int) := by
  have a2 := digN_lt a
  have b2 := digN_lt b
  obtain ⟨x, hx⟩ : ∃ x : Nat, digN a = x := ⟨(digN a).toNat, by omega⟩
  obtain ⟨y, hy⟩ : ∃ y : Nat, digN b = y := ⟨(digN b).toNat, by omega⟩
  rw [hx, hy, or_bits ⟨x, by omega⟩ ⟨y, by omega⟩]
  have : (UInt8.ofNat (16 * (x : Int) + y).toNat).toNat = 16 * x + y := by
    rw [UInt8.toNat_ofNat']
    omega
  rw [this]
theorem slice_from {get : Nat → Option Blk} (s : ByteArray) (l : Int) (h1 : 0 ≤ l) (h2 : l ≤ (bsize s : Nat)) :
    gSlice Tryz.prog get 9 (.string s) (some (.int .i64 l)) none = some (.string (bsub s l.toNat (bsize s))) := by
  unfold gSlice aBound
  simp only [Tryz.underlying9, if_pos (And.intro h1 h2)]
def zUnh := And.intro (And.intro Tryz.underlying9 Tryz.underlying76) (And.intro (Tryz.underlying5) (And.intro Tryz.underlying3 Tryz.underlying4))
set_option maxRecDepth 100000 in
set_option maxHeartbeats 2000000 in
theorem unhex_spec (s : ByteArray) (hs : s.size ≤ 1000000) (m : Mem) :
    Abs.Spec Tryz.prog 45 [.string s] m fun u M => u = .tuple #[.string (str (unhexV s.data.toList).1), .bool (unhexV s.data.toList).2] ∧ M = m := by
  refine Abs.Spec.walkB Tryz.func45 (by rfl) _ Tryz.results45 _ Tryz.ntmps45 (by simp) m [] (ext_nil m).symm 0 rfl (.inl rfl) ?_
  intro hc _
  obtain ⟨L, hL⟩ : ∃ L, L = s.data.toList := ⟨_, rfl⟩
  obtain ⟨R, hR⟩ : ∃ R, R = unhexV L := ⟨_, rfl⟩
  rw [← hL, ← hR]
  refine CW_seq (CW_region ?_)
  simp only [zZ, reduceIte, Nat.reduceLT, Int.reduceToNat, Int.reduceLE, Int.reduceEq, Int.reduceLT, Nat.reduceEqDiff, Nat.reduceAdd, zUnh]
  refine CW_seq (CW_seq (CW_region ?_))
  simp only [zZ, reduceIte, Nat.reduceLT, Int.reduceToNat, Int.reduceLE, Int.reduceEq, Int.reduceLT, Nat.reduceEqDiff, Nat.reduceAdd, zUnh]
  refine CW_cond (beqB s ⟨#[45]⟩) (by rfl) (fun h => CW_seq (CW_region ?_)) (fun h => CW_skip ?_)
  · simp only [zZ, reduceIte, Nat.reduceLT, Int.reduceToNat, Int.reduceLE, Int.reduceEq, Int.reduceLT, Nat.reduceEqDiff, Nat.reduceAdd, zUnh]
    refine CW_ret ?_
    simp only [zZ, reduceIte, Nat.reduceLT, Int.reduceToNat, Int.reduceLE, Int.reduceEq, Int.reduceLT, Nat.reduceEqDiff, Nat.reduceAdd, zUnh, bEnd, sAnswer, sAnswer.sRes]
    have e : s = ⟨#[45]⟩ := by rw [beqB_dec] at h; exact of_decide_eq_true h
    subst e
    exact told_flat rfl (by rw [hR, hL]; rfl)
  · simp only [zZ, reduceIte, Nat.reduceLT, Int.reduceToNat, Int.reduceLE, Int.reduceEq, Int.reduceLT, Nat.reduceEqDiff, Nat.reduceAdd]
    refine CW_seq (CW_seq (CW_region ?_))
    have hbs : bsize s = L.length := by rw [hL]; rfl
    have hll : L.length ≤ 1000000 := by rw [hL]; exact hs
    cases hb : beqB s ⟨#[]⟩ <;> simp only [zZ, reduceIte, Nat.reduceLT, Int.reduceToNat, Int.reduceLE, Int.reduceEq, Int.reduceLT, Nat.reduceEqDiff, Nat.reduceAdd, zUnh, hb, hbs]
    · have tm : ((L.length : Int).tmod 2 == 1) = decide (L.length % 2 = 1) := by
        rw [Int.tmod_eq_emod_of_nonneg (by omega)]
        by_cases h : L.length % 2 = 1
        · rw [decide_eq_true h]; simp; omega
        · rw [decide_eq_false h]; simp; omega
      rw [tm]
      have hne0 : L ≠ [] := fun e => by
        rw [beqB_dec] at hb
        exact of_decide_eq_false hb (ByteArray.ext (Array.ext' (by rw [← hL]; exact e)))
      have hne1 : L ≠ [45] := fun e => by
        rw [beqB_dec] at h
        exact of_decide_eq_false h (ByteArray.ext (Array.ext' (by rw [← hL]; exact e)))
      have hR2 : R = match unhexL L with | some q => (q, true) | none => ([], false) := by rw [hR, unhexV, if_neg hne1, if_neg hne0]
      refine CW_cond (decide (L.length % 2 = 1)) (by rfl) (fun h => CW_seq (CW_region ?_)) (fun h => CW_skip ?_)
      · simp only [zZ, reduceIte, Nat.reduceLT, Int.reduceToNat, Int.reduceLE, Int.reduceEq, Int.reduceLT, Nat.reduceEqDiff, Nat.reduceAdd, zUnh]
        refine CW_ret ?_
        simp only [zZ, reduceIte, Nat.reduceLT, Int.reduceToNat, Int.reduceLE, Int.reduceEq, Int.reduceLT, Nat.reduceEqDiff, Nat.reduceAdd, zUnh, bEnd, sAnswer, sAnswer.sRes]
        exact told_flat rfl (by rw [hR2, unhexL_odd L (of_decide_eq_true h)]; rfl)
      · simp only [zZ, reduceIte, Nat.reduceLT, Int.reduceToNat, Int.reduceLE, Int.reduceEq, Int.reduceLT, Nat.reduceEqDiff, Nat.reduceAdd]
        have hev : L.length % 2 = 0 := by have := of_decide_eq_false h; omega
        refine CW_seq (CW_region ?_)
        simp only [zZ, reduceIte, Nat.reduceLT, Int.reduceToNat, Int.reduceLE, Int.reduceEq, Int.reduceLT, Nat.reduceEqDiff, Nat.reduceAdd, zUnh]
        refine CW_seq (CW_block (BW_loop hc (fun n f l => ∃ (r q : List UInt8) (V : Value), r.length = n ∧ r.length % 2 = 0 ∧ 2 * q.length + r.length = L.length ∧ unhexL L = (unhexL r).map (q ++ ·) ∧ f = [(0, .string (str r)), (4, V)] ∧
          ((q = [] ∧ V = .slice none 0 0 ∧ l = []) ∨ (q ≠ [] ∧ V = .slice (some ⟨m.size + 0, 0, none⟩) q.length q.length ∧ l = [some (some (.cells false 1 (bytesV q)))]))) L.length ?_ ?_))
        · refine ⟨_, rfl, [], [0, 4], rfl, ?_⟩
          simp only [zZ, reduceIte, Nat.reduceLT, Int.reduceToNat, Int.reduceLE, Int.reduceEq, Int.reduceLT, Nat.reduceEqDiff, Nat.reduceAdd, zG]
          exact ⟨L, [], _, rfl, hev, by simp, by simp, by rw [hL]; rfl, .inl ⟨rfl, rfl⟩⟩
        · rintro n f l ⟨r, q, V, hrn, hr2, hqr, hun, rfl, hV⟩
          refine CW_seq (CW_seq (CW_region ?_))
          simp only [zZ, reduceIte, Nat.reduceLT, Int.reduceToNat, Int.reduceLE, Int.reduceEq, Int.reduceLT, Nat.reduceEqDiff, Nat.reduceAdd, zUnh]
          refine CW_cond (!beqB (str r) ⟨#[]⟩) (by rfl) (fun h => CW_skip ?_) (fun h => CW_exit ?_)
          · simp only [zZ, reduceIte, Nat.reduceLT, Int.reduceToNat, Int.reduceLE, Int.reduceEq, Int.reduceLT, Nat.reduceEqDiff, Nat.reduceAdd]
            have hr0 : r ≠ [] := fun e => by rw [e] at h; revert h; decide
            obtain ⟨a, b, r', hr'⟩ : ∃ a b r', r = a :: b :: r' := by
              match r, hr0, hr2 with
              | [], h, _ => exact absurd rfl h
              | [_], _, h => simp at h
              | a :: b :: r', _, _ => exact ⟨a, b, r', rfl⟩
            have i0 : aIndex Tryz.prog 9 (.string (str r)) (.int .i64 0) = some (.int .u8 a.toNat) := by rw [index_str (str r) 0 0 rfl (by rw [hr', Go.Proofs.YthcleiegefhmdaaGreatDoor.str_size]; simp), hr']; rfl
            have i1 : aIndex Tryz.prog 9 (.string (str r)) (.int .i64 1) = some (.int .u8 b.toNat) := by rw [index_str (str r) 1 1 rfl (by rw [hr', Go.Proofs.YthcleiegefhmdaaGreatDoor.str_size]; simp), hr']; rfl
            refine CW_seq (CW_block (CW_seq (CW_draw hmix 5 (by kernel_rfl) (by kernel_rfl) ?_)))
            simp only [zZ, reduceIte, Nat.reduceLT, Int.reduceToNat, Int.reduceLE, Int.reduceEq, Int.reduceLT, Nat.reduceEqDiff, Nat.reduceAdd, zUnh, i0, i1]
            refine ⟨by kernel_rfl, _, idxByte_spec (str digs) a _, ?_⟩
            have e1 : Lib.indexByte (str digs).data.toList a = digN a := idx_dig a
            have e2 : Lib.indexByte (str digs).data.toList b = digN b := idx_dig b
            refine ⟨by decide, ?_⟩
            simp only [zZ, reduceIte, Nat.reduceLT, Int.reduceToNat, Int.reduceLE, Int.reduceEq, Int.reduceLT, Nat.reduceEqDiff, Nat.reduceAdd, zUnh, i1, e1]
            refine ⟨by kernel_rfl, _, idxByte_spec (str digs) b _, ?_⟩
            rintro _ _ ⟨rfl, rfl⟩
            simp only [zZ, reduceIte, Nat.reduceLT, Int.reduceToNat, Int.reduceLE, Int.reduceEq, Int.reduceLT, Nat.reduceEqDiff, Nat.reduceAdd, zUnh, e2]
            refine CW_seq (CW_seq (CW_region ?_))
            have a1 := digN_ge a
            have a2 := digN_lt a
            have b1 := digN_ge b
            have b2 := digN_lt b
            cases ca : decide (digN a < 0) <;> cases cb : decide (digN b < 0) <;> simp only [zZ, reduceIte, Nat.reduceLT, Int.reduceToNat, Int.reduceLE, Int.reduceEq, Int.reduceLT, Nat.reduceEqDiff, Nat.reduceAdd, zUnh, ca, cb]
            case' false.false =>
              refine CW_cond false (by rfl) (fun h => by cases h) (fun _ => CW_skip ?_)
              simp only [zZ, reduceIte, Nat.reduceLT, Int.reduceToNat, Int.reduceLE, Int.reduceEq, Int.reduceLT, Nat.reduceEqDiff, Nat.reduceAdd]
              refine CW_region ?_
              have od := or_dig a b (of_decide_eq_false ca) (of_decide_eq_false cb)
              obtain ⟨d, hd⟩ : ∃ d, d = UInt8.ofNat (16 * digN a + digN b).toNat := ⟨_, rfl⟩
              rw [← hd] at od
              have hsl : ∀ get : Nat → Option Blk, gSlice Tryz.prog get 9 (.string (str r)) (some (.int .i64 2)) none = some (.string (str r')) := fun get => by
                rw [slice_from (str r) 2 (by decide) (by rw [hr']; show (2 : Int) ≤ ((str (a :: b :: r')).size : Nat); rw [Go.Proofs.YthcleiegefhmdaaGreatDoor.str_size]; simp only [List.length_cons]; omega), hr']
                congr 2
                unfold bsub
                congr 2
                show ((a :: b :: r').drop 2).take _ = r'
                rw [List.take_of_length_le]
                · rfl
                · show r'.length ≤ (str (a :: b :: r')).size - 2
                  rw [Go.Proofs.YthcleiegefhmdaaGreatDoor.str_size]; simp
              have hun' : ∀ z, unhexL r' = z → unhexL r = z.map (d :: ·) := fun z hz => by
                rw [hr', unhexL, if_neg (by have := of_decide_eq_false ca; have := of_decide_eq_false cb; omega), hz, hd]
                cases z <;> rfl
              have hun2 : unhexL L = (unhexL r').map ((q ++ [d]) ++ ·) := by
                rw [hun, hun' _ rfl, Option.map_map]
                congr 1
                funext z; simp
              rcases hV with ⟨rfl, rfl, rfl⟩ | ⟨hq0, rfl, rfl⟩
              · have ha : aAppend Tryz.prog (ext m [some (some (.cells false 1 [.int .u8 d.toNat]))]) 76 76 (.slice none 0 0) (.slice (some ⟨m.size + 0, 0, none⟩) 1 1) =
                    some (.slice (some ⟨m.size + 1, 0, none⟩) 1 1, ext m [some (some (.cells false 1 [.int .u8 d.toNat])), some (some (.cells false 1 [.int .u8 d.toNat]))]) :=
                  bapp_nil Tryz.underlying76 inf_u8 u8_zero u8_size rfl m _ (src_block Tryz.underlying76 (by rw [ext_get]; rfl) rfl) (by decide) (by rw [u8_bytes]; decide) (by decide)
                simp only [zZ, reduceIte, Nat.reduceLT, Int.reduceToNat, Int.reduceLE, Int.reduceEq, Int.reduceLT, Nat.reduceEqDiff, Nat.reduceAdd, zUnh, od, List.nil_append, List.length_nil, ha]
                refine CW_region ?_
                simp only [zZ, reduceIte, Nat.reduceLT, Int.reduceToNat, Int.reduceLE, Int.reduceEq, Int.reduceLT, Nat.reduceEqDiff, Nat.reduceAdd, zUnh, hsl]
                refine ⟨_, rfl, [1], [0, 4], rfl, ?_⟩
                simp only [zZ, reduceIte, Nat.reduceLT, Int.reduceToNat, Int.reduceLE, Int.reduceEq, Int.reduceLT, Nat.reduceEqDiff, Nat.reduceAdd, zG]
                exact ⟨n - 2, ⟨r', [d], _, by rw [← hrn, hr']; simp, by rw [hr'] at hr2; simp at hr2; omega, by rw [hr'] at hqr; simp at hqr ⊢; omega, hun2, rfl, .inr ⟨by simp, rfl, rfl⟩⟩, by rw [← hrn, hr']; simp only [List.length_cons]; omega⟩
              · have hlb : (bytesV q).length = q.length := by simp [bytesV]
                have hx3 : bytesV q ++ [.int .u8 d.toNat] = bytesV (q ++ [d]) := by simp [bytesV, byteV]
                have ha : aAppend Tryz.prog (ext m [some (some (.cells false 1 (bytesV q))), some (some (.cells false 1 [.int .u8 d.toNat]))]) 76 76 (.slice (some ⟨m.size + 0, 0, none⟩) q.length q.length) (.slice (some ⟨m.size + 1, 0, none⟩) 1 1) =
                    some (.slice (some ⟨m.size + 2, 0, none⟩) (q.length + 1) (q.length + 1), ext m [some none, some (some (.cells false 1 [.int .u8 d.toNat])), some (some (.cells false 1 (bytesV q ++ [.int .u8 d.toNat])))]) :=
                  bapp Tryz.underlying76 inf_u8 u8_zero u8_size rfl m _ (src_block Tryz.underlying76 (by rw [ext_get]; rfl) rfl) (by decide) rfl (by rw [hlb]; omega) (by rw [u8_bytes]; omega) (by omega)
                rw [hx3] at ha
                have rb : renL (ren (sig m.size [2]) 4) (bytesV (q ++ [d])) = some (bytesV (q ++ [d])) := renL_flat fun x hx => by
                  simp only [bytesV, List.mem_map] at hx
                  obtain ⟨y, _, rfl⟩ := hx
                  rfl
                simp only [zZ, reduceIte, Nat.reduceLT, Int.reduceToNat, Int.reduceLE, Int.reduceEq, Int.reduceLT, Nat.reduceEqDiff, Nat.reduceAdd, zUnh, od, List.cons_append, List.nil_append, List.length_cons, List.length_nil, ha]
                refine CW_region ?_
                simp only [zZ, reduceIte, Nat.reduceLT, Int.reduceToNat, Int.reduceLE, Int.reduceEq, Int.reduceLT, Nat.reduceEqDiff, Nat.reduceAdd, zUnh, hsl]
                refine ⟨_, rfl, [2], [0, 4], rfl, ?_⟩
                simp only [zZ, reduceIte, Nat.reduceLT, Int.reduceToNat, Int.reduceLE, Int.reduceEq, Int.reduceLT, Nat.reduceEqDiff, Nat.reduceAdd, zG, rb]
                exact ⟨n - 2, ⟨r', q ++ [d], _, by rw [← hrn, hr']; simp, by rw [hr'] at hr2; simp at hr2; omega, by rw [hr'] at hqr; simp at hqr ⊢; omega, hun2, rfl, .inr ⟨by simp, by simp, rfl⟩⟩, by rw [← hrn, hr']; simp only [List.length_cons]; omega⟩
            all_goals
              refine CW_cond true (by rfl) (fun _ => CW_seq (CW_region ?_)) (fun h => by cases h)
              simp only [zZ, reduceIte, Nat.reduceLT, Int.reduceToNat, Int.reduceLE, Int.reduceEq, Int.reduceLT, Nat.reduceEqDiff, Nat.reduceAdd, zUnh]
              refine CW_ret ?_
              simp only [zZ, reduceIte, Nat.reduceLT, Int.reduceToNat, Int.reduceLE, Int.reduceEq, Int.reduceLT, Nat.reduceEqDiff, Nat.reduceAdd, zUnh, bEnd, sAnswer, sAnswer.sRes]
              refine told_flat rfl ?_
              have hn : unhexL r = none := by
                rw [hr', unhexL, if_pos]
                first | exact .inl (of_decide_eq_true ca) | exact .inr (of_decide_eq_true cb)
              rw [hR2, hun, hn]; rfl
          · have hr0 : r = [] := by
              rw [beqB_dec] at h
              have h : str r = ⟨#[]⟩ := by simpa using h
              exact congrArg (fun x => x.data.toList) h
            subst hr0
            simp only [zZ, reduceIte, Nat.reduceLT, Int.reduceToNat, Int.reduceLE, Int.reduceEq, Int.reduceLT, Nat.reduceEqDiff, Nat.reduceAdd]
            refine CW_seq (CW_region ?_)
            rcases hV with ⟨rfl, rfl, rfl⟩ | ⟨hq0, rfl, rfl⟩
            · exact absurd (List.eq_nil_of_length_eq_zero (by simp at hqr; omega)) hne0
            · simp only [zZ, reduceIte, Nat.reduceLT, Int.reduceToNat, Int.reduceLE, Int.reduceEq, Int.reduceLT, Nat.reduceEqDiff, Nat.reduceAdd, zUnh]
              rw [to_str (ro := false) (st := 1) (l := q) (by rw [ext_get]; rfl) rfl]
              simp only [zZ, reduceIte, Nat.reduceLT, Int.reduceToNat, Int.reduceLE, Int.reduceEq, Int.reduceLT, Nat.reduceEqDiff, Nat.reduceAdd, zUnh]
              refine CW_ret ?_
              simp only [zZ, reduceIte, Nat.reduceLT, Int.reduceToNat, Int.reduceLE, Int.reduceEq, Int.reduceLT, Nat.reduceEqDiff, Nat.reduceAdd, zUnh, bEnd, sAnswer, sAnswer.sRes]
              refine told_flat rfl ?_
              rw [hR2, hun]
              simp [unhexL]
    · refine CW_cond true (by rfl) (fun _ => CW_seq (CW_region ?_)) (fun h => by cases h)
      simp only [zZ, reduceIte, Nat.reduceLT, Int.reduceToNat, Int.reduceLE, Int.reduceEq, Int.reduceLT, Nat.reduceEqDiff, Nat.reduceAdd, zUnh]
      refine CW_ret ?_
      simp only [zZ, reduceIte, Nat.reduceLT, Int.reduceToNat, Int.reduceLE, Int.reduceEq, Int.reduceLT, Nat.reduceEqDiff, Nat.reduceAdd, zUnh, bEnd, sAnswer, sAnswer.sRes]
      have e : s = ⟨#[]⟩ := by rw [beqB_dec] at hb; exact of_decide_eq_true hb
      subst e
      exact told_flat rfl (by rw [hR, hL]; rfl)
end Go.Proofs.YthcleiegefhmdaaGreatDoor
namespace Go.Proofs.YthcleiegefhmdaaGreatDoor
open Go.RowKit Abs
def sideV (s : List UInt8) : Int := if s = [115, 101, 110, 100, 101, 114] then 1 else if s = [114, 101, 99, 101, 105, 118, 101, 114] then 0 else -1
set_option maxRecDepth 100000 in
set_option maxHeartbeats 2000000 in
theorem rside_spec (s : List UInt8) (m : Mem) :
    Abs.Spec Tryz.prog 31 [.string (str s)] m fun u M => u = .int .i64 (sideV s) ∧ M = m := by
  refine Abs.Spec.walkB Tryz.func31 (by rfl) _ Tryz.results31 _ Tryz.ntmps31 (by simp) m [] (ext_nil m).symm 0 rfl (.inl rfl) ?_
  intro hc _
  have b1 : beqB (str s) ⟨#[115, 101, 110, 100, 101, 114]⟩ = decide (s = [115, 101, 110, 100, 101, 114]) := beqB_str s _
  have b2 : beqB (str s) ⟨#[114, 101, 99, 101, 105, 118, 101, 114]⟩ = decide (s = [114, 101, 99, 101, 105, 118, 101, 114]) := beqB_str s _
  refine CW_seq (CW_region ?_)
  simp only [zZ, reduceIte, Nat.reduceLT, Int.reduceToNat, Int.reduceLE, Int.reduceEq, Int.reduceLT, Nat.reduceEqDiff, Nat.reduceAdd, zTy]
  refine CW_seq (CW_seq (CW_region ?_))
  simp only [zZ, reduceIte, Nat.reduceLT, Int.reduceToNat, Int.reduceLE, Int.reduceEq, Int.reduceLT, Nat.reduceEqDiff, Nat.reduceAdd, zTy, b1]
  refine CW_cond (decide (s = [115, 101, 110, 100, 101, 114])) (by rfl) (fun h => CW_seq (CW_region ?_)) (fun h => CW_skip ?_)
  · simp only [zZ, reduceIte, Nat.reduceLT, Int.reduceToNat, Int.reduceLE, Int.reduceEq, Int.reduceLT, Nat.reduceEqDiff, Nat.reduceAdd, zTy]
    refine CW_ret ?_
    simp only [zZ, reduceIte, Nat.reduceLT, Int.reduceToNat, Int.reduceLE, Int.reduceEq, Int.reduceLT, Nat.reduceEqDiff, Nat.reduceAdd, zTy, bEnd, sAnswer, sAnswer.sRes]
    exact told_flat rfl (by rw [sideV, if_pos (of_decide_eq_true h)])
  · simp only [zZ, reduceIte, Nat.reduceLT, Int.reduceToNat, Int.reduceLE, Int.reduceEq, Int.reduceLT, Nat.reduceEqDiff, Nat.reduceAdd]
    refine CW_seq (CW_seq (CW_region ?_))
    simp only [zZ, reduceIte, Nat.reduceLT, Int.reduceToNat, Int.reduceLE, Int.reduceEq, Int.reduceLT, Nat.reduceEqDiff, Nat.reduceAdd, zTy, b2]
    refine CW_cond (decide (s = [114, 101, 99, 101, 105, 118, 101, 114])) (by rfl) (fun h2 => CW_seq (CW_region ?_)) (fun h2 => CW_skip ?_)
    · simp only [zZ, reduceIte, Nat.reduceLT, Int.reduceToNat, Int.reduceLE, Int.reduceEq, Int.reduceLT, Nat.reduceEqDiff, Nat.reduceAdd, zTy]
      refine CW_ret ?_
      simp only [zZ, reduceIte, Nat.reduceLT, Int.reduceToNat, Int.reduceLE, Int.reduceEq, Int.reduceLT, Nat.reduceEqDiff, Nat.reduceAdd, zTy, bEnd, sAnswer, sAnswer.sRes]
      exact told_flat rfl (by rw [sideV, if_neg (of_decide_eq_false h), if_pos (of_decide_eq_true h2)])
    · simp only [zZ, reduceIte, Nat.reduceLT, Int.reduceToNat, Int.reduceLE, Int.reduceEq, Int.reduceLT, Nat.reduceEqDiff, Nat.reduceAdd]
      refine CW_seq (CW_region ?_)
      simp only [zZ, reduceIte, Nat.reduceLT, Int.reduceToNat, Int.reduceLE, Int.reduceEq, Int.reduceLT, Nat.reduceEqDiff, Nat.reduceAdd, zTy]
      refine CW_ret ?_
      simp only [zZ, reduceIte, Nat.reduceLT, Int.reduceToNat, Int.reduceLE, Int.reduceEq, Int.reduceLT, Nat.reduceEqDiff, Nat.reduceAdd, zTy, bEnd, sAnswer, sAnswer.sRes]
      exact told_flat rfl (by rw [sideV, if_neg (of_decide_eq_false h), if_neg (of_decide_eq_false h2)])
theorem bapp_u8 (m : Mem) (l : List (Option (Option Blk))) (k j : Nat) (q : List UInt8) (d : UInt8) (hs : nth l k = some (some (.cells false 1 [.int .u8 d.toNat]))) (hj : nth l j = some (some (.cells false 1 (bytesV q)))) (hq : q.length ≤ 1000000000) :
    aAppend Tryz.prog (ext m l) 76 76 (.slice (some ⟨m.size + j, 0, none⟩) q.length q.length) (.slice (some ⟨m.size + k, 0, none⟩) 1 1) =
      some (.slice (some ⟨m.size + l.length, 0, none⟩) (q.length + 1) (q.length + 1), ext m (l.set j (some none) ++ [some (some (.cells false 1 (bytesV (q ++ [d]))))])) := by
  have h := bapp (N := 1) (n := q.length) (k := 1) (cs := bytesV q) Tryz.underlying76 inf_u8 u8_zero u8_size rfl m l (src_block (c := 1) (news := [.int .u8 d.toNat]) (ro := false) (s := 1) Tryz.underlying76 (by rw [ext_get, hs]) rfl) (by decide) hj (by simp [bytesV]) (by rw [u8_bytes]; omega) (by omega)
  rw [h]
  simp [bytesV, byteV]
theorem bapp_u8_nil (m : Mem) (l : List (Option (Option Blk))) (k : Nat) (d : UInt8) (hs : nth l k = some (some (.cells false 1 [.int .u8 d.toNat]))) :
    aAppend Tryz.prog (ext m l) 76 76 (.slice none 0 0) (.slice (some ⟨m.size + k, 0, none⟩) 1 1) =
      some (.slice (some ⟨m.size + l.length, 0, none⟩) 1 1, ext m (l ++ [some (some (.cells false 1 (bytesV [d])))])) :=
  bapp_nil (N := 1) (k := 1) (news := [.int .u8 d.toNat]) Tryz.underlying76 inf_u8 u8_zero u8_size rfl m l (src_block (c := 1) (news := [.int .u8 d.toNat]) (ro := false) (s := 1) Tryz.underlying76 (by rw [ext_get, hs]) rfl) (by decide) (by rw [u8_bytes]; decide) (by decide)
theorem bytesV_flat (q : List UInt8) (σ : Nat → Option Nat) : renL (ren σ 4) (bytesV q) = some (bytesV q) := renL_flat fun x hx => by
  simp only [bytesV, List.mem_map] at hx
  obtain ⟨y, _, rfl⟩ := hx
  rfl
theorem mul_dig (a b : UInt8) (ha : ¬ digN a < 0) (hb : ¬ digN b < 0) : IntKind.u8.wrap (IntKind.i64.wrap (IntKind.i64.wrap (16 * digN a) + digN b)) = ((UInt8.ofNat (16 * digN a + digN b).toNat).toNat : Int) := by
  have a2 := digN_lt a
  have b2 := digN_lt b
  rw [wr (x := 16 * digN a) (by omega) (by omega), wr (by omega) (by omega), UInt8.toNat_ofNat']
  unfold IntKind.wrap; simp [IntKind.bits, IntKind.signed]; omega
set_option maxRecDepth 100000 in
set_option maxHeartbeats 2000000 in
theorem rbytes_spec (s : List UInt8) (hs : s.length ≤ 1000000) (m : Mem) :
    Abs.Spec Tryz.prog 32 [.string (str s)] m fun u M => u = .tuple #[.string (str (unhexV s).1), .bool (unhexV s).2] ∧ M = m := by
  refine Abs.Spec.walkB Tryz.func32 (by rfl) _ Tryz.results32 _ Tryz.ntmps32 (by simp) m [] (ext_nil m).symm 0 rfl (.inl rfl) ?_
  intro hc _
  obtain ⟨R, hR⟩ : ∃ R, R = unhexV s := ⟨_, rfl⟩
  rw [← hR]
  have b1 : beqB (str s) ⟨#[45]⟩ = decide (s = [45]) := beqB_str s _
  refine CW_seq (CW_region ?_)
  simp only [zZ, reduceIte, Nat.reduceLT, Int.reduceToNat, Int.reduceLE, Int.reduceEq, Int.reduceLT, Nat.reduceEqDiff, Nat.reduceAdd, zTy]
  refine CW_seq (CW_seq (CW_region ?_))
  simp only [zZ, reduceIte, Nat.reduceLT, Int.reduceToNat, Int.reduceLE, Int.reduceEq, Int.reduceLT, Nat.reduceEqDiff, Nat.reduceAdd, zTy, b1]
  refine CW_cond (decide (s = [45])) (by rfl) (fun h => CW_seq (CW_region ?_)) (fun h => CW_skip ?_)
  · simp only [zZ, reduceIte, Nat.reduceLT, Int.reduceToNat, Int.reduceLE, Int.reduceEq, Int.reduceLT, Nat.reduceEqDiff, Nat.reduceAdd, zTy]
    refine CW_ret ?_
    simp only [zZ, reduceIte, Nat.reduceLT, Int.reduceToNat, Int.reduceLE, Int.reduceEq, Int.reduceLT, Nat.reduceEqDiff, Nat.reduceAdd, zTy, bEnd, sAnswer, sAnswer.sRes]
    exact told_flat rfl (by rw [hR, unhexV, if_pos (of_decide_eq_true h)]; rfl)
  have hne1 := of_decide_eq_false h
  simp only [zZ, reduceIte, Nat.reduceLT, Int.reduceToNat, Int.reduceLE, Int.reduceEq, Int.reduceLT, Nat.reduceEqDiff, Nat.reduceAdd]
  refine CW_seq (CW_seq (CW_region ?_))
  by_cases c1 : s = []
  · have z0 : ((s.length : Int) == 0) = true := by rw [c1]; rfl
    simp only [zZ, reduceIte, Nat.reduceLT, Int.reduceToNat, Int.reduceLE, Int.reduceEq, Int.reduceLT, Nat.reduceEqDiff, Nat.reduceAdd, zTy, bsize_str, z0]
    refine CW_cond true (by rfl) (fun _ => CW_seq (CW_region ?_)) (fun h => by cases h)
    simp only [zZ, reduceIte, Nat.reduceLT, Int.reduceToNat, Int.reduceLE, Int.reduceEq, Int.reduceLT, Nat.reduceEqDiff, Nat.reduceAdd, zTy]
    refine CW_ret ?_
    simp only [zZ, reduceIte, Nat.reduceLT, Int.reduceToNat, Int.reduceLE, Int.reduceEq, Int.reduceLT, Nat.reduceEqDiff, Nat.reduceAdd, zTy, bEnd, sAnswer, sAnswer.sRes]
    exact told_flat rfl (by rw [hR, unhexV, if_neg hne1, if_pos c1]; rfl)
  have hpos : 0 < s.length := List.length_pos_iff.2 c1
  have z0 : ((s.length : Int) == 0) = false := by rw [beq_eq_false_iff_ne]; omega
  have hR2 : R = match unhexL s with | some q => (q, true) | none => ([], false) := by rw [hR, unhexV, if_neg hne1, if_neg c1]; rfl
  have tm : ((s.length : Int).tmod 2 == 1) = decide (s.length % 2 = 1) := by
    rw [Int.tmod_eq_emod_of_nonneg (by omega)]
    by_cases h : s.length % 2 = 1
    · rw [decide_eq_true h]; simp; omega
    · rw [decide_eq_false h]; simp; omega
  simp only [zZ, reduceIte, Nat.reduceLT, Int.reduceToNat, Int.reduceLE, Int.reduceEq, Int.reduceLT, Nat.reduceEqDiff, Nat.reduceAdd, zTy, bsize_str, z0, tm]
  refine CW_cond (decide (s.length % 2 = 1)) (by rfl) (fun h => CW_seq (CW_region ?_)) (fun h => CW_skip ?_)
  · simp only [zZ, reduceIte, Nat.reduceLT, Int.reduceToNat, Int.reduceLE, Int.reduceEq, Int.reduceLT, Nat.reduceEqDiff, Nat.reduceAdd, zTy]
    refine CW_ret ?_
    simp only [zZ, reduceIte, Nat.reduceLT, Int.reduceToNat, Int.reduceLE, Int.reduceEq, Int.reduceLT, Nat.reduceEqDiff, Nat.reduceAdd, zTy, bEnd, sAnswer, sAnswer.sRes]
    exact told_flat rfl (by rw [hR2, unhexL_odd s (of_decide_eq_true h)]; rfl)
  have hev : s.length % 2 = 0 := by have := of_decide_eq_false h; omega
  simp only [zZ, reduceIte, Nat.reduceLT, Int.reduceToNat, Int.reduceLE, Int.reduceEq, Int.reduceLT, Nat.reduceEqDiff, Nat.reduceAdd]
  refine CW_seq (CW_region ?_)
  simp only [zZ, reduceIte, Nat.reduceLT, Int.reduceToNat, Int.reduceLE, Int.reduceEq, Int.reduceLT, Nat.reduceEqDiff, Nat.reduceAdd, zTy]
  refine CW_seq (CW_seq (CW_region ?_))
  simp only [zZ, reduceIte, Nat.reduceLT, Int.reduceToNat, Int.reduceLE, Int.reduceEq, Int.reduceLT, Nat.reduceEqDiff, Nat.reduceAdd, zTy]
  refine CW_block (BW_loop hc (fun n f l => ∃ (t : Nat) (q : List UInt8) (V : Value), t + n = s.length ∧ t % 2 = 0 ∧ q.length ≤ t ∧ unhexL s = (unhexL (s.drop t)).map (q ++ ·) ∧ f = [(0, .string (str s)), (4, V), (5, .int .i64 (t : Nat))] ∧
    ((q = [] ∧ t = 0 ∧ V = .slice none 0 0 ∧ l = []) ∨ (q ≠ [] ∧ V = .slice (some ⟨m.size + 0, 0, none⟩) q.length q.length ∧ l = [some (some (.cells false 1 (bytesV q)))]))) s.length ?_ ?_)
  · refine ⟨_, rfl, [], [0, 4, 5], rfl, ?_⟩
    simp only [zZ, reduceIte, Nat.reduceLT, Int.reduceToNat, Int.reduceLE, Int.reduceEq, Int.reduceLT, Nat.reduceEqDiff, Nat.reduceAdd, zG]
    exact ⟨0, [], _, by omega, rfl, by simp, by simp, rfl, .inl ⟨rfl, rfl, rfl⟩⟩
  · rintro n f l ⟨t, q, V, htn, ht2, hqt, hun, rfl, hV⟩
    refine CW_seq (CW_seq (CW_region ?_))
    simp only [zZ, reduceIte, Nat.reduceLT, Int.reduceToNat, Int.reduceLE, Int.reduceEq, Int.reduceLT, Nat.reduceEqDiff, Nat.reduceAdd, zTy, bsize_str]
    refine CW_cond (decide ((t : Int) < (s.length : Int))) (by rfl) (fun h => CW_skip ?_) (fun h => CW_exit ?_)
    · simp only [zZ, reduceIte, Nat.reduceLT, Int.reduceToNat, Int.reduceLE, Int.reduceEq, Int.reduceLT, Nat.reduceEqDiff, Nat.reduceAdd]
      have htl : t < s.length := by have := of_decide_eq_true h; omega
      obtain ⟨a, ha'⟩ : ∃ a, s[t]? = some a := ⟨_, List.getElem?_eq_getElem htl⟩
      obtain ⟨b, hb'⟩ : ∃ b, s[t + 1]? = some b := ⟨_, List.getElem?_eq_getElem (by omega)⟩
      have i0 := idx_str s t a ha'
      have i1 := idx_str s (t + 1) b hb'
      have hdr : s.drop t = a :: b :: s.drop (t + 2) := by
        rw [List.drop_eq_getElem_cons htl, (List.getElem?_eq_some_iff.1 ha').2, List.drop_eq_getElem_cons (show t + 1 < s.length by omega), (List.getElem?_eq_some_iff.1 hb').2]
      have x1 : IntKind.i64.wrap ((t : Int) + 1) = ((t + 1 : Nat) : Int) := by rw [wr (by omega) (by omega)]; omega
      have x2 : IntKind.i64.wrap ((t : Int) + 2) = ((t + 2 : Nat) : Int) := by rw [wr (by omega) (by omega)]; omega
      refine CW_seq (CW_block (CW_seq (CW_draw hmix 8 (by kernel_rfl) (by kernel_rfl) ?_)))
      simp only [zZ, reduceIte, Nat.reduceLT, Int.reduceToNat, Int.reduceLE, Int.reduceEq, Int.reduceLT, Nat.reduceEqDiff, Nat.reduceAdd, zTy, i0, i1, x1]
      refine ⟨by kernel_rfl, _, digit_spec a _, ?_⟩
      refine ⟨by decide, ?_⟩
      simp only [zZ, reduceIte, Nat.reduceLT, Int.reduceToNat, Int.reduceLE, Int.reduceEq, Int.reduceLT, Nat.reduceEqDiff, Nat.reduceAdd, zTy, i1, x1]
      refine ⟨by kernel_rfl, _, digit_spec b _, ?_⟩
      rintro _ _ ⟨rfl, rfl⟩
      simp only [zZ, reduceIte, Nat.reduceLT, Int.reduceToNat, Int.reduceLE, Int.reduceEq, Int.reduceLT, Nat.reduceEqDiff, Nat.reduceAdd, zTy]
      refine CW_seq (CW_seq (CW_region ?_))
      cases ca : decide (digN a < 0) <;> cases cb : decide (digN b < 0) <;> simp only [zZ, reduceIte, Nat.reduceLT, Int.reduceToNat, Int.reduceLE, Int.reduceEq, Int.reduceLT, Nat.reduceEqDiff, Nat.reduceAdd, zTy, ca, cb]
      case' false.false =>
        refine CW_cond false (by rfl) (fun h => by cases h) (fun _ => CW_skip ?_)
        simp only [zZ, reduceIte, Nat.reduceLT, Int.reduceToNat, Int.reduceLE, Int.reduceEq, Int.reduceLT, Nat.reduceEqDiff, Nat.reduceAdd]
        refine CW_region ?_
        have od := mul_dig a b (of_decide_eq_false ca) (of_decide_eq_false cb)
        obtain ⟨d, hd⟩ : ∃ d, d = UInt8.ofNat (16 * digN a + digN b).toNat := ⟨_, rfl⟩
        rw [← hd] at od
        have hun2 : unhexL s = (unhexL (s.drop (t + 2))).map ((q ++ [d]) ++ ·) := by
          rw [hun, hdr, unhexL, if_neg (by have := of_decide_eq_false ca; have := of_decide_eq_false cb; omega), ← hd]
          cases unhexL (s.drop (t + 2)) <;> simp
        rcases hV with ⟨rfl, rfl, rfl, rfl⟩ | ⟨hq0, rfl, rfl⟩
        · have ha := bapp_u8_nil m [some (some (.cells false 1 [.int .u8 d.toNat]))] 0 d rfl
          simp only [zZ, reduceIte, Nat.reduceLT, Int.reduceToNat, Int.reduceLE, Int.reduceEq, Int.reduceLT, Nat.reduceEqDiff, Nat.reduceAdd, zTy, od, new_u8, List.nil_append, List.length_nil, List.length_cons, ha]
          refine CW_region ?_
          simp only [zZ, reduceIte, Nat.reduceLT, Int.reduceToNat, Int.reduceLE, Int.reduceEq, Int.reduceLT, Nat.reduceEqDiff, Nat.reduceAdd, zTy, x2]
          refine ⟨_, rfl, [1], [0, 4, 5], rfl, ?_⟩
          simp only [zZ, reduceIte, Nat.reduceLT, Int.reduceToNat, Int.reduceLE, Int.reduceEq, Int.reduceLT, Nat.reduceEqDiff, Nat.reduceAdd, zG, bytesV_flat]
          exact ⟨n - 2, ⟨0 + 2, [d], _, by omega, by omega, by simp, hun2, rfl, .inr ⟨by simp, rfl, rfl⟩⟩, by omega⟩
        · have ha := bapp_u8 m [some (some (.cells false 1 (bytesV q))), some (some (.cells false 1 [.int .u8 d.toNat]))] 1 0 q d rfl rfl (by omega)
          simp only [zZ, reduceIte, Nat.reduceLT, Int.reduceToNat, Int.reduceLE, Int.reduceEq, Int.reduceLT, Nat.reduceEqDiff, Nat.reduceAdd, zTy, od, new_u8, List.cons_append, List.nil_append, List.length_nil, List.length_cons, ha]
          refine CW_region ?_
          simp only [zZ, reduceIte, Nat.reduceLT, Int.reduceToNat, Int.reduceLE, Int.reduceEq, Int.reduceLT, Nat.reduceEqDiff, Nat.reduceAdd, zTy, x2]
          refine ⟨_, rfl, [2], [0, 4, 5], rfl, ?_⟩
          simp only [zZ, reduceIte, Nat.reduceLT, Int.reduceToNat, Int.reduceLE, Int.reduceEq, Int.reduceLT, Nat.reduceEqDiff, Nat.reduceAdd, zG, bytesV_flat]
          exact ⟨n - 2, ⟨t + 2, q ++ [d], _, by omega, by omega, by simp; omega, hun2, rfl, .inr ⟨by simp, by simp, rfl⟩⟩, by omega⟩
      all_goals
        refine CW_cond true (by rfl) (fun _ => CW_seq (CW_region ?_)) (fun h => by cases h)
        simp only [zZ, reduceIte, Nat.reduceLT, Int.reduceToNat, Int.reduceLE, Int.reduceEq, Int.reduceLT, Nat.reduceEqDiff, Nat.reduceAdd, zTy]
        refine CW_ret ?_
        simp only [zZ, reduceIte, Nat.reduceLT, Int.reduceToNat, Int.reduceLE, Int.reduceEq, Int.reduceLT, Nat.reduceEqDiff, Nat.reduceAdd, zTy, bEnd, sAnswer, sAnswer.sRes]
        refine told_flat rfl ?_
        rw [hR2, hun, hdr, unhexL, if_pos]
        · rfl
        · first | exact .inl (of_decide_eq_true ca) | exact .inr (of_decide_eq_true cb)
    · simp only [zZ, reduceIte, Nat.reduceLT, Int.reduceToNat, Int.reduceLE, Int.reduceEq, Int.reduceLT, Nat.reduceEqDiff, Nat.reduceAdd]
      have htl : t = s.length := by have := of_decide_eq_false h; omega
      subst htl
      refine CW_seq (CW_region ?_)
      rcases hV with ⟨rfl, h0, rfl, rfl⟩ | ⟨hq0, rfl, rfl⟩
      · omega
      · simp only [zZ, reduceIte, Nat.reduceLT, Int.reduceToNat, Int.reduceLE, Int.reduceEq, Int.reduceLT, Nat.reduceEqDiff, Nat.reduceAdd, zTy]
        rw [to_str (ro := false) (st := 1) (l := q) (by rw [ext_get]; rfl) rfl]
        simp only [zZ, reduceIte, Nat.reduceLT, Int.reduceToNat, Int.reduceLE, Int.reduceEq, Int.reduceLT, Nat.reduceEqDiff, Nat.reduceAdd, zTy]
        refine CW_ret ?_
        simp only [zZ, reduceIte, Nat.reduceLT, Int.reduceToNat, Int.reduceLE, Int.reduceEq, Int.reduceLT, Nat.reduceEqDiff, Nat.reduceAdd, zTy, bEnd, sAnswer, sAnswer.sRes]
        refine told_flat rfl ?_
        rw [hR2, hun, List.drop_length]
        simp [unhexL]
end Go.Proofs.YthcleiegefhmdaaGreatDoor
namespace Go.Proofs.YthcleiegefhmdaaGreatDoor
open Go.RowKit Abs
def numQ (l : List UInt8) (a b : Int) : Option Int := if (numP l a b).2 = true then some (numP l a b).1 else none
def addS (L : List StepL) (r : Option (StepL × Nat)) : Option (List StepL) := match r with
  | none => none
  | some (x, t) => if L.length + t ≤ 4096 then some (L ++ List.replicate t x) else none
def stepsOf (st : PState) : List StepL := st.steps.map Prod.fst
def Added (K : Nat) (m : Mem) (p : Nat) (st : PState) (r : Option (StepL × Nat)) (u : Value) (M : Mem) : Prop :=
  Keeps K m M ∧ m.size ≤ M.size ∧ ∃ st', PAt K M p st' ∧ st'.n = st.n ∧ match addS (stepsOf st) r with
    | none => u = .bool false
    | some L => u = .bool true ∧ stepsOf st' = L ∧ st'.a = st.a ∧ st'.b = st.b ∧ st'.c = st.c ∧ st'.d = st.d
theorem Added.mono {K : Nat} {m m' M : Mem} {p : Nat} {st : PState} {r : Option (StepL × Nat)} {u : Value} (h : Added K m' p st r u M) (hk : Keeps K m m') (hs : m.size ≤ m'.size) : Added K m p st r u M :=
  ⟨hk.trans h.1, by have := h.2.1; omega, h.2.2⟩
theorem Added.no {K : Nat} {m M : Mem} {p : Nat} {st : PState} (hp : PAt K M p st) (hk : Keeps K m M) (hs : m.size ≤ M.size) : Added K m p st none (.bool false) M := ⟨hk, hs, st, hp, rfl, rfl⟩
theorem stepsOf_len (st : PState) : (stepsOf st).length = st.steps.length := by simp [stepsOf]
theorem added_spec (K p : Nat) (st : PState) (x : StepL) (V : Value) (times : Nat) (tv : Int) (htv : tv = times) (m : Mem) (hp : PAt K m p st) (hK : K ≤ m.size) (hV : FilesAt m V x.files) (hlen : st.steps.length ≤ 4096) (ht : times ≤ 1000000) :
    Abs.Spec Tryz.prog 25 [.pointer (some ⟨p, 0, none⟩), .agg (stepC (x, V)).toArray, .int .i64 tv] m (Added K m p st (some (x, times))) := by
  subst htv
  refine (step_spec K p st (x, V) times m hp hK hV hlen ht).thin ?_
  rintro u M ⟨h1, h2, h3, h4⟩
  refine ⟨M, Thin.refl _, h1, h2, _, h4, rfl, ?_⟩
  have e : addS (stepsOf st) (some (x, times)) = if st.steps.length + times ≤ 4096 then some (stepsOf st ++ List.replicate times x) else none := by
    rw [← stepsOf_len]; rfl
  rw [e]
  by_cases h : st.steps.length + times ≤ 4096
  · rw [if_pos h, if_pos h, h3, decide_eq_true h]
    exact ⟨rfl, by simp [stepsOf], rfl, rfl, rfl, rfl⟩
  · rw [if_neg h, h3, decide_eq_false h]
theorem Added.bool {K : Nat} {m M : Mem} {p : Nat} {st : PState} {r : Option (StepL × Nat)} {u : Value} (hA : Added K m p st r u M) : ∃ bb, u = .bool bb := by
  obtain ⟨_, _, st', _, _, h⟩ := hA
  revert h
  split
  · exact fun h => ⟨_, h⟩
  · exact fun h => ⟨_, h.1⟩
def wSender : List UInt8 := [115, 101, 110, 100, 101, 114]
def wReceiver : List UInt8 := [114, 101, 99, 101, 105, 118, 101, 114]
def wDrop : List UInt8 := [100, 114, 111, 112]
def stepK (k n : Int) : StepL := ⟨k, n, [], [], false, 0, 0⟩
def sideOf (ws : List (List UInt8)) (s r : Int) : Option (StepL × Nat) := match ws with
  | [a, b] => if a = wSender then (numQ b (-1) 4611686018427387903).map fun n => (stepK s n, 1) else if a = wReceiver then (numQ b (-1) 4611686018427387903).map fun n => (stepK r n, 1) else none
  | _ => none
def injectOf (ws : List (List UInt8)) : Option (StepL × Nat) := match ws with
  | [a, b, c] => if a = wSender ∨ a = wReceiver then
      (if (unhexV b).2 = true then (numQ c 0 64).map fun n => (⟨6, if a = wSender then 1 else 0, [], (unhexV b).1, false, n, 0⟩, 1) else none) else none
  | _ => none
def fateOf (ws : List (List UInt8)) : Option (StepL × Nat) := match ws with
  | [a] => if a = wDrop then some (⟨7, 0, [], [], true, 0, 0⟩, 1) else none
  | [a, b] => (numQ a 0 64).bind fun d => (numQ b 0 3).map fun c => (⟨7, 0, [], [], false, d, c⟩, 1)
  | _ => none
theorem build_step2 (k n : Int) : aBuild Tryz.prog 52 [(0, .int .i64 k), (1, .int .i64 n)] = some (.agg (stepC (stepK k n, .slice none 0 0)).toArray) := by kernel_rfl
theorem build_step1 (k : Int) : aBuild Tryz.prog 52 [(0, .int .i64 k)] = some (.agg (stepC (stepK k 0, .slice none 0 0)).toArray) := by kernel_rfl
theorem build_fate1 (b : Bool) : aBuild Tryz.prog 50 [(0, .bool b)] = some (.agg #[.bool b, .int .i64 0, .int .i64 0]) := by kernel_rfl
theorem build_fateD (n : Int) : aBuild Tryz.prog 50 [(1, .int .i64 n)] = some (.agg #[.bool false, .int .i64 n, .int .i64 0]) := by kernel_rfl
theorem build_fateC (n c : Int) : aBuild Tryz.prog 50 [(1, .int .i64 n), (2, .int .i64 c)] = some (.agg #[.bool false, .int .i64 n, .int .i64 c]) := by kernel_rfl
theorem build_stepF (k : Int) (b : Bool) (d c : Int) : aBuild Tryz.prog 52 [(0, .int .i64 k), (4, .agg #[.bool b, .int .i64 d, .int .i64 c])] = some (.agg (stepC (⟨k, 0, [], [], b, d, c⟩, .slice none 0 0)).toArray) := by kernel_rfl
theorem build_stepI (k : Int) (t : ByteArray) (b : Bool) (d c : Int) : aBuild Tryz.prog 52 [(0, .int .i64 k), (3, .string t), (4, .agg #[.bool b, .int .i64 d, .int .i64 c])] = some (.agg #[.int .i64 k, .int .i64 0, .slice none 0 0, .string t, .bool b, .int .i64 d, .int .i64 c]) := by kernel_rfl
set_option maxRecDepth 100000 in
set_option maxHeartbeats 2000000 in
theorem side_spec (K p : Nat) (st : PState) (ws : List (List UInt8)) (g o n c : Nat) (all : List Value) (s r : Int) (m : Mem) (hp : PAt K m p st) (hK : K ≤ m.size) (hlen : st.steps.length ≤ 4096) (hg : m.get g = some (.cells true 1 all)) (ha : ∀ i w, ws[i]? = some w → all[o + i]? = some (.string (str w)))
    (hn : ws.length = n) (hs : ∀ w ∈ ws, w.length ≤ 1000000) :
    Abs.Spec Tryz.prog 26 [.pointer (some ⟨p, 0, none⟩), .slice (some ⟨g, o, none⟩) n c, .int .i64 s, .int .i64 r] m (Added K m p st (sideOf ws s r)) := by
  refine Abs.Spec.walkM Tryz.func26 (by rfl) _ Tryz.results26 _ Tryz.ntmps26 (by simp) ?_
  intro hc hx k
  obtain ⟨R, hR⟩ : ∃ R, R = sideOf ws s r := ⟨_, rfl⟩
  rw [← hR]
  have no : R = none → ∃ m', Thin m m' ∧ Added K m p st R (.bool false) m' := fun h => ⟨m, Thin.refl _, by rw [h]; exact Added.no hp (Keeps.refl _ _) (Nat.le_refl _)⟩
  refine CW_seq (CW_region ?_)
  simp only [zZ, reduceIte, Nat.reduceLT, Int.reduceToNat, Int.reduceLE, Int.reduceEq, Int.reduceLT, Nat.reduceEqDiff, Nat.reduceAdd, zTy]
  refine CW_seq (CW_seq (CW_region ?_))
  by_cases h2 : n = 2
  case' neg =>
    have z0 : ((n : Int) != 2) = true := by rw [bne_iff_ne]; omega
    simp only [zZ, reduceIte, Nat.reduceLT, Int.reduceToNat, Int.reduceLE, Int.reduceEq, Int.reduceLT, Nat.reduceEqDiff, Nat.reduceAdd, zTy, z0]
    refine CW_cond true (by rfl) (fun _ => CW_seq (CW_region ?_)) (fun h => by cases h)
    simp only [zZ, reduceIte, Nat.reduceLT, Int.reduceToNat, Int.reduceLE, Int.reduceEq, Int.reduceLT, Nat.reduceEqDiff, Nat.reduceAdd, zTy]
    refine CW_ret ?_
    simp only [zZ, reduceIte, Nat.reduceLT, Int.reduceToNat, Int.reduceLE, Int.reduceEq, Int.reduceLT, Nat.reduceEqDiff, Nat.reduceAdd, zTy, mEnd, sAnswer, sAnswer.sRes]
    refine no ?_
    rw [hR]
    match ws, hn with
    | [], _ => rfl
    | [_], _ => rfl
    | [_, _], h => exact absurd h.symm h2
    | _ :: _ :: _ :: _, _ => rfl
  subst h2
  obtain ⟨w0, w1, rfl⟩ : ∃ w0 w1, ws = [w0, w1] := by
    match ws, hn with
    | [w0, w1], _ => exact ⟨w0, w1, rfl⟩
  have a0 := ha 0 w0 rfl
  have a1 := ha 1 w1 rfl
  have l2 : ((2 : Nat) : Int) = 2 := rfl
  have z0 : ((2 : Int) != 2) = false := rfl
  have b0 : beqB (str w0) ⟨#[115, 101, 110, 100, 101, 114]⟩ = decide (w0 = wSender) := beqB_str w0 _
  have b1 : beqB (str w0) ⟨#[114, 101, 99, 101, 105, 118, 101, 114]⟩ = decide (w0 = wReceiver) := beqB_str w0 _
  have hR1 : R = if w0 = wSender then (numQ w1 (-1) 4611686018427387903).map fun n => (stepK s n, 1) else if w0 = wReceiver then (numQ w1 (-1) 4611686018427387903).map fun n => (stepK r n, 1) else none := hR
  have hw1 := hs w1 (by simp)
  have adds : ∀ (k x : Int), R = some (stepK k x, 1) → Abs.Spec Tryz.prog 25 [.pointer (some ⟨p, 0, none⟩), .agg (stepC (stepK k x, .slice none 0 0)).toArray, .int .i64 1] m (Added K m p st R) := fun k x h => by
    rw [h]; exact added_spec K p st (stepK k x) _ 1 1 rfl m hp hK (FilesAt.nil m) hlen (by decide)
  cases c0 : decide (w0 = wSender)
  · have c0' := of_decide_eq_false c0
    cases c1 : decide (w0 = wReceiver)
    · simp only [zZ, reduceIte, Nat.reduceLT, Int.reduceToNat, Int.reduceLE, Int.reduceEq, Int.reduceLT, Nat.reduceEqDiff, Nat.reduceAdd, zTy, l2, z0, hg, a0, b0, b1, c0, c1]
      refine CW_cond true (by rfl) (fun _ => CW_seq (CW_region ?_)) (fun h => by cases h)
      simp only [zZ, reduceIte, Nat.reduceLT, Int.reduceToNat, Int.reduceLE, Int.reduceEq, Int.reduceLT, Nat.reduceEqDiff, Nat.reduceAdd, zTy]
      refine CW_ret ?_
      simp only [zZ, reduceIte, Nat.reduceLT, Int.reduceToNat, Int.reduceLE, Int.reduceEq, Int.reduceLT, Nat.reduceEqDiff, Nat.reduceAdd, zTy, mEnd, sAnswer, sAnswer.sRes]
      exact no (by rw [hR1, if_neg c0', if_neg (of_decide_eq_false c1)])
    · have hR2 : R = (numQ w1 (-1) 4611686018427387903).map fun n => (stepK r n, 1) := by rw [hR1, if_neg c0', if_pos (of_decide_eq_true c1)]
      simp only [zZ, reduceIte, Nat.reduceLT, Int.reduceToNat, Int.reduceLE, Int.reduceEq, Int.reduceLT, Nat.reduceEqDiff, Nat.reduceAdd, zTy, l2, z0, hg, a0, b0, b1, c0, c1]
      refine CW_cond false (by rfl) (fun h => by cases h) (fun _ => CW_skip ?_)
      simp only [zZ, reduceIte, Nat.reduceLT, Int.reduceToNat, Int.reduceLE, Int.reduceEq, Int.reduceLT, Nat.reduceEqDiff, Nat.reduceAdd]
      refine CW_seq (CW_region ?_)
      simp only [zZ, reduceIte, Nat.reduceLT, Int.reduceToNat, Int.reduceLE, Int.reduceEq, Int.reduceLT, Nat.reduceEqDiff, Nat.reduceAdd, zTy, l2, hg, a1]
      refine ⟨by kernel_rfl, _, number_spec (str w1) (-1) 4611686018427387903 (by rw [Go.Proofs.YthcleiegefhmdaaGreatDoor.str_size]; omega) _, ?_⟩
      rintro _ _ ⟨rfl, rfl⟩
      simp only [zZ, reduceIte, Nat.reduceLT, Int.reduceToNat, Int.reduceLE, Int.reduceEq, Int.reduceLT, Nat.reduceEqDiff, Nat.reduceAdd, zTy, str_data]
      unfold numQ at hR2
      rcases hxk : numP w1 (-1) 4611686018427387903 with ⟨x, ok⟩
      rw [hxk] at hR2
      refine CW_seq (CW_seq (CW_region ?_))
      simp only [zZ, reduceIte, Nat.reduceLT, Int.reduceToNat, Int.reduceLE, Int.reduceEq, Int.reduceLT, Nat.reduceEqDiff, Nat.reduceAdd, zTy, l2, hg, a0, b0, c0]
      refine CW_cond false (by rfl) (fun h => by cases h) (fun _ => CW_skip ?_)
      simp only [zZ, reduceIte, Nat.reduceLT, Int.reduceToNat, Int.reduceLE, Int.reduceEq, Int.reduceLT, Nat.reduceEqDiff, Nat.reduceAdd]
      refine CW_seq (CW_region ?_)
      cases ok
      · simp only [zZ, reduceIte, Nat.reduceLT, Int.reduceToNat, Int.reduceLE, Int.reduceEq, Int.reduceLT, Nat.reduceEqDiff, Nat.reduceAdd, zTy]
        refine CW_ret ?_
        simp only [zZ, reduceIte, Nat.reduceLT, Int.reduceToNat, Int.reduceLE, Int.reduceEq, Int.reduceLT, Nat.reduceEqDiff, Nat.reduceAdd, zTy, mEnd, sAnswer, sAnswer.sRes]
        exact no (by rw [hR2]; rfl)
      · simp only [zZ, reduceIte, Nat.reduceLT, Int.reduceToNat, Int.reduceLE, Int.reduceEq, Int.reduceLT, Nat.reduceEqDiff, Nat.reduceAdd, zTy, build_step2]
        refine ⟨by kernel_rfl, _, adds r x (by rw [hR2]; rfl), ?_⟩
        rintro u M hA
        obtain ⟨bb, hbb⟩ := hA.bool
        subst hbb
        simp only [zZ, reduceIte, Nat.reduceLT, Int.reduceToNat, Int.reduceLE, Int.reduceEq, Int.reduceLT, Nat.reduceEqDiff, Nat.reduceAdd, zTy]
        refine CW_ret ?_
        simp only [zZ, reduceIte, Nat.reduceLT, Int.reduceToNat, Int.reduceLE, Int.reduceEq, Int.reduceLT, Nat.reduceEqDiff, Nat.reduceAdd, zTy, mEnd, sAnswer, sAnswer.sRes]
        exact ⟨M, Thin.refl _, hA⟩
  · have hR2 : R = (numQ w1 (-1) 4611686018427387903).map fun n => (stepK s n, 1) := by rw [hR1, if_pos (of_decide_eq_true c0)]
    simp only [zZ, reduceIte, Nat.reduceLT, Int.reduceToNat, Int.reduceLE, Int.reduceEq, Int.reduceLT, Nat.reduceEqDiff, Nat.reduceAdd, zTy, l2, z0, hg, a0, b0, b1, c0]
    refine CW_cond false (by rfl) (fun h => by cases h) (fun _ => CW_skip ?_)
    simp only [zZ, reduceIte, Nat.reduceLT, Int.reduceToNat, Int.reduceLE, Int.reduceEq, Int.reduceLT, Nat.reduceEqDiff, Nat.reduceAdd]
    refine CW_seq (CW_region ?_)
    simp only [zZ, reduceIte, Nat.reduceLT, Int.reduceToNat, Int.reduceLE, Int.reduceEq, Int.reduceLT, Nat.reduceEqDiff, Nat.reduceAdd, zTy, l2, hg, a1]
    refine ⟨by kernel_rfl, _, number_spec (str w1) (-1) 4611686018427387903 (by rw [Go.Proofs.YthcleiegefhmdaaGreatDoor.str_size]; omega) _, ?_⟩
    rintro _ _ ⟨rfl, rfl⟩
    simp only [zZ, reduceIte, Nat.reduceLT, Int.reduceToNat, Int.reduceLE, Int.reduceEq, Int.reduceLT, Nat.reduceEqDiff, Nat.reduceAdd, zTy, str_data]
    unfold numQ at hR2
    rcases hxk : numP w1 (-1) 4611686018427387903 with ⟨x, ok⟩
    rw [hxk] at hR2
    refine CW_seq (CW_seq (CW_region ?_))
    simp only [zZ, reduceIte, Nat.reduceLT, Int.reduceToNat, Int.reduceLE, Int.reduceEq, Int.reduceLT, Nat.reduceEqDiff, Nat.reduceAdd, zTy, l2, hg, a0, b0, c0]
    refine CW_cond true (by rfl) (fun _ => CW_seq (CW_region ?_)) (fun h => by cases h)
    cases ok
    · simp only [zZ, reduceIte, Nat.reduceLT, Int.reduceToNat, Int.reduceLE, Int.reduceEq, Int.reduceLT, Nat.reduceEqDiff, Nat.reduceAdd, zTy]
      refine CW_ret ?_
      simp only [zZ, reduceIte, Nat.reduceLT, Int.reduceToNat, Int.reduceLE, Int.reduceEq, Int.reduceLT, Nat.reduceEqDiff, Nat.reduceAdd, zTy, mEnd, sAnswer, sAnswer.sRes]
      exact no (by rw [hR2]; rfl)
    · simp only [zZ, reduceIte, Nat.reduceLT, Int.reduceToNat, Int.reduceLE, Int.reduceEq, Int.reduceLT, Nat.reduceEqDiff, Nat.reduceAdd, zTy, build_step2]
      refine ⟨by kernel_rfl, _, adds s x (by rw [hR2]; rfl), ?_⟩
      rintro u M hA
      obtain ⟨bb, hbb⟩ := hA.bool
      subst hbb
      simp only [zZ, reduceIte, Nat.reduceLT, Int.reduceToNat, Int.reduceLE, Int.reduceEq, Int.reduceLT, Nat.reduceEqDiff, Nat.reduceAdd, zTy]
      refine CW_ret ?_
      simp only [zZ, reduceIte, Nat.reduceLT, Int.reduceToNat, Int.reduceLE, Int.reduceEq, Int.reduceLT, Nat.reduceEqDiff, Nat.reduceAdd, zTy, mEnd, sAnswer, sAnswer.sRes]
      exact ⟨M, Thin.refl _, hA⟩
end Go.Proofs.YthcleiegefhmdaaGreatDoor
namespace Go.Proofs.YthcleiegefhmdaaGreatDoor
open Go.RowKit Abs
theorem push_set (m : Mem) (x y : Blk) : (m.push x).set m.size (some y) = m.push y := by
  unfold Mem.push Mem.set Mem.size
  simp
set_option maxRecDepth 100000 in
set_option maxHeartbeats 2000000 in
theorem inject_spec (K p : Nat) (st : PState) (ws : List (List UInt8)) (g o n c : Nat) (all : List Value) (m : Mem) (hp : PAt K m p st) (hK : K ≤ m.size) (hlen : st.steps.length ≤ 4096) (hg : m.get g = some (.cells true 1 all)) (ha : ∀ i w, ws[i]? = some w → all[o + i]? = some (.string (str w)))
    (hn : ws.length = n) (hs : ∀ w ∈ ws, w.length ≤ 1000000) :
    Abs.Spec Tryz.prog 27 [.pointer (some ⟨p, 0, none⟩), .slice (some ⟨g, o, none⟩) n c] m (Added K m p st (injectOf ws)) := by
  refine Abs.Spec.walkM Tryz.func27 (by rfl) _ Tryz.results27 _ Tryz.ntmps27 (by simp) ?_
  intro hc hx k
  obtain ⟨R, hR⟩ : ∃ R, R = injectOf ws := ⟨_, rfl⟩
  rw [← hR]
  have no : ∀ M, R = none → Keeps K m M → m.size ≤ M.size → PAt K M p st → ∃ m', Thin M m' ∧ Added K m p st R (.bool false) m' := fun M h h1 h2 h3 => ⟨M, Thin.refl _, by rw [h]; exact Added.no h3 h1 h2⟩
  have hal := al_Step
  generalize aStride Tryz.prog 52 = s1 at hal
  refine CW_seq (CW_region ?_)
  simp only [zZ, reduceIte, Nat.reduceLT, Int.reduceToNat, Int.reduceLE, Int.reduceEq, Int.reduceLT, Nat.reduceEqDiff, Nat.reduceAdd, zTy]
  refine CW_seq (CW_seq (CW_region ?_))
  by_cases h2 : n = 3
  case' neg =>
    have z0 : ((n : Int) != 3) = true := by rw [bne_iff_ne]; omega
    simp only [zZ, reduceIte, Nat.reduceLT, Int.reduceToNat, Int.reduceLE, Int.reduceEq, Int.reduceLT, Nat.reduceEqDiff, Nat.reduceAdd, zTy, z0]
    refine CW_cond true (by rfl) (fun _ => CW_seq (CW_region ?_)) (fun h => by cases h)
    simp only [zZ, reduceIte, Nat.reduceLT, Int.reduceToNat, Int.reduceLE, Int.reduceEq, Int.reduceLT, Nat.reduceEqDiff, Nat.reduceAdd, zTy]
    refine CW_ret ?_
    simp only [zZ, reduceIte, Nat.reduceLT, Int.reduceToNat, Int.reduceLE, Int.reduceEq, Int.reduceLT, Nat.reduceEqDiff, Nat.reduceAdd, zTy, mEnd, sAnswer, sAnswer.sRes]
    refine no m ?_ (Keeps.refl _ _) (Nat.le_refl _) hp
    rw [hR]
    match ws, hn with
    | [], _ => rfl
    | [_], _ => rfl
    | [_, _], _ => rfl
    | [_, _, _], h => exact absurd h.symm h2
    | _ :: _ :: _ :: _ :: _, _ => rfl
  subst h2
  obtain ⟨w0, w1, w2, rfl⟩ : ∃ w0 w1 w2, ws = [w0, w1, w2] := by
    match ws, hn with
    | [w0, w1, w2], _ => exact ⟨w0, w1, w2, rfl⟩
  have a0 := ha 0 w0 rfl
  have a1 := ha 1 w1 rfl
  have a2 := ha 2 w2 rfl
  have l2 : ((3 : Nat) : Int) = 3 := rfl
  have z0 : ((3 : Int) != 3) = false := rfl
  have b0 : beqB (str w0) ⟨#[115, 101, 110, 100, 101, 114]⟩ = decide (w0 = wSender) := beqB_str w0 _
  have b1 : beqB (str w0) ⟨#[114, 101, 99, 101, 105, 118, 101, 114]⟩ = decide (w0 = wReceiver) := beqB_str w0 _
  have hR1 : R = if w0 = wSender ∨ w0 = wReceiver then
      (if (unhexV w1).2 = true then (numQ w2 0 64).map fun n => (⟨6, if w0 = wSender then 1 else 0, [], (unhexV w1).1, false, n, 0⟩, 1) else none) else none := hR
  have hw1 := hs w1 (by simp)
  have hw2 := hs w2 (by simp)
  have adds : ∀ (x : StepL) (C : Value) (s : Nat) (cs : List Value), x.files = [] → C = .agg (stepC (x, .slice none 0 0)).toArray → R = some (x, 1) → Abs.Spec Tryz.prog 25 [.pointer (some ⟨p, 0, none⟩), C, .int .i64 1] (m.push (.cells false s cs)) (Added K m p st R) := fun x C s cs hf hC h => by
    subst hC
    rw [h]
    refine (added_spec K p st x _ 1 1 rfl (m.push (.cells false s cs)) (hp.push _) (by rw [Mem.size_push]; omega) (by rw [hf]; exact FilesAt.nil _) hlen (by decide)).thin ?_
    exact fun v M h => ⟨M, Thin.refl _, h.mono (Keeps.push _ _ _) (by rw [Mem.size_push]; omega)⟩
  cases c0 : decide (w0 = wSender) <;> cases c1 : decide (w0 = wReceiver) <;> simp only [zZ, reduceIte, Nat.reduceLT, Int.reduceToNat, Int.reduceLE, Int.reduceEq, Int.reduceLT, Nat.reduceEqDiff, Nat.reduceAdd, zTy, l2, z0, hg, a0, b0, b1, c0, c1]
  case' false.false =>
    refine CW_cond true (by rfl) (fun _ => CW_seq (CW_region ?_)) (fun h => by cases h)
    simp only [zZ, reduceIte, Nat.reduceLT, Int.reduceToNat, Int.reduceLE, Int.reduceEq, Int.reduceLT, Nat.reduceEqDiff, Nat.reduceAdd, zTy]
    refine CW_ret ?_
    simp only [zZ, reduceIte, Nat.reduceLT, Int.reduceToNat, Int.reduceLE, Int.reduceEq, Int.reduceLT, Nat.reduceEqDiff, Nat.reduceAdd, zTy, mEnd, sAnswer, sAnswer.sRes]
    exact no m (by rw [hR1, if_neg]; rintro (h | h); exact of_decide_eq_false c0 h; exact of_decide_eq_false c1 h) (Keeps.refl _ _) (Nat.le_refl _) hp
  all_goals
    have hor : w0 = wSender ∨ w0 = wReceiver := by first | exact .inl (of_decide_eq_true c0) | exact .inr (of_decide_eq_true c1)
    rw [if_pos hor] at hR1
    refine CW_cond false (by rfl) (fun h => by cases h) (fun _ => CW_skip ?_)
    simp only [zZ, reduceIte, Nat.reduceLT, Int.reduceToNat, Int.reduceLE, Int.reduceEq, Int.reduceLT, Nat.reduceEqDiff, Nat.reduceAdd]
    refine CW_seq (CW_region ?_)
    simp only [zZ, reduceIte, Nat.reduceLT, Int.reduceToNat, Int.reduceLE, Int.reduceEq, Int.reduceLT, Nat.reduceEqDiff, Nat.reduceAdd, zTy, l2, hg, a1]
    refine ⟨by kernel_rfl, _, unhex_spec (str w1) (by rw [Go.Proofs.YthcleiegefhmdaaGreatDoor.str_size]; omega) _, ?_⟩
    rintro _ _ ⟨rfl, rfl⟩
    simp only [zZ, reduceIte, Nat.reduceLT, Int.reduceToNat, Int.reduceLE, Int.reduceEq, Int.reduceLT, Nat.reduceEqDiff, Nat.reduceAdd, zTy, str_data]
    refine CW_seq (CW_region ?_)
    simp only [zZ, reduceIte, Nat.reduceLT, Int.reduceToNat, Int.reduceLE, Int.reduceEq, Int.reduceLT, Nat.reduceEqDiff, Nat.reduceAdd, zTy, l2, hg, a2]
    refine ⟨by kernel_rfl, _, number_spec (str w2) 0 64 (by rw [Go.Proofs.YthcleiegefhmdaaGreatDoor.str_size]; omega) _, ?_⟩
    rintro _ _ ⟨rfl, rfl⟩
    simp only [zZ, reduceIte, Nat.reduceLT, Int.reduceToNat, Int.reduceLE, Int.reduceEq, Int.reduceLT, Nat.reduceEqDiff, Nat.reduceAdd, zTy, str_data]
    unfold numQ at hR1
    rcases hxk : numP w2 0 64 with ⟨x, ok⟩
    rcases huk : unhexV w1 with ⟨y, is⟩
    rw [hxk, huk] at hR1
    refine CW_seq (CW_region ?_)
    simp only [zZ, reduceIte, Nat.reduceLT, Int.reduceToNat, Int.reduceLE, Int.reduceEq, Int.reduceLT, Nat.reduceEqDiff, Nat.reduceAdd, zTy, build_fateD, build_stepI, hal, Mem.get_push_new, push_set]
    refine CW_seq (CW_seq (CW_region ?_))
    simp only [zZ, reduceIte, Nat.reduceLT, Int.reduceToNat, Int.reduceLE, Int.reduceEq, Int.reduceLT, Nat.reduceEqDiff, Nat.reduceAdd, zTy, l2, hg, a0, b0, c0, Mem.get_push_old (get_live hg)]
    first
      | refine CW_cond true (by rfl) (fun _ => CW_region ?_) (fun h => by cases h)
        simp only [zZ, reduceIte, Nat.reduceLT, Int.reduceToNat, Int.reduceLE, Int.reduceEq, Int.reduceLT, Nat.reduceEqDiff, Nat.reduceAdd, zTy, Mem.get_push_new, push_set]
      | refine CW_cond false (by rfl) (fun h => by cases h) (fun _ => CW_skip ?_)
        simp only [zZ, reduceIte, Nat.reduceLT, Int.reduceToNat, Int.reduceLE, Int.reduceEq, Int.reduceLT, Nat.reduceEqDiff, Nat.reduceAdd]
    refine CW_seq (CW_region ?_)
    cases is <;> cases ok <;> simp only [zZ, reduceIte, Nat.reduceLT, Int.reduceToNat, Int.reduceLE, Int.reduceEq, Int.reduceLT, Nat.reduceEqDiff, Nat.reduceAdd, zTy, Mem.get_push_new]
    case' true.true =>
      first
        | refine ⟨by kernel_rfl, _, adds ⟨6, 1, [], y, false, x, 0⟩ _ _ _ rfl rfl (by rw [hR1, if_pos (of_decide_eq_true c0)]; rfl), ?_⟩
        | refine ⟨by kernel_rfl, _, adds ⟨6, 0, [], y, false, x, 0⟩ _ _ _ rfl rfl (by rw [hR1, if_neg (of_decide_eq_false c0)]; rfl), ?_⟩
      rintro u M hA
      obtain ⟨bb, hbb⟩ := hA.bool
      subst hbb
      simp only [zZ, reduceIte, Nat.reduceLT, Int.reduceToNat, Int.reduceLE, Int.reduceEq, Int.reduceLT, Nat.reduceEqDiff, Nat.reduceAdd, zTy]
      refine CW_ret ?_
      simp only [zZ, reduceIte, Nat.reduceLT, Int.reduceToNat, Int.reduceLE, Int.reduceEq, Int.reduceLT, Nat.reduceEqDiff, Nat.reduceAdd, zTy, mEnd, sAnswer, sAnswer.sRes]
      exact ⟨M, Thin.refl _, hA⟩
    all_goals
      refine CW_ret ?_
      simp only [zZ, reduceIte, Nat.reduceLT, Int.reduceToNat, Int.reduceLE, Int.reduceEq, Int.reduceLT, Nat.reduceEqDiff, Nat.reduceAdd, zTy, mEnd, sAnswer, sAnswer.sRes]
      exact no _ (by rw [hR1]; rfl) (Keeps.push _ _ _) (by rw [Mem.size_push]; omega) (hp.push _)
theorem numsV_len2 : ∀ {ws : List (List UInt8)} {bs : List (Int × Int)} {q : List Int}, numsV ws bs = some q → q.length = bs.length
  | [], [], q, h => by simp [numsV] at h; subst h; rfl
  | [], _ :: _, _, h => by cases h
  | _ :: _, [], _, h => by cases h
  | w :: r, b :: bs, q, h => by
    rw [numsV] at h
    split at h
    · rw [Option.map_eq_some_iff] at h
      obtain ⟨q', h1, rfl⟩ := h
      simp [numsV_len2 h1]
    · cases h
theorem new_twos2 (a b c d : Int) : nBuildSlice Tryz.prog 94 2 [(0, .agg #[.int .i64 a, .int .i64 b]), (1, .agg #[.int .i64 c, .int .i64 d])] = some (.cells false 2 [.int .i64 a, .int .i64 b, .int .i64 c, .int .i64 d]) := by kernel_rfl
theorem build_two (a b : Int) : aBuild Tryz.prog 66 [(0, .int .i64 a), (1, .int .i64 b)] = some (.agg #[.int .i64 a, .int .i64 b]) := by kernel_rfl
set_option maxRecDepth 100000 in
set_option maxHeartbeats 2000000 in
theorem fate_spec (K p : Nat) (st : PState) (ws : List (List UInt8)) (g o n c : Nat) (all : List Value) (m : Mem) (hp : PAt K m p st) (hK : K ≤ m.size) (hlen : st.steps.length ≤ 4096) (hg : m.get g = some (.cells true 1 all)) (ha : ∀ i w, ws[i]? = some w → all[o + i]? = some (.string (str w)))
    (hn : ws.length = n) (hs : ∀ w ∈ ws, w.length ≤ 1000000) :
    Abs.Spec Tryz.prog 28 [.pointer (some ⟨p, 0, none⟩), .slice (some ⟨g, o, none⟩) n c] m (Added K m p st (fateOf ws)) := by
  refine Abs.Spec.walkM Tryz.func28 (by rfl) _ Tryz.results28 _ Tryz.ntmps28 (by simp) ?_
  intro hc hx k
  obtain ⟨R, hR⟩ : ∃ R, R = fateOf ws := ⟨_, rfl⟩
  rw [← hR]
  have no : ∀ M, R = none → Keeps K m M → m.size ≤ M.size → PAt K M p st → ∃ m', Thin M m' ∧ Added K m p st R (.bool false) m' := fun M h h1 h2 h3 => ⟨M, Thin.refl _, by rw [h]; exact Added.no h3 h1 h2⟩
  refine CW_seq (CW_region ?_)
  simp only [zZ, reduceIte, Nat.reduceLT, Int.reduceToNat, Int.reduceLE, Int.reduceEq, Int.reduceLT, Nat.reduceEqDiff, Nat.reduceAdd, zTy]
  refine CW_seq (CW_seq (CW_region ?_))
  have adds : ∀ (x : StepL) (C : Value) (M : Mem), Keeps K m M → m.size ≤ M.size → PAt K M p st → x.files = [] → C = .agg (stepC (x, .slice none 0 0)).toArray → R = some (x, 1) → Abs.Spec Tryz.prog 25 [.pointer (some ⟨p, 0, none⟩), C, .int .i64 1] M (Added K m p st R) := fun x C M hk hsz hpM hf hC h => by
    subst hC
    rw [h]
    refine (added_spec K p st x _ 1 1 rfl M hpM (by omega) (by rw [hf]; exact FilesAt.nil _) hlen (by decide)).thin ?_
    exact fun v M' h => ⟨M', Thin.refl _, h.mono hk hsz⟩
  -- the word drop
  have hdrop : n = 1 → ∃ w0, ws = [w0] := fun h => by
    match ws, hn.trans h with
    | [w0], _ => exact ⟨w0, rfl⟩
  by_cases hd : ws = [wDrop]
  · subst hd
    have h1 : n = 1 := hn.symm
    subst h1
    have a0 := ha 0 wDrop rfl
    have z0 : (((1 : Nat) : Int) == 1) = true := rfl
    have l1 : ((1 : Nat) : Int) = 1 := rfl
    have z1 : ((1 : Int) == 1) = true := rfl
    have b0 : beqB (str wDrop) ⟨#[100, 114, 111, 112]⟩ = true := by decide
    simp only [zZ, reduceIte, Nat.reduceLT, Int.reduceToNat, Int.reduceLE, Int.reduceEq, Int.reduceLT, Nat.reduceEqDiff, Nat.reduceAdd, zTy, l1, z1, hg, a0, b0]
    refine CW_cond true (by rfl) (fun _ => CW_seq (CW_region ?_)) (fun h => by cases h)
    simp only [zZ, reduceIte, Nat.reduceLT, Int.reduceToNat, Int.reduceLE, Int.reduceEq, Int.reduceLT, Nat.reduceEqDiff, Nat.reduceAdd, zTy, build_fate1, build_stepF]
    refine ⟨by kernel_rfl, _, adds ⟨7, 0, [], [], true, 0, 0⟩ _ m (Keeps.refl _ _) (Nat.le_refl _) hp rfl rfl hR, ?_⟩
    rintro u M hA
    obtain ⟨bb, hbb⟩ := hA.bool
    subst hbb
    simp only [zZ, reduceIte, Nat.reduceLT, Int.reduceToNat, Int.reduceLE, Int.reduceEq, Int.reduceLT, Nat.reduceEqDiff, Nat.reduceAdd, zTy]
    refine CW_ret ?_
    simp only [zZ, reduceIte, Nat.reduceLT, Int.reduceToNat, Int.reduceLE, Int.reduceEq, Int.reduceLT, Nat.reduceEqDiff, Nat.reduceAdd, zTy, mEnd, sAnswer, sAnswer.sRes]
    exact ⟨M, Thin.refl _, hA⟩
  obtain ⟨M1, hM1⟩ : ∃ M1, M1 = m.push (.cells false 2 [.int .i64 0, .int .i64 64, .int .i64 0, .int .i64 3]) := ⟨_, rfl⟩
  have hg1 : M1.get g = some (.cells true 1 all) := by rw [hM1, Mem.get_push_old (get_live hg)]; exact hg
  have hb1 : M1.get m.size = some (.cells false 2 (([(0, 64), (0, 3)] : List (Int × Int)).flatMap bC)) := by rw [hM1, Mem.get_push_new]; rfl
  have hp1 : PAt K M1 p st := by rw [hM1]; exact hp.push _
  have hk1 : Keeps K m M1 := by rw [hM1]; exact Keeps.push _ _ _
  have hs1 : M1.size = m.size + 1 := by rw [hM1, Mem.size_push]
  have hnums := numbers_spec ws [(0, 64), (0, 3)] g o n c m.size 2 true false all M1 hg1 ha hn hb1 rfl (by decide) (by decide) hs
  have hR2 : R = match numsV ws [(0, 64), (0, 3)] with
      | some [d, c] => some (⟨7, 0, [], [], false, d, c⟩, 1)
      | _ => none := by
    rw [hR]
    match ws with
    | [] => rfl
    | [a] =>
      have : ¬ a = wDrop := fun e => hd (by rw [e])
      rw [fateOf, if_neg this, numsV_len _ _ (by simp)]
    | [a, b] =>
      simp only [fateOf, numsV, numQ]
      by_cases h1 : (numP a 0 64).2 = true <;> by_cases h2 : (numP b 0 3).2 = true <;> simp [h1, h2]
    | a :: b :: c :: r => rw [numsV_len _ _ (by simp)]; rfl
  have fin : ∀ (h : Abs.Spec Tryz.prog 24 [.slice (some ⟨g, o, none⟩) n c, .slice (some ⟨m.size, 0, none⟩) 2 2] M1 (numsR M1 2 (numsV ws [(0, 64), (0, 3)]))), True := fun _ => trivial
  have cond : ∀ (f : AL) (Q : Exit → AL → Mem → Prop), True := fun _ _ => trivial
  have hgd : ∀ (h1 : n = 1) w0, ws = [w0] → decide (w0 = wDrop) = false := fun _ w0 h => decide_eq_false fun e => hd (by rw [h, e])
  have rest : ∀ f : AL, AL.get f 0 = some (.pointer (some ⟨p, 0, none⟩)) → AL.get f 1 = some (.slice (some ⟨g, o, none⟩) n c) → True := fun _ _ _ => trivial
  clear fin cond rest
  have z0 : (n = 1 ∧ ∃ w0, ws = [w0] ∧ ¬ w0 = wDrop) ∨ n ≠ 1 := by
    by_cases h : n = 1
    · obtain ⟨w0, hw⟩ := hdrop h
      exact .inl ⟨h, w0, hw, fun e => hd (by rw [hw, e])⟩
    · exact .inr h
  rcases z0 with ⟨rfl, w0, rfl, hw0⟩ | hn1
  case' inl =>
    have a0 := ha 0 w0 rfl
    have l1 : ((1 : Nat) : Int) = 1 := rfl
    have z1 : ((1 : Int) == 1) = true := rfl
    have b0 : beqB (str w0) ⟨#[100, 114, 111, 112]⟩ = decide (w0 = wDrop) := beqB_str w0 _
    rw [decide_eq_false hw0] at b0
    simp only [zZ, reduceIte, Nat.reduceLT, Int.reduceToNat, Int.reduceLE, Int.reduceEq, Int.reduceLT, Nat.reduceEqDiff, Nat.reduceAdd, zTy, l1, z1, hg, a0, b0]
  case' inr =>
    have z1 : ((n : Int) == 1) = false := by rw [beq_eq_false_iff_ne]; omega
    simp only [zZ, reduceIte, Nat.reduceLT, Int.reduceToNat, Int.reduceLE, Int.reduceEq, Int.reduceLT, Nat.reduceEqDiff, Nat.reduceAdd, zTy, z1]
  all_goals
    refine CW_cond false (by rfl) (fun h => by cases h) (fun _ => CW_skip ?_)
    simp only [zZ, reduceIte, Nat.reduceLT, Int.reduceToNat, Int.reduceLE, Int.reduceEq, Int.reduceLT, Nat.reduceEqDiff, Nat.reduceAdd]
    refine CW_seq (CW_region ?_)
    simp only [zZ, reduceIte, Nat.reduceLT, Int.reduceToNat, Int.reduceLE, Int.reduceEq, Int.reduceLT, Nat.reduceEqDiff, Nat.reduceAdd, zTy, build_two, new_twos2, ← hM1]
    refine ⟨by kernel_rfl, _, hnums, ?_⟩
    rintro u M hN
    cases hq : numsV _ [(0, 64), (0, 3)] with
    | none =>
      rw [hq] at hN hR2
      obtain ⟨rfl, rfl⟩ := hN
      simp only [zZ, reduceIte, Nat.reduceLT, Int.reduceToNat, Int.reduceLE, Int.reduceEq, Int.reduceLT, Nat.reduceEqDiff, Nat.reduceAdd, zTy]
      refine CW_seq (CW_draw hmix 11 (by kernel_rfl) (by kernel_rfl) ?_)
      simp only [zZ, reduceIte, Nat.reduceLT, Int.reduceToNat, Int.reduceLE, Int.reduceEq, Int.reduceLT, Nat.reduceEqDiff, Nat.reduceAdd, zTy]
      refine CW_ret ?_
      simp only [zZ, reduceIte, Nat.reduceLT, Int.reduceToNat, Int.reduceLE, Int.reduceEq, Int.reduceLT, Nat.reduceEqDiff, Nat.reduceAdd, zTy, mEnd, sAnswer, sAnswer.sRes]
      exact no _ hR2 hk1 (by omega) hp1
    | some q =>
      rw [hq] at hN hR2
      obtain ⟨rfl, hM⟩ := hN
      obtain ⟨d, cc, rfl⟩ : ∃ d cc, q = [d, cc] := by
        have hl := numsV_len2 hq
        match q, hl with
        | [d, cc], _ => exact ⟨d, cc, rfl⟩
      have hge : M.get M1.size = some (.cells false 1 [.int .i64 d, .int .i64 cc]) := by
        rw [hM]
        have := ext_get M1 [some (some (.cells false 1 (iC [d, cc])))] 0
        rw [Nat.add_zero] at this
        rw [this]; rfl
      have hk2 : Keeps K m M := by rw [hM]; exact hk1.trans (Keeps.ext _ _ _)
      have hs2 : m.size ≤ M.size := by rw [hM, ext_size]; omega
      have hp2 : PAt K M p st := by rw [hM]; exact hp1.ext _
      clear hM
      have l22 : ((2 : Nat) : Int) = 2 := rfl
      simp only [zZ, reduceIte, Nat.reduceLT, Int.reduceToNat, Int.reduceLE, Int.reduceEq, Int.reduceLT, Nat.reduceEqDiff, Nat.reduceAdd, zTy]
      refine CW_seq (CW_draw hmix 11 (by kernel_rfl) (by kernel_rfl) ?_)
      simp only [zZ, reduceIte, Nat.reduceLT, Int.reduceToNat, Int.reduceLE, Int.reduceEq, Int.reduceLT, Nat.reduceEqDiff, Nat.reduceAdd, zTy, l22, hge, build_fateC, build_stepF]
      refine ⟨by kernel_rfl, _, adds ⟨7, 0, [], [], false, d, cc⟩ _ M hk2 hs2 hp2 rfl rfl hR2, ?_⟩
      rintro u M3 hA
      obtain ⟨bb, hbb⟩ := hA.bool
      subst hbb
      simp only [zZ, reduceIte, Nat.reduceLT, Int.reduceToNat, Int.reduceLE, Int.reduceEq, Int.reduceLT, Nat.reduceEqDiff, Nat.reduceAdd, zTy]
      refine CW_ret ?_
      simp only [zZ, reduceIte, Nat.reduceLT, Int.reduceToNat, Int.reduceLE, Int.reduceEq, Int.reduceLT, Nat.reduceEqDiff, Nat.reduceAdd, zTy, mEnd, sAnswer, sAnswer.sRes]
      exact ⟨M3, Thin.refl _, hA⟩
end Go.Proofs.YthcleiegefhmdaaGreatDoor
namespace Go.Proofs.YthcleiegefhmdaaGreatDoor
open Go.RowKit Abs
def wordWorld : List UInt8 := [119, 111, 114, 108, 100]
def rworldV : List (List UInt8) → (Int × Int × Int × Int) × Bool
  | [w0, w1, w2, w3, w4] => if w0 = wordWorld then
      (((numR w1 13 1024).1, (numR w2 13 1024).1, (numR w3 0 1000).1, (numR w4 0 64).1), (numR w1 13 1024).2 && (numR w2 13 1024).2 && (numR w3 0 1000).2 && (numR w4 0 64).2) else ((0, 0, 0, 0), false)
  | _ => ((0, 0, 0, 0), false)
def scrV (x : Int × Int × Int × Int) (s : Value) : Value := .agg #[.int .i64 x.1, .int .i64 x.2.1, .int .i64 x.2.2.1, .int .i64 x.2.2.2, s]
theorem build_rscr0 : aBuild Tryz.prog 31 [] = some (scrV (0, 0, 0, 0) (.slice none 0 0)) := by kernel_rfl
theorem build_rscr4 (a b c d : Int) : aBuild Tryz.prog 31 [(0, .int .i64 a), (1, .int .i64 b), (2, .int .i64 c), (3, .int .i64 d)] = some (scrV (a, b, c, d) (.slice none 0 0)) := by kernel_rfl
set_option maxRecDepth 100000 in
set_option maxHeartbeats 2000000 in
theorem rworld_spec (ws : List (List UInt8)) (n g : Nat) (ro : Bool) (hn : ws.length = n) (m : Mem) (hg : m.get g = some (.cells ro 1 (sC ws))) :
    Abs.Spec Tryz.prog 13 [.slice (some ⟨g, 0, none⟩) n n] m fun u M => u = .tuple #[scrV (rworldV ws).1 (.slice none 0 0), .bool (rworldV ws).2] ∧ M = m := by
  refine Abs.Spec.walkB Tryz.func13 (by rfl) _ Tryz.results13 _ Tryz.ntmps13 (by simp) m [] (ext_nil m).symm 0 rfl (.inl rfl) ?_
  intro hc _
  obtain ⟨R, hR⟩ : ∃ R, R = rworldV ws := ⟨_, rfl⟩
  rw [← hR]
  have told : ∀ (a b c d : Int) (y : Bool) (L : List (Option (Option Blk))), R = ((a, b, c, d), y) → ToldB m 0 (.tuple #[.agg #[.int .i64 a, .int .i64 b, .int .i64 c, .int .i64 d, .slice none 0 0], .bool y]) (ext m L) fun u M => u = .tuple #[scrV R.1 (.slice none 0 0), .bool R.2] ∧ M = m := fun a b c d y L h => told_flat rfl (by rw [h]; rfl)
  have hal := al_RScr
  generalize aStride Tryz.prog 31 = s1 at hal
  have hgl : ∀ l, (ext m l).get g = some (.cells ro 1 (sC ws)) := fun l => ext_get_old l hg
  refine CW_seq (CW_region ?_)
  simp only [zZ, reduceIte, Nat.reduceLT, Int.reduceToNat, Int.reduceLE, Int.reduceEq, Int.reduceLT, Nat.reduceEqDiff, Nat.reduceAdd, zTy, hal]
  refine CW_seq (CW_region ?_)
  simp only [zZ, reduceIte, Nat.reduceLT, Int.reduceToNat, Int.reduceLE, Int.reduceEq, Int.reduceLT, Nat.reduceEqDiff, Nat.reduceAdd, zTy, hal, build_rscr0, scrV]
  refine CW_seq (CW_seq (CW_region ?_))
  by_cases h5 : n = 5
  case' neg =>
    have z0 : ((n : Int) != 5) = true := by rw [bne_iff_ne]; omega
    simp only [zZ, reduceIte, Nat.reduceLT, Int.reduceToNat, Int.reduceLE, Int.reduceEq, Int.reduceLT, Nat.reduceEqDiff, Nat.reduceAdd, zTy, z0]
    refine CW_cond true (by rfl) (fun _ => CW_seq (CW_region ?_)) (fun h => by cases h)
    simp only [zZ, reduceIte, Nat.reduceLT, Int.reduceToNat, Int.reduceLE, Int.reduceEq, Int.reduceLT, Nat.reduceEqDiff, Nat.reduceAdd, zTy]
    refine CW_ret ?_
    simp only [zZ, reduceIte, Nat.reduceLT, Int.reduceToNat, Int.reduceLE, Int.reduceEq, Int.reduceLT, Nat.reduceEqDiff, Nat.reduceAdd, zTy, bEnd, sAnswer, sAnswer.sRes, aLoad_g]
    refine told _ _ _ _ _ _ ?_
    rw [hR]
    match ws, hn with
    | [], _ => rfl
    | [_], _ => rfl
    | [_, _], _ => rfl
    | [_, _, _], _ => rfl
    | [_, _, _, _], _ => rfl
    | [_, _, _, _, _], h => exact absurd h.symm h5
    | _ :: _ :: _ :: _ :: _ :: _ :: _, _ => rfl
  subst h5
  obtain ⟨w0, w1, w2, w3, w4, rfl⟩ : ∃ w0 w1 w2 w3 w4, ws = [w0, w1, w2, w3, w4] := by
    match ws, hn with
    | [w0, w1, w2, w3, w4], _ => exact ⟨w0, w1, w2, w3, w4, rfl⟩
  have hcs : sC [w0, w1, w2, w3, w4] = [.string (str w0), .string (str w1), .string (str w2), .string (str w3), .string (str w4)] := rfl
  rw [hcs] at hgl
  have b0 : beqB (str w0) ⟨#[119, 111, 114, 108, 100]⟩ = decide (w0 = wordWorld) := beqB_str w0 _
  have z0 : ((5 : Int) != 5) = false := rfl
  have l5 : ((5 : Nat) : Int) = 5 := rfl
  cases c0 : decide (w0 = wordWorld)
  case' false =>
    simp only [zZ, reduceIte, Nat.reduceLT, Int.reduceToNat, Int.reduceLE, Int.reduceEq, Int.reduceLT, Nat.reduceEqDiff, Nat.reduceAdd, zTy, z0, l5, hgl, b0, c0]
    refine CW_cond true (by rfl) (fun _ => CW_seq (CW_region ?_)) (fun h => by cases h)
    simp only [zZ, reduceIte, Nat.reduceLT, Int.reduceToNat, Int.reduceLE, Int.reduceEq, Int.reduceLT, Nat.reduceEqDiff, Nat.reduceAdd, zTy]
    refine CW_ret ?_
    simp only [zZ, reduceIte, Nat.reduceLT, Int.reduceToNat, Int.reduceLE, Int.reduceEq, Int.reduceLT, Nat.reduceEqDiff, Nat.reduceAdd, zTy, bEnd, sAnswer, sAnswer.sRes, aLoad_g]
    exact told _ _ _ _ _ _ (by rw [hR, rworldV, if_neg (of_decide_eq_false c0)])
  have hR1 : R = (((numR w1 13 1024).1, (numR w2 13 1024).1, (numR w3 0 1000).1, (numR w4 0 64).1), (numR w1 13 1024).2 && (numR w2 13 1024).2 && (numR w3 0 1000).2 && (numR w4 0 64).2) := by
    rw [hR, rworldV, if_pos (of_decide_eq_true c0)]
  simp only [zZ, reduceIte, Nat.reduceLT, Int.reduceToNat, Int.reduceLE, Int.reduceEq, Int.reduceLT, Nat.reduceEqDiff, Nat.reduceAdd, zTy, z0, l5, hgl, b0, c0]
  refine CW_cond false (by rfl) (fun h => by cases h) (fun _ => CW_skip ?_)
  simp only [zZ, reduceIte, Nat.reduceLT, Int.reduceToNat, Int.reduceLE, Int.reduceEq, Int.reduceLT, Nat.reduceEqDiff, Nat.reduceAdd]
  refine CW_seq (CW_region ?_)
  simp only [zZ, reduceIte, Nat.reduceLT, Int.reduceToNat, Int.reduceLE, Int.reduceEq, Int.reduceLT, Nat.reduceEqDiff, Nat.reduceAdd, zTy, l5, hgl]
  refine ⟨by kernel_rfl, _, rnumber_spec w1 13 1024 (by omega) (by omega) _, ?_⟩
  rintro _ _ ⟨rfl, rfl⟩
  simp only [zZ, reduceIte, Nat.reduceLT, Int.reduceToNat, Int.reduceLE, Int.reduceEq, Int.reduceLT, Nat.reduceEqDiff, Nat.reduceAdd, zTy]
  refine CW_seq (CW_region ?_)
  simp only [zZ, reduceIte, Nat.reduceLT, Int.reduceToNat, Int.reduceLE, Int.reduceEq, Int.reduceLT, Nat.reduceEqDiff, Nat.reduceAdd, zTy, l5, hgl]
  refine ⟨by kernel_rfl, _, rnumber_spec w2 13 1024 (by omega) (by omega) _, ?_⟩
  rintro _ _ ⟨rfl, rfl⟩
  simp only [zZ, reduceIte, Nat.reduceLT, Int.reduceToNat, Int.reduceLE, Int.reduceEq, Int.reduceLT, Nat.reduceEqDiff, Nat.reduceAdd, zTy]
  refine CW_seq (CW_region ?_)
  simp only [zZ, reduceIte, Nat.reduceLT, Int.reduceToNat, Int.reduceLE, Int.reduceEq, Int.reduceLT, Nat.reduceEqDiff, Nat.reduceAdd, zTy, l5, hgl]
  refine ⟨by kernel_rfl, _, rnumber_spec w3 0 1000 (by omega) (by omega) _, ?_⟩
  rintro _ _ ⟨rfl, rfl⟩
  simp only [zZ, reduceIte, Nat.reduceLT, Int.reduceToNat, Int.reduceLE, Int.reduceEq, Int.reduceLT, Nat.reduceEqDiff, Nat.reduceAdd, zTy]
  refine CW_seq (CW_region ?_)
  simp only [zZ, reduceIte, Nat.reduceLT, Int.reduceToNat, Int.reduceLE, Int.reduceEq, Int.reduceLT, Nat.reduceEqDiff, Nat.reduceAdd, zTy, l5, hgl]
  refine ⟨by kernel_rfl, _, rnumber_spec w4 0 64 (by omega) (by omega) _, ?_⟩
  rintro _ _ ⟨rfl, rfl⟩
  simp only [zZ, reduceIte, Nat.reduceLT, Int.reduceToNat, Int.reduceLE, Int.reduceEq, Int.reduceLT, Nat.reduceEqDiff, Nat.reduceAdd, zTy]
  generalize numR w1 13 1024 = r1 at hR1 ⊢
  generalize numR w2 13 1024 = r2 at hR1 ⊢
  generalize numR w3 0 1000 = r3 at hR1 ⊢
  generalize numR w4 0 64 = r4 at hR1 ⊢
  obtain ⟨a, o1⟩ := r1
  obtain ⟨b, o2⟩ := r2
  obtain ⟨c, o3⟩ := r3
  obtain ⟨d, o4⟩ := r4
  simp only at hR1
  refine CW_seq (CW_region ?_)
  cases o1 <;> cases o2 <;> cases o3 <;> cases o4 <;> simp only [zZ, reduceIte, Nat.reduceLT, Int.reduceToNat, Int.reduceLE, Int.reduceEq, Int.reduceLT, Nat.reduceEqDiff, Nat.reduceAdd, zTy, build_rscr4, scrV]
  all_goals
    refine CW_ret ?_
    simp only [zZ, reduceIte, Nat.reduceLT, Int.reduceToNat, Int.reduceLE, Int.reduceEq, Int.reduceLT, Nat.reduceEqDiff, Nat.reduceAdd, zTy, bEnd, sAnswer, sAnswer.sRes, aLoad_g]
    exact told _ _ _ _ _ _ hR1
end Go.Proofs.YthcleiegefhmdaaGreatDoor
namespace Go.Proofs.YthcleiegefhmdaaGreatDoor
open Go.RowKit Abs
theorem sig_zero (K : Nat) (keep : List Nat) : sig K keep K = match pos keep 0 with | some c => some (K + c) | none => none := sig_local K keep 0
theorem bcat_str (a b : List UInt8) : bcat (str a) (str b) = str (a ++ b) := by
  unfold bcat str
  simp
theorem get_str (q : List (List UInt8)) (t : Nat) (x : List UInt8) (h : q[t]? = some x) : (sC q)[t]? = some (.string (str x)) := by
  unfold sC; rw [List.getElem?_map, h]; rfl
set_option maxRecDepth 100000 in
set_option maxHeartbeats 2000000 in
theorem psplit_spec (s : List UInt8) (hs : s.length ≤ 999999) (m : Mem) :
    Abs.Spec Tryz.prog 76 [.string (str s)] m fun u M => u = .slice (some ⟨m.size, 0, none⟩) (pieces 47 s []).length (pieces 47 s []).length ∧ M = ext m [some (some (.cells false 1 (sC (pieces 47 s []))))] := by
  refine Abs.Spec.walkB Tryz.func76 (by rfl) _ Tryz.results76 _ Tryz.ntmps76 (by simp) m [] (ext_nil m).symm 0 rfl (.inl rfl) ?_
  intro hc _
  obtain ⟨R, hR⟩ : ∃ R, R = pieces 47 s [] := ⟨_, rfl⟩
  rw [← hR]
  refine CW_seq (CW_region ?_)
  simp only [zZ, reduceIte, Nat.reduceLT, Int.reduceToNat, Int.reduceLE, Int.reduceEq, Int.reduceLT, Nat.reduceEqDiff, Nat.reduceAdd, zTy]
  refine CW_seq (CW_region ?_)
  simp only [zZ, reduceIte, Nat.reduceLT, Int.reduceToNat, Int.reduceLE, Int.reduceEq, Int.reduceLT, Nat.reduceEqDiff, Nat.reduceAdd, zTy]
  refine CW_seq (CW_region ?_)
  simp only [zZ, reduceIte, Nat.reduceLT, Int.reduceToNat, Int.reduceLE, Int.reduceEq, Int.reduceLT, Nat.reduceEqDiff, Nat.reduceAdd, zTy]
  refine CW_seq (CW_seq (CW_region ?_))
  simp only [zZ, reduceIte, Nat.reduceLT, Int.reduceToNat, Int.reduceLE, Int.reduceEq, Int.reduceLT, Nat.reduceEqDiff, Nat.reduceAdd, zTy]
  refine CW_block (BW_loop hc (fun n f l => ∃ (t : Nat) (cur : List UInt8) (q : List (List UInt8)) (V : Value), t + n = s.length ∧ cur.length ≤ t ∧ q.length ≤ t ∧ R = q ++ pieces 47 (s.drop t) cur ∧
    f = [(0, .string (str s)), (3, V), (4, .string (str cur)), (5, .int .i64 (t : Nat))] ∧
    ((q = [] ∧ V = .slice none 0 0 ∧ l = []) ∨ (q ≠ [] ∧ V = .slice (some ⟨m.size + 0, 0, none⟩) q.length q.length ∧ l = [some (some (.cells false 1 (sC q)))]))) s.length ?_ ?_)
  · refine ⟨_, rfl, [], [0, 3, 4, 5], rfl, ?_⟩
    simp only [zZ, reduceIte, Nat.reduceLT, Int.reduceToNat, Int.reduceLE, Int.reduceEq, Int.reduceLT, Nat.reduceEqDiff, Nat.reduceAdd, zG]
    exact ⟨0, [], [], _, by omega, by simp, by simp, by rw [hR]; rfl, rfl, .inl ⟨rfl, rfl⟩⟩
  · rintro n f l ⟨t, cur, q, V, htn, hct, hqt, hun, rfl, hV⟩
    refine CW_seq (CW_seq (CW_region ?_))
    simp only [zZ, reduceIte, Nat.reduceLT, Int.reduceToNat, Int.reduceLE, Int.reduceEq, Int.reduceLT, Nat.reduceEqDiff, Nat.reduceAdd, zTy, bsize_str]
    refine CW_cond (decide ((t : Int) < (s.length : Int))) (by rfl) (fun h => CW_skip ?_) (fun h => CW_exit ?_)
    · simp only [zZ, reduceIte, Nat.reduceLT, Int.reduceToNat, Int.reduceLE, Int.reduceEq, Int.reduceLT, Nat.reduceEqDiff, Nat.reduceAdd]
      have htl : t < s.length := by have := of_decide_eq_true h; omega
      obtain ⟨b, hb⟩ : ∃ b, s[t]? = some b := ⟨_, List.getElem?_eq_getElem htl⟩
      have hdr := List.drop_eq_getElem_cons htl
      rw [(List.getElem?_eq_some_iff.1 hb).2] at hdr
      have ib := idx_str s t b hb
      have e47 : ((b.toNat : Int) == 47) = decide (b = 47) := u8_eql b 47
      have xi : IntKind.i64.wrap ((t : Int) + 1) = ((t + 1 : Nat) : Int) := by rw [wr (by omega) (by omega)]; omega
      have hsl := fun get => slice_mid get s t (t + 1) (by omega) (by omega)
      rw [hdr, Nat.add_sub_cancel_left] at hsl
      have hsl1 : ∀ get : Nat → Option Blk, gSlice Tryz.prog get 9 (.string (str s)) (some (.int .i64 (t : Nat))) (some (.int .i64 ((t + 1 : Nat) : Int))) = some (.string (str [b])) := hsl
      refine CW_seq (CW_block (CW_seq (CW_region ?_)))
      simp only [zZ, reduceIte, Nat.reduceLT, Int.reduceToNat, Int.reduceLE, Int.reduceEq, Int.reduceLT, Nat.reduceEqDiff, Nat.reduceAdd, zTy, ib, e47]
      refine CW_cond (decide (b = 47)) (by rfl) (fun hbc => CW_seq (CW_region ?_)) (fun hbc => CW_region ?_)
      · have hbc := of_decide_eq_true hbc
        have hun2 : R = (q ++ [cur]) ++ pieces 47 (s.drop (t + 1)) [] := by
          rw [hun, hdr, pieces, if_pos hbc]; simp
        rcases hV with ⟨rfl, rfl, rfl⟩ | ⟨hq0, rfl, rfl⟩
        · have ha := sapp_nil m [some (some (.cells false 1 [.string (str cur)]))] 0 cur rfl
          simp only [zZ, reduceIte, Nat.reduceLT, Int.reduceToNat, Int.reduceLE, Int.reduceEq, Int.reduceLT, Nat.reduceEqDiff, Nat.reduceAdd, zTy, new_str1, List.nil_append, List.length_nil, List.length_cons, ha]
          refine CW_region ?_
          simp only [zZ, reduceIte, Nat.reduceLT, Int.reduceToNat, Int.reduceLE, Int.reduceEq, Int.reduceLT, Nat.reduceEqDiff, Nat.reduceAdd, zTy, xi]
          refine CW_region ?_
          simp only [zZ, reduceIte, Nat.reduceLT, Int.reduceToNat, Int.reduceLE, Int.reduceEq, Int.reduceLT, Nat.reduceEqDiff, Nat.reduceAdd, zTy, xi]
          refine ⟨_, rfl, [1], [0, 3, 4, 5], rfl, ?_⟩
          simp only [zZ, reduceIte, Nat.reduceLT, Int.reduceToNat, Int.reduceLE, Int.reduceEq, Int.reduceLT, Nat.reduceEqDiff, Nat.reduceAdd, zG, sC_flat]
          exact ⟨n - 1, ⟨t + 1, [], [cur], _, by omega, by simp, by simp, hun2, rfl, .inr ⟨by simp, rfl, rfl⟩⟩, by omega⟩
        · have ha := sapp m [some (some (.cells false 1 (sC q))), some (some (.cells false 1 [.string (str cur)]))] 1 0 q cur rfl rfl (by omega)
          simp only [zZ, reduceIte, Nat.reduceLT, Int.reduceToNat, Int.reduceLE, Int.reduceEq, Int.reduceLT, Nat.reduceEqDiff, Nat.reduceAdd, zTy, new_str1, List.cons_append, List.nil_append, List.length_nil, List.length_cons, ha]
          refine CW_region ?_
          simp only [zZ, reduceIte, Nat.reduceLT, Int.reduceToNat, Int.reduceLE, Int.reduceEq, Int.reduceLT, Nat.reduceEqDiff, Nat.reduceAdd, zTy, xi]
          refine CW_region ?_
          simp only [zZ, reduceIte, Nat.reduceLT, Int.reduceToNat, Int.reduceLE, Int.reduceEq, Int.reduceLT, Nat.reduceEqDiff, Nat.reduceAdd, zTy, xi]
          refine ⟨_, rfl, [2], [0, 3, 4, 5], rfl, ?_⟩
          simp only [zZ, reduceIte, Nat.reduceLT, Int.reduceToNat, Int.reduceLE, Int.reduceEq, Int.reduceLT, Nat.reduceEqDiff, Nat.reduceAdd, zG, sC_flat]
          exact ⟨n - 1, ⟨t + 1, [], q ++ [cur], _, by omega, by simp, by simp; omega, hun2, rfl, .inr ⟨by simp, by simp, rfl⟩⟩, by omega⟩
      · have hbc := of_decide_eq_false hbc
        have hun2 : R = q ++ pieces 47 (s.drop (t + 1)) (cur ++ [b]) := by
          rw [hun, hdr, pieces, if_neg hbc]
        have hlen : ((cur.length : Int) + 1 ≤ 4611686018427387904) = True := eq_true (by omega)
        have hcat : ∀ x : Nat, cur.length + ([b] : List UInt8).length ≤ 4611686018427387904 := fun _ => by simp; omega
        simp only [zZ, reduceIte, Nat.reduceLT, Int.reduceToNat, Int.reduceLE, Int.reduceEq, Int.reduceLT, Nat.reduceEqDiff, Nat.reduceAdd, zTy, xi, hsl1, bsize_str, bcat_str]
        refine ⟨by omega, ?_⟩
        refine CW_region ?_
        simp only [zZ, reduceIte, Nat.reduceLT, Int.reduceToNat, Int.reduceLE, Int.reduceEq, Int.reduceLT, Nat.reduceEqDiff, Nat.reduceAdd, zTy, xi]
        rcases hV with ⟨rfl, rfl, rfl⟩ | ⟨hq0, rfl, rfl⟩
        · refine ⟨_, rfl, [], [0, 3, 4, 5], rfl, ?_⟩
          simp only [zZ, reduceIte, Nat.reduceLT, Int.reduceToNat, Int.reduceLE, Int.reduceEq, Int.reduceLT, Nat.reduceEqDiff, Nat.reduceAdd, zG]
          exact ⟨n - 1, ⟨t + 1, cur ++ [b], [], _, by omega, by simp; omega, by simp, hun2, rfl, .inl ⟨rfl, rfl⟩⟩, by omega⟩
        · refine ⟨_, rfl, [0], [0, 3, 4, 5], rfl, ?_⟩
          simp only [zZ, reduceIte, Nat.reduceLT, Int.reduceToNat, Int.reduceLE, Int.reduceEq, Int.reduceLT, Nat.reduceEqDiff, Nat.reduceAdd, zG, sC_flat]
          exact ⟨n - 1, ⟨t + 1, cur ++ [b], q, _, by omega, by simp; omega, by omega, hun2, rfl, .inr ⟨hq0, rfl, rfl⟩⟩, by omega⟩
    · simp only [zZ, reduceIte, Nat.reduceLT, Int.reduceToNat, Int.reduceLE, Int.reduceEq, Int.reduceLT, Nat.reduceEqDiff, Nat.reduceAdd]
      have htl : t = s.length := by have := of_decide_eq_false h; omega
      subst htl
      have hR2 : R = q ++ [cur] := by rw [hun, List.drop_length, pieces]
      refine CW_seq (CW_region ?_)
      rcases hV with ⟨rfl, rfl, rfl⟩ | ⟨hq0, rfl, rfl⟩
      · have ha := sapp_nil m [some (some (.cells false 1 [.string (str cur)]))] 0 cur rfl
        simp only [zZ, reduceIte, Nat.reduceLT, Int.reduceToNat, Int.reduceLE, Int.reduceEq, Int.reduceLT, Nat.reduceEqDiff, Nat.reduceAdd, zTy, new_str1, List.nil_append, List.length_nil, List.length_cons, ha]
        refine CW_ret ?_
        simp only [zZ, reduceIte, Nat.reduceLT, Int.reduceToNat, Int.reduceLE, Int.reduceEq, Int.reduceLT, Nat.reduceEqDiff, Nat.reduceAdd, zTy, bEnd, sAnswer, sAnswer.sRes]
        rw [hR2]
        exact told_slice (j := 1) rfl rfl (sC_flat _ _)
      · have ha := sapp m [some (some (.cells false 1 (sC q))), some (some (.cells false 1 [.string (str cur)]))] 1 0 q cur rfl rfl (by omega)
        simp only [zZ, reduceIte, Nat.reduceLT, Int.reduceToNat, Int.reduceLE, Int.reduceEq, Int.reduceLT, Nat.reduceEqDiff, Nat.reduceAdd, zTy, new_str1, List.cons_append, List.nil_append, List.length_nil, List.length_cons, ha]
        refine CW_ret ?_
        simp only [zZ, reduceIte, Nat.reduceLT, Int.reduceToNat, Int.reduceLE, Int.reduceEq, Int.reduceLT, Nat.reduceEqDiff, Nat.reduceAdd, zTy, bEnd, sAnswer, sAnswer.sRes]
        rw [hR2]
        exact told_slice (j := 2) (by simp) rfl (sC_flat _ _)
def badPart (s : List UInt8) : Bool := decide (s = []) || decide (s = [46]) || decide (s = [46, 46])
def mayV (p : List UInt8) : Bool := decide (pathV p = 0)
theorem mayV_eq (p : List UInt8) (R : Bool) (h : R = mayV p) : (p = [] ∨ 4096 < p.length → R = false) ∧ (¬ (p = [] ∨ 4096 < p.length) → R = (!decide (0 ∈ p) && !(pieces 47 p []).any badPart)) := by
  subst h
  unfold mayV pathV
  constructor
  · intro h
    rw [if_pos (by rcases h with h | h; exact .inl h; exact .inr (.inl h))]
    rfl
  · intro h
    by_cases h0 : 0 ∈ p
    · rw [if_pos (.inr (.inr (.inl h0))), decide_eq_true h0]; rfl
    · cases ha : (pieces 47 p []).any badPart
      · rw [if_neg (fun e => by rcases e with e | e | e | e; exact h (.inl e); exact h (.inr e); exact h0 e; change (pieces 47 p []).any badPart = true at e; rw [ha] at e; cases e), decide_eq_false h0]; rfl
      · rw [if_pos (.inr (.inr (.inr ha)))]; simp
set_option maxRecDepth 100000 in
set_option maxHeartbeats 2000000 in
theorem rmay_spec (s : List UInt8) (hs : s.length ≤ 999999) (m : Mem) :
    Abs.Spec Tryz.prog 63 [.string (str s)] m fun u M => u = .bool (mayV s) ∧ M = m := by
  refine Abs.Spec.walkB Tryz.func63 (by rfl) _ Tryz.results63 _ Tryz.ntmps63 (by simp) m [] (ext_nil m).symm 0 rfl (.inl rfl) ?_
  intro hc _
  obtain ⟨R, hR⟩ : ∃ R, R = mayV s := ⟨_, rfl⟩
  obtain ⟨hRa, hRb⟩ := mayV_eq s R hR
  rw [← hR]
  refine CW_seq (CW_region ?_)
  simp only [zZ, reduceIte, Nat.reduceLT, Int.reduceToNat, Int.reduceLE, Int.reduceEq, Int.reduceLT, Nat.reduceEqDiff, Nat.reduceAdd, zTy]
  refine CW_seq (CW_seq (CW_region ?_))
  have hne : s.length < 1 ↔ s = [] := ⟨fun h => List.eq_nil_of_length_eq_zero (by omega), fun h => by rw [h]; decide⟩
  cases c1 : decide ((s.length : Int) < 1)
  case' true =>
    simp only [zZ, reduceIte, Nat.reduceLT, Int.reduceToNat, Int.reduceLE, Int.reduceEq, Int.reduceLT, Nat.reduceEqDiff, Nat.reduceAdd, zTy, bsize_str, c1]
    refine CW_cond true (by rfl) (fun _ => CW_seq (CW_region ?_)) (fun h => by cases h)
    simp only [zZ, reduceIte, Nat.reduceLT, Int.reduceToNat, Int.reduceLE, Int.reduceEq, Int.reduceLT, Nat.reduceEqDiff, Nat.reduceAdd, zTy]
    refine CW_ret ?_
    simp only [zZ, reduceIte, Nat.reduceLT, Int.reduceToNat, Int.reduceLE, Int.reduceEq, Int.reduceLT, Nat.reduceEqDiff, Nat.reduceAdd, zTy, bEnd, sAnswer, sAnswer.sRes]
    have := of_decide_eq_true c1
    exact told_flat rfl (by rw [hRa (.inl (hne.1 (by omega)))])
  have h1 := of_decide_eq_false c1
  simp only [zZ, reduceIte, Nat.reduceLT, Int.reduceToNat, Int.reduceLE, Int.reduceEq, Int.reduceLT, Nat.reduceEqDiff, Nat.reduceAdd, zTy, bsize_str, c1]
  refine CW_cond (decide ((4096 : Int) < (s.length : Int))) (by rfl) (fun h => CW_seq (CW_region ?_)) (fun h => CW_skip ?_)
  · simp only [zZ, reduceIte, Nat.reduceLT, Int.reduceToNat, Int.reduceLE, Int.reduceEq, Int.reduceLT, Nat.reduceEqDiff, Nat.reduceAdd, zTy]
    refine CW_ret ?_
    simp only [zZ, reduceIte, Nat.reduceLT, Int.reduceToNat, Int.reduceLE, Int.reduceEq, Int.reduceLT, Nat.reduceEqDiff, Nat.reduceAdd, zTy, bEnd, sAnswer, sAnswer.sRes]
    have := of_decide_eq_true h
    exact told_flat rfl (by rw [hRa (.inr (by omega))])
  have h2 := of_decide_eq_false h
  replace hRb := hRb (by rintro (h | h); exact absurd (hne.2 h) (by omega); omega)
  clear hRa hR
  simp only [zZ, reduceIte, Nat.reduceLT, Int.reduceToNat, Int.reduceLE, Int.reduceEq, Int.reduceLT, Nat.reduceEqDiff, Nat.reduceAdd]
  refine BW_mid hc (fun f l => f = [(0, .string (str s))] ∧ l = [] ∧ ¬ 0 ∈ s) ?_ ?_
  · refine CW_seq (CW_region ?_)
    simp only [zZ, reduceIte, Nat.reduceLT, Int.reduceToNat, Int.reduceLE, Int.reduceEq, Int.reduceLT, Nat.reduceEqDiff, Nat.reduceAdd, zTy]
    refine CW_block (BW_loop hc (fun n f l => ∃ t : Nat, t + n = s.length ∧ f = [(0, .string (str s)), (3, .int .i64 (t : Nat))] ∧ l = [] ∧ ¬ 0 ∈ s.take t) s.length ?_ ?_)
    · refine ⟨_, rfl, [], [0, 3], rfl, ?_⟩
      simp only [zZ, reduceIte, Nat.reduceLT, Int.reduceToNat, Int.reduceLE, Int.reduceEq, Int.reduceLT, Nat.reduceEqDiff, Nat.reduceAdd, zG]
      exact ⟨0, by omega, rfl, by simp⟩
    · rintro n f l ⟨t, htn, rfl, rfl, hno⟩
      refine CW_seq (CW_seq (CW_region ?_))
      simp only [zZ, reduceIte, Nat.reduceLT, Int.reduceToNat, Int.reduceLE, Int.reduceEq, Int.reduceLT, Nat.reduceEqDiff, Nat.reduceAdd, zTy, bsize_str]
      refine CW_cond (decide ((t : Int) < (s.length : Int))) (by rfl) (fun h => CW_skip ?_) (fun h => CW_exit ?_)
      · simp only [zZ, reduceIte, Nat.reduceLT, Int.reduceToNat, Int.reduceLE, Int.reduceEq, Int.reduceLT, Nat.reduceEqDiff, Nat.reduceAdd]
        have htl : t < s.length := by have := of_decide_eq_true h; omega
        obtain ⟨b, hb⟩ : ∃ b, s[t]? = some b := ⟨_, List.getElem?_eq_getElem htl⟩
        have ib := idx_str s t b hb
        have e0 : ((b.toNat : Int) == 0) = decide (b = 0) := u8_eql b 0
        have xi : IntKind.i64.wrap ((t : Int) + 1) = ((t + 1 : Nat) : Int) := by rw [wr (by omega) (by omega)]; omega
        refine CW_seq (CW_block (CW_seq (CW_region ?_)))
        simp only [zZ, reduceIte, Nat.reduceLT, Int.reduceToNat, Int.reduceLE, Int.reduceEq, Int.reduceLT, Nat.reduceEqDiff, Nat.reduceAdd, zTy, ib, e0]
        refine CW_cond (decide (b = 0)) (by rfl) (fun hbc => CW_seq (CW_region ?_)) (fun hbc => CW_skip ?_)
        · simp only [zZ, reduceIte, Nat.reduceLT, Int.reduceToNat, Int.reduceLE, Int.reduceEq, Int.reduceLT, Nat.reduceEqDiff, Nat.reduceAdd, zTy]
          refine CW_ret ?_
          simp only [zZ, reduceIte, Nat.reduceLT, Int.reduceToNat, Int.reduceLE, Int.reduceEq, Int.reduceLT, Nat.reduceEqDiff, Nat.reduceAdd, zTy, bEnd, sAnswer, sAnswer.sRes]
          have : 0 ∈ s := by have := List.mem_of_getElem? hb; rwa [of_decide_eq_true hbc] at this
          exact told_flat rfl (by rw [hRb, decide_eq_true this]; rfl)
        · simp only [zZ, reduceIte, Nat.reduceLT, Int.reduceToNat, Int.reduceLE, Int.reduceEq, Int.reduceLT, Nat.reduceEqDiff, Nat.reduceAdd]
          refine CW_region ?_
          simp only [zZ, reduceIte, Nat.reduceLT, Int.reduceToNat, Int.reduceLE, Int.reduceEq, Int.reduceLT, Nat.reduceEqDiff, Nat.reduceAdd, zTy, xi]
          refine ⟨_, rfl, [], [0, 3], rfl, ?_⟩
          simp only [zZ, reduceIte, Nat.reduceLT, Int.reduceToNat, Int.reduceLE, Int.reduceEq, Int.reduceLT, Nat.reduceEqDiff, Nat.reduceAdd, zG]
          exact ⟨n - 1, ⟨t + 1, by omega, rfl, by rw [List.take_add_one, hb]; simp only [Option.toList, List.mem_append, List.mem_singleton]; rintro (h | h); exact hno h; exact of_decide_eq_false hbc h.symm⟩, by omega⟩
      · simp only [zZ, reduceIte, Nat.reduceLT, Int.reduceToNat, Int.reduceLE, Int.reduceEq, Int.reduceLT, Nat.reduceEqDiff, Nat.reduceAdd]
        have htl : t = s.length := by have := of_decide_eq_false h; omega
        refine ⟨_, rfl, [], [0], rfl, ?_⟩
        simp only [zZ, reduceIte, Nat.reduceLT, Int.reduceToNat, Int.reduceLE, Int.reduceEq, Int.reduceLT, Nat.reduceEqDiff, Nat.reduceAdd, zG]
        rw [htl, List.take_length] at hno
        exact hno
  · rintro f l ⟨rfl, rfl, hno⟩
    obtain ⟨ps, hps⟩ : ∃ ps, ps = pieces 47 s [] := ⟨_, rfl⟩
    have hpl : ps.length ≤ 1000000 := by rw [hps, pieces_len]; have := List.count_le_length (l := s) (a := 47); omega
    rw [decide_eq_false hno, ← hps] at hRb
    replace hRb : R = !ps.any badPart := hRb
    refine CW_seq (CW_region ?_)
    simp only [zZ, reduceIte, Nat.reduceLT, Int.reduceToNat, Int.reduceLE, Int.reduceEq, Int.reduceLT, Nat.reduceEqDiff, Nat.reduceAdd, zTy]
    refine ⟨by kernel_rfl, _, psplit_spec s hs _, ?_⟩
    rw [← hps]
    rintro _ _ ⟨rfl, rfl⟩
    simp only [zZ, reduceIte, Nat.reduceLT, Int.reduceToNat, Int.reduceLE, Int.reduceEq, Int.reduceLT, Nat.reduceEqDiff, Nat.reduceAdd, zTy, ext_nil]
    refine BW_mid hc (fun f l => f = [] ∧ l = [] ∧ ps.any badPart = false) ?_ ?_
    · refine CW_seq (CW_region ?_)
      simp only [zZ, reduceIte, Nat.reduceLT, Int.reduceToNat, Int.reduceLE, Int.reduceEq, Int.reduceLT, Nat.reduceEqDiff, Nat.reduceAdd, zTy]
      refine CW_block (BW_loop hc (fun n f l => ∃ t : Nat, t + n = ps.length ∧ f = [(4, .slice (some ⟨m.size + 0, 0, none⟩) ps.length ps.length), (5, .int .i64 (t : Nat))] ∧ l = [some (some (.cells false 1 (sC ps)))] ∧ (ps.take t).any badPart = false) ps.length ?_ ?_)
      · refine ⟨_, rfl, [0], [4, 5], rfl, ?_⟩
        simp only [zZ, reduceIte, Nat.reduceLT, Int.reduceToNat, Int.reduceLE, Int.reduceEq, Int.reduceLT, Nat.reduceEqDiff, Nat.reduceAdd, zG, sC_flat, sig_zero]
        exact ⟨0, by omega, rfl, rfl⟩
      · rintro n f l ⟨t, htn, rfl, rfl, hno⟩
        refine CW_seq (CW_seq (CW_region ?_))
        simp only [zZ, reduceIte, Nat.reduceLT, Int.reduceToNat, Int.reduceLE, Int.reduceEq, Int.reduceLT, Nat.reduceEqDiff, Nat.reduceAdd, zTy]
        refine CW_cond (decide ((t : Int) < (ps.length : Int))) (by rfl) (fun h => CW_skip ?_) (fun h => CW_exit ?_)
        · simp only [zZ, reduceIte, Nat.reduceLT, Int.reduceToNat, Int.reduceLE, Int.reduceEq, Int.reduceLT, Nat.reduceEqDiff, Nat.reduceAdd]
          have htl : t < ps.length := by have := of_decide_eq_true h; omega
          have k0 : (0 : Int) ≤ (t : Int) := by omega
          have k1 : (t : Int) < (ps.length : Int) := by omega
          obtain ⟨x, hx⟩ : ∃ x, ps[t]? = some x := ⟨_, List.getElem?_eq_getElem htl⟩
          have hx2 := get_str ps t x hx
          have xi : IntKind.i64.wrap ((t : Int) + 1) = ((t + 1 : Nat) : Int) := by rw [wr (by omega) (by omega)]; omega
          have b0 : beqB (str x) ⟨#[]⟩ = decide (x = []) := beqB_str x []
          have b1 : beqB (str x) ⟨#[46]⟩ = decide (x = [46]) := beqB_str x [46]
          have b2 : beqB (str x) ⟨#[46, 46]⟩ = decide (x = [46, 46]) := beqB_str x [46, 46]
          have hany : ∀ z, badPart x = z → (ps.take (t + 1)).any badPart = z := fun z hz => by rw [List.take_add_one, hx, List.any_append, hno]; simp [hz]
          have hbad : badPart x = (decide (x = []) || decide (x = [46]) || decide (x = [46, 46])) := rfl
          refine CW_seq (CW_block (CW_seq (CW_region ?_)))
          cases c0 : decide (x = []) <;> cases c1 : decide (x = [46]) <;> cases c2 : decide (x = [46, 46]) <;> rw [c0, c1, c2] at hbad <;> simp only [zZ, reduceIte, Nat.reduceLT, Int.reduceToNat, Int.reduceLE, Int.reduceEq, Int.reduceLT, Nat.reduceEqDiff, Nat.reduceAdd, zTy, k0, k1, and_self, hx2, b0, b1, b2, c0, c1, c2]
          case' false.false.false =>
            refine CW_cond false (by rfl) (fun h => by cases h) (fun _ => CW_skip ?_)
            simp only [zZ, reduceIte, Nat.reduceLT, Int.reduceToNat, Int.reduceLE, Int.reduceEq, Int.reduceLT, Nat.reduceEqDiff, Nat.reduceAdd]
            refine CW_region ?_
            simp only [zZ, reduceIte, Nat.reduceLT, Int.reduceToNat, Int.reduceLE, Int.reduceEq, Int.reduceLT, Nat.reduceEqDiff, Nat.reduceAdd, zTy, xi]
            refine ⟨_, rfl, [0], [4, 5], rfl, ?_⟩
            simp only [zZ, reduceIte, Nat.reduceLT, Int.reduceToNat, Int.reduceLE, Int.reduceEq, Int.reduceLT, Nat.reduceEqDiff, Nat.reduceAdd, zG, sC_flat]
            exact ⟨n - 1, ⟨t + 1, by omega, rfl, hany _ hbad⟩, by omega⟩
          all_goals
            refine CW_cond true (by rfl) (fun _ => CW_seq (CW_region ?_)) (fun h => by cases h)
            simp only [zZ, reduceIte, Nat.reduceLT, Int.reduceToNat, Int.reduceLE, Int.reduceEq, Int.reduceLT, Nat.reduceEqDiff, Nat.reduceAdd, zTy]
            refine CW_ret ?_
            simp only [zZ, reduceIte, Nat.reduceLT, Int.reduceToNat, Int.reduceLE, Int.reduceEq, Int.reduceLT, Nat.reduceEqDiff, Nat.reduceAdd, zTy, bEnd, sAnswer, sAnswer.sRes]
            refine told_flat rfl ?_
            rw [hRb, List.any_eq_true.2 ⟨x, List.mem_of_getElem? hx, hbad⟩]; rfl
        · simp only [zZ, reduceIte, Nat.reduceLT, Int.reduceToNat, Int.reduceLE, Int.reduceEq, Int.reduceLT, Nat.reduceEqDiff, Nat.reduceAdd]
          have htl : t = ps.length := by have := of_decide_eq_false h; omega
          refine ⟨_, rfl, [], [], rfl, ?_⟩
          simp only [zZ, reduceIte, Nat.reduceLT, Int.reduceToNat, Int.reduceLE, Int.reduceEq, Int.reduceLT, Nat.reduceEqDiff, Nat.reduceAdd, zG]
          rw [htl, List.take_length] at hno
          exact hno
    · rintro f l ⟨rfl, rfl, hno⟩
      refine CW_seq (CW_region ?_)
      simp only [zZ, reduceIte, Nat.reduceLT, Int.reduceToNat, Int.reduceLE, Int.reduceEq, Int.reduceLT, Nat.reduceEqDiff, Nat.reduceAdd, zTy]
      refine CW_ret ?_
      simp only [zZ, reduceIte, Nat.reduceLT, Int.reduceToNat, Int.reduceLE, Int.reduceEq, Int.reduceLT, Nat.reduceEqDiff, Nat.reduceAdd, zTy, bEnd, sAnswer, sAnswer.sRes]
      exact told_flat rfl (by rw [hRb, hno]; rfl)
end Go.Proofs.YthcleiegefhmdaaGreatDoor
namespace Go.Proofs.YthcleiegefhmdaaGreatDoor
open Go.RowKit Abs
def firstOf (ws : List (List UInt8)) : Option (Int × Int × Int × Int) := match ws with
  | w0 :: r => if w0 = wordWorld then (match numsV r [(13, 1024), (13, 1024), (0, 1000), (0, 64)] with
    | some [a, b, c, d] => some (a, b, c, d)
    | _ => none) else none
  | [] => none
def FirstR (K : Nat) (m : Mem) (p : Nat) (st : PState) (r : Option (Int × Int × Int × Int)) (u : Value) (M : Mem) : Prop :=
  Keeps K m M ∧ m.size ≤ M.size ∧ match r with
    | none => u = .bool false ∧ PAt K M p st
    | some (a, b, c, d) => u = .bool true ∧ PAt K M p ⟨a, b, c, d, [], st.n⟩
theorem new_twos4 (a b c d e f g h : Int) : nBuildSlice Tryz.prog 94 4 [(0, .agg #[.int .i64 a, .int .i64 b]), (1, .agg #[.int .i64 c, .int .i64 d]), (2, .agg #[.int .i64 e, .int .i64 f]), (3, .agg #[.int .i64 g, .int .i64 h])] = some (.cells false 2 [.int .i64 a, .int .i64 b, .int .i64 c, .int .i64 d, .int .i64 e, .int .i64 f, .int .i64 g, .int .i64 h]) := by kernel_rfl
theorem build_fair (a b : Int) : aBuild Tryz.prog 23 [(0, .int .i64 a), (1, .int .i64 b)] = some (.agg #[.int .i64 a, .int .i64 b]) := by kernel_rfl
theorem build_scr (a b c d : Int) : aBuild Tryz.prog 26 [(0, .int .i64 a), (1, .int .i64 b), (2, .agg #[.int .i64 c, .int .i64 d])] = some (.agg #[.int .i64 a, .int .i64 b, .int .i64 c, .int .i64 d, .slice none 0 0]) := by kernel_rfl
theorem slice_words {get : Nat → Option Blk} {g n : Nat} {ro : Bool} {all : List Value} (hg : get g = some (.cells ro 1 all)) (hn : 1 ≤ n) :
    gSlice Tryz.prog get 43 (.slice (some ⟨g, 0, none⟩) n n) (some (.int .i64 1)) none = some (.slice (some ⟨g, 1, none⟩) (n - 1) (n - 1)) := by
  unfold gSlice aBound
  simp only [Tryz.underlying43, inf_Str, sz_Str, hg]
  rw [if_pos (by omega)]
  simp
set_option maxRecDepth 100000 in
set_option maxHeartbeats 2000000 in
theorem first_spec (K p : Nat) (st : PState) (ws : List (List UInt8)) (g n : Nat) (m : Mem) (hp : PAt K m p st) (hg : m.get g = some (.cells true 1 (sC ws)))
    (hn : ws.length = n) (hn1 : 1 ≤ n) (hs : ∀ w ∈ ws, w.length ≤ 1000000) :
    Abs.Spec Tryz.prog 22 [.pointer (some ⟨p, 0, none⟩), .slice (some ⟨g, 0, none⟩) n n] m (FirstR K m p st (firstOf ws)) := by
  refine Abs.Spec.walkM Tryz.func22 (by rfl) _ Tryz.results22 _ Tryz.ntmps22 (by simp) ?_
  intro hc hx k
  obtain ⟨w0, r, rfl⟩ : ∃ w0 r, ws = w0 :: r := by
    cases ws with
    | nil => simp at hn; omega
    | cons w0 r => exact ⟨w0, r, rfl⟩
  obtain ⟨R, hR⟩ : ∃ R, R = firstOf (w0 :: r) := ⟨_, rfl⟩
  rw [← hR]
  have hal := al_Two
  generalize aStride Tryz.prog 66 = s1 at hal
  refine CW_seq (CW_region ?_)
  simp only [zZ, reduceIte, Nat.reduceLT, Int.reduceToNat, Int.reduceLE, Int.reduceEq, Int.reduceLT, Nat.reduceEqDiff, Nat.reduceAdd, zTy]
  refine CW_seq (CW_region ?_)
  simp only [zZ, reduceIte, Nat.reduceLT, Int.reduceToNat, Int.reduceLE, Int.reduceEq, Int.reduceLT, Nat.reduceEqDiff, Nat.reduceAdd, zTy, build_two, hal, Mem.get_push_new, push_set]
  obtain ⟨M1, hM1⟩ : ∃ M1, M1 = m.push (.cells false s1 [.int .i64 13, .int .i64 1024]) := ⟨_, rfl⟩
  have hg1 : M1.get g = some (.cells true 1 (sC (w0 :: r))) := by rw [hM1, Mem.get_push_old (get_live hg)]; exact hg
  have hb1 : M1.get m.size = some (.cells false s1 [.int .i64 13, .int .i64 1024]) := by rw [hM1, Mem.get_push_new]
  have hp1 : PAt K M1 p st := by rw [hM1]; exact hp.push _
  have hk1 : Keeps K m M1 := by rw [hM1]; exact Keeps.push _ _ _
  have hs1 : M1.size = m.size + 1 := by rw [hM1, Mem.size_push]
  rw [← hM1]
  clear hM1
  have hget0 : (sC (w0 :: r))[0]? = some (.string (str w0)) := rfl
  have hb0 : beqB (str w0) ⟨#[119, 111, 114, 108, 100]⟩ = decide (w0 = wordWorld) := beqB_str w0 _
  have h1n : (0 : Int) < (n : Int) := by omega
  refine CW_seq (CW_seq (CW_region ?_))
  simp only [zZ, reduceIte, Nat.reduceLT, Int.reduceToNat, Int.reduceLE, Int.reduceEq, Int.reduceLT, Nat.reduceEqDiff, Nat.reduceAdd, zTy, h1n, hg1, hget0, hb0]
  refine CW_cond (!decide (w0 = wordWorld)) (by rfl) (fun h => CW_seq (CW_region ?_)) (fun h => CW_skip ?_)
  · simp only [zZ, reduceIte, Nat.reduceLT, Int.reduceToNat, Int.reduceLE, Int.reduceEq, Int.reduceLT, Nat.reduceEqDiff, Nat.reduceAdd, zTy]
    refine CW_ret ?_
    simp only [zZ, reduceIte, Nat.reduceLT, Int.reduceToNat, Int.reduceLE, Int.reduceEq, Int.reduceLT, Nat.reduceEqDiff, Nat.reduceAdd, zTy, mEnd, sAnswer, sAnswer.sRes]
    refine ⟨M1, Thin.refl _, hk1, by omega, ?_⟩
    rw [hR, firstOf, if_neg (by simpa using h)]
    exact ⟨rfl, hp1⟩
  have hw : w0 = wordWorld := by simpa using h
  have hR1 : R = (match numsV r [(13, 1024), (13, 1024), (0, 1000), (0, 64)] with
    | some [a, b, c, d] => some (a, b, c, d)
    | _ => none) := by rw [hR, firstOf, if_pos hw]
  simp only [zZ, reduceIte, Nat.reduceLT, Int.reduceToNat, Int.reduceLE, Int.reduceEq, Int.reduceLT, Nat.reduceEqDiff, Nat.reduceAdd]
  obtain ⟨M2, hM2⟩ : ∃ M2, M2 = M1.push (.cells false 2 [.int .i64 13, .int .i64 1024, .int .i64 13, .int .i64 1024, .int .i64 0, .int .i64 1000, .int .i64 0, .int .i64 64]) := ⟨_, rfl⟩
  have hg2 : M2.get g = some (.cells true 1 (sC (w0 :: r))) := by rw [hM2, Mem.get_push_old (get_live hg1)]; exact hg1
  have hb2 : M2.get M1.size = some (.cells false 2 (([(13, 1024), (13, 1024), (0, 1000), (0, 64)] : List (Int × Int)).flatMap bC)) := by rw [hM2, Mem.get_push_new]; rfl
  have hp2 : PAt K M2 p st := by rw [hM2]; exact hp1.push _
  have hk2 : Keeps K m M2 := by rw [hM2]; exact hk1.trans (Keeps.push _ _ _)
  have hs2 : M2.size = m.size + 2 := by rw [hM2, Mem.size_push, hs1]
  have hnums := numbers_spec r [(13, 1024), (13, 1024), (0, 1000), (0, 64)] g 1 (n - 1) (n - 1) M1.size 4 true false (sC (w0 :: r)) M2 hg2 (fun i w hi => by
    rw [Nat.add_comm]; show (sC r)[i]? = _; exact get_str r i w hi) (by simp at hn; omega) hb2 rfl (by decide) (by decide) (fun w hw => hs w (List.mem_cons_of_mem _ hw))
  have hsl := fun (get : Nat → Option Blk) (h : get g = some (.cells true 1 (sC (w0 :: r)))) => slice_words h hn1
  have hrow : rowIn 2 0 (some (.cells false s1 [.int .i64 13, .int .i64 1024])) = some (.agg #[.int .i64 13, .int .i64 1024]) := rfl
  refine CW_seq (CW_drawn hmix [(7, 8), (13, 13)] (by kernel_rfl) ?_)
  simp only [sPhB, Nat.reduceSub, Nat.sub_zero, zZ, reduceIte, Nat.reduceLT, Int.reduceToNat, Int.reduceLE, Int.reduceEq, Int.reduceLT, Nat.reduceEqDiff, Nat.reduceAdd, zTy, hsl _ hg1, hb1, hrow, build_two, new_twos4, ← hM2]
  refine ⟨by kernel_rfl, _, hnums, ?_⟩
  rintro u M hN
  cases hq : numsV r [(13, 1024), (13, 1024), (0, 1000), (0, 64)] with
  | none =>
    rw [hq] at hN hR1
    obtain ⟨rfl, rfl⟩ := hN
    simp only [sPhB, Nat.reduceSub, zZ, reduceIte, Nat.reduceLT, Int.reduceToNat, Int.reduceLE, Int.reduceEq, Int.reduceLT, Nat.reduceEqDiff, Nat.reduceAdd, zTy]
    refine CW_seq (CW_seq (CW_region ?_))
    simp only [zZ, reduceIte, Nat.reduceLT, Int.reduceToNat, Int.reduceLE, Int.reduceEq, Int.reduceLT, Nat.reduceEqDiff, Nat.reduceAdd, zTy]
    refine CW_cond false (by rfl) (fun h => by cases h) (fun _ => CW_skip ?_)
    simp only [zZ, reduceIte, Nat.reduceLT, Int.reduceToNat, Int.reduceLE, Int.reduceEq, Int.reduceLT, Nat.reduceEqDiff, Nat.reduceAdd]
    refine CW_seq (CW_region ?_)
    simp only [zZ, reduceIte, Nat.reduceLT, Int.reduceToNat, Int.reduceLE, Int.reduceEq, Int.reduceLT, Nat.reduceEqDiff, Nat.reduceAdd, zTy]
    refine CW_ret ?_
    simp only [zZ, reduceIte, Nat.reduceLT, Int.reduceToNat, Int.reduceLE, Int.reduceEq, Int.reduceLT, Nat.reduceEqDiff, Nat.reduceAdd, zTy, mEnd, sAnswer, sAnswer.sRes]
    refine ⟨_, Thin.refl _, hk2, by omega, ?_⟩
    rw [hR1]
    exact ⟨rfl, hp2⟩
  | some q =>
    rw [hq] at hN hR1
    obtain ⟨rfl, hM⟩ := hN
    obtain ⟨a, b, c, d, rfl⟩ : ∃ a b c d, q = [a, b, c, d] := by
      have hl := numsV_len2 hq
      match q, hl with
      | [a, b, c, d], _ => exact ⟨a, b, c, d, rfl⟩
    have hge : M.get M2.size = some (.cells false 1 [.int .i64 a, .int .i64 b, .int .i64 c, .int .i64 d]) := by
      rw [hM]
      have := ext_get M2 [some (some (.cells false 1 (iC [a, b, c, d])))] 0
      rw [Nat.add_zero] at this
      rw [this]; rfl
    have hk3 : Keeps K m M := by rw [hM]; exact hk2.trans (Keeps.ext _ _ _)
    have hs3 : m.size ≤ M.size := by rw [hM, ext_size]; omega
    have hp3 : PAt K M p st := by rw [hM]; exact hp2.ext _
    clear hM
    obtain ⟨hKp, sp, V, hgp, hst⟩ := id hp3
    have l4 : ((4 : Nat) : Int) = 4 := rfl
    have hput : ∀ x0 x1 x2 x3 : Int, putIn 5 M p 0 [.int .i64 x0, .int .i64 x1, .int .i64 x2, .int .i64 x3, .slice none 0 0] (M.get p) = some (M.set p (some (.cells false sp [.int .i64 x0, .int .i64 x1, .int .i64 x2, .int .i64 x3, .slice none 0 0, .int .i64 st.n]))) := fun x0 x1 x2 x3 => by rw [hgp]; rfl
    simp only [sPhB, Nat.reduceSub, zZ, reduceIte, Nat.reduceLT, Int.reduceToNat, Int.reduceLE, Int.reduceEq, Int.reduceLT, Nat.reduceEqDiff, Nat.reduceAdd, zTy]
    refine CW_seq (CW_seq (CW_region ?_))
    simp only [zZ, reduceIte, Nat.reduceLT, Int.reduceToNat, Int.reduceLE, Int.reduceEq, Int.reduceLT, Nat.reduceEqDiff, Nat.reduceAdd, zTy]
    refine CW_cond true (by rfl) (fun _ => CW_draw hmix 15 (by kernel_rfl) (by kernel_rfl) ?_) (fun h => by cases h)
    simp only [zZ, reduceIte, Nat.reduceLT, Int.reduceToNat, Int.reduceLE, Int.reduceEq, Int.reduceLT, Nat.reduceEqDiff, Nat.reduceAdd, zTy, l4, hge, build_fair, build_scr, hput]
    refine CW_seq (CW_region ?_)
    simp only [zZ, reduceIte, Nat.reduceLT, Int.reduceToNat, Int.reduceLE, Int.reduceEq, Int.reduceLT, Nat.reduceEqDiff, Nat.reduceAdd, zTy]
    refine CW_ret ?_
    simp only [zZ, reduceIte, Nat.reduceLT, Int.reduceToNat, Int.reduceLE, Int.reduceEq, Int.reduceLT, Nat.reduceEqDiff, Nat.reduceAdd, zTy, mEnd, sAnswer, sAnswer.sRes]
    refine ⟨_, Thin.refl _, hk3.trans (Keeps.set hKp hgp _), by rw [Mem.size_set]; omega, ?_⟩
    rw [hR1]
    exact ⟨rfl, hKp, sp, _, Mem.get_set_same hgp _, fun q hq => by simp at hq, .inl ⟨rfl, rfl⟩⟩
end Go.Proofs.YthcleiegefhmdaaGreatDoor
namespace Go.Proofs.YthcleiegefhmdaaGreatDoor
open Go.RowKit Abs
def fileOf (w : List UInt8) : Option FileL :=
  if (cut1 58 w []).2.2 = true ∧ (unhexV (cut1 58 w []).1).2 = true ∧ (unhexV (cut1 58 w []).2.1).2 = true then some ((unhexV (cut1 58 w []).1).1, (unhexV (cut1 58 w []).2.1).1) else none
def filesOf : List (List UInt8) → Option (List FileL)
  | [] => some []
  | w :: r => match fileOf w with
    | none => none
    | some f => (filesOf r).map (f :: ·)
def packOf (ws : List (List UInt8)) : Option (StepL × Nat) := match filesOf ws with
  | none => none
  | some fs => if checkV fs = 0 then some (⟨0, 0, fs, [], false, 0, 0⟩, 1) else none
theorem unhexL_len : ∀ (l q : List UInt8), unhexL l = some q → q.length ≤ l.length
  | [], q, h => by simp [unhexL] at h; subst h; simp
  | [_], q, h => by cases h
  | a :: b :: r, q, h => by
    rw [unhexL] at h
    split at h
    · cases h
    · split at h
      · rename_i q' h'
        cases h
        have := unhexL_len r q' h'
        simp; omega
      · cases h
theorem unhexV_len (l : List UInt8) : (unhexV l).1.length ≤ l.length := by
  unfold unhexV
  split
  · simp
  · split
    · simp
    · split
      · rename_i q h; exact unhexL_len l q h
      · simp
theorem cut1_len (c : UInt8) : ∀ (l cur : List UInt8), (cut1 c l cur).1.length ≤ l.length + cur.length ∧ (cut1 c l cur).2.1.length ≤ l.length
  | [], cur => by simp [cut1]
  | b :: r, cur => by
    rw [cut1]
    split
    · simp
    · have := cut1_len c r (cur ++ [b])
      simp only [List.length_append, List.length_cons, List.length_nil] at this ⊢
      omega
theorem fileOf_len {w : List UInt8} {f : FileL} (h : fileOf w = some f) : f.1.length ≤ w.length ∧ f.2.length ≤ w.length := by
  unfold fileOf at h
  split at h
  · cases h
    have h1 := unhexV_len (cut1 58 w []).1
    have h2 := unhexV_len (cut1 58 w []).2.1
    have h3 := cut1_len 58 w []
    simp only [List.length_nil] at h3
    simp only
    omega
  · cases h
theorem filesOf_mem : ∀ {ws : List (List UInt8)} {fs : List FileL}, filesOf ws = some fs → fs.length = ws.length ∧ ∀ f ∈ fs, ∃ w ∈ ws, fileOf w = some f
  | [], fs, h => by cases h; exact ⟨rfl, fun f hf => by simp at hf⟩
  | w :: r, fs, h => by
    rw [filesOf] at h
    split at h
    · cases h
    · rename_i f hf
      rw [Option.map_eq_some_iff] at h
      obtain ⟨q, h1, rfl⟩ := h
      obtain ⟨h2, h3⟩ := filesOf_mem h1
      refine ⟨by simp [h2], fun g hg => ?_⟩
      rcases List.mem_cons.1 hg with rfl | hg
      · exact ⟨w, by simp, hf⟩
      · obtain ⟨x, hx, hy⟩ := h3 g hg
        exact ⟨x, by simp [hx], hy⟩
theorem File_zero : Tryz.t57.zero = some (.agg #[.string ⟨#[]⟩, .string ⟨#[]⟩]) := rfl
theorem File_bytes : Tryz.t57.bytes = 32 := rfl
theorem build_file (a b : ByteArray) : aBuild Tryz.prog 57 [(0, .string a), (1, .string b)] = some (.agg #[.string a, .string b]) := by kernel_rfl
theorem new_file1 (a b : ByteArray) : nBuildSlice Tryz.prog 48 1 [(0, .agg #[.string a, .string b])] = some (.cells false 2 [.string a, .string b]) := by kernel_rfl
def FilesOwn (k : Nat) (M : Mem) (V : Value) (fs : List FileL) : Prop := (fs = [] ∧ V = .slice none 0 0) ∨ (fs ≠ [] ∧ ∃ h, k < h ∧ V = .slice (some ⟨h, 0, none⟩) fs.length fs.length ∧ M.get h = some (.cells false 2 (fs.flatMap fileC)))
theorem fapp {k : Nat} {M : Mem} {V : Value} {fs : List FileL} (h : FilesOwn k M V fs) (hk : k < M.size) (hl : fs.length ≤ 1000000) (f : FileL) :
    ∃ M', aAppend Tryz.prog (M.push (.cells false 2 [.string (str f.1), .string (str f.2)])) 48 48 V (.slice (some ⟨M.size, 0, none⟩) 1 1) = some (.slice (some ⟨M.size + 1, 0, none⟩) (fs.length + 1) (fs.length + 1), M') ∧
      M'.size = M.size + 2 ∧ M'.get (M.size + 1) = some (.cells false 2 ((fs ++ [f]).flatMap fileC)) ∧ (∀ b x, b ≤ k → M.get b = some x → M'.get b = some x) := by
  have hsrc := src_block (m := M.push (.cells false 2 [.string (str f.1), .string (str f.2)])) (c := 1) (k := 1) (N := 2) (news := [.string (str f.1), .string (str f.2)]) (ro := false) (s := 2) Tryz.underlying48 (Mem.get_push_new M _) rfl
  rcases h with ⟨rfl, rfl⟩ | ⟨h0, g, hg1, rfl, hg⟩
  · have ha := gapp_nil (N := 2) (k := 1) (news := [.string (str f.1), .string (str f.2)]) Tryz.underlying48 inf_File File_zero sz_File rfl (M.push (.cells false 2 [.string (str f.1), .string (str f.2)])) hsrc (by decide) (by rw [File_bytes]; decide) (by decide)
    rw [Mem.size_push] at ha
    refine ⟨_, ha, by simp only [Mem.size_push], ?_, fun b x hb hx => ?_⟩
    · have := Mem.get_push_new (M.push (.cells false 2 [.string (str f.1), .string (str f.2)])) (.cells false 2 [.string (str f.1), .string (str f.2)])
      rw [Mem.size_push] at this
      exact this
    · have := get_live hx
      rw [Mem.get_push_old (by rw [Mem.size_push]; omega), Mem.get_push_old this]; exact hx
  · have hgl := get_live hg
    have ha := gapp (N := 2) (k := 1) (n := fs.length) (cs := fs.flatMap fileC) (news := [.string (str f.1), .string (str f.2)]) Tryz.underlying48 inf_File File_zero sz_File rfl (M.push (.cells false 2 [.string (str f.1), .string (str f.2)])) hsrc (by decide)
      (by rw [Mem.get_push_old hgl]; exact hg) (fileC_all fs) (by rw [File_bytes]; omega) (by omega)
    rw [Mem.size_push] at ha
    refine ⟨_, ha, by simp only [Mem.size_push, Mem.size_set], ?_, fun b x hb hx => ?_⟩
    · have := Mem.get_push_new ((M.push (.cells false 2 [.string (str f.1), .string (str f.2)])).set g none) (.cells false 2 (fs.flatMap fileC ++ [.string (str f.1), .string (str f.2)]))
      rw [Mem.size_set, Mem.size_push] at this
      rw [this, List.flatMap_append]; rfl
    · have := get_live hx
      rw [Mem.get_push_old (by rw [Mem.size_set, Mem.size_push]; omega), Mem.get_set_ne (by omega), Mem.get_push_old this]; exact hx
set_option maxRecDepth 100000 in
set_option maxHeartbeats 2000000 in
theorem pack_spec (hpath : PathOk) (K p : Nat) (st : PState) (ws : List (List UInt8)) (g o n c : Nat) (all : List Value) (m : Mem) (hp : PAt K m p st) (hK : K ≤ m.size) (hlen : st.steps.length ≤ 4096) (hg : m.get g = some (.cells true 1 all)) (ha : ∀ i w, ws[i]? = some w → all[o + i]? = some (.string (str w)))
    (hn : ws.length = n) (hs : ∀ w ∈ ws, w.length ≤ 900000) (hn2 : n ≤ 900000) :
    Abs.Spec Tryz.prog 23 [.pointer (some ⟨p, 0, none⟩), .slice (some ⟨g, o, none⟩) n c] m (Added K m p st (packOf ws)) := by
  refine Abs.Spec.walkM Tryz.func23 (by rfl) _ Tryz.results23 _ Tryz.ntmps23 (by simp) ?_
  intro hc hx k
  obtain ⟨R, hR⟩ : ∃ R, R = packOf ws := ⟨_, rfl⟩
  rw [← hR]
  have grow : ∀ M, (∀ b x, b ≤ m.size → m.get b = some x → M.get b = some x) → Keeps K m M ∧ PAt K M p st ∧ M.get g = some (.cells true 1 all) := fun M h => ⟨⟨fun b x _ hx => h b x (by have := get_live hx; omega) hx, fun b s cs hx => h b _ (by have := get_live hx; omega) hx⟩, hp.same fun b x hx => h b x (by have := get_live hx; omega) hx, h g _ (by have := get_live hg; omega) hg⟩
  have no : ∀ M, R = none → (∀ b x, b ≤ m.size → m.get b = some x → M.get b = some x) → m.size ≤ M.size → ∃ m', Thin M m' ∧ Added K m p st R (.bool false) m' := fun M h h1 h2 => ⟨M, Thin.refl _, by rw [h]; exact Added.no (grow M h1).2.1 (grow M h1).1 h2⟩
  have hal := al_Step
  generalize aStride Tryz.prog 52 = s1 at hal
  have hbs := build_step1 0
  simp only [stepC, stepK] at hbs
  have hbs2 : aBuild Tryz.prog 52 [(0, .int .i64 0)] = some (.agg #[.int .i64 0, .int .i64 0, .slice none 0 0, .string ⟨#[]⟩, .bool false, .int .i64 0, .int .i64 0]) := hbs
  refine CW_seq (CW_region ?_)
  simp only [zZ, reduceIte, Nat.reduceLT, Int.reduceToNat, Int.reduceLE, Int.reduceEq, Int.reduceLT, Nat.reduceEqDiff, Nat.reduceAdd, zTy]
  refine CW_seq (CW_region ?_)
  simp only [zZ, reduceIte, Nat.reduceLT, Int.reduceToNat, Int.reduceLE, Int.reduceEq, Int.reduceLT, Nat.reduceEqDiff, Nat.reduceAdd, zTy, hbs2, hal, Mem.get_push_new, push_set]
  refine CW_seq (CW_seq (CW_region ?_))
  simp only [zZ, reduceIte, Nat.reduceLT, Int.reduceToNat, Int.reduceLE, Int.reduceEq, Int.reduceLT, Nat.reduceEqDiff, Nat.reduceAdd, zTy]
  refine CW_block (MW_loop (fun j f M => ∃ (t : Nat) (fs : List FileL) (V : Value), t + j = n ∧ fs.length = t ∧ filesOf ws = (filesOf (ws.drop t)).map (fs ++ ·) ∧ f = [(0, .pointer (some ⟨p, 0, none⟩)), (5, .pointer (some ⟨m.size, 0, none⟩)), (16, .slice (some ⟨g, o, none⟩) n c), (17, .int .i64 (n : Nat)), (18, .int .i64 (t : Nat))] ∧
    (∀ b x, b ≤ m.size → m.get b = some x → M.get b = some x) ∧ m.size < M.size ∧ M.get m.size = some (.cells false s1 [.int .i64 0, .int .i64 0, V, .string ⟨#[]⟩, .bool false, .int .i64 0, .int .i64 0]) ∧ FilesOwn m.size M V fs) n ?_ ?_)
  · refine ⟨[0, 5, 16, 17, 18], ?_⟩
    simp only [zZ, reduceIte, Nat.reduceLT, Int.reduceToNat, Int.reduceLE, Int.reduceEq, Int.reduceLT, Nat.reduceEqDiff, Nat.reduceAdd, keepF]
    exact ⟨_, Thin.refl _, 0, [], _, by omega, rfl, by simp, rfl, fun b x _ hx => by rw [Mem.get_push_old (get_live hx)]; exact hx, by rw [Mem.size_push]; omega, Mem.get_push_new m _, .inl ⟨rfl, rfl⟩⟩
  · rintro j f M ⟨t, fs, V, htj, hft, hun, rfl, hold, hms, hbx, hfo⟩
    obtain ⟨hkM, hpM, hgM⟩ := grow M hold
    refine CW_seq (CW_region ?_)
    simp only [zZ, reduceIte, Nat.reduceLT, Int.reduceToNat, Int.reduceLE, Int.reduceEq, Int.reduceLT, Nat.reduceEqDiff, Nat.reduceAdd, zTy]
    refine CW_seq (CW_cond (decide ((t : Int) < (n : Int))) (by rfl) (fun h => CW_skip ?_) (fun h => CW_exit ?_))
    · simp only [zZ, reduceIte, Nat.reduceLT, Int.reduceToNat, Int.reduceLE, Int.reduceEq, Int.reduceLT, Nat.reduceEqDiff, Nat.reduceAdd]
      have htl : t < n := by have := of_decide_eq_true h; omega
      have h0 : (0 : Int) ≤ (t : Int) := by omega
      have h1 : (t : Int) < (n : Int) := by omega
      obtain ⟨w, hw⟩ : ∃ w, ws[t]? = some w := ⟨_, List.getElem?_eq_getElem (by omega)⟩
      have aw := ha t w hw
      have hws := hs w (List.mem_of_getElem? hw)
      have dw := drop_get hw
      have hxi : IntKind.i64.wrap ((t : Int) + 1) = ((t + 1 : Nat) : Int) := by rw [wr (by omega) (by omega)]; omega
      have hl1 := cut1_len 58 w []
      simp only [List.length_nil] at hl1
      refine CW_seq (CW_block (CW_seq (CW_region ?_)))
      simp only [zZ, reduceIte, Nat.reduceLT, Int.reduceToNat, Int.reduceLE, Int.reduceEq, Int.reduceLT, Nat.reduceEqDiff, Nat.reduceAdd, zTy, h0, h1, and_self, hgM, aw]
      refine CW_seq (CW_region ?_)
      simp only [zZ, reduceIte, Nat.reduceLT, Int.reduceToNat, Int.reduceLE, Int.reduceEq, Int.reduceLT, Nat.reduceEqDiff, Nat.reduceAdd, zTy]
      refine ⟨by kernel_rfl, _, cut_spec (str w) 58 (by rw [Go.Proofs.YthcleiegefhmdaaGreatDoor.str_size]; omega) _, ?_⟩
      rintro _ M9 ⟨rfl, e9⟩
      replace e9 := e9.symm
      subst e9
      simp only [zZ, reduceIte, Nat.reduceLT, Int.reduceToNat, Int.reduceLE, Int.reduceEq, Int.reduceLT, Nat.reduceEqDiff, Nat.reduceAdd, zTy, str_data, cut_eq]
      obtain ⟨c1, c2, c3, hcut⟩ : ∃ c1 c2 c3, cut1 58 w [] = (c1, c2, c3) := ⟨_, _, _, rfl⟩
      rw [hcut] at hl1 ⊢
      simp only at hl1 ⊢
      refine CW_seq (CW_region ?_)
      simp only [zZ, reduceIte, Nat.reduceLT, Int.reduceToNat, Int.reduceLE, Int.reduceEq, Int.reduceLT, Nat.reduceEqDiff, Nat.reduceAdd, zTy]
      refine ⟨by kernel_rfl, _, unhex_spec (str c1) (by rw [Go.Proofs.YthcleiegefhmdaaGreatDoor.str_size]; omega) _, ?_⟩
      rintro _ M9 ⟨rfl, e9⟩
      replace e9 := e9.symm
      subst e9
      simp only [zZ, reduceIte, Nat.reduceLT, Int.reduceToNat, Int.reduceLE, Int.reduceEq, Int.reduceLT, Nat.reduceEqDiff, Nat.reduceAdd, zTy, str_data]
      refine CW_seq (CW_region ?_)
      simp only [zZ, reduceIte, Nat.reduceLT, Int.reduceToNat, Int.reduceLE, Int.reduceEq, Int.reduceLT, Nat.reduceEqDiff, Nat.reduceAdd, zTy]
      refine ⟨by kernel_rfl, _, unhex_spec (str c2) (by rw [Go.Proofs.YthcleiegefhmdaaGreatDoor.str_size]; omega) _, ?_⟩
      rintro _ M9 ⟨rfl, e9⟩
      replace e9 := e9.symm
      subst e9
      simp only [zZ, reduceIte, Nat.reduceLT, Int.reduceToNat, Int.reduceLE, Int.reduceEq, Int.reduceLT, Nat.reduceEqDiff, Nat.reduceAdd, zTy, str_data]
      have hfile : fileOf w = if c3 = true ∧ (unhexV c1).2 = true ∧ (unhexV c2).2 = true then some ((unhexV c1).1, (unhexV c2).1) else none := by unfold fileOf; rw [hcut]
      obtain ⟨u1, o1, hu1⟩ : ∃ u1 o1, unhexV c1 = (u1, o1) := ⟨_, _, rfl⟩
      obtain ⟨u2, o2, hu2⟩ : ∃ u2 o2, unhexV c2 = (u2, o2) := ⟨_, _, rfl⟩
      rw [hu1, hu2] at hfile ⊢
      simp only at hfile ⊢
      refine CW_seq (CW_seq (CW_region ?_))
      cases c3 <;> cases o1 <;> cases o2 <;> simp only [zZ, reduceIte, Nat.reduceLT, Int.reduceToNat, Int.reduceLE, Int.reduceEq, Int.reduceLT, Nat.reduceEqDiff, Nat.reduceAdd, zTy]
      case' true.true.true =>
        have hfile : fileOf w = some (u1, u2) := hfile
        refine CW_cond false (by rfl) (fun h => by cases h) (fun _ => CW_skip ?_)
        simp only [zZ, reduceIte, Nat.reduceLT, Int.reduceToNat, Int.reduceLE, Int.reduceEq, Int.reduceLT, Nat.reduceEqDiff, Nat.reduceAdd]
        refine CW_region ?_
        obtain ⟨M', ha1, hs1, hg1, hold1⟩ := fapp hfo hms (by omega) (u1, u2)
        simp only at ha1
        have hbx1 := hold1 m.size _ (Nat.le_refl _) hbx
        simp only [zZ, reduceIte, Nat.reduceLT, Int.reduceToNat, Int.reduceLE, Int.reduceEq, Int.reduceLT, Nat.reduceEqDiff, Nat.reduceAdd, zTy, hbx, build_file, new_file1, ha1, hbx1]
        refine CW_region ?_
        simp only [zZ, reduceIte, Nat.reduceLT, Int.reduceToNat, Int.reduceLE, Int.reduceEq, Int.reduceLT, Nat.reduceEqDiff, Nat.reduceAdd, zTy, hxi]
        refine ⟨[0, 5, 16, 17, 18], ?_⟩
        simp only [zZ, reduceIte, Nat.reduceLT, Int.reduceToNat, Int.reduceLE, Int.reduceEq, Int.reduceLT, Nat.reduceEqDiff, Nat.reduceAdd, keepF]
        refine ⟨_, Thin.refl _, j - 1, ⟨t + 1, fs ++ [(u1, u2)], _, by omega, by simp [hft], ?_, rfl, fun b x hb hx => ?_, by rw [Mem.size_set]; omega, Mem.get_set_same hbx1 _, .inr ⟨by simp, M.size + 1, by omega, by simp, ?_⟩⟩, by omega⟩
        · rw [hun, dw, filesOf, hfile, Option.map_map]
          cases filesOf (ws.drop (t + 1)) <;> simp
        · have := get_live hx
          rw [Mem.get_set_ne (by omega)]
          exact hold1 b x hb (hold b x hb hx)
        · rw [Mem.get_set_ne (by omega)]; exact hg1
      all_goals
        refine CW_cond true (by rfl) (fun _ => CW_seq (CW_region ?_)) (fun h => by cases h)
        simp only [zZ, reduceIte, Nat.reduceLT, Int.reduceToNat, Int.reduceLE, Int.reduceEq, Int.reduceLT, Nat.reduceEqDiff, Nat.reduceAdd, zTy]
        refine CW_ret ?_
        simp only [zZ, reduceIte, Nat.reduceLT, Int.reduceToNat, Int.reduceLE, Int.reduceEq, Int.reduceLT, Nat.reduceEqDiff, Nat.reduceAdd, zTy, mEnd, sAnswer, sAnswer.sRes]
        refine no M ?_ hold (by omega)
        have hfile : fileOf w = none := by rw [hfile]; rfl
        rw [hR, packOf, hun, dw, filesOf, hfile]; rfl
    · simp only [zZ, reduceIte, Nat.reduceLT, Int.reduceToNat, Int.reduceLE, Int.reduceEq, Int.reduceLT, Nat.reduceEqDiff, Nat.reduceAdd]
      have htl : t = n := by have := of_decide_eq_false h; omega
      have hdn : ws.drop t = [] := List.drop_eq_nil_of_le (by omega)
      rw [hdn, filesOf] at hun
      have hun : filesOf ws = some fs := by rw [hun]; simp
      have hR1 : R = if checkV fs = 0 then some (⟨0, 0, fs, [], false, 0, 0⟩, 1) else none := by rw [hR, packOf, hun]
      -- the files are not written any more
      obtain ⟨M1, hth, hold1, hms1, hbx1, hfa⟩ : ∃ M1, Thin M M1 ∧ (∀ b x, b ≤ m.size → m.get b = some x → M1.get b = some x) ∧ m.size < M1.size ∧ M1.get m.size = some (.cells false s1 [.int .i64 0, .int .i64 0, V, .string ⟨#[]⟩, .bool false, .int .i64 0, .int .i64 0]) ∧ FilesAt M1 V fs := by
        rcases hfo with ⟨rfl, rfl⟩ | ⟨hf0, h', hh, rfl, hgh⟩
        · exact ⟨M, Thin.refl _, hold, hms, hbx, FilesAt.nil M⟩
        · have hsz : (fz1 h' M).size = M.size := by unfold fz1; rw [hgh]; simp only [Mem.size_set]
          refine ⟨fz1 h' M, fz1_thin _ _, fun b x hb hx => by rw [fz1_ne (by omega)]; exact hold b x hb hx, by omega, by rw [fz1_ne (by omega)]; exact hbx, some ⟨h', 0, none⟩, fs.length, rfl, Nat.le_refl _, by unfold maxLen; omega, (fun e => by cases e), (fun q hq => by cases hq; exact ⟨h', rfl, fun _ => fz1_get hgh⟩)⟩
      refine CW_thin hth ?_
      obtain ⟨hkM1, hpM1, hgM1⟩ := grow M1 hold1
      obtain ⟨va, vc, hva, _⟩ := id hfa
      have hfm := filesOf_mem hun
      have hfl : ∀ f ∈ fs, f.1.length ≤ 1000000 := fun f hf => by
        obtain ⟨w, hw, he⟩ := hfm.2 f hf
        have := fileOf_len he
        have := hs w hw
        omega
      subst hva
      refine CW_seq (CW_region ?_)
      simp only [zZ, reduceIte, Nat.reduceLT, Int.reduceToNat, Int.reduceLE, Int.reduceEq, Int.reduceLT, Nat.reduceEqDiff, Nat.reduceAdd, zTy, hbx1]
      refine ⟨by kernel_rfl, _, fcheck_spec hpath fs va vc _ hfa.rd hfl (by omega), ?_⟩
      rintro _ M9 ⟨rfl, e9⟩
      replace e9 := e9.symm
      subst e9
      cases hz : (checkV fs == 0)
      · simp only [zZ, reduceIte, Nat.reduceLT, Int.reduceToNat, Int.reduceLE, Int.reduceEq, Int.reduceLT, Nat.reduceEqDiff, Nat.reduceAdd, zTy, hz]
        refine CW_ret ?_
        simp only [zZ, reduceIte, Nat.reduceLT, Int.reduceToNat, Int.reduceLE, Int.reduceEq, Int.reduceLT, Nat.reduceEqDiff, Nat.reduceAdd, zTy, mEnd, sAnswer, sAnswer.sRes]
        exact no _ (by rw [hR1, if_neg (by simpa using hz)]) hold1 (by omega)
      · have hadd := added_spec K p st ⟨0, 0, fs, [], false, 0, 0⟩ (.slice va fs.length vc) 1 1 rfl _ hpM1 (by omega) hfa hlen (by decide)
        simp only [zZ, reduceIte, Nat.reduceLT, Int.reduceToNat, Int.reduceLE, Int.reduceEq, Int.reduceLT, Nat.reduceEqDiff, Nat.reduceAdd, zTy, hz, hbx1]
        refine ⟨by kernel_rfl, _, hadd, ?_⟩
        rintro u M3 hA
        obtain ⟨bb, hbb⟩ := hA.bool
        subst hbb
        simp only [zZ, reduceIte, Nat.reduceLT, Int.reduceToNat, Int.reduceLE, Int.reduceEq, Int.reduceLT, Nat.reduceEqDiff, Nat.reduceAdd, zTy]
        refine CW_ret ?_
        simp only [zZ, reduceIte, Nat.reduceLT, Int.reduceToNat, Int.reduceLE, Int.reduceEq, Int.reduceLT, Nat.reduceEqDiff, Nat.reduceAdd, zTy, mEnd, sAnswer, sAnswer.sRes]
        refine ⟨M3, Thin.refl _, ?_⟩
        rw [hR1, if_pos (by simpa using hz)]
        exact hA.mono hkM1 (by omega)
end Go.Proofs.YthcleiegefhmdaaGreatDoor
namespace Go.Proofs.YthcleiegefhmdaaGreatDoor
open Go.RowKit Abs
def wPack : List UInt8 := [112, 97, 99, 107]
def wTick : List UInt8 := [116, 105, 99, 107]
def wFuse : List UInt8 := [102, 117, 115, 101]
def wCrash : List UInt8 := [99, 114, 97, 115, 104]
def wInject : List UInt8 := [105, 110, 106, 101, 99, 116]
def wFate : List UInt8 := [102, 97, 116, 101]
def tickOf (r : List (List UInt8)) : Option (StepL × Nat) := match r with
  | [a] => (numQ a 1 1000).map fun n => (stepK 1 0, n.toNat)
  | _ => none
def stepOf (ws : List (List UInt8)) : Option (StepL × Nat) := match ws with
  | [] => none
  | w0 :: r => if w0 = wPack then packOf r else if w0 = wTick then tickOf r else if w0 = wFuse then sideOf r 2 3 else if w0 = wCrash then sideOf r 4 5 else if w0 = wInject then injectOf r else if w0 = wFate then fateOf r else none
abbrev PS := Int × Int × Int × Int × List StepL
def lineOf (first : Bool) (x : PS) (ws : List (List UInt8)) : Option PS :=
  if first = true then (firstOf ws).map fun y => (y.1, y.2.1, y.2.2.1, y.2.2.2, []) else (addS x.2.2.2.2 (stepOf ws)).map fun L => (x.1, x.2.1, x.2.2.1, x.2.2.2.1, L)
def psOf (st : PState) : PS := (st.a, st.b, st.c, st.d, stepsOf st)
def LineR (K : Nat) (m : Mem) (p : Nat) (st : PState) (r : Option PS) (u : Value) (M : Mem) : Prop :=
  Keeps K m M ∧ m.size ≤ M.size ∧ ∃ st', PAt K M p st' ∧ st'.n = st.n + 1 ∧ match r with
    | none => u = .bool false
    | some y => u = .bool true ∧ psOf st' = y
theorem pieces_mem (c : UInt8) : ∀ (l cur w : List UInt8), w ∈ pieces c l cur → w.length ≤ l.length + cur.length
  | [], cur, w, h => by simp [pieces] at h; subst h; simp
  | b :: r, cur, w, h => by
    rw [pieces] at h
    split at h
    · rcases List.mem_cons.1 h with rfl | h
      · simp only [List.length_cons]; omega
      · have := pieces_mem c r [] w h
        simp at this ⊢; omega
    · have := pieces_mem c r _ w h
      simp at this ⊢; omega
theorem pieces_ne (c : UInt8) (l cur : List UInt8) : 1 ≤ (pieces c l cur).length := by rw [pieces_len]; omega
theorem splitB_sC (s : List UInt8) (c : UInt8) : (Lib.splitB (str [c]) 0 (Lib.countB (str s) (str [c])) (str s)).map Value.string = sC (pieces c s []) := by
  have h := split_eq (str s) c
  rw [str_data] at h
  rw [← h]
  unfold sC
  rw [List.map_map]
  rfl
theorem split_words (s : List UInt8) (c : UInt8) (hs : s.length ≤ 1000000) (m : Mem) :
    Abs.Spec Tryz.prog 10 [.string (str s), .string (str [c])] m fun u M => u = .slice (some ⟨m.size, 0, none⟩) (pieces c s []).length (pieces c s []).length ∧ M = ext m [some (some (.cells false 1 (sC (pieces c s []))))] := by
  have h := split_spec (str s) c (by rw [Go.Proofs.YthcleiegefhmdaaGreatDoor.str_size]; omega) m
  rw [splitB_sC] at h
  have hl : Lib.countB (str s) (str [c]) + 1 = (pieces c s []).length := by
    rw [pieces_len]
    exact congrArg (· + 1) (Lib.count_one c s)
  rw [hl] at h
  exact h
theorem nums_tick {r : List (List UInt8)} {x : Int} (hq : numsV r [(1, 1000)] = some [x]) : 1 ≤ x ∧ x ≤ 1000 := by
  match r with
  | [] => cases hq
  | [a] =>
    simp only [numsV] at hq
    split at hq
    · rename_i h1
      have h2 : (numP a 1 1000).1 = x := by simpa using hq
      have := (numP_iff a 1 1000 x (by omega) (by omega)).1 (by rw [← h2, ← h1])
      exact this.2
    · cases hq
  | a :: b :: r => rw [numsV_len _ _ (by simp)] at hq; cases hq
theorem new_twos1 (a b : Int) : nBuildSlice Tryz.prog 94 1 [(0, .agg #[.int .i64 a, .int .i64 b])] = some (.cells false 2 [.int .i64 a, .int .i64 b]) := by kernel_rfl
theorem Added.line {K : Nat} {m M : Mem} {p : Nat} {st0 st : PState} {ws : List (List UInt8)} {u : Value} (hA : Added K m p st (stepOf ws) u M) (hn : st.n = st0.n + 1) (hps : psOf st = psOf st0) : LineR K m p st0 (lineOf false (psOf st0) ws) u M := by
  obtain ⟨h1, h2, st', h3, h4, h5⟩ := hA
  refine ⟨h1, h2, st', h3, by rw [h4, hn], ?_⟩
  rw [← hps]
  unfold lineOf
  rw [if_neg (by decide)]
  have e : (psOf st).2.2.2.2 = stepsOf st := rfl
  rw [e]
  cases hz : addS (stepsOf st) (stepOf ws) with
  | none => rw [hz] at h5; exact h5
  | some L =>
    rw [hz] at h5
    obtain ⟨g1, g2, g3, g4, g5, g6⟩ := h5
    refine ⟨g1, ?_⟩
    unfold psOf
    rw [g2, g3, g4, g5, g6]
set_option maxRecDepth 100000 in
set_option maxHeartbeats 4000000 in
theorem line_spec (hpath : PathOk) (K p : Nat) (st : PState) (s : List UInt8) (m : Mem) (hp : PAt K m p st) (hK : K ≤ m.size) (hlen : st.steps.length ≤ 4096) (hs : s.length ≤ 800000) (hn0 : 0 ≤ st.n) (hn1 : st.n ≤ 1000000) :
    Abs.Spec Tryz.prog 11 [.pointer (some ⟨p, 0, none⟩), .string (str s)] m (LineR K m p st (lineOf (decide (st.n = 0)) (psOf st) (pieces 32 s []))) := by
  refine Abs.Spec.walkM Tryz.func11 (by rfl) _ Tryz.results11 _ Tryz.ntmps11 (by simp) ?_
  intro hc hx k
  have hwl : ∀ w ∈ pieces 32 s [], w.length ≤ 800000 := fun w hw => by have := pieces_mem 32 s [] w hw; simp at this; omega
  have hwn : (pieces 32 s []).length ≤ 800001 := by rw [pieces_len]; have := List.count_le_length (l := s) (a := 32); omega
  have hwn1 := pieces_ne 32 s []
  have hsplit := split_words s 32 (by omega) m
  generalize pieces 32 s [] = ws at hwl hwn hwn1 hsplit
  refine CW_seq (CW_region ?_)
  simp only [zZ, reduceIte, Nat.reduceLT, Int.reduceToNat, Int.reduceLE, Int.reduceEq, Int.reduceLT, Nat.reduceEqDiff, Nat.reduceAdd, zTy]
  refine CW_seq (CW_region ?_)
  simp only [zZ, reduceIte, Nat.reduceLT, Int.reduceToNat, Int.reduceLE, Int.reduceEq, Int.reduceLT, Nat.reduceEqDiff, Nat.reduceAdd, zTy]
  refine ⟨by kernel_rfl, _, hsplit, ?_⟩
  rintro _ M9 ⟨rfl, hM9⟩
  simp only [zZ, reduceIte, Nat.reduceLT, Int.reduceToNat, Int.reduceLE, Int.reduceEq, Int.reduceLT, Nat.reduceEqDiff, Nat.reduceAdd, zTy]
  -- the words are not written any more
  obtain ⟨n, hn⟩ : ∃ n, ws.length = n := ⟨_, rfl⟩
  rw [hn] at hwn hwn1 ⊢
  have hg9 : M9.get m.size = some (.cells false 1 (sC ws)) := by
    rw [hM9]
    have := ext_get m [some (some (.cells false 1 (sC ws)))] 0
    rw [Nat.add_zero] at this
    rw [this]; rfl
  have hs9 : M9.size = m.size + 1 := by rw [hM9, ext_size]; rfl
  have hold9 : ∀ b x, m.get b = some x → (fz1 m.size M9).get b = some x := fun b x hb => by
    rw [fz1_ne (by have := get_live hb; omega), hM9]; exact ext_get_old _ hb
  refine CW_thin (fz1_thin m.size M9) ?_
  have hg0 := fz1_get hg9
  have hs0 : (fz1 m.size M9).size = m.size + 1 := by unfold fz1; rw [hg9]; simp only [Mem.size_set, hs9]
  obtain ⟨M0, hM0⟩ : ∃ M0, M0 = fz1 m.size M9 := ⟨_, rfl⟩
  rw [← hM0] at hg0 hs0 hold9 ⊢
  clear hM0 hg9 hs9 hM9
  have hk0 : Keeps K m M0 := ⟨fun b x _ h => hold9 b x h, fun b s cs h => hold9 b _ h⟩
  have hp0 : PAt K M0 p st := hp.same hold9
  obtain ⟨hKp, sp, V, hgp, hst⟩ := id hp0
  have hxi : IntKind.i64.wrap (st.n + 1) = st.n + 1 := wr (by omega) (by omega)
  have hput : putIn 1 M0 p 5 [.int .i64 (st.n + 1)] (M0.get p) = some (M0.set p (some (.cells false sp [.int .i64 st.a, .int .i64 st.b, .int .i64 st.c, .int .i64 st.d, V, .int .i64 (st.n + 1)]))) := by rw [hgp]; rfl
  refine CW_seq (CW_seq (CW_region ?_))
  simp only [zZ, reduceIte, Nat.reduceLT, Int.reduceToNat, Int.reduceLE, Int.reduceEq, Int.reduceLT, Nat.reduceEqDiff, Nat.reduceAdd, zTy, hgp, hxi]
  obtain ⟨M1, hM1⟩ : ∃ M1, M1 = M0.set p (some (.cells false sp [.int .i64 st.a, .int .i64 st.b, .int .i64 st.c, .int .i64 st.d, V, .int .i64 (st.n + 1)])) := ⟨_, rfl⟩
  have hpm : p ≠ m.size := by
    obtain ⟨_, _, _, h, _⟩ := hp
    have := get_live h; omega
  have hg1 : M1.get m.size = some (.cells true 1 (sC ws)) := by rw [hM1, Mem.get_set_ne hpm]; exact hg0
  have hgp1 : M1.get p = some (.cells false sp [.int .i64 st.a, .int .i64 st.b, .int .i64 st.c, .int .i64 st.d, V, .int .i64 (st.n + 1)]) := by rw [hM1]; exact Mem.get_set_same hgp _
  have hk1 : Keeps K m M1 := by rw [hM1]; exact hk0.trans (Keeps.set hKp hgp _)
  have hs1 : M1.size = m.size + 1 := by rw [hM1, Mem.size_set, hs0]
  obtain ⟨st1, hst1⟩ : ∃ st1 : PState, st1 = { st with n := st.n + 1 } := ⟨_, rfl⟩
  have hp1 : PAt K M1 p st1 := by
    rw [hst1]
    refine ⟨hKp, sp, V, hgp1, fun q hq => (Keeps.set (k := K) hKp hgp _).files (hst.1 q hq) |> fun h => by rw [hM1]; exact h, ?_⟩
    rcases hst.2 with h4 | ⟨h5, g, h6, h7, h8, h9⟩
    · exact .inl h4
    · exact .inr ⟨h5, g, h6, h7, h8, by rw [hM1, Mem.get_set_ne (Ne.symm h7)]; exact h9⟩
  rw [← hM1]
  clear hM1 hput
  have hlen1 : st1.steps.length ≤ 4096 := by rw [hst1]; exact hlen
  have hps1 : psOf st1 = psOf st := by rw [hst1]; rfl
  have hst1n : st1.n = st.n + 1 := by rw [hst1]
  have words : ∀ i w, (ws.tail)[i]? = some w → (sC ws)[1 + i]? = some (.string (str w)) := fun i w hi => by
    cases ws with
    | nil => simp at hi
    | cons a r => rw [Nat.add_comm]; exact get_str r i w hi
  have htl : (ws.tail).length = n - 1 := by rw [List.length_tail, hn]
  have hwt : ∀ w ∈ ws.tail, w.length ≤ 800000 := fun w hw => hwl w (List.mem_of_mem_tail hw)
  refine CW_seq (CW_region ?_)
  simp only [zZ, reduceIte, Nat.reduceLT, Int.reduceToNat, Int.reduceLE, Int.reduceEq, Int.reduceLT, Nat.reduceEqDiff, Nat.reduceAdd, zTy, hgp1]
  refine CW_cond ((st.n + 1 : Int) == 1) (by rfl) (fun h => CW_seq (CW_region ?_)) (fun h => CW_skip ?_)
  · simp only [zZ, reduceIte, Nat.reduceLT, Int.reduceToNat, Int.reduceLE, Int.reduceEq, Int.reduceLT, Nat.reduceEqDiff, Nat.reduceAdd, zTy]
    refine ⟨by kernel_rfl, _, first_spec K p st1 ws m.size n M1 hp1 hg1 hn hwn1 (fun w hw => by have := hwl w hw; omega), ?_⟩
    rintro u M ⟨h1, h2, h3⟩
    have hz : st.n = 0 := by rw [beq_iff_eq] at h; omega
    rw [hz]
    have hub : ∃ bb, u = .bool bb := by
      revert h3; split
      · exact fun h => ⟨_, h.1⟩
      · exact fun h => ⟨_, h.1⟩
    obtain ⟨bb, hbb⟩ := hub
    subst hbb
    simp only [zZ, reduceIte, Nat.reduceLT, Int.reduceToNat, Int.reduceLE, Int.reduceEq, Int.reduceLT, Nat.reduceEqDiff, Nat.reduceAdd, zTy]
    refine CW_ret ?_
    simp only [zZ, reduceIte, Nat.reduceLT, Int.reduceToNat, Int.reduceLE, Int.reduceEq, Int.reduceLT, Nat.reduceEqDiff, Nat.reduceAdd, zTy, mEnd, sAnswer, sAnswer.sRes]
    refine ⟨M, Thin.refl _, hk1.trans h1, by omega, ?_⟩
    rw [show decide True = true from rfl]
    unfold lineOf
    rw [if_pos rfl]
    cases hf : firstOf ws with
    | none =>
      rw [hf] at h3
      exact ⟨st1, h3.2, hst1n, h3.1⟩
    | some y =>
      obtain ⟨a, b, c, d⟩ := y
      rw [hf] at h3
      exact ⟨_, h3.2, hst1n, h3.1, rfl⟩
  have hz : ¬ st.n = 0 := by rw [beq_eq_false_iff_ne] at h; omega
  rw [decide_eq_false hz]
  obtain ⟨w0, r, rfl⟩ : ∃ w0 r, ws = w0 :: r := by
    cases ws with
    | nil => simp at hn; omega
    | cons w0 r => exact ⟨w0, r, rfl⟩
  simp only [List.tail_cons] at words htl hwt
  have line : ∀ (u : Value) (M : Mem), Added K M1 p st1 (stepOf (w0 :: r)) u M → ∃ m', Thin M m' ∧ LineR K m p st (lineOf false (psOf st) (w0 :: r)) u m' := fun u M hA => ⟨M, Thin.refl _, (hA.mono hk1 (by omega)).line hst1n hps1⟩
  have hget0 : (sC (w0 :: r))[0]? = some (.string (str w0)) := rfl
  have h1n : (0 : Int) < (n : Int) := by omega
  have hsl := fun (get : Nat → Option Blk) (h : get m.size = some (.cells true 1 (sC (w0 :: r)))) => slice_words h hwn1
  have e0 : beqB (str w0) ⟨#[112, 97, 99, 107]⟩ = decide (w0 = wPack) := beqB_str w0 _
  have e1 : beqB (str w0) ⟨#[116, 105, 99, 107]⟩ = decide (w0 = wTick) := beqB_str w0 _
  have e2 : beqB (str w0) ⟨#[102, 117, 115, 101]⟩ = decide (w0 = wFuse) := beqB_str w0 _
  have e3 : beqB (str w0) ⟨#[99, 114, 97, 115, 104]⟩ = decide (w0 = wCrash) := beqB_str w0 _
  have e4 : beqB (str w0) ⟨#[105, 110, 106, 101, 99, 116]⟩ = decide (w0 = wInject) := beqB_str w0 _
  have e5 : beqB (str w0) ⟨#[102, 97, 116, 101]⟩ = decide (w0 = wFate) := beqB_str w0 _
  have hso : ∀ z, stepOf (w0 :: r) = z → stepOf (w0 :: r) = z := fun z h => h
  simp only [zZ, reduceIte, Nat.reduceLT, Int.reduceToNat, Int.reduceLE, Int.reduceEq, Int.reduceLT, Nat.reduceEqDiff, Nat.reduceAdd]
  refine CW_seq (CW_seq (CW_region ?_))
  simp only [zZ, reduceIte, Nat.reduceLT, Int.reduceToNat, Int.reduceLE, Int.reduceEq, Int.reduceLT, Nat.reduceEqDiff, Nat.reduceAdd, zTy, h1n, hg1, hget0]
  refine CW_block (CW_seq (CW_region ?_))
  simp only [zZ, reduceIte, Nat.reduceLT, Int.reduceToNat, Int.reduceLE, Int.reduceEq, Int.reduceLT, Nat.reduceEqDiff, Nat.reduceAdd, zTy, e0]
  refine CW_cond (decide (w0 = wPack)) (by rfl) (fun c0 => CW_seq (CW_region ?_)) (fun c0 => CW_seq (CW_region ?_))
  · simp only [zZ, reduceIte, Nat.reduceLT, Int.reduceToNat, Int.reduceLE, Int.reduceEq, Int.reduceLT, Nat.reduceEqDiff, Nat.reduceAdd, zTy, hsl _ hg1]
    have hA := pack_spec hpath K p st1 r m.size 1 (n - 1) (n - 1) _ M1 hp1 (by omega) hlen1 hg1 words htl (fun w hw => by have := hwt w hw; omega) (by omega)
    refine ⟨by kernel_rfl, _, hA, ?_⟩
    intro u M hA
    obtain ⟨bb, hbb⟩ := hA.bool
    subst hbb
    simp only [zZ, reduceIte, Nat.reduceLT, Int.reduceToNat, Int.reduceLE, Int.reduceEq, Int.reduceLT, Nat.reduceEqDiff, Nat.reduceAdd, zTy]
    refine CW_ret ?_
    simp only [zZ, reduceIte, Nat.reduceLT, Int.reduceToNat, Int.reduceLE, Int.reduceEq, Int.reduceLT, Nat.reduceEqDiff, Nat.reduceAdd, zTy, mEnd, sAnswer, sAnswer.sRes]
    exact line _ _ (by rw [stepOf, if_pos (of_decide_eq_true c0)]; exact hA)
  have c0 := of_decide_eq_false c0
  simp only [zZ, reduceIte, Nat.reduceLT, Int.reduceToNat, Int.reduceLE, Int.reduceEq, Int.reduceLT, Nat.reduceEqDiff, Nat.reduceAdd, zTy, e1]
  refine CW_cond (decide (w0 = wTick)) (by rfl) (fun c1 => CW_seq (CW_region ?_)) (fun c1 => CW_seq (CW_region ?_))
  · have c1 := of_decide_eq_true c1
    obtain ⟨M2, hM2⟩ : ∃ M2, M2 = M1.push (.cells false 2 [.int .i64 1, .int .i64 1000]) := ⟨_, rfl⟩
    have hg2 : M2.get m.size = some (.cells true 1 (sC (w0 :: r))) := by rw [hM2, Mem.get_push_old (get_live hg1)]; exact hg1
    have hb2 : M2.get M1.size = some (.cells false 2 (([(1, 1000)] : List (Int × Int)).flatMap bC)) := by rw [hM2, Mem.get_push_new]; rfl
    have hp2 : PAt K M2 p st1 := by rw [hM2]; exact hp1.push _
    have hk2 : Keeps K M1 M2 := by rw [hM2]; exact Keeps.push _ _ _
    have hs2 : M2.size = M1.size + 1 := by rw [hM2, Mem.size_push]
    have hnums := numbers_spec r [(1, 1000)] m.size 1 (n - 1) (n - 1) M1.size 1 true false _ M2 hg2 words htl hb2 rfl (by decide) (by decide) (fun w hw => by have := hwt w hw; omega)
    have hstep : stepOf (w0 :: r) = (match numsV r [(1, 1000)] with
        | some [x] => some (stepK 1 0, x.toNat)
        | _ => none) := by
      rw [stepOf, if_neg c0, if_pos c1]
      match r with
      | [] => rfl
      | [a] =>
        simp only [tickOf, numsV, numQ]
        by_cases h1 : (numP a 1 1000).2 = true <;> simp [h1]
      | _ :: _ :: _ => rw [numsV_len _ _ (by simp)]; rfl
    simp only [zZ, reduceIte, Nat.reduceLT, Int.reduceToNat, Int.reduceLE, Int.reduceEq, Int.reduceLT, Nat.reduceEqDiff, Nat.reduceAdd, zTy, hsl _ hg1, build_two, new_twos1, ← hM2]
    refine ⟨by kernel_rfl, _, hnums, ?_⟩
    intro u M hN
    cases hq : numsV r [(1, 1000)] with
    | none =>
      rw [hq] at hN hstep
      obtain ⟨rfl, hM⟩ := hN
      have hM := hM.symm
      subst hM
      simp only [zZ, reduceIte, Nat.reduceLT, Int.reduceToNat, Int.reduceLE, Int.reduceEq, Int.reduceLT, Nat.reduceEqDiff, Nat.reduceAdd, zTy]
      refine CW_seq (CW_region ?_)
      simp only [zZ, reduceIte, Nat.reduceLT, Int.reduceToNat, Int.reduceLE, Int.reduceEq, Int.reduceLT, Nat.reduceEqDiff, Nat.reduceAdd, zTy]
      refine CW_ret ?_
      simp only [zZ, reduceIte, Nat.reduceLT, Int.reduceToNat, Int.reduceLE, Int.reduceEq, Int.reduceLT, Nat.reduceEqDiff, Nat.reduceAdd, zTy, mEnd, sAnswer, sAnswer.sRes]
      exact line _ _ (by rw [hstep]; exact Added.no hp2 hk2 (by omega))
    | some q =>
      rw [hq] at hN hstep
      obtain ⟨rfl, hM⟩ := hN
      obtain ⟨x, rfl⟩ : ∃ x, q = [x] := by
        have hl := numsV_len2 hq
        match q, hl with
        | [x], _ => exact ⟨x, rfl⟩
      have hx1 : 1 ≤ x ∧ x ≤ 1000 := nums_tick hq
      have hge : M.get M2.size = some (.cells false 1 [.int .i64 x]) := by
        rw [hM]
        have := ext_get M2 [some (some (.cells false 1 (iC [x])))] 0
        rw [Nat.add_zero] at this
        rw [this]; rfl
      have hk3 : Keeps K M1 M := by rw [hM]; exact hk2.trans (Keeps.ext _ _ _)
      have hs3 : M1.size ≤ M.size := by rw [hM, ext_size]; omega
      have hp3 : PAt K M p st1 := by rw [hM]; exact hp2.ext _
      clear hM
      have l11 : ((1 : Nat) : Int) = 1 := rfl
      have hadd := added_spec K p st1 (stepK 1 0) (.slice none 0 0) x.toNat x (by omega) M hp3 (by omega) (FilesAt.nil M) hlen1 (by omega)
      simp only [zZ, reduceIte, Nat.reduceLT, Int.reduceToNat, Int.reduceLE, Int.reduceEq, Int.reduceLT, Nat.reduceEqDiff, Nat.reduceAdd, zTy]
      refine CW_seq (CW_region ?_)
      simp only [zZ, reduceIte, Nat.reduceLT, Int.reduceToNat, Int.reduceLE, Int.reduceEq, Int.reduceLT, Nat.reduceEqDiff, Nat.reduceAdd, zTy, l11, hge, build_step1]
      refine ⟨by kernel_rfl, _, hadd, ?_⟩
      intro u M3 hA
      obtain ⟨bb, hbb⟩ := hA.bool
      subst hbb
      simp only [zZ, reduceIte, Nat.reduceLT, Int.reduceToNat, Int.reduceLE, Int.reduceEq, Int.reduceLT, Nat.reduceEqDiff, Nat.reduceAdd, zTy]
      refine CW_ret ?_
      simp only [zZ, reduceIte, Nat.reduceLT, Int.reduceToNat, Int.reduceLE, Int.reduceEq, Int.reduceLT, Nat.reduceEqDiff, Nat.reduceAdd, zTy, mEnd, sAnswer, sAnswer.sRes]
      exact line _ _ (by rw [hstep]; exact hA.mono hk3 hs3)
  have c1 := of_decide_eq_false c1
  simp only [zZ, reduceIte, Nat.reduceLT, Int.reduceToNat, Int.reduceLE, Int.reduceEq, Int.reduceLT, Nat.reduceEqDiff, Nat.reduceAdd, zTy, e2]
  refine CW_cond (decide (w0 = wFuse)) (by rfl) (fun c2 => CW_seq (CW_region ?_)) (fun c2 => CW_seq (CW_region ?_))
  · simp only [zZ, reduceIte, Nat.reduceLT, Int.reduceToNat, Int.reduceLE, Int.reduceEq, Int.reduceLT, Nat.reduceEqDiff, Nat.reduceAdd, zTy, hsl _ hg1]
    have hA := side_spec K p st1 r m.size 1 (n - 1) (n - 1) _ 2 3 M1 hp1 (by omega) hlen1 hg1 words htl (fun w hw => by have := hwt w hw; omega)
    refine ⟨by kernel_rfl, _, hA, ?_⟩
    intro u M hA
    obtain ⟨bb, hbb⟩ := hA.bool
    subst hbb
    simp only [zZ, reduceIte, Nat.reduceLT, Int.reduceToNat, Int.reduceLE, Int.reduceEq, Int.reduceLT, Nat.reduceEqDiff, Nat.reduceAdd, zTy]
    refine CW_ret ?_
    simp only [zZ, reduceIte, Nat.reduceLT, Int.reduceToNat, Int.reduceLE, Int.reduceEq, Int.reduceLT, Nat.reduceEqDiff, Nat.reduceAdd, zTy, mEnd, sAnswer, sAnswer.sRes]
    exact line _ _ (by rw [stepOf, if_neg c0, if_neg c1, if_pos (of_decide_eq_true c2)]; exact hA)
  have c2 := of_decide_eq_false c2
  simp only [zZ, reduceIte, Nat.reduceLT, Int.reduceToNat, Int.reduceLE, Int.reduceEq, Int.reduceLT, Nat.reduceEqDiff, Nat.reduceAdd, zTy, e3]
  refine CW_cond (decide (w0 = wCrash)) (by rfl) (fun c3 => CW_seq (CW_region ?_)) (fun c3 => CW_seq (CW_region ?_))
  · simp only [zZ, reduceIte, Nat.reduceLT, Int.reduceToNat, Int.reduceLE, Int.reduceEq, Int.reduceLT, Nat.reduceEqDiff, Nat.reduceAdd, zTy, hsl _ hg1]
    have hA := side_spec K p st1 r m.size 1 (n - 1) (n - 1) _ 4 5 M1 hp1 (by omega) hlen1 hg1 words htl (fun w hw => by have := hwt w hw; omega)
    refine ⟨by kernel_rfl, _, hA, ?_⟩
    intro u M hA
    obtain ⟨bb, hbb⟩ := hA.bool
    subst hbb
    simp only [zZ, reduceIte, Nat.reduceLT, Int.reduceToNat, Int.reduceLE, Int.reduceEq, Int.reduceLT, Nat.reduceEqDiff, Nat.reduceAdd, zTy]
    refine CW_ret ?_
    simp only [zZ, reduceIte, Nat.reduceLT, Int.reduceToNat, Int.reduceLE, Int.reduceEq, Int.reduceLT, Nat.reduceEqDiff, Nat.reduceAdd, zTy, mEnd, sAnswer, sAnswer.sRes]
    exact line _ _ (by rw [stepOf, if_neg c0, if_neg c1, if_neg c2, if_pos (of_decide_eq_true c3)]; exact hA)
  have c3 := of_decide_eq_false c3
  simp only [zZ, reduceIte, Nat.reduceLT, Int.reduceToNat, Int.reduceLE, Int.reduceEq, Int.reduceLT, Nat.reduceEqDiff, Nat.reduceAdd, zTy, e4]
  refine CW_cond (decide (w0 = wInject)) (by rfl) (fun c4 => CW_seq (CW_region ?_)) (fun c4 => CW_seq (CW_region ?_))
  · simp only [zZ, reduceIte, Nat.reduceLT, Int.reduceToNat, Int.reduceLE, Int.reduceEq, Int.reduceLT, Nat.reduceEqDiff, Nat.reduceAdd, zTy, hsl _ hg1]
    have hA := inject_spec K p st1 r m.size 1 (n - 1) (n - 1) _ M1 hp1 (by omega) hlen1 hg1 words htl (fun w hw => by have := hwt w hw; omega)
    refine ⟨by kernel_rfl, _, hA, ?_⟩
    intro u M hA
    obtain ⟨bb, hbb⟩ := hA.bool
    subst hbb
    simp only [zZ, reduceIte, Nat.reduceLT, Int.reduceToNat, Int.reduceLE, Int.reduceEq, Int.reduceLT, Nat.reduceEqDiff, Nat.reduceAdd, zTy]
    refine CW_ret ?_
    simp only [zZ, reduceIte, Nat.reduceLT, Int.reduceToNat, Int.reduceLE, Int.reduceEq, Int.reduceLT, Nat.reduceEqDiff, Nat.reduceAdd, zTy, mEnd, sAnswer, sAnswer.sRes]
    exact line _ _ (by rw [stepOf, if_neg c0, if_neg c1, if_neg c2, if_neg c3, if_pos (of_decide_eq_true c4)]; exact hA)
  have c4 := of_decide_eq_false c4
  simp only [zZ, reduceIte, Nat.reduceLT, Int.reduceToNat, Int.reduceLE, Int.reduceEq, Int.reduceLT, Nat.reduceEqDiff, Nat.reduceAdd, zTy, e5]
  refine CW_cond (decide (w0 = wFate)) (by rfl) (fun c5 => CW_seq (CW_region ?_)) (fun c5 => CW_skip ?_)
  · simp only [zZ, reduceIte, Nat.reduceLT, Int.reduceToNat, Int.reduceLE, Int.reduceEq, Int.reduceLT, Nat.reduceEqDiff, Nat.reduceAdd, zTy, hsl _ hg1]
    have hA := fate_spec K p st1 r m.size 1 (n - 1) (n - 1) _ M1 hp1 (by omega) hlen1 hg1 words htl (fun w hw => by have := hwt w hw; omega)
    refine ⟨by kernel_rfl, _, hA, ?_⟩
    intro u M hA
    obtain ⟨bb, hbb⟩ := hA.bool
    subst hbb
    simp only [zZ, reduceIte, Nat.reduceLT, Int.reduceToNat, Int.reduceLE, Int.reduceEq, Int.reduceLT, Nat.reduceEqDiff, Nat.reduceAdd, zTy]
    refine CW_ret ?_
    simp only [zZ, reduceIte, Nat.reduceLT, Int.reduceToNat, Int.reduceLE, Int.reduceEq, Int.reduceLT, Nat.reduceEqDiff, Nat.reduceAdd, zTy, mEnd, sAnswer, sAnswer.sRes]
    exact line _ _ (by rw [stepOf, if_neg c0, if_neg c1, if_neg c2, if_neg c3, if_neg c4, if_pos (of_decide_eq_true c5)]; exact hA)
  have c5 := of_decide_eq_false c5
  simp only [zZ, reduceIte, Nat.reduceLT, Int.reduceToNat, Int.reduceLE, Int.reduceEq, Int.reduceLT, Nat.reduceEqDiff, Nat.reduceAdd]
  refine CW_seq (CW_region ?_)
  simp only [zZ, reduceIte, Nat.reduceLT, Int.reduceToNat, Int.reduceLE, Int.reduceEq, Int.reduceLT, Nat.reduceEqDiff, Nat.reduceAdd, zTy]
  refine CW_ret ?_
  simp only [zZ, reduceIte, Nat.reduceLT, Int.reduceToNat, Int.reduceLE, Int.reduceEq, Int.reduceLT, Nat.reduceEqDiff, Nat.reduceAdd, zTy, mEnd, sAnswer, sAnswer.sRes]
  exact line _ _ (by rw [stepOf, if_neg c0, if_neg c1, if_neg c2, if_neg c3, if_neg c4, if_neg c5]; exact Added.no hp1 (Keeps.refl _ _) (Nat.le_refl _))
end Go.Proofs.YthcleiegefhmdaaGreatDoor
namespace Go.Proofs.YthcleiegefhmdaaGreatDoor
open Go.RowKit Abs
def sideL (n : Int) : List UInt8 := if n = 1 then [115, 101, 110, 100, 101, 114] else [114, 101, 99, 101, 105, 118, 101, 114]
def lineL (ws : List (List UInt8)) : List UInt8 := Lib.join ws [32] ++ [10]
theorem str_map_string (ws : List (List UInt8)) : (ws.map str).map Value.string = ws.map fun w => .string (str w) := by simp
theorem str_map_data (ws : List (List UInt8)) : (ws.map str).map (fun s => s.data.toList) = ws := by
  rw [List.map_map]
  conv => rhs; rw [← List.map_id ws]
  exact List.map_congr_left fun w _ => rfl
set_option maxRecDepth 100000 in
set_option maxHeartbeats 2000000 in
theorem put_spec (K p : Nat) (M : Mem) (t : List UInt8) (ws : List (List UInt8)) (g cap : Nat) (ro : Bool) (hB : BAt K M p t) (hg : M.get g = some (.cells ro 1 (ws.map fun w => .string (str w)))) (h0 : ws ≠ []) (hN : ws.length ≤ 140737488355328) (hlen : t.length + (lineL ws).length ≤ 140737488355328) :
    Abs.Spec Tryz.prog 34 [.slice (some ⟨g, 0, none⟩) ws.length cap, .pointer (some ⟨p, 0, none⟩)] M fun u M' => u = .tuple #[] ∧ BAt K M' p (t ++ lineL ws) ∧ Keeps K M M' ∧ M.size ≤ M'.size := by
  have hll : (lineL ws).length = (Lib.join ws [32]).length + 1 := by simp [lineL]
  refine Abs.Spec.walkM Tryz.func34 (by rfl) _ Tryz.results34 _ Tryz.ntmps34 (by simp) ?_
  intro hc hx k
  refine CW_region ?_
  simp only [zZ, reduceIte, Nat.reduceLT, Int.reduceToNat, Int.reduceLE, Int.reduceEq, Int.reduceLT, Nat.reduceEqDiff, Nat.reduceAdd, zTy]
  have hj := join_spec g ro (ws.map str) cap (str [32]) M (by rw [str_map_string]; exact hg) (by simpa using h0) (by rw [List.length_map]; exact hN) (by rw [str_map_data, str_data]; omega)
  rw [str_map_data, List.length_map, str_data] at hj
  refine ⟨by kernel_rfl, _, hj, ?_⟩
  rintro _ M9 ⟨rfl, e9⟩
  replace e9 := e9.symm
  subst e9
  simp only [zZ, reduceIte, Nat.reduceLT, Int.reduceToNat, Int.reduceLE, Int.reduceEq, Int.reduceLT, Nat.reduceEqDiff, Nat.reduceAdd, zTy]
  have hbs : bsize (str (Lib.join ws [32])) = (Lib.join ws [32]).length := rfl
  have hb1 : bsize (⟨#[10]⟩ : ByteArray) = 1 := rfl
  refine ⟨by rw [hbs, hb1]; omega, ?_⟩
  rw [show bcat (str (Lib.join ws [32])) ⟨#[10]⟩ = str (lineL ws) from rfl]
  refine ⟨by kernel_rfl, _, ws_spec K p M t (str (lineL ws)) hB (by rw [Go.Proofs.YthcleiegefhmdaaGreatDoor.str_size]; omega), ?_⟩
  rintro _ M9 ⟨rfl, h1, h2, h3⟩
  simp only [zZ, reduceIte, Nat.reduceLT, Int.reduceToNat, Int.reduceLE, Int.reduceEq, Int.reduceLT, Nat.reduceEqDiff, Nat.reduceAdd, zTy, mEnd, sAnswer, sAnswer.sRes]
  exact ⟨M9, Thin.refl _, h1, h2, h3⟩
theorem bat_keep {K p : Nat} {M M' : Mem} {t : List UInt8} (h : BAt K M p t) (hk : ∀ b x, M.get b = some x → M'.get b = some x) : BAt K M' p t := by
  obtain ⟨h1, a, V, h2, h3, h4⟩ := h
  refine ⟨h1, a, V, hk _ _ h2, h3, ?_⟩
  rcases h4 with h4 | ⟨h5, g, rest, h6, h7, h8, h9, h10⟩
  · exact .inl h4
  · exact .inr ⟨h5, g, rest, h6, h7, h8, h9, hk _ _ h10⟩
theorem put_new (K p : Nat) (M : Mem) (t : List UInt8) (ws : List (List UInt8)) (hB : BAt K M p t) (h0 : ws ≠ []) (hN : ws.length ≤ 140737488355328) (hlen : t.length + (lineL ws).length ≤ 140737488355328) :
    Abs.Spec Tryz.prog 34 [.slice (some ⟨M.size, 0, none⟩) ws.length ws.length, .pointer (some ⟨p, 0, none⟩)] (M.push (.cells false 1 (ws.map fun w => .string (str w)))) fun u M' => u = .tuple #[] ∧ BAt K M' p (t ++ lineL ws) ∧ Keeps K M M' ∧ M.size ≤ M'.size := by
  refine (put_spec K p _ t ws M.size ws.length false (bat_keep hB fun b x hx => by rw [Mem.get_push_old (get_live hx)]; exact hx) (Mem.get_push_new M _) h0 hN hlen).mono ?_
  rintro v m' ⟨h1, h2, h3, h4⟩
  rw [Mem.size_push] at h4
  exact ⟨h1, h2, (Keeps.push K M _).trans h3, by omega⟩
set_option maxRecDepth 100000 in
set_option maxHeartbeats 2000000 in
theorem sides_spec (n : Int) (h : n = 0 ∨ n = 1) (m : Mem) : Abs.Spec Tryz.prog 38 [.int .i64 n] m fun u M => u = .string (str (sideL n)) ∧ M = m := by
  refine Abs.Spec.walkB Tryz.func38 (by rfl) _ Tryz.results38 _ Tryz.ntmps38 (by simp) m [] (ext_nil m).symm 0 rfl (.inl rfl) ?_
  intro hc _
  refine CW_seq (CW_region ?_)
  simp only [zZ, reduceIte, Nat.reduceLT, Int.reduceToNat, Int.reduceLE, Int.reduceEq, Int.reduceLT, Nat.reduceEqDiff, Nat.reduceAdd, zTy]
  have hb : aBuild Tryz.prog 86 [(0, .string ⟨#[114, 101, 99, 101, 105, 118, 101, 114]⟩), (1, .string ⟨#[115, 101, 110, 100, 101, 114]⟩)] = some (.agg #[.string ⟨#[114, 101, 99, 101, 105, 118, 101, 114]⟩, .string ⟨#[115, 101, 110, 100, 101, 114]⟩]) := by kernel_rfl
  have hi : aIndex Tryz.prog 86 (.agg #[.string ⟨#[114, 101, 99, 101, 105, 118, 101, 114]⟩, .string ⟨#[115, 101, 110, 100, 101, 114]⟩]) (.int .i64 n) = some (.string (str (sideL n))) := by
    rcases h with rfl | rfl <;> kernel_rfl
  refine CW_seq (CW_region ?_)
  simp only [zZ, reduceIte, Nat.reduceLT, Int.reduceToNat, Int.reduceLE, Int.reduceEq, Int.reduceLT, Nat.reduceEqDiff, Nat.reduceAdd, zTy, hb, hi]
  refine CW_ret ?_
  simp only [zZ, reduceIte, Nat.reduceLT, Int.reduceToNat, Int.reduceLE, Int.reduceEq, Int.reduceLT, Nat.reduceEqDiff, Nat.reduceAdd, zTy, bEnd, sAnswer, sAnswer.sRes]
  exact told_flat rfl rfl
end Go.Proofs.YthcleiegefhmdaaGreatDoor
namespace Go.Proofs.YthcleiegefhmdaaGreatDoor
open Go.RowKit Abs
theorem path5 (p : List UInt8) : pathV p = 0 ∨ pathV p = 5 := by unfold pathV; split <;> simp
def clashAt (files : List FileL) (i k : Nat) : Bool := match files[i]?, files[k]? with
  | some a, some b => !decide (i = k) && (decide (a.1 = b.1) || underV a.1 b.1)
  | _, _ => false
def clashRow (files : List FileL) (i : Nat) (n : Nat) : Bool := (List.range n).any (clashAt files i)
def clashAny (files : List FileL) (n : Nat) : Bool := (List.range n).any fun i => clashRow files i files.length
theorem clashRow_succ (files : List FileL) (i n : Nat) : clashRow files i (n + 1) = (clashRow files i n || clashAt files i n) := by
  unfold clashRow; rw [List.range_succ, List.any_append]; simp
theorem clashAny_succ (files : List FileL) (n : Nat) : clashAny files (n + 1) = (clashAny files n || clashRow files n files.length) := by
  unfold clashAny; rw [List.range_succ, List.any_append]; simp
theorem clashes_iff : ∀ (l : List FileL), clashes l = true ↔ ∃ (i k : Nat) (a b : FileL), i < k ∧ l[i]? = some a ∧ l[k]? = some b ∧ (clashV1 a b || clashV1 b a) = true
  | [] => by simp [clashes]
  | x :: r => by
    rw [clashes, Bool.or_eq_true, clashes_iff r]
    constructor
    · rintro (h | ⟨i, k, a, b, h1, h2, h3, h4⟩)
      · rw [List.any_eq_true] at h
        obtain ⟨b, hb, h⟩ := h
        obtain ⟨k, hk⟩ := List.getElem?_of_mem hb
        exact ⟨0, k + 1, x, b, by omega, rfl, by simpa using hk, h⟩
      · exact ⟨i + 1, k + 1, a, b, by omega, by simpa using h2, by simpa using h3, h4⟩
    · rintro ⟨i, k, a, b, h1, h2, h3, h4⟩
      obtain ⟨k, rfl⟩ : ∃ j, k = j + 1 := ⟨k - 1, by omega⟩
      have h3 : r[k]? = some b := by simpa using h3
      cases i with
      | zero =>
        have h2 : x = a := by simpa using h2
        subst h2
        exact .inl (List.any_eq_true.2 ⟨b, List.mem_of_getElem? h3, h4⟩)
      | succ i => exact .inr ⟨i, k, a, b, by omega, by simpa using h2, h3, h4⟩
theorem clashAny_iff (l : List FileL) : clashAny l l.length = true ↔ ∃ (i k : Nat) (a b : FileL), i ≠ k ∧ l[i]? = some a ∧ l[k]? = some b ∧ (decide (a.1 = b.1) || underV a.1 b.1) = true := by
  unfold clashAny clashRow
  simp only [List.any_eq_true, List.mem_range]
  constructor
  · rintro ⟨i, hi, k, hk, h⟩
    unfold clashAt at h
    cases ha : l[i]? with
    | none => rw [ha] at h; cases h
    | some a =>
      cases hb : l[k]? with
      | none => rw [ha, hb] at h; cases h
      | some b =>
        rw [ha, hb] at h
        simp only [Bool.and_eq_true] at h
        exact ⟨i, k, a, b, by simpa using h.1, ha, hb, h.2⟩
  · rintro ⟨i, k, a, b, h1, h2, h3, h4⟩
    refine ⟨i, (List.getElem?_eq_some_iff.1 h2).1, k, (List.getElem?_eq_some_iff.1 h3).1, ?_⟩
    unfold clashAt
    rw [h2, h3]
    simp only [h4, Bool.and_true]
    simpa using h1
theorem clash_two (l : List FileL) : clashAny l l.length = clashes l := by
  rw [Bool.eq_iff_iff, clashAny_iff, clashes_iff]
  constructor
  · rintro ⟨i, k, a, b, h1, h2, h3, h4⟩
    rcases Nat.lt_or_gt_of_ne h1 with h | h
    · refine ⟨i, k, a, b, h, h2, h3, ?_⟩
      unfold clashV1
      simp only [Bool.or_eq_true, decide_eq_true_eq] at h4 ⊢
      rcases h4 with h4 | h4
      · exact .inl (.inl h4)
      · exact .inr (.inr h4)
    · refine ⟨k, i, b, a, h, h3, h2, ?_⟩
      unfold clashV1
      simp only [Bool.or_eq_true, decide_eq_true_eq] at h4 ⊢
      rcases h4 with h4 | h4
      · exact .inl (.inl h4.symm)
      · exact .inl (.inr h4)
  · rintro ⟨i, k, a, b, h1, h2, h3, h4⟩
    unfold clashV1 at h4
    simp only [Bool.or_eq_true, decide_eq_true_eq] at h4
    rcases h4 with (h4 | h4) | (h4 | h4)
    · exact ⟨i, k, a, b, by omega, h2, h3, by simp [h4]⟩
    · exact ⟨k, i, b, a, by omega, h3, h2, by simp [h4]⟩
    · exact ⟨i, k, a, b, by omega, h2, h3, by simp [h4]⟩
    · exact ⟨i, k, a, b, by omega, h2, h3, by simp [h4]⟩
set_option maxRecDepth 100000 in
set_option maxHeartbeats 2000000 in
theorem rfcheck_spec (files : List FileL) (a : Option Addr) (cap : Nat) (m : Mem) (hF : Rd m 2 (.slice a files.length cap) files.length (files.flatMap fileC)) (hs : ∀ f ∈ files, f.1.length ≤ 999999) (hl : files.length ≤ 1000000) :
    Abs.Spec Tryz.prog 48 [.slice a files.length cap] m fun u M => u = .int .i64 (checkV files) ∧ M = m := by
  obtain ⟨R, hR⟩ : ∃ R, R = checkV files := ⟨_, rfl⟩
  rw [← hR]
  refine Abs.Spec.walkB Tryz.func48 (by rfl) _ Tryz.results48 _ Tryz.ntmps48 (by simp) m [] (ext_nil m).symm 0 rfl (.inl rfl) ?_
  intro hc hx
  replace hx := hx rfl
  have fp : ∀ keep j, ren (sig m.size keep) j (.slice a files.length cap) = some (.slice a files.length cap) := Cl.fix (hx _ (by simp))
  refine CW_seq (CW_region ?_)
  simp only [zZ, reduceIte, Nat.reduceLT, Int.reduceToNat, Int.reduceLE, Int.reduceEq, Int.reduceLT, Nat.reduceEqDiff, Nat.reduceAdd, zTy]
  refine CW_seq (CW_seq (CW_region ?_))
  simp only [zZ, reduceIte, Nat.reduceLT, Int.reduceToNat, Int.reduceLE, Int.reduceEq, Int.reduceLT, Nat.reduceEqDiff, Nat.reduceAdd, zTy]
  refine CW_cond (decide ((64 : Int) < (files.length : Int))) (by rfl) (fun h => CW_seq (CW_region ?_)) (fun h => CW_skip ?_)
  · simp only [zZ, reduceIte, Nat.reduceLT, Int.reduceToNat, Int.reduceLE, Int.reduceEq, Int.reduceLT, Nat.reduceEqDiff, Nat.reduceAdd, zTy]
    refine CW_ret ?_
    simp only [zZ, reduceIte, Nat.reduceLT, Int.reduceToNat, Int.reduceLE, Int.reduceEq, Int.reduceLT, Nat.reduceEqDiff, Nat.reduceAdd, zTy, bEnd, sAnswer, sAnswer.sRes]
    have := of_decide_eq_true h
    exact told_flat rfl (by rw [hR, checkV, if_pos (by omega)])
  have h64 := of_decide_eq_false h
  have hR1 : R = match firstBad files with | some e => e | none => if clashes files then 6 else 0 := by rw [hR, checkV, if_neg (by omega)]; rfl
  simp only [zZ, reduceIte, Nat.reduceLT, Int.reduceToNat, Int.reduceLE, Int.reduceEq, Int.reduceLT, Nat.reduceEqDiff, Nat.reduceAdd]
  refine BW_mid hc (fun f l => f = [(0, .slice a files.length cap)] ∧ l = [] ∧ firstBad files = none) ?_ ?_
  · refine CW_seq (CW_region ?_)
    simp only [zZ, reduceIte, Nat.reduceLT, Int.reduceToNat, Int.reduceLE, Int.reduceEq, Int.reduceLT, Nat.reduceEqDiff, Nat.reduceAdd, zTy]
    refine CW_block (BW_loop hc (fun n f l => ∃ t : Nat, t + n = files.length ∧ f = [(0, .slice a files.length cap), (3, .int .i64 (t : Nat))] ∧
      l = [] ∧ firstBad (files.drop t) = firstBad files) files.length ?_ ?_)
    · refine ⟨_, rfl, [], [0, 3], rfl, ?_⟩
      simp only [zZ, reduceIte, Nat.reduceLT, Int.reduceToNat, Int.reduceLE, Int.reduceEq, Int.reduceLT, Nat.reduceEqDiff, Nat.reduceAdd, zG, fp]
      exact ⟨0, by omega, rfl, rfl⟩
    · rintro n f l ⟨t, htn, rfl, rfl, hfb⟩
      refine CW_seq (CW_seq (CW_region ?_))
      simp only [zZ, reduceIte, Nat.reduceLT, Int.reduceToNat, Int.reduceLE, Int.reduceEq, Int.reduceLT, Nat.reduceEqDiff, Nat.reduceAdd, zTy]
      refine CW_cond (decide ((t : Int) < (files.length : Int))) (by rfl) (fun h => CW_skip ?_) (fun h => CW_exit ?_)
      · simp only [zZ, reduceIte, Nat.reduceLT, Int.reduceToNat, Int.reduceLE, Int.reduceEq, Int.reduceLT, Nat.reduceEqDiff, Nat.reduceAdd]
        have htl : t < files.length := by have := of_decide_eq_true h; omega
        have h0 : (0 : Int) ≤ (t : Int) := by omega
        have h1 : (t : Int) < (files.length : Int) := by omega
        obtain ⟨g, ro, hpa, hgp⟩ := hF.at (by omega)
        have hg : ∀ l, (ext m l).get g = some (.cells ro 2 (files.flatMap fileC)) := fun l => ext_get_old l hgp
        have sg : ∀ keep, sig m.size keep g = some g := fun keep => sig_old keep (Mem.get_lt hgp)
        obtain ⟨A, hA⟩ : ∃ A, files[t]? = some A := ⟨_, List.getElem?_eq_getElem htl⟩
        have c0 : (files.flatMap fileC)[t * 2]? = some (.string (str A.1)) := flatMap_get (fun a _ => fileC_len a) hA (o := 0) (by decide)
        have c1 : (files.flatMap fileC)[t * 2 + 1]? = some (.string (str A.2)) := flatMap_get (fun a _ => fileC_len a) hA (o := 1) (by decide)
        have hAs := hs A (List.mem_of_getElem? hA)
        have hfb2 : firstBad files = if pathV A.1 ≠ 0 then some (pathV A.1) else if 1048576 < A.2.length then some 3 else firstBad (files.drop (t + 1)) := by rw [← hfb, drop_get hA, firstBad]
        subst hpa
        have hmay : mayV A.1 = decide (pathV A.1 = 0) := rfl
        refine CW_seq (CW_block (CW_seq (CW_seq (CW_region ?_))))
        simp only [zZ, reduceIte, Nat.reduceLT, Int.reduceToNat, Int.reduceLE, Int.reduceEq, Int.reduceLT, Nat.reduceEqDiff, Nat.reduceAdd, zTy, h0, h1, and_self, hg, c0]
        refine ⟨by kernel_rfl, _, rmay_spec A.1 (by omega) _, ?_⟩
        rintro _ _ ⟨rfl, rfl⟩
        simp only [zZ, reduceIte, Nat.reduceLT, Int.reduceToNat, Int.reduceLE, Int.reduceEq, Int.reduceLT, Nat.reduceEqDiff, Nat.reduceAdd, zTy]
        refine CW_cond (!mayV A.1) (by rfl) (fun hb => CW_seq (CW_region ?_)) (fun hb => CW_skip ?_)
        · simp only [zZ, reduceIte, Nat.reduceLT, Int.reduceToNat, Int.reduceLE, Int.reduceEq, Int.reduceLT, Nat.reduceEqDiff, Nat.reduceAdd, zTy]
          refine CW_ret ?_
          simp only [zZ, reduceIte, Nat.reduceLT, Int.reduceToNat, Int.reduceLE, Int.reduceEq, Int.reduceLT, Nat.reduceEqDiff, Nat.reduceAdd, zTy, bEnd, sAnswer, sAnswer.sRes]
          have hne : pathV A.1 ≠ 0 := by rw [hmay] at hb; simpa using hb
          have h5 := (path5 A.1).resolve_left hne
          exact told_flat rfl (by rw [hR1, hfb2, if_pos hne, h5])
        · have hz : ¬ pathV A.1 ≠ 0 := by rw [hmay] at hb; simpa using hb
          simp only [zZ, reduceIte, Nat.reduceLT, Int.reduceToNat, Int.reduceLE, Int.reduceEq, Int.reduceLT, Nat.reduceEqDiff, Nat.reduceAdd]
          refine CW_seq (CW_region ?_)
          simp only [zZ, reduceIte, Nat.reduceLT, Int.reduceToNat, Int.reduceLE, Int.reduceEq, Int.reduceLT, Nat.reduceEqDiff, Nat.reduceAdd, zTy, h0, h1, and_self, hg, c1, bsize_str]
          refine CW_cond (decide ((1048576 : Int) < (A.2.length : Int))) (by rfl) (fun hd => CW_seq (CW_region ?_)) (fun hd => CW_skip ?_)
          · simp only [zZ, reduceIte, Nat.reduceLT, Int.reduceToNat, Int.reduceLE, Int.reduceEq, Int.reduceLT, Nat.reduceEqDiff, Nat.reduceAdd, zTy]
            refine CW_ret ?_
            simp only [zZ, reduceIte, Nat.reduceLT, Int.reduceToNat, Int.reduceLE, Int.reduceEq, Int.reduceLT, Nat.reduceEqDiff, Nat.reduceAdd, zTy, bEnd, sAnswer, sAnswer.sRes]
            have := of_decide_eq_true hd
            exact told_flat rfl (by rw [hR1, hfb2, if_neg hz, if_pos (by omega)])
          · simp only [zZ, reduceIte, Nat.reduceLT, Int.reduceToNat, Int.reduceLE, Int.reduceEq, Int.reduceLT, Nat.reduceEqDiff, Nat.reduceAdd]
            have := of_decide_eq_false hd
            refine CW_region ?_
            have xi : IntKind.i64.wrap ((t : Int) + 1) = ((t + 1 : Nat) : Int) := by rw [wr (by omega) (by omega)]; omega
            simp only [zZ, reduceIte, Nat.reduceLT, Int.reduceToNat, Int.reduceLE, Int.reduceEq, Int.reduceLT, Nat.reduceEqDiff, Nat.reduceAdd, xi]
            refine ⟨_, rfl, [], [0, 3], rfl, ?_⟩
            simp only [zZ, reduceIte, Nat.reduceLT, Int.reduceToNat, Int.reduceLE, Int.reduceEq, Int.reduceLT, Nat.reduceEqDiff, Nat.reduceAdd, zG, sg]
            exact ⟨n - 1, ⟨t + 1, by omega, rfl, by rw [hfb2, if_neg hz, if_neg (by omega)]⟩, by omega⟩
      · simp only [zZ, reduceIte, Nat.reduceLT, Int.reduceToNat, Int.reduceLE, Int.reduceEq, Int.reduceLT, Nat.reduceEqDiff, Nat.reduceAdd]
        have htl : t = files.length := by have := of_decide_eq_false h; omega
        refine ⟨_, rfl, [], [0], rfl, ?_⟩
        simp only [zZ, reduceIte, Nat.reduceLT, Int.reduceToNat, Int.reduceLE, Int.reduceEq, Int.reduceLT, Nat.reduceEqDiff, Nat.reduceAdd, zG, fp]
        rw [← hfb, htl, List.drop_length]; rfl
  · rintro f l ⟨rfl, rfl, hfb⟩
    have hR2 : R = if clashAny files files.length then 6 else 0 := by rw [hR1, hfb, clash_two]
    have hhit : ∀ i k, i < files.length → k < files.length → clashAt files i k = true → R = 6 := fun i k hi hk h => by
      rw [hR2, if_pos]
      unfold clashAny clashRow
      exact List.any_eq_true.2 ⟨i, List.mem_range.2 hi, List.any_eq_true.2 ⟨k, List.mem_range.2 hk, h⟩⟩
    refine BW_mid hc (fun f l => f = [] ∧ l = [] ∧ clashAny files files.length = false) ?_ ?_
    · refine CW_seq (CW_region ?_)
      simp only [zZ, reduceIte, Nat.reduceLT, Int.reduceToNat, Int.reduceLE, Int.reduceEq, Int.reduceLT, Nat.reduceEqDiff, Nat.reduceAdd, zTy]
      refine CW_block (BW_loop hc (fun n f l => ∃ t : Nat, t + n = files.length ∧ f = [(0, .slice a files.length cap), (4, .int .i64 (t : Nat))] ∧
        l = [] ∧ clashAny files t = false) files.length ?_ ?_)
      · refine ⟨_, rfl, [], [0, 4], rfl, ?_⟩
        simp only [zZ, reduceIte, Nat.reduceLT, Int.reduceToNat, Int.reduceLE, Int.reduceEq, Int.reduceLT, Nat.reduceEqDiff, Nat.reduceAdd, zG, fp]
        exact ⟨0, by omega, rfl, rfl⟩
      · rintro n f l ⟨t, htn, rfl, rfl, hcl⟩
        refine CW_seq (CW_seq (CW_region ?_))
        simp only [zZ, reduceIte, Nat.reduceLT, Int.reduceToNat, Int.reduceLE, Int.reduceEq, Int.reduceLT, Nat.reduceEqDiff, Nat.reduceAdd, zTy]
        refine CW_cond (decide ((t : Int) < (files.length : Int))) (by rfl) (fun h => CW_skip ?_) (fun h => CW_exit ?_)
        · simp only [zZ, reduceIte, Nat.reduceLT, Int.reduceToNat, Int.reduceLE, Int.reduceEq, Int.reduceLT, Nat.reduceEqDiff, Nat.reduceAdd]
          have htl : t < files.length := by have := of_decide_eq_true h; omega
          have h0 : (0 : Int) ≤ (t : Int) := by omega
          have h1 : (t : Int) < (files.length : Int) := by omega
          obtain ⟨g, ro, hpa, hgp⟩ := hF.at (by omega)
          have hg : ∀ l, (ext m l).get g = some (.cells ro 2 (files.flatMap fileC)) := fun l => ext_get_old l hgp
          have sg : ∀ keep, sig m.size keep g = some g := fun keep => sig_old keep (Mem.get_lt hgp)
          obtain ⟨A, hA⟩ : ∃ A, files[t]? = some A := ⟨_, List.getElem?_eq_getElem htl⟩
          have c0 : (files.flatMap fileC)[t * 2]? = some (.string (str A.1)) := flatMap_get (fun a _ => fileC_len a) hA (o := 0) (by decide)
          have xi : IntKind.i64.wrap ((t : Int) + 1) = ((t + 1 : Nat) : Int) := by rw [wr (by omega) (by omega)]; omega
          subst hpa
          refine BW_mid hc (fun f l => f = [(0, .slice (some ⟨g, 0, none⟩) files.length cap), (4, .int .i64 (t : Nat))] ∧ l = [] ∧ clashRow files t files.length = false) (CW_block (CW_seq (CW_region ?_))) ?_
          · simp only [zZ, reduceIte, Nat.reduceLT, Int.reduceToNat, Int.reduceLE, Int.reduceEq, Int.reduceLT, Nat.reduceEqDiff, Nat.reduceAdd, zTy]
            refine CW_block (BW_loop hc (fun n f l => ∃ u : Nat, u + n = files.length ∧ f = [(0, .slice (some ⟨g, 0, none⟩) files.length cap), (4, .int .i64 (t : Nat)), (5, .int .i64 (u : Nat))] ∧
              l = [] ∧ clashRow files t u = false) files.length ?_ ?_)
            · refine ⟨_, rfl, [], [0, 4, 5], rfl, ?_⟩
              simp only [zZ, reduceIte, Nat.reduceLT, Int.reduceToNat, Int.reduceLE, Int.reduceEq, Int.reduceLT, Nat.reduceEqDiff, Nat.reduceAdd, zG, sg]
              exact ⟨0, by omega, rfl, rfl⟩
            · rintro n2 f l ⟨u, hun, rfl, rfl, hany⟩
              refine CW_seq (CW_seq (CW_region ?_))
              simp only [zZ, reduceIte, Nat.reduceLT, Int.reduceToNat, Int.reduceLE, Int.reduceEq, Int.reduceLT, Nat.reduceEqDiff, Nat.reduceAdd, zTy]
              refine CW_cond (decide ((u : Int) < (files.length : Int))) (by rfl) (fun h => CW_skip ?_) (fun h => CW_exit ?_)
              · simp only [zZ, reduceIte, Nat.reduceLT, Int.reduceToNat, Int.reduceLE, Int.reduceEq, Int.reduceLT, Nat.reduceEqDiff, Nat.reduceAdd]
                have hul : u < files.length := by have := of_decide_eq_true h; omega
                have k0 : (0 : Int) ≤ (u : Int) := by omega
                have k1 : (u : Int) < (files.length : Int) := by omega
                obtain ⟨B, hB⟩ : ∃ B, files[u]? = some B := ⟨_, List.getElem?_eq_getElem hul⟩
                have d0 : (files.flatMap fileC)[u * 2]? = some (.string (str B.1)) := flatMap_get (fun a _ => fileC_len a) hB (o := 0) (by decide)
                have hat : clashAt files t u = (!decide (t = u) && (decide (A.1 = B.1) || underV A.1 B.1)) := by unfold clashAt; rw [hA, hB]
                have yi : IntKind.i64.wrap ((u : Int) + 1) = ((u + 1 : Nat) : Int) := by rw [wr (by omega) (by omega)]; omega
                have en : ((t : Int) != (u : Int)) = !decide (t = u) := by
                  rw [bne, Bool.not_inj_iff, Bool.eq_iff_iff, beq_iff_eq, decide_eq_true_eq]; omega
                have hstep : clashAt files t u = false → clashRow files t (u + 1) = false := fun hz => by rw [clashRow_succ, hany, hz]; rfl
                have hhit2 := hhit t u htl hul
                refine CW_seq (CW_block (CW_seq (CW_draw hmix 26 (by kernel_rfl) (by kernel_rfl) ?_)))
                cases e0 : decide (t = u)
                case' true =>
                  simp only [zZ, reduceIte, Nat.reduceLT, Int.reduceToNat, Int.reduceLE, Int.reduceEq, Int.reduceLT, Nat.reduceEqDiff, Nat.reduceAdd, zTy, en, e0]
                  refine CW_cond false (by rfl) (fun h => by cases h) (fun _ => CW_skip ?_)
                  simp only [zZ, reduceIte, Nat.reduceLT, Int.reduceToNat, Int.reduceLE, Int.reduceEq, Int.reduceLT, Nat.reduceEqDiff, Nat.reduceAdd]
                  refine CW_region ?_
                  simp only [zZ, reduceIte, Nat.reduceLT, Int.reduceToNat, Int.reduceLE, Int.reduceEq, Int.reduceLT, Nat.reduceEqDiff, Nat.reduceAdd, yi]
                  refine ⟨_, rfl, [], [0, 4, 5], rfl, ?_⟩
                  simp only [zZ, reduceIte, Nat.reduceLT, Int.reduceToNat, Int.reduceLE, Int.reduceEq, Int.reduceLT, Nat.reduceEqDiff, Nat.reduceAdd, zG, sg]
                  exact ⟨n2 - 1, ⟨u + 1, by omega, rfl, hstep (by rw [hat, e0]; rfl)⟩, by omega⟩
                cases e1 : decide (A.1 = B.1)
                case' true =>
                  simp only [zZ, reduceIte, Nat.reduceLT, Int.reduceToNat, Int.reduceLE, Int.reduceEq, Int.reduceLT, Nat.reduceEqDiff, Nat.reduceAdd, zTy, en, e0, h0, h1, k0, k1, and_self, hg, c0, d0, beqB_str, e1]
                  refine CW_cond true (by rfl) (fun _ => CW_seq (CW_region ?_)) (fun h => by cases h)
                  simp only [zZ, reduceIte, Nat.reduceLT, Int.reduceToNat, Int.reduceLE, Int.reduceEq, Int.reduceLT, Nat.reduceEqDiff, Nat.reduceAdd, zTy]
                  refine CW_ret ?_
                  simp only [zZ, reduceIte, Nat.reduceLT, Int.reduceToNat, Int.reduceLE, Int.reduceEq, Int.reduceLT, Nat.reduceEqDiff, Nat.reduceAdd, zTy, bEnd, sAnswer, sAnswer.sRes]
                  exact told_flat rfl (by rw [hhit2 (by rw [hat, e0, e1]; rfl)])
                simp only [zZ, reduceIte, Nat.reduceLT, Int.reduceToNat, Int.reduceLE, Int.reduceEq, Int.reduceLT, Nat.reduceEqDiff, Nat.reduceAdd, zTy, en, e0, h0, h1, k0, k1, and_self, hg, c0, d0, beqB_str, e1]
                refine ⟨by kernel_rfl, _, runder_spec A.1 B.1 _, ?_⟩
                rintro _ _ ⟨rfl, rfl⟩
                simp only [zZ, reduceIte, Nat.reduceLT, Int.reduceToNat, Int.reduceLE, Int.reduceEq, Int.reduceLT, Nat.reduceEqDiff, Nat.reduceAdd, zTy]
                refine CW_cond (underV A.1 B.1) (by rfl) (fun hb => CW_seq (CW_region ?_)) (fun hb => CW_skip ?_)
                · simp only [zZ, reduceIte, Nat.reduceLT, Int.reduceToNat, Int.reduceLE, Int.reduceEq, Int.reduceLT, Nat.reduceEqDiff, Nat.reduceAdd, zTy]
                  refine CW_ret ?_
                  simp only [zZ, reduceIte, Nat.reduceLT, Int.reduceToNat, Int.reduceLE, Int.reduceEq, Int.reduceLT, Nat.reduceEqDiff, Nat.reduceAdd, zTy, bEnd, sAnswer, sAnswer.sRes]
                  exact told_flat rfl (by rw [hhit2 (by rw [hat, e0, e1, hb]; rfl)])
                · simp only [zZ, reduceIte, Nat.reduceLT, Int.reduceToNat, Int.reduceLE, Int.reduceEq, Int.reduceLT, Nat.reduceEqDiff, Nat.reduceAdd]
                  refine CW_region ?_
                  simp only [zZ, reduceIte, Nat.reduceLT, Int.reduceToNat, Int.reduceLE, Int.reduceEq, Int.reduceLT, Nat.reduceEqDiff, Nat.reduceAdd, yi]
                  refine ⟨_, rfl, [], [0, 4, 5], rfl, ?_⟩
                  simp only [zZ, reduceIte, Nat.reduceLT, Int.reduceToNat, Int.reduceLE, Int.reduceEq, Int.reduceLT, Nat.reduceEqDiff, Nat.reduceAdd, zG, sg]
                  exact ⟨n2 - 1, ⟨u + 1, by omega, rfl, hstep (by rw [hat, e0, e1, hb]; rfl)⟩, by omega⟩
              · simp only [zZ, reduceIte, Nat.reduceLT, Int.reduceToNat, Int.reduceLE, Int.reduceEq, Int.reduceLT, Nat.reduceEqDiff, Nat.reduceAdd]
                have hul : u = files.length := by have := of_decide_eq_false h; omega
                refine ⟨_, rfl, [], [0, 4], rfl, ?_⟩
                simp only [zZ, reduceIte, Nat.reduceLT, Int.reduceToNat, Int.reduceLE, Int.reduceEq, Int.reduceLT, Nat.reduceEqDiff, Nat.reduceAdd, zG, sg]
                rw [hul] at hany
                exact hany
          · rintro f l ⟨rfl, rfl, hcl3⟩
            refine CW_region ?_
            simp only [zZ, reduceIte, Nat.reduceLT, Int.reduceToNat, Int.reduceLE, Int.reduceEq, Int.reduceLT, Nat.reduceEqDiff, Nat.reduceAdd, xi]
            refine ⟨_, rfl, [], [0, 4], rfl, ?_⟩
            simp only [zZ, reduceIte, Nat.reduceLT, Int.reduceToNat, Int.reduceLE, Int.reduceEq, Int.reduceLT, Nat.reduceEqDiff, Nat.reduceAdd, zG, sg]
            exact ⟨n - 1, ⟨t + 1, by omega, rfl, by rw [clashAny_succ, hcl, hcl3]; rfl⟩, by omega⟩
        · simp only [zZ, reduceIte, Nat.reduceLT, Int.reduceToNat, Int.reduceLE, Int.reduceEq, Int.reduceLT, Nat.reduceEqDiff, Nat.reduceAdd]
          have htl : t = files.length := by have := of_decide_eq_false h; omega
          refine ⟨_, rfl, [], [], rfl, ?_⟩
          simp only [zZ, reduceIte, Nat.reduceLT, Int.reduceToNat, Int.reduceLE, Int.reduceEq, Int.reduceLT, Nat.reduceEqDiff, Nat.reduceAdd, zG]
          rw [htl] at hcl
          exact hcl
    · rintro f l ⟨rfl, rfl, hcl⟩
      refine CW_seq (CW_region ?_)
      simp only [zZ, reduceIte, Nat.reduceLT, Int.reduceToNat, Int.reduceLE, Int.reduceEq, Int.reduceLT, Nat.reduceEqDiff, Nat.reduceAdd, zTy]
      refine CW_ret ?_
      simp only [zZ, reduceIte, Nat.reduceLT, Int.reduceToNat, Int.reduceLE, Int.reduceEq, Int.reduceLT, Nat.reduceEqDiff, Nat.reduceAdd, zTy, bEnd, sAnswer, sAnswer.sRes]
      exact told_flat rfl (by rw [hR2, hcl]; rfl)
end Go.Proofs.YthcleiegefhmdaaGreatDoor
