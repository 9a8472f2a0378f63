/-
  How a law's row follows from its walk: 'the call returns true and turns nothing that was there', for whatever arguments. No condition of its own.
-/
import Derived.Test.YtpmgackgcefalaaRows
import Derived.WalkKit
import Derived.ProofKit
import Derived.OpenShut
import Derived.ShutString
import Derived.ChangeOld
import Derived.Below
import Derived.JoinedCond
namespace Go.Proofs.Ytpmgackgcefalaa
open Go.ChangeShapes Go.WideShapes Go.ChangeAt Go.RowKit

/-- The form of a law's specification: true, and the arguments as they were. -/
def IsLaw (s : ChangeSpec) (n : Nat) : Prop := s.vars = [] ∧ ∀ (H : Type) (ds : List (DataW H)), ds.length = n → s.fn H ds = { results := [.lit (.bool true)], args := ds }

theorem trodAll_length {H : Type} {enc : TypeId × Value → H} {P : Program} {w : World} {base : Nat} {sp : Nat → Bool} {hd : Bool} :
    ∀ (ts : List TypeId) (vs : List Value) (ds : List (DataW H)) (ps : List MemPlace), DataW.TrodAll enc P w base sp hd ts vs ds ps → ds.length = ts.length ∧ vs.length = ts.length
  | [], [], [], _, _ => ⟨rfl, rfl⟩
  | _ :: ts, _ :: vs, _ :: ds, _, h => by
    obtain ⟨_, q, _, h2, _⟩ := h
    obtain ⟨a, b⟩ := trodAll_length ts vs ds q h2
    exact ⟨by simp [a], by simp [b]⟩
  | [], _ :: _, _, _, h => by simp [DataW.TrodAll] at h
  | [], [], _ :: _, _, h => by simp [DataW.TrodAll] at h
  | _ :: _, [], _, _, h => by simp [DataW.TrodAll] at h
  | _ :: _, _ :: _, [], _, h => by simp [DataW.TrodAll] at h

theorem trodAll_below {H : Type} {enc : TypeId × Value → H} {P : Program} (hl : laidOutB P = true) {W W' : World} (hb : Below W.heap.size W W') :
    ∀ (ts : List TypeId) (vs : List Value) (ds : List (DataW H)) (ps : List MemPlace), (∀ t ∈ ts, P.readableRec t = true ∧ t < P.types.size) →
      DataW.TrodAll enc P W 0 (fun _ => true) true ts vs ds ps → DataW.TrodAll enc P W' 0 (fun b => decide (b < W.heap.size)) true ts vs ds ps
  | [], [], [], _, _, h => h
  | t :: ts, _ :: vs, _ :: ds, _, ht, h => by
    obtain ⟨p, q, h1, h2, rfl⟩ := h
    have lt1 : ∀ x ∈ p, x.block < W.heap.size := by obtain ⟨m, hm⟩ := h1; exact DataW.trod_lt m _ _ _ hm
    obtain ⟨r1, r2⟩ := ht t (by simp)
    exact ⟨p, q, Below.trod hl r1 r2 h1 hb lt1, trodAll_below hl hb ts vs ds q (fun t' ht' => ht t' (by simp [ht'])) h2, rfl⟩
  | [], _ :: _, _, _, _, h => by simp [DataW.TrodAll] at h
  | [], [], _ :: _, _, _, h => by simp [DataW.TrodAll] at h
  | _ :: _, [], _, _, _, h => by simp [DataW.TrodAll] at h
  | _ :: _, _ :: _, [], _, _, h => by simp [DataW.TrodAll] at h

/-- What a walk is to show of a law: over whatever arguments that can be read (and meet 'k'), it returns true, and nothing that was there has turned. -/
def Walked (P : Program) (n : FuncId) (f : Func) (k : (H : Type) → List (DataW H) → Prop) : Prop :=
  ∀ (H : Type) (enc : TypeId × Value → H) (W : World) (base : Nat) (args : Array Value) (ds : List (DataW H)) (ps : List MemPlace),
    (∀ (j : Nat) t v, f.params[j]? = some t → args[j]? = some v → Value.okWide P W .any base t v) →
    DataW.TrodAll enc P W 0 (fun _ => true) true f.params.toList args.toList ds ps → k H ds →
    Calls P n args W fun e W' => e = .returned (.bool true) ∧ Below W.heap.size W W'

theorem law_post {H : Type} {enc : TypeId × Value → H} {P : Program} {f : Func} {s : ChangeSpec} {tb : TypeId} (hl : laidOutB P = true)
    (hs : IsLaw s f.params.size) (hr : f.resultTypes = #[tb]) (hu : P.underlying tb = some .bool) (hp : ∀ t ∈ f.params.toList, P.readableRec t = true ∧ t < P.types.size)
    {W W' : World} {args : Array Value} {ds gs : List (DataW H)} {before : List MemPlace}
    (hW : DataW.Whole enc P f.params.toList s.vars false W args.toList ds gs before) (hb : Below W.heap.size W W') :
    s.post enc P f false true false false W args (.bool true) W' := by
  have hW' := hW
  obtain ⟨p, q, hA, hV, rfl, hfz, hnd⟩ := hW
  obtain ⟨hv, hs⟩ := hs
  rw [hv] at hV
  obtain ⟨rfl, rfl⟩ := trodVars_none hV
  have hfn : s.fn H (ds ++ []) = { results := [.lit (.bool true)], args := ds } := by
    rw [List.append_nil]
    exact hs H ds (by have := (trodAll_length _ _ _ _ hA).1; simpa using this)
  refine ⟨ds, [], _, [], p, [], hW', ?_, ?_, ?_, hb.frame _, fun h => by cases h⟩
  · rw [hfn, hr]
    exact trodAll_mk1 (shut_bool hu _)
  · rw [hfn]
    exact trodAll_below hl hb _ _ _ _ hp hA
  · rw [hv, hfn]; rfl

theorem returns_of_walked {C : Checked} {os : Os} {n : FuncId} {f : Func} {s : ChangeSpec} {tb : TypeId} (own : ownKnob C.prog.godebug = none) (started : os.Started)
    (noInit : C.prog.inits.idxOf? n = none) (hf : C.prog.funcs[n]? = some f) (hl : laidOutB C.prog = true)
    (hs : IsLaw s f.params.size) (hr : f.resultTypes = #[tb]) (hu : C.prog.underlying tb = some .bool) (hp : ∀ t ∈ f.params.toList, C.prog.readableRec t = true ∧ t < C.prog.types.size)
    {H : Type} {enc : TypeId × Value → H}
    (witness : ∃ (w : World) (tape : Tape) (i : Input), w.os = os ∧ (w.forCall tape i).Shaped C.prog ∧ i.vars = [] ∧ Input.okWide C.prog (w.forCall tape i) .any w.heap.size n i ∧
      s.pre6 enc C.prog f [] false (w.forCall tape i).memory i.args ∧ Assume.holds {} C.prog (lone (Frame.enter C.prog n i.args .normal) [] (w.forCall tape i)))
    (walk : Walked C.prog n f fun _ _ => True) :
    ReturnsInHanded {} C os n .any (s.pre6 enc C.prog f [] false) (s.post enc C.prog f false true false false) := by
  refine returnsInHanded_of_change own started noInit hf witness ?_
  intro W base args ds gs before hval hW _ _
  obtain ⟨p, q, hA, hV, rfl, hfz, hnd⟩ := id hW
  refine (walk H enc W base args ds p hval hA trivial).mono fun e W' ⟨he, hb⟩ => ?_
  exact ⟨_, he, law_post hl hs hr hu hp hW hb⟩

/-- The row's second form: the walk may use the bound on what came in. -/
theorem returns_of_walked_upto {C : Checked} {os : Os} {n : FuncId} {f : Func} {s : ChangeSpec} {tb : TypeId} (own : ownKnob C.prog.godebug = none) (started : os.Started)
    (noInit : C.prog.inits.idxOf? n = none) (hf : C.prog.funcs[n]? = some f) (hl : laidOutB C.prog = true)
    (hs : IsLaw s f.params.size) (hr : f.resultTypes = #[tb]) (hu : C.prog.underlying tb = some .bool) (hp : ∀ t ∈ f.params.toList, C.prog.readableRec t = true ∧ t < C.prog.types.size)
    {H : Type} {enc : TypeId × Value → H} (F : Stop.Interp)
    (witness : ∃ (w : World) (tape : Tape) (i : Input), w.os = os ∧ (w.forCall tape i).Shaped C.prog ∧ i.vars = [] ∧ Input.okWide C.prog (w.forCall tape i) .any w.heap.size n i ∧
      (Rows.OpenSpec.upto s).pre6 enc C.prog f [] false (w.forCall tape i).memory i.args ∧ Assume.holds {} C.prog (lone (Frame.enter C.prog n i.args .normal) [] (w.forCall tape i)))
    (walk : Walked C.prog n f fun H ds => Rows.uptoSmall H ds = true) :
    ReturnsInHanded {} C os n .any ((Rows.OpenSpec.upto s).pre6 enc C.prog f [] false) (((Rows.OpenSpec.upto s).at F).post enc C.prog f false true false false) := by
  refine returnsInHanded_of_cond (s := Rows.OpenSpec.upto s) (k := Rows.uptoSmall) rfl own started noInit hf witness ?_
  intro W base args ds gs before hval hW _ hk _
  obtain ⟨p, q, hA, hV, rfl, hfz, hnd⟩ := id hW
  have hv : (Rows.OpenSpec.upto s).vars = [] := hs.1
  rw [hv] at hV
  obtain ⟨rfl, rfl⟩ := trodVars_none hV
  rw [List.append_nil] at hk
  refine (walk H enc W base args ds p hval hA hk).mono fun e W' ⟨he, hb⟩ => ?_
  exact ⟨_, he, law_post (s := (Rows.OpenSpec.upto s).at F) hl hs hr hu hp hW hb⟩

theorem own : ownKnob Try.prog.godebug = none := by kernel_rfl
theorem laidOut : laidOutB Try.prog = true := by kernel_rfl
end Go.Proofs.Ytpmgackgcefalaa
