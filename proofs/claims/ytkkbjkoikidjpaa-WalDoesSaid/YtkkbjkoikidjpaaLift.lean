/-
  From a law's walk to its given statement: what a law's arguments read as, and what the row asks behind the call. Nothing here speaks of one law.
-/
import Derived.Test.YtkkbjkoikidjpaaBase
import Derived.ProofKit
import Derived.OpenShut
import Derived.Deep.Slices
import Derived.Deep.Fields
import Derived.ChangeSame
namespace Go.Proofs.Ytkkbjkoikidjpaa
open Go.ChangeShapes Go.WideShapes Go.ChangeAt Go.RowKit Go.Deep

theorem own : ownKnob Try.prog.godebug = none := by kernel_rfl
theorem laidOut : laidOutB Try.prog = true := by kernel_rfl

theorem all_stays {H : Type} {enc : TypeId × Value → H} {P : Program} (hl : laidOutB P = true) {W W' : World} (hb : Below W.heap.size W W') {sp : Nat → Bool} : ∀ {ts : List TypeId} {vs : List Value} {ds : List (DataW H)} {ps : List MemPlace},
    (∀ t ∈ ts, P.readableRec t = true ∧ t < P.types.size) → DataW.TrodAll enc P W 0 (fun _ => true) true ts vs ds ps → (∀ p ∈ ps, p.block < W.heap.size) → (∀ p ∈ ps, sp p.block = true) → DataW.TrodAll enc P W' 0 sp true ts vs ds ps
  | [], vs, ds, ps, _, h, _, _ => by
    obtain ⟨rfl, rfl, rfl⟩ := trodAll_nil h
    exact trodAll_mk0
  | t :: ts, vs, ds, ps, hts, h, hlt, hsp => by
    obtain ⟨v, vs', d, ds', p, q, rfl, rfl, rfl, h1, h2⟩ := trodAll_cons h
    have hp : ∀ x ∈ p, x.block < W.heap.size := fun x hx => hlt x (List.mem_append_left _ hx)
    exact trodAll_cons_mk (WideElems.Trod_stays hl (hts t (by simp)).1 (hts t (by simp)).2 h1 (fun x hx => hb.same (hp x hx)) (fun x hx => hsp x (List.mem_append_left _ hx)))
      (all_stays hl hb (fun t' ht' => hts t' (List.mem_cons_of_mem _ ht')) h2 (fun x hx => hlt x (List.mem_append_right _ hx)) (fun x hx => hsp x (List.mem_append_right _ hx)))

theorem trodAll_length {H : Type} {enc : TypeId × Value → H} {P : Program} {w : World} {base : Nat} {spare : Nat → Bool} {held : Bool} : ∀ {ts : List TypeId} {vs : List Value} {ds : List (DataW H)} {ps : List MemPlace},
    DataW.TrodAll enc P w base spare held ts vs ds ps → ds.length = ts.length
  | [], vs, ds, ps, h => by obtain ⟨_, rfl, _⟩ := trodAll_nil h; rfl
  | t :: ts, vs, ds, ps, h => by
    obtain ⟨v, vs', d, ds', p, q, rfl, rfl, rfl, h1, h2⟩ := trodAll_cons h
    simp [trodAll_length h2]

/-- The row's post of a law that returned true and turned nothing that was there. -/
theorem law_post {H : Type} {enc : TypeId × Value → H} {f : Func} {s : ChangeSpec} {W W' : World} {args : Array Value} {ds gs : List (DataW H)} {before : List MemPlace}
    (hvars : s.vars = []) (hspec : ∀ ds : List (DataW H), ds.length = f.params.size → (s.fn H ds).results = [.lit (.bool true)] ∧ (s.fn H ds).args = ds ∧ (s.fn H ds).vars = [])
    (hread : ∀ t ∈ f.params.toList, Try.prog.readableRec t = true ∧ t < Try.prog.types.size) (hrt : f.resultTypes = #[4])
    (hW : DataW.Whole enc Try.prog f.params.toList s.vars false W args.toList ds gs before) (hb : Below W.heap.size W W') :
    s.post enc Try.prog f false true false false W args (.bool true) W' := by
  have hlt : ∀ p ∈ before, p.block < W.heap.size := fun p hp => hW.lt p hp
  have hW' := hW
  obtain ⟨p, q, hA, hV, rfl, hfz, hnd⟩ := hW
  rw [hvars] at hV
  obtain ⟨rfl, rfl⟩ := trodVars_none hV
  rw [List.append_nil] at hlt
  obtain ⟨e1, e2, e3⟩ := hspec ds (by rw [trodAll_length hA]; simp)
  refine ⟨ds, [], p ++ [], [], p, [], hW', ?_, ?_, ?_, hb.frame _, fun h => by cases h⟩
  · rw [List.append_nil, e1, hrt]
    exact trodAll_mk1 (shut_bool Try.underlying4 _)
  · rw [List.append_nil, e2]
    exact all_stays laidOut hb hread hA hlt (fun x hx => by simpa using hlt x hx)
  · rw [List.append_nil, e3, hvars]
    exact rfl

/-- What a law's walk has of its arguments. -/
structure LawArgs {H : Type} (enc : TypeId × Value → H) (W : World) (ts : List TypeId) (vs : List Value) : Prop where
  ok : ∃ base, ∀ (j : Nat) t v, ts[j]? = some t → vs[j]? = some v → Value.okWide Try.prog W .any base t v
  trod : ∃ ds ps, DataW.TrodAll enc Try.prog W 0 (fun _ => true) true ts vs ds ps ∧ ∀ p ∈ ps, p.block < W.heap.size

set_option maxRecDepth 100000 in
/-- A law's step: its walk, for every argument, gives the row's promise. -/
theorem law_lifted {f : FuncId} {fn : Func} {s : ChangeSpec} (noInit : Try.prog.inits.idxOf? f = none) (hfn : Try.prog.funcs[f]? = some fn)
    (hvars : s.vars = []) (hspec : ∀ (H : Type) (ds : List (DataW H)), ds.length = fn.params.size → (s.fn H ds).results = [.lit (.bool true)] ∧ (s.fn H ds).args = ds ∧ (s.fn H ds).vars = [])
    (hread : ∀ t ∈ fn.params.toList, Try.prog.readableRec t = true ∧ t < Try.prog.types.size) (hrt : fn.resultTypes = #[4])
    (os : Os) (started : os.Started) (H : Type) (enc : TypeId × Value → H)
    (witness : ∃ (w : World) (tape : Tape) (i : Input), w.os = os ∧ (w.forCall tape i).Shaped Try.prog ∧ i.vars = [] ∧ Input.okWide Try.prog (w.forCall tape i) .any w.heap.size f i ∧
      s.pre6 enc Try.prog fn [] false (w.forCall tape i).memory i.args ∧ ({} : Assume).holds Try.prog (lone (Frame.enter Try.prog f i.args .normal) [] (w.forCall tape i)))
    (walk : ∀ (W : World) (args : Array Value), LawArgs enc W fn.params.toList args.toList → Calls Try.prog f args W fun e W' => e = .returned (.bool true) ∧ Below W.heap.size W W') :
    ReturnsInHanded {} Try.checked os f .any (s.pre6 enc Try.prog fn [] false) (s.post enc Try.prog fn false true false false) := by
  refine returnsInHanded_of_change (C := Try.checked) own started noInit hfn witness ?_
  intro W base args ds gs before hval hW _ _
  have hlt : ∀ p ∈ before, p.block < W.heap.size := fun p hp => hW.lt p hp
  have hW' : DataW.Whole enc Try.prog fn.params.toList s.vars false W args.toList ds gs before := hW
  obtain ⟨p, q, hA, hV, rfl, hfz, hnd⟩ := hW
  refine (walk W args ⟨⟨base, fun j t v h1 h2 => hval j t v (by simpa using h1) (by simpa using h2)⟩, ds, p, hA, fun x hx => hlt x (List.mem_append_left _ hx)⟩).mono ?_
  rintro e W' ⟨rfl, hb⟩
  exact ⟨_, rfl, law_post hvars (hspec H) hread hrt hW' hb⟩

section
variable {H : Type} {enc : TypeId × Value → H} {W : World} {ts : List TypeId} {vs : List Value} {t : TypeId}
set_option maxRecDepth 100000 in
theorem LawArgs.nil (h : LawArgs enc W [] vs) : vs = [] := by
  obtain ⟨_, ds, ps, h, _⟩ := h
  exact (trodAll_nil h).1
set_option maxRecDepth 100000 in
theorem LawArgs.cons (h : LawArgs enc W (t :: ts) vs) : ∃ v vs', vs = v :: vs' ∧ LawArgs enc W ts vs' ∧ (∃ base, Value.okWide Try.prog W .any base t v) ∧
    ∃ d ps, DataW.Trod enc Try.prog W 0 (fun _ => true) true t v d ps ∧ ∀ p ∈ ps, p.block < W.heap.size := by
  obtain ⟨⟨base, hok⟩, ds, ps, h, hlt⟩ := h
  obtain ⟨v, vs', d, ds', p, q, rfl, rfl, rfl, h1, h2⟩ := trodAll_cons h
  exact ⟨v, vs', rfl, ⟨⟨base, fun j t v h1 h2 => hok (j + 1) t v (by simpa using h1) (by simpa using h2)⟩, ds', q, h2, fun x hx => hlt x (List.mem_append_right _ hx)⟩, ⟨base, hok 0 t v rfl rfl⟩,
    d, p, h1, fun x hx => hlt x (List.mem_append_left _ hx)⟩

set_option maxRecDepth 100000 in
theorem arg_u8 {v : Value} {d : DataW H} {ps : List MemPlace} (hok : ∃ base, Value.okWide Try.prog W .any base 5 v) (h : DataW.Trod enc Try.prog W 0 (fun _ => true) true 5 v d ps) : ∃ n : Nat, v = .int .u8 n ∧ n ≤ 255 := by
  obtain ⟨base, hok⟩ := hok
  obtain ⟨a0, rfl, rfl, rfl, w0⟩ := open_int Try.underlying5 hok h
  have hx : 0 ≤ a0 ∧ a0 ≤ 255 := by simpa [Lit.wf, IntKind.min, IntKind.max, IntKind.signed, IntKind.bits] using w0
  exact ⟨a0.toNat, by rw [Int.toNat_of_nonneg hx.1], by omega⟩
set_option maxRecDepth 100000 in
theorem inI64_of_wf {n : Int} (h : (Lit.int .i64 n).wf = true) : inI64 n := by
  simpa [inI64, Lit.wf, IntKind.min, IntKind.max, IntKind.signed, IntKind.bits] using h
set_option maxRecDepth 100000 in
theorem arg_int {v : Value} {d : DataW H} {ps : List MemPlace} (hok : ∃ base, Value.okWide Try.prog W .any base 3 v) (h : DataW.Trod enc Try.prog W 0 (fun _ => true) true 3 v d ps) : ∃ n : Int, v = .int .i64 n ∧ inI64 n := by
  obtain ⟨base, hok⟩ := hok
  obtain ⟨a0, rfl, rfl, rfl, w0⟩ := open_int Try.underlying3 hok h
  exact ⟨a0, rfl, inI64_of_wf w0⟩

set_option maxRecDepth 100000 in
/-- A slice of structs, each field one cell: the fields of each element, cell by cell, and how each reads. -/
theorem slice_structs {t e : TypeId} {fs : Array Field} {fuel : Nat} {cs : List Value} {x : DataW H × List MemPlace} (ht : Try.prog.underlying t = some (.slice e)) (he : Try.prog.underlying e = some (.struct fs))
    (hone : oneCellFields Try.prog fs = true) (hC : Try.prog.cellsOf e = fs.size) (h : DataW.trod enc Try.prog W 0 (fun _ => true) true fuel t cs = some x) :
    cs = [.slice none 0 0] ∨ ∃ (a : Addr) (len cap : Nat), cs = [.slice (some a) len cap] ∧ len ≤ cap ∧ cap ≤ maxLen ∧
      ∀ i, i < len → ∃ (ys : List (DataW H × List MemPlace)) (n : Nat), (∀ p ∈ ys.flatMap (·.2), p ∈ x.2) ∧
        ∀ (j : Nat) (f : Field), fs[j]? = some f → ∃ (v : Value) (y : DataW H × List MemPlace), W.cell? (a.add (i * fs.size + j)) = some v ∧ ys[j]? = some y ∧ DataW.trod enc Try.prog W 0 (fun _ => true) true n f.type [v] = some y := by
  rcases open_slice ht h with ⟨h0, _⟩ | ⟨a, len, cap, m, n, D, Pl, hcs, _, hl, hm, hmm, hx, hi⟩
  · exact .inl h0
  refine .inr ⟨a, len, cap, hcs, hl, hm, fun i hil => ?_⟩
  have hmc : m = cap := by simpa using hmm
  obtain ⟨cells, hcells, htrod⟩ := hi i (by omega)
  rw [hC] at hcells
  obtain ⟨ys, k, _, hpair, hlen, _, hfield⟩ := DataW.trod_struct he htrod
  obtain ⟨_, hsize, hat⟩ := World.cells?_some hcells
  refine ⟨ys, k, fun p hp => ?_, fun j f hj => ?_⟩
  · rw [hx]
    have e2 : Pl i = ys.flatMap (·.2) := congrArg Prod.snd hpair
    exact List.mem_append_right _ (List.mem_flatMap.2 ⟨i, List.mem_range.2 (by omega), by rw [e2]; exact hp⟩)
  · have hjs : j < fs.size := (Array.getElem?_eq_some_iff.1 hj).1
    obtain ⟨hoff, hcnt⟩ := hone_of hone j f hj
    have hread := hfield j f hj
    have hjc : j < cells.length := by omega
    have hv : cells[j]? = some cells[j] := List.getElem?_eq_getElem hjc
    have hcut : (cells.drop f.offset).take (Try.prog.cellsOf f.type) = [cells[j]] := by
      rw [hoff, hcnt, List.drop_eq_getElem_cons hjc, List.take_succ_cons, List.take_zero]
    rw [hcut] at hread
    have hw := hat j hjs
    rw [add_add, hv] at hw
    rename_i hyl
    have hyj : ys[j]? = some (ys[j]'(by omega)) := List.getElem?_eq_getElem (by omega)
    exact ⟨cells[j], _, hw, hyj, hread.trans hyj⟩

set_option maxRecDepth 100000 in
theorem addr_some {a : Addr} {n : Nat} {w : World} {v : Value} (h : w.cell? (a.add n) = some v) : a.add n = ⟨a.block, a.off + n, none⟩ := by
  have hs : (a.add n).spot = none := by
    unfold World.cell? at h
    split at h
    · rename_i c e f hb
      cases hs : (a.add n).spot with
      | none => rfl
      | some x => simp [hs] at h
    · cases h
  unfold Addr.add at hs ⊢
  split
  · rename_i h0; subst h0; rw [if_pos rfl] at hs; cases a; simp_all
  · rfl

set_option maxRecDepth 100000 in
theorem addr_same {a : Addr} {w : World} {v : Value} (h : w.cell? a = some v) : a = ⟨a.block, a.off, none⟩ := by
  have := addr_some (n := 0) (a := a) (by simpa [Addr.add] using h)
  simpa [Addr.add] using this

set_option maxRecDepth 100000 in
theorem maxLen_le : maxLen ≤ 9223372036854775807 := by decide

end
end Go.Proofs.Ytkkbjkoikidjpaa
