/-
  The contracts of package disk, more: New, Copy, Swap, Crash.
-/
import Derived.Test.YtkkbjkoikidjpaaDisk
namespace Go.Proofs.Ytkkbjkoikidjpaa
open Go.RowKit

theorem infoFile : (Try.prog.info? 75).map (fun i => (i.zero, i.size, i.bytes)) = some (some (.agg #[.string ByteArray.empty, .int .i64 0]), 2, 24) := by kernel_rfl

theorem madeFiles (n : Nat) : madeCells #[.string ByteArray.empty, .int .i64 0] (n * 2) = (fileCells (List.replicate n (ByteArray.empty, 0))).toArray := by
  apply Array.toList_inj.1
  show _ = fileCells (List.replicate n (ByteArray.empty, 0))
  induction n with
  | zero => simp [madeCells, fileCells]
  | succ n ih =>
    have e : (fileCells (List.replicate (n + 1) (ByteArray.empty, 0))) = fileCells (List.replicate n (ByteArray.empty, 0)) ++ [.string ByteArray.empty, .int .i64 0] := by
      rw [List.replicate_succ']; simp [fileCells]
    rw [e, ← ih]
    unfold madeCells
    have e1 : n * 2 % 2 = 0 := by omega
    have e2 : (n * 2 + 1) % 2 = 1 := by omega
    simp only [Array.toList_map, Array.toList_range, Nat.succ_mul, List.range_succ, List.map_append, List.map_cons, List.map_nil, List.append_assoc, List.cons_append, List.nil_append, List.size_toArray, List.length_cons, List.length_nil]
    simp [e1, e2]

theorem fileCells_one (l : List DFile) : ∀ v ∈ fileCells l, v.oneCell' = true := by
  intro v hv
  simp only [fileCells, List.mem_flatMap] at hv
  obtain ⟨f, _, hv⟩ := hv
  simp at hv
  rcases hv with rfl | rfl <;> rfl
theorem DiskAt.made {w : World} {l : List DFile} {room : Nat} (hf : l.length ≤ 8) (hr : fileSum l ≤ room) (hs : room ≤ 16777216) (h : ∀ i (h : i < l.length), l[i].2 ≤ l[i].1.size) {cs : Array Value} (hc : cs = (fileCells l).toArray) :
    DiskAt ((w.alloc (.cells cs 75)).alloc (.cells #[.slice (some ⟨w.heap.size, 0, none⟩) l.length l.length, .int .i64 room] 64)) (w.heap.size + 1) w.heap.size l room :=
  ⟨heap_alloc_at (by simp), by rw [heap_alloc_old (by simp), heap_alloc_same, hc], by omega, hf, hr, hs, h⟩

/-- Can there be such a disk? -/
def newOk (n room : Int) : Bool := decide (1 ≤ n ∧ n ≤ 8 ∧ 0 ≤ room ∧ room ≤ 16777216)

set_option maxRecDepth 10000 in
set_option maxHeartbeats 400000 in
theorem new_no {w : World} (n room : Int) (h : newOk n room = false) :
    Calls Try.prog 9 #[.int .i64 n, .int .i64 room] w fun e w' => e = .returned (.tuple #[.pointer none, .int .i64 1]) ∧ w = w' := by
  have h' : n < 1 ∨ 8 < n ∨ room < 0 ∨ 16777216 < room := by simp [newOk] at h; omega
  have H := Lib.hid h'
  clear h h'
  go_enter Try.func9, Try.ntmps9
  go_wp2
  all_goals first | (go_ret2; exact ⟨rfl, rfl⟩) | (exfalso; have := H.out; omega)

set_option maxRecDepth 10000 in
set_option maxHeartbeats 400000 in
theorem new_ok {w : World} (n room : Nat) (h : newOk n room = true) :
    Calls Try.prog 9 #[.int .i64 n, .int .i64 room] w fun e w' => ∃ D L, e = .returned (.tuple #[.pointer (some ⟨D, 0, none⟩), .int .i64 0]) ∧
      DiskAt w' D L (List.replicate n (ByteArray.empty, 0)) room ∧ Keeps [] w w' ∧ w.heap.size ≤ D ∧ w.heap.size ≤ L := by
  have h' : 1 ≤ n ∧ n ≤ 8 ∧ room ≤ 16777216 := by simp [newOk] at h; omega
  obtain ⟨i0, hi, hz0, hz1, hz2⟩ := info_parts infoFile
  have hmk : ∀ u : World, (Instr.makeSlice 62 (.int .i64 n) (.int .i64 n)).run Try.prog u = .ok (.slice (some ⟨u.heap.size, 0, none⟩) n n) (u.alloc (.cells (fileCells (List.replicate n (ByteArray.empty, 0))).toArray 75)) := fun u => by
    have h := run_make (P := Try.prog) u 62 75 i0 _ Try.underlying62 hi hz0 .i64 .i64 (n : Int) (n : Int) (by omega) (Int.le_refl _) (by rw [hz2]; omega) (by omega)
    rw [hz1, Int.toNat_natCast] at h
    rw [h, ← madeFiles]; rfl
  obtain ⟨cs, hcs⟩ : ∃ cs, cs = (fileCells (List.replicate n (ByteArray.empty, 0))).toArray := ⟨_, rfl⟩
  rw [← hcs] at hmk
  have H := Lib.hid hcs
  obtain ⟨h1, h2, h3⟩ := h'
  clear hi hz0 hz1 hz2 h hcs
  go_enter Try.func9, Try.ntmps9
  go_wp2
  go_ret2
  have g := DiskAt.made (w := w) (l := List.replicate n (ByteArray.empty, 0)) (room := room) (by simpa using h2) (by simp [fileSum]) h3 (by simp) H.out
  rw [List.length_replicate] at g
  exact ⟨_, _, rfl, g, ((Keeps.refl _ _).alloc _).alloc _, by omega, by omega⟩

/-- Two files have each other's. -/
def swapped (l : List DFile) (a b : Nat) : List DFile := (l.set a (fileAt l b)).set b (fileAt l a)
def dSwap (l : List DFile) (a b : Int) : Int × List DFile :=
  if hasB l.length a && hasB l.length b then
    if decide ((fileAt l a).2 < (fileAt l a).1.size) || decide ((fileAt l b).2 < (fileAt l b).1.size) then (8, l) else (0, swapped l a.toNat b.toNat)
  else (1, l)

theorem fileCells_set (l : List DFile) (i : Nat) (s : ByteArray) (n : Nat) (h : i < l.length) : ((fileCells l).set (i * 2) (.string s)).set (i * 2 + 1) (.int .i64 n) = fileCells (l.set i (s, n)) := by
  rw [fileCells_set_s l i s h]
  have := fileCells_set_n (l.set i (s, l[i].2)) i n (by simpa using h)
  rw [this]; simp
theorem length_swapped (l : List DFile) (a b : Nat) : (swapped l a b).length = l.length := by simp [swapped]
theorem fileSum_swapped (l : List DFile) (a b : Nat) (ha : a < l.length) (hb : b < l.length) : fileSum (swapped l a b) = fileSum l := by
  unfold swapped
  rw [fileSum_set _ _ _ (by simpa using hb), fileSum_set _ _ _ ha, fileAt_eq ha, fileAt_eq hb]
  have h1 := fileSum_mem_le l a ha
  have h2 := fileSum_mem_le l b hb
  by_cases e : a = b
  · subst e; simp; omega
  · rw [List.getElem_set_ne e]
    have h3 := fileSum_set l a (l[b]) ha
    have h4 := fileSum_mem_le (l.set a l[b]) b (by simpa using hb)
    rw [List.getElem_set_ne e] at h4
    omega
theorem DiskAt.swap {w : World} {D L : Nat} {l : List DFile} {room : Nat} (h : DiskAt w D L l room) {a b : Nat} (ha : a < l.length) (hb : b < l.length) :
    DiskAt ((((w.setCell ⟨L, a * 2, none⟩ (.string l[b].1)).setCell ⟨L, a * 2 + 1, none⟩ (.int .i64 l[b].2)).setCell ⟨L, b * 2, none⟩ (.string l[a].1)).setCell ⟨L, b * 2 + 1, none⟩ (.int .i64 l[a].2)) D L (swapped l a b) room := by
  refine ⟨?_, ?_, h.ne, by rw [length_swapped]; exact h.few, by rw [fileSum_swapped l a b ha hb]; exact h.fits, h.small, ?_⟩
  · rw [heap_setCell_other h.ne, heap_setCell_other h.ne, heap_setCell_other h.ne, heap_setCell_other h.ne, length_swapped]; exact h.hd
  · rw [heap_setCell_same (heap_setCell_same (heap_setCell_same (heap_setCell_same h.hl _) _) _)]
    have e1 := fileCells_set l a l[b].1 l[b].2 ha
    have e2 := fileCells_set (l.set a l[b]) b l[a].1 l[a].2 (by simpa using hb)
    rw [← e1] at e2
    simp only [List.setIfInBounds_toArray]
    rw [e2]
    simp [swapped, fileAt_eq ha, fileAt_eq hb]
  · intro i hi
    rw [length_swapped] at hi
    simp only [swapped, fileAt_eq ha, fileAt_eq hb, List.getElem_set]
    split
    · exact h.sure a ha
    · split
      · exact h.sure b hb
      · exact h.sure i hi

set_option maxRecDepth 10000 in
set_option maxHeartbeats 400000 in
theorem swap_no {w : World} {D L : Nat} {l : List DFile} {room : Nat} (h : DiskAt w D L l room) (a b : Int) (hb : (hasB l.length a && hasB l.length b) = false) :
    Calls Try.prog 42 #[.pointer (some ⟨D, 0, none⟩), .int .i64 a, .int .i64 b] w fun e w' => e = .returned (.int .i64 1) ∧ w = w' := by
  cases h1 : hasB l.length a with
  | false =>
    clear hb
    go_enter Try.func42, Try.ntmps42
    go_wp2_with (go_at_call 49; refine (has_any h _).mono ?_; rintro e w' ⟨rfl, rfl⟩)
    go_ret
    exact ⟨rfl, rfl⟩
  | true =>
    have h2 : hasB l.length b = false := by simpa [h1] using hb
    clear hb
    go_enter Try.func42, Try.ntmps42
    go_wp2_with (go_at_call 49; refine (has_any h _).mono ?_; rintro e w' ⟨rfl, rfl⟩)
    go_ret
    exact ⟨rfl, rfl⟩

set_option maxRecDepth 10000 in
set_option maxHeartbeats 400000 in
theorem swap_yes {w : World} {D L : Nat} {l : List DFile} {room : Nat} (h : DiskAt w D L l room) (a b : Nat) (ha : a < l.length) (hb : b < l.length) (s1 : l[a].2 = l[a].1.size) (s2 : l[b].2 = l[b].1.size) :
    Calls Try.prog 42 #[.pointer (some ⟨D, 0, none⟩), .int .i64 a, .int .i64 b] w fun e w' =>
      e = .returned (.int .i64 0) ∧ DiskAt w' D L (swapped l a b) room ∧ Keeps [L] w w' := by
  have h0 := h.c0
  have hf := h.few
  have hltD := h.ltD
  have hltL := h.ltL
  have ca := h.cs a ha
  have na := h.cn a ha
  have cb := h.cs b hb
  have nb := h.cn b hb
  have ba := hasB_of_lt ha
  have bb := hasB_of_lt hb
  rw [s1] at na
  rw [s2] at nb
  clear s1 s2
  go_enter Try.func42, Try.ntmps42
  go_wp2_with (go_at_call 49; refine (has_any h _).mono ?_; rintro e w' ⟨rfl, rfl⟩)
  go_region
  go_wp2
  refine wp_loop_rounds 3 ?_
  rw [rounds_succ]
  go_wp2
  rw [rounds_succ]
  go_wp2
  rw [rounds_succ]
  go_wp2
  generalize hw2 : World.drew _ = w2
  have k2 : Keeps [] w w2 := by rw [← hw2]; repeat (first | exact Keeps.refl _ _ | apply Keeps.drew | apply Keeps.alloc)
  have g := h.keep k2 (by simp) (by simp)
  clear hw2 h0 ca na cb nb hltD hltL
  have h0 := g.c0
  have ca := g.cs a ha
  have na := g.cn a ha
  have cb := g.cs b hb
  have nb := g.cn b hb
  have za := g.fz (a * 2)
  have za' := g.fz (a * 2 + 1)
  have zb := g.fz (b * 2)
  have zb' := g.fz (b * 2 + 1)
  have K2 := Lib.hid k2
  clear k2
  by_cases hab : a = b
  · subst hab
    go_region
    go_wp2
    go_ret
    exact ⟨rfl, (g.swap ha hb).drew, ((((K2.out.mono (by simp)).setCell (.inl (by simp)) _).setCell (.inl (by simp)) _).setCell (.inl (by simp)) _).setCell (.inl (by simp)) _ |>.drew⟩
  · go_region
    go_wp2
    go_ret
    exact ⟨rfl, (g.swap ha hb).drew, ((((K2.out.mono (by simp)).setCell (.inl (by simp)) _).setCell (.inl (by simp)) _).setCell (.inl (by simp)) _).setCell (.inl (by simp)) _ |>.drew⟩

set_option maxRecDepth 10000 in
set_option maxHeartbeats 400000 in
theorem swap_state {w : World} {D L : Nat} {l : List DFile} {room : Nat} (h : DiskAt w D L l room) (a b : Nat) (ha : a < l.length) (hb : b < l.length) (s1 : l[a].2 < l[a].1.size ∨ l[b].2 < l[b].1.size) :
    Calls Try.prog 42 #[.pointer (some ⟨D, 0, none⟩), .int .i64 a, .int .i64 b] w fun e w' =>
      e = .returned (.int .i64 8) ∧ Keeps [] w w' := by
  have h0 := h.c0
  have hf := h.few
  have hltD := h.ltD
  have hltL := h.ltL
  have ca := h.cs a ha
  have na := h.cn a ha
  have cb := h.cs b hb
  have nb := h.cn b hb
  have ba := hasB_of_lt ha
  have bb := hasB_of_lt hb
  by_cases s0 : l[a].2 < l[a].1.size
  · clear s1
    go_enter Try.func42, Try.ntmps42
    go_wp2_with (go_at_call 49; refine (has_any h _).mono ?_; rintro e w' ⟨rfl, rfl⟩)
    go_region
    go_wp2
    refine wp_loop_rounds 3 ?_
    rw [rounds_succ]
    go_wp2
    go_ret
    exact ⟨rfl, by repeat (first | exact Keeps.refl _ _ | apply Keeps.drew | apply Keeps.alloc)⟩
  · have s2 := s1.resolve_left s0
    clear s1
    go_enter Try.func42, Try.ntmps42
    go_wp2_with (go_at_call 49; refine (has_any h _).mono ?_; rintro e w' ⟨rfl, rfl⟩)
    go_region
    go_wp2
    refine wp_loop_rounds 3 ?_
    rw [rounds_succ]
    go_wp2
    rw [rounds_succ]
    go_wp2
    go_ret
    exact ⟨rfl, by repeat (first | exact Keeps.refl _ _ | apply Keeps.drew | apply Keeps.alloc)⟩

theorem swap_any {w : World} {D L : Nat} {l : List DFile} {room : Nat} (h : DiskAt w D L l room) (a b : Int) :
    Calls Try.prog 42 #[.pointer (some ⟨D, 0, none⟩), .int .i64 a, .int .i64 b] w fun e w' =>
      e = .returned (.int .i64 (dSwap l a b).1) ∧ DiskAt w' D L (dSwap l a b).2 room ∧ Keeps [L] w w' := by
  cases hb : (hasB l.length a && hasB l.length b) with
  | false =>
    refine (swap_no h a b hb).mono ?_
    rintro e w' ⟨rfl, rfl⟩
    simp only [dSwap, hb]
    exact ⟨rfl, h, Keeps.refl _ _⟩
  | true =>
    have hb' := hb
    simp only [Bool.and_eq_true] at hb'
    obtain ⟨m, rfl, hm⟩ := hasB_spec hb'.1
    obtain ⟨n, rfl, hn⟩ := hasB_spec hb'.2
    have f1 := h.sure m hm
    have f2 := h.sure n hn
    by_cases hs : l[m].2 < l[m].1.size ∨ l[n].2 < l[n].1.size
    · refine (swap_state h m n hm hn hs).mono ?_
      rintro e w' ⟨rfl, hk⟩
      have e1 : dSwap l m n = (8, l) := by simp [dSwap, hb, fileAt_eq hm, fileAt_eq hn, hs]
      rw [e1]
      exact ⟨rfl, h.keep hk (by simp) (by simp), hk.mono (by simp)⟩
    · refine (swap_yes h m n hm hn (by omega) (by omega)).mono ?_
      rintro e w' ⟨rfl, hd, hk⟩
      have e1 : dSwap l m n = (0, swapped l m n) := by simp [dSwap, hb, fileAt_eq hm, fileAt_eq hn]; omega
      rw [e1]
      exact ⟨rfl, hd, hk⟩
end Go.Proofs.Ytkkbjkoikidjpaa
