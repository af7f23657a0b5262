/-
  A log's calls on a disk of two files: the plain law. Nothing here speaks of the program.
-/
import Derived.Test.YtkkbjkoikidjpaaWalTwo
namespace Go.Proofs.Ytkkbjkoikidjpaa
open Go.RowKit

theorem catF_snoc (l : List ByteArray) (s : ByteArray) : catF (l ++ [s]) = catF l ++ wFrame s := by rw [catF_append, catF, catF, ba_append_nil]
/-- A record put behind: three ways. -/
theorem LogOk.append {l : List ByteArray} {sure : Nat} {a b : DFile} (h : LogOk l sure a b) (room : Nat) (s : ByteArray) :
    (¬ RecOk s ∧ lAppend [a, b] room l false s = (1, [a, b], l)) ∨
    (RecOk s ∧ room - a.1.size < (wFrame s).size ∧ lAppend [a, b] room l false s = (9, [a, b], l)) ∨
    (RecOk s ∧ (wFrame s).size ≤ room - a.1.size ∧ lAppend [a, b] room l false s = (0, [(a.1 ++ wFrame s, a.2), b], l ++ [s]) ∧ LogOk (l ++ [s]) sure (a.1 ++ wFrame s, a.2) b) := by
  obtain ⟨hr, hf, hle, hp, hp2, hn⟩ := h
  by_cases hs : RecOk s
  · have hz := (recOk_iff s).1 hs
    have hb : b.1.size = 0 := by rw [hn]; rfl
    have e : lAppend [a, b] room l false s = ((dAppend [a, b] room 0 (wFrame s)).1, (dAppend [a, b] room 0 (wFrame s)).2, if (dAppend [a, b] room 0 (wFrame s)).1 = 0 then l ++ [s] else l) := by
      unfold lAppend; rw [if_neg (by simp), if_neg hz]
    rw [e, two_append0, hb, Nat.add_zero]
    by_cases hroom : (wFrame s).size ≤ room - a.1.size
    · rw [if_pos hroom]
      refine .inr (.inr ⟨hs, hroom, rfl, ⟨?_, ?_, by simp; omega, ?_, ?_, hn⟩⟩)
      · intro x hx
        rcases List.mem_append.1 hx with hx | hx
        · exact hr x hx
        · simp at hx; rw [hx]; exact hs
      · show a.1 ++ wFrame s = _; rw [hf, catF_snoc]
      · rw [List.take_append_of_le_length hle]; exact hp
      · show a.2 ≤ (a.1 ++ wFrame s).size; rw [ByteArray.size_append]; omega
    · rw [if_neg hroom]
      exact .inr (.inl ⟨hs, by omega, rfl⟩)
  · have hz : (wFrame s).size = 0 := by
      apply Decidable.byContradiction
      intro k; exact hs ((recOk_iff s).2 k)
    exact .inl ⟨hs, by unfold lAppend; rw [if_neg (by simp), if_pos hz]⟩
theorem append_halted (fs : List DFile) (room : Nat) (l : List ByteArray) (s : ByteArray) : lAppend fs room l true s = (8, fs, l) := rfl

theorem LogOk.sync {l : List ByteArray} {sure : Nat} {a b : DFile} (h : LogOk l sure a b) (n : Int) : lSync [a, b] l n false = (0, (l.length : Int), [(a.1, a.1.size), b]) ∧ LogOk l l.length (a.1, a.1.size) b := by
  refine ⟨by unfold lSync; rw [if_neg (by simp), two_sync0], ⟨h.recs, h.file, Nat.le_refl _, ?_, Nat.le_refl _, h.none⟩⟩
  show framesSize (l.take l.length) ≤ a.1.size
  rw [List.take_length, h.file, catF_size]; exact Nat.le_refl _

/-- The steps of a log written anew, on a disk of two files. -/
theorem run_two (a : DFile) (room : Nat) (all : ByteArray) (ha : a.1.size ≤ a.2) (hroom : all.size ≤ room - a.1.size) :
    rRun room all [a, (⟨#[]⟩, 0)] 1 = (0, [a, (all, 0)]) ∧ rRun room all [a, (⟨#[]⟩, 0)] 2 = (0, [a, (all, all.size)]) ∧ rRun room all [a, (⟨#[]⟩, 0)] 3 = (0, [(all, all.size), a]) ∧ rRun room all [a, (⟨#[]⟩, 0)] 4 = (0, [(all, all.size), (⟨#[]⟩, 0)]) := by
  have h0 : rRun room all [a, (⟨#[]⟩, 0)] 0 = (0, [a, (⟨#[]⟩, 0)]) := rfl
  have h1 : rRun room all [a, (⟨#[]⟩, 0)] 1 = (0, [a, (all, 0)]) := by
    rw [rRun_succ (by rw [h0]), h0]
    show dAppend [a, (⟨#[]⟩, 0)] room 1 all = _
    rw [two_append1, if_pos (by show all.size ≤ room - (a.1.size + 0); omega), ba_nil_append]
  have h2 : rRun room all [a, (⟨#[]⟩, 0)] 2 = (0, [a, (all, all.size)]) := by
    rw [rRun_succ (by rw [h1]), h1]
    show dSync [a, (all, 0)] 1 = _
    rw [two_sync1]
  have h3 : rRun room all [a, (⟨#[]⟩, 0)] 3 = (0, [(all, all.size), a]) := by
    rw [rRun_succ (by rw [h2]), h2]
    show dSwap [a, (all, all.size)] 0 1 = _
    rw [two_swap _ _ ha (Nat.le_refl _)]
  have h4 : rRun room all [a, (⟨#[]⟩, 0)] 4 = (0, [(all, all.size), (⟨#[]⟩, 0)]) := by
    rw [rRun_succ (by rw [h3]), h3]
    show dCut [(all, all.size), a] 1 0 = _
    rw [two_cut1]
  exact ⟨h1, h2, h3, h4⟩
theorem run_full (a : DFile) (room : Nat) (all : ByteArray) (hroom : ¬ all.size ≤ room - a.1.size) (i : Nat) : rRun room all [a, (⟨#[]⟩, 0)] (i + 1) = (9, [a, (⟨#[]⟩, 0)]) := by
  have h0 : rRun room all [a, (⟨#[]⟩, 0)] 0 = (0, [a, (⟨#[]⟩, 0)]) := rfl
  have h1 : rRun room all [a, (⟨#[]⟩, 0)] 1 = (9, [a, (⟨#[]⟩, 0)]) := by
    rw [rRun_succ (by rw [h0]), h0]
    show dAppend [a, (⟨#[]⟩, 0)] room 1 all = _
    rw [two_append1, if_neg (by show ¬ all.size ≤ room - (a.1.size + 0); omega)]
  have h2 := rRun_stop (room := room) (all := all) (fs := [a, (⟨#[]⟩, 0)]) (i := 1) (by rw [h1]; show ¬ (9 : Int) = 0; decide) i
  rw [show i + 1 = 1 + i from Nat.add_comm _ _, h2, h1]

/-- A log written anew whole. -/
theorem LogOk.anew {l recs : List ByteArray} {a b : DFile} (h : LogOk l l.length a b) (room : Nat) (n : Int) (hn : 4 ≤ n) (hr : ∀ x ∈ recs, RecOk x) (hroom : (catF recs).size ≤ room - a.1.size) :
    lRewrite [a, b] room l l.length false recs n = (0, [(catF recs, (catF recs).size), (⟨#[]⟩, 0)], recs, (recs.length : Int), false) ∧ LogOk recs recs.length (catF recs, (catF recs).size) (⟨#[]⟩, 0) := by
  have hb := h.none
  subst hb
  have ha : a.1.size ≤ a.2 := by have := h.part; rw [List.take_length] at this; rw [h.file, catF_size]; exact this
  have hok : okB recs = true := (okB_iff recs).2 (fun x hx => (recOk_iff x).1 (hr x hx))
  obtain ⟨_, _, _, h4⟩ := run_two a room (catF recs) ha hroom
  have hm : (min n 4).toNat = 4 := by omega
  refine ⟨?_, ⟨hr, rfl, Nat.le_refl _, ?_, Nat.le_refl _, rfl⟩⟩
  · unfold lRewrite
    rw [if_neg (by simp), if_neg (by rw [hok]; simp; omega), hm, h4, if_neg (by simp), if_neg (by omega)]
  · show framesSize (recs.take recs.length) ≤ (catF recs).size
    rw [List.take_length, catF_size]; exact Nat.le_refl _

/-- A log that was cut off while it was written anew: file 0 is its records' frames or those that were laid, all sure. -/
structure HaltOk (l laid : List ByteArray) (a b : DFile) : Prop where
  recs : ∀ x ∈ l, RecOk x
  recs2 : ∀ x ∈ laid, RecOk x
  file : a.1 = catF l ∨ a.1 = catF laid
  sure : a.2 = a.1.size
  part : b.2 ≤ b.1.size
theorem HaltOk.crash {l laid : List ByteArray} {a b : DFile} (h : HaltOk l laid a b) (keep : List Int) :
    ∃ r, (r = l ∨ r = laid) ∧ lOpen (dCrash [a, b] keep) = (r, [(catF r, (catF r).size), (⟨#[]⟩, 0)]) ∧ LogOk r r.length (catF r, (catF r).size) (⟨#[]⟩, 0) := by
  obtain ⟨r, hr, hrr, hf⟩ : ∃ r, (r = l ∨ r = laid) ∧ (∀ x ∈ r, RecOk x) ∧ a.1 = catF r := by
    rcases h.file with e | e
    · exact ⟨l, .inl rfl, h.recs, e⟩
    · exact ⟨laid, .inr rfl, h.recs2, e⟩
  have hN : crashN keep 0 a = a.1.size := by
    have h1 := crashN_le keep 0 a (by rw [h.sure]; exact Nat.le_refl _)
    have h2 : a.2 ≤ crashN keep 0 a := by unfold crashN; omega
    have := h.sure
    omega
  have hex : a.1.extract 0 a.1.size = a.1 := by apply ba_ext; simp
  have e0 : crashF keep 0 a = (a.1, a.1.size) := by unfold crashF; rw [hN, hex]
  have hrd : wRead (catF r) = r := by
    have := wRead_app r hrr ⟨#[]⟩
    rw [ba_append_nil, wRead_no (s := ⟨#[]⟩) (wFirst_none rfl), List.append_nil] at this
    exact this
  have hex2 : (catF r).extract 0 (catF r).size = catF r := by apply ba_ext; simp
  refine ⟨r, hr, ?_, ⟨hrr, rfl, Nat.le_refl _, ?_, Nat.le_refl _, rfl⟩⟩
  · rw [two_crash, two_open, e0]
    dsimp only
    rw [hf, hrd, ← catF_size, hex2]
  · show framesSize (r.take r.length) ≤ (catF r).size
    rw [List.take_length, catF_size]; exact Nat.le_refl _

/-- A log is written anew, so many steps far: three ways. -/
theorem LogOk.rewrite {l : List ByteArray} {sure : Nat} {a b : DFile} (h : LogOk l sure a b) (room : Nat) (recs : List ByteArray) (n : Int) :
    (∃ e : Int, ¬ e = 0 ∧ lRewrite [a, b] room l sure false recs n = (e, [a, b], l, (sure : Int), false)) ∨
    ((∀ x ∈ recs, RecOk x) ∧ lRewrite [a, b] room l sure false recs n = (0, [(catF recs, (catF recs).size), (⟨#[]⟩, 0)], recs, (recs.length : Int), false) ∧ LogOk recs recs.length (catF recs, (catF recs).size) (⟨#[]⟩, 0)) ∨
    (∃ a' b', sure = l.length ∧ lRewrite [a, b] room l sure false recs n = (8, [a', b'], l, (sure : Int), true) ∧ HaltOk l recs a' b') := by
  by_cases hs : sure < l.length
  · exact .inl ⟨8, by decide, by unfold lRewrite; rw [if_pos (.inr (by omega))]⟩
  have hse : sure = l.length := by have := h.le; omega
  subst hse
  by_cases hb : okB recs = false ∨ n < 0
  · exact .inl ⟨1, by decide, by unfold lRewrite; rw [if_neg (by simp), if_pos hb]⟩
  have hok : okB recs = true := by
    cases hk : okB recs with
    | true => rfl
    | false => exact absurd (.inl hk) hb
  have hr : ∀ x ∈ recs, RecOk x := fun x hx => (recOk_iff x).2 ((okB_iff recs).1 hok x hx)
  have hn0 : 0 ≤ n := by
    apply Decidable.byContradiction
    intro k; exact hb (.inr (by omega))
  have hb0 := h.none
  have ha : a.1.size ≤ a.2 := by have := h.part; rw [List.take_length] at this; rw [h.file, catF_size]; exact this
  have ha2 : a.2 = a.1.size := by have := h.part2; omega
  have hz : lRewrite [a, b] room l l.length false recs n = if ¬ (rRun room (catF recs) [a, b] (min n 4).toNat).1 = 0 then ((rRun room (catF recs) [a, b] (min n 4).toNat).1, (rRun room (catF recs) [a, b] (min n 4).toNat).2, l, (l.length : Int), false)
      else if n < 4 then (8, (rRun room (catF recs) [a, b] (min n 4).toNat).2, l, (l.length : Int), true) else (0, (rRun room (catF recs) [a, b] (min n 4).toNat).2, recs, (recs.length : Int), false) := by
    unfold lRewrite
    rw [if_neg (by simp), if_neg hb]
  by_cases hroom : (catF recs).size ≤ room - a.1.size
  · by_cases hn4 : 4 ≤ n
    · exact .inr (.inl ⟨hr, h.anew room n hn4 hr hroom⟩)
    · subst hb0
      obtain ⟨r1, r2, r3, _⟩ := run_two a room (catF recs) ha hroom
      have r0 : rRun room (catF recs) [a, (⟨#[]⟩, 0)] 0 = (0, [a, (⟨#[]⟩, 0)]) := rfl
      refine .inr (.inr ?_)
      rcases (by omega : n = 0 ∨ n = 1 ∨ n = 2 ∨ n = 3) with rfl | rfl | rfl | rfl
      · refine ⟨a, (⟨#[]⟩, 0), rfl, ?_, ⟨h.recs, hr, .inl h.file, ha2, Nat.le_refl _⟩⟩
        rw [hz, show (min (0 : Int) 4).toNat = 0 from rfl, r0, if_neg (by simp), if_pos (by decide)]
      · refine ⟨a, (catF recs, 0), rfl, ?_, ⟨h.recs, hr, .inl h.file, ha2, Nat.zero_le _⟩⟩
        rw [hz, show (min (1 : Int) 4).toNat = 1 from rfl, r1, if_neg (by simp), if_pos (by decide)]
      · refine ⟨a, (catF recs, (catF recs).size), rfl, ?_, ⟨h.recs, hr, .inl h.file, ha2, Nat.le_refl _⟩⟩
        rw [hz, show (min (2 : Int) 4).toNat = 2 from rfl, r2, if_neg (by simp), if_pos (by decide)]
      · refine ⟨(catF recs, (catF recs).size), a, rfl, ?_, ⟨h.recs, hr, .inr rfl, rfl, by omega⟩⟩
        rw [hz, show (min (3 : Int) 4).toNat = 3 from rfl, r3, if_neg (by simp), if_pos (by decide)]
  · subst hb0
    by_cases hn1 : n = 0
    · subst hn1
      have r0 : rRun room (catF recs) [a, (⟨#[]⟩, 0)] 0 = (0, [a, (⟨#[]⟩, 0)]) := rfl
      refine .inr (.inr ⟨a, (⟨#[]⟩, 0), rfl, ?_, ⟨h.recs, hr, .inl h.file, ha2, Nat.le_refl _⟩⟩)
      rw [hz, show (min (0 : Int) 4).toNat = 0 from rfl, r0, if_neg (by simp), if_pos (by decide)]
    · obtain ⟨i, hi⟩ : ∃ i : Nat, (min n 4).toNat = i + 1 := ⟨(min n 4).toNat - 1, by omega⟩
      refine .inl ⟨9, by decide, ?_⟩
      rw [hz, hi, run_full a room (catF recs) hroom i, if_pos (by show ¬ (9 : Int) = 0; decide)]
end Go.Proofs.Ytkkbjkoikidjpaa
