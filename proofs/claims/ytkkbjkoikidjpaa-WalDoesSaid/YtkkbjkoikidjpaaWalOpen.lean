/-
  The contracts of package wal: Open.
-/
import Derived.Test.YtkkbjkoikidjpaaWalSync
namespace Go.Proofs.Ytkkbjkoikidjpaa
open Go.RowKit

theorem wFirst_spec (s : ByteArray) (h : ¬ (wFirst s).size = 0) : 1 ≤ (wFrame (wFirst s)).size ∧ (wFrame (wFirst s)).size ≤ s.size ∧ s.extract 0 (wFrame (wFirst s)).size = wFrame (wFirst s) := by
  unfold wFirst at *
  split
  · rename_i k; exact k
  · rename_i k; rw [if_neg k] at h; exact absurd rfl h
/-- Records read one behind the other. -/
def readG (first : ByteArray → ByteArray) (fsize : ByteArray → Nat) : Nat → ByteArray → List ByteArray
  | 0, _ => []
  | n + 1, s => if (first s).size = 0 then [] else first s :: readG first fsize n (s.extract (fsize (first s)) s.size)
theorem readG_fuel {first : ByteArray → ByteArray} {fsize : ByteArray → Nat} (hd : ∀ s, ¬ (first s).size = 0 → 1 ≤ fsize (first s) ∧ fsize (first s) ≤ s.size) : ∀ (n m : Nat) (s : ByteArray), s.size ≤ n → s.size ≤ m → readG first fsize n s = readG first fsize m s
  | 0, 0, _, _, _ => rfl
  | 0, m + 1, s, h1, _ => by
    by_cases h : (first s).size = 0
    · rw [readG, readG, if_pos h]
    · have := hd s h; omega
  | n + 1, 0, s, _, h2 => by
    by_cases h : (first s).size = 0
    · rw [readG, readG, if_pos h]
    · have := hd s h; omega
  | n + 1, m + 1, s, h1, h2 => by
    by_cases h : (first s).size = 0
    · rw [readG, readG, if_pos h, if_pos h]
    · have := hd s h
      rw [readG, readG, if_neg h, if_neg h, readG_fuel hd n m _ (by rw [ByteArray.size_extract]; omega) (by rw [ByteArray.size_extract]; omega)]
theorem readG_no {first : ByteArray → ByteArray} {fsize : ByteArray → Nat} {s : ByteArray} (h : (first s).size = 0) : readG first fsize s.size s = [] := by
  cases s.size with
  | zero => rfl
  | succ n => rw [readG, if_pos h]
theorem readG_yes {first : ByteArray → ByteArray} {fsize : ByteArray → Nat} (hd : ∀ s, ¬ (first s).size = 0 → 1 ≤ fsize (first s) ∧ fsize (first s) ≤ s.size) {s : ByteArray} (h : ¬ (first s).size = 0) :
    readG first fsize s.size s = first s :: readG first fsize (s.extract (fsize (first s)) s.size).size (s.extract (fsize (first s)) s.size) := by
  have h1 := hd s h
  obtain ⟨n, hn⟩ : ∃ n, s.size = n + 1 := ⟨s.size - 1, by omega⟩
  rw [readG_fuel hd s.size (n + 1) s (Nat.le_refl _) (by omega), readG, if_neg h, readG_fuel hd n _ _ (by rw [ByteArray.size_extract]; omega) (Nat.le_refl _)]
/-- The records whose frames bytes begin with. -/
def wRead (s : ByteArray) : List ByteArray := readG wFirst (fun x => (wFrame x).size) s.size s
theorem wRead_dec (s : ByteArray) (h : ¬ (wFirst s).size = 0) : 1 ≤ (wFrame (wFirst s)).size ∧ (wFrame (wFirst s)).size ≤ s.size := ⟨(wFirst_spec s h).1, (wFirst_spec s h).2.1⟩
theorem wRead_no {s : ByteArray} (h : (wFirst s).size = 0) : wRead s = [] := readG_no (first := wFirst) (fsize := fun x => (wFrame x).size) h
theorem wRead_yes {s : ByteArray} (h : ¬ (wFirst s).size = 0) : wRead s = wFirst s :: wRead (s.extract (wFrame (wFirst s)).size s.size) := readG_yes (first := wFirst) (fsize := fun x => (wFrame x).size) wRead_dec h
theorem wFirst_small (s : ByteArray) : (wFirst s).size ≤ 65535 := by
  unfold wFirst
  split
  · exact rBlob_size _
  · show 0 ≤ _; omega
theorem ba_extract2 (s : ByteArray) (a n : Nat) (h : a ≤ s.size) : (s.extract a s.size).extract n (s.size - a) = s.extract (a + n) s.size := by
  apply ba_ext
  simp only [ByteArray.data_extract, Array.extract_extract]
  rw [show min (a + (s.size - a)) s.size = s.size from by omega]
theorem wRead_step {s : ByteArray} {l : List ByteArray} {a : Nat} (hrd : wRead s = l ++ wRead (s.extract a s.size)) (ha : a ≤ s.size) (h : ¬ (wFirst (s.extract a s.size)).size = 0) :
    wRead s = (l ++ [wFirst (s.extract a s.size)]) ++ wRead (s.extract (a + (wFrame (wFirst (s.extract a s.size))).size) s.size) := by
  have h1 := wRead_yes h
  have h2 : (s.extract a s.size).size = s.size - a := by rw [ByteArray.size_extract]; omega
  rw [h2, ba_extract2 s a _ ha] at h1
  generalize wRead (s.extract (a + (wFrame (wFirst (s.extract a s.size))).size) s.size) = q at *
  generalize wFirst (s.extract a s.size) = x at *
  generalize wRead (s.extract a s.size) = y at *
  generalize wRead s = z at *
  subst h1
  rw [hrd, List.append_assoc]
  rfl
theorem wRead_end {s : ByteArray} {l : List ByteArray} {a : Nat} (hrd : wRead s = l ++ wRead (s.extract a s.size)) (h : (wFirst (s.extract a s.size)).size = 0) : wRead s = l := by
  rw [hrd, wRead_no h, List.append_nil]

/-- The records' frames, one behind the other: how many bytes. -/
def framesSize : List ByteArray → Nat
  | [] => 0
  | x :: l => (wFrame x).size + framesSize l
theorem framesSize_snoc (l : List ByteArray) (x : ByteArray) : framesSize (l ++ [x]) = framesSize l + (wFrame x).size := by
  induction l with
  | nil => simp [framesSize]
  | cons y l ih => simp [framesSize, ih]; omega

/-- A log that is opened: its records, the files. -/
def lOpen (fs : List DFile) : List ByteArray × List DFile :=
  (wRead (dRead (dCut (dSync fs 1).2 1 0).2 0), (dCut (dCut (dSync fs 1).2 1 0).2 0 (framesSize (wRead (dRead (dCut (dSync fs 1).2 1 0).2 0)))).2)

theorem DiskAt.fileSize {w : World} {D L : Nat} {fs : List DFile} {room : Nat} (h : DiskAt w D L fs room) (f : Int) : (dRead fs f).size ≤ 16777216 := by
  unfold dRead
  split
  · rename_i hb
    obtain ⟨k, rfl, hk⟩ := hasB_spec hb
    rw [fileAt_eq hk]
    have := fileSum_mem_le fs k hk
    have := h.fits
    have := h.small
    omega
  · show 0 ≤ _; omega
def OpenRel (w2 : World) (P D : Nat) (s : ByteArray) (v6 v7 : Value) (wr : World) : Prop :=
  ∃ (l : List ByteArray) (v : Value) (at_ : Nat), v6 = .int .i64 at_ ∧ v7 = .string (wFirst (s.extract at_ s.size)) ∧ at_ ≤ s.size ∧ wRead s = l ++ wRead (s.extract at_ s.size) ∧ at_ = framesSize l ∧ l.length ≤ at_ ∧ LogAt wr P D v l 0 false ∧ Keeps [] w2 wr

set_option maxRecDepth 10000 in
set_option maxHeartbeats 4000000 in
theorem open_ok {w : World} {D L : Nat} {fs : List DFile} {room : Nat} (hD : DiskAt w D L fs room) (h1 : (dSync fs 1).1 = 0) :
    Calls Try.prog 10 #[.pointer (some ⟨D, 0, none⟩)] w fun e w' => ∃ P v, e = .returned (.tuple #[.pointer (some ⟨P, 0, none⟩), .int .i64 0]) ∧ w.heap.size ≤ P ∧
      LogAt w' P D v (lOpen fs).1 (lOpen fs).1.length false ∧ DiskAt w' D L (lOpen fs).2 room ∧ Keeps [L] w w' := by
  have SC := sync_any hD 1
  have CC := fun w (h : DiskAt w D L (dSync fs 1).2 room) => cut_any h 1 0
  have RC := fun w (h : DiskAt w D L (dCut (dSync fs 1).2 1 0).2 room) => read_any h 0
  have C2 := fun w (n : Nat) (h : DiskAt w D L (dCut (dSync fs 1).2 1 0).2 room) => cut_any h 0 n
  have HO : Hid (lOpen fs = (wRead (dRead (dCut (dSync fs 1).2 1 0).2 0), (dCut (dCut (dSync fs 1).2 1 0).2 0 (framesSize (wRead (dRead (dCut (dSync fs 1).2 1 0).2 0)))).2)) := rfl
  obtain ⟨r, hr⟩ : ∃ r, r = lOpen fs := ⟨_, rfl⟩
  rw [← hr] at HO ⊢
  clear hr
  rw [h1] at SC
  generalize (dSync fs 1).2 = f1 at *
  generalize (dCut f1 1 0).1 = q1 at *
  generalize (dCut f1 1 0).2 = f2 at *
  have hlD := hD.ltD
  have hlL := hD.ltL
  go_enter Try.func10, Try.ntmps10
  go_wp2_with fail
  refine SC.mono ?_
  rintro e w1 ⟨rfl, hD1, k1⟩
  go_wp2_with fail
  refine (CC _ hD1).mono ?_
  rintro e w2 ⟨rfl, hD2, k2⟩
  have K2 := k1.trans k2
  have hsz := K2.size
  obtain ⟨P, hP⟩ : ∃ P, P = w2.heap.size := ⟨_, rfl⟩
  obtain ⟨w3, hw3⟩ : ∃ w3, w3 = w2.alloc (.cells #[.pointer (some ⟨D, 0, none⟩), .slice none 0 0, .int .i64 0, .bool false] 68) := ⟨_, rfl⟩
  have hL3 : LogAt w3 P D (.slice none 0 0) [] 0 false := ⟨by rw [hw3, hP]; exact heap_alloc_same, StrRow.nil _ _⟩
  have K3 : Keeps [] w2 w3 := by rw [hw3]; exact (Keeps.refl _ _).alloc _
  have hD3 := hD2.keep K3 (by simp) (by simp)
  clear SC CC hD1 k1 k2 hD
  go_upto_region 5 with fail
  rw [← hP, ← hw3]
  have hwP : w2.heap.size ≤ P := by omega
  have hDP : D < P := by omega
  have hLP : L < P := by omega
  clear hw3 hP
  go_wp2_with fail
  refine (RC _ hD3).mono ?_
  rintro e w4 ⟨rfl, rfl⟩
  have hss := hD2.fileSize 0
  generalize dRead f2 0 = s at *
  have FC := fun w s => first_c (w := w) s
  go_wp2_with fail
  refine (FC _ _).mono ?_
  rintro e w5 ⟨rfl, k5⟩
  have hL5 := hL3.keep k5 (by simp) (by simp)
  have K5 := K3.trans k5
  have e0 : s.extract 0 s.size = s := by have := ba_part s s.size (Nat.le_refl _); apply ba_ext; simp
  go_wp2_with fail
  go_loopw [6, 7] (fun v6 v7 wr => OpenRel w2 P D s v6 v7 wr) (fun v6 _ _ => s.size - (intOf v6).toNat)
  case atStart => exact ⟨[], _, 0, rfl, by rw [e0], Nat.zero_le _, by rw [e0]; rfl, rfl, Nat.le_refl _, hL5, K5⟩
  case round =>
    clear hL5 K5 hL3 K3 e0
    obtain ⟨l, v, at_, rfl, rfl, hat, hrd, hfs, hll, hL, K⟩ := hrel
    have hx := wFirst_spec (s.extract at_ s.size)
    have hy := wRead_step hrd hat
    have hn := wRead_end hrd
    have hsz2 : (s.extract at_ s.size).size = s.size - at_ := by rw [ByteArray.size_extract]; omega
    rw [hsz2] at hx
    obtain ⟨x, hxx⟩ : ∃ x, x = wFirst (s.extract at_ s.size) := ⟨_, rfl⟩
    rw [← hxx] at hx hy hn ⊢
    clear hrd hsz2
    have hxs : x.size ≤ 65535 := by rw [hxx]; exact wFirst_small _
    clear hxx
    by_cases h0 : x.size = 0
    · have e := str_empty h0
      subst e
      have hn2 := hn rfl
      have HN := Go.Lib.hid hn2
      have HFS := Go.Lib.hid hfs
      obtain ⟨ad, cp, hv⟩ := hL.len
      have hD4 := hD2.keep K (by simp) (by simp)
      have CC := C2 wr at_ hD4
      have hown := hL.own
      clear C2 hn hn2 hx hfs FC
      generalize (dCut f2 0 at_).1 = q2 at *
      go_wp2_with fail
      refine CC.mono ?_
      rintro e w7 ⟨rfl, hD7, k7⟩
      have hL7 := hL.keep k7 (by simp; omega) (fun g hg => by have := hown g hg; simp; omega)
      have c1 := hL7.c1
      have c2 := hL7.c2
      have z2 := hL7.fz 2
      have K7 := (K2.trans (K.sub (by simp))).trans k7
      have hL8 : LogAt (w7.setCell ⟨P, 2, none⟩ (.int .i64 l.length)) P D v l l.length false := ⟨by rw [heap_setCell_same hL7.h]; rfl, hL7.row.keep ((Keeps.refl [P] _).setCell (.inl (by simp)) _) (fun g hg => by have := hown g hg; simp; omega)⟩
      have hD8 := hD7.keep ((Keeps.refl [P] _).setCell (p := ⟨P, 2, none⟩) (.inl (by simp)) (.int .i64 l.length)) (by simp; omega) (by simp; omega)
      have K8 := K7.setCell (p := ⟨P, 2, none⟩) (.inr (by show w.heap.size ≤ P; omega)) (.int .i64 l.length)
      subst hv
      clear CC hL hL7 hD7 k7 K hD4
      go_wp2_with fail
      go_ret2
      refine ⟨P, .slice ad l.length cp, rfl, by omega, ?_⟩
      rw [HO.out]
      dsimp only
      rw [HN.out, ← HFS.out]
      exact ⟨hL8, hD8, K8⟩
    · have e3 := str_ne h0
      have hx2 := hx h0
      have hy2 := hy h0
      have FR := fun w => frame_c (w := w) x (by omega)
      obtain ⟨f, hf⟩ : ∃ f, f = wFrame x := ⟨_, rfl⟩
      rw [← hf] at FR hx2 hy2
      have HY := Go.Lib.hid hy2
      have c1 := hL.c1
      have hown := hL.own
      have hrow : StrRow (wr.alloc (.cells #[.string x] 9)) (P + 1) v l := hL.row.keep ((Keeps.refl [] wr).alloc _) (fun _ _ => by simp)
      have hP := hL.lt
      have hfx : f.size + at_ ≤ s.size := by omega
      have hf1 : 1 ≤ f.size := by omega
      have HF := Go.Lib.hid hf
      have HFS := Go.Lib.hid hfs
      clear hx hy hn hx2 hy2 hf hfs
      have hsz3 := K.size
      go_wp2_with (at_builtin; refine wpList_append_str rfl (.tmp 30) (.tmp 32) rfl (P + 1) v l rfl hrow ⟨wr.heap.size, 0, none⟩ x rfl ?c1 ?c2 ?c3 ?_)
      case c1 => simp
      case c2 => omega
      case c3 => simp; omega
      intro g cap w5 hg hw _
      have hD4 := hD2.keep K (by simp) (by simp)
      obtain ⟨d1, z1, hL6, hD6, _⟩ := log_grown hL hD4 hDP hLP (Keeps.refl _ _) hg hw
      have K6 : Keeps [] w2 (w5.setCell ⟨P, 1, none⟩ (.slice (some ⟨g, 0, none⟩) (l.length + 1) cap)) := ((K.alloc _).grown hw (fun k hk => by have := hown k hk; omega)).setCell (.inr (by show w2.heap.size ≤ P; omega)) _
      clear hrow hg hw c1 hown hD4 hL
      have wz : at_ + f.size ≤ 16777216 := by omega
      go_wp2_with fail
      refine (FR _).mono ?_
      rintro e w7 ⟨rfl, k7⟩
      have hL7 := hL6.keep k7 (by simp) (fun _ _ => by simp)
      have K7 := K6.trans k7
      clear FR hL6 K6 hD6
      obtain ⟨a2, ea2, hea2⟩ : ∃ a2 : Nat, (at_ : Int) + (f.size : Int) = (a2 : Int) ∧ a2 = at_ + f.size := ⟨at_ + f.size, by omega, rfl⟩
      have ha2 : (a2 : Int) ≤ (s.size : Int) := by omega
      have ha3 : a2 ≤ s.size := by omega
      have HA2 := Go.Lib.hid hea2
      clear hea2
      go_wp2_with fail
      refine (FC _ _).mono ?_
      rintro e w8 ⟨rfl, k8⟩
      have hL8 := hL7.keep k8 (by simp) (fun _ _ => by simp)
      have K8 := K7.trans k8
      clear FC hL7 K7
      go_wp2_with fail
      go_roundw
      case rel =>
        have e1 := HA2.out
        have e2 := HF.out
        have e3 := HFS.out
        have e4 := HY.out
        refine ⟨l ++ [x], _, a2, by go_num, rfl, ha3, ?_, ?_, ?_, hL8, K8⟩
        · rw [e1]; exact e4
        · rw [framesSize_snoc, ← e2, ← e3, e1]
        · rw [List.length_append]; show l.length + 1 ≤ a2; omega
      case measure =>
        have e1 := HA2.out
        simp [intOf]; omega

theorem open_no {w : World} {D L : Nat} {fs : List DFile} {room : Nat} (hD : DiskAt w D L fs room) (h1 : hasB fs.length 1 = false) :
    Calls Try.prog 10 #[.pointer (some ⟨D, 0, none⟩)] w fun e w' => e = .returned (.tuple #[.pointer none, .int .i64 1]) ∧ DiskAt w' D L fs room ∧ Keeps [L] w w' := by
  have SC := sync_any hD 1
  have e1 : dSync fs 1 = (1, fs) := by unfold dSync; rw [h1]; rfl
  rw [e1] at SC
  dsimp only at SC
  go_enter Try.func10, Try.ntmps10
  go_wp2_with fail
  refine SC.mono ?_
  rintro e w1 ⟨rfl, hD1, k1⟩
  go_wp2
  go_ret2
  exact ⟨rfl, hD1, k1⟩
theorem reopen_ok {w : World} {D L : Nat} {fs : List DFile} {room : Nat} (hD : DiskAt w D L fs room) (h1 : (dSync fs 1).1 = 0) :
    Calls Try.prog 16 #[.pointer (some ⟨D, 0, none⟩)] w fun e w' => ∃ P v, e = .returned (.tuple #[.pointer (some ⟨P, 0, none⟩), .int .i64 0]) ∧ w.heap.size ≤ P ∧
      LogAt w' P D v (lOpen fs).1 (lOpen fs).1.length false ∧ DiskAt w' D L (lOpen fs).2 room ∧ Keeps [L] w w' := by
  have OC := open_ok hD h1
  generalize lOpen fs = r at *
  go_enter Try.func16, Try.ntmps16
  go_wp2_with fail
  refine OC.mono ?_
  rintro e w1 ⟨P, v, rfl, hP, hL, hD1, k1⟩
  go_wp2
  go_ret2
  exact ⟨P, v, rfl, hP, hL, hD1, k1⟩
end Go.Proofs.Ytkkbjkoikidjpaa
