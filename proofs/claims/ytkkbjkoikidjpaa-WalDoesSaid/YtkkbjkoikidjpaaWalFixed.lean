/-
  turnstilelaw14's fixed calls.
-/
import Derived.Test.YtkkbjkoikidjpaaWalOps
import Derived.Test.YtkkbjkoikidjpaaWalSame
namespace Go.Proofs.Ytkkbjkoikidjpaa
open Go.RowKit

theorem step_app {l : List ByteArray} {sure : Nat} {a b : DFile} (h : LogOk l sure a b) (s : ByteArray) (hs : RecOk s) (hroom : (wFrame s).size ≤ 1000 - a.1.size) :
    lAppend [a, b] 1000 l false s = (0, [(a.1 ++ wFrame s, a.2), b], l ++ [s]) ∧ LogOk (l ++ [s]) sure (a.1 ++ wFrame s, a.2) b := by
  rcases h.append 1000 s with ⟨h1, _⟩ | ⟨_, h1, _⟩ | ⟨_, _, e, ok⟩
  · exact absurd hs h1
  · omega
  · exact ⟨e, ok⟩

theorem step_halt {l recs : List ByteArray} {a : DFile} (h : LogOk l l.length a (⟨#[]⟩, 0)) (room : Nat) (hr : ∀ x ∈ recs, RecOk x) (hroom : (catF recs).size ≤ room - a.1.size) :
    lRewrite [a, (⟨#[]⟩, 0)] room l l.length false recs 3 = (8, [(catF recs, (catF recs).size), a], l, (l.length : Int), true) := by
  have ha : a.1.size ≤ a.2 := by have := h.part; rw [List.take_length] at this; rw [h.file, catF_size]; exact this
  have hok : okB recs = true := (okB_iff recs).2 (fun x hx => (recOk_iff x).1 (hr x hx))
  obtain ⟨_, _, r3, _⟩ := run_two a room (catF recs) ha hroom
  unfold lRewrite
  rw [if_neg (by simp), if_neg (by rw [hok]; simp), show (min (3 : Int) 4).toNat = 3 from rfl, r3, if_neg (by simp), if_pos (by decide)]
theorem step_no (fs : List DFile) (room : Nat) (l : List ByteArray) : lAppend fs room l false ⟨#[]⟩ = (1, fs, l) := by
  unfold lAppend
  rw [if_neg (by simp), if_pos (by rw [wFrame, if_neg (fun k => Nat.not_succ_le_zero _ k.1)]; rfl)]
set_option maxRecDepth 100000 in
set_option maxHeartbeats 20000000 in
theorem fixed_c {w : World} : Calls Try.prog 20 #[] w fun e w' => e = .returned (.bool true) ∧ Keeps [] w w' := by
  have ra : RecOk ⟨#[97]⟩ := ⟨by decide, by decide⟩
  have rb : RecOk ⟨#[98]⟩ := ⟨by decide, by decide⟩
  have sa : (wFrame ⟨#[97]⟩).size = 11 := wFrame_size ra
  have sb : (wFrame ⟨#[98]⟩).size = 11 := wFrame_size rb
  have N2 := fun w => new_ok (w := w) 2 1000 (by decide)
  have N1 := fun w => new_ok (w := w) 1 1000 (by decide)
  have HSA := Go.Lib.hid sa
  have HSB := Go.Lib.hid sb
  have rx : RecOk ⟨#[120]⟩ := ⟨by decide, by decide⟩
  have ry : RecOk ⟨#[121]⟩ := ⟨by decide, by decide⟩
  have rq : RecOk ⟨#[113]⟩ := ⟨by decide, by decide⟩
  have HXY := Go.Lib.hid (show (∀ x ∈ [(⟨#[120]⟩ : ByteArray), ⟨#[121]⟩], RecOk x) ∧ (catF [⟨#[120]⟩, ⟨#[121]⟩]).size = 22 from by
    refine ⟨fun x hx => ?_, ?_⟩
    · simp at hx; rcases hx with rfl | rfl
      · exact rx
      · exact ry
    · rw [catF_size]
      show (wFrame ⟨#[120]⟩).size + ((wFrame ⟨#[121]⟩).size + 0) = 22
      rw [wFrame_size rx, wFrame_size ry]; decide)
  have HQ := Go.Lib.hid (show (∀ x ∈ [(⟨#[113]⟩ : ByteArray)], RecOk x) ∧ (catF [⟨#[113]⟩]).size = 11 from by
    refine ⟨fun x hx => by simp at hx; rw [hx]; exact rq, ?_⟩
    rw [catF_size]
    show (wFrame ⟨#[113]⟩).size + 0 = 11
    rw [wFrame_size rq]; decide)
  clear rx ry rq
  have HRA := Go.Lib.hid ra
  have HRB := Go.Lib.hid rb
  clear sa sb ra rb
  go_enter Try.func20, Try.ntmps20
  go_wp2_with fail
  refine (N2 _).mono ?_
  rintro e w1 ⟨D, L, rfl, hD1, k1, hDw, hLw⟩
  go_wp2_with fail
  refine (N1 _).mono ?_
  rintro e w2 ⟨D', L', rfl, hE2, k2, hDw', hLw'⟩
  have hD2 := hD1.keep k2 (by simp) (by simp)
  have hlD := hD1.ltD
  have hlL := hD1.ltL
  have O1 := fun w (h : DiskAt w D' L' (List.replicate 1 (ByteArray.empty, 0)) 1000) => open_no h rfl
  have K2 := k1.trans k2
  have hs2 := k2.size
  clear N1 N2 k1 k2 hD1
  go_wp2_with fail
  refine (O1 _ hE2).mono ?_
  rintro e w3 ⟨rfl, hE3, k3⟩
  have hD3 := hD2.keep k3 (by simp; omega) (by simp; omega)
  have K3 := K2.new k3 (by simp; omega)
  have hs3 := k3.size
  have O2 := open_ok hD3 rfl
  rw [show lOpen (List.replicate 2 (ByteArray.empty, 0)) = ([], [(⟨#[]⟩, 0), (⟨#[]⟩, 0)]) from by
    show lOpen [(ByteArray.empty, 0), (ByteArray.empty, 0)] = _
    rw [two_open, wRead_no (s := ByteArray.empty) (wFirst_none rfl)]
    show ([], [(ByteArray.empty.extract 0 0, 0), (⟨#[]⟩, 0)]) = _
    rw [ba_none]] at O2
  dsimp only at O2
  clear O1 hE2 hE3 k3 K2 hD2 hD3
  go_wp2_with fail
  refine O2.mono ?_
  rintro e w4 ⟨P, v, rfl, hP, hL4, hD4, k4⟩
  replace hL4 : LogAt w4 P D v [] 0 false := hL4
  have ok4 : LogOk [] 0 (⟨#[]⟩, 0) (⟨#[]⟩, 0) := ⟨fun x hx => by simp at hx, rfl, Nat.le_refl _, Nat.le_refl _, Nat.le_refl _, rfl⟩
  have hDP : D < P := by omega
  have hLP : L < P := by omega
  have K4 := K3.new k4 (by simp; omega)
  obtain ⟨e5, ok5⟩ := step_app ok4 ⟨#[97]⟩ HRA.out (by rw [HSA.out]; decide)
  dsimp only at e5 ok5
  rw [ba_nil_append, List.nil_append] at e5 ok5
  have A5 := append_l hL4 hD4 hDP hLP ⟨#[97]⟩ (by decide) (by decide)
  rw [e5] at A5
  dsimp only at A5
  clear e5 O2 K3 k4 ok4
  go_wp2_with fail
  refine A5.mono ?_
  rintro e w5 ⟨rfl, v5, hL5, hD5, k5, ho5⟩
  have hPw : w.heap.size ≤ P := by omega
  have hLw2 : w.heap.size ≤ L := hLw
  have K5 : Keeps [] w w5 := K4.new k5 (by
    intro x hx
    simp at hx
    rcases hx with rfl | rfl | hx
    · exact hPw
    · exact hLw2
    · have := hL4.own x hx; omega)
  have A6 := append_l hL5 hD5 hDP hLP ⟨#[]⟩ (by decide) (by decide)
  rw [step_no] at A6
  dsimp only at A6
  clear A5 hL4 hD4 K4 k5 ho5
  go_wp2_with fail
  refine A6.mono ?_
  rintro e w6 ⟨rfl, v6, hL6, hD6, k6, _⟩
  have K6 : Keeps [] w w6 := K5.new k6 (by
    intro x hx
    simp at hx
    rcases hx with rfl | rfl | hx
    · exact hPw
    · exact hLw2
    · have := hL5.own x hx; omega)
  have z6 : RowOf (w6.alloc (.cells #[.string ⟨#[122]⟩] 9)) (.slice (some ⟨w6.heap.size, 0, none⟩) 1 1) [⟨#[122]⟩] :=
    .inr ⟨w6.heap.size, 0, 1, rfl, by simp, fun i hi => by obtain rfl : i = 0 := by simpa using hi
                                                           simp⟩
  have al6 := (Keeps.refl [] w6).alloc (.cells #[.string ⟨#[122]⟩] 9)
  have hP6 := hL6.lt
  have hL6' := hD6.ltL
  have R7 := rewrite_c (hL6.keep al6 (by simp) (fun _ _ => by simp)) (hD6.keep al6 (by simp) (by simp)) hDP hLP z6 (by decide) (by intro x hx; simp at hx; subst hx; decide) (by intro b o c k e; cases e; omega) 4 ⟨by decide, by decide⟩
  rw [show lRewrite [(wFrame ⟨#[97]⟩, 0), (⟨#[]⟩, 0)] 1000 [⟨#[97]⟩] 0 false [⟨#[122]⟩] 4 = (8, [(wFrame ⟨#[97]⟩, 0), (⟨#[]⟩, 0)], [⟨#[97]⟩], 0, false) from if_pos (.inr (by decide))] at R7
  dsimp only at R7
  clear A6 hL5 hD5 K5 k6
  go_wp2_with fail
  refine R7.mono ?_
  rintro e w7 ⟨rfl, v7, hL7, hD7, k7, _⟩
  have K7 : Keeps [] w w7 := (K6.alloc _).new k7 (by
    intro x hx
    simp at hx
    rcases hx with rfl | rfl
    · exact hPw
    · exact hLw2)
  obtain ⟨e8, ok8⟩ := ok5.sync 0
  have S8 := lsync_c hL7 hD7 hDP hLP
  rw [e8] at S8
  dsimp only at S8
  clear R7 hL6 hD6 K6 k7 z6 al6 e8 ok5
  go_wp2_with fail
  refine S8.mono ?_
  rintro e w8 ⟨rfl, hL8, hD8, k8⟩
  have K8 : Keeps [] w w8 := K7.new k8 (by
    intro x hx
    simp at hx
    rcases hx with rfl | rfl
    · exact hPw
    · exact hLw2)
  replace hL8 : LogAt w8 P D v7 [⟨#[97]⟩] 1 false := hL8
  obtain ⟨e9, ok9⟩ := step_app ok8 ⟨#[98]⟩ HRB.out (by show (wFrame ⟨#[98]⟩).size ≤ 1000 - (wFrame ⟨#[97]⟩).size; rw [HSA.out, HSB.out]; decide)
  have A9 := append_l hL8 hD8 hDP hLP ⟨#[98]⟩ (by decide) (by decide)
  rw [e9] at A9
  dsimp only at A9 ok9
  clear S8 hL7 hD7 K7 k8 e9
  go_wp2_with fail
  refine A9.mono ?_
  rintro e w9 ⟨rfl, v9, hL9, hD9, k9, _⟩
  have K9 : Keeps [] w w9 := K8.new k9 (by
    intro x hx
    simp at hx
    rcases hx with rfl | rfl | hx
    · exact hPw
    · exact hLw2
    · have := hL8.own x hx; omega)
  clear A9 hL8 hD8 K8 k9
  go_wp2_with fail
  refine (sure_l hL9).mono ?_
  rintro e w' ⟨rfl, rfl⟩
  have i10 : IntsAt (w9.alloc (.cells #[.int .i64 3] 3)) (· = w9.heap.size) (some ⟨w9.heap.size, 0, none⟩) [3] :=
    ⟨fun i hi => ⟨w9.heap.size, 0, rfl, rfl, by obtain rfl : i = 0 := by simpa using hi
                                                simp⟩, by decide, fun i hi => by obtain rfl : i = 0 := by simpa using hi
                                                                                 exact ⟨by show -9223372036854775808 ≤ (3 : Int); decide, by show (3 : Int) ≤ _; decide⟩⟩
  have hlL9 := hD9.ltL
  have hlD9 := hD9.ltD
  have C10 := crash_any (hD9.keep ((Keeps.refl [] w9).alloc (.cells #[.int .i64 3] 3)) (by simp) (by simp)) (some ⟨w9.heap.size, 0, none⟩) 1 [3] i10 (by omega)
  go_wp2_with fail
  refine C10.mono ?_
  rintro e w10 ⟨rfl, hD10, k10⟩
  have K10 : Keeps [] w w10 := (K9.alloc _).new k10 (by
    intro x hx
    simp at hx
    rw [hx]
    exact hLw2)
  obtain ⟨k, hk1, hk2, hk3, ho1, a', b', ho2, ok11⟩ := ok9.crash [3]
  have hk : k = 1 := by
    have h2 : k ≠ 2 := by
      rintro rfl
      have h3 : crashN [3] 0 (wFrame ⟨#[97]⟩ ++ wFrame ⟨#[98]⟩, (wFrame ⟨#[97]⟩).size) ≤ 14 := by
        unfold crashN
        dsimp only
        rw [HSA.out]
        simp
        omega
      have h4 : framesSize (([⟨#[97]⟩] ++ [⟨#[98]⟩] : List ByteArray).take 2) = 22 := by
        show (wFrame ⟨#[97]⟩).size + ((wFrame ⟨#[98]⟩).size + 0) = 22
        rw [HSA.out, HSB.out]
      omega
    have : k ≤ 2 := hk2
    have : 1 ≤ k := hk1
    omega
  subst hk
  have O11 := open_ok hD10 (by rw [two_crash, two_sync1])
  rw [ho2] at O11
  rw [ho1] at O11
  clear C10 hL9 hD9 K9 k10 i10
  go_wp2_with fail
  refine O11.mono ?_
  rintro e w11 ⟨P2, v11, rfl, hP2, hL11, hD11, k11⟩
  replace hL11 : LogAt w11 P2 D v11 [⟨#[97]⟩] 1 false := hL11
  replace ok11 : LogOk [⟨#[97]⟩] 1 a' b' := ok11
  have hs10 := K10.size
  have hlP11 := hL11.lt
  have hown11 := hL11.own
  have hlL11 := hD11.ltL
  have hDP2 : D < P2 := by have := hD10.ltD; omega
  have hLP2 : L < P2 := by have := hD10.ltL; omega
  have hPw2 : w.heap.size ≤ P2 := by omega
  have K11 : Keeps [] w w11 := K10.new k11 (by
    intro x hx
    simp at hx
    rw [hx]
    exact hLw2)
  clear O11 hD10 K10 k11 ho1 ho2 hk1 hk2 hk3 ok9
  go_wp2_with fail
  refine (records_l hL11 (by decide)).mono ?_
  rintro e w12 ⟨va, rfl, hva, k12⟩
  have hL12 := hL11.keep k12 (by simp) (fun _ _ => by simp)
  have hD12 := hD11.keep k12 (by simp) (by simp)
  have K12 := K11.trans k12
  have xy : RowOf (w12.alloc (.cells #[.string ⟨#[120]⟩, .string ⟨#[121]⟩] 9)) (.slice (some ⟨w12.heap.size, 0, none⟩) 2 2) [⟨#[120]⟩, ⟨#[121]⟩] :=
    .inr ⟨w12.heap.size, 0, 2, rfl, by simp, fun i hi => by
      match i, hi with
      | 0, _ => simp
      | 1, _ => simp⟩
  have al12 := (Keeps.refl [] w12).alloc (.cells #[.string ⟨#[120]⟩, .string ⟨#[121]⟩] 9)
  have hlP12 := hL12.lt
  have hlL12 := hD12.ltL
  obtain ⟨e13, ok13⟩ := ok11.anew 1000 4 (by decide) HXY.out.1 (by rw [HXY.out.2, ok11.file]; show 22 ≤ 1000 - ((wFrame ⟨#[97]⟩) ++ ⟨#[]⟩).size; rw [ba_append_nil, HSA.out]; decide)
  have R13 := rewrite_c (hL12.keep al12 (by simp) (fun _ _ => by simp)) (hD12.keep al12 (by simp) (by simp)) hDP2 hLP2 xy (by decide) (by intro x hx; have := (HXY.out.1 x hx).2; omega) (by intro b o c k e; cases e; omega) 4 ⟨by decide, by decide⟩
  rw [show (1 : Int) = (([⟨#[97]⟩] : List ByteArray).length : Int) from rfl, e13] at R13
  dsimp only at R13
  clear e13 hL11 hD11 K11
  go_wp2_with fail
  refine R13.mono ?_
  rintro e w13 ⟨rfl, v13, hL13, hD13, k13, hf13⟩
  replace hL13 : LogAt w13 P2 D v13 [⟨#[120]⟩, ⟨#[121]⟩] 2 false := hL13
  have hs11 := k12.size
  have hs13 : w12.heap.size ≤ w13.heap.size := by have h1 := k13.size; simp at h1; omega
  have hva13 := (hva.keep al12 (fun _ _ => by simp)).keep k13 (fun g hg => by have := (World.ownsRow.lt hva g hg).1; simp; omega)
  have K13 : Keeps [] w w13 := (K12.alloc _).new k13 (by
    intro x hx
    simp at hx
    rcases hx with rfl | rfl
    · exact hPw2
    · exact hLw2)
  have hva12 := (World.ownsRow.lt hva)
  have d13 : ∀ g, v13.ownBlock = some g → g < w11.heap.size ∨ w12.heap.size ≤ g := fun g hg => by
    rcases hf13 with e | e
    · rw [e] at hg; exact .inl (hown11 g hg).2
    · have h1 := e g hg; simp at h1; exact .inr (by omega)
  have hown13 := hL13.own
  have hlP13 := hL13.lt
  have hlL13 := hD13.ltL
  clear R13 hL12 hD12 K12 k13 hf13 hva ok11 al12 xy
  go_wp2_with fail
  refine (records_l hL13 (by decide)).mono ?_
  rintro e w14 ⟨vb, rfl, hvb, k14⟩
  have hL14 := hL13.keep k14 (by simp) (fun _ _ => by simp)
  have hD14 := hD13.keep k14 (by simp) (by simp)
  have K14 := K13.trans k14
  have hva14 := hva13.keep k14 (fun _ _ => by simp)
  have qq : RowOf (w14.alloc (.cells #[.string ⟨#[113]⟩] 9)) (.slice (some ⟨w14.heap.size, 0, none⟩) 1 1) [⟨#[113]⟩] :=
    .inr ⟨w14.heap.size, 0, 1, rfl, by simp, fun i hi => by
      match i, hi with
      | 0, _ => simp⟩
  have al14 := (Keeps.refl [] w14).alloc (.cells #[.string ⟨#[113]⟩] 9)
  have hlP14 := hL14.lt
  have hlL14 := hD14.ltL
  have e15 := step_halt ok13 1000 HQ.out.1 (by show (catF [⟨#[113]⟩]).size ≤ 1000 - (catF [⟨#[120]⟩, ⟨#[121]⟩]).size; rw [HXY.out.2, HQ.out.2]; decide)
  have R15 := rewrite_c (hL14.keep al14 (by simp) (fun _ _ => by simp)) (hD14.keep al14 (by simp) (by simp)) hDP2 hLP2 qq (by decide) (by intro x hx; have := (HQ.out.1 x hx).2; omega) (by intro b o c k e; cases e; omega) 3 ⟨by decide, by decide⟩
  rw [show (2 : Int) = (([⟨#[120]⟩, ⟨#[121]⟩] : List ByteArray).length : Int) from rfl, e15] at R15
  dsimp only at R15
  clear e15 hL13 hD13 K13 hva13
  go_wp2_with fail
  refine R15.mono ?_
  rintro e w15 ⟨rfl, v15, hL15, hD15, k15, hf15⟩
  replace hL15 : LogAt w15 P2 D v15 [⟨#[120]⟩, ⟨#[121]⟩] 2 true := hL15
  have hs14 := k14.size
  have hs15 : w14.heap.size ≤ w15.heap.size := by have h1 := k15.size; simp at h1; omega
  have hbb : ∀ g, vb.ownBlock = some g → P2 < g ∧ L < g := fun g hg => by have h1 := (World.ownsRow.lt hvb g hg).1; exact ⟨by omega, by omega⟩
  have hba : ∀ g, va.ownBlock = some g → P2 < g ∧ L < g := fun g hg => by have h1 := (hva12 g hg).1; exact ⟨by omega, by omega⟩
  have hva15 := (hva14.keep al14 (fun _ _ => by simp)).keep k15 (fun g hg => by have := hba g hg; simp; omega)
  have hvb15 := (hvb.keep al14 (fun _ _ => by simp)).keep k15 (fun g hg => by have := hbb g hg; simp; omega)
  have K15 : Keeps [] w w15 := (K14.alloc _).new k15 (by
    intro x hx
    simp at hx
    rcases hx with rfl | rfl
    · exact hPw2
    · exact hLw2)
  have A16 := append_l hL15 hD15 hDP2 hLP2 ⟨#[99]⟩ (by decide) (by decide)
  rw [append_halted] at A16
  dsimp only at A16
  have hown15 := hL15.own
  have d15a : ∀ g, v15.ownBlock = some g → g < w11.heap.size ∨ w12.heap.size ≤ g := fun g hg => by
    rcases hf15 with e | e
    · rw [e] at hg; exact d13 g hg
    · have h1 := e g hg; simp at h1; exact .inr (by omega)
  have d15b : ∀ g, v15.ownBlock = some g → g < w13.heap.size ∨ w14.heap.size ≤ g := fun g hg => by
    rcases hf15 with e | e
    · rw [e] at hg; exact .inl (hown13 g hg).2
    · have h1 := e g hg; simp at h1; exact .inr (by omega)
  have hvb14 := World.ownsRow.lt hvb
  clear R15 hL14 hD14 K14 k14 k15 hf15 hvb hva14 qq al14
  go_wp2_with fail
  refine A16.mono ?_
  rintro e w16 ⟨rfl, v16, hL16, hD16, k16, _⟩
  have K16 : Keeps [] w w16 := K15.new k16 (by
    intro x hx
    simp at hx
    rcases hx with rfl | rfl | hx
    · exact hPw2
    · exact hLw2
    · have := hown15 x hx; omega)
  have hva16 := hva15.keep k16 (fun g hg => by
    have h1 := hba g hg
    have h2 := hva12 g hg
    intro hm
    simp at hm
    rcases hm with rfl | rfl | hm
    · omega
    · omega
    · have h3 := d15a g hm; omega)
  have hvb16 := hvb15.keep k16 (fun g hg => by
    have h1 := hbb g hg
    have h2 := hvb14 g hg
    intro hm
    simp at hm
    rcases hm with rfl | rfl | hm
    · omega
    · omega
    · have h3 := d15b g hm; omega)
  have C17 := crash_any hD16 none 0 [] (p := fun _ => False) ⟨fun i hi => by simp at hi, by decide, fun i hi => by simp at hi⟩ (fun h => h)
  have hlL16 := hD16.ltL
  go_wp2_with fail
  refine C17.mono ?_
  rintro e w17 ⟨rfl, hD17, k17⟩
  have ok17 : HaltOk [⟨#[113]⟩] [⟨#[113]⟩] (catF [⟨#[113]⟩], (catF [⟨#[113]⟩]).size) (catF [⟨#[120]⟩, ⟨#[121]⟩], (catF [⟨#[120]⟩, ⟨#[121]⟩]).size) :=
    ⟨HQ.out.1, HQ.out.1, .inl rfl, rfl, Nat.le_refl _⟩
  obtain ⟨r, hr, ho, _⟩ := ok17.crash []
  obtain rfl : r = [⟨#[113]⟩] := by rcases hr with h | h <;> exact h
  have O18 := open_ok hD17 (by rw [two_crash, two_sync1])
  rw [ho] at O18
  dsimp only at O18
  go_wp2_with fail
  refine O18.mono ?_
  rintro e w18 ⟨P3, v18, rfl, hP3, hL18, hD18, k18⟩
  replace hL18 : LogAt w18 P3 D v18 [⟨#[113]⟩] 1 false := hL18
  clear O18 C17
  have hs16 := k16.size
  have hs17 := k17.size
  have hs18 := k18.size
  have hlP16 := hL16.lt
  have hown16 := hL16.own
  have k1618 : Keeps [L] w16 w18 := (((Keeps.refl [L] w16).trans (k17.sub (by simp))).trans (k18.sub (by simp)))
  have hL16b := hL16.keep k1618 (by simp; omega) (fun g hg => by have := hown16 g hg; simp; omega)
  have hva18 := hva16.keep k1618 (fun g hg => by have := hba g hg; simp; omega)
  have hvb18 := hvb16.keep k1618 (fun g hg => by have := hbb g hg; simp; omega)
  have K18 : Keeps [] w w18 := K16.new k1618 (by simp; omega)
  have rA : RowOf (w18.alloc (.cells #[.string ⟨#[97]⟩] 9)) (.slice (some ⟨w18.heap.size, 0, none⟩) 1 1) [⟨#[97]⟩] :=
    .inr ⟨w18.heap.size, 0, 1, rfl, by simp, fun i hi => by
      match i, hi with
      | 0, _ => simp⟩
  have S19 := same_c (hva18.keep ((Keeps.refl [] w18).alloc (.cells #[.string ⟨#[97]⟩] 9)) (fun _ _ => by simp)).rowOf rA (by decide)
  rw [show decide (([⟨#[97]⟩] : List ByteArray) = [⟨#[97]⟩]) = true from decide_eq_true rfl] at S19
  go_wp2_with fail
  refine S19.mono ?_
  rintro e w19 ⟨rfl, k19⟩
  have kk19 : Keeps [] w18 w19 := ((Keeps.refl [] w18).alloc _).trans k19
  have hvb19 := hvb18.keep kk19 (fun _ _ => by simp)
  have hLm19 := hL16b.keep kk19 (by simp) (fun _ _ => by simp)
  have hLp19 := hL18.keep kk19 (by simp) (fun _ _ => by simp)
  have hD19 := hD18.keep kk19 (by simp) (by simp)
  have K19 := K18.trans kk19
  clear S19 rA hva18 hvb18 hL16b hL18 hD18 K18 kk19 k19
  have rXY : RowOf (w19.alloc (.cells #[.string ⟨#[120]⟩, .string ⟨#[121]⟩] 9)) (.slice (some ⟨w19.heap.size, 0, none⟩) 2 2) [⟨#[120]⟩, ⟨#[121]⟩] :=
    .inr ⟨w19.heap.size, 0, 2, rfl, by simp, fun i hi => by
      match i, hi with
      | 0, _ => simp
      | 1, _ => simp⟩
  have S20 := same_c (hvb19.keep ((Keeps.refl [] w19).alloc (.cells #[.string ⟨#[120]⟩, .string ⟨#[121]⟩] 9)) (fun _ _ => by simp)).rowOf rXY (by decide)
  rw [show decide (([⟨#[120]⟩, ⟨#[121]⟩] : List ByteArray) = [⟨#[120]⟩, ⟨#[121]⟩]) = true from decide_eq_true rfl] at S20
  go_wp2_with fail
  refine S20.mono ?_
  rintro e w20 ⟨rfl, k20⟩
  have kk20 : Keeps [] w19 w20 := ((Keeps.refl [] w19).alloc _).trans k20
  have hLm20 := hLm19.keep kk20 (by simp) (fun _ _ => by simp)
  have hLp20 := hLp19.keep kk20 (by simp) (fun _ _ => by simp)
  have hD20 := hD19.keep kk20 (by simp) (by simp)
  have K20 := K19.trans kk20
  clear S20 rXY hvb19 hLm19 hLp19 hD19 K19 kk20 k20
  go_wp2_with fail
  refine (halted_l hLm20).mono ?_
  rintro e w' ⟨rfl, rfl⟩
  go_wp2_with fail
  refine (records_l hLp20 (by decide)).mono ?_
  rintro e w21 ⟨vq, rfl, hvq, k21⟩
  have hLp21 := hLp20.keep k21 (by simp) (fun _ _ => by simp)
  have hD21 := hD20.keep k21 (by simp) (by simp)
  have K21 := K20.trans k21
  clear hLm20 hLp20 hD20 K20 k21
  have rQ : RowOf (w21.alloc (.cells #[.string ⟨#[113]⟩] 9)) (.slice (some ⟨w21.heap.size, 0, none⟩) 1 1) [⟨#[113]⟩] :=
    .inr ⟨w21.heap.size, 0, 1, rfl, by simp, fun i hi => by
      match i, hi with
      | 0, _ => simp⟩
  have S22 := same_c (hvq.keep ((Keeps.refl [] w21).alloc (.cells #[.string ⟨#[113]⟩] 9)) (fun _ _ => by simp)).rowOf rQ (by decide)
  rw [show decide (([⟨#[113]⟩] : List ByteArray) = [⟨#[113]⟩]) = true from decide_eq_true rfl] at S22
  go_wp2_with fail
  refine S22.mono ?_
  rintro e w22 ⟨rfl, k22⟩
  have kk22 : Keeps [] w21 w22 := ((Keeps.refl [] w21).alloc _).trans k22
  have hLp22 := hLp21.keep kk22 (by simp) (fun _ _ => by simp)
  have hD22 := hD21.keep kk22 (by simp) (by simp)
  have K22 := K21.trans kk22
  clear S22 rQ hvq hLp21 hD21 K21 kk22 k22
  go_wp2_with fail
  refine (sure_l hLp22).mono ?_
  rintro e w' ⟨rfl, rfl⟩
  go_wp2_with fail
  refine (halted_l hLp22).mono ?_
  rintro e w' ⟨rfl, rfl⟩
  have F1 := fun w => frame_c (w := w) ⟨#[97, 98]⟩ (by decide)
  have F2 := fun w => frame_c (w := w) ⟨#[]⟩ (by decide)
  have F3 := fun w => frame_c (w := w) ⟨#[113]⟩ (by decide)
  have f1s : (wFrame ⟨#[97, 98]⟩).size = 12 := wFrame_size ⟨by decide, by decide⟩
  rw [show wFrame ⟨#[]⟩ = ⟨#[]⟩ from if_neg (fun k => Nat.not_succ_le_zero _ k.1)] at F2
  have hcq : catF [⟨#[113]⟩] = wFrame ⟨#[113]⟩ := by rw [catF, catF, ba_append_nil]
  rw [hcq] at hD22
  clear hcq
  generalize wFrame ⟨#[97, 98]⟩ = g1 at *
  generalize wFrame ⟨#[113]⟩ = gq at *
  have RD := fun w (h : DiskAt w D L [(gq, gq.size), (⟨#[]⟩, 0)] 1000) => read_any h 0
  simp only [two_read0] at RD
  go_wp2_with fail
  refine (F1 _).mono ?_
  rintro e w23 ⟨rfl, k23⟩
  have hD23 := hD22.keep k23 (by simp) (by simp)
  have K23 := K22.trans k23
  go_wp2_with fail
  refine (F2 _).mono ?_
  rintro e w24 ⟨rfl, k24⟩
  have hD24 := hD23.keep k24 (by simp) (by simp)
  have K24 := K23.trans k24
  go_wp2_with fail
  refine (RD _ hD24).mono ?_
  rintro e w' ⟨rfl, rfl⟩
  go_wp2_with fail
  refine (F3 _).mono ?_
  rintro e w25 ⟨rfl, k25⟩
  go_wp2
  go_ret
  exact ⟨rfl, K24.trans k25⟩
end Go.Proofs.Ytkkbjkoikidjpaa
