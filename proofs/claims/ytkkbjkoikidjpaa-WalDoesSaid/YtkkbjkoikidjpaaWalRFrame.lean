/-
  The reference's frame is the same frame.
-/
import Derived.Test.YtkkbjkoikidjpaaRTag
import Derived.Test.YtkkbjkoikidjpaaWalFrame
namespace Go.Proofs.Ytkkbjkoikidjpaa
open Go.RowKit

/-- 'string(b)' of two bytes that lie anywhere. -/
theorem conv2_at (w : World) (n : Nat) (x y : Int) (h0 : w.cell? ⟨n, 0, none⟩ = some (.int .u8 x)) (h1 : w.cell? ⟨n, 1, none⟩ = some (.int .u8 y)) : (convert 84 9 (.slice (some ⟨n, 0, none⟩) 2 2)).run Try.prog w = .ok (.string (strOfNums [x, y])) w := by
  refine run_convert_bytes_arg _ 84 5 Try.underlying84 Try.underlying5 _ _ _ _ [x, y] rfl (fun i hi => ?_) 9 Try.underlying9
  match i, hi with
  | 0, _ => exact h0
  | 1, _ => exact h1
set_option maxRecDepth 10000 in
set_option maxHeartbeats 4000000 in
theorem rframe_c {w : World} (s : ByteArray) (hs : s.size ≤ 9223372036854775807) :
    Calls Try.prog 34 #[.string s] w fun e w' => e = .returned (.string (wFrame s)) ∧ Keeps [] w w' := by
  by_cases h1 : 1 ≤ s.size
  · by_cases h2 : s.size ≤ 4096
    · have H : Hid (wFrame s = blobB s ++ (sTag walW s).extract 0 8) := if_pos ⟨h1, h2⟩
      obtain ⟨tg, htg⟩ : ∃ t, t = sTag walW s := ⟨_, rfl⟩
      have T : ∀ (w : World) (b : Nat), b < w.heap.size → w.cell? ⟨b, 0, none⟩ = some (.string s) → Calls Try.prog 55 #[.string ⟨#[119, 97, 108]⟩, .slice (some ⟨b, 0, none⟩) 1 1] w fun e w' => e = .returned (.string tg) ∧ Keeps [] w w' := by
        intro w b hb hc
        rw [htg]
        exact rtag_c walW s (by decide) (by omega) hb hc
      have HT := Go.Lib.hid T
      have ht : tg.size = 16 := by rw [htg]; exact sTag_size walW s
      obtain ⟨bl, hbl⟩ : ∃ t, t = strOfNums [(s.size : Int) / 256, (s.size : Int) % 256] := ⟨_, rfl⟩
      have HB : Hid (blobB s ++ (sTag walW s).extract 0 8 = bl ++ s ++ tg.extract 0 8) := by
        show _ = _
        rw [hbl, htg]
        unfold blobB
        rw [show (s.size : Int) / 256 % 256 = s.size / 256 from by omega]
      have hbz : bl.size = 2 := by rw [hbl, strOfNums_size]; rfl
      have hsum1 : bl.size + s.size ≤ 9223372036854775807 := by omega
      have hsum : (bl ++ s).size + (tg.extract 0 8).size ≤ 9223372036854775807 := by rw [ByteArray.size_append, ByteArray.size_extract]; omega
      have hsum2 : bl.size + s.size + (tg.extract 0 8).size ≤ 9223372036854775807 := by rw [ByteArray.size_extract]; omega
      have hsum3 : bl.size + s.size + min 8 tg.size ≤ 9223372036854775807 := by omega
      have hn1 : (9223372036854775807 < bl.size + s.size) = False := by simp; omega
      have hn2 : (9223372036854775807 < bl.size + s.size + (tg.extract 0 8).size) = False := by simp only [eq_iff_iff, iff_false]; omega
      have hn3 : (9223372036854775807 < bl.size + s.size + min 8 tg.size) = False := by simp only [eq_iff_iff, iff_false]; omega
      have hz8 : (8 : Int) ≤ (tg.size : Int) := by omega
      have HBL := Go.Lib.hid hbl
      clear T htg hbl ht hbz
      generalize wFrame s = out at *
      go_enter Try.func34, Try.ntmps34
      go_upto_region 3 with fail
      refine wp_region_held_drew (S := (Keeps [] w)) (by kernel_rfl) ((Keeps.refl _ _).drew) (fun hHeld => ?_)
      generalize w.drew = w4 at *
      refine wpAnyH_take (i := 0) (oi := Oper.mk _ _ _ _ _ _) (v := ?_) rfl (by kernel_rfl) (by kernel_rfl) (by kernel_rfl) (fun _ _ _ h => h) (Or.inl ⟨by rfl, ?_⟩) hHeld ?_
      rotate_left
      · (intro w hSw; (try dsimp only at hSw); (first | (go_simp; done) | (go_simp; with_reducible rfl)))
      try simp only [Act.put, List.setIfInBounds_toArray, List.set_cons_zero, List.set_cons_succ]
      refine wpAnyH_take (i := 1) (oi := Oper.mk _ _ _ _ _ _) (v := ?_) rfl (by kernel_rfl) (by kernel_rfl) (by kernel_rfl) (fun _ _ _ h => h) (Or.inl ⟨by rfl, ?_⟩) hHeld ?_
      rotate_left
      · (intro w hSw; (try dsimp only at hSw); (first | (go_simp; done) | (go_simp; with_reducible rfl)))
      try simp only [Act.put, List.setIfInBounds_toArray, List.set_cons_zero, List.set_cons_succ]
      refine wpAnyH_take (i := 2) (oi := Oper.mk _ _ _ _ _ _) (v := ?_) rfl (by kernel_rfl) (by kernel_rfl) (by kernel_rfl) (fun _ _ _ h => h) (Or.inl ⟨by rfl, ?_⟩) hHeld ?_
      rotate_left
      · (intro w hSw; (try dsimp only at hSw); (first | (go_simp; done) | (go_simp; with_reducible rfl)))
      try simp only [Act.put, List.setIfInBounds_toArray, List.set_cons_zero, List.set_cons_succ]
      refine wpAnyH_take (i := 3) (oi := Oper.mk _ _ _ _ _ _) (v := ?_) rfl (by kernel_rfl) (by kernel_rfl) (by kernel_rfl) (fun _ _ _ h => h) (Or.inl ⟨by rfl, ?_⟩) hHeld ?_
      rotate_left
      · (intro w hSw; (try dsimp only at hSw); (first | (go_simp; done) | (go_simp; with_reducible rfl)))
      try simp only [Act.put, List.setIfInBounds_toArray, List.set_cons_zero, List.set_cons_succ]
      refine wpAnyH_take (i := 4) (oi := Oper.mk _ _ _ _ _ _) (v := ?_) rfl (by kernel_rfl) (by kernel_rfl) (by kernel_rfl) (fun _ _ _ h => h) (Or.inl ⟨by rfl, ?_⟩) hHeld ?_
      rotate_left
      · (intro w hSw; (try dsimp only at hSw); (first | (go_simp; done) | (go_simp; with_reducible rfl)))
      try simp only [Act.put, List.setIfInBounds_toArray, List.set_cons_zero, List.set_cons_succ]
      refine wpAnyH_take (i := 5) (oi := Oper.mk _ _ _ _ _ _) (v := ?_) rfl (by kernel_rfl) (by kernel_rfl) (by kernel_rfl) (fun _ _ _ h => h) (Or.inl ⟨by rfl, ?_⟩) hHeld ?_
      rotate_left
      · (intro w hSw; (try dsimp only at hSw); (first | (go_simp; done) | (go_simp; with_reducible rfl)))
      try simp only [Act.put, List.setIfInBounds_toArray, List.set_cons_zero, List.set_cons_succ]
      refine wpAnyH_take (i := 6) (oi := Oper.mk _ _ _ _ _ _) (v := ?_) rfl (by kernel_rfl) (by kernel_rfl) (by kernel_rfl) (fun _ _ _ h => h) (Or.inl ⟨by rfl, ?_⟩) hHeld ?_
      rotate_left
      · (intro w hSw; (try dsimp only at hSw); (first | (go_simp; done) | (go_simp; with_reducible rfl)))
      try simp only [Act.put, List.setIfInBounds_toArray, List.set_cons_zero, List.set_cons_succ]
      refine wpAnyH_take (i := 7) (oi := Oper.mk _ _ _ _ _ _) (v := ?_) rfl (by kernel_rfl) (by kernel_rfl) (by kernel_rfl) (fun _ _ _ h => h) (Or.inl ⟨by rfl, ?_⟩) hHeld ?_
      rotate_left
      · (intro w hSw; (try dsimp only at hSw); (first | (go_simp; done) | (go_simp; with_reducible rfl)))
      try simp only [Act.put, List.setIfInBounds_toArray, List.set_cons_zero, List.set_cons_succ]
      refine wpAnyH_take (i := 10) (oi := Oper.mk _ _ _ _ _ _) (v := ?_) rfl (by kernel_rfl) (by kernel_rfl) (by kernel_rfl) (fun _ _ _ h => h) (Or.inl ⟨by rfl, ?_⟩) hHeld ?_
      rotate_left
      · (intro w hSw; (try dsimp only at hSw); (first | (go_simp; done) | (go_simp; with_reducible rfl)))
      try simp only [Act.put, List.setIfInBounds_toArray, List.set_cons_zero, List.set_cons_succ]
      refine wpAnyH_take (i := 12) (oi := Oper.mk _ _ _ _ _ _) (v := ?_) rfl (by kernel_rfl) (by kernel_rfl) (by kernel_rfl) (fun _ _ _ h => h) (Or.inl ⟨by rfl, ?_⟩) hHeld ?_
      rotate_left
      · (intro w hSw; (try dsimp only at hSw); (first | (go_simp; done) | (go_simp; with_reducible rfl)))
      try simp only [Act.put, List.setIfInBounds_toArray, List.set_cons_zero, List.set_cons_succ]
      have eX : Hid (strOfNums [IntKind.u8.wrap (IntKind.i64.wrap ((s.size : Int) / 256)), IntKind.u8.wrap ((s.size : Int).tmod 256)] = bl) := by
        show _ = _
        rw [HBL.out, show IntKind.u8.wrap (IntKind.i64.wrap ((s.size : Int) / 256)) = (s.size : Int) / 256 from by rw [IntKind.wrap_i64, IntKind.wrap_u8]; omega,
          show IntKind.u8.wrap ((s.size : Int).tmod 256) = (s.size : Int) % 256 from by rw [Int.tmod_eq_emod_of_nonneg (by omega), IntKind.wrap_u8]; omega]
      generalize IntKind.u8.wrap (IntKind.i64.wrap ((s.size : Int) / 256)) = X at *
      generalize IntKind.u8.wrap ((s.size : Int).tmod 256) = Y at *
      refine wpAnyH_ready (rs := [8, 13]) (by kernel_rfl) (by simp) ?_
      refine AllReadyH.cons (o := Oper.mk _ _ _ _ _ _) rfl (fun K hK => ?_) (AllReadyH.cons (o := Oper.mk _ _ _ _ _ _) rfl (fun K hK => ?_) (AllReadyH.nil))
      · go_simp
        refine hK.out _ _ (hHeld.alloc _) (fun hNew => ?_)
        clear hHeld hK
        have hHeld := hNew
        clear hNew
        try simp only [Act.put, List.setIfInBounds_toArray, List.set_cons_zero, List.set_cons_succ]
        have kz : Keeps [] w4 (w4.alloc (.cells #[.int .u8 X, .int .u8 Y] 5)) := (Keeps.refl _ _).alloc _
        have hA0 : (w4.alloc (.cells #[.int .u8 X, .int .u8 Y] 5)).cell? ⟨w4.heap.size, 0, none⟩ = some (.int .u8 X) := (cell_of_heap heap_alloc_same).trans rfl
        have hA1 : (w4.alloc (.cells #[.int .u8 X, .int .u8 Y] 5)).cell? ⟨w4.heap.size, 1, none⟩ = some (.int .u8 Y) := (cell_of_heap heap_alloc_same).trans rfl
        have hAl : w4.heap.size < (w4.alloc (.cells #[.int .u8 X, .int .u8 Y] 5)).heap.size := by simp
        try replace hB0 := (kz.cell hBl (by simp)).trans hB0
        try replace hBl := Nat.lt_of_lt_of_le hBl kz.size
        clear kz
        generalize w4.alloc (.cells #[.int .u8 X, .int .u8 Y] 5) = w5 at *
        generalize w4.heap.size = gA at *
        refine wpAnyH_ready (rs := [9, 13]) (by kernel_rfl) (by simp) ?_
        refine AllReadyH.cons (o := Oper.mk _ _ _ _ _ _) rfl (fun K hK => ?_) (AllReadyH.cons (o := Oper.mk _ _ _ _ _ _) rfl (fun K hK => ?_) (AllReadyH.nil))
        · (have hcv := conv2_at _ gA X Y hA0 hA1; rw [eX.out] at hcv; go_simp)
          refine hK.out _ _ (hHeld) (fun hNew => ?_)
          clear hHeld hK
          have hHeld := hNew
          clear hNew
          try simp only [Act.put, List.setIfInBounds_toArray, List.set_cons_zero, List.set_cons_succ]
          refine wpAnyH_take (i := 11) (oi := Oper.mk _ _ _ _ _ _) (v := ?_) rfl (by kernel_rfl) (by kernel_rfl) (by kernel_rfl) (fun _ _ _ h => h) (Or.inl ⟨by rfl, ?_⟩) hHeld ?_
          rotate_left
          · (intro w hSw; (try dsimp only at hSw); (first | (go_simp; done) | (go_simp; with_reducible rfl)))
          try simp only [Act.put, List.setIfInBounds_toArray, List.set_cons_zero, List.set_cons_succ]
          refine wpAnyH_ready (rs := [13]) (by kernel_rfl) (by simp) ?_
          refine AllReadyH.cons (o := Oper.mk _ _ _ _ _ _) rfl (fun K hK => ?_) (AllReadyH.nil)
          · go_simp
            refine hK.out _ _ (hHeld.alloc _) (fun hNew => ?_)
            clear hHeld hK
            have hHeld := hNew
            clear hNew
            try simp only [Act.put, List.setIfInBounds_toArray, List.set_cons_zero, List.set_cons_succ]
            have kz : Keeps [] w5 (w5.alloc (.cells #[.string s] 9)) := (Keeps.refl _ _).alloc _
            have hB0 : (w5.alloc (.cells #[.string s] 9)).cell? ⟨w5.heap.size, 0, none⟩ = some (.string s) := (cell_of_heap heap_alloc_same).trans rfl
            have hBl : w5.heap.size < (w5.alloc (.cells #[.string s] 9)).heap.size := by simp
            try replace hA0 := (kz.cell hAl (by simp)).trans hA0
            try replace hA1 := (kz.cell hAl (by simp)).trans hA1
            try replace hAl := Nat.lt_of_lt_of_le hAl kz.size
            clear kz
            generalize w5.alloc (.cells #[.string s] 9) = w6 at *
            generalize w5.heap.size = gB at *
            refine wpAnyH_ready (rs := [14]) (by kernel_rfl) (by simp) ?_
            refine AllReadyH.cons (o := Oper.mk _ _ _ _ _ _) rfl (fun K hK => ?_) (AllReadyH.nil)
            · (go_simp; refine (HT.out _ _ hBl hB0).mono ?_; rintro e w7 ⟨rfl, k5⟩)
              refine hK.out _ _ (hHeld.trans k5) (fun hNew => ?_)
              clear hHeld hK
              have hHeld := hNew
              clear hNew
              try simp only [Act.put, List.setIfInBounds_toArray, List.set_cons_zero, List.set_cons_succ]
              try replace hA0 := (k5.cell hAl (by simp)).trans hA0
              try replace hA1 := (k5.cell hAl (by simp)).trans hA1
              try replace hAl := Nat.lt_of_lt_of_le hAl k5.size
              clear k5
              refine wpAnyH_take (i := 15) (oi := Oper.mk _ _ _ _ _ _) (v := ?_) rfl (by kernel_rfl) (by kernel_rfl) (by kernel_rfl) (fun _ _ _ h => h) (Or.inl ⟨by rfl, ?_⟩) hHeld ?_
              rotate_left
              · (intro w hSw; (try dsimp only at hSw); (first | (go_simp; done) | (go_simp; with_reducible rfl)))
              try simp only [Act.put, List.setIfInBounds_toArray, List.set_cons_zero, List.set_cons_succ]
              refine wpAnyH_take (i := 16) (oi := Oper.mk _ _ _ _ _ _) (v := ?_) rfl (by kernel_rfl) (by kernel_rfl) (by kernel_rfl) (fun _ _ _ h => h) (Or.inl ⟨by rfl, ?_⟩) hHeld ?_
              rotate_left
              · (intro w hSw; (try dsimp only at hSw); (first | (go_simp; done) | (go_simp; with_reducible rfl)))
              try simp only [Act.put, List.setIfInBounds_toArray, List.set_cons_zero, List.set_cons_succ]
              refine wpAnyH_take (i := 17) (oi := Oper.mk _ _ _ _ _ _) (v := ?_) rfl (by kernel_rfl) (by kernel_rfl) (by kernel_rfl) (fun _ _ _ h => h) (Or.inl ⟨by rfl, ?_⟩) hHeld ?_
              rotate_left
              · (intro w hSw; (try dsimp only at hSw); (first | (go_simp; done) | (go_simp; with_reducible rfl)))
              try simp only [Act.put, List.setIfInBounds_toArray, List.set_cons_zero, List.set_cons_succ]
              refine wpAnyH_done (by kernel_rfl) ?_ _
              go_wp2_with fail
              go_ret
              exact ⟨by rw [H.out, HB.out]; rfl, hHeld⟩
        · go_simp
          refine hK.out _ _ (hHeld.alloc _) (fun hNew => ?_)
          clear hHeld hK
          have hHeld := hNew
          clear hNew
          try simp only [Act.put, List.setIfInBounds_toArray, List.set_cons_zero, List.set_cons_succ]
          have kz : Keeps [] w5 (w5.alloc (.cells #[.string s] 9)) := (Keeps.refl _ _).alloc _
          have hB0 : (w5.alloc (.cells #[.string s] 9)).cell? ⟨w5.heap.size, 0, none⟩ = some (.string s) := (cell_of_heap heap_alloc_same).trans rfl
          have hBl : w5.heap.size < (w5.alloc (.cells #[.string s] 9)).heap.size := by simp
          try replace hA0 := (kz.cell hAl (by simp)).trans hA0
          try replace hA1 := (kz.cell hAl (by simp)).trans hA1
          try replace hAl := Nat.lt_of_lt_of_le hAl kz.size
          clear kz
          generalize w5.alloc (.cells #[.string s] 9) = w6 at *
          generalize w5.heap.size = gB at *
          refine wpAnyH_ready (rs := [9, 14]) (by kernel_rfl) (by simp) ?_
          refine AllReadyH.cons (o := Oper.mk _ _ _ _ _ _) rfl (fun K hK => ?_) (AllReadyH.cons (o := Oper.mk _ _ _ _ _ _) rfl (fun K hK => ?_) (AllReadyH.nil))
          · (have hcv := conv2_at _ gA X Y hA0 hA1; rw [eX.out] at hcv; go_simp)
            refine hK.out _ _ (hHeld) (fun hNew => ?_)
            clear hHeld hK
            have hHeld := hNew
            clear hNew
            try simp only [Act.put, List.setIfInBounds_toArray, List.set_cons_zero, List.set_cons_succ]
            refine wpAnyH_take (i := 11) (oi := Oper.mk _ _ _ _ _ _) (v := ?_) rfl (by kernel_rfl) (by kernel_rfl) (by kernel_rfl) (fun _ _ _ h => h) (Or.inl ⟨by rfl, ?_⟩) hHeld ?_
            rotate_left
            · (intro w hSw; (try dsimp only at hSw); (first | (go_simp; done) | (go_simp; with_reducible rfl)))
            try simp only [Act.put, List.setIfInBounds_toArray, List.set_cons_zero, List.set_cons_succ]
            refine wpAnyH_ready (rs := [14]) (by kernel_rfl) (by simp) ?_
            refine AllReadyH.cons (o := Oper.mk _ _ _ _ _ _) rfl (fun K hK => ?_) (AllReadyH.nil)
            · (go_simp; refine (HT.out _ _ hBl hB0).mono ?_; rintro e w7 ⟨rfl, k5⟩)
              refine hK.out _ _ (hHeld.trans k5) (fun hNew => ?_)
              clear hHeld hK
              have hHeld := hNew
              clear hNew
              try simp only [Act.put, List.setIfInBounds_toArray, List.set_cons_zero, List.set_cons_succ]
              try replace hA0 := (k5.cell hAl (by simp)).trans hA0
              try replace hA1 := (k5.cell hAl (by simp)).trans hA1
              try replace hAl := Nat.lt_of_lt_of_le hAl k5.size
              clear k5
              refine wpAnyH_take (i := 15) (oi := Oper.mk _ _ _ _ _ _) (v := ?_) rfl (by kernel_rfl) (by kernel_rfl) (by kernel_rfl) (fun _ _ _ h => h) (Or.inl ⟨by rfl, ?_⟩) hHeld ?_
              rotate_left
              · (intro w hSw; (try dsimp only at hSw); (first | (go_simp; done) | (go_simp; with_reducible rfl)))
              try simp only [Act.put, List.setIfInBounds_toArray, List.set_cons_zero, List.set_cons_succ]
              refine wpAnyH_take (i := 16) (oi := Oper.mk _ _ _ _ _ _) (v := ?_) rfl (by kernel_rfl) (by kernel_rfl) (by kernel_rfl) (fun _ _ _ h => h) (Or.inl ⟨by rfl, ?_⟩) hHeld ?_
              rotate_left
              · (intro w hSw; (try dsimp only at hSw); (first | (go_simp; done) | (go_simp; with_reducible rfl)))
              try simp only [Act.put, List.setIfInBounds_toArray, List.set_cons_zero, List.set_cons_succ]
              refine wpAnyH_take (i := 17) (oi := Oper.mk _ _ _ _ _ _) (v := ?_) rfl (by kernel_rfl) (by kernel_rfl) (by kernel_rfl) (fun _ _ _ h => h) (Or.inl ⟨by rfl, ?_⟩) hHeld ?_
              rotate_left
              · (intro w hSw; (try dsimp only at hSw); (first | (go_simp; done) | (go_simp; with_reducible rfl)))
              try simp only [Act.put, List.setIfInBounds_toArray, List.set_cons_zero, List.set_cons_succ]
              refine wpAnyH_done (by kernel_rfl) ?_ _
              go_wp2_with fail
              go_ret
              exact ⟨by rw [H.out, HB.out]; rfl, hHeld⟩
          · (go_simp; refine (HT.out _ _ hBl hB0).mono ?_; rintro e w7 ⟨rfl, k5⟩)
            refine hK.out _ _ (hHeld.trans k5) (fun hNew => ?_)
            clear hHeld hK
            have hHeld := hNew
            clear hNew
            try simp only [Act.put, List.setIfInBounds_toArray, List.set_cons_zero, List.set_cons_succ]
            try replace hA0 := (k5.cell hAl (by simp)).trans hA0
            try replace hA1 := (k5.cell hAl (by simp)).trans hA1
            try replace hAl := Nat.lt_of_lt_of_le hAl k5.size
            clear k5
            refine wpAnyH_take (i := 15) (oi := Oper.mk _ _ _ _ _ _) (v := ?_) rfl (by kernel_rfl) (by kernel_rfl) (by kernel_rfl) (fun _ _ _ h => h) (Or.inl ⟨by rfl, ?_⟩) hHeld ?_
            rotate_left
            · (intro w hSw; (try dsimp only at hSw); (first | (go_simp; done) | (go_simp; with_reducible rfl)))
            try simp only [Act.put, List.setIfInBounds_toArray, List.set_cons_zero, List.set_cons_succ]
            refine wpAnyH_ready (rs := [9]) (by kernel_rfl) (by simp) ?_
            refine AllReadyH.cons (o := Oper.mk _ _ _ _ _ _) rfl (fun K hK => ?_) (AllReadyH.nil)
            · (have hcv := conv2_at _ gA X Y hA0 hA1; rw [eX.out] at hcv; go_simp)
              refine hK.out _ _ (hHeld) (fun hNew => ?_)
              clear hHeld hK
              have hHeld := hNew
              clear hNew
              try simp only [Act.put, List.setIfInBounds_toArray, List.set_cons_zero, List.set_cons_succ]
              refine wpAnyH_take (i := 11) (oi := Oper.mk _ _ _ _ _ _) (v := ?_) rfl (by kernel_rfl) (by kernel_rfl) (by kernel_rfl) (fun _ _ _ h => h) (Or.inl ⟨by rfl, ?_⟩) hHeld ?_
              rotate_left
              · (intro w hSw; (try dsimp only at hSw); (first | (go_simp; done) | (go_simp; with_reducible rfl)))
              try simp only [Act.put, List.setIfInBounds_toArray, List.set_cons_zero, List.set_cons_succ]
              refine wpAnyH_take (i := 16) (oi := Oper.mk _ _ _ _ _ _) (v := ?_) rfl (by kernel_rfl) (by kernel_rfl) (by kernel_rfl) (fun _ _ _ h => h) (Or.inl ⟨by rfl, ?_⟩) hHeld ?_
              rotate_left
              · (intro w hSw; (try dsimp only at hSw); (first | (go_simp; done) | (go_simp; with_reducible rfl)))
              try simp only [Act.put, List.setIfInBounds_toArray, List.set_cons_zero, List.set_cons_succ]
              refine wpAnyH_take (i := 17) (oi := Oper.mk _ _ _ _ _ _) (v := ?_) rfl (by kernel_rfl) (by kernel_rfl) (by kernel_rfl) (fun _ _ _ h => h) (Or.inl ⟨by rfl, ?_⟩) hHeld ?_
              rotate_left
              · (intro w hSw; (try dsimp only at hSw); (first | (go_simp; done) | (go_simp; with_reducible rfl)))
              try simp only [Act.put, List.setIfInBounds_toArray, List.set_cons_zero, List.set_cons_succ]
              refine wpAnyH_done (by kernel_rfl) ?_ _
              go_wp2_with fail
              go_ret
              exact ⟨by rw [H.out, HB.out]; rfl, hHeld⟩
      · go_simp
        refine hK.out _ _ (hHeld.alloc _) (fun hNew => ?_)
        clear hHeld hK
        have hHeld := hNew
        clear hNew
        try simp only [Act.put, List.setIfInBounds_toArray, List.set_cons_zero, List.set_cons_succ]
        have kz : Keeps [] w4 (w4.alloc (.cells #[.string s] 9)) := (Keeps.refl _ _).alloc _
        have hB0 : (w4.alloc (.cells #[.string s] 9)).cell? ⟨w4.heap.size, 0, none⟩ = some (.string s) := (cell_of_heap heap_alloc_same).trans rfl
        have hBl : w4.heap.size < (w4.alloc (.cells #[.string s] 9)).heap.size := by simp
        try replace hA0 := (kz.cell hAl (by simp)).trans hA0
        try replace hA1 := (kz.cell hAl (by simp)).trans hA1
        try replace hAl := Nat.lt_of_lt_of_le hAl kz.size
        clear kz
        generalize w4.alloc (.cells #[.string s] 9) = w5 at *
        generalize w4.heap.size = gB at *
        refine wpAnyH_ready (rs := [8, 14]) (by kernel_rfl) (by simp) ?_
        refine AllReadyH.cons (o := Oper.mk _ _ _ _ _ _) rfl (fun K hK => ?_) (AllReadyH.cons (o := Oper.mk _ _ _ _ _ _) rfl (fun K hK => ?_) (AllReadyH.nil))
        · go_simp
          refine hK.out _ _ (hHeld.alloc _) (fun hNew => ?_)
          clear hHeld hK
          have hHeld := hNew
          clear hNew
          try simp only [Act.put, List.setIfInBounds_toArray, List.set_cons_zero, List.set_cons_succ]
          have kz : Keeps [] w5 (w5.alloc (.cells #[.int .u8 X, .int .u8 Y] 5)) := (Keeps.refl _ _).alloc _
          have hA0 : (w5.alloc (.cells #[.int .u8 X, .int .u8 Y] 5)).cell? ⟨w5.heap.size, 0, none⟩ = some (.int .u8 X) := (cell_of_heap heap_alloc_same).trans rfl
          have hA1 : (w5.alloc (.cells #[.int .u8 X, .int .u8 Y] 5)).cell? ⟨w5.heap.size, 1, none⟩ = some (.int .u8 Y) := (cell_of_heap heap_alloc_same).trans rfl
          have hAl : w5.heap.size < (w5.alloc (.cells #[.int .u8 X, .int .u8 Y] 5)).heap.size := by simp
          try replace hB0 := (kz.cell hBl (by simp)).trans hB0
          try replace hBl := Nat.lt_of_lt_of_le hBl kz.size
          clear kz
          generalize w5.alloc (.cells #[.int .u8 X, .int .u8 Y] 5) = w6 at *
          generalize w5.heap.size = gA at *
          refine wpAnyH_ready (rs := [9, 14]) (by kernel_rfl) (by simp) ?_
          refine AllReadyH.cons (o := Oper.mk _ _ _ _ _ _) rfl (fun K hK => ?_) (AllReadyH.cons (o := Oper.mk _ _ _ _ _ _) rfl (fun K hK => ?_) (AllReadyH.nil))
          · (have hcv := conv2_at _ gA X Y hA0 hA1; rw [eX.out] at hcv; go_simp)
            refine hK.out _ _ (hHeld) (fun hNew => ?_)
            clear hHeld hK
            have hHeld := hNew
            clear hNew
            try simp only [Act.put, List.setIfInBounds_toArray, List.set_cons_zero, List.set_cons_succ]
            refine wpAnyH_take (i := 11) (oi := Oper.mk _ _ _ _ _ _) (v := ?_) rfl (by kernel_rfl) (by kernel_rfl) (by kernel_rfl) (fun _ _ _ h => h) (Or.inl ⟨by rfl, ?_⟩) hHeld ?_
            rotate_left
            · (intro w hSw; (try dsimp only at hSw); (first | (go_simp; done) | (go_simp; with_reducible rfl)))
            try simp only [Act.put, List.setIfInBounds_toArray, List.set_cons_zero, List.set_cons_succ]
            refine wpAnyH_ready (rs := [14]) (by kernel_rfl) (by simp) ?_
            refine AllReadyH.cons (o := Oper.mk _ _ _ _ _ _) rfl (fun K hK => ?_) (AllReadyH.nil)
            · (go_simp; refine (HT.out _ _ hBl hB0).mono ?_; rintro e w7 ⟨rfl, k5⟩)
              refine hK.out _ _ (hHeld.trans k5) (fun hNew => ?_)
              clear hHeld hK
              have hHeld := hNew
              clear hNew
              try simp only [Act.put, List.setIfInBounds_toArray, List.set_cons_zero, List.set_cons_succ]
              try replace hA0 := (k5.cell hAl (by simp)).trans hA0
              try replace hA1 := (k5.cell hAl (by simp)).trans hA1
              try replace hAl := Nat.lt_of_lt_of_le hAl k5.size
              clear k5
              refine wpAnyH_take (i := 15) (oi := Oper.mk _ _ _ _ _ _) (v := ?_) rfl (by kernel_rfl) (by kernel_rfl) (by kernel_rfl) (fun _ _ _ h => h) (Or.inl ⟨by rfl, ?_⟩) hHeld ?_
              rotate_left
              · (intro w hSw; (try dsimp only at hSw); (first | (go_simp; done) | (go_simp; with_reducible rfl)))
              try simp only [Act.put, List.setIfInBounds_toArray, List.set_cons_zero, List.set_cons_succ]
              refine wpAnyH_take (i := 16) (oi := Oper.mk _ _ _ _ _ _) (v := ?_) rfl (by kernel_rfl) (by kernel_rfl) (by kernel_rfl) (fun _ _ _ h => h) (Or.inl ⟨by rfl, ?_⟩) hHeld ?_
              rotate_left
              · (intro w hSw; (try dsimp only at hSw); (first | (go_simp; done) | (go_simp; with_reducible rfl)))
              try simp only [Act.put, List.setIfInBounds_toArray, List.set_cons_zero, List.set_cons_succ]
              refine wpAnyH_take (i := 17) (oi := Oper.mk _ _ _ _ _ _) (v := ?_) rfl (by kernel_rfl) (by kernel_rfl) (by kernel_rfl) (fun _ _ _ h => h) (Or.inl ⟨by rfl, ?_⟩) hHeld ?_
              rotate_left
              · (intro w hSw; (try dsimp only at hSw); (first | (go_simp; done) | (go_simp; with_reducible rfl)))
              try simp only [Act.put, List.setIfInBounds_toArray, List.set_cons_zero, List.set_cons_succ]
              refine wpAnyH_done (by kernel_rfl) ?_ _
              go_wp2_with fail
              go_ret
              exact ⟨by rw [H.out, HB.out]; rfl, hHeld⟩
          · (go_simp; refine (HT.out _ _ hBl hB0).mono ?_; rintro e w7 ⟨rfl, k5⟩)
            refine hK.out _ _ (hHeld.trans k5) (fun hNew => ?_)
            clear hHeld hK
            have hHeld := hNew
            clear hNew
            try simp only [Act.put, List.setIfInBounds_toArray, List.set_cons_zero, List.set_cons_succ]
            try replace hA0 := (k5.cell hAl (by simp)).trans hA0
            try replace hA1 := (k5.cell hAl (by simp)).trans hA1
            try replace hAl := Nat.lt_of_lt_of_le hAl k5.size
            clear k5
            refine wpAnyH_take (i := 15) (oi := Oper.mk _ _ _ _ _ _) (v := ?_) rfl (by kernel_rfl) (by kernel_rfl) (by kernel_rfl) (fun _ _ _ h => h) (Or.inl ⟨by rfl, ?_⟩) hHeld ?_
            rotate_left
            · (intro w hSw; (try dsimp only at hSw); (first | (go_simp; done) | (go_simp; with_reducible rfl)))
            try simp only [Act.put, List.setIfInBounds_toArray, List.set_cons_zero, List.set_cons_succ]
            refine wpAnyH_ready (rs := [9]) (by kernel_rfl) (by simp) ?_
            refine AllReadyH.cons (o := Oper.mk _ _ _ _ _ _) rfl (fun K hK => ?_) (AllReadyH.nil)
            · (have hcv := conv2_at _ gA X Y hA0 hA1; rw [eX.out] at hcv; go_simp)
              refine hK.out _ _ (hHeld) (fun hNew => ?_)
              clear hHeld hK
              have hHeld := hNew
              clear hNew
              try simp only [Act.put, List.setIfInBounds_toArray, List.set_cons_zero, List.set_cons_succ]
              refine wpAnyH_take (i := 11) (oi := Oper.mk _ _ _ _ _ _) (v := ?_) rfl (by kernel_rfl) (by kernel_rfl) (by kernel_rfl) (fun _ _ _ h => h) (Or.inl ⟨by rfl, ?_⟩) hHeld ?_
              rotate_left
              · (intro w hSw; (try dsimp only at hSw); (first | (go_simp; done) | (go_simp; with_reducible rfl)))
              try simp only [Act.put, List.setIfInBounds_toArray, List.set_cons_zero, List.set_cons_succ]
              refine wpAnyH_take (i := 16) (oi := Oper.mk _ _ _ _ _ _) (v := ?_) rfl (by kernel_rfl) (by kernel_rfl) (by kernel_rfl) (fun _ _ _ h => h) (Or.inl ⟨by rfl, ?_⟩) hHeld ?_
              rotate_left
              · (intro w hSw; (try dsimp only at hSw); (first | (go_simp; done) | (go_simp; with_reducible rfl)))
              try simp only [Act.put, List.setIfInBounds_toArray, List.set_cons_zero, List.set_cons_succ]
              refine wpAnyH_take (i := 17) (oi := Oper.mk _ _ _ _ _ _) (v := ?_) rfl (by kernel_rfl) (by kernel_rfl) (by kernel_rfl) (fun _ _ _ h => h) (Or.inl ⟨by rfl, ?_⟩) hHeld ?_
              rotate_left
              · (intro w hSw; (try dsimp only at hSw); (first | (go_simp; done) | (go_simp; with_reducible rfl)))
              try simp only [Act.put, List.setIfInBounds_toArray, List.set_cons_zero, List.set_cons_succ]
              refine wpAnyH_done (by kernel_rfl) ?_ _
              go_wp2_with fail
              go_ret
              exact ⟨by rw [H.out, HB.out]; rfl, hHeld⟩
        · (go_simp; refine (HT.out _ _ hBl hB0).mono ?_; rintro e w6 ⟨rfl, k5⟩)
          refine hK.out _ _ (hHeld.trans k5) (fun hNew => ?_)
          clear hHeld hK
          have hHeld := hNew
          clear hNew
          try simp only [Act.put, List.setIfInBounds_toArray, List.set_cons_zero, List.set_cons_succ]
          try replace hA0 := (k5.cell hAl (by simp)).trans hA0
          try replace hA1 := (k5.cell hAl (by simp)).trans hA1
          try replace hAl := Nat.lt_of_lt_of_le hAl k5.size
          clear k5
          refine wpAnyH_take (i := 15) (oi := Oper.mk _ _ _ _ _ _) (v := ?_) rfl (by kernel_rfl) (by kernel_rfl) (by kernel_rfl) (fun _ _ _ h => h) (Or.inl ⟨by rfl, ?_⟩) hHeld ?_
          rotate_left
          · (intro w hSw; (try dsimp only at hSw); (first | (go_simp; done) | (go_simp; with_reducible rfl)))
          try simp only [Act.put, List.setIfInBounds_toArray, List.set_cons_zero, List.set_cons_succ]
          refine wpAnyH_ready (rs := [8]) (by kernel_rfl) (by simp) ?_
          refine AllReadyH.cons (o := Oper.mk _ _ _ _ _ _) rfl (fun K hK => ?_) (AllReadyH.nil)
          · go_simp
            refine hK.out _ _ (hHeld.alloc _) (fun hNew => ?_)
            clear hHeld hK
            have hHeld := hNew
            clear hNew
            try simp only [Act.put, List.setIfInBounds_toArray, List.set_cons_zero, List.set_cons_succ]
            have kz : Keeps [] w6 (w6.alloc (.cells #[.int .u8 X, .int .u8 Y] 5)) := (Keeps.refl _ _).alloc _
            have hA0 : (w6.alloc (.cells #[.int .u8 X, .int .u8 Y] 5)).cell? ⟨w6.heap.size, 0, none⟩ = some (.int .u8 X) := (cell_of_heap heap_alloc_same).trans rfl
            have hA1 : (w6.alloc (.cells #[.int .u8 X, .int .u8 Y] 5)).cell? ⟨w6.heap.size, 1, none⟩ = some (.int .u8 Y) := (cell_of_heap heap_alloc_same).trans rfl
            have hAl : w6.heap.size < (w6.alloc (.cells #[.int .u8 X, .int .u8 Y] 5)).heap.size := by simp
            try replace hB0 := (kz.cell hBl (by simp)).trans hB0
            try replace hBl := Nat.lt_of_lt_of_le hBl kz.size
            clear kz
            generalize w6.alloc (.cells #[.int .u8 X, .int .u8 Y] 5) = w7 at *
            generalize w6.heap.size = gA at *
            refine wpAnyH_ready (rs := [9]) (by kernel_rfl) (by simp) ?_
            refine AllReadyH.cons (o := Oper.mk _ _ _ _ _ _) rfl (fun K hK => ?_) (AllReadyH.nil)
            · (have hcv := conv2_at _ gA X Y hA0 hA1; rw [eX.out] at hcv; go_simp)
              refine hK.out _ _ (hHeld) (fun hNew => ?_)
              clear hHeld hK
              have hHeld := hNew
              clear hNew
              try simp only [Act.put, List.setIfInBounds_toArray, List.set_cons_zero, List.set_cons_succ]
              refine wpAnyH_take (i := 11) (oi := Oper.mk _ _ _ _ _ _) (v := ?_) rfl (by kernel_rfl) (by kernel_rfl) (by kernel_rfl) (fun _ _ _ h => h) (Or.inl ⟨by rfl, ?_⟩) hHeld ?_
              rotate_left
              · (intro w hSw; (try dsimp only at hSw); (first | (go_simp; done) | (go_simp; with_reducible rfl)))
              try simp only [Act.put, List.setIfInBounds_toArray, List.set_cons_zero, List.set_cons_succ]
              refine wpAnyH_take (i := 16) (oi := Oper.mk _ _ _ _ _ _) (v := ?_) rfl (by kernel_rfl) (by kernel_rfl) (by kernel_rfl) (fun _ _ _ h => h) (Or.inl ⟨by rfl, ?_⟩) hHeld ?_
              rotate_left
              · (intro w hSw; (try dsimp only at hSw); (first | (go_simp; done) | (go_simp; with_reducible rfl)))
              try simp only [Act.put, List.setIfInBounds_toArray, List.set_cons_zero, List.set_cons_succ]
              refine wpAnyH_take (i := 17) (oi := Oper.mk _ _ _ _ _ _) (v := ?_) rfl (by kernel_rfl) (by kernel_rfl) (by kernel_rfl) (fun _ _ _ h => h) (Or.inl ⟨by rfl, ?_⟩) hHeld ?_
              rotate_left
              · (intro w hSw; (try dsimp only at hSw); (first | (go_simp; done) | (go_simp; with_reducible rfl)))
              try simp only [Act.put, List.setIfInBounds_toArray, List.set_cons_zero, List.set_cons_succ]
              refine wpAnyH_done (by kernel_rfl) ?_ _
              go_wp2_with fail
              go_ret
              exact ⟨by rw [H.out, HB.out]; rfl, hHeld⟩
    · have H : Hid (wFrame s = ⟨#[]⟩) := if_neg (by omega)
      generalize wFrame s = out at *
      go_enter Try.func34, Try.ntmps34
      go_wp2
      go_ret
      exact ⟨by rw [H.out]; rfl, Keeps.refl _ _⟩
  · have H : Hid (wFrame s = ⟨#[]⟩) := if_neg (by omega)
    generalize wFrame s = out at *
    go_enter Try.func34, Try.ntmps34
    go_wp2
    go_ret
    exact ⟨by rw [H.out]; rfl, Keeps.refl _ _⟩
end Go.Proofs.Ytkkbjkoikidjpaa
