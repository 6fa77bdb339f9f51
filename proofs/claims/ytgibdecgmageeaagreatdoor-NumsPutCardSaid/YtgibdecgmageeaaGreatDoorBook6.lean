/- The book: all that it was told of lies apart. (Printed by wip/gen_book6.py.) -/
import Derived.Test.YtgibdecgmageeaaGreatDoorBook5
namespace Go.Proofs.YtgibdecgmageeaaGreatDoor
open Go.RowKit

theorem Step.of_below {w w' : World} {A : List Asn} (hs : Sep w A) (hb : Below w.heap.size w w') : Step w w' A A :=
  ⟨hs.below hb (fun _ hk => hs.lt hk), Mods.of_below hb _, fun _ hk => .inl hk⟩
theorem book_nils {b0 g : Nat} {n : Int} {E : Value} {es fs : List Ent} {w : World} (hs : Sep w (allA b0 g n E es fs (.slice none 0 0))) : ∀ i, 2 ≤ i → i < 18 → w.cell? ⟨g, i, none⟩ = some (.slice none 0 0) := by
  intro i h2 h18
  have hB : Blk w g 54 (bookCells n E (.slice none 0 0)) := hs.head
  rw [hB.cell]
  obtain ⟨j, rfl⟩ : ∃ j, i = j + 2 := ⟨i - 2, by omega⟩
  show (List.replicate 15 (Value.slice none 0 0) ++ [Value.slice none 0 0])[j]? = _
  rw [← List.replicate_succ', List.getElem?_replicate, if_pos (by omega)]

set_option maxRecDepth 100000 in
set_option maxHeartbeats 4000000 in
theorem Apart_any (b0 g : Nat) (n : Int) (E : Value) (es : List Ent) (w : World) (hs : Sep w (allA b0 g n E es es (.slice none 0 0))) (hbare : ∀ e ∈ es, e.bare) (hes : es.length < 1000000000) (hln : ∀ e ∈ es, e.len ≤ 140737488352000) (hb0 : b0 ≤ w.heap.size) :
    Calls Tryz.prog 18 #[.pointer (some ⟨g, 0, none⟩)] w (fun e w' => e = .returned (.bool true) ∧ ∃ A', Step w w' (allA b0 g n E es es (.slice none 0 0)) A') := by
  have HS := Lib.hid hs; have HBR := Lib.hid hbare; have HLN := Lib.hid hln
  clear hs hbare hln
  go_enter Tryz.func18, Tryz.ntmps18
  go_wp2_with fail
  refine (fillByte_any b0 g n E (.slice none 0 0) es w HS.out HBR.out hes (fun e h => by have := HLN.out e h; omega)).mono ?_
  rintro e w1 ⟨rfl, h1⟩
  have hn1 := book_nils h1.sep
  have HC1 := Lib.hid hn1; have H1 := Lib.hid h1
  clear hn1 h1
  go_wp2_with (first | (go_at_call 62; refine (fillInt_nil g _ (HC1.out 2 (by omega) (by omega))).mono ?_; rintro e w' ⟨rfl, rfl⟩) | (go_at_call 63; refine (fillText_nil g _ (HC1.out 3 (by omega) (by omega))).mono ?_; rintro e w' ⟨rfl, rfl⟩) | (go_at_call 64; refine (fillNum_nil g _ (HC1.out 4 (by omega) (by omega))).mono ?_; rintro e w' ⟨rfl, rfl⟩) | (go_at_call 65; refine (fillHash_nil g _ (HC1.out 5 (by omega) (by omega))).mono ?_; rintro e w' ⟨rfl, rfl⟩) | (go_at_call 66; refine (fillReason_nil g _ (HC1.out 6 (by omega) (by omega))).mono ?_; rintro e w' ⟨rfl, rfl⟩) | (go_at_call 67; refine (fillKey_nil g _ (HC1.out 7 (by omega) (by omega))).mono ?_; rintro e w' ⟨rfl, rfl⟩) | (go_at_call 68; refine (fillProof_nil g _ (HC1.out 8 (by omega) (by omega))).mono ?_; rintro e w' ⟨rfl, rfl⟩) | (go_at_call 69; refine (fillDealing_nil g _ (HC1.out 9 (by omega) (by omega))).mono ?_; rintro e w' ⟨rfl, rfl⟩) | (go_at_call 70; refine (fillOpened_nil g _ (HC1.out 10 (by omega) (by omega))).mono ?_; rintro e w' ⟨rfl, rfl⟩) | (go_at_call 71; refine (fillShown_nil g _ (HC1.out 11 (by omega) (by omega))).mono ?_; rintro e w' ⟨rfl, rfl⟩) | (go_at_call 72; refine (fillVote_nil g _ (HC1.out 12 (by omega) (by omega))).mono ?_; rintro e w' ⟨rfl, rfl⟩) | (go_at_call 73; refine (fillBlock_nil g _ (HC1.out 13 (by omega) (by omega))).mono ?_; rintro e w' ⟨rfl, rfl⟩) | (go_at_call 74; refine (fillEvidence_nil g _ (HC1.out 14 (by omega) (by omega))).mono ?_; rintro e w' ⟨rfl, rfl⟩) | (go_at_call 75; refine (fillMsg_nil g _ (HC1.out 15 (by omega) (by omega))).mono ?_; rintro e w' ⟨rfl, rfl⟩) | (go_at_call 76; refine (fillFrame_nil g _ (HC1.out 16 (by omega) (by omega))).mono ?_; rintro e w' ⟨rfl, rfl⟩) | (go_at_call 77; refine (fillRecord_nil g _ (HC1.out 17 (by omega) (by omega))).mono ?_; rintro e w' ⟨rfl, rfl⟩))
  have hsep1 : Sep w1 (allA b0 g n E (es.map Ent.filled) (es.map Ent.filled) (.slice none 0 0)) := by
    have := H1.out.sep
    unfold allA bookA at this ⊢
    rw [flat_filled, List.length_map]; exact this
  have hlen : (es.map Ent.filled).length < 1000000000 := by rw [List.length_map]; exact hes
  have hfx : ∀ e ∈ es.map Ent.filled, e.xs = List.replicate e.len (mark e) := by
    intro e he; obtain ⟨a, _, rfl⟩ := List.mem_map.1 he; rfl
  have hfl : ∀ e ∈ es.map Ent.filled, e.len ≤ 140737488352000 := by
    intro e he; obtain ⟨a, ha, rfl⟩ := List.mem_map.1 he; exact HLN.out a ha
  have hb1 : b0 ≤ w1.heap.size := Nat.le_trans hb0 H1.out.mods.size
  have HG := Lib.hid (growByte_any b0 g n E (.slice none 0 0) (es.map Ent.filled) w1 hsep1 hfx hlen (fun e h => by have := hfl e h; omega) hb1)
  have HFX := Lib.hid hfx; have HFL := Lib.hid hfl; have HS1 := Lib.hid hsep1
  clear hsep1 hlen hfx hfl
  refine HG.out.mono ?_
  rintro e w2 ⟨rfl, fs, hfl, hgr, h2⟩
  have hn2 := book_nils h2.sep
  have HC2 := Lib.hid hn2; have H2 := Lib.hid h2; have HGR := Lib.hid hgr
  clear hn2 h2 hgr HG
  go_wp2_with (first | (go_at_call 79; refine (growInt_nil g _ (HC2.out 2 (by omega) (by omega))).mono ?_; rintro e w' ⟨rfl, rfl⟩) | (go_at_call 80; refine (growText_nil g _ (HC2.out 3 (by omega) (by omega))).mono ?_; rintro e w' ⟨rfl, rfl⟩) | (go_at_call 81; refine (growNum_nil g _ (HC2.out 4 (by omega) (by omega))).mono ?_; rintro e w' ⟨rfl, rfl⟩) | (go_at_call 82; refine (growHash_nil g _ (HC2.out 5 (by omega) (by omega))).mono ?_; rintro e w' ⟨rfl, rfl⟩) | (go_at_call 83; refine (growReason_nil g _ (HC2.out 6 (by omega) (by omega))).mono ?_; rintro e w' ⟨rfl, rfl⟩) | (go_at_call 84; refine (growKey_nil g _ (HC2.out 7 (by omega) (by omega))).mono ?_; rintro e w' ⟨rfl, rfl⟩) | (go_at_call 85; refine (growProof_nil g _ (HC2.out 8 (by omega) (by omega))).mono ?_; rintro e w' ⟨rfl, rfl⟩) | (go_at_call 86; refine (growDealing_nil g _ (HC2.out 9 (by omega) (by omega))).mono ?_; rintro e w' ⟨rfl, rfl⟩) | (go_at_call 87; refine (growOpened_nil g _ (HC2.out 10 (by omega) (by omega))).mono ?_; rintro e w' ⟨rfl, rfl⟩) | (go_at_call 88; refine (growShown_nil g _ (HC2.out 11 (by omega) (by omega))).mono ?_; rintro e w' ⟨rfl, rfl⟩) | (go_at_call 89; refine (growVote_nil g _ (HC2.out 12 (by omega) (by omega))).mono ?_; rintro e w' ⟨rfl, rfl⟩) | (go_at_call 90; refine (growBlock_nil g _ (HC2.out 13 (by omega) (by omega))).mono ?_; rintro e w' ⟨rfl, rfl⟩) | (go_at_call 91; refine (growEvidence_nil g _ (HC2.out 14 (by omega) (by omega))).mono ?_; rintro e w' ⟨rfl, rfl⟩) | (go_at_call 92; refine (growMsg_nil g _ (HC2.out 15 (by omega) (by omega))).mono ?_; rintro e w' ⟨rfl, rfl⟩) | (go_at_call 93; refine (growFrame_nil g _ (HC2.out 16 (by omega) (by omega))).mono ?_; rintro e w' ⟨rfl, rfl⟩) | (go_at_call 94; refine (growRecord_nil g _ (HC2.out 17 (by omega) (by omega))).mono ?_; rintro e w' ⟨rfl, rfl⟩))
  have hmk : ∀ f ∈ fs, f.marked ∧ f.len ≤ 140737488352000 := by
    intro f hf
    obtain ⟨i, hi, rfl⟩ := List.getElem_of_mem hf
    obtain ⟨k1, k2, k3, k4, k5, k6, k7⟩ := HGR.out i (by omega)
    have hm := List.getElem_mem (l := es.map Ent.filled) (n := i) (by omega)
    refine ⟨⟨by rw [k6, k2], ?_, ?_⟩, by rw [k2]; exact HFL.out _ hm⟩
    · rw [k5, k2, HFX.out _ hm]; unfold mark; rw [k4]
    · rw [k7, k2]; unfold mark; rw [k4]
  have HLK := Lib.hid (lookByte_any b0 g n E (.slice none 0 0) fs w2 H2.out.sep (fun f h => (hmk f h).1) (by rw [hfl, List.length_map]; exact hes) (fun f h => by have := (hmk f h).2; omega))
  clear hmk HGR hfl
  refine HLK.out.mono ?_
  rintro e w3 ⟨rfl, h3⟩
  have hst3 := Step.of_below H2.out.sep h3
  have hn3 := book_nils hst3.sep
  have HC3 := Lib.hid hn3; have H3 := Lib.hid hst3
  clear hn3 hst3 h3 HLK
  go_wp2_with (first | (go_at_call 96; refine (lookInt_nil g _ (HC3.out 2 (by omega) (by omega))).mono ?_; rintro e w' ⟨rfl, rfl⟩) | (go_at_call 97; refine (lookText_nil g _ (HC3.out 3 (by omega) (by omega))).mono ?_; rintro e w' ⟨rfl, rfl⟩) | (go_at_call 98; refine (lookNum_nil g _ (HC3.out 4 (by omega) (by omega))).mono ?_; rintro e w' ⟨rfl, rfl⟩) | (go_at_call 99; refine (lookHash_nil g _ (HC3.out 5 (by omega) (by omega))).mono ?_; rintro e w' ⟨rfl, rfl⟩) | (go_at_call 100; refine (lookReason_nil g _ (HC3.out 6 (by omega) (by omega))).mono ?_; rintro e w' ⟨rfl, rfl⟩) | (go_at_call 101; refine (lookKey_nil g _ (HC3.out 7 (by omega) (by omega))).mono ?_; rintro e w' ⟨rfl, rfl⟩) | (go_at_call 102; refine (lookProof_nil g _ (HC3.out 8 (by omega) (by omega))).mono ?_; rintro e w' ⟨rfl, rfl⟩) | (go_at_call 103; refine (lookDealing_nil g _ (HC3.out 9 (by omega) (by omega))).mono ?_; rintro e w' ⟨rfl, rfl⟩) | (go_at_call 104; refine (lookOpened_nil g _ (HC3.out 10 (by omega) (by omega))).mono ?_; rintro e w' ⟨rfl, rfl⟩) | (go_at_call 105; refine (lookShown_nil g _ (HC3.out 11 (by omega) (by omega))).mono ?_; rintro e w' ⟨rfl, rfl⟩) | (go_at_call 106; refine (lookVote_nil g _ (HC3.out 12 (by omega) (by omega))).mono ?_; rintro e w' ⟨rfl, rfl⟩) | (go_at_call 107; refine (lookBlock_nil g _ (HC3.out 13 (by omega) (by omega))).mono ?_; rintro e w' ⟨rfl, rfl⟩) | (go_at_call 108; refine (lookEvidence_nil g _ (HC3.out 14 (by omega) (by omega))).mono ?_; rintro e w' ⟨rfl, rfl⟩) | (go_at_call 109; refine (lookMsg_nil g _ (HC3.out 15 (by omega) (by omega))).mono ?_; rintro e w' ⟨rfl, rfl⟩) | (go_at_call 110; refine (lookFrame_nil g _ (HC3.out 16 (by omega) (by omega))).mono ?_; rintro e w' ⟨rfl, rfl⟩) | (go_at_call 111; refine (lookRecord_nil g _ (HC3.out 17 (by omega) (by omega))).mono ?_; rintro e w' ⟨rfl, rfl⟩))
  go_ret
  have e1 : allA b0 g n E es (es.map Ent.filled) (.slice none 0 0) = allA b0 g n E (es.map Ent.filled) (es.map Ent.filled) (.slice none 0 0) := by
    unfold allA bookA; rw [flat_filled, List.length_map]
  have h1 := H1.out
  rw [e1] at h1
  exact ⟨rfl, _, h1.trans (H2.out.trans H3.out)⟩
end Go.Proofs.YtgibdecgmageeaaGreatDoor
