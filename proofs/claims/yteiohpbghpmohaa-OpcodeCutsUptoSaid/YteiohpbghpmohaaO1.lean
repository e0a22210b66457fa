import Derived.Test.YteiohpbghpmohaaLibI
import Derived.Test.YteiohpbghpmohaaProg
set_option linter.unusedVariables false
set_option linter.unusedSimpArgs false
namespace Go.Proofs.Yteiohpbghpmohaa.O1
open Go.RowKit Go.Proofs.Yteiohpbghpmohaa.LibA Go.Proofs.Yteiohpbghpmohaa.LibC Go.Proofs.Yteiohpbghpmohaa.LibS Go.Proofs.Yteiohpbghpmohaa.LibR Go.Proofs.Yteiohpbghpmohaa.LibT Go.Proofs.Yteiohpbghpmohaa.LibU Go.Proofs.Yteiohpbghpmohaa.LibV Go.Proofs.Yteiohpbghpmohaa.LibW Go.Proofs.Yteiohpbghpmohaa.LibX Go.Proofs.Yteiohpbghpmohaa.LibY Go.Proofs.Yteiohpbghpmohaa.LibZ Go.Proofs.Yteiohpbghpmohaa.LibQ Go.Proofs.Yteiohpbghpmohaa.LibP Go.Proofs.Yteiohpbghpmohaa.LibN Go.Proofs.Yteiohpbghpmohaa.LibH Go.Proofs.Yteiohpbghpmohaa.LibI
abbrev RowD := Int × ByteArray × Int
def rowC (r : RowD) : List Value := [.int .i64 r.1, .string r.2.1, .int .i64 r.2.2]
def tblL : List RowD := [(0, ⟨#[110, 111, 112]⟩, 0), (1, ⟨#[97, 99, 111, 110, 115, 116, 95, 110, 117, 108, 108]⟩, 0), (2, ⟨#[105, 99, 111, 110, 115, 116, 95, 109, 49]⟩, 0), (3, ⟨#[105, 99, 111, 110, 115, 116, 95, 48]⟩, 0), (4, ⟨#[105, 99, 111, 110, 115, 116, 95, 49]⟩, 0), (5, ⟨#[105, 99, 111, 110, 115, 116, 95, 50]⟩, 0), (6, ⟨#[105, 99, 111, 110, 115, 116, 95, 51]⟩, 0), (7, ⟨#[105, 99, 111, 110, 115, 116, 95, 52]⟩, 0), (8, ⟨#[105, 99, 111, 110, 115, 116, 95, 53]⟩, 0), (9, ⟨#[108, 99, 111, 110, 115, 116, 95, 48]⟩, 0), (10, ⟨#[108, 99, 111, 110, 115, 116, 95, 49]⟩, 0), (16, ⟨#[98, 105, 112, 117, 115, 104]⟩, 2), (17, ⟨#[115, 105, 112, 117, 115, 104]⟩, 3), (18, ⟨#[108, 100, 99]⟩, 4), (20, ⟨#[108, 100, 99, 50, 95, 119]⟩, 5), (21, ⟨#[105, 108, 111, 97, 100]⟩, 1), (22, ⟨#[108, 108, 111, 97, 100]⟩, 1), (25, ⟨#[97, 108, 111, 97, 100]⟩, 1), (26, ⟨#[105, 108, 111, 97, 100, 95, 48]⟩, 0), (27, ⟨#[105, 108, 111, 97, 100, 95, 49]⟩, 0), (28, ⟨#[105, 108, 111, 97, 100, 95, 50]⟩, 0), (29, ⟨#[105, 108, 111, 97, 100, 95, 51]⟩, 0), (30, ⟨#[108, 108, 111, 97, 100, 95, 48]⟩, 0), (31, ⟨#[108, 108, 111, 97, 100, 95, 49]⟩, 0), (32, ⟨#[108, 108, 111, 97, 100, 95, 50]⟩, 0), (33, ⟨#[108, 108, 111, 97, 100, 95, 51]⟩, 0), (42, ⟨#[97, 108, 111, 97, 100, 95, 48]⟩, 0), (43, ⟨#[97, 108, 111, 97, 100, 95, 49]⟩, 0), (44, ⟨#[97, 108, 111, 97, 100, 95, 50]⟩, 0), (45, ⟨#[97, 108, 111, 97, 100, 95, 51]⟩, 0), (46, ⟨#[105, 97, 108, 111, 97, 100]⟩, 0), (47, ⟨#[108, 97, 108, 111, 97, 100]⟩, 0), (50, ⟨#[97, 97, 108, 111, 97, 100]⟩, 0), (54, ⟨#[105, 115, 116, 111, 114, 101]⟩, 1), (55, ⟨#[108, 115, 116, 111, 114, 101]⟩, 1), (58, ⟨#[97, 115, 116, 111, 114, 101]⟩, 1), (59, ⟨#[105, 115, 116, 111, 114, 101, 95, 48]⟩, 0), (60, ⟨#[105, 115, 116, 111, 114, 101, 95, 49]⟩, 0), (61, ⟨#[105, 115, 116, 111, 114, 101, 95, 50]⟩, 0), (62, ⟨#[105, 115, 116, 111, 114, 101, 95, 51]⟩, 0), (63, ⟨#[108, 115, 116, 111, 114, 101, 95, 48]⟩, 0), (64, ⟨#[108, 115, 116, 111, 114, 101, 95, 49]⟩, 0), (65, ⟨#[108, 115, 116, 111, 114, 101, 95, 50]⟩, 0), (66, ⟨#[108, 115, 116, 111, 114, 101, 95, 51]⟩, 0), (75, ⟨#[97, 115, 116, 111, 114, 101, 95, 48]⟩, 0), (76, ⟨#[97, 115, 116, 111, 114, 101, 95, 49]⟩, 0), (77, ⟨#[97, 115, 116, 111, 114, 101, 95, 50]⟩, 0), (78, ⟨#[97, 115, 116, 111, 114, 101, 95, 51]⟩, 0), (79, ⟨#[105, 97, 115, 116, 111, 114, 101]⟩, 0), (80, ⟨#[108, 97, 115, 116, 111, 114, 101]⟩, 0), (83, ⟨#[97, 97, 115, 116, 111, 114, 101]⟩, 0), (87, ⟨#[112, 111, 112]⟩, 0), (89, ⟨#[100, 117, 112]⟩, 0), (90, ⟨#[100, 117, 112, 95, 120, 49]⟩, 0), (95, ⟨#[115, 119, 97, 112]⟩, 0), (96, ⟨#[105, 97, 100, 100]⟩, 0), (97, ⟨#[108, 97, 100, 100]⟩, 0), (100, ⟨#[105, 115, 117, 98]⟩, 0), (101, ⟨#[108, 115, 117, 98]⟩, 0), (104, ⟨#[105, 109, 117, 108]⟩, 0), (105, ⟨#[108, 109, 117, 108]⟩, 0), (108, ⟨#[105, 100, 105, 118]⟩, 0), (109, ⟨#[108, 100, 105, 118]⟩, 0), (112, ⟨#[105, 114, 101, 109]⟩, 0), (113, ⟨#[108, 114, 101, 109]⟩, 0), (116, ⟨#[105, 110, 101, 103]⟩, 0), (117, ⟨#[108, 110, 101, 103]⟩, 0), (120, ⟨#[105, 115, 104, 108]⟩, 0), (121, ⟨#[108, 115, 104, 108]⟩, 0), (122, ⟨#[105, 115, 104, 114]⟩, 0), (123, ⟨#[108, 115, 104, 114]⟩, 0), (124, ⟨#[105, 117, 115, 104, 114]⟩, 0), (125, ⟨#[108, 117, 115, 104, 114]⟩, 0), (126, ⟨#[105, 97, 110, 100]⟩, 0), (127, ⟨#[108, 97, 110, 100]⟩, 0), (128, ⟨#[105, 111, 114]⟩, 0), (129, ⟨#[108, 111, 114]⟩, 0), (130, ⟨#[105, 120, 111, 114]⟩, 0), (131, ⟨#[108, 120, 111, 114]⟩, 0), (132, ⟨#[105, 105, 110, 99]⟩, 7), (133, ⟨#[105, 50, 108]⟩, 0), (136, ⟨#[108, 50, 105]⟩, 0), (145, ⟨#[105, 50, 98]⟩, 0), (146, ⟨#[105, 50, 99]⟩, 0), (147, ⟨#[105, 50, 115]⟩, 0), (148, ⟨#[108, 99, 109, 112]⟩, 0), (153, ⟨#[105, 102, 101, 113]⟩, 6), (154, ⟨#[105, 102, 110, 101]⟩, 6), (155, ⟨#[105, 102, 108, 116]⟩, 6), (156, ⟨#[105, 102, 103, 101]⟩, 6), (157, ⟨#[105, 102, 103, 116]⟩, 6), (158, ⟨#[105, 102, 108, 101]⟩, 6), (159, ⟨#[105, 102, 95, 105, 99, 109, 112, 101, 113]⟩, 6), (160, ⟨#[105, 102, 95, 105, 99, 109, 112, 110, 101]⟩, 6), (161, ⟨#[105, 102, 95, 105, 99, 109, 112, 108, 116]⟩, 6), (162, ⟨#[105, 102, 95, 105, 99, 109, 112, 103, 101]⟩, 6), (163, ⟨#[105, 102, 95, 105, 99, 109, 112, 103, 116]⟩, 6), (164, ⟨#[105, 102, 95, 105, 99, 109, 112, 108, 101]⟩, 6), (165, ⟨#[105, 102, 95, 97, 99, 109, 112, 101, 113]⟩, 6), (166, ⟨#[105, 102, 95, 97, 99, 109, 112, 110, 101]⟩, 6), (167, ⟨#[103, 111, 116, 111]⟩, 6), (172, ⟨#[105, 114, 101, 116, 117, 114, 110]⟩, 0), (173, ⟨#[108, 114, 101, 116, 117, 114, 110]⟩, 0), (176, ⟨#[97, 114, 101, 116, 117, 114, 110]⟩, 0), (177, ⟨#[114, 101, 116, 117, 114, 110]⟩, 0), (178, ⟨#[103, 101, 116, 115, 116, 97, 116, 105, 99]⟩, 5), (179, ⟨#[112, 117, 116, 115, 116, 97, 116, 105, 99]⟩, 5), (180, ⟨#[103, 101, 116, 102, 105, 101, 108, 100]⟩, 5), (181, ⟨#[112, 117, 116, 102, 105, 101, 108, 100]⟩, 5), (182, ⟨#[105, 110, 118, 111, 107, 101, 118, 105, 114, 116, 117, 97, 108]⟩, 5), (183, ⟨#[105, 110, 118, 111, 107, 101, 115, 112, 101, 99, 105, 97, 108]⟩, 5), (184, ⟨#[105, 110, 118, 111, 107, 101, 115, 116, 97, 116, 105, 99]⟩, 5), (187, ⟨#[110, 101, 119]⟩, 5), (188, ⟨#[110, 101, 119, 97, 114, 114, 97, 121]⟩, 8), (189, ⟨#[97, 110, 101, 119, 97, 114, 114, 97, 121]⟩, 5), (190, ⟨#[97, 114, 114, 97, 121, 108, 101, 110, 103, 116, 104]⟩, 0), (191, ⟨#[97, 116, 104, 114, 111, 119]⟩, 0), (192, ⟨#[99, 104, 101, 99, 107, 99, 97, 115, 116]⟩, 5), (193, ⟨#[105, 110, 115, 116, 97, 110, 99, 101, 111, 102]⟩, 5), (198, ⟨#[105, 102, 110, 117, 108, 108]⟩, 6), (199, ⟨#[105, 102, 110, 111, 110, 110, 117, 108, 108]⟩, 6)]
theorem tbl_len : tblL.length = 121 := rfl
def CI (x : Int) : List Value := [.int .i64 x]
def C8 (x : UInt8) : List Value := [.int .u8 ((x.toNat : Nat) : Int)]
abbrev InsD := Int × Int × Int × Int
def insC (x : InsD) : List Value := [.int .i64 x.1, .int .i64 x.2.1, .int .i64 x.2.2.1, .int .i64 x.2.2.2]
/-- an opcode's row -/
def rowOf (op : Int) : Option RowD := tblL.find? fun r => r.1 == op
def rowNm (s : ByteArray) : Option RowD := tblL.find? fun r => r.2.1 == s
theorem find_at {α : Type} {l : List α} {p : α → Bool} {k : Nat} (hk : k < l.length) (h1 : p l[k] = true) (h2 : ∀ j, j < k → ∀ h : j < l.length, p l[j] = false) : l.find? p = some l[k] := by
  induction l generalizing k with
  | nil => simp at hk
  | cons x r ih =>
    cases k with
    | zero => simp at h1; simp [h1]
    | succ k =>
      have h0 := h2 0 (by omega) (by simp)
      simp at h0
      rw [List.find?_cons, h0]
      exact ih (by simpa using hk) (by simpa using h1) (fun j hj h => by have h3 := h2 (j + 1) (by omega) (by simp; omega); rwa [List.getElem_cons_succ] at h3)
theorem find_no {α : Type} {l : List α} {p : α → Bool} (h2 : ∀ j, ∀ h : j < l.length, p l[j] = false) : l.find? p = none := by
  rw [List.find?_eq_none]
  intro x hx
  obtain ⟨j, hj, rfl⟩ := List.mem_iff_getElem.1 hx
  simp [h2 j hj]


set_option maxRecDepth 100000 in
set_option maxHeartbeats 4000000 in
theorem rows_calls (w0 : World) : Calls Try.prog 58 #[] w0 fun e w' => ∃ b, e = .returned (.slice (some ⟨b, 0, none⟩) tblL.length 121) ∧ Els rowC 3 w' (some ⟨b, 0, none⟩) tblL ∧ w0.heap.size ≤ b ∧ Agr [] w0 w' := by
  have st := St.start w0 []
  refine enter Try.func58 rfl Try.ntmps58 (by simp) ?_
  intro a fr
  refine wp_seq ?_
  refine reg ?_
  refine lst rfl (ow_v fr (rn_assign (fr.ev rfl)) rfl rfl ?_)
  intro a fr
  refine wpList_nil ?_
  refine then_n ?_
  refine wp_seq ?_
  refine reg ?_
  refine lst rfl (ow_v fr (rn_build (cells := #[.int .i64 0, (.string { data := #[110, 111, 112] }), .int .i64 0]) (by simp only [List.map_toArray, List.map_cons, List.map_nil]; rfl)) rfl rfl ?_)
  intro a fr
  refine lst rfl (ow_v fr (rn_build (cells := #[.int .i64 1, (.string { data := #[97, 99, 111, 110, 115, 116, 95, 110, 117, 108, 108] }), .int .i64 0]) (by simp only [List.map_toArray, List.map_cons, List.map_nil]; rfl)) rfl rfl ?_)
  intro a fr
  refine lst rfl (ow_v fr (rn_build (cells := #[.int .i64 2, (.string { data := #[105, 99, 111, 110, 115, 116, 95, 109, 49] }), .int .i64 0]) (by simp only [List.map_toArray, List.map_cons, List.map_nil]; rfl)) rfl rfl ?_)
  intro a fr
  refine lst rfl (ow_v fr (rn_build (cells := #[.int .i64 3, (.string { data := #[105, 99, 111, 110, 115, 116, 95, 48] }), .int .i64 0]) (by simp only [List.map_toArray, List.map_cons, List.map_nil]; rfl)) rfl rfl ?_)
  intro a fr
  refine lst rfl (ow_v fr (rn_build (cells := #[.int .i64 4, (.string { data := #[105, 99, 111, 110, 115, 116, 95, 49] }), .int .i64 0]) (by simp only [List.map_toArray, List.map_cons, List.map_nil]; rfl)) rfl rfl ?_)
  intro a fr
  refine lst rfl (ow_v fr (rn_build (cells := #[.int .i64 5, (.string { data := #[105, 99, 111, 110, 115, 116, 95, 50] }), .int .i64 0]) (by simp only [List.map_toArray, List.map_cons, List.map_nil]; rfl)) rfl rfl ?_)
  intro a fr
  refine lst rfl (ow_v fr (rn_build (cells := #[.int .i64 6, (.string { data := #[105, 99, 111, 110, 115, 116, 95, 51] }), .int .i64 0]) (by simp only [List.map_toArray, List.map_cons, List.map_nil]; rfl)) rfl rfl ?_)
  intro a fr
  refine lst rfl (ow_v fr (rn_build (cells := #[.int .i64 7, (.string { data := #[105, 99, 111, 110, 115, 116, 95, 52] }), .int .i64 0]) (by simp only [List.map_toArray, List.map_cons, List.map_nil]; rfl)) rfl rfl ?_)
  intro a fr
  refine lst rfl (ow_v fr (rn_build (cells := #[.int .i64 8, (.string { data := #[105, 99, 111, 110, 115, 116, 95, 53] }), .int .i64 0]) (by simp only [List.map_toArray, List.map_cons, List.map_nil]; rfl)) rfl rfl ?_)
  intro a fr
  refine lst rfl (ow_v fr (rn_build (cells := #[.int .i64 9, (.string { data := #[108, 99, 111, 110, 115, 116, 95, 48] }), .int .i64 0]) (by simp only [List.map_toArray, List.map_cons, List.map_nil]; rfl)) rfl rfl ?_)
  intro a fr
  refine lst rfl (ow_v fr (rn_build (cells := #[.int .i64 10, (.string { data := #[108, 99, 111, 110, 115, 116, 95, 49] }), .int .i64 0]) (by simp only [List.map_toArray, List.map_cons, List.map_nil]; rfl)) rfl rfl ?_)
  intro a fr
  refine lst rfl (ow_v fr (rn_build (cells := #[.int .i64 16, (.string { data := #[98, 105, 112, 117, 115, 104] }), .int .i64 2]) (by simp only [List.map_toArray, List.map_cons, List.map_nil]; rfl)) rfl rfl ?_)
  intro a fr
  refine lst rfl (ow_v fr (rn_build (cells := #[.int .i64 17, (.string { data := #[115, 105, 112, 117, 115, 104] }), .int .i64 3]) (by simp only [List.map_toArray, List.map_cons, List.map_nil]; rfl)) rfl rfl ?_)
  intro a fr
  refine lst rfl (ow_v fr (rn_build (cells := #[.int .i64 18, (.string { data := #[108, 100, 99] }), .int .i64 4]) (by simp only [List.map_toArray, List.map_cons, List.map_nil]; rfl)) rfl rfl ?_)
  intro a fr
  refine lst rfl (ow_v fr (rn_build (cells := #[.int .i64 20, (.string { data := #[108, 100, 99, 50, 95, 119] }), .int .i64 5]) (by simp only [List.map_toArray, List.map_cons, List.map_nil]; rfl)) rfl rfl ?_)
  intro a fr
  refine lst rfl (ow_v fr (rn_build (cells := #[.int .i64 21, (.string { data := #[105, 108, 111, 97, 100] }), .int .i64 1]) (by simp only [List.map_toArray, List.map_cons, List.map_nil]; rfl)) rfl rfl ?_)
  intro a fr
  refine lst rfl (ow_v fr (rn_build (cells := #[.int .i64 22, (.string { data := #[108, 108, 111, 97, 100] }), .int .i64 1]) (by simp only [List.map_toArray, List.map_cons, List.map_nil]; rfl)) rfl rfl ?_)
  intro a fr
  refine lst rfl (ow_v fr (rn_build (cells := #[.int .i64 25, (.string { data := #[97, 108, 111, 97, 100] }), .int .i64 1]) (by simp only [List.map_toArray, List.map_cons, List.map_nil]; rfl)) rfl rfl ?_)
  intro a fr
  refine lst rfl (ow_v fr (rn_build (cells := #[.int .i64 26, (.string { data := #[105, 108, 111, 97, 100, 95, 48] }), .int .i64 0]) (by simp only [List.map_toArray, List.map_cons, List.map_nil]; rfl)) rfl rfl ?_)
  intro a fr
  refine lst rfl (ow_v fr (rn_build (cells := #[.int .i64 27, (.string { data := #[105, 108, 111, 97, 100, 95, 49] }), .int .i64 0]) (by simp only [List.map_toArray, List.map_cons, List.map_nil]; rfl)) rfl rfl ?_)
  intro a fr
  refine lst rfl (ow_v fr (rn_build (cells := #[.int .i64 28, (.string { data := #[105, 108, 111, 97, 100, 95, 50] }), .int .i64 0]) (by simp only [List.map_toArray, List.map_cons, List.map_nil]; rfl)) rfl rfl ?_)
  intro a fr
  refine lst rfl (ow_v fr (rn_build (cells := #[.int .i64 29, (.string { data := #[105, 108, 111, 97, 100, 95, 51] }), .int .i64 0]) (by simp only [List.map_toArray, List.map_cons, List.map_nil]; rfl)) rfl rfl ?_)
  intro a fr
  refine lst rfl (ow_v fr (rn_build (cells := #[.int .i64 30, (.string { data := #[108, 108, 111, 97, 100, 95, 48] }), .int .i64 0]) (by simp only [List.map_toArray, List.map_cons, List.map_nil]; rfl)) rfl rfl ?_)
  intro a fr
  refine lst rfl (ow_v fr (rn_build (cells := #[.int .i64 31, (.string { data := #[108, 108, 111, 97, 100, 95, 49] }), .int .i64 0]) (by simp only [List.map_toArray, List.map_cons, List.map_nil]; rfl)) rfl rfl ?_)
  intro a fr
  refine lst rfl (ow_v fr (rn_build (cells := #[.int .i64 32, (.string { data := #[108, 108, 111, 97, 100, 95, 50] }), .int .i64 0]) (by simp only [List.map_toArray, List.map_cons, List.map_nil]; rfl)) rfl rfl ?_)
  intro a fr
  refine lst rfl (ow_v fr (rn_build (cells := #[.int .i64 33, (.string { data := #[108, 108, 111, 97, 100, 95, 51] }), .int .i64 0]) (by simp only [List.map_toArray, List.map_cons, List.map_nil]; rfl)) rfl rfl ?_)
  intro a fr
  refine lst rfl (ow_v fr (rn_build (cells := #[.int .i64 42, (.string { data := #[97, 108, 111, 97, 100, 95, 48] }), .int .i64 0]) (by simp only [List.map_toArray, List.map_cons, List.map_nil]; rfl)) rfl rfl ?_)
  intro a fr
  refine lst rfl (ow_v fr (rn_build (cells := #[.int .i64 43, (.string { data := #[97, 108, 111, 97, 100, 95, 49] }), .int .i64 0]) (by simp only [List.map_toArray, List.map_cons, List.map_nil]; rfl)) rfl rfl ?_)
  intro a fr
  refine lst rfl (ow_v fr (rn_build (cells := #[.int .i64 44, (.string { data := #[97, 108, 111, 97, 100, 95, 50] }), .int .i64 0]) (by simp only [List.map_toArray, List.map_cons, List.map_nil]; rfl)) rfl rfl ?_)
  intro a fr
  refine lst rfl (ow_v fr (rn_build (cells := #[.int .i64 45, (.string { data := #[97, 108, 111, 97, 100, 95, 51] }), .int .i64 0]) (by simp only [List.map_toArray, List.map_cons, List.map_nil]; rfl)) rfl rfl ?_)
  intro a fr
  refine lst rfl (ow_v fr (rn_build (cells := #[.int .i64 46, (.string { data := #[105, 97, 108, 111, 97, 100] }), .int .i64 0]) (by simp only [List.map_toArray, List.map_cons, List.map_nil]; rfl)) rfl rfl ?_)
  intro a fr
  refine lst rfl (ow_v fr (rn_build (cells := #[.int .i64 47, (.string { data := #[108, 97, 108, 111, 97, 100] }), .int .i64 0]) (by simp only [List.map_toArray, List.map_cons, List.map_nil]; rfl)) rfl rfl ?_)
  intro a fr
  refine lst rfl (ow_v fr (rn_build (cells := #[.int .i64 50, (.string { data := #[97, 97, 108, 111, 97, 100] }), .int .i64 0]) (by simp only [List.map_toArray, List.map_cons, List.map_nil]; rfl)) rfl rfl ?_)
  intro a fr
  refine lst rfl (ow_v fr (rn_build (cells := #[.int .i64 54, (.string { data := #[105, 115, 116, 111, 114, 101] }), .int .i64 1]) (by simp only [List.map_toArray, List.map_cons, List.map_nil]; rfl)) rfl rfl ?_)
  intro a fr
  refine lst rfl (ow_v fr (rn_build (cells := #[.int .i64 55, (.string { data := #[108, 115, 116, 111, 114, 101] }), .int .i64 1]) (by simp only [List.map_toArray, List.map_cons, List.map_nil]; rfl)) rfl rfl ?_)
  intro a fr
  refine lst rfl (ow_v fr (rn_build (cells := #[.int .i64 58, (.string { data := #[97, 115, 116, 111, 114, 101] }), .int .i64 1]) (by simp only [List.map_toArray, List.map_cons, List.map_nil]; rfl)) rfl rfl ?_)
  intro a fr
  refine lst rfl (ow_v fr (rn_build (cells := #[.int .i64 59, (.string { data := #[105, 115, 116, 111, 114, 101, 95, 48] }), .int .i64 0]) (by simp only [List.map_toArray, List.map_cons, List.map_nil]; rfl)) rfl rfl ?_)
  intro a fr
  refine lst rfl (ow_v fr (rn_build (cells := #[.int .i64 60, (.string { data := #[105, 115, 116, 111, 114, 101, 95, 49] }), .int .i64 0]) (by simp only [List.map_toArray, List.map_cons, List.map_nil]; rfl)) rfl rfl ?_)
  intro a fr
  refine lst rfl (ow_v fr (rn_build (cells := #[.int .i64 61, (.string { data := #[105, 115, 116, 111, 114, 101, 95, 50] }), .int .i64 0]) (by simp only [List.map_toArray, List.map_cons, List.map_nil]; rfl)) rfl rfl ?_)
  intro a fr
  refine lst rfl (ow_v fr (rn_build (cells := #[.int .i64 62, (.string { data := #[105, 115, 116, 111, 114, 101, 95, 51] }), .int .i64 0]) (by simp only [List.map_toArray, List.map_cons, List.map_nil]; rfl)) rfl rfl ?_)
  intro a fr
  refine lst rfl (ow_v fr (rn_build (cells := #[.int .i64 63, (.string { data := #[108, 115, 116, 111, 114, 101, 95, 48] }), .int .i64 0]) (by simp only [List.map_toArray, List.map_cons, List.map_nil]; rfl)) rfl rfl ?_)
  intro a fr
  refine lst rfl (ow_v fr (rn_build (cells := #[.int .i64 64, (.string { data := #[108, 115, 116, 111, 114, 101, 95, 49] }), .int .i64 0]) (by simp only [List.map_toArray, List.map_cons, List.map_nil]; rfl)) rfl rfl ?_)
  intro a fr
  refine lst rfl (ow_v fr (rn_build (cells := #[.int .i64 65, (.string { data := #[108, 115, 116, 111, 114, 101, 95, 50] }), .int .i64 0]) (by simp only [List.map_toArray, List.map_cons, List.map_nil]; rfl)) rfl rfl ?_)
  intro a fr
  refine lst rfl (ow_v fr (rn_build (cells := #[.int .i64 66, (.string { data := #[108, 115, 116, 111, 114, 101, 95, 51] }), .int .i64 0]) (by simp only [List.map_toArray, List.map_cons, List.map_nil]; rfl)) rfl rfl ?_)
  intro a fr
  refine lst rfl (ow_v fr (rn_build (cells := #[.int .i64 75, (.string { data := #[97, 115, 116, 111, 114, 101, 95, 48] }), .int .i64 0]) (by simp only [List.map_toArray, List.map_cons, List.map_nil]; rfl)) rfl rfl ?_)
  intro a fr
  refine lst rfl (ow_v fr (rn_build (cells := #[.int .i64 76, (.string { data := #[97, 115, 116, 111, 114, 101, 95, 49] }), .int .i64 0]) (by simp only [List.map_toArray, List.map_cons, List.map_nil]; rfl)) rfl rfl ?_)
  intro a fr
  refine lst rfl (ow_v fr (rn_build (cells := #[.int .i64 77, (.string { data := #[97, 115, 116, 111, 114, 101, 95, 50] }), .int .i64 0]) (by simp only [List.map_toArray, List.map_cons, List.map_nil]; rfl)) rfl rfl ?_)
  intro a fr
  refine lst rfl (ow_v fr (rn_build (cells := #[.int .i64 78, (.string { data := #[97, 115, 116, 111, 114, 101, 95, 51] }), .int .i64 0]) (by simp only [List.map_toArray, List.map_cons, List.map_nil]; rfl)) rfl rfl ?_)
  intro a fr
  refine lst rfl (ow_v fr (rn_build (cells := #[.int .i64 79, (.string { data := #[105, 97, 115, 116, 111, 114, 101] }), .int .i64 0]) (by simp only [List.map_toArray, List.map_cons, List.map_nil]; rfl)) rfl rfl ?_)
  intro a fr
  refine lst rfl (ow_v fr (rn_build (cells := #[.int .i64 80, (.string { data := #[108, 97, 115, 116, 111, 114, 101] }), .int .i64 0]) (by simp only [List.map_toArray, List.map_cons, List.map_nil]; rfl)) rfl rfl ?_)
  intro a fr
  refine lst rfl (ow_v fr (rn_build (cells := #[.int .i64 83, (.string { data := #[97, 97, 115, 116, 111, 114, 101] }), .int .i64 0]) (by simp only [List.map_toArray, List.map_cons, List.map_nil]; rfl)) rfl rfl ?_)
  intro a fr
  refine lst rfl (ow_v fr (rn_build (cells := #[.int .i64 87, (.string { data := #[112, 111, 112] }), .int .i64 0]) (by simp only [List.map_toArray, List.map_cons, List.map_nil]; rfl)) rfl rfl ?_)
  intro a fr
  refine lst rfl (ow_v fr (rn_build (cells := #[.int .i64 89, (.string { data := #[100, 117, 112] }), .int .i64 0]) (by simp only [List.map_toArray, List.map_cons, List.map_nil]; rfl)) rfl rfl ?_)
  intro a fr
  refine lst rfl (ow_v fr (rn_build (cells := #[.int .i64 90, (.string { data := #[100, 117, 112, 95, 120, 49] }), .int .i64 0]) (by simp only [List.map_toArray, List.map_cons, List.map_nil]; rfl)) rfl rfl ?_)
  intro a fr
  refine lst rfl (ow_v fr (rn_build (cells := #[.int .i64 95, (.string { data := #[115, 119, 97, 112] }), .int .i64 0]) (by simp only [List.map_toArray, List.map_cons, List.map_nil]; rfl)) rfl rfl ?_)
  intro a fr
  refine lst rfl (ow_v fr (rn_build (cells := #[.int .i64 96, (.string { data := #[105, 97, 100, 100] }), .int .i64 0]) (by simp only [List.map_toArray, List.map_cons, List.map_nil]; rfl)) rfl rfl ?_)
  intro a fr
  refine lst rfl (ow_v fr (rn_build (cells := #[.int .i64 97, (.string { data := #[108, 97, 100, 100] }), .int .i64 0]) (by simp only [List.map_toArray, List.map_cons, List.map_nil]; rfl)) rfl rfl ?_)
  intro a fr
  refine lst rfl (ow_v fr (rn_build (cells := #[.int .i64 100, (.string { data := #[105, 115, 117, 98] }), .int .i64 0]) (by simp only [List.map_toArray, List.map_cons, List.map_nil]; rfl)) rfl rfl ?_)
  intro a fr
  refine lst rfl (ow_v fr (rn_build (cells := #[.int .i64 101, (.string { data := #[108, 115, 117, 98] }), .int .i64 0]) (by simp only [List.map_toArray, List.map_cons, List.map_nil]; rfl)) rfl rfl ?_)
  intro a fr
  refine lst rfl (ow_v fr (rn_build (cells := #[.int .i64 104, (.string { data := #[105, 109, 117, 108] }), .int .i64 0]) (by simp only [List.map_toArray, List.map_cons, List.map_nil]; rfl)) rfl rfl ?_)
  intro a fr
  refine lst rfl (ow_v fr (rn_build (cells := #[.int .i64 105, (.string { data := #[108, 109, 117, 108] }), .int .i64 0]) (by simp only [List.map_toArray, List.map_cons, List.map_nil]; rfl)) rfl rfl ?_)
  intro a fr
  refine lst rfl (ow_v fr (rn_build (cells := #[.int .i64 108, (.string { data := #[105, 100, 105, 118] }), .int .i64 0]) (by simp only [List.map_toArray, List.map_cons, List.map_nil]; rfl)) rfl rfl ?_)
  intro a fr
  refine lst rfl (ow_v fr (rn_build (cells := #[.int .i64 109, (.string { data := #[108, 100, 105, 118] }), .int .i64 0]) (by simp only [List.map_toArray, List.map_cons, List.map_nil]; rfl)) rfl rfl ?_)
  intro a fr
  refine lst rfl (ow_v fr (rn_build (cells := #[.int .i64 112, (.string { data := #[105, 114, 101, 109] }), .int .i64 0]) (by simp only [List.map_toArray, List.map_cons, List.map_nil]; rfl)) rfl rfl ?_)
  intro a fr
  refine lst rfl (ow_v fr (rn_build (cells := #[.int .i64 113, (.string { data := #[108, 114, 101, 109] }), .int .i64 0]) (by simp only [List.map_toArray, List.map_cons, List.map_nil]; rfl)) rfl rfl ?_)
  intro a fr
  refine lst rfl (ow_v fr (rn_build (cells := #[.int .i64 116, (.string { data := #[105, 110, 101, 103] }), .int .i64 0]) (by simp only [List.map_toArray, List.map_cons, List.map_nil]; rfl)) rfl rfl ?_)
  intro a fr
  refine lst rfl (ow_v fr (rn_build (cells := #[.int .i64 117, (.string { data := #[108, 110, 101, 103] }), .int .i64 0]) (by simp only [List.map_toArray, List.map_cons, List.map_nil]; rfl)) rfl rfl ?_)
  intro a fr
  refine lst rfl (ow_v fr (rn_build (cells := #[.int .i64 120, (.string { data := #[105, 115, 104, 108] }), .int .i64 0]) (by simp only [List.map_toArray, List.map_cons, List.map_nil]; rfl)) rfl rfl ?_)
  intro a fr
  refine lst rfl (ow_v fr (rn_build (cells := #[.int .i64 121, (.string { data := #[108, 115, 104, 108] }), .int .i64 0]) (by simp only [List.map_toArray, List.map_cons, List.map_nil]; rfl)) rfl rfl ?_)
  intro a fr
  refine lst rfl (ow_v fr (rn_build (cells := #[.int .i64 122, (.string { data := #[105, 115, 104, 114] }), .int .i64 0]) (by simp only [List.map_toArray, List.map_cons, List.map_nil]; rfl)) rfl rfl ?_)
  intro a fr
  refine lst rfl (ow_v fr (rn_build (cells := #[.int .i64 123, (.string { data := #[108, 115, 104, 114] }), .int .i64 0]) (by simp only [List.map_toArray, List.map_cons, List.map_nil]; rfl)) rfl rfl ?_)
  intro a fr
  refine lst rfl (ow_v fr (rn_build (cells := #[.int .i64 124, (.string { data := #[105, 117, 115, 104, 114] }), .int .i64 0]) (by simp only [List.map_toArray, List.map_cons, List.map_nil]; rfl)) rfl rfl ?_)
  intro a fr
  refine lst rfl (ow_v fr (rn_build (cells := #[.int .i64 125, (.string { data := #[108, 117, 115, 104, 114] }), .int .i64 0]) (by simp only [List.map_toArray, List.map_cons, List.map_nil]; rfl)) rfl rfl ?_)
  intro a fr
  refine lst rfl (ow_v fr (rn_build (cells := #[.int .i64 126, (.string { data := #[105, 97, 110, 100] }), .int .i64 0]) (by simp only [List.map_toArray, List.map_cons, List.map_nil]; rfl)) rfl rfl ?_)
  intro a fr
  refine lst rfl (ow_v fr (rn_build (cells := #[.int .i64 127, (.string { data := #[108, 97, 110, 100] }), .int .i64 0]) (by simp only [List.map_toArray, List.map_cons, List.map_nil]; rfl)) rfl rfl ?_)
  intro a fr
  refine lst rfl (ow_v fr (rn_build (cells := #[.int .i64 128, (.string { data := #[105, 111, 114] }), .int .i64 0]) (by simp only [List.map_toArray, List.map_cons, List.map_nil]; rfl)) rfl rfl ?_)
  intro a fr
  refine lst rfl (ow_v fr (rn_build (cells := #[.int .i64 129, (.string { data := #[108, 111, 114] }), .int .i64 0]) (by simp only [List.map_toArray, List.map_cons, List.map_nil]; rfl)) rfl rfl ?_)
  intro a fr
  refine lst rfl (ow_v fr (rn_build (cells := #[.int .i64 130, (.string { data := #[105, 120, 111, 114] }), .int .i64 0]) (by simp only [List.map_toArray, List.map_cons, List.map_nil]; rfl)) rfl rfl ?_)
  intro a fr
  refine lst rfl (ow_v fr (rn_build (cells := #[.int .i64 131, (.string { data := #[108, 120, 111, 114] }), .int .i64 0]) (by simp only [List.map_toArray, List.map_cons, List.map_nil]; rfl)) rfl rfl ?_)
  intro a fr
  refine lst rfl (ow_v fr (rn_build (cells := #[.int .i64 132, (.string { data := #[105, 105, 110, 99] }), .int .i64 7]) (by simp only [List.map_toArray, List.map_cons, List.map_nil]; rfl)) rfl rfl ?_)
  intro a fr
  refine lst rfl (ow_v fr (rn_build (cells := #[.int .i64 133, (.string { data := #[105, 50, 108] }), .int .i64 0]) (by simp only [List.map_toArray, List.map_cons, List.map_nil]; rfl)) rfl rfl ?_)
  intro a fr
  refine lst rfl (ow_v fr (rn_build (cells := #[.int .i64 136, (.string { data := #[108, 50, 105] }), .int .i64 0]) (by simp only [List.map_toArray, List.map_cons, List.map_nil]; rfl)) rfl rfl ?_)
  intro a fr
  refine lst rfl (ow_v fr (rn_build (cells := #[.int .i64 145, (.string { data := #[105, 50, 98] }), .int .i64 0]) (by simp only [List.map_toArray, List.map_cons, List.map_nil]; rfl)) rfl rfl ?_)
  intro a fr
  refine lst rfl (ow_v fr (rn_build (cells := #[.int .i64 146, (.string { data := #[105, 50, 99] }), .int .i64 0]) (by simp only [List.map_toArray, List.map_cons, List.map_nil]; rfl)) rfl rfl ?_)
  intro a fr
  refine lst rfl (ow_v fr (rn_build (cells := #[.int .i64 147, (.string { data := #[105, 50, 115] }), .int .i64 0]) (by simp only [List.map_toArray, List.map_cons, List.map_nil]; rfl)) rfl rfl ?_)
  intro a fr
  refine lst rfl (ow_v fr (rn_build (cells := #[.int .i64 148, (.string { data := #[108, 99, 109, 112] }), .int .i64 0]) (by simp only [List.map_toArray, List.map_cons, List.map_nil]; rfl)) rfl rfl ?_)
  intro a fr
  refine lst rfl (ow_v fr (rn_build (cells := #[.int .i64 153, (.string { data := #[105, 102, 101, 113] }), .int .i64 6]) (by simp only [List.map_toArray, List.map_cons, List.map_nil]; rfl)) rfl rfl ?_)
  intro a fr
  refine lst rfl (ow_v fr (rn_build (cells := #[.int .i64 154, (.string { data := #[105, 102, 110, 101] }), .int .i64 6]) (by simp only [List.map_toArray, List.map_cons, List.map_nil]; rfl)) rfl rfl ?_)
  intro a fr
  refine lst rfl (ow_v fr (rn_build (cells := #[.int .i64 155, (.string { data := #[105, 102, 108, 116] }), .int .i64 6]) (by simp only [List.map_toArray, List.map_cons, List.map_nil]; rfl)) rfl rfl ?_)
  intro a fr
  refine lst rfl (ow_v fr (rn_build (cells := #[.int .i64 156, (.string { data := #[105, 102, 103, 101] }), .int .i64 6]) (by simp only [List.map_toArray, List.map_cons, List.map_nil]; rfl)) rfl rfl ?_)
  intro a fr
  refine lst rfl (ow_v fr (rn_build (cells := #[.int .i64 157, (.string { data := #[105, 102, 103, 116] }), .int .i64 6]) (by simp only [List.map_toArray, List.map_cons, List.map_nil]; rfl)) rfl rfl ?_)
  intro a fr
  refine lst rfl (ow_v fr (rn_build (cells := #[.int .i64 158, (.string { data := #[105, 102, 108, 101] }), .int .i64 6]) (by simp only [List.map_toArray, List.map_cons, List.map_nil]; rfl)) rfl rfl ?_)
  intro a fr
  refine lst rfl (ow_v fr (rn_build (cells := #[.int .i64 159, (.string { data := #[105, 102, 95, 105, 99, 109, 112, 101, 113] }), .int .i64 6]) (by simp only [List.map_toArray, List.map_cons, List.map_nil]; rfl)) rfl rfl ?_)
  intro a fr
  refine lst rfl (ow_v fr (rn_build (cells := #[.int .i64 160, (.string { data := #[105, 102, 95, 105, 99, 109, 112, 110, 101] }), .int .i64 6]) (by simp only [List.map_toArray, List.map_cons, List.map_nil]; rfl)) rfl rfl ?_)
  intro a fr
  refine lst rfl (ow_v fr (rn_build (cells := #[.int .i64 161, (.string { data := #[105, 102, 95, 105, 99, 109, 112, 108, 116] }), .int .i64 6]) (by simp only [List.map_toArray, List.map_cons, List.map_nil]; rfl)) rfl rfl ?_)
  intro a fr
  refine lst rfl (ow_v fr (rn_build (cells := #[.int .i64 162, (.string { data := #[105, 102, 95, 105, 99, 109, 112, 103, 101] }), .int .i64 6]) (by simp only [List.map_toArray, List.map_cons, List.map_nil]; rfl)) rfl rfl ?_)
  intro a fr
  refine lst rfl (ow_v fr (rn_build (cells := #[.int .i64 163, (.string { data := #[105, 102, 95, 105, 99, 109, 112, 103, 116] }), .int .i64 6]) (by simp only [List.map_toArray, List.map_cons, List.map_nil]; rfl)) rfl rfl ?_)
  intro a fr
  refine lst rfl (ow_v fr (rn_build (cells := #[.int .i64 164, (.string { data := #[105, 102, 95, 105, 99, 109, 112, 108, 101] }), .int .i64 6]) (by simp only [List.map_toArray, List.map_cons, List.map_nil]; rfl)) rfl rfl ?_)
  intro a fr
  refine lst rfl (ow_v fr (rn_build (cells := #[.int .i64 165, (.string { data := #[105, 102, 95, 97, 99, 109, 112, 101, 113] }), .int .i64 6]) (by simp only [List.map_toArray, List.map_cons, List.map_nil]; rfl)) rfl rfl ?_)
  intro a fr
  refine lst rfl (ow_v fr (rn_build (cells := #[.int .i64 166, (.string { data := #[105, 102, 95, 97, 99, 109, 112, 110, 101] }), .int .i64 6]) (by simp only [List.map_toArray, List.map_cons, List.map_nil]; rfl)) rfl rfl ?_)
  intro a fr
  refine lst rfl (ow_v fr (rn_build (cells := #[.int .i64 167, (.string { data := #[103, 111, 116, 111] }), .int .i64 6]) (by simp only [List.map_toArray, List.map_cons, List.map_nil]; rfl)) rfl rfl ?_)
  intro a fr
  refine lst rfl (ow_v fr (rn_build (cells := #[.int .i64 172, (.string { data := #[105, 114, 101, 116, 117, 114, 110] }), .int .i64 0]) (by simp only [List.map_toArray, List.map_cons, List.map_nil]; rfl)) rfl rfl ?_)
  intro a fr
  refine lst rfl (ow_v fr (rn_build (cells := #[.int .i64 173, (.string { data := #[108, 114, 101, 116, 117, 114, 110] }), .int .i64 0]) (by simp only [List.map_toArray, List.map_cons, List.map_nil]; rfl)) rfl rfl ?_)
  intro a fr
  refine lst rfl (ow_v fr (rn_build (cells := #[.int .i64 176, (.string { data := #[97, 114, 101, 116, 117, 114, 110] }), .int .i64 0]) (by simp only [List.map_toArray, List.map_cons, List.map_nil]; rfl)) rfl rfl ?_)
  intro a fr
  refine lst rfl (ow_v fr (rn_build (cells := #[.int .i64 177, (.string { data := #[114, 101, 116, 117, 114, 110] }), .int .i64 0]) (by simp only [List.map_toArray, List.map_cons, List.map_nil]; rfl)) rfl rfl ?_)
  intro a fr
  refine lst rfl (ow_v fr (rn_build (cells := #[.int .i64 178, (.string { data := #[103, 101, 116, 115, 116, 97, 116, 105, 99] }), .int .i64 5]) (by simp only [List.map_toArray, List.map_cons, List.map_nil]; rfl)) rfl rfl ?_)
  intro a fr
  refine lst rfl (ow_v fr (rn_build (cells := #[.int .i64 179, (.string { data := #[112, 117, 116, 115, 116, 97, 116, 105, 99] }), .int .i64 5]) (by simp only [List.map_toArray, List.map_cons, List.map_nil]; rfl)) rfl rfl ?_)
  intro a fr
  refine lst rfl (ow_v fr (rn_build (cells := #[.int .i64 180, (.string { data := #[103, 101, 116, 102, 105, 101, 108, 100] }), .int .i64 5]) (by simp only [List.map_toArray, List.map_cons, List.map_nil]; rfl)) rfl rfl ?_)
  intro a fr
  refine lst rfl (ow_v fr (rn_build (cells := #[.int .i64 181, (.string { data := #[112, 117, 116, 102, 105, 101, 108, 100] }), .int .i64 5]) (by simp only [List.map_toArray, List.map_cons, List.map_nil]; rfl)) rfl rfl ?_)
  intro a fr
  refine lst rfl (ow_v fr (rn_build (cells := #[.int .i64 182, (.string { data := #[105, 110, 118, 111, 107, 101, 118, 105, 114, 116, 117, 97, 108] }), .int .i64 5]) (by simp only [List.map_toArray, List.map_cons, List.map_nil]; rfl)) rfl rfl ?_)
  intro a fr
  refine lst rfl (ow_v fr (rn_build (cells := #[.int .i64 183, (.string { data := #[105, 110, 118, 111, 107, 101, 115, 112, 101, 99, 105, 97, 108] }), .int .i64 5]) (by simp only [List.map_toArray, List.map_cons, List.map_nil]; rfl)) rfl rfl ?_)
  intro a fr
  refine lst rfl (ow_v fr (rn_build (cells := #[.int .i64 184, (.string { data := #[105, 110, 118, 111, 107, 101, 115, 116, 97, 116, 105, 99] }), .int .i64 5]) (by simp only [List.map_toArray, List.map_cons, List.map_nil]; rfl)) rfl rfl ?_)
  intro a fr
  refine lst rfl (ow_v fr (rn_build (cells := #[.int .i64 187, (.string { data := #[110, 101, 119] }), .int .i64 5]) (by simp only [List.map_toArray, List.map_cons, List.map_nil]; rfl)) rfl rfl ?_)
  intro a fr
  refine lst rfl (ow_v fr (rn_build (cells := #[.int .i64 188, (.string { data := #[110, 101, 119, 97, 114, 114, 97, 121] }), .int .i64 8]) (by simp only [List.map_toArray, List.map_cons, List.map_nil]; rfl)) rfl rfl ?_)
  intro a fr
  refine lst rfl (ow_v fr (rn_build (cells := #[.int .i64 189, (.string { data := #[97, 110, 101, 119, 97, 114, 114, 97, 121] }), .int .i64 5]) (by simp only [List.map_toArray, List.map_cons, List.map_nil]; rfl)) rfl rfl ?_)
  intro a fr
  refine lst rfl (ow_v fr (rn_build (cells := #[.int .i64 190, (.string { data := #[97, 114, 114, 97, 121, 108, 101, 110, 103, 116, 104] }), .int .i64 0]) (by simp only [List.map_toArray, List.map_cons, List.map_nil]; rfl)) rfl rfl ?_)
  intro a fr
  refine lst rfl (ow_v fr (rn_build (cells := #[.int .i64 191, (.string { data := #[97, 116, 104, 114, 111, 119] }), .int .i64 0]) (by simp only [List.map_toArray, List.map_cons, List.map_nil]; rfl)) rfl rfl ?_)
  intro a fr
  refine lst rfl (ow_v fr (rn_build (cells := #[.int .i64 192, (.string { data := #[99, 104, 101, 99, 107, 99, 97, 115, 116] }), .int .i64 5]) (by simp only [List.map_toArray, List.map_cons, List.map_nil]; rfl)) rfl rfl ?_)
  intro a fr
  refine lst rfl (ow_v fr (rn_build (cells := #[.int .i64 193, (.string { data := #[105, 110, 115, 116, 97, 110, 99, 101, 111, 102] }), .int .i64 5]) (by simp only [List.map_toArray, List.map_cons, List.map_nil]; rfl)) rfl rfl ?_)
  intro a fr
  refine lst rfl (ow_v fr (rn_build (cells := #[.int .i64 198, (.string { data := #[105, 102, 110, 117, 108, 108] }), .int .i64 6]) (by simp only [List.map_toArray, List.map_cons, List.map_nil]; rfl)) rfl rfl ?_)
  intro a fr
  refine lst rfl (ow_v fr (rn_build (cells := #[.int .i64 199, (.string { data := #[105, 102, 110, 111, 110, 110, 117, 108, 108] }), .int .i64 6]) (by simp only [List.map_toArray, List.map_cons, List.map_nil]; rfl)) rfl rfl ?_)
  intro a fr
  refine lst rfl (ow_bsliceL (E := 70) (m := 121) fr st rfl rfl (flat rowC tblL) (fun w => by kernel_rfl) rfl rfl ?_)
  intro a w b1 fr st
  refine lst rfl (ow_v fr (rn_assign (fr.ev rfl)) rfl rfl ?_)
  intro a fr
  refine wpList_nil ?_
  refine then_n ?_
  refine wp_ret ?_
  refine ret1 Try.results58 fr (rv_tmp fr rfl) ?_
  exact ⟨b1, rfl, (els_of_blk (C := rowC) (sz := 3) (fun _ => rfl) (by decide) (st.get 0 rfl) rfl).1, (st.get 0 rfl).1.resolve_right (by simp), st.agr⟩

set_option maxRecDepth 100000 in
set_option maxHeartbeats 4000000 in
theorem table_calls (w0 : World) : Calls Try.prog 51 #[] w0 fun e w' => ∃ b, e = .returned (.slice (some ⟨b, 0, none⟩) tblL.length 121) ∧ Els rowC 3 w' (some ⟨b, 0, none⟩) tblL ∧ w0.heap.size ≤ b ∧ Agr [] w0 w' := by
  have st := St.start w0 []
  refine enter Try.func51 rfl Try.ntmps51 (by simp) ?_
  intro a fr
  refine wp_seq ?_
  refine reg ?_
  refine lst rfl (ow_v fr (rn_assign (fr.ev rfl)) rfl rfl ?_)
  intro a fr
  refine wpList_nil ?_
  refine then_n ?_
  refine wp_seq ?_
  refine reg ?_
  refine lst rfl (ow_v fr (rn_build (cells := #[.int .i64 0, (.string { data := #[110, 111, 112] }), .int .i64 0]) (by simp only [List.map_toArray, List.map_cons, List.map_nil]; rfl)) rfl rfl ?_)
  intro a fr
  refine lst rfl (ow_v fr (rn_build (cells := #[.int .i64 1, (.string { data := #[97, 99, 111, 110, 115, 116, 95, 110, 117, 108, 108] }), .int .i64 0]) (by simp only [List.map_toArray, List.map_cons, List.map_nil]; rfl)) rfl rfl ?_)
  intro a fr
  refine lst rfl (ow_v fr (rn_build (cells := #[.int .i64 2, (.string { data := #[105, 99, 111, 110, 115, 116, 95, 109, 49] }), .int .i64 0]) (by simp only [List.map_toArray, List.map_cons, List.map_nil]; rfl)) rfl rfl ?_)
  intro a fr
  refine lst rfl (ow_v fr (rn_build (cells := #[.int .i64 3, (.string { data := #[105, 99, 111, 110, 115, 116, 95, 48] }), .int .i64 0]) (by simp only [List.map_toArray, List.map_cons, List.map_nil]; rfl)) rfl rfl ?_)
  intro a fr
  refine lst rfl (ow_v fr (rn_build (cells := #[.int .i64 4, (.string { data := #[105, 99, 111, 110, 115, 116, 95, 49] }), .int .i64 0]) (by simp only [List.map_toArray, List.map_cons, List.map_nil]; rfl)) rfl rfl ?_)
  intro a fr
  refine lst rfl (ow_v fr (rn_build (cells := #[.int .i64 5, (.string { data := #[105, 99, 111, 110, 115, 116, 95, 50] }), .int .i64 0]) (by simp only [List.map_toArray, List.map_cons, List.map_nil]; rfl)) rfl rfl ?_)
  intro a fr
  refine lst rfl (ow_v fr (rn_build (cells := #[.int .i64 6, (.string { data := #[105, 99, 111, 110, 115, 116, 95, 51] }), .int .i64 0]) (by simp only [List.map_toArray, List.map_cons, List.map_nil]; rfl)) rfl rfl ?_)
  intro a fr
  refine lst rfl (ow_v fr (rn_build (cells := #[.int .i64 7, (.string { data := #[105, 99, 111, 110, 115, 116, 95, 52] }), .int .i64 0]) (by simp only [List.map_toArray, List.map_cons, List.map_nil]; rfl)) rfl rfl ?_)
  intro a fr
  refine lst rfl (ow_v fr (rn_build (cells := #[.int .i64 8, (.string { data := #[105, 99, 111, 110, 115, 116, 95, 53] }), .int .i64 0]) (by simp only [List.map_toArray, List.map_cons, List.map_nil]; rfl)) rfl rfl ?_)
  intro a fr
  refine lst rfl (ow_v fr (rn_build (cells := #[.int .i64 9, (.string { data := #[108, 99, 111, 110, 115, 116, 95, 48] }), .int .i64 0]) (by simp only [List.map_toArray, List.map_cons, List.map_nil]; rfl)) rfl rfl ?_)
  intro a fr
  refine lst rfl (ow_v fr (rn_build (cells := #[.int .i64 10, (.string { data := #[108, 99, 111, 110, 115, 116, 95, 49] }), .int .i64 0]) (by simp only [List.map_toArray, List.map_cons, List.map_nil]; rfl)) rfl rfl ?_)
  intro a fr
  refine lst rfl (ow_v fr (rn_build (cells := #[.int .i64 16, (.string { data := #[98, 105, 112, 117, 115, 104] }), .int .i64 2]) (by simp only [List.map_toArray, List.map_cons, List.map_nil]; rfl)) rfl rfl ?_)
  intro a fr
  refine lst rfl (ow_v fr (rn_build (cells := #[.int .i64 17, (.string { data := #[115, 105, 112, 117, 115, 104] }), .int .i64 3]) (by simp only [List.map_toArray, List.map_cons, List.map_nil]; rfl)) rfl rfl ?_)
  intro a fr
  refine lst rfl (ow_v fr (rn_build (cells := #[.int .i64 18, (.string { data := #[108, 100, 99] }), .int .i64 4]) (by simp only [List.map_toArray, List.map_cons, List.map_nil]; rfl)) rfl rfl ?_)
  intro a fr
  refine lst rfl (ow_v fr (rn_build (cells := #[.int .i64 20, (.string { data := #[108, 100, 99, 50, 95, 119] }), .int .i64 5]) (by simp only [List.map_toArray, List.map_cons, List.map_nil]; rfl)) rfl rfl ?_)
  intro a fr
  refine lst rfl (ow_v fr (rn_build (cells := #[.int .i64 21, (.string { data := #[105, 108, 111, 97, 100] }), .int .i64 1]) (by simp only [List.map_toArray, List.map_cons, List.map_nil]; rfl)) rfl rfl ?_)
  intro a fr
  refine lst rfl (ow_v fr (rn_build (cells := #[.int .i64 22, (.string { data := #[108, 108, 111, 97, 100] }), .int .i64 1]) (by simp only [List.map_toArray, List.map_cons, List.map_nil]; rfl)) rfl rfl ?_)
  intro a fr
  refine lst rfl (ow_v fr (rn_build (cells := #[.int .i64 25, (.string { data := #[97, 108, 111, 97, 100] }), .int .i64 1]) (by simp only [List.map_toArray, List.map_cons, List.map_nil]; rfl)) rfl rfl ?_)
  intro a fr
  refine lst rfl (ow_v fr (rn_build (cells := #[.int .i64 26, (.string { data := #[105, 108, 111, 97, 100, 95, 48] }), .int .i64 0]) (by simp only [List.map_toArray, List.map_cons, List.map_nil]; rfl)) rfl rfl ?_)
  intro a fr
  refine lst rfl (ow_v fr (rn_build (cells := #[.int .i64 27, (.string { data := #[105, 108, 111, 97, 100, 95, 49] }), .int .i64 0]) (by simp only [List.map_toArray, List.map_cons, List.map_nil]; rfl)) rfl rfl ?_)
  intro a fr
  refine lst rfl (ow_v fr (rn_build (cells := #[.int .i64 28, (.string { data := #[105, 108, 111, 97, 100, 95, 50] }), .int .i64 0]) (by simp only [List.map_toArray, List.map_cons, List.map_nil]; rfl)) rfl rfl ?_)
  intro a fr
  refine lst rfl (ow_v fr (rn_build (cells := #[.int .i64 29, (.string { data := #[105, 108, 111, 97, 100, 95, 51] }), .int .i64 0]) (by simp only [List.map_toArray, List.map_cons, List.map_nil]; rfl)) rfl rfl ?_)
  intro a fr
  refine lst rfl (ow_v fr (rn_build (cells := #[.int .i64 30, (.string { data := #[108, 108, 111, 97, 100, 95, 48] }), .int .i64 0]) (by simp only [List.map_toArray, List.map_cons, List.map_nil]; rfl)) rfl rfl ?_)
  intro a fr
  refine lst rfl (ow_v fr (rn_build (cells := #[.int .i64 31, (.string { data := #[108, 108, 111, 97, 100, 95, 49] }), .int .i64 0]) (by simp only [List.map_toArray, List.map_cons, List.map_nil]; rfl)) rfl rfl ?_)
  intro a fr
  refine lst rfl (ow_v fr (rn_build (cells := #[.int .i64 32, (.string { data := #[108, 108, 111, 97, 100, 95, 50] }), .int .i64 0]) (by simp only [List.map_toArray, List.map_cons, List.map_nil]; rfl)) rfl rfl ?_)
  intro a fr
  refine lst rfl (ow_v fr (rn_build (cells := #[.int .i64 33, (.string { data := #[108, 108, 111, 97, 100, 95, 51] }), .int .i64 0]) (by simp only [List.map_toArray, List.map_cons, List.map_nil]; rfl)) rfl rfl ?_)
  intro a fr
  refine lst rfl (ow_v fr (rn_build (cells := #[.int .i64 42, (.string { data := #[97, 108, 111, 97, 100, 95, 48] }), .int .i64 0]) (by simp only [List.map_toArray, List.map_cons, List.map_nil]; rfl)) rfl rfl ?_)
  intro a fr
  refine lst rfl (ow_v fr (rn_build (cells := #[.int .i64 43, (.string { data := #[97, 108, 111, 97, 100, 95, 49] }), .int .i64 0]) (by simp only [List.map_toArray, List.map_cons, List.map_nil]; rfl)) rfl rfl ?_)
  intro a fr
  refine lst rfl (ow_v fr (rn_build (cells := #[.int .i64 44, (.string { data := #[97, 108, 111, 97, 100, 95, 50] }), .int .i64 0]) (by simp only [List.map_toArray, List.map_cons, List.map_nil]; rfl)) rfl rfl ?_)
  intro a fr
  refine lst rfl (ow_v fr (rn_build (cells := #[.int .i64 45, (.string { data := #[97, 108, 111, 97, 100, 95, 51] }), .int .i64 0]) (by simp only [List.map_toArray, List.map_cons, List.map_nil]; rfl)) rfl rfl ?_)
  intro a fr
  refine lst rfl (ow_v fr (rn_build (cells := #[.int .i64 46, (.string { data := #[105, 97, 108, 111, 97, 100] }), .int .i64 0]) (by simp only [List.map_toArray, List.map_cons, List.map_nil]; rfl)) rfl rfl ?_)
  intro a fr
  refine lst rfl (ow_v fr (rn_build (cells := #[.int .i64 47, (.string { data := #[108, 97, 108, 111, 97, 100] }), .int .i64 0]) (by simp only [List.map_toArray, List.map_cons, List.map_nil]; rfl)) rfl rfl ?_)
  intro a fr
  refine lst rfl (ow_v fr (rn_build (cells := #[.int .i64 50, (.string { data := #[97, 97, 108, 111, 97, 100] }), .int .i64 0]) (by simp only [List.map_toArray, List.map_cons, List.map_nil]; rfl)) rfl rfl ?_)
  intro a fr
  refine lst rfl (ow_v fr (rn_build (cells := #[.int .i64 54, (.string { data := #[105, 115, 116, 111, 114, 101] }), .int .i64 1]) (by simp only [List.map_toArray, List.map_cons, List.map_nil]; rfl)) rfl rfl ?_)
  intro a fr
  refine lst rfl (ow_v fr (rn_build (cells := #[.int .i64 55, (.string { data := #[108, 115, 116, 111, 114, 101] }), .int .i64 1]) (by simp only [List.map_toArray, List.map_cons, List.map_nil]; rfl)) rfl rfl ?_)
  intro a fr
  refine lst rfl (ow_v fr (rn_build (cells := #[.int .i64 58, (.string { data := #[97, 115, 116, 111, 114, 101] }), .int .i64 1]) (by simp only [List.map_toArray, List.map_cons, List.map_nil]; rfl)) rfl rfl ?_)
  intro a fr
  refine lst rfl (ow_v fr (rn_build (cells := #[.int .i64 59, (.string { data := #[105, 115, 116, 111, 114, 101, 95, 48] }), .int .i64 0]) (by simp only [List.map_toArray, List.map_cons, List.map_nil]; rfl)) rfl rfl ?_)
  intro a fr
  refine lst rfl (ow_v fr (rn_build (cells := #[.int .i64 60, (.string { data := #[105, 115, 116, 111, 114, 101, 95, 49] }), .int .i64 0]) (by simp only [List.map_toArray, List.map_cons, List.map_nil]; rfl)) rfl rfl ?_)
  intro a fr
  refine lst rfl (ow_v fr (rn_build (cells := #[.int .i64 61, (.string { data := #[105, 115, 116, 111, 114, 101, 95, 50] }), .int .i64 0]) (by simp only [List.map_toArray, List.map_cons, List.map_nil]; rfl)) rfl rfl ?_)
  intro a fr
  refine lst rfl (ow_v fr (rn_build (cells := #[.int .i64 62, (.string { data := #[105, 115, 116, 111, 114, 101, 95, 51] }), .int .i64 0]) (by simp only [List.map_toArray, List.map_cons, List.map_nil]; rfl)) rfl rfl ?_)
  intro a fr
  refine lst rfl (ow_v fr (rn_build (cells := #[.int .i64 63, (.string { data := #[108, 115, 116, 111, 114, 101, 95, 48] }), .int .i64 0]) (by simp only [List.map_toArray, List.map_cons, List.map_nil]; rfl)) rfl rfl ?_)
  intro a fr
  refine lst rfl (ow_v fr (rn_build (cells := #[.int .i64 64, (.string { data := #[108, 115, 116, 111, 114, 101, 95, 49] }), .int .i64 0]) (by simp only [List.map_toArray, List.map_cons, List.map_nil]; rfl)) rfl rfl ?_)
  intro a fr
  refine lst rfl (ow_v fr (rn_build (cells := #[.int .i64 65, (.string { data := #[108, 115, 116, 111, 114, 101, 95, 50] }), .int .i64 0]) (by simp only [List.map_toArray, List.map_cons, List.map_nil]; rfl)) rfl rfl ?_)
  intro a fr
  refine lst rfl (ow_v fr (rn_build (cells := #[.int .i64 66, (.string { data := #[108, 115, 116, 111, 114, 101, 95, 51] }), .int .i64 0]) (by simp only [List.map_toArray, List.map_cons, List.map_nil]; rfl)) rfl rfl ?_)
  intro a fr
  refine lst rfl (ow_v fr (rn_build (cells := #[.int .i64 75, (.string { data := #[97, 115, 116, 111, 114, 101, 95, 48] }), .int .i64 0]) (by simp only [List.map_toArray, List.map_cons, List.map_nil]; rfl)) rfl rfl ?_)
  intro a fr
  refine lst rfl (ow_v fr (rn_build (cells := #[.int .i64 76, (.string { data := #[97, 115, 116, 111, 114, 101, 95, 49] }), .int .i64 0]) (by simp only [List.map_toArray, List.map_cons, List.map_nil]; rfl)) rfl rfl ?_)
  intro a fr
  refine lst rfl (ow_v fr (rn_build (cells := #[.int .i64 77, (.string { data := #[97, 115, 116, 111, 114, 101, 95, 50] }), .int .i64 0]) (by simp only [List.map_toArray, List.map_cons, List.map_nil]; rfl)) rfl rfl ?_)
  intro a fr
  refine lst rfl (ow_v fr (rn_build (cells := #[.int .i64 78, (.string { data := #[97, 115, 116, 111, 114, 101, 95, 51] }), .int .i64 0]) (by simp only [List.map_toArray, List.map_cons, List.map_nil]; rfl)) rfl rfl ?_)
  intro a fr
  refine lst rfl (ow_v fr (rn_build (cells := #[.int .i64 79, (.string { data := #[105, 97, 115, 116, 111, 114, 101] }), .int .i64 0]) (by simp only [List.map_toArray, List.map_cons, List.map_nil]; rfl)) rfl rfl ?_)
  intro a fr
  refine lst rfl (ow_v fr (rn_build (cells := #[.int .i64 80, (.string { data := #[108, 97, 115, 116, 111, 114, 101] }), .int .i64 0]) (by simp only [List.map_toArray, List.map_cons, List.map_nil]; rfl)) rfl rfl ?_)
  intro a fr
  refine lst rfl (ow_v fr (rn_build (cells := #[.int .i64 83, (.string { data := #[97, 97, 115, 116, 111, 114, 101] }), .int .i64 0]) (by simp only [List.map_toArray, List.map_cons, List.map_nil]; rfl)) rfl rfl ?_)
  intro a fr
  refine lst rfl (ow_v fr (rn_build (cells := #[.int .i64 87, (.string { data := #[112, 111, 112] }), .int .i64 0]) (by simp only [List.map_toArray, List.map_cons, List.map_nil]; rfl)) rfl rfl ?_)
  intro a fr
  refine lst rfl (ow_v fr (rn_build (cells := #[.int .i64 89, (.string { data := #[100, 117, 112] }), .int .i64 0]) (by simp only [List.map_toArray, List.map_cons, List.map_nil]; rfl)) rfl rfl ?_)
  intro a fr
  refine lst rfl (ow_v fr (rn_build (cells := #[.int .i64 90, (.string { data := #[100, 117, 112, 95, 120, 49] }), .int .i64 0]) (by simp only [List.map_toArray, List.map_cons, List.map_nil]; rfl)) rfl rfl ?_)
  intro a fr
  refine lst rfl (ow_v fr (rn_build (cells := #[.int .i64 95, (.string { data := #[115, 119, 97, 112] }), .int .i64 0]) (by simp only [List.map_toArray, List.map_cons, List.map_nil]; rfl)) rfl rfl ?_)
  intro a fr
  refine lst rfl (ow_v fr (rn_build (cells := #[.int .i64 96, (.string { data := #[105, 97, 100, 100] }), .int .i64 0]) (by simp only [List.map_toArray, List.map_cons, List.map_nil]; rfl)) rfl rfl ?_)
  intro a fr
  refine lst rfl (ow_v fr (rn_build (cells := #[.int .i64 97, (.string { data := #[108, 97, 100, 100] }), .int .i64 0]) (by simp only [List.map_toArray, List.map_cons, List.map_nil]; rfl)) rfl rfl ?_)
  intro a fr
  refine lst rfl (ow_v fr (rn_build (cells := #[.int .i64 100, (.string { data := #[105, 115, 117, 98] }), .int .i64 0]) (by simp only [List.map_toArray, List.map_cons, List.map_nil]; rfl)) rfl rfl ?_)
  intro a fr
  refine lst rfl (ow_v fr (rn_build (cells := #[.int .i64 101, (.string { data := #[108, 115, 117, 98] }), .int .i64 0]) (by simp only [List.map_toArray, List.map_cons, List.map_nil]; rfl)) rfl rfl ?_)
  intro a fr
  refine lst rfl (ow_v fr (rn_build (cells := #[.int .i64 104, (.string { data := #[105, 109, 117, 108] }), .int .i64 0]) (by simp only [List.map_toArray, List.map_cons, List.map_nil]; rfl)) rfl rfl ?_)
  intro a fr
  refine lst rfl (ow_v fr (rn_build (cells := #[.int .i64 105, (.string { data := #[108, 109, 117, 108] }), .int .i64 0]) (by simp only [List.map_toArray, List.map_cons, List.map_nil]; rfl)) rfl rfl ?_)
  intro a fr
  refine lst rfl (ow_v fr (rn_build (cells := #[.int .i64 108, (.string { data := #[105, 100, 105, 118] }), .int .i64 0]) (by simp only [List.map_toArray, List.map_cons, List.map_nil]; rfl)) rfl rfl ?_)
  intro a fr
  refine lst rfl (ow_v fr (rn_build (cells := #[.int .i64 109, (.string { data := #[108, 100, 105, 118] }), .int .i64 0]) (by simp only [List.map_toArray, List.map_cons, List.map_nil]; rfl)) rfl rfl ?_)
  intro a fr
  refine lst rfl (ow_v fr (rn_build (cells := #[.int .i64 112, (.string { data := #[105, 114, 101, 109] }), .int .i64 0]) (by simp only [List.map_toArray, List.map_cons, List.map_nil]; rfl)) rfl rfl ?_)
  intro a fr
  refine lst rfl (ow_v fr (rn_build (cells := #[.int .i64 113, (.string { data := #[108, 114, 101, 109] }), .int .i64 0]) (by simp only [List.map_toArray, List.map_cons, List.map_nil]; rfl)) rfl rfl ?_)
  intro a fr
  refine lst rfl (ow_v fr (rn_build (cells := #[.int .i64 116, (.string { data := #[105, 110, 101, 103] }), .int .i64 0]) (by simp only [List.map_toArray, List.map_cons, List.map_nil]; rfl)) rfl rfl ?_)
  intro a fr
  refine lst rfl (ow_v fr (rn_build (cells := #[.int .i64 117, (.string { data := #[108, 110, 101, 103] }), .int .i64 0]) (by simp only [List.map_toArray, List.map_cons, List.map_nil]; rfl)) rfl rfl ?_)
  intro a fr
  refine lst rfl (ow_v fr (rn_build (cells := #[.int .i64 120, (.string { data := #[105, 115, 104, 108] }), .int .i64 0]) (by simp only [List.map_toArray, List.map_cons, List.map_nil]; rfl)) rfl rfl ?_)
  intro a fr
  refine lst rfl (ow_v fr (rn_build (cells := #[.int .i64 121, (.string { data := #[108, 115, 104, 108] }), .int .i64 0]) (by simp only [List.map_toArray, List.map_cons, List.map_nil]; rfl)) rfl rfl ?_)
  intro a fr
  refine lst rfl (ow_v fr (rn_build (cells := #[.int .i64 122, (.string { data := #[105, 115, 104, 114] }), .int .i64 0]) (by simp only [List.map_toArray, List.map_cons, List.map_nil]; rfl)) rfl rfl ?_)
  intro a fr
  refine lst rfl (ow_v fr (rn_build (cells := #[.int .i64 123, (.string { data := #[108, 115, 104, 114] }), .int .i64 0]) (by simp only [List.map_toArray, List.map_cons, List.map_nil]; rfl)) rfl rfl ?_)
  intro a fr
  refine lst rfl (ow_v fr (rn_build (cells := #[.int .i64 124, (.string { data := #[105, 117, 115, 104, 114] }), .int .i64 0]) (by simp only [List.map_toArray, List.map_cons, List.map_nil]; rfl)) rfl rfl ?_)
  intro a fr
  refine lst rfl (ow_v fr (rn_build (cells := #[.int .i64 125, (.string { data := #[108, 117, 115, 104, 114] }), .int .i64 0]) (by simp only [List.map_toArray, List.map_cons, List.map_nil]; rfl)) rfl rfl ?_)
  intro a fr
  refine lst rfl (ow_v fr (rn_build (cells := #[.int .i64 126, (.string { data := #[105, 97, 110, 100] }), .int .i64 0]) (by simp only [List.map_toArray, List.map_cons, List.map_nil]; rfl)) rfl rfl ?_)
  intro a fr
  refine lst rfl (ow_v fr (rn_build (cells := #[.int .i64 127, (.string { data := #[108, 97, 110, 100] }), .int .i64 0]) (by simp only [List.map_toArray, List.map_cons, List.map_nil]; rfl)) rfl rfl ?_)
  intro a fr
  refine lst rfl (ow_v fr (rn_build (cells := #[.int .i64 128, (.string { data := #[105, 111, 114] }), .int .i64 0]) (by simp only [List.map_toArray, List.map_cons, List.map_nil]; rfl)) rfl rfl ?_)
  intro a fr
  refine lst rfl (ow_v fr (rn_build (cells := #[.int .i64 129, (.string { data := #[108, 111, 114] }), .int .i64 0]) (by simp only [List.map_toArray, List.map_cons, List.map_nil]; rfl)) rfl rfl ?_)
  intro a fr
  refine lst rfl (ow_v fr (rn_build (cells := #[.int .i64 130, (.string { data := #[105, 120, 111, 114] }), .int .i64 0]) (by simp only [List.map_toArray, List.map_cons, List.map_nil]; rfl)) rfl rfl ?_)
  intro a fr
  refine lst rfl (ow_v fr (rn_build (cells := #[.int .i64 131, (.string { data := #[108, 120, 111, 114] }), .int .i64 0]) (by simp only [List.map_toArray, List.map_cons, List.map_nil]; rfl)) rfl rfl ?_)
  intro a fr
  refine lst rfl (ow_v fr (rn_build (cells := #[.int .i64 132, (.string { data := #[105, 105, 110, 99] }), .int .i64 7]) (by simp only [List.map_toArray, List.map_cons, List.map_nil]; rfl)) rfl rfl ?_)
  intro a fr
  refine lst rfl (ow_v fr (rn_build (cells := #[.int .i64 133, (.string { data := #[105, 50, 108] }), .int .i64 0]) (by simp only [List.map_toArray, List.map_cons, List.map_nil]; rfl)) rfl rfl ?_)
  intro a fr
  refine lst rfl (ow_v fr (rn_build (cells := #[.int .i64 136, (.string { data := #[108, 50, 105] }), .int .i64 0]) (by simp only [List.map_toArray, List.map_cons, List.map_nil]; rfl)) rfl rfl ?_)
  intro a fr
  refine lst rfl (ow_v fr (rn_build (cells := #[.int .i64 145, (.string { data := #[105, 50, 98] }), .int .i64 0]) (by simp only [List.map_toArray, List.map_cons, List.map_nil]; rfl)) rfl rfl ?_)
  intro a fr
  refine lst rfl (ow_v fr (rn_build (cells := #[.int .i64 146, (.string { data := #[105, 50, 99] }), .int .i64 0]) (by simp only [List.map_toArray, List.map_cons, List.map_nil]; rfl)) rfl rfl ?_)
  intro a fr
  refine lst rfl (ow_v fr (rn_build (cells := #[.int .i64 147, (.string { data := #[105, 50, 115] }), .int .i64 0]) (by simp only [List.map_toArray, List.map_cons, List.map_nil]; rfl)) rfl rfl ?_)
  intro a fr
  refine lst rfl (ow_v fr (rn_build (cells := #[.int .i64 148, (.string { data := #[108, 99, 109, 112] }), .int .i64 0]) (by simp only [List.map_toArray, List.map_cons, List.map_nil]; rfl)) rfl rfl ?_)
  intro a fr
  refine lst rfl (ow_v fr (rn_build (cells := #[.int .i64 153, (.string { data := #[105, 102, 101, 113] }), .int .i64 6]) (by simp only [List.map_toArray, List.map_cons, List.map_nil]; rfl)) rfl rfl ?_)
  intro a fr
  refine lst rfl (ow_v fr (rn_build (cells := #[.int .i64 154, (.string { data := #[105, 102, 110, 101] }), .int .i64 6]) (by simp only [List.map_toArray, List.map_cons, List.map_nil]; rfl)) rfl rfl ?_)
  intro a fr
  refine lst rfl (ow_v fr (rn_build (cells := #[.int .i64 155, (.string { data := #[105, 102, 108, 116] }), .int .i64 6]) (by simp only [List.map_toArray, List.map_cons, List.map_nil]; rfl)) rfl rfl ?_)
  intro a fr
  refine lst rfl (ow_v fr (rn_build (cells := #[.int .i64 156, (.string { data := #[105, 102, 103, 101] }), .int .i64 6]) (by simp only [List.map_toArray, List.map_cons, List.map_nil]; rfl)) rfl rfl ?_)
  intro a fr
  refine lst rfl (ow_v fr (rn_build (cells := #[.int .i64 157, (.string { data := #[105, 102, 103, 116] }), .int .i64 6]) (by simp only [List.map_toArray, List.map_cons, List.map_nil]; rfl)) rfl rfl ?_)
  intro a fr
  refine lst rfl (ow_v fr (rn_build (cells := #[.int .i64 158, (.string { data := #[105, 102, 108, 101] }), .int .i64 6]) (by simp only [List.map_toArray, List.map_cons, List.map_nil]; rfl)) rfl rfl ?_)
  intro a fr
  refine lst rfl (ow_v fr (rn_build (cells := #[.int .i64 159, (.string { data := #[105, 102, 95, 105, 99, 109, 112, 101, 113] }), .int .i64 6]) (by simp only [List.map_toArray, List.map_cons, List.map_nil]; rfl)) rfl rfl ?_)
  intro a fr
  refine lst rfl (ow_v fr (rn_build (cells := #[.int .i64 160, (.string { data := #[105, 102, 95, 105, 99, 109, 112, 110, 101] }), .int .i64 6]) (by simp only [List.map_toArray, List.map_cons, List.map_nil]; rfl)) rfl rfl ?_)
  intro a fr
  refine lst rfl (ow_v fr (rn_build (cells := #[.int .i64 161, (.string { data := #[105, 102, 95, 105, 99, 109, 112, 108, 116] }), .int .i64 6]) (by simp only [List.map_toArray, List.map_cons, List.map_nil]; rfl)) rfl rfl ?_)
  intro a fr
  refine lst rfl (ow_v fr (rn_build (cells := #[.int .i64 162, (.string { data := #[105, 102, 95, 105, 99, 109, 112, 103, 101] }), .int .i64 6]) (by simp only [List.map_toArray, List.map_cons, List.map_nil]; rfl)) rfl rfl ?_)
  intro a fr
  refine lst rfl (ow_v fr (rn_build (cells := #[.int .i64 163, (.string { data := #[105, 102, 95, 105, 99, 109, 112, 103, 116] }), .int .i64 6]) (by simp only [List.map_toArray, List.map_cons, List.map_nil]; rfl)) rfl rfl ?_)
  intro a fr
  refine lst rfl (ow_v fr (rn_build (cells := #[.int .i64 164, (.string { data := #[105, 102, 95, 105, 99, 109, 112, 108, 101] }), .int .i64 6]) (by simp only [List.map_toArray, List.map_cons, List.map_nil]; rfl)) rfl rfl ?_)
  intro a fr
  refine lst rfl (ow_v fr (rn_build (cells := #[.int .i64 165, (.string { data := #[105, 102, 95, 97, 99, 109, 112, 101, 113] }), .int .i64 6]) (by simp only [List.map_toArray, List.map_cons, List.map_nil]; rfl)) rfl rfl ?_)
  intro a fr
  refine lst rfl (ow_v fr (rn_build (cells := #[.int .i64 166, (.string { data := #[105, 102, 95, 97, 99, 109, 112, 110, 101] }), .int .i64 6]) (by simp only [List.map_toArray, List.map_cons, List.map_nil]; rfl)) rfl rfl ?_)
  intro a fr
  refine lst rfl (ow_v fr (rn_build (cells := #[.int .i64 167, (.string { data := #[103, 111, 116, 111] }), .int .i64 6]) (by simp only [List.map_toArray, List.map_cons, List.map_nil]; rfl)) rfl rfl ?_)
  intro a fr
  refine lst rfl (ow_v fr (rn_build (cells := #[.int .i64 172, (.string { data := #[105, 114, 101, 116, 117, 114, 110] }), .int .i64 0]) (by simp only [List.map_toArray, List.map_cons, List.map_nil]; rfl)) rfl rfl ?_)
  intro a fr
  refine lst rfl (ow_v fr (rn_build (cells := #[.int .i64 173, (.string { data := #[108, 114, 101, 116, 117, 114, 110] }), .int .i64 0]) (by simp only [List.map_toArray, List.map_cons, List.map_nil]; rfl)) rfl rfl ?_)
  intro a fr
  refine lst rfl (ow_v fr (rn_build (cells := #[.int .i64 176, (.string { data := #[97, 114, 101, 116, 117, 114, 110] }), .int .i64 0]) (by simp only [List.map_toArray, List.map_cons, List.map_nil]; rfl)) rfl rfl ?_)
  intro a fr
  refine lst rfl (ow_v fr (rn_build (cells := #[.int .i64 177, (.string { data := #[114, 101, 116, 117, 114, 110] }), .int .i64 0]) (by simp only [List.map_toArray, List.map_cons, List.map_nil]; rfl)) rfl rfl ?_)
  intro a fr
  refine lst rfl (ow_v fr (rn_build (cells := #[.int .i64 178, (.string { data := #[103, 101, 116, 115, 116, 97, 116, 105, 99] }), .int .i64 5]) (by simp only [List.map_toArray, List.map_cons, List.map_nil]; rfl)) rfl rfl ?_)
  intro a fr
  refine lst rfl (ow_v fr (rn_build (cells := #[.int .i64 179, (.string { data := #[112, 117, 116, 115, 116, 97, 116, 105, 99] }), .int .i64 5]) (by simp only [List.map_toArray, List.map_cons, List.map_nil]; rfl)) rfl rfl ?_)
  intro a fr
  refine lst rfl (ow_v fr (rn_build (cells := #[.int .i64 180, (.string { data := #[103, 101, 116, 102, 105, 101, 108, 100] }), .int .i64 5]) (by simp only [List.map_toArray, List.map_cons, List.map_nil]; rfl)) rfl rfl ?_)
  intro a fr
  refine lst rfl (ow_v fr (rn_build (cells := #[.int .i64 181, (.string { data := #[112, 117, 116, 102, 105, 101, 108, 100] }), .int .i64 5]) (by simp only [List.map_toArray, List.map_cons, List.map_nil]; rfl)) rfl rfl ?_)
  intro a fr
  refine lst rfl (ow_v fr (rn_build (cells := #[.int .i64 182, (.string { data := #[105, 110, 118, 111, 107, 101, 118, 105, 114, 116, 117, 97, 108] }), .int .i64 5]) (by simp only [List.map_toArray, List.map_cons, List.map_nil]; rfl)) rfl rfl ?_)
  intro a fr
  refine lst rfl (ow_v fr (rn_build (cells := #[.int .i64 183, (.string { data := #[105, 110, 118, 111, 107, 101, 115, 112, 101, 99, 105, 97, 108] }), .int .i64 5]) (by simp only [List.map_toArray, List.map_cons, List.map_nil]; rfl)) rfl rfl ?_)
  intro a fr
  refine lst rfl (ow_v fr (rn_build (cells := #[.int .i64 184, (.string { data := #[105, 110, 118, 111, 107, 101, 115, 116, 97, 116, 105, 99] }), .int .i64 5]) (by simp only [List.map_toArray, List.map_cons, List.map_nil]; rfl)) rfl rfl ?_)
  intro a fr
  refine lst rfl (ow_v fr (rn_build (cells := #[.int .i64 187, (.string { data := #[110, 101, 119] }), .int .i64 5]) (by simp only [List.map_toArray, List.map_cons, List.map_nil]; rfl)) rfl rfl ?_)
  intro a fr
  refine lst rfl (ow_v fr (rn_build (cells := #[.int .i64 188, (.string { data := #[110, 101, 119, 97, 114, 114, 97, 121] }), .int .i64 8]) (by simp only [List.map_toArray, List.map_cons, List.map_nil]; rfl)) rfl rfl ?_)
  intro a fr
  refine lst rfl (ow_v fr (rn_build (cells := #[.int .i64 189, (.string { data := #[97, 110, 101, 119, 97, 114, 114, 97, 121] }), .int .i64 5]) (by simp only [List.map_toArray, List.map_cons, List.map_nil]; rfl)) rfl rfl ?_)
  intro a fr
  refine lst rfl (ow_v fr (rn_build (cells := #[.int .i64 190, (.string { data := #[97, 114, 114, 97, 121, 108, 101, 110, 103, 116, 104] }), .int .i64 0]) (by simp only [List.map_toArray, List.map_cons, List.map_nil]; rfl)) rfl rfl ?_)
  intro a fr
  refine lst rfl (ow_v fr (rn_build (cells := #[.int .i64 191, (.string { data := #[97, 116, 104, 114, 111, 119] }), .int .i64 0]) (by simp only [List.map_toArray, List.map_cons, List.map_nil]; rfl)) rfl rfl ?_)
  intro a fr
  refine lst rfl (ow_v fr (rn_build (cells := #[.int .i64 192, (.string { data := #[99, 104, 101, 99, 107, 99, 97, 115, 116] }), .int .i64 5]) (by simp only [List.map_toArray, List.map_cons, List.map_nil]; rfl)) rfl rfl ?_)
  intro a fr
  refine lst rfl (ow_v fr (rn_build (cells := #[.int .i64 193, (.string { data := #[105, 110, 115, 116, 97, 110, 99, 101, 111, 102] }), .int .i64 5]) (by simp only [List.map_toArray, List.map_cons, List.map_nil]; rfl)) rfl rfl ?_)
  intro a fr
  refine lst rfl (ow_v fr (rn_build (cells := #[.int .i64 198, (.string { data := #[105, 102, 110, 117, 108, 108] }), .int .i64 6]) (by simp only [List.map_toArray, List.map_cons, List.map_nil]; rfl)) rfl rfl ?_)
  intro a fr
  refine lst rfl (ow_v fr (rn_build (cells := #[.int .i64 199, (.string { data := #[105, 102, 110, 111, 110, 110, 117, 108, 108] }), .int .i64 6]) (by simp only [List.map_toArray, List.map_cons, List.map_nil]; rfl)) rfl rfl ?_)
  intro a fr
  refine lst rfl (ow_bsliceL (E := 75) (m := 121) fr st rfl rfl (flat rowC tblL) (fun w => by kernel_rfl) rfl rfl ?_)
  intro a w b1 fr st
  refine lst rfl (ow_v fr (rn_assign (fr.ev rfl)) rfl rfl ?_)
  intro a fr
  refine wpList_nil ?_
  refine then_n ?_
  refine wp_ret ?_
  refine ret1 Try.results51 fr (rv_tmp fr rfl) ?_
  exact ⟨b1, rfl, (els_of_blk (C := rowC) (sz := 3) (fun _ => rfl) (by decide) (st.get 0 rfl) rfl).1, (st.get 0 rfl).1.resolve_right (by simp), st.agr⟩

end Go.Proofs.Yteiohpbghpmohaa.O1
