/-
  Texts laid together: LfF, Vs, LfG, LfP, LfT. Nothing is assumed.
-/
import Derived.Test.YtlamcpgnmeileaaFb3
import Derived.Test.YtlamcpgnmeileaaFb1
namespace Go.Proofs.Ytlamcpgnmeileaa
open Go.RowKit Go.Lib
set_option linter.unusedVariables false
set_option linter.unusedSimpArgs false
def ref04_Table_v  : Option (List T_3_string) := some ([(⟨(⟨#[204, 128]⟩ : ByteArray), (⟨#[65, 69, 73, 79, 85, 97, 101, 105, 111, 117, 208, 149, 208, 152, 208, 181, 208, 184]⟩ : ByteArray), (⟨#[195, 128, 195, 136, 195, 140, 195, 146, 195, 153, 195, 160, 195, 168, 195, 172, 195, 178, 195, 185, 208, 128, 208, 141, 209, 144, 209, 157]⟩ : ByteArray)⟩ : T_3_string), (⟨(⟨#[204, 129]⟩ : ByteArray), (⟨#[65, 69, 73, 79, 85, 89, 97, 101, 105, 111, 117, 121, 67, 76, 78, 82, 83, 90, 99, 108, 110, 114, 115, 122]⟩ : ByteArray), (⟨#[195, 129, 195, 137, 195, 141, 195, 147, 195, 154, 195, 157, 195, 161, 195, 169, 195, 173, 195, 179, 195, 186, 195, 189, 196, 134, 196, 185, 197, 131, 197, 148, 197, 154, 197, 185, 196, 135, 196, 186, 197, 132, 197, 149, 197, 155, 197, 186]⟩ : ByteArray)⟩ : T_3_string), (⟨(⟨#[204, 129]⟩ : ByteArray), (⟨#[206, 145, 206, 149, 206, 151, 206, 153, 206, 159, 206, 165, 206, 169, 206, 177, 206, 181, 206, 183, 206, 185, 206, 191, 207, 133, 207, 137, 208, 147, 208, 154, 208, 179, 208, 186, 207, 138, 207, 139]⟩ : ByteArray), (⟨#[206, 134, 206, 136, 206, 137, 206, 138, 206, 140, 206, 142, 206, 143, 206, 172, 206, 173, 206, 174, 206, 175, 207, 140, 207, 141, 207, 142, 208, 131, 208, 140, 209, 147, 209, 156, 206, 144, 206, 176]⟩ : ByteArray)⟩ : T_3_string), (⟨(⟨#[204, 130]⟩ : ByteArray), (⟨#[65, 69, 73, 79, 85, 97, 101, 105, 111, 117, 67, 71, 72, 74, 83, 87, 89, 99, 103, 104, 106, 115, 119, 121]⟩ : ByteArray), (⟨#[195, 130, 195, 138, 195, 142, 195, 148, 195, 155, 195, 162, 195, 170, 195, 174, 195, 180, 195, 187, 196, 136, 196, 156, 196, 164, 196, 180, 197, 156, 197, 180, 197, 182, 196, 137, 196, 157, 196, 165, 196, 181, 197, 157, 197, 181, 197, 183]⟩ : ByteArray)⟩ : T_3_string), (⟨(⟨#[204, 131]⟩ : ByteArray), (⟨#[65, 78, 79, 97, 110, 111, 73, 85, 105, 117]⟩ : ByteArray), (⟨#[195, 131, 195, 145, 195, 149, 195, 163, 195, 177, 195, 181, 196, 168, 197, 168, 196, 169, 197, 169]⟩ : ByteArray)⟩ : T_3_string), (⟨(⟨#[204, 132]⟩ : ByteArray), (⟨#[65, 69, 73, 79, 85, 97, 101, 105, 111, 117]⟩ : ByteArray), (⟨#[196, 128, 196, 146, 196, 170, 197, 140, 197, 170, 196, 129, 196, 147, 196, 171, 197, 141, 197, 171]⟩ : ByteArray)⟩ : T_3_string), (⟨(⟨#[204, 134]⟩ : ByteArray), (⟨#[65, 69, 71, 73, 79, 85, 97, 101, 103, 105, 111, 117, 208, 152, 208, 163, 208, 184, 209, 131]⟩ : ByteArray), (⟨#[196, 130, 196, 148, 196, 158, 196, 172, 197, 142, 197, 172, 196, 131, 196, 149, 196, 159, 196, 173, 197, 143, 197, 173, 208, 153, 208, 142, 208, 185, 209, 158]⟩ : ByteArray)⟩ : T_3_string), (⟨(⟨#[204, 135]⟩ : ByteArray), (⟨#[67, 69, 71, 73, 90, 99, 101, 103, 122]⟩ : ByteArray), (⟨#[196, 138, 196, 150, 196, 160, 196, 176, 197, 187, 196, 139, 196, 151, 196, 161, 197, 188]⟩ : ByteArray)⟩ : T_3_string), (⟨(⟨#[204, 136]⟩ : ByteArray), (⟨#[65, 69, 73, 79, 85, 97, 101, 105, 111, 117, 121, 89, 208, 149, 208, 134, 208, 181, 209, 150, 206, 153, 206, 165, 206, 185, 207, 133]⟩ : ByteArray), (⟨#[195, 132, 195, 139, 195, 143, 195, 150, 195, 156, 195, 164, 195, 171, 195, 175, 195, 182, 195, 188, 195, 191, 197, 184, 208, 129, 208, 135, 209, 145, 209, 151, 206, 170, 206, 171, 207, 138, 207, 139]⟩ : ByteArray)⟩ : T_3_string), (⟨(⟨#[204, 138]⟩ : ByteArray), (⟨#[65, 85, 97, 117]⟩ : ByteArray), (⟨#[195, 133, 197, 174, 195, 165, 197, 175]⟩ : ByteArray)⟩ : T_3_string), (⟨(⟨#[204, 139]⟩ : ByteArray), (⟨#[79, 85, 111, 117]⟩ : ByteArray), (⟨#[197, 144, 197, 176, 197, 145, 197, 177]⟩ : ByteArray)⟩ : T_3_string), (⟨(⟨#[204, 140]⟩ : ByteArray), (⟨#[67, 68, 69, 76, 78, 82, 83, 84, 90, 99, 100, 101, 108, 110, 114, 115, 116, 122]⟩ : ByteArray), (⟨#[196, 140, 196, 142, 196, 154, 196, 189, 197, 135, 197, 152, 197, 160, 197, 164, 197, 189, 196, 141, 196, 143, 196, 155, 196, 190, 197, 136, 197, 153, 197, 161, 197, 165, 197, 190]⟩ : ByteArray)⟩ : T_3_string), (⟨(⟨#[204, 167]⟩ : ByteArray), (⟨#[67, 71, 75, 76, 78, 82, 83, 84, 99, 103, 107, 108, 110, 114, 115, 116]⟩ : ByteArray), (⟨#[195, 135, 196, 162, 196, 182, 196, 187, 197, 133, 197, 150, 197, 158, 197, 162, 195, 167, 196, 163, 196, 183, 196, 188, 197, 134, 197, 151, 197, 159, 197, 163]⟩ : ByteArray)⟩ : T_3_string), (⟨(⟨#[204, 168]⟩ : ByteArray), (⟨#[65, 69, 73, 85, 97, 101, 105, 117]⟩ : ByteArray), (⟨#[196, 132, 196, 152, 196, 174, 197, 178, 196, 133, 196, 153, 196, 175, 197, 179]⟩ : ByteArray)⟩ : T_3_string)] : List T_3_string)
set_option maxRecDepth 100000 in
set_option maxHeartbeats 4000000 in
theorem ref04_Table_fn  {r : (List T_3_string)} (h : ref04_Table_v = some r) : Fn Try.prog 101 [] [] (fun v0 : Value => v0) (fun v0 => [vec enc_T_3_string 130 3 v0 r]) := by
 unfold ref04_Table_v at h
 refine Fn.intro Try.func101 rfl Try.ntmps101 (by simp) ?_
 intro w0 K
 refine TC.seq (TC.region (TO.assign rfl dc rfl (TO.nil (TX.next (TC.seq (TC.region ?_))))))
 refine TO.build (v := .agg #[.string (⟨#[204, 128]⟩ : ByteArray), .string (⟨#[65, 69, 73, 79, 85, 97, 101, 105, 111, 117, 208, 149, 208, 152, 208, 181, 208, 184]⟩ : ByteArray), .string (⟨#[195, 128, 195, 136, 195, 140, 195, 146, 195, 153, 195, 160, 195, 168, 195, 172, 195, 178, 195, 185, 208, 128, 208, 141, 209, 144, 209, 157]⟩ : ByteArray)]) (ps := [(0, .const (.string (⟨#[204, 128]⟩ : ByteArray))), (1, .const (.string (⟨#[65, 69, 73, 79, 85, 97, 101, 105, 111, 117, 208, 149, 208, 152, 208, 181, 208, 184]⟩ : ByteArray))), (2, .const (.string (⟨#[195, 128, 195, 136, 195, 140, 195, 146, 195, 153, 195, 160, 195, 168, 195, 172, 195, 178, 195, 185, 208, 128, 208, 141, 209, 144, 209, 157]⟩ : ByteArray)))]) rfl dc rfl (fun _ => by kernel_rfl) ?_
 refine TO.build (v := .agg #[.string (⟨#[204, 129]⟩ : ByteArray), .string (⟨#[65, 69, 73, 79, 85, 89, 97, 101, 105, 111, 117, 121, 67, 76, 78, 82, 83, 90, 99, 108, 110, 114, 115, 122]⟩ : ByteArray), .string (⟨#[195, 129, 195, 137, 195, 141, 195, 147, 195, 154, 195, 157, 195, 161, 195, 169, 195, 173, 195, 179, 195, 186, 195, 189, 196, 134, 196, 185, 197, 131, 197, 148, 197, 154, 197, 185, 196, 135, 196, 186, 197, 132, 197, 149, 197, 155, 197, 186]⟩ : ByteArray)]) (ps := [(0, .const (.string (⟨#[204, 129]⟩ : ByteArray))), (1, .const (.string (⟨#[65, 69, 73, 79, 85, 89, 97, 101, 105, 111, 117, 121, 67, 76, 78, 82, 83, 90, 99, 108, 110, 114, 115, 122]⟩ : ByteArray))), (2, .const (.string (⟨#[195, 129, 195, 137, 195, 141, 195, 147, 195, 154, 195, 157, 195, 161, 195, 169, 195, 173, 195, 179, 195, 186, 195, 189, 196, 134, 196, 185, 197, 131, 197, 148, 197, 154, 197, 185, 196, 135, 196, 186, 197, 132, 197, 149, 197, 155, 197, 186]⟩ : ByteArray)))]) rfl dc rfl (fun _ => by kernel_rfl) ?_
 refine TO.build (v := .agg #[.string (⟨#[204, 129]⟩ : ByteArray), .string (⟨#[206, 145, 206, 149, 206, 151, 206, 153, 206, 159, 206, 165, 206, 169, 206, 177, 206, 181, 206, 183, 206, 185, 206, 191, 207, 133, 207, 137, 208, 147, 208, 154, 208, 179, 208, 186, 207, 138, 207, 139]⟩ : ByteArray), .string (⟨#[206, 134, 206, 136, 206, 137, 206, 138, 206, 140, 206, 142, 206, 143, 206, 172, 206, 173, 206, 174, 206, 175, 207, 140, 207, 141, 207, 142, 208, 131, 208, 140, 209, 147, 209, 156, 206, 144, 206, 176]⟩ : ByteArray)]) (ps := [(0, .const (.string (⟨#[204, 129]⟩ : ByteArray))), (1, .const (.string (⟨#[206, 145, 206, 149, 206, 151, 206, 153, 206, 159, 206, 165, 206, 169, 206, 177, 206, 181, 206, 183, 206, 185, 206, 191, 207, 133, 207, 137, 208, 147, 208, 154, 208, 179, 208, 186, 207, 138, 207, 139]⟩ : ByteArray))), (2, .const (.string (⟨#[206, 134, 206, 136, 206, 137, 206, 138, 206, 140, 206, 142, 206, 143, 206, 172, 206, 173, 206, 174, 206, 175, 207, 140, 207, 141, 207, 142, 208, 131, 208, 140, 209, 147, 209, 156, 206, 144, 206, 176]⟩ : ByteArray)))]) rfl dc rfl (fun _ => by kernel_rfl) ?_
 refine TO.build (v := .agg #[.string (⟨#[204, 130]⟩ : ByteArray), .string (⟨#[65, 69, 73, 79, 85, 97, 101, 105, 111, 117, 67, 71, 72, 74, 83, 87, 89, 99, 103, 104, 106, 115, 119, 121]⟩ : ByteArray), .string (⟨#[195, 130, 195, 138, 195, 142, 195, 148, 195, 155, 195, 162, 195, 170, 195, 174, 195, 180, 195, 187, 196, 136, 196, 156, 196, 164, 196, 180, 197, 156, 197, 180, 197, 182, 196, 137, 196, 157, 196, 165, 196, 181, 197, 157, 197, 181, 197, 183]⟩ : ByteArray)]) (ps := [(0, .const (.string (⟨#[204, 130]⟩ : ByteArray))), (1, .const (.string (⟨#[65, 69, 73, 79, 85, 97, 101, 105, 111, 117, 67, 71, 72, 74, 83, 87, 89, 99, 103, 104, 106, 115, 119, 121]⟩ : ByteArray))), (2, .const (.string (⟨#[195, 130, 195, 138, 195, 142, 195, 148, 195, 155, 195, 162, 195, 170, 195, 174, 195, 180, 195, 187, 196, 136, 196, 156, 196, 164, 196, 180, 197, 156, 197, 180, 197, 182, 196, 137, 196, 157, 196, 165, 196, 181, 197, 157, 197, 181, 197, 183]⟩ : ByteArray)))]) rfl dc rfl (fun _ => by kernel_rfl) ?_
 refine TO.build (v := .agg #[.string (⟨#[204, 131]⟩ : ByteArray), .string (⟨#[65, 78, 79, 97, 110, 111, 73, 85, 105, 117]⟩ : ByteArray), .string (⟨#[195, 131, 195, 145, 195, 149, 195, 163, 195, 177, 195, 181, 196, 168, 197, 168, 196, 169, 197, 169]⟩ : ByteArray)]) (ps := [(0, .const (.string (⟨#[204, 131]⟩ : ByteArray))), (1, .const (.string (⟨#[65, 78, 79, 97, 110, 111, 73, 85, 105, 117]⟩ : ByteArray))), (2, .const (.string (⟨#[195, 131, 195, 145, 195, 149, 195, 163, 195, 177, 195, 181, 196, 168, 197, 168, 196, 169, 197, 169]⟩ : ByteArray)))]) rfl dc rfl (fun _ => by kernel_rfl) ?_
 refine TO.build (v := .agg #[.string (⟨#[204, 132]⟩ : ByteArray), .string (⟨#[65, 69, 73, 79, 85, 97, 101, 105, 111, 117]⟩ : ByteArray), .string (⟨#[196, 128, 196, 146, 196, 170, 197, 140, 197, 170, 196, 129, 196, 147, 196, 171, 197, 141, 197, 171]⟩ : ByteArray)]) (ps := [(0, .const (.string (⟨#[204, 132]⟩ : ByteArray))), (1, .const (.string (⟨#[65, 69, 73, 79, 85, 97, 101, 105, 111, 117]⟩ : ByteArray))), (2, .const (.string (⟨#[196, 128, 196, 146, 196, 170, 197, 140, 197, 170, 196, 129, 196, 147, 196, 171, 197, 141, 197, 171]⟩ : ByteArray)))]) rfl dc rfl (fun _ => by kernel_rfl) ?_
 refine TO.build (v := .agg #[.string (⟨#[204, 134]⟩ : ByteArray), .string (⟨#[65, 69, 71, 73, 79, 85, 97, 101, 103, 105, 111, 117, 208, 152, 208, 163, 208, 184, 209, 131]⟩ : ByteArray), .string (⟨#[196, 130, 196, 148, 196, 158, 196, 172, 197, 142, 197, 172, 196, 131, 196, 149, 196, 159, 196, 173, 197, 143, 197, 173, 208, 153, 208, 142, 208, 185, 209, 158]⟩ : ByteArray)]) (ps := [(0, .const (.string (⟨#[204, 134]⟩ : ByteArray))), (1, .const (.string (⟨#[65, 69, 71, 73, 79, 85, 97, 101, 103, 105, 111, 117, 208, 152, 208, 163, 208, 184, 209, 131]⟩ : ByteArray))), (2, .const (.string (⟨#[196, 130, 196, 148, 196, 158, 196, 172, 197, 142, 197, 172, 196, 131, 196, 149, 196, 159, 196, 173, 197, 143, 197, 173, 208, 153, 208, 142, 208, 185, 209, 158]⟩ : ByteArray)))]) rfl dc rfl (fun _ => by kernel_rfl) ?_
 refine TO.build (v := .agg #[.string (⟨#[204, 135]⟩ : ByteArray), .string (⟨#[67, 69, 71, 73, 90, 99, 101, 103, 122]⟩ : ByteArray), .string (⟨#[196, 138, 196, 150, 196, 160, 196, 176, 197, 187, 196, 139, 196, 151, 196, 161, 197, 188]⟩ : ByteArray)]) (ps := [(0, .const (.string (⟨#[204, 135]⟩ : ByteArray))), (1, .const (.string (⟨#[67, 69, 71, 73, 90, 99, 101, 103, 122]⟩ : ByteArray))), (2, .const (.string (⟨#[196, 138, 196, 150, 196, 160, 196, 176, 197, 187, 196, 139, 196, 151, 196, 161, 197, 188]⟩ : ByteArray)))]) rfl dc rfl (fun _ => by kernel_rfl) ?_
 refine TO.build (v := .agg #[.string (⟨#[204, 136]⟩ : ByteArray), .string (⟨#[65, 69, 73, 79, 85, 97, 101, 105, 111, 117, 121, 89, 208, 149, 208, 134, 208, 181, 209, 150, 206, 153, 206, 165, 206, 185, 207, 133]⟩ : ByteArray), .string (⟨#[195, 132, 195, 139, 195, 143, 195, 150, 195, 156, 195, 164, 195, 171, 195, 175, 195, 182, 195, 188, 195, 191, 197, 184, 208, 129, 208, 135, 209, 145, 209, 151, 206, 170, 206, 171, 207, 138, 207, 139]⟩ : ByteArray)]) (ps := [(0, .const (.string (⟨#[204, 136]⟩ : ByteArray))), (1, .const (.string (⟨#[65, 69, 73, 79, 85, 97, 101, 105, 111, 117, 121, 89, 208, 149, 208, 134, 208, 181, 209, 150, 206, 153, 206, 165, 206, 185, 207, 133]⟩ : ByteArray))), (2, .const (.string (⟨#[195, 132, 195, 139, 195, 143, 195, 150, 195, 156, 195, 164, 195, 171, 195, 175, 195, 182, 195, 188, 195, 191, 197, 184, 208, 129, 208, 135, 209, 145, 209, 151, 206, 170, 206, 171, 207, 138, 207, 139]⟩ : ByteArray)))]) rfl dc rfl (fun _ => by kernel_rfl) ?_
 refine TO.build (v := .agg #[.string (⟨#[204, 138]⟩ : ByteArray), .string (⟨#[65, 85, 97, 117]⟩ : ByteArray), .string (⟨#[195, 133, 197, 174, 195, 165, 197, 175]⟩ : ByteArray)]) (ps := [(0, .const (.string (⟨#[204, 138]⟩ : ByteArray))), (1, .const (.string (⟨#[65, 85, 97, 117]⟩ : ByteArray))), (2, .const (.string (⟨#[195, 133, 197, 174, 195, 165, 197, 175]⟩ : ByteArray)))]) rfl dc rfl (fun _ => by kernel_rfl) ?_
 refine TO.build (v := .agg #[.string (⟨#[204, 139]⟩ : ByteArray), .string (⟨#[79, 85, 111, 117]⟩ : ByteArray), .string (⟨#[197, 144, 197, 176, 197, 145, 197, 177]⟩ : ByteArray)]) (ps := [(0, .const (.string (⟨#[204, 139]⟩ : ByteArray))), (1, .const (.string (⟨#[79, 85, 111, 117]⟩ : ByteArray))), (2, .const (.string (⟨#[197, 144, 197, 176, 197, 145, 197, 177]⟩ : ByteArray)))]) rfl dc rfl (fun _ => by kernel_rfl) ?_
 refine TO.build (v := .agg #[.string (⟨#[204, 140]⟩ : ByteArray), .string (⟨#[67, 68, 69, 76, 78, 82, 83, 84, 90, 99, 100, 101, 108, 110, 114, 115, 116, 122]⟩ : ByteArray), .string (⟨#[196, 140, 196, 142, 196, 154, 196, 189, 197, 135, 197, 152, 197, 160, 197, 164, 197, 189, 196, 141, 196, 143, 196, 155, 196, 190, 197, 136, 197, 153, 197, 161, 197, 165, 197, 190]⟩ : ByteArray)]) (ps := [(0, .const (.string (⟨#[204, 140]⟩ : ByteArray))), (1, .const (.string (⟨#[67, 68, 69, 76, 78, 82, 83, 84, 90, 99, 100, 101, 108, 110, 114, 115, 116, 122]⟩ : ByteArray))), (2, .const (.string (⟨#[196, 140, 196, 142, 196, 154, 196, 189, 197, 135, 197, 152, 197, 160, 197, 164, 197, 189, 196, 141, 196, 143, 196, 155, 196, 190, 197, 136, 197, 153, 197, 161, 197, 165, 197, 190]⟩ : ByteArray)))]) rfl dc rfl (fun _ => by kernel_rfl) ?_
 refine TO.build (v := .agg #[.string (⟨#[204, 167]⟩ : ByteArray), .string (⟨#[67, 71, 75, 76, 78, 82, 83, 84, 99, 103, 107, 108, 110, 114, 115, 116]⟩ : ByteArray), .string (⟨#[195, 135, 196, 162, 196, 182, 196, 187, 197, 133, 197, 150, 197, 158, 197, 162, 195, 167, 196, 163, 196, 183, 196, 188, 197, 134, 197, 151, 197, 159, 197, 163]⟩ : ByteArray)]) (ps := [(0, .const (.string (⟨#[204, 167]⟩ : ByteArray))), (1, .const (.string (⟨#[67, 71, 75, 76, 78, 82, 83, 84, 99, 103, 107, 108, 110, 114, 115, 116]⟩ : ByteArray))), (2, .const (.string (⟨#[195, 135, 196, 162, 196, 182, 196, 187, 197, 133, 197, 150, 197, 158, 197, 162, 195, 167, 196, 163, 196, 183, 196, 188, 197, 134, 197, 151, 197, 159, 197, 163]⟩ : ByteArray)))]) rfl dc rfl (fun _ => by kernel_rfl) ?_
 refine TO.build (v := .agg #[.string (⟨#[204, 168]⟩ : ByteArray), .string (⟨#[65, 69, 73, 85, 97, 101, 105, 117]⟩ : ByteArray), .string (⟨#[196, 132, 196, 152, 196, 174, 197, 178, 196, 133, 196, 153, 196, 175, 197, 179]⟩ : ByteArray)]) (ps := [(0, .const (.string (⟨#[204, 168]⟩ : ByteArray))), (1, .const (.string (⟨#[65, 69, 73, 85, 97, 101, 105, 117]⟩ : ByteArray))), (2, .const (.string (⟨#[196, 132, 196, 152, 196, 174, 197, 178, 196, 133, 196, 153, 196, 175, 197, 179]⟩ : ByteArray)))]) rfl dc rfl (fun _ => by kernel_rfl) ?_
 refine TO.buildSlice (cs := [.string (⟨#[204, 128]⟩ : ByteArray), .string (⟨#[65, 69, 73, 79, 85, 97, 101, 105, 111, 117, 208, 149, 208, 152, 208, 181, 208, 184]⟩ : ByteArray), .string (⟨#[195, 128, 195, 136, 195, 140, 195, 146, 195, 153, 195, 160, 195, 168, 195, 172, 195, 178, 195, 185, 208, 128, 208, 141, 209, 144, 209, 157]⟩ : ByteArray), .string (⟨#[204, 129]⟩ : ByteArray), .string (⟨#[65, 69, 73, 79, 85, 89, 97, 101, 105, 111, 117, 121, 67, 76, 78, 82, 83, 90, 99, 108, 110, 114, 115, 122]⟩ : ByteArray), .string (⟨#[195, 129, 195, 137, 195, 141, 195, 147, 195, 154, 195, 157, 195, 161, 195, 169, 195, 173, 195, 179, 195, 186, 195, 189, 196, 134, 196, 185, 197, 131, 197, 148, 197, 154, 197, 185, 196, 135, 196, 186, 197, 132, 197, 149, 197, 155, 197, 186]⟩ : ByteArray), .string (⟨#[204, 129]⟩ : ByteArray), .string (⟨#[206, 145, 206, 149, 206, 151, 206, 153, 206, 159, 206, 165, 206, 169, 206, 177, 206, 181, 206, 183, 206, 185, 206, 191, 207, 133, 207, 137, 208, 147, 208, 154, 208, 179, 208, 186, 207, 138, 207, 139]⟩ : ByteArray), .string (⟨#[206, 134, 206, 136, 206, 137, 206, 138, 206, 140, 206, 142, 206, 143, 206, 172, 206, 173, 206, 174, 206, 175, 207, 140, 207, 141, 207, 142, 208, 131, 208, 140, 209, 147, 209, 156, 206, 144, 206, 176]⟩ : ByteArray), .string (⟨#[204, 130]⟩ : ByteArray), .string (⟨#[65, 69, 73, 79, 85, 97, 101, 105, 111, 117, 67, 71, 72, 74, 83, 87, 89, 99, 103, 104, 106, 115, 119, 121]⟩ : ByteArray), .string (⟨#[195, 130, 195, 138, 195, 142, 195, 148, 195, 155, 195, 162, 195, 170, 195, 174, 195, 180, 195, 187, 196, 136, 196, 156, 196, 164, 196, 180, 197, 156, 197, 180, 197, 182, 196, 137, 196, 157, 196, 165, 196, 181, 197, 157, 197, 181, 197, 183]⟩ : ByteArray), .string (⟨#[204, 131]⟩ : ByteArray), .string (⟨#[65, 78, 79, 97, 110, 111, 73, 85, 105, 117]⟩ : ByteArray), .string (⟨#[195, 131, 195, 145, 195, 149, 195, 163, 195, 177, 195, 181, 196, 168, 197, 168, 196, 169, 197, 169]⟩ : ByteArray), .string (⟨#[204, 132]⟩ : ByteArray), .string (⟨#[65, 69, 73, 79, 85, 97, 101, 105, 111, 117]⟩ : ByteArray), .string (⟨#[196, 128, 196, 146, 196, 170, 197, 140, 197, 170, 196, 129, 196, 147, 196, 171, 197, 141, 197, 171]⟩ : ByteArray), .string (⟨#[204, 134]⟩ : ByteArray), .string (⟨#[65, 69, 71, 73, 79, 85, 97, 101, 103, 105, 111, 117, 208, 152, 208, 163, 208, 184, 209, 131]⟩ : ByteArray), .string (⟨#[196, 130, 196, 148, 196, 158, 196, 172, 197, 142, 197, 172, 196, 131, 196, 149, 196, 159, 196, 173, 197, 143, 197, 173, 208, 153, 208, 142, 208, 185, 209, 158]⟩ : ByteArray), .string (⟨#[204, 135]⟩ : ByteArray), .string (⟨#[67, 69, 71, 73, 90, 99, 101, 103, 122]⟩ : ByteArray), .string (⟨#[196, 138, 196, 150, 196, 160, 196, 176, 197, 187, 196, 139, 196, 151, 196, 161, 197, 188]⟩ : ByteArray), .string (⟨#[204, 136]⟩ : ByteArray), .string (⟨#[65, 69, 73, 79, 85, 97, 101, 105, 111, 117, 121, 89, 208, 149, 208, 134, 208, 181, 209, 150, 206, 153, 206, 165, 206, 185, 207, 133]⟩ : ByteArray), .string (⟨#[195, 132, 195, 139, 195, 143, 195, 150, 195, 156, 195, 164, 195, 171, 195, 175, 195, 182, 195, 188, 195, 191, 197, 184, 208, 129, 208, 135, 209, 145, 209, 151, 206, 170, 206, 171, 207, 138, 207, 139]⟩ : ByteArray), .string (⟨#[204, 138]⟩ : ByteArray), .string (⟨#[65, 85, 97, 117]⟩ : ByteArray), .string (⟨#[195, 133, 197, 174, 195, 165, 197, 175]⟩ : ByteArray), .string (⟨#[204, 139]⟩ : ByteArray), .string (⟨#[79, 85, 111, 117]⟩ : ByteArray), .string (⟨#[197, 144, 197, 176, 197, 145, 197, 177]⟩ : ByteArray), .string (⟨#[204, 140]⟩ : ByteArray), .string (⟨#[67, 68, 69, 76, 78, 82, 83, 84, 90, 99, 100, 101, 108, 110, 114, 115, 116, 122]⟩ : ByteArray), .string (⟨#[196, 140, 196, 142, 196, 154, 196, 189, 197, 135, 197, 152, 197, 160, 197, 164, 197, 189, 196, 141, 196, 143, 196, 155, 196, 190, 197, 136, 197, 153, 197, 161, 197, 165, 197, 190]⟩ : ByteArray), .string (⟨#[204, 167]⟩ : ByteArray), .string (⟨#[67, 71, 75, 76, 78, 82, 83, 84, 99, 103, 107, 108, 110, 114, 115, 116]⟩ : ByteArray), .string (⟨#[195, 135, 196, 162, 196, 182, 196, 187, 197, 133, 197, 150, 197, 158, 197, 162, 195, 167, 196, 163, 196, 183, 196, 188, 197, 134, 197, 151, 197, 159, 197, 163]⟩ : ByteArray), .string (⟨#[204, 168]⟩ : ByteArray), .string (⟨#[65, 69, 73, 85, 97, 101, 105, 117]⟩ : ByteArray), .string (⟨#[196, 132, 196, 152, 196, 174, 197, 178, 196, 133, 196, 153, 196, 175, 197, 179]⟩ : ByteArray)]) (te := 130) (ps := [(0, .tmp 1), (1, .tmp 2), (2, .tmp 3), (3, .tmp 4), (4, .tmp 5), (5, .tmp 6), (6, .tmp 7), (7, .tmp 8), (8, .tmp 9), (9, .tmp 10), (10, .tmp 11), (11, .tmp 12), (12, .tmp 13), (13, .tmp 14)]) rfl dc rfl (fun _ => by kernel_rfl) (fun b1 => ?_)
 refine TO.assign rfl dc rfl (TO.nil (TX.next (TC.ret (TX.toVec ([(⟨(⟨#[204, 128]⟩ : ByteArray), (⟨#[65, 69, 73, 79, 85, 97, 101, 105, 111, 117, 208, 149, 208, 152, 208, 181, 208, 184]⟩ : ByteArray), (⟨#[195, 128, 195, 136, 195, 140, 195, 146, 195, 153, 195, 160, 195, 168, 195, 172, 195, 178, 195, 185, 208, 128, 208, 141, 209, 144, 209, 157]⟩ : ByteArray)⟩ : T_3_string), (⟨(⟨#[204, 129]⟩ : ByteArray), (⟨#[65, 69, 73, 79, 85, 89, 97, 101, 105, 111, 117, 121, 67, 76, 78, 82, 83, 90, 99, 108, 110, 114, 115, 122]⟩ : ByteArray), (⟨#[195, 129, 195, 137, 195, 141, 195, 147, 195, 154, 195, 157, 195, 161, 195, 169, 195, 173, 195, 179, 195, 186, 195, 189, 196, 134, 196, 185, 197, 131, 197, 148, 197, 154, 197, 185, 196, 135, 196, 186, 197, 132, 197, 149, 197, 155, 197, 186]⟩ : ByteArray)⟩ : T_3_string), (⟨(⟨#[204, 129]⟩ : ByteArray), (⟨#[206, 145, 206, 149, 206, 151, 206, 153, 206, 159, 206, 165, 206, 169, 206, 177, 206, 181, 206, 183, 206, 185, 206, 191, 207, 133, 207, 137, 208, 147, 208, 154, 208, 179, 208, 186, 207, 138, 207, 139]⟩ : ByteArray), (⟨#[206, 134, 206, 136, 206, 137, 206, 138, 206, 140, 206, 142, 206, 143, 206, 172, 206, 173, 206, 174, 206, 175, 207, 140, 207, 141, 207, 142, 208, 131, 208, 140, 209, 147, 209, 156, 206, 144, 206, 176]⟩ : ByteArray)⟩ : T_3_string), (⟨(⟨#[204, 130]⟩ : ByteArray), (⟨#[65, 69, 73, 79, 85, 97, 101, 105, 111, 117, 67, 71, 72, 74, 83, 87, 89, 99, 103, 104, 106, 115, 119, 121]⟩ : ByteArray), (⟨#[195, 130, 195, 138, 195, 142, 195, 148, 195, 155, 195, 162, 195, 170, 195, 174, 195, 180, 195, 187, 196, 136, 196, 156, 196, 164, 196, 180, 197, 156, 197, 180, 197, 182, 196, 137, 196, 157, 196, 165, 196, 181, 197, 157, 197, 181, 197, 183]⟩ : ByteArray)⟩ : T_3_string), (⟨(⟨#[204, 131]⟩ : ByteArray), (⟨#[65, 78, 79, 97, 110, 111, 73, 85, 105, 117]⟩ : ByteArray), (⟨#[195, 131, 195, 145, 195, 149, 195, 163, 195, 177, 195, 181, 196, 168, 197, 168, 196, 169, 197, 169]⟩ : ByteArray)⟩ : T_3_string), (⟨(⟨#[204, 132]⟩ : ByteArray), (⟨#[65, 69, 73, 79, 85, 97, 101, 105, 111, 117]⟩ : ByteArray), (⟨#[196, 128, 196, 146, 196, 170, 197, 140, 197, 170, 196, 129, 196, 147, 196, 171, 197, 141, 197, 171]⟩ : ByteArray)⟩ : T_3_string), (⟨(⟨#[204, 134]⟩ : ByteArray), (⟨#[65, 69, 71, 73, 79, 85, 97, 101, 103, 105, 111, 117, 208, 152, 208, 163, 208, 184, 209, 131]⟩ : ByteArray), (⟨#[196, 130, 196, 148, 196, 158, 196, 172, 197, 142, 197, 172, 196, 131, 196, 149, 196, 159, 196, 173, 197, 143, 197, 173, 208, 153, 208, 142, 208, 185, 209, 158]⟩ : ByteArray)⟩ : T_3_string), (⟨(⟨#[204, 135]⟩ : ByteArray), (⟨#[67, 69, 71, 73, 90, 99, 101, 103, 122]⟩ : ByteArray), (⟨#[196, 138, 196, 150, 196, 160, 196, 176, 197, 187, 196, 139, 196, 151, 196, 161, 197, 188]⟩ : ByteArray)⟩ : T_3_string), (⟨(⟨#[204, 136]⟩ : ByteArray), (⟨#[65, 69, 73, 79, 85, 97, 101, 105, 111, 117, 121, 89, 208, 149, 208, 134, 208, 181, 209, 150, 206, 153, 206, 165, 206, 185, 207, 133]⟩ : ByteArray), (⟨#[195, 132, 195, 139, 195, 143, 195, 150, 195, 156, 195, 164, 195, 171, 195, 175, 195, 182, 195, 188, 195, 191, 197, 184, 208, 129, 208, 135, 209, 145, 209, 151, 206, 170, 206, 171, 207, 138, 207, 139]⟩ : ByteArray)⟩ : T_3_string), (⟨(⟨#[204, 138]⟩ : ByteArray), (⟨#[65, 85, 97, 117]⟩ : ByteArray), (⟨#[195, 133, 197, 174, 195, 165, 197, 175]⟩ : ByteArray)⟩ : T_3_string), (⟨(⟨#[204, 139]⟩ : ByteArray), (⟨#[79, 85, 111, 117]⟩ : ByteArray), (⟨#[197, 144, 197, 176, 197, 145, 197, 177]⟩ : ByteArray)⟩ : T_3_string), (⟨(⟨#[204, 140]⟩ : ByteArray), (⟨#[67, 68, 69, 76, 78, 82, 83, 84, 90, 99, 100, 101, 108, 110, 114, 115, 116, 122]⟩ : ByteArray), (⟨#[196, 140, 196, 142, 196, 154, 196, 189, 197, 135, 197, 152, 197, 160, 197, 164, 197, 189, 196, 141, 196, 143, 196, 155, 196, 190, 197, 136, 197, 153, 197, 161, 197, 165, 197, 190]⟩ : ByteArray)⟩ : T_3_string), (⟨(⟨#[204, 167]⟩ : ByteArray), (⟨#[67, 71, 75, 76, 78, 82, 83, 84, 99, 103, 107, 108, 110, 114, 115, 116]⟩ : ByteArray), (⟨#[195, 135, 196, 162, 196, 182, 196, 187, 197, 133, 197, 150, 197, 158, 197, 162, 195, 167, 196, 163, 196, 183, 196, 188, 197, 134, 197, 151, 197, 159, 197, 163]⟩ : ByteArray)⟩ : T_3_string), (⟨(⟨#[204, 168]⟩ : ByteArray), (⟨#[65, 69, 73, 85, 97, 101, 105, 117]⟩ : ByteArray), (⟨#[196, 132, 196, 152, 196, 174, 197, 178, 196, 133, 196, 153, 196, 175, 197, 179]⟩ : ByteArray)⟩ : T_3_string)] : List T_3_string) (k := 0) rfl enc_T_3_string_len rfl (show 14 ≤ maxLen by decide) ?_))))
 show TX _ _ _ _ _ _ _ [vec enc_T_3_string 130 3 (.slice (some ⟨b1, 0, none⟩) 14 14) ([(⟨(⟨#[204, 128]⟩ : ByteArray), (⟨#[65, 69, 73, 79, 85, 97, 101, 105, 111, 117, 208, 149, 208, 152, 208, 181, 208, 184]⟩ : ByteArray), (⟨#[195, 128, 195, 136, 195, 140, 195, 146, 195, 153, 195, 160, 195, 168, 195, 172, 195, 178, 195, 185, 208, 128, 208, 141, 209, 144, 209, 157]⟩ : ByteArray)⟩ : T_3_string), (⟨(⟨#[204, 129]⟩ : ByteArray), (⟨#[65, 69, 73, 79, 85, 89, 97, 101, 105, 111, 117, 121, 67, 76, 78, 82, 83, 90, 99, 108, 110, 114, 115, 122]⟩ : ByteArray), (⟨#[195, 129, 195, 137, 195, 141, 195, 147, 195, 154, 195, 157, 195, 161, 195, 169, 195, 173, 195, 179, 195, 186, 195, 189, 196, 134, 196, 185, 197, 131, 197, 148, 197, 154, 197, 185, 196, 135, 196, 186, 197, 132, 197, 149, 197, 155, 197, 186]⟩ : ByteArray)⟩ : T_3_string), (⟨(⟨#[204, 129]⟩ : ByteArray), (⟨#[206, 145, 206, 149, 206, 151, 206, 153, 206, 159, 206, 165, 206, 169, 206, 177, 206, 181, 206, 183, 206, 185, 206, 191, 207, 133, 207, 137, 208, 147, 208, 154, 208, 179, 208, 186, 207, 138, 207, 139]⟩ : ByteArray), (⟨#[206, 134, 206, 136, 206, 137, 206, 138, 206, 140, 206, 142, 206, 143, 206, 172, 206, 173, 206, 174, 206, 175, 207, 140, 207, 141, 207, 142, 208, 131, 208, 140, 209, 147, 209, 156, 206, 144, 206, 176]⟩ : ByteArray)⟩ : T_3_string), (⟨(⟨#[204, 130]⟩ : ByteArray), (⟨#[65, 69, 73, 79, 85, 97, 101, 105, 111, 117, 67, 71, 72, 74, 83, 87, 89, 99, 103, 104, 106, 115, 119, 121]⟩ : ByteArray), (⟨#[195, 130, 195, 138, 195, 142, 195, 148, 195, 155, 195, 162, 195, 170, 195, 174, 195, 180, 195, 187, 196, 136, 196, 156, 196, 164, 196, 180, 197, 156, 197, 180, 197, 182, 196, 137, 196, 157, 196, 165, 196, 181, 197, 157, 197, 181, 197, 183]⟩ : ByteArray)⟩ : T_3_string), (⟨(⟨#[204, 131]⟩ : ByteArray), (⟨#[65, 78, 79, 97, 110, 111, 73, 85, 105, 117]⟩ : ByteArray), (⟨#[195, 131, 195, 145, 195, 149, 195, 163, 195, 177, 195, 181, 196, 168, 197, 168, 196, 169, 197, 169]⟩ : ByteArray)⟩ : T_3_string), (⟨(⟨#[204, 132]⟩ : ByteArray), (⟨#[65, 69, 73, 79, 85, 97, 101, 105, 111, 117]⟩ : ByteArray), (⟨#[196, 128, 196, 146, 196, 170, 197, 140, 197, 170, 196, 129, 196, 147, 196, 171, 197, 141, 197, 171]⟩ : ByteArray)⟩ : T_3_string), (⟨(⟨#[204, 134]⟩ : ByteArray), (⟨#[65, 69, 71, 73, 79, 85, 97, 101, 103, 105, 111, 117, 208, 152, 208, 163, 208, 184, 209, 131]⟩ : ByteArray), (⟨#[196, 130, 196, 148, 196, 158, 196, 172, 197, 142, 197, 172, 196, 131, 196, 149, 196, 159, 196, 173, 197, 143, 197, 173, 208, 153, 208, 142, 208, 185, 209, 158]⟩ : ByteArray)⟩ : T_3_string), (⟨(⟨#[204, 135]⟩ : ByteArray), (⟨#[67, 69, 71, 73, 90, 99, 101, 103, 122]⟩ : ByteArray), (⟨#[196, 138, 196, 150, 196, 160, 196, 176, 197, 187, 196, 139, 196, 151, 196, 161, 197, 188]⟩ : ByteArray)⟩ : T_3_string), (⟨(⟨#[204, 136]⟩ : ByteArray), (⟨#[65, 69, 73, 79, 85, 97, 101, 105, 111, 117, 121, 89, 208, 149, 208, 134, 208, 181, 209, 150, 206, 153, 206, 165, 206, 185, 207, 133]⟩ : ByteArray), (⟨#[195, 132, 195, 139, 195, 143, 195, 150, 195, 156, 195, 164, 195, 171, 195, 175, 195, 182, 195, 188, 195, 191, 197, 184, 208, 129, 208, 135, 209, 145, 209, 151, 206, 170, 206, 171, 207, 138, 207, 139]⟩ : ByteArray)⟩ : T_3_string), (⟨(⟨#[204, 138]⟩ : ByteArray), (⟨#[65, 85, 97, 117]⟩ : ByteArray), (⟨#[195, 133, 197, 174, 195, 165, 197, 175]⟩ : ByteArray)⟩ : T_3_string), (⟨(⟨#[204, 139]⟩ : ByteArray), (⟨#[79, 85, 111, 117]⟩ : ByteArray), (⟨#[197, 144, 197, 176, 197, 145, 197, 177]⟩ : ByteArray)⟩ : T_3_string), (⟨(⟨#[204, 140]⟩ : ByteArray), (⟨#[67, 68, 69, 76, 78, 82, 83, 84, 90, 99, 100, 101, 108, 110, 114, 115, 116, 122]⟩ : ByteArray), (⟨#[196, 140, 196, 142, 196, 154, 196, 189, 197, 135, 197, 152, 197, 160, 197, 164, 197, 189, 196, 141, 196, 143, 196, 155, 196, 190, 197, 136, 197, 153, 197, 161, 197, 165, 197, 190]⟩ : ByteArray)⟩ : T_3_string), (⟨(⟨#[204, 167]⟩ : ByteArray), (⟨#[67, 71, 75, 76, 78, 82, 83, 84, 99, 103, 107, 108, 110, 114, 115, 116]⟩ : ByteArray), (⟨#[195, 135, 196, 162, 196, 182, 196, 187, 197, 133, 197, 150, 197, 158, 197, 162, 195, 167, 196, 163, 196, 183, 196, 188, 197, 134, 197, 151, 197, 159, 197, 163]⟩ : ByteArray)⟩ : T_3_string), (⟨(⟨#[204, 168]⟩ : ByteArray), (⟨#[65, 69, 73, 85, 97, 101, 105, 117]⟩ : ByteArray), (⟨#[196, 132, 196, 152, 196, 174, 197, 178, 196, 133, 196, 153, 196, 175, 197, 179]⟩ : ByteArray)⟩ : T_3_string)] : List T_3_string)]
 cases h
 exact TX.fin (rs := [.tmp 0]) (.slice (some ⟨b1, 0, none⟩) 14 14) (.inl rfl) Try.results101 (.cons (.tmp rfl) .nil) rfl (Splits.of [0] kr rfl)
def ref04_Split_s2 (rcall : Int → Option (List Int)) (r1 : Int) (j2 : Option (List Int)) (q1 : T_3_string) (ag2 : Int → Option (List Int)) (x6 : Int) : Option (List Int) := bcond (decide ((x6 : Int) < ((runesOf q1.e2).length : Int))) ( andThen (getO (runesOf q1.e2) x6) fun (q2 : Int) => bcond ((q2 : Int) == r1) ( andThen (getO (runesOf q1.e1) x6) fun (q3 : Int) => andThen (rcall q3) fun (r3 : (List Int)) => grd (q1.e0.size ≤ 1073741824) <| andThen (getO (runesOf q1.e0) 0) fun (q4 : Int) => grd (r3.length + 1 ≤ 2147483648) <| some (r3 ++ [q4])
) ( grd (I64 (x6 + 1)) <| ag2 (x6 + 1)
)
) ( j2
)
def ref04_Split_s1 (rcall : Int → Option (List Int)) (r1 : Int) (j1 : Option (List Int)) (r2 : (List T_3_string)) (ag1 : Int → Option (List Int)) (x3 : Int) : Option (List Int) := bcond (decide ((x3 : Int) < (r2.length : Int))) ( joinK (fun (j2 : Option (List Int)) => andThen (getO r2 x3) fun (q1 : T_3_string) => grd (q1.e1.size ≤ 1073741824) <| grd (q1.e2.size ≤ 1073741824) <| loopG (fun _ => none) (ref04_Split_s2 rcall r1 j2 q1) fuel 0
) ( grd (I64 (x3 + 1)) <| ag1 (x3 + 1)
)
) ( j1
)
def ref04_Split_b (rcall : Int → Option (List Int)) (r1 : Int) : Option (List Int) := joinK (fun (j1 : Option (List Int)) => andThen (ref04_Table_v) fun (r2 : (List T_3_string)) => loopG (fun _ => none) (ref04_Split_s1 rcall r1 j1 r2) fuel 0
) ( some ([r1] : List Int)
)
def ref04_Split_v (r1 : Int) : Option (List Int) := loopG (fun _ => none) ref04_Split_b fuel r1
set_option maxRecDepth 100000 in
set_option maxHeartbeats 4000000 in
theorem ref04_Split_fb (n : Nat) : ∀ {r1 : Int} {r : (List Int)} (_ : loopG (fun _ => none) ref04_Split_b n r1 = some r), Fn Try.prog 96 [.int .i32 r1] [] (fun v0 : Value => v0) (fun v0 => [vec (encI (.i32)) 21 1 v0 r]) := by
 induction n with
 | zero => intro r1 r h; exact noneE h
 | succ n hrec =>
 intro r1 r h
 rw [loopG_succ] at h
 revert hrec h
 generalize loopG (fun _ => none) ref04_Split_b n = rcall
 intro hrec h
 unfold ref04_Split_b at h
 refine Fn.intro Try.func96 rfl Try.ntmps96 (by simp) ?_
 intro w0 K
 obtain ⟨j1, hj1, h⟩ := joinE h
 refine TC.cutN (β := Unit) 1 rfl (fun b => j1 = some r) (fun b => []) (fun b => [(0, .int .i32 r1)]) (fun b => []) (fun cut => ?_) ?_
 ·
  refine TC.seq (TC.region (TO.assign rfl dc rfl (TO.nil (TX.next (cut (TC.seq (TC.region ?_)))))))
  obtain ⟨r2, hq1, h⟩ := andE h
  refine TO.call (vs := []) rfl dc rfl rfl rfl en_101 (ref04_Table_fn hq1) Splits.nil ?_
  rintro v1
  show TO _ _ _ _ _ _ _ _ _ _ [vec enc_T_3_string 130 3 v1 r2]
  refine TO.lenVec (k := 0) rfl dc rfl rfl Try.underlying128 (TO.move rfl dc rfl (TO.nil (TX.next (TC.block ?_))))
  refine TC.loopD (β := Nat × Int) (fun b => loopG (fun _ => none) (ref04_Split_s1 rcall r1 j1 r2) b.1 b.2 = some r) (fun b => []) (fun b => [(0, .int .i32 r1), (8, v1), (9, .int .i64 (r2.length : Int)), (10, .int .i64 b.2)]) (fun b => [vec enc_T_3_string 130 3 v1 r2]) (fun b => b.1) (fuel, 0) h rfl (Sbs.cons rfl (Sbs.cons rfl (Sbs.cons rfl (Sbs.cons rfl (Sbs.nil))))) (Splits.of [0] kr rfl) ?_
  rintro ⟨n1, x3⟩ h
  cases n1 with
  | zero => exact noneE h
  | succ n1 =>
   obtain ⟨ag1, hag1⟩ : ∃ ag, ag = loopG (fun _ => none) (ref04_Split_s1 rcall r1 j1 r2) n1 := ⟨_, rfl⟩
   have h : ref04_Split_s1 rcall r1 j1 r2 ag1 x3 = some r := by rw [hag1]; exact h
   unfold ref04_Split_s1 at h
   show TC _ _ _ _ _ ([]) _ _ [(0, .int .i32 r1), (8, v1), (9, .int .i64 (r2.length : Int)), (10, .int .i64 x3)] [vec enc_T_3_string 130 3 v1 r2]
   refine TC.seq (TC.region (TO.bin rfl dc rfl rfl bin_lss (TO.nil (TX.next (TC.seq ?_)))))
   refine TC.condB rfl (fun hb1 => ?_) (fun hb1 => ?_)
   ·
    have h := condT hb1 h
    refine TC.skip (TX.next ?_)
    obtain ⟨j2, hj2, h⟩ := joinE h
    refine TC.cutN (β := Unit) 0 rfl (fun b => j2 = some r) (fun b => []) (fun b => [(0, .int .i32 r1), (8, v1), (9, .int .i64 (r2.length : Int)), (10, .int .i64 x3)]) (fun b => [vec enc_T_3_string 130 3 v1 r2]) (fun cut => ?_) ?_
    ·
     refine cut (TC.block (TC.seq (TC.region ?_)))
     obtain ⟨q1, hq2, h⟩ := andE h
     refine TO.indexVecI (k := 0) hq2 Try.underlying128 sz_130 rfl dc rfl rfl rfl rfl (TO.loadsVec (i := (x3 : Int).toNat) (j := 0) (k := 0) (q := q1) (cs := [.string q1.e0, .string q1.e1, .string q1.e2]) rw_130 enc_T_3_string_len rfl dc rfl rfl (getO_get hq2) rfl rfl rfl ?_)
     refine TO.alloc zr_130 rfl dc (fun b1 => ?_)
     refine TO.stores (k := 1) (vs := [.string q1.e0, .string q1.e1, .string q1.e2]) (l' := [.string q1.e0, .string q1.e1, .string q1.e2]) sz_130 rfl rfl rfl rfl rfl (show _ ≤ _ by simp) rfl rfl ?_
     show TO _ _ _ _ _ _ _ _ _ _ [vec enc_T_3_string 130 3 v1 r2, cells b1 [.string q1.e0, .string q1.e1, .string q1.e2] 130]
     refine TO.nil (TX.next (TC.seq ?_))
     obtain ⟨hg1, h⟩ := grdE h
     obtain ⟨hg2, h⟩ := grdE h
     refine TC.pad 2 ?_
     show TC _ _ _ _ _ _ _ _ _ [vec enc_T_3_string 130 3 v1 r2, cells b1 [.string q1.e0, .string q1.e1, .string q1.e2] 130, emp, emp]
     refine let vals1 : (Value × Value) → List (Nat × Nat × Value) := fun b => [(0, 14, .pointer (some ⟨b1, 1, none⟩)), (1, 15, .string q1.e1), (2, 16, b.1), (3, 17, .pointer (some ⟨b1, 2, none⟩)), (4, 18, .string q1.e2), (5, 19, b.2), (6, 5, b.1)]; let LL1 : (Nat → Prop) → (Value × Value) → List Asn := fun D b => [vec enc_T_3_string 130 3 v1 r2, cells b1 [.string q1.e0, .string q1.e1, .string q1.e2] 130, eD D emp [(2, vec (encI (.i32)) 21 1 b.1 (runesOf q1.e1))], eD D emp [(5, vec (encI (.i32)) 21 1 b.2 (runesOf q1.e2))]]; ?_
     refine TC.drawG (β := Value × Value) 7 ((.slice none 0 0 : Value), (.slice none 0 0 : Value)) vals1 LL1 mixed kr kr dc (fun _ => rfl) (cons_eq rfl (cons_eq rfl (cons_eq eD_none (cons_eq eD_none rfl)))) (DrawG.cons ?_ (DrawG.cons ?_ (DrawG.cons ?_ (DrawG.cons ?_ (DrawG.cons ?_ (DrawG.cons ?_ (DrawG.cons ?_ DrawG.nil))))))) ?_
     ·
      intro D b hn hd hcl
      obtain ⟨v2, v3⟩ := b
      refine TO.rewL (L' := [vec enc_T_3_string 130 3 v1 r2, cells b1 [.string q1.e0, .string q1.e1, .string q1.e2] 130, emp, eD D emp [(5, vec (encI (.i32)) 21 1 v3 (runesOf q1.e2))]]) (cons_eq rfl (cons_eq rfl (cons_eq (eD_miss (fun hD => hn (hcl 1 _ rfl (hcl 2 _ rfl hD 1 dc) 0 dc)) eD_nil) (cons_eq rfl rfl)))) ?_
      refine TO.indexArr dc Try.underlying130 sz_9 rfl dc (dl_old (by rfl) rfl) rfl (show _ = 1 from rfl) ?_
      exact TX.valG (v2, v3) 0 (by rfl) (by rfl) rfl (dl_cons_eq (fun _ => rfl) (dl_cons_eq (fun _ => rfl) (dl_cons_eq (fun _ => rfl) (dl_cons_eq (fun _ => rfl) (dl_cons_eq (fun _ => rfl) (dl_cons_eq (fun _ => rfl) (dl_cons_eq (fun _ => rfl) rfl))))))) (cons_eq rfl (cons_eq rfl (cons_eq ((eD_skip (by rfl)).trans (eD_miss (fun hD => hn (hcl 1 _ rfl (hcl 2 _ rfl hD 1 dc) 0 dc)) eD_nil)) (cons_eq ((eD_skip (by rfl)).trans rfl) rfl))))
     ·
      intro D b hn hd hcl
      obtain ⟨v2, v3⟩ := b
      refine TO.rewL (L' := [vec enc_T_3_string 130 3 v1 r2, cells b1 [.string q1.e0, .string q1.e1, .string q1.e2] 130, emp, eD D emp [(5, vec (encI (.i32)) 21 1 v3 (runesOf q1.e2))]]) (cons_eq rfl (cons_eq rfl (cons_eq (eD_miss (fun hD => hn (hcl 2 _ rfl hD 1 dc)) eD_nil) (cons_eq rfl rfl)))) ?_
      refine TO.load (k := 1) sc_9 rfl dc (dl_lookup (m := 0) rfl rfl (hd 0 dc)) rfl rfl ?_
      exact TX.valG (v2, v3) 1 (by rfl) (by rfl) rfl (dl_cons_eq (fun _ => rfl) (dl_cons_eq (fun _ => rfl) (dl_cons_eq (fun _ => rfl) (dl_cons_eq (fun _ => rfl) (dl_cons_eq (fun _ => rfl) (dl_cons_eq (fun _ => rfl) (dl_cons_eq (fun _ => rfl) rfl))))))) (cons_eq rfl (cons_eq rfl (cons_eq ((eD_skip (by rfl)).trans (eD_miss (fun hD => hn (hcl 2 _ rfl hD 1 dc)) eD_nil)) (cons_eq ((eD_skip (by rfl)).trans rfl) rfl))))
     ·
      intro D b hn hd hcl
      obtain ⟨_, v3⟩ := b
      refine TO.rewL (L' := [vec enc_T_3_string 130 3 v1 r2, cells b1 [.string q1.e0, .string q1.e1, .string q1.e2] 130, emp, eD D emp [(5, vec (encI (.i32)) 21 1 v3 (runesOf q1.e2))]]) (cons_eq rfl (cons_eq rfl (cons_eq (eD_miss hn eD_nil) (cons_eq rfl rfl)))) ?_
      refine TO.strRunes hg1 rfl dc (dl_lookup (m := 1) rfl rfl (hd 1 dc)) Try.underlying9 Try.underlying44 Try.underlying21 (fun v2 => ?_)
      refine TO.place 2 rfl rfl ?_
      show TO _ _ _ _ _ _ _ _ _ _ [vec enc_T_3_string 130 3 v1 r2, cells b1 [.string q1.e0, .string q1.e1, .string q1.e2] 130, vec (encI (.i32)) 21 1 v2 (runesOf q1.e1), eD D emp [(5, vec (encI (.i32)) 21 1 v3 (runesOf q1.e2))]]
      exact TX.valG (v2, v3) 2 (by rfl) (by rfl) rfl (dl_cons_eq (fun _ => rfl) (dl_cons_eq (fun _ => rfl) (dl_cons_eq (fun hD => absurd hD hn) (dl_cons_eq (fun _ => rfl) (dl_cons_eq (fun _ => rfl) (dl_cons_eq (fun _ => rfl) (dl_cons_eq (fun hD => absurd (hcl 6 _ rfl hD 2 dc) hn) rfl))))))) (cons_eq rfl (cons_eq rfl (cons_eq (eD_hit (Or.inr rfl) rfl) (cons_eq ((eD_skip (by rfl)).trans rfl) rfl))))
     ·
      intro D b hn hd hcl
      obtain ⟨v2, v3⟩ := b
      refine TO.rewL (L' := [vec enc_T_3_string 130 3 v1 r2, cells b1 [.string q1.e0, .string q1.e1, .string q1.e2] 130, eD D emp [(2, vec (encI (.i32)) 21 1 v2 (runesOf q1.e1))], emp]) (cons_eq rfl (cons_eq rfl (cons_eq rfl (cons_eq (eD_miss (fun hD => hn (hcl 4 _ rfl (hcl 5 _ rfl hD 4 dc) 3 dc)) eD_nil) rfl)))) ?_
      refine TO.indexArr dc Try.underlying130 sz_9 rfl dc (dl_old (by rfl) rfl) rfl (show _ = 2 from rfl) ?_
      exact TX.valG (v2, v3) 3 (by rfl) (by rfl) rfl (dl_cons_eq (fun _ => rfl) (dl_cons_eq (fun _ => rfl) (dl_cons_eq (fun _ => rfl) (dl_cons_eq (fun _ => rfl) (dl_cons_eq (fun _ => rfl) (dl_cons_eq (fun _ => rfl) (dl_cons_eq (fun _ => rfl) rfl))))))) (cons_eq rfl (cons_eq rfl (cons_eq ((eD_skip (by rfl)).trans rfl) (cons_eq ((eD_skip (by rfl)).trans (eD_miss (fun hD => hn (hcl 4 _ rfl (hcl 5 _ rfl hD 4 dc) 3 dc)) eD_nil)) rfl))))
     ·
      intro D b hn hd hcl
      obtain ⟨v2, v3⟩ := b
      refine TO.rewL (L' := [vec enc_T_3_string 130 3 v1 r2, cells b1 [.string q1.e0, .string q1.e1, .string q1.e2] 130, eD D emp [(2, vec (encI (.i32)) 21 1 v2 (runesOf q1.e1))], emp]) (cons_eq rfl (cons_eq rfl (cons_eq rfl (cons_eq (eD_miss (fun hD => hn (hcl 5 _ rfl hD 4 dc)) eD_nil) rfl)))) ?_
      refine TO.load (k := 1) sc_9 rfl dc (dl_lookup (m := 3) rfl rfl (hd 3 dc)) rfl rfl ?_
      exact TX.valG (v2, v3) 4 (by rfl) (by rfl) rfl (dl_cons_eq (fun _ => rfl) (dl_cons_eq (fun _ => rfl) (dl_cons_eq (fun _ => rfl) (dl_cons_eq (fun _ => rfl) (dl_cons_eq (fun _ => rfl) (dl_cons_eq (fun _ => rfl) (dl_cons_eq (fun _ => rfl) rfl))))))) (cons_eq rfl (cons_eq rfl (cons_eq ((eD_skip (by rfl)).trans rfl) (cons_eq ((eD_skip (by rfl)).trans (eD_miss (fun hD => hn (hcl 5 _ rfl hD 4 dc)) eD_nil)) rfl))))
     ·
      intro D b hn hd hcl
      obtain ⟨v2, _⟩ := b
      refine TO.rewL (L' := [vec enc_T_3_string 130 3 v1 r2, cells b1 [.string q1.e0, .string q1.e1, .string q1.e2] 130, eD D emp [(2, vec (encI (.i32)) 21 1 v2 (runesOf q1.e1))], emp]) (cons_eq rfl (cons_eq rfl (cons_eq rfl (cons_eq (eD_miss hn eD_nil) rfl)))) ?_
      refine TO.strRunes hg2 rfl dc (dl_lookup (m := 4) rfl rfl (hd 4 dc)) Try.underlying9 Try.underlying44 Try.underlying21 (fun v3 => ?_)
      refine TO.place 3 rfl rfl ?_
      show TO _ _ _ _ _ _ _ _ _ _ [vec enc_T_3_string 130 3 v1 r2, cells b1 [.string q1.e0, .string q1.e1, .string q1.e2] 130, eD D emp [(2, vec (encI (.i32)) 21 1 v2 (runesOf q1.e1))], vec (encI (.i32)) 21 1 v3 (runesOf q1.e2)]
      exact TX.valG (v2, v3) 5 (by rfl) (by rfl) rfl (dl_cons_eq (fun _ => rfl) (dl_cons_eq (fun _ => rfl) (dl_cons_eq (fun _ => rfl) (dl_cons_eq (fun _ => rfl) (dl_cons_eq (fun _ => rfl) (dl_cons_eq (fun hD => absurd hD hn) (dl_cons_eq (fun _ => rfl) rfl))))))) (cons_eq rfl (cons_eq rfl (cons_eq ((eD_skip (by rfl)).trans rfl) (cons_eq (eD_hit (Or.inr rfl) rfl) rfl))))
     ·
      intro D b hn hd hcl
      obtain ⟨v2, v3⟩ := b
      refine TO.rewL (L' := [vec enc_T_3_string 130 3 v1 r2, cells b1 [.string q1.e0, .string q1.e1, .string q1.e2] 130, vec (encI (.i32)) 21 1 v2 (runesOf q1.e1), eD D emp [(5, vec (encI (.i32)) 21 1 v3 (runesOf q1.e2))]]) (cons_eq rfl (cons_eq rfl (cons_eq (eD_hit (hd 2 dc) rfl) (cons_eq rfl rfl)))) (TO.assign rfl dc (dl_lookup (m := 2) rfl rfl (hd 2 dc)) ?_)
      exact TX.valG (v2, v3) 6 (by rfl) (by rfl) rfl (dl_cons_eq (fun _ => rfl) (dl_cons_eq (fun _ => rfl) (dl_cons_eq (fun _ => rfl) (dl_cons_eq (fun _ => rfl) (dl_cons_eq (fun _ => rfl) (dl_cons_eq (fun _ => rfl) (dl_cons_eq (fun _ => rfl) rfl))))))) (cons_eq rfl (cons_eq rfl (cons_eq ((eD_skip (by rfl)).trans (eD_hit (hd 2 dc) rfl)) (cons_eq ((eD_skip (by rfl)).trans rfl) rfl))))
     intro D b hall
     obtain ⟨v2, v3⟩ := b
     refine TO.rewL (L' := [vec enc_T_3_string 130 3 v1 r2, cells b1 [.string q1.e0, .string q1.e1, .string q1.e2] 130, vec (encI (.i32)) 21 1 v2 (runesOf q1.e1), vec (encI (.i32)) 21 1 v3 (runesOf q1.e2)]) (cons_eq rfl (cons_eq rfl (cons_eq (eD_hit (hall 2 dc) rfl) (cons_eq (eD_hit (hall 5 dc) rfl) rfl)))) (TO.assign rfl dc rfl (TO.nil (TX.next (TC.seq (TC.region (TO.move rfl dc rfl (TO.lenVec (k := 3) rfl dc rfl rfl Try.underlying44 (TO.move rfl dc rfl (TO.nil (TX.next (TC.block ?_)))))))))))
     refine TC.loopD (β := Nat × Int) (fun b => loopG (fun _ => none) (ref04_Split_s2 rcall r1 j2 q1) b.1 b.2 = some r) (fun b => []) (fun b => [(0, .int .i32 r1), (4, .pointer (some ⟨b1, 0, none⟩)), (5, v2), (6, v3), (8, v1), (9, .int .i64 (r2.length : Int)), (10, .int .i64 x3), (21, .int .i64 ((runesOf q1.e2).length : Int)), (22, .int .i64 b.2)]) (fun b => [cells b1 [.string q1.e0, .string q1.e1, .string q1.e2] 130, vec (encI (.i32)) 21 1 v2 (runesOf q1.e1), vec (encI (.i32)) 21 1 v3 (runesOf q1.e2), vec enc_T_3_string 130 3 v1 r2]) (fun b => b.1) (fuel, 0) h rfl (Sbs.cons rfl (Sbs.cons rfl (Sbs.cons rfl (Sbs.cons rfl (Sbs.cons rfl (Sbs.cons rfl (Sbs.cons rfl (Sbs.cons rfl (Sbs.cons rfl (Sbs.nil)))))))))) (Splits.of [1, 2, 3, 0] kr rfl) ?_
     rintro ⟨n2, x6⟩ h
     cases n2 with
     | zero => exact noneE h
     | succ n2 =>
      obtain ⟨ag2, hag2⟩ : ∃ ag, ag = loopG (fun _ => none) (ref04_Split_s2 rcall r1 j2 q1) n2 := ⟨_, rfl⟩
      have h : ref04_Split_s2 rcall r1 j2 q1 ag2 x6 = some r := by rw [hag2]; exact h
      unfold ref04_Split_s2 at h
      show TC _ _ _ _ _ ([]) _ _ [(0, .int .i32 r1), (4, .pointer (some ⟨b1, 0, none⟩)), (5, v2), (6, v3), (8, v1), (9, .int .i64 (r2.length : Int)), (10, .int .i64 x3), (21, .int .i64 ((runesOf q1.e2).length : Int)), (22, .int .i64 x6)] [cells b1 [.string q1.e0, .string q1.e1, .string q1.e2] 130, vec (encI (.i32)) 21 1 v2 (runesOf q1.e1), vec (encI (.i32)) 21 1 v3 (runesOf q1.e2), vec enc_T_3_string 130 3 v1 r2]
      refine TC.seq (TC.region (TO.bin rfl dc rfl rfl bin_lss (TO.nil (TX.next (TC.seq ?_)))))
      refine TC.condB rfl (fun hb2 => ?_) (fun hb2 => ?_)
      ·
       have h := condT hb2 h
       refine TC.skip (TX.next (TC.seq (TC.block (TC.seq (TC.region (TO.move rfl dc rfl (TO.assign rfl dc rfl (TO.nil (TX.next (TC.seq (TC.region (TO.move rfl dc rfl (TO.move rfl dc rfl ?_)))))))))))))
       obtain ⟨q2, hq3, h⟩ := andE h
       refine TO.indexVecI (k := 2) hq3 Try.underlying44 sz_21 rfl dc rfl rfl rfl rfl (TO.loadVec (i := (x6 : Int).toNat) (j := 0) (k := 2) (q := q2) sc_21 encI_len rfl dc rfl rfl (getO_get hq3) rfl dc rfl (TO.move rfl dc rfl (TO.bin rfl dc rfl rfl bin_eql (TO.nil (TX.next ?_)))))
       refine TC.condB rfl (fun hb3 => ?_) (fun hb3 => ?_)
       ·
        have h := condT hb3 h
        refine TC.seq ?_
        obtain ⟨q3, hq4, h⟩ := andE h
        obtain ⟨r3, hq5, h⟩ := andE h
        obtain ⟨hg3, h⟩ := grdE h
        obtain ⟨q4, hq6, h⟩ := andE h
        obtain ⟨hg4, h⟩ := grdE h
        refine TC.pad 3 ?_
        show TC _ _ _ _ _ _ _ _ _ [cells b1 [.string q1.e0, .string q1.e1, .string q1.e2] 130, vec (encI (.i32)) 21 1 v2 (runesOf q1.e1), vec (encI (.i32)) 21 1 v3 (runesOf q1.e2), vec enc_T_3_string 130 3 v1 r2, emp, emp, emp]
        refine let vals2 : (Value × Value × Nat) → List (Nat × Nat × Value) := fun b => [(0, 31, v2), (1, 32, .int .i64 x6), (2, 33, .pointer (some ⟨vblk v2, (x6 : Int).toNat * 1, none⟩)), (3, 34, .int .i32 q3), (4, 35, b.1), (5, 36, .pointer (some ⟨b1, 0, none⟩)), (6, 37, .string q1.e0), (7, 38, b.2.1), (8, 39, .pointer (some ⟨vblk b.2.1, (0 : Int).toNat * 1, none⟩)), (9, 40, .int .i32 q4), (10, 41, .slice (some ⟨b.2.2, 0, none⟩) 1 1)]; let LL2 : (Nat → Prop) → (Value × Value × Nat) → List Asn := fun D b => [cells b1 [.string q1.e0, .string q1.e1, .string q1.e2] 130, vec (encI (.i32)) 21 1 v2 (runesOf q1.e1), vec (encI (.i32)) 21 1 v3 (runesOf q1.e2), vec enc_T_3_string 130 3 v1 r2, eD D emp [(4, vec (encI (.i32)) 21 1 b.1 r3)], eD D emp [(7, vec (encI (.i32)) 21 1 b.2.1 (runesOf q1.e0))], eD D emp [(10, cells b.2.2 [.int .i32 q4] 21)]]; ?_
        refine TC.drawG (β := Value × Value × Nat) 11 ((.slice none 0 0 : Value), (.slice none 0 0 : Value), (0 : Nat)) vals2 LL2 mixed kr kr dc (fun _ => rfl) (cons_eq rfl (cons_eq rfl (cons_eq rfl (cons_eq rfl (cons_eq eD_none (cons_eq eD_none (cons_eq eD_none rfl))))))) (DrawG.cons ?_ (DrawG.cons ?_ (DrawG.cons ?_ (DrawG.cons ?_ (DrawG.cons ?_ (DrawG.cons ?_ (DrawG.cons ?_ (DrawG.cons ?_ (DrawG.cons ?_ (DrawG.cons ?_ (DrawG.cons ?_ DrawG.nil))))))))))) ?_
        ·
         intro D b hn hd hcl
         obtain ⟨v4, v5, b2⟩ := b
         refine TO.rewL (L' := [cells b1 [.string q1.e0, .string q1.e1, .string q1.e2] 130, vec (encI (.i32)) 21 1 v2 (runesOf q1.e1), vec (encI (.i32)) 21 1 v3 (runesOf q1.e2), vec enc_T_3_string 130 3 v1 r2, emp, eD D emp [(7, vec (encI (.i32)) 21 1 v5 (runesOf q1.e0))], eD D emp [(10, cells b2 [.int .i32 q4] 21)]]) (cons_eq rfl (cons_eq rfl (cons_eq rfl (cons_eq rfl (cons_eq (eD_miss (fun hD => hn (hcl 2 _ rfl (hcl 3 _ rfl (hcl 4 _ rfl hD 3 dc) 2 dc) 0 dc)) eD_nil) (cons_eq rfl (cons_eq rfl rfl))))))) ?_
         refine TO.move rfl dc (dl_old (by rfl) rfl) ?_
         exact TX.valG (v4, v5, b2) 0 (by rfl) (by rfl) rfl (dl_cons_eq (fun _ => rfl) (dl_cons_eq (fun _ => rfl) (dl_cons_eq (fun _ => rfl) (dl_cons_eq (fun _ => rfl) (dl_cons_eq (fun _ => rfl) (dl_cons_eq (fun _ => rfl) (dl_cons_eq (fun _ => rfl) (dl_cons_eq (fun _ => rfl) (dl_cons_eq (fun _ => rfl) (dl_cons_eq (fun _ => rfl) (dl_cons_eq (fun _ => rfl) rfl))))))))))) (cons_eq rfl (cons_eq rfl (cons_eq rfl (cons_eq rfl (cons_eq ((eD_skip (by rfl)).trans (eD_miss (fun hD => hn (hcl 2 _ rfl (hcl 3 _ rfl (hcl 4 _ rfl hD 3 dc) 2 dc) 0 dc)) eD_nil)) (cons_eq ((eD_skip (by rfl)).trans rfl) (cons_eq ((eD_skip (by rfl)).trans rfl) rfl)))))))
        ·
         intro D b hn hd hcl
         obtain ⟨v4, v5, b2⟩ := b
         refine TO.rewL (L' := [cells b1 [.string q1.e0, .string q1.e1, .string q1.e2] 130, vec (encI (.i32)) 21 1 v2 (runesOf q1.e1), vec (encI (.i32)) 21 1 v3 (runesOf q1.e2), vec enc_T_3_string 130 3 v1 r2, emp, eD D emp [(7, vec (encI (.i32)) 21 1 v5 (runesOf q1.e0))], eD D emp [(10, cells b2 [.int .i32 q4] 21)]]) (cons_eq rfl (cons_eq rfl (cons_eq rfl (cons_eq rfl (cons_eq (eD_miss (fun hD => hn (hcl 2 _ rfl (hcl 3 _ rfl (hcl 4 _ rfl hD 3 dc) 2 dc) 1 dc)) eD_nil) (cons_eq rfl (cons_eq rfl rfl))))))) ?_
         refine TO.move rfl dc (dl_old (by rfl) rfl) ?_
         exact TX.valG (v4, v5, b2) 1 (by rfl) (by rfl) rfl (dl_cons_eq (fun _ => rfl) (dl_cons_eq (fun _ => rfl) (dl_cons_eq (fun _ => rfl) (dl_cons_eq (fun _ => rfl) (dl_cons_eq (fun _ => rfl) (dl_cons_eq (fun _ => rfl) (dl_cons_eq (fun _ => rfl) (dl_cons_eq (fun _ => rfl) (dl_cons_eq (fun _ => rfl) (dl_cons_eq (fun _ => rfl) (dl_cons_eq (fun _ => rfl) rfl))))))))))) (cons_eq rfl (cons_eq rfl (cons_eq rfl (cons_eq rfl (cons_eq ((eD_skip (by rfl)).trans (eD_miss (fun hD => hn (hcl 2 _ rfl (hcl 3 _ rfl (hcl 4 _ rfl hD 3 dc) 2 dc) 1 dc)) eD_nil)) (cons_eq ((eD_skip (by rfl)).trans rfl) (cons_eq ((eD_skip (by rfl)).trans rfl) rfl)))))))
        ·
         intro D b hn hd hcl
         obtain ⟨v4, v5, b2⟩ := b
         refine TO.rewL (L' := [cells b1 [.string q1.e0, .string q1.e1, .string q1.e2] 130, vec (encI (.i32)) 21 1 v2 (runesOf q1.e1), vec (encI (.i32)) 21 1 v3 (runesOf q1.e2), vec enc_T_3_string 130 3 v1 r2, emp, eD D emp [(7, vec (encI (.i32)) 21 1 v5 (runesOf q1.e0))], eD D emp [(10, cells b2 [.int .i32 q4] 21)]]) (cons_eq rfl (cons_eq rfl (cons_eq rfl (cons_eq rfl (cons_eq (eD_miss (fun hD => hn (hcl 3 _ rfl (hcl 4 _ rfl hD 3 dc) 2 dc)) eD_nil) (cons_eq rfl (cons_eq rfl rfl))))))) ?_
         refine TO.indexVecI (k := 1) hq4 Try.underlying44 sz_21 rfl dc (dl_lookup (m := 0) rfl rfl (hd 0 dc)) (dl_lookup (m := 1) rfl rfl (hd 1 dc)) rfl rfl ?_
         exact TX.valG (v4, v5, b2) 2 (by rfl) (by rfl) rfl (dl_cons_eq (fun _ => rfl) (dl_cons_eq (fun _ => rfl) (dl_cons_eq (fun _ => rfl) (dl_cons_eq (fun _ => rfl) (dl_cons_eq (fun _ => rfl) (dl_cons_eq (fun _ => rfl) (dl_cons_eq (fun _ => rfl) (dl_cons_eq (fun _ => rfl) (dl_cons_eq (fun _ => rfl) (dl_cons_eq (fun _ => rfl) (dl_cons_eq (fun _ => rfl) rfl))))))))))) (cons_eq rfl (cons_eq rfl (cons_eq rfl (cons_eq rfl (cons_eq ((eD_skip (by rfl)).trans (eD_miss (fun hD => hn (hcl 3 _ rfl (hcl 4 _ rfl hD 3 dc) 2 dc)) eD_nil)) (cons_eq ((eD_skip (by rfl)).trans rfl) (cons_eq ((eD_skip (by rfl)).trans rfl) rfl)))))))
        ·
         intro D b hn hd hcl
         obtain ⟨v4, v5, b2⟩ := b
         refine TO.rewL (L' := [cells b1 [.string q1.e0, .string q1.e1, .string q1.e2] 130, vec (encI (.i32)) 21 1 v2 (runesOf q1.e1), vec (encI (.i32)) 21 1 v3 (runesOf q1.e2), vec enc_T_3_string 130 3 v1 r2, emp, eD D emp [(7, vec (encI (.i32)) 21 1 v5 (runesOf q1.e0))], eD D emp [(10, cells b2 [.int .i32 q4] 21)]]) (cons_eq rfl (cons_eq rfl (cons_eq rfl (cons_eq rfl (cons_eq (eD_miss (fun hD => hn (hcl 4 _ rfl hD 3 dc)) eD_nil) (cons_eq rfl (cons_eq rfl rfl))))))) ?_
         refine TO.loadVec (i := (x6 : Int).toNat) (j := 0) (k := 1) (q := q3) sc_21 encI_len rfl dc (dl_lookup (m := 2) rfl rfl (hd 2 dc)) rfl (getO_get hq4) rfl dc rfl ?_
         exact TX.valG (v4, v5, b2) 3 (by rfl) (by rfl) rfl (dl_cons_eq (fun _ => rfl) (dl_cons_eq (fun _ => rfl) (dl_cons_eq (fun _ => rfl) (dl_cons_eq (fun _ => rfl) (dl_cons_eq (fun _ => rfl) (dl_cons_eq (fun _ => rfl) (dl_cons_eq (fun _ => rfl) (dl_cons_eq (fun _ => rfl) (dl_cons_eq (fun _ => rfl) (dl_cons_eq (fun _ => rfl) (dl_cons_eq (fun _ => rfl) rfl))))))))))) (cons_eq rfl (cons_eq rfl (cons_eq rfl (cons_eq rfl (cons_eq ((eD_skip (by rfl)).trans (eD_miss (fun hD => hn (hcl 4 _ rfl hD 3 dc)) eD_nil)) (cons_eq ((eD_skip (by rfl)).trans rfl) (cons_eq ((eD_skip (by rfl)).trans rfl) rfl)))))))
        ·
         intro D b hn hd hcl
         obtain ⟨_, v5, b2⟩ := b
         refine TO.rewL (L' := [cells b1 [.string q1.e0, .string q1.e1, .string q1.e2] 130, vec (encI (.i32)) 21 1 v2 (runesOf q1.e1), vec (encI (.i32)) 21 1 v3 (runesOf q1.e2), vec enc_T_3_string 130 3 v1 r2, emp, eD D emp [(7, vec (encI (.i32)) 21 1 v5 (runesOf q1.e0))], eD D emp [(10, cells b2 [.int .i32 q4] 21)]]) (cons_eq rfl (cons_eq rfl (cons_eq rfl (cons_eq rfl (cons_eq (eD_miss hn eD_nil) (cons_eq rfl (cons_eq rfl rfl))))))) (TO.call (vs := [.int .i32 q3]) rfl dc rfl (evL.cons (dl_lookup (m := 3) rfl rfl (hd 3 dc)) evL.nil) rfl en_96 (hrec hq5) Splits.nil ?_)
         rintro v4
         show TO _ _ _ _ _ _ _ _ _ _ [cells b1 [.string q1.e0, .string q1.e1, .string q1.e2] 130, vec (encI (.i32)) 21 1 v2 (runesOf q1.e1), vec (encI (.i32)) 21 1 v3 (runesOf q1.e2), vec enc_T_3_string 130 3 v1 r2, emp, eD D emp [(7, vec (encI (.i32)) 21 1 v5 (runesOf q1.e0))], eD D emp [(10, cells b2 [.int .i32 q4] 21)], vec (encI (.i32)) 21 1 v4 r3]
         refine TO.weakenL (L' := [cells b1 [.string q1.e0, .string q1.e1, .string q1.e2] 130, vec (encI (.i32)) 21 1 v2 (runesOf q1.e1), vec (encI (.i32)) 21 1 v3 (runesOf q1.e2), vec enc_T_3_string 130 3 v1 r2, emp, eD D emp [(7, vec (encI (.i32)) 21 1 v5 (runesOf q1.e0))], eD D emp [(10, cells b2 [.int .i32 q4] 21)], vec (encI (.i32)) 21 1 v4 r3]) (Splits.of [0, 1, 2, 3, 4, 5, 6, 7] kr rfl) (TO.place 4 rfl rfl ?_)
         show TO _ _ _ _ _ _ _ _ _ _ [cells b1 [.string q1.e0, .string q1.e1, .string q1.e2] 130, vec (encI (.i32)) 21 1 v2 (runesOf q1.e1), vec (encI (.i32)) 21 1 v3 (runesOf q1.e2), vec enc_T_3_string 130 3 v1 r2, vec (encI (.i32)) 21 1 v4 r3, eD D emp [(7, vec (encI (.i32)) 21 1 v5 (runesOf q1.e0))], eD D emp [(10, cells b2 [.int .i32 q4] 21)]]
         exact TX.valG (v4, v5, b2) 4 (by rfl) (by rfl) rfl (dl_cons_eq (fun _ => rfl) (dl_cons_eq (fun _ => rfl) (dl_cons_eq (fun _ => rfl) (dl_cons_eq (fun _ => rfl) (dl_cons_eq (fun hD => absurd hD hn) (dl_cons_eq (fun _ => rfl) (dl_cons_eq (fun _ => rfl) (dl_cons_eq (fun _ => rfl) (dl_cons_eq (fun _ => rfl) (dl_cons_eq (fun _ => rfl) (dl_cons_eq (fun _ => rfl) rfl))))))))))) (cons_eq rfl (cons_eq rfl (cons_eq rfl (cons_eq rfl (cons_eq (eD_hit (Or.inr rfl) rfl) (cons_eq ((eD_skip (by rfl)).trans rfl) (cons_eq ((eD_skip (by rfl)).trans rfl) rfl)))))))
        ·
         intro D b hn hd hcl
         obtain ⟨v4, v5, b2⟩ := b
         refine TO.rewL (L' := [cells b1 [.string q1.e0, .string q1.e1, .string q1.e2] 130, vec (encI (.i32)) 21 1 v2 (runesOf q1.e1), vec (encI (.i32)) 21 1 v3 (runesOf q1.e2), vec enc_T_3_string 130 3 v1 r2, eD D emp [(4, vec (encI (.i32)) 21 1 v4 r3)], emp, emp]) (cons_eq rfl (cons_eq rfl (cons_eq rfl (cons_eq rfl (cons_eq rfl (cons_eq (eD_miss (fun hD => hn (hcl 6 _ rfl (hcl 7 _ rfl hD 6 dc) 5 dc)) eD_nil) (cons_eq (eD_miss (fun hD => hn (hcl 6 _ rfl (hcl 7 _ rfl (hcl 8 _ rfl (hcl 9 _ rfl (hcl 10 _ rfl hD 9 dc) 8 dc) 7 dc) 6 dc) 5 dc)) eD_nil) rfl))))))) ?_
         refine TO.indexArr dc Try.underlying130 sz_9 rfl dc (dl_old (by rfl) rfl) rfl (show _ = 0 from rfl) ?_
         exact TX.valG (v4, v5, b2) 5 (by rfl) (by rfl) rfl (dl_cons_eq (fun _ => rfl) (dl_cons_eq (fun _ => rfl) (dl_cons_eq (fun _ => rfl) (dl_cons_eq (fun _ => rfl) (dl_cons_eq (fun _ => rfl) (dl_cons_eq (fun _ => rfl) (dl_cons_eq (fun _ => rfl) (dl_cons_eq (fun _ => rfl) (dl_cons_eq (fun _ => rfl) (dl_cons_eq (fun _ => rfl) (dl_cons_eq (fun _ => rfl) rfl))))))))))) (cons_eq rfl (cons_eq rfl (cons_eq rfl (cons_eq rfl (cons_eq ((eD_skip (by rfl)).trans rfl) (cons_eq ((eD_skip (by rfl)).trans (eD_miss (fun hD => hn (hcl 6 _ rfl (hcl 7 _ rfl hD 6 dc) 5 dc)) eD_nil)) (cons_eq ((eD_skip (by rfl)).trans (eD_miss (fun hD => hn (hcl 6 _ rfl (hcl 7 _ rfl (hcl 8 _ rfl (hcl 9 _ rfl (hcl 10 _ rfl hD 9 dc) 8 dc) 7 dc) 6 dc) 5 dc)) eD_nil)) rfl)))))))
        ·
         intro D b hn hd hcl
         obtain ⟨v4, v5, b2⟩ := b
         refine TO.rewL (L' := [cells b1 [.string q1.e0, .string q1.e1, .string q1.e2] 130, vec (encI (.i32)) 21 1 v2 (runesOf q1.e1), vec (encI (.i32)) 21 1 v3 (runesOf q1.e2), vec enc_T_3_string 130 3 v1 r2, eD D emp [(4, vec (encI (.i32)) 21 1 v4 r3)], emp, emp]) (cons_eq rfl (cons_eq rfl (cons_eq rfl (cons_eq rfl (cons_eq rfl (cons_eq (eD_miss (fun hD => hn (hcl 7 _ rfl hD 6 dc)) eD_nil) (cons_eq (eD_miss (fun hD => hn (hcl 7 _ rfl (hcl 8 _ rfl (hcl 9 _ rfl (hcl 10 _ rfl hD 9 dc) 8 dc) 7 dc) 6 dc)) eD_nil) rfl))))))) ?_
         refine TO.load (k := 0) sc_9 rfl dc (dl_lookup (m := 5) rfl rfl (hd 5 dc)) rfl rfl ?_
         exact TX.valG (v4, v5, b2) 6 (by rfl) (by rfl) rfl (dl_cons_eq (fun _ => rfl) (dl_cons_eq (fun _ => rfl) (dl_cons_eq (fun _ => rfl) (dl_cons_eq (fun _ => rfl) (dl_cons_eq (fun _ => rfl) (dl_cons_eq (fun _ => rfl) (dl_cons_eq (fun _ => rfl) (dl_cons_eq (fun _ => rfl) (dl_cons_eq (fun _ => rfl) (dl_cons_eq (fun _ => rfl) (dl_cons_eq (fun _ => rfl) rfl))))))))))) (cons_eq rfl (cons_eq rfl (cons_eq rfl (cons_eq rfl (cons_eq ((eD_skip (by rfl)).trans rfl) (cons_eq ((eD_skip (by rfl)).trans (eD_miss (fun hD => hn (hcl 7 _ rfl hD 6 dc)) eD_nil)) (cons_eq ((eD_skip (by rfl)).trans (eD_miss (fun hD => hn (hcl 7 _ rfl (hcl 8 _ rfl (hcl 9 _ rfl (hcl 10 _ rfl hD 9 dc) 8 dc) 7 dc) 6 dc)) eD_nil)) rfl)))))))
        ·
         intro D b hn hd hcl
         obtain ⟨v4, _, b2⟩ := b
         refine TO.rewL (L' := [cells b1 [.string q1.e0, .string q1.e1, .string q1.e2] 130, vec (encI (.i32)) 21 1 v2 (runesOf q1.e1), vec (encI (.i32)) 21 1 v3 (runesOf q1.e2), vec enc_T_3_string 130 3 v1 r2, eD D emp [(4, vec (encI (.i32)) 21 1 v4 r3)], emp, emp]) (cons_eq rfl (cons_eq rfl (cons_eq rfl (cons_eq rfl (cons_eq rfl (cons_eq (eD_miss hn eD_nil) (cons_eq (eD_miss (fun hD => hn (hcl 8 _ rfl (hcl 9 _ rfl (hcl 10 _ rfl hD 9 dc) 8 dc) 7 dc)) eD_nil) rfl))))))) ?_
         refine TO.strRunes hg3 rfl dc (dl_lookup (m := 6) rfl rfl (hd 6 dc)) Try.underlying9 Try.underlying44 Try.underlying21 (fun v5 => ?_)
         refine TO.place 5 rfl rfl ?_
         show TO _ _ _ _ _ _ _ _ _ _ [cells b1 [.string q1.e0, .string q1.e1, .string q1.e2] 130, vec (encI (.i32)) 21 1 v2 (runesOf q1.e1), vec (encI (.i32)) 21 1 v3 (runesOf q1.e2), vec enc_T_3_string 130 3 v1 r2, eD D emp [(4, vec (encI (.i32)) 21 1 v4 r3)], vec (encI (.i32)) 21 1 v5 (runesOf q1.e0), emp]
         exact TX.valG (v4, v5, b2) 7 (by rfl) (by rfl) rfl (dl_cons_eq (fun _ => rfl) (dl_cons_eq (fun _ => rfl) (dl_cons_eq (fun _ => rfl) (dl_cons_eq (fun _ => rfl) (dl_cons_eq (fun _ => rfl) (dl_cons_eq (fun _ => rfl) (dl_cons_eq (fun _ => rfl) (dl_cons_eq (fun hD => absurd hD hn) (dl_cons_eq (fun hD => absurd (hcl 8 _ rfl hD 7 dc) hn) (dl_cons_eq (fun _ => rfl) (dl_cons_eq (fun _ => rfl) rfl))))))))))) (cons_eq rfl (cons_eq rfl (cons_eq rfl (cons_eq rfl (cons_eq ((eD_skip (by rfl)).trans rfl) (cons_eq (eD_hit (Or.inr rfl) rfl) (cons_eq ((eD_skip (by rfl)).trans (eD_miss (fun hD => hn (hcl 8 _ rfl (hcl 9 _ rfl (hcl 10 _ rfl hD 9 dc) 8 dc) 7 dc)) eD_nil)) rfl)))))))
        ·
         intro D b hn hd hcl
         obtain ⟨v4, v5, b2⟩ := b
         refine TO.rewL (L' := [cells b1 [.string q1.e0, .string q1.e1, .string q1.e2] 130, vec (encI (.i32)) 21 1 v2 (runesOf q1.e1), vec (encI (.i32)) 21 1 v3 (runesOf q1.e2), vec enc_T_3_string 130 3 v1 r2, eD D emp [(4, vec (encI (.i32)) 21 1 v4 r3)], vec (encI (.i32)) 21 1 v5 (runesOf q1.e0), emp]) (cons_eq rfl (cons_eq rfl (cons_eq rfl (cons_eq rfl (cons_eq rfl (cons_eq (eD_hit (hd 7 dc) rfl) (cons_eq (eD_miss (fun hD => hn (hcl 9 _ rfl (hcl 10 _ rfl hD 9 dc) 8 dc)) eD_nil) rfl))))))) ?_
         refine TO.indexVecI (k := 5) hq6 Try.underlying44 sz_21 rfl dc (dl_lookup (m := 7) rfl rfl (hd 7 dc)) rfl rfl rfl ?_
         exact TX.valG (v4, v5, b2) 8 (by rfl) (by rfl) rfl (dl_cons_eq (fun _ => rfl) (dl_cons_eq (fun _ => rfl) (dl_cons_eq (fun _ => rfl) (dl_cons_eq (fun _ => rfl) (dl_cons_eq (fun _ => rfl) (dl_cons_eq (fun _ => rfl) (dl_cons_eq (fun _ => rfl) (dl_cons_eq (fun _ => rfl) (dl_cons_eq (fun _ => rfl) (dl_cons_eq (fun _ => rfl) (dl_cons_eq (fun _ => rfl) rfl))))))))))) (cons_eq rfl (cons_eq rfl (cons_eq rfl (cons_eq rfl (cons_eq ((eD_skip (by rfl)).trans rfl) (cons_eq ((eD_skip (by rfl)).trans (eD_hit (hd 7 dc) rfl)) (cons_eq ((eD_skip (by rfl)).trans (eD_miss (fun hD => hn (hcl 9 _ rfl (hcl 10 _ rfl hD 9 dc) 8 dc)) eD_nil)) rfl)))))))
        ·
         intro D b hn hd hcl
         obtain ⟨v4, v5, b2⟩ := b
         refine TO.rewL (L' := [cells b1 [.string q1.e0, .string q1.e1, .string q1.e2] 130, vec (encI (.i32)) 21 1 v2 (runesOf q1.e1), vec (encI (.i32)) 21 1 v3 (runesOf q1.e2), vec enc_T_3_string 130 3 v1 r2, eD D emp [(4, vec (encI (.i32)) 21 1 v4 r3)], vec (encI (.i32)) 21 1 v5 (runesOf q1.e0), emp]) (cons_eq rfl (cons_eq rfl (cons_eq rfl (cons_eq rfl (cons_eq rfl (cons_eq (eD_hit (hcl 8 _ rfl (hd 8 dc) 7 dc) rfl) (cons_eq (eD_miss (fun hD => hn (hcl 10 _ rfl hD 9 dc)) eD_nil) rfl))))))) ?_
         refine TO.loadVec (i := (0 : Int).toNat) (j := 0) (k := 5) (q := q4) sc_21 encI_len rfl dc (dl_lookup (m := 8) rfl rfl (hd 8 dc)) rfl (getO_get hq6) rfl dc rfl ?_
         exact TX.valG (v4, v5, b2) 9 (by rfl) (by rfl) rfl (dl_cons_eq (fun _ => rfl) (dl_cons_eq (fun _ => rfl) (dl_cons_eq (fun _ => rfl) (dl_cons_eq (fun _ => rfl) (dl_cons_eq (fun _ => rfl) (dl_cons_eq (fun _ => rfl) (dl_cons_eq (fun _ => rfl) (dl_cons_eq (fun _ => rfl) (dl_cons_eq (fun _ => rfl) (dl_cons_eq (fun _ => rfl) (dl_cons_eq (fun _ => rfl) rfl))))))))))) (cons_eq rfl (cons_eq rfl (cons_eq rfl (cons_eq rfl (cons_eq ((eD_skip (by rfl)).trans rfl) (cons_eq ((eD_skip (by rfl)).trans (eD_hit (hcl 8 _ rfl (hd 8 dc) 7 dc) rfl)) (cons_eq ((eD_skip (by rfl)).trans (eD_miss (fun hD => hn (hcl 10 _ rfl hD 9 dc)) eD_nil)) rfl)))))))
        ·
         intro D b hn hd hcl
         obtain ⟨v4, v5, _⟩ := b
         refine TO.rewL (L' := [cells b1 [.string q1.e0, .string q1.e1, .string q1.e2] 130, vec (encI (.i32)) 21 1 v2 (runesOf q1.e1), vec (encI (.i32)) 21 1 v3 (runesOf q1.e2), vec enc_T_3_string 130 3 v1 r2, eD D emp [(4, vec (encI (.i32)) 21 1 v4 r3)], vec (encI (.i32)) 21 1 v5 (runesOf q1.e0), emp]) (cons_eq rfl (cons_eq rfl (cons_eq rfl (cons_eq rfl (cons_eq rfl (cons_eq (eD_hit (hcl 8 _ rfl (hcl 9 _ rfl (hd 9 dc) 8 dc) 7 dc) rfl) (cons_eq (eD_miss hn eD_nil) rfl))))))) ?_
         refine TO.buildSlice (cs := [.int .i32 q4]) (te := 21) (ps := [(0, .tmp 40)]) rfl dc (evP.cons (dl_lookup (m := 9) rfl rfl (hd 9 dc)) evP.nil) (fun _ => by kernel_rfl) (fun b2 => ?_)
         refine TO.place 6 rfl rfl ?_
         show TO _ _ _ _ _ _ _ _ _ _ [cells b1 [.string q1.e0, .string q1.e1, .string q1.e2] 130, vec (encI (.i32)) 21 1 v2 (runesOf q1.e1), vec (encI (.i32)) 21 1 v3 (runesOf q1.e2), vec enc_T_3_string 130 3 v1 r2, eD D emp [(4, vec (encI (.i32)) 21 1 v4 r3)], vec (encI (.i32)) 21 1 v5 (runesOf q1.e0), cells b2 [.int .i32 q4] 21]
         exact TX.valG (v4, v5, b2) 10 (by rfl) (by rfl) rfl (dl_cons_eq (fun _ => rfl) (dl_cons_eq (fun _ => rfl) (dl_cons_eq (fun _ => rfl) (dl_cons_eq (fun _ => rfl) (dl_cons_eq (fun _ => rfl) (dl_cons_eq (fun _ => rfl) (dl_cons_eq (fun _ => rfl) (dl_cons_eq (fun _ => rfl) (dl_cons_eq (fun _ => rfl) (dl_cons_eq (fun _ => rfl) (dl_cons_eq (fun hD => absurd hD hn) rfl))))))))))) (cons_eq rfl (cons_eq rfl (cons_eq rfl (cons_eq rfl (cons_eq ((eD_skip (by rfl)).trans rfl) (cons_eq ((eD_skip (by rfl)).trans (eD_hit (hcl 8 _ rfl (hcl 9 _ rfl (hd 9 dc) 8 dc) 7 dc) rfl)) (cons_eq (eD_hit (Or.inr rfl) rfl) rfl)))))))
        intro D b hall
        obtain ⟨v4, v5, b2⟩ := b
        refine TO.rewL (L' := [cells b1 [.string q1.e0, .string q1.e1, .string q1.e2] 130, vec (encI (.i32)) 21 1 v2 (runesOf q1.e1), vec (encI (.i32)) 21 1 v3 (runesOf q1.e2), vec enc_T_3_string 130 3 v1 r2, vec (encI (.i32)) 21 1 v4 r3, vec (encI (.i32)) 21 1 v5 (runesOf q1.e0), cells b2 [.int .i32 q4] 21]) (cons_eq rfl (cons_eq rfl (cons_eq rfl (cons_eq rfl (cons_eq (eD_hit (hall 4 dc) rfl) (cons_eq (eD_hit (hall 7 dc) rfl) (cons_eq (eD_hit (hall 10 dc) rfl) rfl))))))) ?_
        refine TO.appendVec (k := 4) (k2 := 6) (ys := [q4]) Try.underlying44 el_21 encI_len encI_one rfl dc rfl rfl rfl rfl rfl rfl hg4 (fun v6 => ?_)
        refine TO.assign rfl dc rfl (TO.nil (TX.next (TC.ret (TX.blockRet (TX.thenRet (TX.thenRet (TX.blockRet (TX.blockRet (TX.thenRet (TX.thenRet (TX.blockRet (TX.thenRet ?_))))))))))))
        cases h
        exact TX.fin (rs := [.tmp 2]) v6 (.inl rfl) Try.results96 (.cons (.tmp rfl) .nil) rfl (Splits.of [4] kr rfl)
       ·
        have h := condF hb3 h
        refine TC.skip (TX.blockNormal (TX.next (TC.region ?_)))
        obtain ⟨hg5, h⟩ := grdE h
        refine TO.bin rfl dc rfl rfl (bin_add (r := x6 + 1) (IntWalk.i64_in _ hg5)) (TO.move rfl dc rfl (TO.nil ?_))
        subst hag2
        exact TX.againD (n2, x6 + 1) h (Nat.lt_succ_self _) rfl (Sbs.cons rfl (Sbs.cons rfl (Sbs.cons rfl (Sbs.cons rfl (Sbs.cons rfl (Sbs.cons rfl (Sbs.cons rfl (Sbs.cons rfl (Sbs.cons rfl (Sbs.nil)))))))))) (Splits.of [0, 1, 2, 3] kr rfl)
      ·
       have h := condF hb2 h
       refine TC.exit (TX.thenExit (TX.thenExit (TX.blockHere (TX.blockNormal ?_))))
       exact TX.meetD () h rfl (Sbs.cons rfl (Sbs.cons rfl (Sbs.cons rfl (Sbs.cons rfl (Sbs.nil))))) (Splits.of [3] kr rfl)
    ·
     rintro _ h
     rw [hj2] at h
     show TC _ _ _ _ _ ([]) _ _ [(0, .int .i32 r1), (8, v1), (9, .int .i64 (r2.length : Int)), (10, .int .i64 x3)] [vec enc_T_3_string 130 3 v1 r2]
     refine TC.region ?_
     obtain ⟨hg6, h⟩ := grdE h
     refine TO.bin rfl dc rfl rfl (bin_add (r := x3 + 1) (IntWalk.i64_in _ hg6)) (TO.move rfl dc rfl (TO.nil ?_))
     subst hag1
     exact TX.againD (n1, x3 + 1) h (Nat.lt_succ_self _) rfl (Sbs.cons rfl (Sbs.cons rfl (Sbs.cons rfl (Sbs.cons rfl (Sbs.nil))))) (Splits.of [0] kr rfl)
   ·
    have h := condF hb1 h
    refine TC.exit (TX.thenExit (TX.thenExit (TX.blockHere ?_)))
    exact TX.meetD () h rfl (Sbs.cons rfl (Sbs.nil)) Splits.nil
 ·
  rintro _ h
  rw [hj1] at h
  show TC _ _ _ _ _ ([]) _ _ [(0, .int .i32 r1)] []
  refine TC.seq (TC.region (TO.move rfl dc rfl ?_))
  refine TO.buildSlice (cs := [.int .i32 r1]) (te := 21) (ps := [(0, .tmp 45)]) rfl dc rfl (fun _ => by kernel_rfl) (fun b3 => ?_)
  refine TO.assign rfl dc rfl (TO.nil (TX.next (TC.ret (TX.toVec ([r1] : List Int) (k := 0) rfl encI_len rfl (show 1 ≤ maxLen by decide) ?_))))
  show TX _ _ _ _ _ _ _ [vec (encI (.i32)) 21 1 (.slice (some ⟨b3, 0, none⟩) 1 1) ([r1] : List Int)]
  cases h
  exact TX.fin (rs := [.tmp 2]) (.slice (some ⟨b3, 0, none⟩) 1 1) (.inl rfl) Try.results96 (.cons (.tmp rfl) .nil) rfl (Splits.of [0] kr rfl)
theorem ref04_Split_fn {r1 : Int} {r : (List Int)} (h : ref04_Split_v r1 = some r) : Fn Try.prog 96 [.int .i32 r1] [] (fun v0 : Value => v0) (fun v0 => [vec (encI (.i32)) 21 1 v0 r]) := by
 unfold ref04_Split_v at h
 exact ref04_Split_fb fuel  h
def ref04_Low_s1 (r1 : Int) (j1 : Option Bool) (ag1 : Int → Option Bool) (x3 : Int) : Option Bool := bcond (decide ((x3 : Int) < 8)) ( joinK (fun (j2 : Option Bool) => andThen (getO ([(⟨790, 793⟩ : T_2_int32), (⟨796, 800⟩ : T_2_int32), (⟨803, 819⟩ : T_2_int32), (⟨825, 828⟩ : T_2_int32), (⟨837, 841⟩ : T_2_int32), (⟨845, 846⟩ : T_2_int32), (⟨851, 854⟩ : T_2_int32), (⟨857, 858⟩ : T_2_int32)] : List T_2_int32) x3) fun (q1 : T_2_int32) => bcond (decide ((q1.e0 : Int) ≤ r1)) ( bcond (decide ((r1 : Int) ≤ q1.e1)) ( some true
) ( j2
)
) ( j2
)
) ( grd (I64 (x3 + 1)) <| ag1 (x3 + 1)
)
) ( j1
)
def ref04_Low_v (r1 : Int) : Option Bool := joinK (fun (j1 : Option Bool) => loopG (fun _ => none) (ref04_Low_s1 r1 j1) fuel 0
) ( some false
)
set_option maxRecDepth 100000 in
set_option maxHeartbeats 4000000 in
theorem ref04_Low_fn {r1 : Int} {r : Bool} (h : ref04_Low_v r1 = some r) : FnP Try.prog 98 [.int .i32 r1] (.bool r) := by
 unfold ref04_Low_v at h
 refine FnP.intro Try.func98 rfl Try.ntmps98 (by simp) ?_
 intro w0 K
 obtain ⟨j1, hj1, h⟩ := joinE h
 refine TC.cutN (β := Unit) 1 rfl (fun b => j1 = some r) (fun b => []) (fun b => []) (fun b => []) (fun cut => ?_) ?_
 ·
  refine TC.seq (TC.region (TO.assign rfl dc rfl (TO.nil (TX.next (cut (TC.seq (TC.region ?_)))))))
  refine TO.build (v := .agg #[.int .i32 790, .int .i32 793]) (ps := [(0, .const (.int .i32 790)), (1, .const (.int .i32 793))]) rfl dc rfl (fun _ => by kernel_rfl) ?_
  refine TO.build (v := .agg #[.int .i32 796, .int .i32 800]) (ps := [(0, .const (.int .i32 796)), (1, .const (.int .i32 800))]) rfl dc rfl (fun _ => by kernel_rfl) ?_
  refine TO.build (v := .agg #[.int .i32 803, .int .i32 819]) (ps := [(0, .const (.int .i32 803)), (1, .const (.int .i32 819))]) rfl dc rfl (fun _ => by kernel_rfl) ?_
  refine TO.build (v := .agg #[.int .i32 825, .int .i32 828]) (ps := [(0, .const (.int .i32 825)), (1, .const (.int .i32 828))]) rfl dc rfl (fun _ => by kernel_rfl) ?_
  refine TO.build (v := .agg #[.int .i32 837, .int .i32 841]) (ps := [(0, .const (.int .i32 837)), (1, .const (.int .i32 841))]) rfl dc rfl (fun _ => by kernel_rfl) ?_
  refine TO.build (v := .agg #[.int .i32 845, .int .i32 846]) (ps := [(0, .const (.int .i32 845)), (1, .const (.int .i32 846))]) rfl dc rfl (fun _ => by kernel_rfl) ?_
  refine TO.build (v := .agg #[.int .i32 851, .int .i32 854]) (ps := [(0, .const (.int .i32 851)), (1, .const (.int .i32 854))]) rfl dc rfl (fun _ => by kernel_rfl) ?_
  refine TO.build (v := .agg #[.int .i32 857, .int .i32 858]) (ps := [(0, .const (.int .i32 857)), (1, .const (.int .i32 858))]) rfl dc rfl (fun _ => by kernel_rfl) ?_
  refine TO.build (v := .agg #[.int .i32 790, .int .i32 793, .int .i32 796, .int .i32 800, .int .i32 803, .int .i32 819, .int .i32 825, .int .i32 828, .int .i32 837, .int .i32 841, .int .i32 845, .int .i32 846, .int .i32 851, .int .i32 854, .int .i32 857, .int .i32 858]) (ps := [(0, .tmp 5), (1, .tmp 6), (2, .tmp 7), (3, .tmp 8), (4, .tmp 9), (5, .tmp 10), (6, .tmp 11), (7, .tmp 12)]) rfl dc rfl (fun _ => by kernel_rfl) ?_
  refine TO.move rfl dc rfl (TO.nil (TX.next (TC.block ?_)))
  refine TC.loopD (β := Nat × Int) (fun b => loopG (fun _ => none) (ref04_Low_s1 r1 j1) b.1 b.2 = some r) (fun b => []) (fun b => [(0, .int .i32 r1), (13, .agg #[.int .i32 790, .int .i32 793, .int .i32 796, .int .i32 800, .int .i32 803, .int .i32 819, .int .i32 825, .int .i32 828, .int .i32 837, .int .i32 841, .int .i32 845, .int .i32 846, .int .i32 851, .int .i32 854, .int .i32 857, .int .i32 858]), (14, .int .i64 b.2)]) (fun b => []) (fun b => b.1) (fuel, 0) h rfl (Sbs.cons rfl (Sbs.cons rfl (Sbs.cons rfl (Sbs.nil)))) Splits.nil ?_
  rintro ⟨n1, x3⟩ h
  cases n1 with
  | zero => exact noneE h
  | succ n1 =>
   obtain ⟨ag1, hag1⟩ : ∃ ag, ag = loopG (fun _ => none) (ref04_Low_s1 r1 j1) n1 := ⟨_, rfl⟩
   have h : ref04_Low_s1 r1 j1 ag1 x3 = some r := by rw [hag1]; exact h
   unfold ref04_Low_s1 at h
   show TC _ _ _ _ _ ([]) _ _ [(0, .int .i32 r1), (13, .agg #[.int .i32 790, .int .i32 793, .int .i32 796, .int .i32 800, .int .i32 803, .int .i32 819, .int .i32 825, .int .i32 828, .int .i32 837, .int .i32 841, .int .i32 845, .int .i32 846, .int .i32 851, .int .i32 854, .int .i32 857, .int .i32 858]), (14, .int .i64 x3)] []
   refine TC.seq (TC.region (TO.bin rfl dc rfl rfl bin_lss (TO.nil (TX.next (TC.seq ?_)))))
   refine TC.condB rfl (fun hb1 => ?_) (fun hb1 => ?_)
   ·
    have h := condT hb1 h
    refine TC.skip (TX.next ?_)
    obtain ⟨j2, hj2, h⟩ := joinE h
    refine TC.cutN (β := Unit) 0 rfl (fun b => j2 = some r) (fun b => []) (fun b => [(0, .int .i32 r1), (13, .agg #[.int .i32 790, .int .i32 793, .int .i32 796, .int .i32 800, .int .i32 803, .int .i32 819, .int .i32 825, .int .i32 828, .int .i32 837, .int .i32 841, .int .i32 845, .int .i32 846, .int .i32 851, .int .i32 854, .int .i32 857, .int .i32 858]), (14, .int .i64 x3)]) (fun b => []) (fun cut => ?_) ?_
    ·
     refine cut (TC.block (TC.seq (TC.region ?_)))
     obtain ⟨q1, hq1, h⟩ := andE h
     refine TO.index (v := .agg #[.int .i32 q1.e0, .int .i32 q1.e1]) rfl dc rfl rfl (index_arr (enc := enc_T_2_int32) (xs := ([(⟨790, 793⟩ : T_2_int32), (⟨796, 800⟩ : T_2_int32), (⟨803, 819⟩ : T_2_int32), (⟨825, 828⟩ : T_2_int32), (⟨837, 841⟩ : T_2_int32), (⟨845, 846⟩ : T_2_int32), (⟨851, 854⟩ : T_2_int32), (⟨857, 858⟩ : T_2_int32)] : List T_2_int32)) (q := q1) Try.underlying131 sz_72 rfl enc_T_2_int32_len hq1 (fun _ => part_row (enc := enc_T_2_int32) rw_72 enc_T_2_int32_len (getO_get hq1))) ?_
     refine TO.alloc zr_72 rfl dc (fun b1 => ?_)
     refine TO.stores (k := 0) (vs := [.int .i32 q1.e0, .int .i32 q1.e1]) (l' := [.int .i32 q1.e0, .int .i32 q1.e1]) sz_72 rfl rfl rfl rfl rfl (show _ ≤ _ by simp) rfl rfl ?_
     show TO _ _ _ _ _ _ _ _ _ _ [cells b1 [.int .i32 q1.e0, .int .i32 q1.e1] 72]
     refine TO.nil (TX.next (TC.seq (TC.region (TO.move rfl dc rfl (TO.indexArr dc Try.underlying72 sz_21 rfl dc rfl rfl (show _ = 0 from rfl) (TO.load (k := 0) sc_21 rfl dc rfl rfl rfl (TO.bin rfl dc rfl rfl bin_geq (TO.move rfl dc rfl ?_))))))))
     refine TO.split (s := 21) rfl (fun hb2 => ?_) (fun hb2 => ?_)
     ·
      have h := condT hb2 h
      refine TO.move rfl dc rfl (TO.indexArr dc Try.underlying72 sz_21 rfl dc rfl rfl (show _ = 1 from rfl) (TO.load (k := 0) sc_21 rfl dc rfl rfl rfl (TO.bin rfl dc rfl rfl bin_leq (TO.pick (b := true) rfl dc rfl rfl (TO.nil (TX.next ?_))))))
      refine TC.condB rfl (fun hb3 => ?_) (fun hb3 => ?_)
      ·
       have h := condT hb3 h
       refine TC.seq (TC.region (TO.assign rfl dc rfl (TO.nil (TX.next (TC.ret (TX.blockRet (TX.thenRet (TX.thenRet (TX.blockRet (TX.thenRet ?_))))))))))
       cases h
       exact TX.fin (rs := [.tmp 2]) () (.inl rfl) Try.results98 (.cons (.tmp rfl) .nil) rfl Splits.nil
      ·
       have h := condF hb3 h
       refine TC.skip (TX.blockNormal ?_)
       exact TX.meetD () h rfl (Sbs.cons rfl (Sbs.cons rfl (Sbs.cons rfl (Sbs.nil)))) Splits.nil
     ·
      have h := condF hb2 h
      refine TO.skip rfl dc (TO.skip rfl dc (TO.skip rfl dc (TO.skip rfl dc (TO.pick (b := false) rfl dc rfl rfl (TO.nil (TX.next (TC.condF rfl (TC.skip (TX.blockNormal ?_)))))))))
      exact TX.meetD () h rfl (Sbs.cons rfl (Sbs.cons rfl (Sbs.cons rfl (Sbs.nil)))) Splits.nil
    ·
     rintro _ h
     rw [hj2] at h
     show TC _ _ _ _ _ ([]) _ _ [(0, .int .i32 r1), (13, .agg #[.int .i32 790, .int .i32 793, .int .i32 796, .int .i32 800, .int .i32 803, .int .i32 819, .int .i32 825, .int .i32 828, .int .i32 837, .int .i32 841, .int .i32 845, .int .i32 846, .int .i32 851, .int .i32 854, .int .i32 857, .int .i32 858]), (14, .int .i64 x3)] []
     refine TC.region ?_
     obtain ⟨hg1, h⟩ := grdE h
     refine TO.bin rfl dc rfl rfl (bin_add (r := x3 + 1) (IntWalk.i64_in _ hg1)) (TO.move rfl dc rfl (TO.nil ?_))
     subst hag1
     exact TX.againD (n1, x3 + 1) h (Nat.lt_succ_self _) rfl (Sbs.cons rfl (Sbs.cons rfl (Sbs.cons rfl (Sbs.nil)))) Splits.nil
   ·
    have h := condF hb1 h
    refine TC.exit (TX.thenExit (TX.thenExit (TX.blockHere ?_)))
    exact TX.meetD () h rfl (Sbs.nil) Splits.nil
 ·
  rintro _ h
  rw [hj1] at h
  show TC _ _ _ _ _ ([]) _ _ [] []
  refine TC.seq (TC.region (TO.assign rfl dc rfl (TO.nil (TX.next (TC.ret ?_)))))
  cases h
  exact TX.fin (rs := [.tmp 2]) () (.inl rfl) Try.results98 (.cons (.tmp rfl) .nil) rfl Splits.nil
def ref04_Letter_v (r1 : Int) : Option Bool := grd (I32 r1) <| bcond (great r1) ( some true
) ( grd (I32 r1) <| some (small r1)
)
set_option maxRecDepth 100000 in
set_option maxHeartbeats 4000000 in
theorem ref04_Letter_fn {r1 : Int} {r : Bool} (h : ref04_Letter_v r1 = some r) : FnP Try.prog 58 [.int .i32 r1] (.bool r) := by
 unfold ref04_Letter_v at h
 refine FnP.intro Try.func58 rfl Try.ntmps58 (by simp) ?_
 intro w0 K
 refine TC.seq (TC.region (TO.assign rfl dc rfl (TO.nil (TX.next (TC.seq (TC.region (TO.move rfl dc rfl ?_)))))))
 obtain ⟨hg1, h⟩ := grdE h
 refine TO.callP (v := .bool (great r1)) (vs := [.int .i32 r1]) rfl dc rfl rfl rfl en_79 (FnP.of_same fun w => rgreat_any r1 w hg1.1 hg1.2) ?_
 refine TO.move rfl dc rfl ?_
 refine TO.split (s := 5) rfl (fun hb1 => ?_) (fun hb1 => ?_)
 ·
  have h := condT hb1 h
  refine TO.skip rfl dc (TO.skip rfl dc (TO.pick (b := true) rfl dc rfl rfl (TO.assign rfl dc rfl (TO.nil (TX.next (TC.ret ?_))))))
  cases h
  exact TX.fin (rs := [.tmp 2]) () (.inl rfl) Try.results58 (.cons (.tmp rfl) .nil) rfl Splits.nil
 ·
  have h := condF hb1 h
  refine TO.move rfl dc rfl ?_
  obtain ⟨hg2, h⟩ := grdE h
  refine TO.callP (v := .bool (small r1)) (vs := [.int .i32 r1]) rfl dc rfl rfl rfl en_80 (FnP.of_same fun w => rsmall_any r1 w hg2.1 hg2.2) ?_
  refine TO.pick (b := false) rfl dc rfl rfl (TO.assign rfl dc rfl (TO.nil (TX.next (TC.ret ?_))))
  cases h
  exact TX.fin (rs := [.tmp 2]) () (.inl rfl) Try.results58 (.cons (.tmp rfl) .nil) rfl Splits.nil
def ref04_Mark_v (r1 : Int) : Option Bool := bcond (decide ((768 : Int) ≤ r1)) ( some (decide ((r1 : Int) ≤ 879))
) ( some false
)
set_option maxRecDepth 100000 in
set_option maxHeartbeats 4000000 in
theorem ref04_Mark_fn {r1 : Int} {r : Bool} (h : ref04_Mark_v r1 = some r) : FnP Try.prog 57 [.int .i32 r1] (.bool r) := by
 unfold ref04_Mark_v at h
 refine FnP.intro Try.func57 rfl Try.ntmps57 (by simp) ?_
 intro w0 K
 refine TC.seq (TC.region (TO.assign rfl dc rfl (TO.nil (TX.next (TC.seq (TC.region (TO.move rfl dc rfl (TO.bin rfl dc rfl rfl bin_geq (TO.move rfl dc rfl ?_)))))))))
 refine TO.split (s := 5) rfl (fun hb1 => ?_) (fun hb1 => ?_)
 ·
  have h := condT hb1 h
  refine TO.move rfl dc rfl (TO.bin rfl dc rfl rfl bin_leq (TO.pick (b := true) rfl dc rfl rfl (TO.assign rfl dc rfl (TO.nil (TX.next (TC.ret ?_))))))
  cases h
  exact TX.fin (rs := [.tmp 2]) () (.inl rfl) Try.results57 (.cons (.tmp rfl) .nil) rfl Splits.nil
 ·
  have h := condF hb1 h
  refine TO.skip rfl dc (TO.skip rfl dc (TO.pick (b := false) rfl dc rfl rfl (TO.assign rfl dc rfl (TO.nil (TX.next (TC.ret ?_))))))
  cases h
  exact TX.fin (rs := [.tmp 2]) () (.inl rfl) Try.results57 (.cons (.tmp rfl) .nil) rfl Splits.nil
def ref04_Item_letter_v (x1 : Gref04_Item) : Option Bool := bcond (decide ((0 : Int) ≤ x1.Rune)) ( andThen (ref04_Letter_v x1.Rune) fun (r1 : Bool) => some r1
) ( some false
)
set_option maxRecDepth 100000 in
set_option maxHeartbeats 4000000 in
theorem ref04_Item_letter_fn {x1 : Gref04_Item} {r : Bool} (h : ref04_Item_letter_v x1 = some r) : FnP Try.prog 30 [.agg #[.int .i32 x1.Rune, .string x1.Text, .int .i64 x1.At]] (.bool r) := by
 unfold ref04_Item_letter_v at h
 refine FnP.intro Try.func30 rfl Try.ntmps30 (by simp) ?_
 intro w0 K
 refine TC.seq (TC.region ?_)
 refine TO.box rfl dc rfl (fun b1 => ?_)
 refine TO.assign rfl dc rfl (TO.nil (TX.next (TC.seq (TC.region (TO.fieldAddr fl_53_0 rfl dc rfl (show _ = 0 from rfl) (TO.load (k := 0) sc_21 rfl dc rfl rfl rfl (TO.bin rfl dc rfl rfl bin_geq (TO.move rfl dc rfl ?_))))))))
 refine TO.split (s := 6) rfl (fun hb1 => ?_) (fun hb1 => ?_)
 ·
  have h := condT hb1 h
  refine TO.fieldAddr fl_53_0 rfl dc rfl (show _ = 0 from rfl) (TO.load (k := 0) sc_21 rfl dc rfl rfl rfl ?_)
  obtain ⟨r1, hq1, h⟩ := andE h
  refine TO.callP (v := .bool r1) (vs := [.int .i32 x1.Rune]) rfl dc rfl rfl rfl en_58 (ref04_Letter_fn hq1) (TO.pick (b := true) rfl dc rfl rfl (TO.assign rfl dc rfl (TO.nil (TX.next (TC.ret ?_)))))
  cases h
  exact TX.fin (rs := [.tmp 2]) () (.inl rfl) Try.results30 (.cons (.tmp rfl) .nil) rfl Splits.nil
 ·
  have h := condF hb1 h
  refine TO.skip rfl dc (TO.skip rfl dc (TO.skip rfl dc (TO.pick (b := false) rfl dc rfl rfl (TO.assign rfl dc rfl (TO.nil (TX.next (TC.ret ?_)))))))
  cases h
  exact TX.fin (rs := [.tmp 2]) () (.inl rfl) Try.results30 (.cons (.tmp rfl) .nil) rfl Splits.nil
def ref04_Item_mark_v (x1 : Gref04_Item) : Option Bool := bcond (decide ((0 : Int) ≤ x1.Rune)) ( andThen (ref04_Mark_v x1.Rune) fun (r1 : Bool) => some r1
) ( some false
)
set_option maxRecDepth 100000 in
set_option maxHeartbeats 4000000 in
theorem ref04_Item_mark_fn {x1 : Gref04_Item} {r : Bool} (h : ref04_Item_mark_v x1 = some r) : FnP Try.prog 29 [.agg #[.int .i32 x1.Rune, .string x1.Text, .int .i64 x1.At]] (.bool r) := by
 unfold ref04_Item_mark_v at h
 refine FnP.intro Try.func29 rfl Try.ntmps29 (by simp) ?_
 intro w0 K
 refine TC.seq (TC.region ?_)
 refine TO.box rfl dc rfl (fun b1 => ?_)
 refine TO.assign rfl dc rfl (TO.nil (TX.next (TC.seq (TC.region (TO.fieldAddr fl_53_0 rfl dc rfl (show _ = 0 from rfl) (TO.load (k := 0) sc_21 rfl dc rfl rfl rfl (TO.bin rfl dc rfl rfl bin_geq (TO.move rfl dc rfl ?_))))))))
 refine TO.split (s := 6) rfl (fun hb1 => ?_) (fun hb1 => ?_)
 ·
  have h := condT hb1 h
  refine TO.fieldAddr fl_53_0 rfl dc rfl (show _ = 0 from rfl) (TO.load (k := 0) sc_21 rfl dc rfl rfl rfl ?_)
  obtain ⟨r1, hq1, h⟩ := andE h
  refine TO.callP (v := .bool r1) (vs := [.int .i32 x1.Rune]) rfl dc rfl rfl rfl en_57 (ref04_Mark_fn hq1) (TO.pick (b := true) rfl dc rfl rfl (TO.assign rfl dc rfl (TO.nil (TX.next (TC.ret ?_)))))
  cases h
  exact TX.fin (rs := [.tmp 2]) () (.inl rfl) Try.results29 (.cons (.tmp rfl) .nil) rfl Splits.nil
 ·
  have h := condF hb1 h
  refine TO.skip rfl dc (TO.skip rfl dc (TO.skip rfl dc (TO.pick (b := false) rfl dc rfl rfl (TO.assign rfl dc rfl (TO.nil (TX.next (TC.ret ?_)))))))
  cases h
  exact TX.fin (rs := [.tmp 2]) () (.inl rfl) Try.results29 (.cons (.tmp rfl) .nil) rfl Splits.nil
def ref04_Items_s1 (s1 : ByteArray) (j1 : (List Gref04_Item) → Option (List Gref04_Item)) (r1 : (List Gapi_Piece)) (ag1 : (List Gref04_Item) → Int → Option (List Gref04_Item)) (l4 : List Gref04_Item) (x3 : Int) : Option (List Gref04_Item) := bcond (decide ((x3 : Int) < (r1.length : Int))) ( joinK (fun (j2 : Int → ByteArray → Int → Option (List Gref04_Item)) => andThen (getO r1 x3) fun (q1 : Gapi_Piece) => andThen (ref01_Text_v s1 q1) fun (r2 : ByteArray) => bcond (q1.Broken) ( j2 (-1) r2 q1.At
) ( j2 q1.Rune r2 q1.At
)
) (fun (x4 : Int) (x5 : ByteArray) (x6 : Int) => grd (l4.length + 1 ≤ 2147483648) <| grd (I64 (x3 + 1)) <| ag1 (l4 ++ [(⟨x4, x5, x6⟩ : Gref04_Item)]) (x3 + 1)
)
) ( j1 l4
)
def ref04_Items_v (s1 : ByteArray) : Option (List Gref04_Item) := joinK (fun (j1 : (List Gref04_Item) → Option (List Gref04_Item)) => andThen (ref01_Pieces_v s1) fun (r1 : (List Gapi_Piece)) => loopG (fun _ _ => none) (ref04_Items_s1 s1 j1 r1) fuel ([] : List Gref04_Item) 0
) (fun (l1 : List Gref04_Item) => some l1
)
set_option maxRecDepth 100000 in
set_option maxHeartbeats 4000000 in
theorem ref04_Items_fn {s1 : ByteArray} {r : (List Gref04_Item)} (h : ref04_Items_v s1 = some r) : Fn Try.prog 28 [.string s1] [] (fun v0 : Value => v0) (fun v0 => [vec enc_Gref04_Item 53 3 v0 r]) := by
 unfold ref04_Items_v at h
 refine Fn.intro Try.func28 rfl Try.ntmps28 (by simp) ?_
 intro w0 K
 obtain ⟨j1, hj1, h⟩ := joinE h
 refine TC.cutN (β := (List Gref04_Item) × Value) 2 rfl (fun b => j1 b.1 = some r) (fun b => []) (fun b => [(3, b.2)]) (fun b => [vec enc_Gref04_Item 53 3 b.2 b.1]) (fun cut => ?_) ?_
 ·
  refine TC.seq (TC.region (TO.assign rfl dc rfl (TO.nil (TX.next (TC.seq (TC.region (TO.assign rfl dc rfl (TO.nil (TX.next (cut (TC.seq (TC.region (TO.move rfl dc rfl ?_)))))))))))))
  obtain ⟨r1, hq1, h⟩ := andE h
  refine TO.call (vs := [.string s1]) rfl dc rfl rfl rfl en_55 (ref01_Pieces_fn hq1) Splits.nil ?_
  rintro v2
  show TO _ _ _ _ _ _ _ _ _ _ [vec enc_Gapi_Piece 55 4 v2 r1]
  refine TO.lenVec (k := 0) rfl dc rfl rfl Try.underlying84 (TO.move rfl dc rfl (TO.nil (TX.next (TC.block (TC.newVec (enc := enc_Gref04_Item) (e := 53) (size := 3) ?_)))))
  show TC _ _ _ _ _ _ _ _ _ [vec enc_Gapi_Piece 55 4 v2 r1, vec enc_Gref04_Item 53 3 (.slice none 0 0) ([] : List Gref04_Item)]
  refine TC.loopD (β := Nat × (List Gref04_Item) × Int × Value) (fun b => loopG (fun _ _ => none) (ref04_Items_s1 s1 j1 r1) b.1 b.2.1 b.2.2.1 = some r) (fun b => []) (fun b => [(0, .string s1), (3, b.2.2.2), (8, v2), (9, .int .i64 (r1.length : Int)), (10, .int .i64 b.2.2.1)]) (fun b => [vec enc_Gref04_Item 53 3 b.2.2.2 b.2.1, vec enc_Gapi_Piece 55 4 v2 r1]) (fun b => b.1) (fuel, ([] : List Gref04_Item), 0, (.slice none 0 0)) h rfl (Sbs.cons rfl (Sbs.cons rfl (Sbs.cons rfl (Sbs.cons rfl (Sbs.cons rfl (Sbs.nil)))))) (Splits.of [1, 0] kr rfl) ?_
  rintro ⟨n1, l4, x3, v5⟩ h
  cases n1 with
  | zero => exact noneE h
  | succ n1 =>
   obtain ⟨ag1, hag1⟩ : ∃ ag, ag = loopG (fun _ _ => none) (ref04_Items_s1 s1 j1 r1) n1 := ⟨_, rfl⟩
   have h : ref04_Items_s1 s1 j1 r1 ag1 l4 x3 = some r := by rw [hag1]; exact h
   unfold ref04_Items_s1 at h
   show TC _ _ _ _ _ ([]) _ _ [(0, .string s1), (3, v5), (8, v2), (9, .int .i64 (r1.length : Int)), (10, .int .i64 x3)] [vec enc_Gref04_Item 53 3 v5 l4, vec enc_Gapi_Piece 55 4 v2 r1]
   refine TC.seq (TC.region (TO.bin rfl dc rfl rfl bin_lss (TO.nil (TX.next (TC.seq ?_)))))
   refine TC.condB rfl (fun hb1 => ?_) (fun hb1 => ?_)
   ·
    have h := condT hb1 h
    refine TC.skip (TX.next (TC.seq (TC.block ?_)))
    obtain ⟨j2, hj2, h⟩ := joinE h
    refine TC.cutN (β := Int × ByteArray × Int × Nat) 2 rfl (fun b => j2 b.1 b.2.1 b.2.2.1 = some r) (fun b => []) (fun b => [(0, .string s1), (3, v5), (6, .pointer (some ⟨b.2.2.2, 0, none⟩)), (8, v2), (9, .int .i64 (r1.length : Int)), (10, .int .i64 x3)]) (fun b => [vec enc_Gref04_Item 53 3 v5 l4, cells b.2.2.2 [.int .i32 b.1, .string b.2.1, .int .i64 b.2.2.1] 53, vec enc_Gapi_Piece 55 4 v2 r1]) (fun cut => ?_) ?_
    ·
     refine TC.seq (TC.region ?_)
     obtain ⟨q1, hq2, h⟩ := andE h
     refine TO.indexVecI (k := 1) hq2 Try.underlying84 sz_55 rfl dc rfl rfl rfl rfl (TO.loadsVec (i := (x3 : Int).toNat) (j := 0) (k := 1) (q := q1) (cs := [.int .i64 q1.At, .int .i64 q1.Width, .int .i32 q1.Rune, .bool q1.Broken]) rw_55 enc_Gapi_Piece_len rfl dc rfl rfl (getO_get hq2) rfl rfl rfl ?_)
     refine TO.alloc zr_55 rfl dc (fun b2 => ?_)
     refine TO.stores (k := 2) (vs := [.int .i64 q1.At, .int .i64 q1.Width, .int .i32 q1.Rune, .bool q1.Broken]) (l' := [.int .i64 q1.At, .int .i64 q1.Width, .int .i32 q1.Rune, .bool q1.Broken]) sz_55 rfl rfl rfl rfl rfl (show _ ≤ _ by simp) rfl rfl ?_
     show TO _ _ _ _ _ _ _ _ _ _ [vec enc_Gref04_Item 53 3 v5 l4, vec enc_Gapi_Piece 55 4 v2 r1, cells b2 [.int .i64 q1.At, .int .i64 q1.Width, .int .i32 q1.Rune, .bool q1.Broken] 55]
     refine TO.nil (TX.next (TC.seq ?_))
     obtain ⟨r2, hq3, h⟩ := andE h
     refine TC.drawB (β := Nat) 9 8 _ [(0, 14, .pointer (some ⟨b2, 2, none⟩)), (1, 15, .int .i32 q1.Rune), (2, 16, .string s1), (3, 17, .agg #[.int .i64 q1.At, .int .i64 q1.Width, .int .i32 q1.Rune, .bool q1.Broken]), (4, 18, .string r2), (5, 19, .pointer (some ⟨b2, 0, none⟩)), (6, 20, .int .i64 q1.At), (7, 21, .agg #[.int .i32 q1.Rune, .string r2, .int .i64 q1.At])] (fun b3 => [(6, .pointer (some ⟨b3, 0, none⟩))]) (fun b3 => [vec enc_Gref04_Item 53 3 v5 l4, vec enc_Gapi_Piece 55 4 v2 r1, cells b2 [.int .i64 q1.At, .int .i64 q1.Width, .int .i32 q1.Rune, .bool q1.Broken] 55, cells b3 [.int .i32 0, .string ByteArray.empty, .int .i64 0] 53]) mixed kr kr rfl dc dc (by rfl) kr kr (DrawPreX.cons ?_ (DrawPreX.cons ?_ (DrawPreX.cons ?_ (DrawPreX.cons ?_ (DrawPreX.cons ?_ (DrawPreX.cons ?_ (DrawPreX.cons ?_ (DrawPreX.cons ?_ (DrawPreX.here DrawPreX.nil))))))))) (fun b3 => (DrawPreX.cons ?_ (DrawPreX.cons ?_ (DrawPreX.cons ?_ (DrawPreX.cons ?_ (DrawPreX.cons ?_ (DrawPreX.cons ?_ (DrawPreX.cons ?_ (DrawPreX.cons ?_ (DrawPreX.here DrawPreX.nil)))))))))) ?_ ?_
     ·
      intro D hn hd hcl hu hi
      refine TO.fieldAddr fl_55_2 rfl dc (dl_old (by rfl) rfl) (show _ = 2 from rfl) ?_
      exact TX.quiet 0 hu hi rfl
     ·
      intro D hn hd hcl hu hi
      refine TO.load (k := 2) sc_21 rfl dc (dl_lookup (m := 0) hu rfl (hd 0 dc)) rfl rfl ?_
      exact TX.quiet 1 hu hi rfl
     ·
      intro D hn hd hcl hu hi
      refine TO.move rfl dc (dl_old (by rfl) rfl) ?_
      exact TX.quiet 2 hu hi rfl
     ·
      intro D hn hd hcl hu hi
      refine TO.loads (k := 2) (cs := [.int .i64 q1.At, .int .i64 q1.Width, .int .i32 q1.Rune, .bool q1.Broken]) rw_55 rfl dc (dl_old (by rfl) rfl) rfl rfl rfl ?_
      exact TX.quiet 3 hu hi rfl
     ·
      intro D hn hd hcl hu hi
      refine TO.callP (v := .string r2) (vs := [.string s1, .agg #[.int .i64 q1.At, .int .i64 q1.Width, .int .i32 q1.Rune, .bool q1.Broken]]) rfl dc rfl (evL.cons (dl_lookup (m := 2) hu rfl (hd 2 dc)) (evL.cons (dl_lookup (m := 3) hu rfl (hd 3 dc)) evL.nil)) rfl en_56 (ref01_Text_fn (p1 := q1) hq3) ?_
      exact TX.quiet 4 hu hi rfl
     ·
      intro D hn hd hcl hu hi
      refine TO.fieldAddr fl_55_0 rfl dc (dl_old (by rfl) rfl) (show _ = 0 from rfl) ?_
      exact TX.quiet 5 hu hi rfl
     ·
      intro D hn hd hcl hu hi
      refine TO.load (k := 2) sc_3 rfl dc (dl_lookup (m := 5) hu rfl (hd 5 dc)) rfl rfl ?_
      exact TX.quiet 6 hu hi rfl
     ·
      intro D hn hd hcl hu hi
      refine TO.build (v := .agg #[.int .i32 q1.Rune, .string r2, .int .i64 q1.At]) (ps := [(0, .tmp 15), (1, .tmp 18), (2, .tmp 20)]) rfl dc (evP.cons (dl_lookup (m := 1) hu rfl (hd 1 dc)) (evP.cons (dl_lookup (m := 4) hu rfl (hd 4 dc)) (evP.cons (dl_lookup (m := 6) hu rfl (hd 6 dc)) evP.nil))) (fun _ => by kernel_rfl) ?_
      exact TX.quiet 7 hu hi rfl
     ·
      intro D hn hd hcl hu hi
      refine TO.fieldAddr fl_55_2 rfl dc (dl_old (by rfl) rfl) (show _ = 2 from rfl) ?_
      exact TX.quiet 0 hu hi rfl
     ·
      intro D hn hd hcl hu hi
      refine TO.load (k := 2) sc_21 rfl dc (dl_lookup (m := 0) hu rfl (hd 0 dc)) rfl rfl ?_
      exact TX.quiet 1 hu hi rfl
     ·
      intro D hn hd hcl hu hi
      refine TO.move rfl dc (dl_old (by rfl) rfl) ?_
      exact TX.quiet 2 hu hi rfl
     ·
      intro D hn hd hcl hu hi
      refine TO.loads (k := 2) (cs := [.int .i64 q1.At, .int .i64 q1.Width, .int .i32 q1.Rune, .bool q1.Broken]) rw_55 rfl dc (dl_old (by rfl) rfl) rfl rfl rfl ?_
      exact TX.quiet 3 hu hi rfl
     ·
      intro D hn hd hcl hu hi
      refine TO.callP (v := .string r2) (vs := [.string s1, .agg #[.int .i64 q1.At, .int .i64 q1.Width, .int .i32 q1.Rune, .bool q1.Broken]]) rfl dc rfl (evL.cons (dl_lookup (m := 2) hu rfl (hd 2 dc)) (evL.cons (dl_lookup (m := 3) hu rfl (hd 3 dc)) evL.nil)) rfl en_56 (ref01_Text_fn (p1 := q1) hq3) ?_
      exact TX.quiet 4 hu hi rfl
     ·
      intro D hn hd hcl hu hi
      refine TO.fieldAddr fl_55_0 rfl dc (dl_old (by rfl) rfl) (show _ = 0 from rfl) ?_
      exact TX.quiet 5 hu hi rfl
     ·
      intro D hn hd hcl hu hi
      refine TO.load (k := 2) sc_3 rfl dc (dl_lookup (m := 5) hu rfl (hd 5 dc)) rfl rfl ?_
      exact TX.quiet 6 hu hi rfl
     ·
      intro D hn hd hcl hu hi
      refine TO.build (v := .agg #[.int .i32 q1.Rune, .string r2, .int .i64 q1.At]) (ps := [(0, .tmp 15), (1, .tmp 18), (2, .tmp 20)]) rfl dc (evP.cons (dl_lookup (m := 1) hu rfl (hd 1 dc)) (evP.cons (dl_lookup (m := 4) hu rfl (hd 4 dc)) (evP.cons (dl_lookup (m := 6) hu rfl (hd 6 dc)) evP.nil))) (fun _ => by kernel_rfl) ?_
      exact TX.quiet 7 hu hi rfl
     ·
      intro D hn hd hcl
      refine TO.alloc zr_53 rfl dc (fun b3 => ?_)
      exact fun a w ha hw => ⟨b3, Sbs.mid (by rfl) _ _ _ ha, hw⟩
     intro b3
     show TO _ _ _ _ _ _ _ _ _ _ [vec enc_Gref04_Item 53 3 v5 l4, vec enc_Gapi_Piece 55 4 v2 r1, cells b2 [.int .i64 q1.At, .int .i64 q1.Width, .int .i32 q1.Rune, .bool q1.Broken] 55, cells b3 [.int .i32 0, .string ByteArray.empty, .int .i64 0] 53]
     refine TO.stores (k := 3) (vs := [.int .i32 q1.Rune, .string r2, .int .i64 q1.At]) (l' := [.int .i32 q1.Rune, .string r2, .int .i64 q1.At]) sz_53 rfl rfl rfl rfl rfl (show _ ≤ _ by simp) rfl rfl (TO.nil (TX.next (cut (TC.seq (TC.region (TO.fieldAddr fl_55_3 rfl dc rfl (show _ = 3 from rfl) (TO.load (k := 2) sc_4 rfl dc rfl rfl rfl (TO.nil (TX.next ?_)))))))))
     refine TC.condB rfl (fun hb2 => ?_) (fun hb2 => ?_)
     ·
      have h := condT hb2 h
      refine TC.region (TO.fieldAddr fl_53_0 rfl dc rfl (show _ = 0 from rfl) ?_)
      refine TO.store (k := 3) (l' := [.int .i32 (-1), .string r2, .int .i64 q1.At]) sz_21 rfl rfl rfl rfl rfl (fun _ _ => rfl) rfl ?_
      show TO _ _ _ _ _ _ _ _ _ _ [vec enc_Gref04_Item 53 3 v5 l4, vec enc_Gapi_Piece 55 4 v2 r1, cells b2 [.int .i64 q1.At, .int .i64 q1.Width, .int .i32 q1.Rune, .bool q1.Broken] 55, cells b3 [.int .i32 (-1), .string r2, .int .i64 q1.At] 53]
      refine TO.nil ?_
      exact TX.meetD ((-1), r2, q1.At, b3) h rfl (Sbs.cons rfl (Sbs.cons rfl (Sbs.cons rfl (Sbs.cons rfl (Sbs.cons rfl (Sbs.cons rfl (Sbs.nil))))))) (Splits.of [0, 3, 1] kr rfl)
     ·
      have h := condF hb2 h
      refine TC.skip ?_
      exact TX.meetD (q1.Rune, r2, q1.At, b3) h rfl (Sbs.cons rfl (Sbs.cons rfl (Sbs.cons rfl (Sbs.cons rfl (Sbs.cons rfl (Sbs.cons rfl (Sbs.nil))))))) (Splits.of [0, 3, 1] kr rfl)
    ·
     rintro ⟨x4, x5, x6, b1⟩ h
     rw [hj2] at h
     show TC _ _ _ _ _ ([]) _ _ [(0, .string s1), (3, v5), (6, .pointer (some ⟨b1, 0, none⟩)), (8, v2), (9, .int .i64 (r1.length : Int)), (10, .int .i64 x3)] [vec enc_Gref04_Item 53 3 v5 l4, cells b1 [.int .i32 x4, .string x5, .int .i64 x6] 53, vec enc_Gapi_Piece 55 4 v2 r1]
     refine TC.region (TO.move rfl dc rfl (TO.loads (k := 1) (cs := [.int .i32 x4, .string x5, .int .i64 x6]) rw_53 rfl dc rfl rfl rfl rfl ?_))
     refine TO.buildSlice (cs := [.int .i32 x4, .string x5, .int .i64 x6]) (te := 53) (ps := [(0, .tmp 26)]) rfl dc rfl (fun _ => by kernel_rfl) (fun b4 => ?_)
     obtain ⟨hg1, h⟩ := grdE h
     refine TO.appendVec (k := 0) (k2 := 3) (ys := [(⟨x4, x5, x6⟩ : Gref04_Item)]) Try.underlying49 el_53 enc_Gref04_Item_len enc_Gref04_Item_one rfl dc rfl rfl rfl rfl rfl rfl hg1 (fun v6 => ?_)
     show TO _ _ _ _ _ _ _ _ _ _ [vec enc_Gref04_Item 53 3 v6 (l4 ++ [(⟨x4, x5, x6⟩ : Gref04_Item)]), cells b1 [.int .i32 x4, .string x5, .int .i64 x6] 53, vec enc_Gapi_Piece 55 4 v2 r1, cells b4 [.int .i32 x4, .string x5, .int .i64 x6] 53]
     refine TO.assign rfl dc rfl (TO.nil (TX.blockNormal (TX.next (TC.region ?_))))
     obtain ⟨hg2, h⟩ := grdE h
     refine TO.bin rfl dc rfl rfl (bin_add (r := x3 + 1) (IntWalk.i64_in _ hg2)) (TO.move rfl dc rfl (TO.nil ?_))
     subst hag1
     exact TX.againD (n1, l4 ++ [(⟨x4, x5, x6⟩ : Gref04_Item)], x3 + 1, v6) h (Nat.lt_succ_self _) rfl (Sbs.cons rfl (Sbs.cons rfl (Sbs.cons rfl (Sbs.cons rfl (Sbs.cons rfl (Sbs.nil)))))) (Splits.of [0, 2] kr rfl)
   ·
    have h := condF hb1 h
    refine TC.exit (TX.thenExit (TX.thenExit (TX.blockHere ?_)))
    exact TX.meetD (l4, v5) h rfl (Sbs.cons rfl (Sbs.nil)) (Splits.of [0] kr rfl)
 ·
  rintro ⟨l1, v1⟩ h
  rw [hj1] at h
  show TC _ _ _ _ _ ([]) _ _ [(3, v1)] [vec enc_Gref04_Item 53 3 v1 l1]
  refine TC.seq (TC.region (TO.move rfl dc rfl (TO.assign rfl dc rfl (TO.nil (TX.next (TC.ret ?_))))))
  cases h
  exact TX.fin (rs := [.tmp 2]) v1 (.inl rfl) Try.results28 (.cons (.tmp rfl) .nil) rfl (Splits.of [0] kr rfl)
def ref04_Text_s1 (l1 : List Gref04_Item) (j1 : ByteArray → Option ByteArray) (ag1 : ByteArray → Int → Option ByteArray) (s4 : ByteArray) (x3 : Int) : Option ByteArray := bcond (decide ((x3 : Int) < (l1.length : Int))) ( andThen (getO l1 x3) fun (q1 : Gref04_Item) => grd (s4.size + q1.Text.size ≤ 9223372036854775807) <| grd (I64 (x3 + 1)) <| ag1 (s4 ++ q1.Text) (x3 + 1)
) ( j1 s4
)
def ref04_Text_v (l1 : List Gref04_Item) : Option ByteArray := joinK (fun (j1 : ByteArray → Option ByteArray) => loopG (fun _ _ => none) (ref04_Text_s1 l1 j1) fuel (⟨#[]⟩ : ByteArray) 0
) (fun (s1 : ByteArray) => some s1
)
set_option maxRecDepth 100000 in
set_option maxHeartbeats 4000000 in
theorem ref04_Text_fn {vvl1 vl1 : Value} {Ll1 : List Gref04_Item} {kl1 : Nat} {l1 : List Gref04_Item} (hwl1 : Vw vvl1 Ll1 3 kl1 vl1 l1) {r : ByteArray} (h : ref04_Text_v l1 = some r) : Fn Try.prog 53 [vl1] [vec enc_Gref04_Item 53 3 vvl1 Ll1] (fun _b : Unit => .string r) (fun _b => [vec enc_Gref04_Item 53 3 vvl1 Ll1]) := by
 unfold ref04_Text_v at h
 refine Fn.intro Try.func53 rfl Try.ntmps53 (by simp) ?_
 intro w0 K
 obtain ⟨j1, hj1, h⟩ := joinE h
 refine TC.cutN (β := ByteArray) 2 rfl (fun b => j1 b = some r) (fun b => []) (fun b => [(3, .string b)]) (fun b => [vec enc_Gref04_Item 53 3 vvl1 Ll1]) (fun cut => ?_) ?_
 ·
  refine TC.seq (TC.region (TO.assign rfl dc rfl (TO.nil (TX.next (TC.seq (TC.region (TO.assign rfl dc rfl (TO.nil (TX.next (cut (TC.seq (TC.region (TO.move rfl dc rfl ?_)))))))))))))
  refine TO.lenVw hwl1 rfl dc rfl Try.underlying49 (TO.move rfl dc rfl (TO.nil (TX.next (TC.block ?_))))
  refine TC.loopD (β := Nat × ByteArray × Int) (fun b => loopG (fun _ _ => none) (ref04_Text_s1 l1 j1) b.1 b.2.1 b.2.2 = some r) (fun b => []) (fun b => [(3, .string b.2.1), (6, vl1), (7, .int .i64 (l1.length : Int)), (8, .int .i64 b.2.2)]) (fun b => [vec enc_Gref04_Item 53 3 vvl1 Ll1]) (fun b => b.1) (fuel, (⟨#[]⟩ : ByteArray), 0) h rfl (Sbs.cons rfl (Sbs.cons rfl (Sbs.cons rfl (Sbs.cons rfl (Sbs.nil))))) (Splits.of [0] kr rfl) ?_
  rintro ⟨n1, s4, x3⟩ h
  cases n1 with
  | zero => exact noneE h
  | succ n1 =>
   obtain ⟨ag1, hag1⟩ : ∃ ag, ag = loopG (fun _ _ => none) (ref04_Text_s1 l1 j1) n1 := ⟨_, rfl⟩
   have h : ref04_Text_s1 l1 j1 ag1 s4 x3 = some r := by rw [hag1]; exact h
   unfold ref04_Text_s1 at h
   show TC _ _ _ _ _ ([]) _ _ [(3, .string s4), (6, vl1), (7, .int .i64 (l1.length : Int)), (8, .int .i64 x3)] [vec enc_Gref04_Item 53 3 vvl1 Ll1]
   refine TC.seq (TC.region (TO.bin rfl dc rfl rfl bin_lss (TO.nil (TX.next (TC.seq ?_)))))
   refine TC.condB rfl (fun hb1 => ?_) (fun hb1 => ?_)
   ·
    have h := condT hb1 h
    refine TC.skip (TX.next (TC.seq (TC.block (TC.seq (TC.region ?_)))))
    obtain ⟨q1, hq1, h⟩ := andE h
    refine TO.indexVw hwl1 hq1 Try.underlying49 sz_53 rfl dc rfl rfl rfl (TO.loadsVec (i := kl1 + (x3 : Int).toNat) (j := 0) (k := 0) (q := q1) (cs := [.int .i32 q1.Rune, .string q1.Text, .int .i64 q1.At]) rw_53 enc_Gref04_Item_len rfl dc rfl rfl (Vw.get hwl1 hq1) rfl rfl rfl ?_)
    refine TO.alloc zr_53 rfl dc (fun b1 => ?_)
    refine TO.stores (k := 1) (vs := [.int .i32 q1.Rune, .string q1.Text, .int .i64 q1.At]) (l' := [.int .i32 q1.Rune, .string q1.Text, .int .i64 q1.At]) sz_53 rfl rfl rfl rfl rfl (show _ ≤ _ by simp) rfl rfl ?_
    show TO _ _ _ _ _ _ _ _ _ _ [vec enc_Gref04_Item 53 3 vvl1 Ll1, cells b1 [.int .i32 q1.Rune, .string q1.Text, .int .i64 q1.At] 53]
    refine TO.nil (TX.next (TC.region (TO.move rfl dc rfl (TO.fieldAddr fl_53_1 rfl dc rfl (show _ = 1 from rfl) (TO.load (k := 1) sc_9 rfl dc rfl rfl rfl ?_)))))
    obtain ⟨hg1, h⟩ := grdE h
    refine TO.bin rfl dc rfl rfl (bin_sadd hg1) (TO.assign rfl dc rfl (TO.nil (TX.blockNormal (TX.next (TC.region ?_)))))
    obtain ⟨hg2, h⟩ := grdE h
    refine TO.bin rfl dc rfl rfl (bin_add (r := x3 + 1) (IntWalk.i64_in _ hg2)) (TO.move rfl dc rfl (TO.nil ?_))
    subst hag1
    exact TX.againD (n1, s4 ++ q1.Text, x3 + 1) h (Nat.lt_succ_self _) rfl (Sbs.cons rfl (Sbs.cons rfl (Sbs.cons rfl (Sbs.cons rfl (Sbs.nil))))) (Splits.of [0] kr rfl)
   ·
    have h := condF hb1 h
    refine TC.exit (TX.thenExit (TX.thenExit (TX.blockHere ?_)))
    exact TX.meetD s4 h rfl (Sbs.cons rfl (Sbs.nil)) (Splits.of [0] kr rfl)
 ·
  rintro s1 h
  rw [hj1] at h
  show TC _ _ _ _ _ ([]) _ _ [(3, .string s1)] [vec enc_Gref04_Item 53 3 vvl1 Ll1]
  refine TC.seq (TC.region (TO.move rfl dc rfl (TO.assign rfl dc rfl (TO.nil (TX.next (TC.ret ?_))))))
  cases h
  exact TX.fin (rs := [.tmp 2]) () (.inl rfl) Try.results53 (.cons (.tmp rfl) .nil) rfl (Splits.of [0] kr rfl)
def ref04_of_v (r1 : Int) (x1 : Gref04_Item) : Option Gref04_Item := andThen (ref01_Encode_v r1) fun (r2 : ByteArray) => some (⟨r1, r2, x1.At⟩ : Gref04_Item)
set_option maxRecDepth 100000 in
set_option maxHeartbeats 4000000 in
theorem ref04_of_fn {r1 : Int} {x1 : Gref04_Item} {r : Gref04_Item} (h : ref04_of_v r1 x1 = some r) : FnP Try.prog 97 [.int .i32 r1, .agg #[.int .i32 x1.Rune, .string x1.Text, .int .i64 x1.At]] (.agg #[.int .i32 r.Rune, .string r.Text, .int .i64 r.At]) := by
 unfold ref04_of_v at h
 refine FnP.intro Try.func97 rfl Try.ntmps97 (by simp) ?_
 intro w0 K
 refine TC.seq (TC.region ?_)
 refine TO.box rfl dc rfl (fun b1 => ?_)
 refine TO.alloc zr_53 rfl dc (fun b2 => ?_)
 show TO _ _ _ _ _ _ _ _ _ _ [cells b1 [.int .i32 x1.Rune, .string x1.Text, .int .i64 x1.At] 53, cells b2 [.int .i32 0, .string ByteArray.empty, .int .i64 0] 53]
 refine TO.nil (TX.next (TC.seq ?_))
 obtain ⟨r2, hq1, h⟩ := andE h
 refine TC.drawN 5 [(0, 5, .int .i32 r1), (1, 6, .int .i32 r1), (2, 7, .string r2), (3, 8, .pointer (some ⟨b1, 2, none⟩)), (4, 9, .int .i64 x1.At)] mixed kr kr dc (by rfl) kr kr (DrawPre.cons ?_ (DrawPre.cons ?_ (DrawPre.cons ?_ (DrawPre.cons ?_ (DrawPre.cons ?_ DrawPre.nil))))) ?_
 ·
  intro D hn hd hcl hu hi
  refine TO.move rfl dc (dl_old (by rfl) rfl) ?_
  exact TX.quiet 0 hu hi rfl
 ·
  intro D hn hd hcl hu hi
  refine TO.move rfl dc (dl_old (by rfl) rfl) ?_
  exact TX.quiet 1 hu hi rfl
 ·
  intro D hn hd hcl hu hi
  refine TO.callP (v := .string r2) (vs := [.int .i32 r1]) rfl dc rfl (evL.cons (dl_lookup (m := 1) hu rfl (hd 1 dc)) evL.nil) rfl en_91 (ref01_Encode_fn hq1) ?_
  exact TX.quiet 2 hu hi rfl
 ·
  intro D hn hd hcl hu hi
  refine TO.fieldAddr fl_53_2 rfl dc (dl_old (by rfl) rfl) (show _ = 2 from rfl) ?_
  exact TX.quiet 3 hu hi rfl
 ·
  intro D hn hd hcl hu hi
  refine TO.load (k := 0) sc_3 rfl dc (dl_lookup (m := 3) hu rfl (hd 3 dc)) rfl rfl ?_
  exact TX.quiet 4 hu hi rfl
 refine TO.build (v := .agg #[.int .i32 r1, .string r2, .int .i64 x1.At]) (ps := [(0, .tmp 5), (1, .tmp 7), (2, .tmp 9)]) rfl dc rfl (fun _ => by kernel_rfl) ?_
 refine TO.stores (k := 1) (vs := [.int .i32 r1, .string r2, .int .i64 x1.At]) (l' := [.int .i32 r1, .string r2, .int .i64 x1.At]) sz_53 rfl rfl rfl rfl rfl (show _ ≤ _ by simp) rfl rfl (TO.nil (TX.next (TC.ret ?_)))
 cases h
 exact TX.fin (rs := [.cell 4 53]) () (.inl rfl) Try.results97 (.cons (.cells rw_53 (k := 1) rfl rfl rfl) .nil) rfl Splits.nil
def ref04_marks_s1 (l1 : List Gref04_Item) (j1 : Int → Option Int) (ag1 : Int → Option Int) (n4 : Int) : Option Int := bcond (decide ((n4 : Int) < (l1.length : Int))) ( andThen (getO l1 n4) fun (q1 : Gref04_Item) => andThen (ref04_Item_mark_v q1) fun (r1 : Bool) => bcond (r1) ( grd (I64 (n4 + 1)) <| ag1 (n4 + 1)
) ( j1 n4
)
) ( j1 n4
)
def ref04_marks_v (l1 : List Gref04_Item) : Option Int := joinK (fun (j1 : Int → Option Int) => loopG (fun _ => none) (ref04_marks_s1 l1 j1) fuel 0
) (fun (n1 : Int) => some n1
)
set_option maxRecDepth 100000 in
set_option maxHeartbeats 4000000 in
theorem ref04_marks_fn {vvl1 vl1 : Value} {Ll1 : List Gref04_Item} {kl1 : Nat} {l1 : List Gref04_Item} (hwl1 : Vw vvl1 Ll1 3 kl1 vl1 l1) {r : Int} (h : ref04_marks_v l1 = some r) : Fn Try.prog 90 [vl1] [vec enc_Gref04_Item 53 3 vvl1 Ll1] (fun _b : Unit => .int .i64 r) (fun _b => [vec enc_Gref04_Item 53 3 vvl1 Ll1]) := by
 unfold ref04_marks_v at h
 refine Fn.intro Try.func90 rfl Try.ntmps90 (by simp) ?_
 intro w0 K
 obtain ⟨j1, hj1, h⟩ := joinE h
 refine TC.cutN (β := Int) 2 rfl (fun b => j1 b = some r) (fun b => []) (fun b => [(3, .int .i64 b)]) (fun b => [vec enc_Gref04_Item 53 3 vvl1 Ll1]) (fun cut => ?_) ?_
 ·
  refine TC.seq (TC.region (TO.assign rfl dc rfl (TO.nil (TX.next (TC.seq (TC.region (TO.assign rfl dc rfl (TO.nil (TX.next (cut (TC.block ?_)))))))))))
  refine TC.loopD (β := Nat × Int) (fun b => loopG (fun _ => none) (ref04_marks_s1 l1 j1) b.1 b.2 = some r) (fun b => []) (fun b => [(0, vl1), (3, .int .i64 b.2)]) (fun b => [vec enc_Gref04_Item 53 3 vvl1 Ll1]) (fun b => b.1) (fuel, 0) h rfl (Sbs.cons rfl (Sbs.cons rfl (Sbs.nil))) (Splits.of [0] kr rfl) ?_
  rintro ⟨n5, n4⟩ h
  cases n5 with
  | zero => exact noneE h
  | succ n5 =>
   obtain ⟨ag1, hag1⟩ : ∃ ag, ag = loopG (fun _ => none) (ref04_marks_s1 l1 j1) n5 := ⟨_, rfl⟩
   have h : ref04_marks_s1 l1 j1 ag1 n4 = some r := by rw [hag1]; exact h
   unfold ref04_marks_s1 at h
   show TC _ _ _ _ _ ([]) _ _ [(0, vl1), (3, .int .i64 n4)] [vec enc_Gref04_Item 53 3 vvl1 Ll1]
   refine TC.seq (TC.seq (TC.region (TO.move rfl dc rfl (TO.move rfl dc rfl (TO.lenVw hwl1 rfl dc rfl Try.underlying49 (TO.bin rfl dc rfl rfl bin_lss (TO.move rfl dc rfl ?_)))))))
   refine TO.split (s := 8) rfl (fun hb1 => ?_) (fun hb1 => ?_)
   ·
    have h := condT hb1 h
    refine TO.move rfl dc rfl (TO.move rfl dc rfl ?_)
    obtain ⟨q1, hq1, h⟩ := andE h
    refine TO.indexVw hwl1 hq1 Try.underlying49 sz_53 rfl dc rfl rfl rfl (TO.loadsVec (i := kl1 + (n4 : Int).toNat) (j := 0) (k := 0) (q := q1) (cs := [.int .i32 q1.Rune, .string q1.Text, .int .i64 q1.At]) rw_53 enc_Gref04_Item_len rfl dc rfl rfl (Vw.get hwl1 hq1) rfl rfl rfl ?_)
    obtain ⟨r1, hq2, h⟩ := andE h
    refine TO.callP (v := .bool r1) (vs := [.agg #[.int .i32 q1.Rune, .string q1.Text, .int .i64 q1.At]]) rfl dc rfl rfl rfl en_29 (ref04_Item_mark_fn (x1 := q1) hq2) (TO.pick (b := true) rfl dc rfl rfl (TO.nil (TX.next ?_)))
    refine TC.condB rfl (fun hb2 => ?_) (fun hb2 => ?_)
    ·
     have h := condT hb2 h
     refine TC.skip (TX.next (TC.block (TC.region (TO.move rfl dc rfl ?_))))
     obtain ⟨hg1, h⟩ := grdE h
     refine TO.bin rfl dc rfl rfl (bin_add (r := n4 + 1) (IntWalk.i64_in _ hg1)) (TO.assign rfl dc rfl (TO.nil (TX.blockNormal ?_)))
     subst hag1
     exact TX.againD (n5, n4 + 1) h (Nat.lt_succ_self _) rfl (Sbs.cons rfl (Sbs.cons rfl (Sbs.nil))) (Splits.of [0] kr rfl)
    ·
     have h := condF hb2 h
     refine TC.exit (TX.thenExit (TX.thenExit (TX.blockHere ?_)))
     exact TX.meetD n4 h rfl (Sbs.cons rfl (Sbs.nil)) (Splits.of [0] kr rfl)
   ·
    have h := condF hb1 h
    refine TO.skip rfl dc (TO.skip rfl dc (TO.skip rfl dc (TO.skip rfl dc (TO.skip rfl dc (TO.pick (b := false) rfl dc rfl rfl (TO.nil (TX.next (TC.condF rfl (TC.exit (TX.thenExit (TX.thenExit (TX.blockHere ?_))))))))))))
    exact TX.meetD n4 h rfl (Sbs.cons rfl (Sbs.nil)) (Splits.of [0] kr rfl)
 ·
  rintro n1 h
  rw [hj1] at h
  show TC _ _ _ _ _ ([]) _ _ [(3, .int .i64 n1)] [vec enc_Gref04_Item 53 3 vvl1 Ll1]
  refine TC.seq (TC.region (TO.move rfl dc rfl (TO.assign rfl dc rfl (TO.nil (TX.next (TC.ret ?_))))))
  cases h
  exact TX.fin (rs := [.tmp 2]) () (.inl rfl) Try.results90 (.cons (.tmp rfl) .nil) rfl (Splits.of [0] kr rfl)
def ref04_plain_v (r1 : Int) : Option ByteArray := bcond ((r1 : Int) == 223) ( some (⟨#[115, 115]⟩ : ByteArray)
) ( bcond ((r1 : Int) == 230) ( some (⟨#[97, 101]⟩ : ByteArray)
) ( bcond ((r1 : Int) == 248) ( some (⟨#[111]⟩ : ByteArray)
) ( joinK (fun (j1 : Bool → Option ByteArray) => bcond ((r1 : Int) == 240) ( j1 ((r1 : Int) == 240)
) ( j1 ((r1 : Int) == 273)
)
) (fun (x1 : Bool) => bcond (x1) ( some (⟨#[100]⟩ : ByteArray)
) ( bcond ((r1 : Int) == 254) ( some (⟨#[116, 104]⟩ : ByteArray)
) ( bcond ((r1 : Int) == 295) ( some (⟨#[104]⟩ : ByteArray)
) ( bcond ((r1 : Int) == 305) ( some (⟨#[105]⟩ : ByteArray)
) ( bcond ((r1 : Int) == 307) ( some (⟨#[105, 106]⟩ : ByteArray)
) ( bcond ((r1 : Int) == 312) ( some (⟨#[113]⟩ : ByteArray)
) ( joinK (fun (j2 : Bool → Option ByteArray) => bcond ((r1 : Int) == 320) ( j2 ((r1 : Int) == 320)
) ( j2 ((r1 : Int) == 322)
)
) (fun (x2 : Bool) => bcond (x2) ( some (⟨#[108]⟩ : ByteArray)
) ( bcond ((r1 : Int) == 329) ( some (⟨#[110]⟩ : ByteArray)
) ( bcond ((r1 : Int) == 331) ( some (⟨#[110, 103]⟩ : ByteArray)
) ( bcond ((r1 : Int) == 339) ( some (⟨#[111, 101]⟩ : ByteArray)
) ( bcond ((r1 : Int) == 359) ( some (⟨#[116]⟩ : ByteArray)
) ( bcond ((r1 : Int) == 383) ( some (⟨#[115]⟩ : ByteArray)
) ( bcond ((r1 : Int) == 962) ( some (⟨#[207, 131]⟩ : ByteArray)
) ( andThen (ref01_Encode_v r1) fun (r2 : ByteArray) => some r2
)
)
)
)
)
)
)
)
)
)
)
)
)
)
)
)
)
)
set_option maxRecDepth 100000 in
set_option maxHeartbeats 4000000 in
theorem ref04_plain_fn {r1 : Int} {r : ByteArray} (h : ref04_plain_v r1 = some r) : FnP Try.prog 76 [.int .i32 r1] (.string r) := by
 unfold ref04_plain_v at h
 refine FnP.intro Try.func76 rfl Try.ntmps76 (by simp) ?_
 intro w0 K
 refine TC.seq (TC.region (TO.assign rfl dc rfl (TO.nil (TX.next (TC.seq (TC.seq (TC.region (TO.move rfl dc rfl (TO.nil (TX.next (TC.block (TC.seq (TC.region ?_)))))))))))))
 refine TO.bin rfl dc rfl rfl bin_eql (TO.assign rfl dc rfl (TO.nil (TX.next ?_)))
 refine TC.condB rfl (fun hb1 => ?_) (fun hb1 => ?_)
 ·
  have h := condT hb1 h
  refine TC.seq (TC.region (TO.assign rfl dc rfl (TO.nil (TX.next (TC.ret (TX.blockRet (TX.thenRet ?_)))))))
  cases h
  exact TX.fin (rs := [.tmp 2]) () (.inl rfl) Try.results76 (.cons (.tmp rfl) .nil) rfl Splits.nil
 ·
  have h := condF hb1 h
  refine TC.seq (TC.region (TO.bin rfl dc rfl rfl bin_eql (TO.assign rfl dc rfl (TO.nil (TX.next ?_)))))
  refine TC.condB rfl (fun hb2 => ?_) (fun hb2 => ?_)
  ·
   have h := condT hb2 h
   refine TC.seq (TC.region (TO.assign rfl dc rfl (TO.nil (TX.next (TC.ret (TX.blockRet (TX.thenRet ?_)))))))
   cases h
   exact TX.fin (rs := [.tmp 2]) () (.inl rfl) Try.results76 (.cons (.tmp rfl) .nil) rfl Splits.nil
  ·
   have h := condF hb2 h
   refine TC.seq (TC.region (TO.bin rfl dc rfl rfl bin_eql (TO.assign rfl dc rfl (TO.nil (TX.next ?_)))))
   refine TC.condB rfl (fun hb3 => ?_) (fun hb3 => ?_)
   ·
    have h := condT hb3 h
    refine TC.seq (TC.region (TO.assign rfl dc rfl (TO.nil (TX.next (TC.ret (TX.blockRet (TX.thenRet ?_)))))))
    cases h
    exact TX.fin (rs := [.tmp 2]) () (.inl rfl) Try.results76 (.cons (.tmp rfl) .nil) rfl Splits.nil
   ·
    have h := condF hb3 h
    obtain ⟨j1, hj1, h⟩ := joinE h
    refine TC.cutN (β := Bool) 0 rfl (fun b => j1 b = some r) (fun b => []) (fun b => [(0, .int .i32 r1), (3, .int .i32 r1), (10, .bool b)]) (fun b => []) (fun cut => ?_) ?_
    ·
     refine cut (TC.seq (TC.region (TO.bin rfl dc rfl rfl bin_eql (TO.assign rfl dc rfl (TO.nil (TX.next ?_))))))
     refine TC.condB rfl (fun hb4 => ?_) (fun hb4 => ?_)
     ·
      have h := condT hb4 h
      refine TC.skip ?_
      exact TX.meetD ((r1 : Int) == 240) h rfl (Sbs.cons rfl (Sbs.cons rfl (Sbs.cons rfl (Sbs.nil)))) Splits.nil
     ·
      have h := condF hb4 h
      refine TC.region (TO.bin rfl dc rfl rfl bin_eql (TO.assign rfl dc rfl (TO.nil ?_)))
      exact TX.meetD ((r1 : Int) == 273) h rfl (Sbs.cons rfl (Sbs.cons rfl (Sbs.cons rfl (Sbs.nil)))) Splits.nil
    ·
     rintro x1 h
     rw [hj1] at h
     show TC _ _ _ _ _ ([]) _ _ [(0, .int .i32 r1), (3, .int .i32 r1), (10, .bool x1)] []
     refine TC.condB rfl (fun hb5 => ?_) (fun hb5 => ?_)
     ·
      have h := condT hb5 h
      refine TC.seq (TC.region (TO.assign rfl dc rfl (TO.nil (TX.next (TC.ret (TX.blockRet (TX.thenRet ?_)))))))
      cases h
      exact TX.fin (rs := [.tmp 2]) () (.inl rfl) Try.results76 (.cons (.tmp rfl) .nil) rfl Splits.nil
     ·
      have h := condF hb5 h
      refine TC.seq (TC.region (TO.bin rfl dc rfl rfl bin_eql (TO.assign rfl dc rfl (TO.nil (TX.next ?_)))))
      refine TC.condB rfl (fun hb6 => ?_) (fun hb6 => ?_)
      ·
       have h := condT hb6 h
       refine TC.seq (TC.region (TO.assign rfl dc rfl (TO.nil (TX.next (TC.ret (TX.blockRet (TX.thenRet ?_)))))))
       cases h
       exact TX.fin (rs := [.tmp 2]) () (.inl rfl) Try.results76 (.cons (.tmp rfl) .nil) rfl Splits.nil
      ·
       have h := condF hb6 h
       refine TC.seq (TC.region (TO.bin rfl dc rfl rfl bin_eql (TO.assign rfl dc rfl (TO.nil (TX.next ?_)))))
       refine TC.condB rfl (fun hb7 => ?_) (fun hb7 => ?_)
       ·
        have h := condT hb7 h
        refine TC.seq (TC.region (TO.assign rfl dc rfl (TO.nil (TX.next (TC.ret (TX.blockRet (TX.thenRet ?_)))))))
        cases h
        exact TX.fin (rs := [.tmp 2]) () (.inl rfl) Try.results76 (.cons (.tmp rfl) .nil) rfl Splits.nil
       ·
        have h := condF hb7 h
        refine TC.seq (TC.region (TO.bin rfl dc rfl rfl bin_eql (TO.assign rfl dc rfl (TO.nil (TX.next ?_)))))
        refine TC.condB rfl (fun hb8 => ?_) (fun hb8 => ?_)
        ·
         have h := condT hb8 h
         refine TC.seq (TC.region (TO.assign rfl dc rfl (TO.nil (TX.next (TC.ret (TX.blockRet (TX.thenRet ?_)))))))
         cases h
         exact TX.fin (rs := [.tmp 2]) () (.inl rfl) Try.results76 (.cons (.tmp rfl) .nil) rfl Splits.nil
        ·
         have h := condF hb8 h
         refine TC.seq (TC.region (TO.bin rfl dc rfl rfl bin_eql (TO.assign rfl dc rfl (TO.nil (TX.next ?_)))))
         refine TC.condB rfl (fun hb9 => ?_) (fun hb9 => ?_)
         ·
          have h := condT hb9 h
          refine TC.seq (TC.region (TO.assign rfl dc rfl (TO.nil (TX.next (TC.ret (TX.blockRet (TX.thenRet ?_)))))))
          cases h
          exact TX.fin (rs := [.tmp 2]) () (.inl rfl) Try.results76 (.cons (.tmp rfl) .nil) rfl Splits.nil
         ·
          have h := condF hb9 h
          refine TC.seq (TC.region (TO.bin rfl dc rfl rfl bin_eql (TO.assign rfl dc rfl (TO.nil (TX.next ?_)))))
          refine TC.condB rfl (fun hb10 => ?_) (fun hb10 => ?_)
          ·
           have h := condT hb10 h
           refine TC.seq (TC.region (TO.assign rfl dc rfl (TO.nil (TX.next (TC.ret (TX.blockRet (TX.thenRet ?_)))))))
           cases h
           exact TX.fin (rs := [.tmp 2]) () (.inl rfl) Try.results76 (.cons (.tmp rfl) .nil) rfl Splits.nil
          ·
           have h := condF hb10 h
           obtain ⟨j2, hj2, h⟩ := joinE h
           refine TC.cutN (β := Bool) 0 rfl (fun b => j2 b = some r) (fun b => []) (fun b => [(0, .int .i32 r1), (3, .int .i32 r1), (23, .bool b)]) (fun b => []) (fun cut => ?_) ?_
           ·
            refine cut (TC.seq (TC.region (TO.bin rfl dc rfl rfl bin_eql (TO.assign rfl dc rfl (TO.nil (TX.next ?_))))))
            refine TC.condB rfl (fun hb11 => ?_) (fun hb11 => ?_)
            ·
             have h := condT hb11 h
             refine TC.skip ?_
             exact TX.meetD ((r1 : Int) == 320) h rfl (Sbs.cons rfl (Sbs.cons rfl (Sbs.cons rfl (Sbs.nil)))) Splits.nil
            ·
             have h := condF hb11 h
             refine TC.region (TO.bin rfl dc rfl rfl bin_eql (TO.assign rfl dc rfl (TO.nil ?_)))
             exact TX.meetD ((r1 : Int) == 322) h rfl (Sbs.cons rfl (Sbs.cons rfl (Sbs.cons rfl (Sbs.nil)))) Splits.nil
           ·
            rintro x2 h
            rw [hj2] at h
            show TC _ _ _ _ _ ([]) _ _ [(0, .int .i32 r1), (3, .int .i32 r1), (23, .bool x2)] []
            refine TC.condB rfl (fun hb12 => ?_) (fun hb12 => ?_)
            ·
             have h := condT hb12 h
             refine TC.seq (TC.region (TO.assign rfl dc rfl (TO.nil (TX.next (TC.ret (TX.blockRet (TX.thenRet ?_)))))))
             cases h
             exact TX.fin (rs := [.tmp 2]) () (.inl rfl) Try.results76 (.cons (.tmp rfl) .nil) rfl Splits.nil
            ·
             have h := condF hb12 h
             refine TC.seq (TC.region (TO.bin rfl dc rfl rfl bin_eql (TO.assign rfl dc rfl (TO.nil (TX.next ?_)))))
             refine TC.condB rfl (fun hb13 => ?_) (fun hb13 => ?_)
             ·
              have h := condT hb13 h
              refine TC.seq (TC.region (TO.assign rfl dc rfl (TO.nil (TX.next (TC.ret (TX.blockRet (TX.thenRet ?_)))))))
              cases h
              exact TX.fin (rs := [.tmp 2]) () (.inl rfl) Try.results76 (.cons (.tmp rfl) .nil) rfl Splits.nil
             ·
              have h := condF hb13 h
              refine TC.seq (TC.region (TO.bin rfl dc rfl rfl bin_eql (TO.assign rfl dc rfl (TO.nil (TX.next ?_)))))
              refine TC.condB rfl (fun hb14 => ?_) (fun hb14 => ?_)
              ·
               have h := condT hb14 h
               refine TC.seq (TC.region (TO.assign rfl dc rfl (TO.nil (TX.next (TC.ret (TX.blockRet (TX.thenRet ?_)))))))
               cases h
               exact TX.fin (rs := [.tmp 2]) () (.inl rfl) Try.results76 (.cons (.tmp rfl) .nil) rfl Splits.nil
              ·
               have h := condF hb14 h
               refine TC.seq (TC.region (TO.bin rfl dc rfl rfl bin_eql (TO.assign rfl dc rfl (TO.nil (TX.next ?_)))))
               refine TC.condB rfl (fun hb15 => ?_) (fun hb15 => ?_)
               ·
                have h := condT hb15 h
                refine TC.seq (TC.region (TO.assign rfl dc rfl (TO.nil (TX.next (TC.ret (TX.blockRet (TX.thenRet ?_)))))))
                cases h
                exact TX.fin (rs := [.tmp 2]) () (.inl rfl) Try.results76 (.cons (.tmp rfl) .nil) rfl Splits.nil
               ·
                have h := condF hb15 h
                refine TC.seq (TC.region (TO.bin rfl dc rfl rfl bin_eql (TO.assign rfl dc rfl (TO.nil (TX.next ?_)))))
                refine TC.condB rfl (fun hb16 => ?_) (fun hb16 => ?_)
                ·
                 have h := condT hb16 h
                 refine TC.seq (TC.region (TO.assign rfl dc rfl (TO.nil (TX.next (TC.ret (TX.blockRet (TX.thenRet ?_)))))))
                 cases h
                 exact TX.fin (rs := [.tmp 2]) () (.inl rfl) Try.results76 (.cons (.tmp rfl) .nil) rfl Splits.nil
                ·
                 have h := condF hb16 h
                 refine TC.seq (TC.region (TO.bin rfl dc rfl rfl bin_eql (TO.assign rfl dc rfl (TO.nil (TX.next ?_)))))
                 refine TC.condB rfl (fun hb17 => ?_) (fun hb17 => ?_)
                 ·
                  have h := condT hb17 h
                  refine TC.seq (TC.region (TO.assign rfl dc rfl (TO.nil (TX.next (TC.ret (TX.blockRet (TX.thenRet ?_)))))))
                  cases h
                  exact TX.fin (rs := [.tmp 2]) () (.inl rfl) Try.results76 (.cons (.tmp rfl) .nil) rfl Splits.nil
                 ·
                  have h := condF hb17 h
                  refine TC.seq (TC.region (TO.bin rfl dc rfl rfl bin_eql (TO.assign rfl dc rfl (TO.nil (TX.next ?_)))))
                  refine TC.condB rfl (fun hb18 => ?_) (fun hb18 => ?_)
                  ·
                   have h := condT hb18 h
                   refine TC.seq (TC.region (TO.assign rfl dc rfl (TO.nil (TX.next (TC.ret (TX.blockRet (TX.thenRet ?_)))))))
                   cases h
                   exact TX.fin (rs := [.tmp 2]) () (.inl rfl) Try.results76 (.cons (.tmp rfl) .nil) rfl Splits.nil
                  ·
                   have h := condF hb18 h
                   refine TC.skip (TX.blockNormal (TX.next (TC.seq (TC.region (TO.move rfl dc rfl ?_)))))
                   obtain ⟨r2, hq1, h⟩ := andE h
                   refine TO.callP (v := .string r2) (vs := [.int .i32 r1]) rfl dc rfl rfl rfl en_91 (ref01_Encode_fn hq1) (TO.assign rfl dc rfl (TO.nil (TX.next (TC.ret ?_))))
                   cases h
                   exact TX.fin (rs := [.tmp 2]) () (.inl rfl) Try.results76 (.cons (.tmp rfl) .nil) rfl Splits.nil
def ref04_apart_s2 (j2 : (List Gref04_Item) → Option (List Gref04_Item)) (q1 : Gref04_Item) (r2 : (List Int)) (ag2 : (List Gref04_Item) → Int → Option (List Gref04_Item)) (out8 : List Gref04_Item) (x6 : Int) : Option (List Gref04_Item) := bcond (decide ((x6 : Int) < (r2.length : Int))) ( andThen (getO r2 x6) fun (q2 : Int) => andThen (ref04_of_v q2 q1) fun (r3 : Gref04_Item) => grd (out8.length + 1 ≤ 2147483648) <| grd (I64 (x6 + 1)) <| ag2 (out8 ++ [r3]) (x6 + 1)
) ( j2 out8
)
def ref04_apart_s1 (l1 : List Gref04_Item) (j1 : (List Gref04_Item) → Option (List Gref04_Item)) (ag1 : (List Gref04_Item) → Int → Option (List Gref04_Item)) (out4 : List Gref04_Item) (x3 : Int) : Option (List Gref04_Item) := bcond (decide ((x3 : Int) < (l1.length : Int))) ( joinK (fun (j2 : (List Gref04_Item) → Option (List Gref04_Item)) => andThen (getO l1 x3) fun (q1 : Gref04_Item) => andThen (ref04_Item_letter_v q1) fun (r1 : Bool) => bcond (!r1) ( grd (out4.length + 1 ≤ 2147483648) <| j2 (out4 ++ [q1])
) ( andThen (ref04_Split_v q1.Rune) fun (r2 : (List Int)) => loopG (fun _ _ => none) (ref04_apart_s2 j2 q1 r2) fuel out4 0
)
) (fun (out5 : List Gref04_Item) => grd (I64 (x3 + 1)) <| ag1 out5 (x3 + 1)
)
) ( j1 out4
)
def ref04_apart_s4 (out12 : List Gref04_Item) (x9 : Int) (j5 : Nat → (List Gref04_Item) → (List Gref04_Item) → (List Gref04_Item) → Option (List Gref04_Item)) (r5 : Int) (ag4 : (List Gref04_Item) → (List Gref04_Item) → Int → Option (List Gref04_Item)) (low5 : List Gref04_Item) (high4 : List Gref04_Item) (x12 : Int) : Option (List Gref04_Item) := bcond (decide ((x12 : Int) < ((cutL out12 (x9 + 1) ((x9 + 1) + r5)).length : Int))) ( joinK (fun (j6 : (List Gref04_Item) → (List Gref04_Item) → Option (List Gref04_Item)) => andThen (getO (cutL out12 (x9 + 1) ((x9 + 1) + r5)) x12) fun (q4 : Gref04_Item) => andThen (ref04_Low_v q4.Rune) fun (r6 : Bool) => bcond (r6) ( grd (low5.length + 1 ≤ 2147483648) <| j6 (low5 ++ [q4]) high4
) ( grd (high4.length + 1 ≤ 2147483648) <| j6 low5 (high4 ++ [q4])
)
) (fun (low6 : List Gref04_Item) (high5 : List Gref04_Item) => grd (I64 (x12 + 1)) <| ag4 low6 high5 (x12 + 1)
)
) ( j5 (0 + (x9 + 1 : Int).toNat) (cutL out12 (x9 + 1) ((x9 + 1) + r5)) low5 high4
)
def ref04_apart_s3 (out1 : List Gref04_Item) (j3 : (List Gref04_Item) → Option (List Gref04_Item)) (ag3 : (List Gref04_Item) → Int → Option (List Gref04_Item)) (out12 : List Gref04_Item) (x9 : Int) : Option (List Gref04_Item) := bcond (decide ((x9 : Int) < (out1.length : Int))) ( joinK (fun (j4 : (List Gref04_Item) → Option (List Gref04_Item)) => andThen (getO out12 x9) fun (q3 : Gref04_Item) => andThen (ref04_Item_letter_v q3) fun (r4 : Bool) => bcond (!r4) ( j4 out12
) ( joinK (fun (j5 : Nat → (List Gref04_Item) → (List Gref04_Item) → (List Gref04_Item) → Option (List Gref04_Item)) => grd (I64 (x9 + 1)) <| grd (I64 (x9 + 1)) <| grd (I64 (x9 + 1)) <| grd (0 ≤ (x9 + 1 : Int) ∧ (x9 + 1 : Int) ≤ (out12.length : Int) ∧ ((out12.length : Int) : Int) ≤ (out12.length : Int)) <| andThen (ref04_marks_v (cutL out12 (x9 + 1) (out12.length : Int))) fun (r5 : Int) => grd (I64 ((x9 + 1) + r5)) <| grd (0 ≤ (x9 + 1 : Int) ∧ (x9 + 1 : Int) ≤ ((x9 + 1) + r5) ∧ ((x9 + 1) + r5 : Int) ≤ (out12.length : Int)) <| loopG (fun _ _ _ => none) (ref04_apart_s4 out12 x9 j5 r5) fuel ([] : List Gref04_Item) ([] : List Gref04_Item) 0
) (fun (at1 : Nat) (row1 : List Gref04_Item) (low1 : List Gref04_Item) (high1 : List Gref04_Item) => grd (low1.length + high1.length ≤ 2147483648) <| j4 (overL out12 at1 ((low1 ++ high1).take row1.length))
)
)
) (fun (out13 : List Gref04_Item) => grd (I64 (x9 + 1)) <| ag3 out13 (x9 + 1)
)
) ( j3 out12
)
def ref04_apart_v (l1 : List Gref04_Item) : Option (List Gref04_Item) := joinK (fun (j1 : (List Gref04_Item) → Option (List Gref04_Item)) => loopG (fun _ _ => none) (ref04_apart_s1 l1 j1) fuel ([] : List Gref04_Item) 0
) (fun (out1 : List Gref04_Item) => joinK (fun (j3 : (List Gref04_Item) → Option (List Gref04_Item)) => loopG (fun _ _ => none) (ref04_apart_s3 out1 j3) fuel out1 0
) (fun (out9 : List Gref04_Item) => some out9
)
)
set_option maxRecDepth 100000 in
set_option maxHeartbeats 4000000 in
theorem ref04_apart_fn {vvl1 vl1 : Value} {Ll1 : List Gref04_Item} {kl1 : Nat} {l1 : List Gref04_Item} (hwl1 : Vw vvl1 Ll1 3 kl1 vl1 l1) {r : (List Gref04_Item)} (h : ref04_apart_v l1 = some r) : Fn Try.prog 89 [vl1] [vec enc_Gref04_Item 53 3 vvl1 Ll1] (fun v0 : Value => v0) (fun v0 => [vec enc_Gref04_Item 53 3 vvl1 Ll1, vec enc_Gref04_Item 53 3 v0 r]) := by
 unfold ref04_apart_v at h
 refine Fn.intro Try.func89 rfl Try.ntmps89 (by simp) ?_
 intro w0 K
 obtain ⟨j1, hj1, h⟩ := joinE h
 refine TC.cutN (β := (List Gref04_Item) × Value) 2 rfl (fun b => j1 b.1 = some r) (fun b => []) (fun b => [(3, b.2)]) (fun b => [vec enc_Gref04_Item 53 3 vvl1 Ll1, vec enc_Gref04_Item 53 3 b.2 b.1]) (fun cut => ?_) ?_
 ·
  refine TC.seq (TC.region (TO.assign rfl dc rfl (TO.nil (TX.next (TC.seq (TC.region (TO.assign rfl dc rfl (TO.nil (TX.next (cut (TC.seq (TC.region (TO.move rfl dc rfl ?_)))))))))))))
  refine TO.lenVw hwl1 rfl dc rfl Try.underlying49 (TO.move rfl dc rfl (TO.nil (TX.next (TC.block (TC.newVec (enc := enc_Gref04_Item) (e := 53) (size := 3) ?_)))))
  show TC _ _ _ _ _ _ _ _ _ [vec enc_Gref04_Item 53 3 vvl1 Ll1, vec enc_Gref04_Item 53 3 (.slice none 0 0) ([] : List Gref04_Item)]
  refine TC.loopD (β := Nat × (List Gref04_Item) × Int × Value) (fun b => loopG (fun _ _ => none) (ref04_apart_s1 l1 j1) b.1 b.2.1 b.2.2.1 = some r) (fun b => []) (fun b => [(3, b.2.2.2), (15, vl1), (16, .int .i64 (l1.length : Int)), (17, .int .i64 b.2.2.1)]) (fun b => [vec enc_Gref04_Item 53 3 vvl1 Ll1, vec enc_Gref04_Item 53 3 b.2.2.2 b.2.1]) (fun b => b.1) (fuel, ([] : List Gref04_Item), 0, (.slice none 0 0)) h rfl (Sbs.cons rfl (Sbs.cons rfl (Sbs.cons rfl (Sbs.cons rfl (Sbs.nil))))) (Splits.of [0, 1] kr rfl) ?_
  rintro ⟨n1, out4, x3, v4⟩ h
  cases n1 with
  | zero => exact noneE h
  | succ n1 =>
   obtain ⟨ag1, hag1⟩ : ∃ ag, ag = loopG (fun _ _ => none) (ref04_apart_s1 l1 j1) n1 := ⟨_, rfl⟩
   have h : ref04_apart_s1 l1 j1 ag1 out4 x3 = some r := by rw [hag1]; exact h
   unfold ref04_apart_s1 at h
   show TC _ _ _ _ _ ([]) _ _ [(3, v4), (15, vl1), (16, .int .i64 (l1.length : Int)), (17, .int .i64 x3)] [vec enc_Gref04_Item 53 3 vvl1 Ll1, vec enc_Gref04_Item 53 3 v4 out4]
   refine TC.seq (TC.region (TO.bin rfl dc rfl rfl bin_lss (TO.nil (TX.next (TC.seq ?_)))))
   refine TC.condB rfl (fun hb1 => ?_) (fun hb1 => ?_)
   ·
    have h := condT hb1 h
    refine TC.skip (TX.next ?_)
    obtain ⟨j2, hj2, h⟩ := joinE h
    refine TC.cutN (β := (List Gref04_Item) × Value) 0 rfl (fun b => j2 b.1 = some r) (fun b => []) (fun b => [(3, b.2), (15, vl1), (16, .int .i64 (l1.length : Int)), (17, .int .i64 x3)]) (fun b => [vec enc_Gref04_Item 53 3 vvl1 Ll1, vec enc_Gref04_Item 53 3 b.2 b.1]) (fun cut => ?_) ?_
    ·
     refine cut (TC.block (TC.seq (TC.region ?_)))
     obtain ⟨q1, hq1, h⟩ := andE h
     refine TO.indexVw hwl1 hq1 Try.underlying49 sz_53 rfl dc rfl rfl rfl (TO.loadsVec (i := kl1 + (x3 : Int).toNat) (j := 0) (k := 0) (q := q1) (cs := [.int .i32 q1.Rune, .string q1.Text, .int .i64 q1.At]) rw_53 enc_Gref04_Item_len rfl dc rfl rfl (Vw.get hwl1 hq1) rfl rfl rfl ?_)
     refine TO.alloc zr_53 rfl dc (fun b1 => ?_)
     refine TO.stores (k := 2) (vs := [.int .i32 q1.Rune, .string q1.Text, .int .i64 q1.At]) (l' := [.int .i32 q1.Rune, .string q1.Text, .int .i64 q1.At]) sz_53 rfl rfl rfl rfl rfl (show _ ≤ _ by simp) rfl rfl ?_
     show TO _ _ _ _ _ _ _ _ _ _ [vec enc_Gref04_Item 53 3 vvl1 Ll1, vec enc_Gref04_Item 53 3 v4 out4, cells b1 [.int .i32 q1.Rune, .string q1.Text, .int .i64 q1.At] 53]
     refine TO.nil (TX.next (TC.seq (TC.seq (TC.region (TO.loads (k := 2) (cs := [.int .i32 q1.Rune, .string q1.Text, .int .i64 q1.At]) rw_53 rfl dc rfl rfl rfl rfl ?_)))))
     obtain ⟨r1, hq2, h⟩ := andE h
     refine TO.callP (v := .bool r1) (vs := [.agg #[.int .i32 q1.Rune, .string q1.Text, .int .i64 q1.At]]) rfl dc rfl rfl rfl en_30 (ref04_Item_letter_fn (x1 := q1) hq2) (TO.un rfl dc rfl un_not (TO.nil (TX.next ?_)))
     refine TC.condB rfl (fun hb2 => ?_) (fun hb2 => ?_)
     ·
      have h := condT hb2 h
      refine TC.seq (TC.region (TO.move rfl dc rfl (TO.loads (k := 2) (cs := [.int .i32 q1.Rune, .string q1.Text, .int .i64 q1.At]) rw_53 rfl dc rfl rfl rfl rfl ?_)))
      refine TO.buildSlice (cs := [.int .i32 q1.Rune, .string q1.Text, .int .i64 q1.At]) (te := 53) (ps := [(0, .tmp 25)]) rfl dc rfl (fun _ => by kernel_rfl) (fun b2 => ?_)
      obtain ⟨hg1, h⟩ := grdE h
      refine TO.appendVec (k := 1) (k2 := 3) (ys := [q1]) Try.underlying49 el_53 enc_Gref04_Item_len enc_Gref04_Item_one rfl dc rfl rfl rfl rfl rfl rfl hg1 (fun v6 => ?_)
      show TO _ _ _ _ _ _ _ _ _ _ [vec enc_Gref04_Item 53 3 vvl1 Ll1, vec enc_Gref04_Item 53 3 v6 (out4 ++ [q1]), cells b1 [.int .i32 q1.Rune, .string q1.Text, .int .i64 q1.At] 53, cells b2 [.int .i32 q1.Rune, .string q1.Text, .int .i64 q1.At] 53]
      refine TO.assign rfl dc rfl (TO.nil (TX.next (TC.exit (TX.thenExit (TX.blockHere ?_)))))
      exact TX.meetD (out4 ++ [q1], v6) h rfl (Sbs.cons rfl (Sbs.cons rfl (Sbs.cons rfl (Sbs.cons rfl (Sbs.nil))))) (Splits.of [0, 1] kr rfl)
     ·
      have h := condF hb2 h
      refine TC.skip (TX.next (TC.seq (TC.region (TO.fieldAddr fl_53_0 rfl dc rfl (show _ = 0 from rfl) (TO.load (k := 2) sc_21 rfl dc rfl rfl rfl ?_)))))
      obtain ⟨r2, hq3, h⟩ := andE h
      refine TO.call (vs := [.int .i32 q1.Rune]) rfl dc rfl rfl rfl en_96 (ref04_Split_fn hq3) Splits.nil ?_
      rintro v7
      show TO _ _ _ _ _ _ _ _ _ _ [vec enc_Gref04_Item 53 3 vvl1 Ll1, vec enc_Gref04_Item 53 3 v4 out4, cells b1 [.int .i32 q1.Rune, .string q1.Text, .int .i64 q1.At] 53, vec (encI (.i32)) 21 1 v7 r2]
      refine TO.lenVec (k := 3) rfl dc rfl rfl Try.underlying44 (TO.move rfl dc rfl (TO.nil (TX.next (TC.block ?_))))
      refine TC.loopD (β := Nat × (List Gref04_Item) × Int × Value) (fun b => loopG (fun _ _ => none) (ref04_apart_s2 j2 q1 r2) b.1 b.2.1 b.2.2.1 = some r) (fun b => []) (fun b => [(3, b.2.2.2), (5, .pointer (some ⟨b1, 0, none⟩)), (15, vl1), (16, .int .i64 (l1.length : Int)), (17, .int .i64 x3), (30, v7), (31, .int .i64 (r2.length : Int)), (32, .int .i64 b.2.2.1)]) (fun b => [vec enc_Gref04_Item 53 3 vvl1 Ll1, vec enc_Gref04_Item 53 3 b.2.2.2 b.2.1, cells b1 [.int .i32 q1.Rune, .string q1.Text, .int .i64 q1.At] 53, vec (encI (.i32)) 21 1 v7 r2]) (fun b => b.1) (fuel, out4, 0, v4) h rfl (Sbs.cons rfl (Sbs.cons rfl (Sbs.cons rfl (Sbs.cons rfl (Sbs.cons rfl (Sbs.cons rfl (Sbs.cons rfl (Sbs.cons rfl (Sbs.nil))))))))) (Splits.of [0, 1, 2, 3] kr rfl) ?_
      rintro ⟨n2, out8, x6, v10⟩ h
      cases n2 with
      | zero => exact noneE h
      | succ n2 =>
       obtain ⟨ag2, hag2⟩ : ∃ ag, ag = loopG (fun _ _ => none) (ref04_apart_s2 j2 q1 r2) n2 := ⟨_, rfl⟩
       have h : ref04_apart_s2 j2 q1 r2 ag2 out8 x6 = some r := by rw [hag2]; exact h
       unfold ref04_apart_s2 at h
       show TC _ _ _ _ _ ([]) _ _ [(3, v10), (5, .pointer (some ⟨b1, 0, none⟩)), (15, vl1), (16, .int .i64 (l1.length : Int)), (17, .int .i64 x3), (30, v7), (31, .int .i64 (r2.length : Int)), (32, .int .i64 x6)] [vec enc_Gref04_Item 53 3 vvl1 Ll1, vec enc_Gref04_Item 53 3 v10 out8, cells b1 [.int .i32 q1.Rune, .string q1.Text, .int .i64 q1.At] 53, vec (encI (.i32)) 21 1 v7 r2]
       refine TC.seq (TC.region (TO.bin rfl dc rfl rfl bin_lss (TO.nil (TX.next (TC.seq ?_)))))
       refine TC.condB rfl (fun hb3 => ?_) (fun hb3 => ?_)
       ·
        have h := condT hb3 h
        refine TC.skip (TX.next (TC.seq (TC.block (TC.seq (TC.region ?_)))))
        obtain ⟨q2, hq4, h⟩ := andE h
        refine TO.indexVecI (k := 3) hq4 Try.underlying44 sz_21 rfl dc rfl rfl rfl rfl (TO.loadVec (i := (x6 : Int).toNat) (j := 0) (k := 3) (q := q2) sc_21 encI_len rfl dc rfl rfl (getO_get hq4) rfl dc rfl (TO.assign rfl dc rfl (TO.nil (TX.next (TC.region (TO.move rfl dc rfl (TO.move rfl dc rfl (TO.loads (k := 2) (cs := [.int .i32 q1.Rune, .string q1.Text, .int .i64 q1.At]) rw_53 rfl dc rfl rfl rfl rfl ?_))))))))
        obtain ⟨r3, hq5, h⟩ := andE h
        refine TO.callP (v := .agg #[.int .i32 r3.Rune, .string r3.Text, .int .i64 r3.At]) (vs := [.int .i32 q2, .agg #[.int .i32 q1.Rune, .string q1.Text, .int .i64 q1.At]]) rfl dc rfl rfl rfl en_97 (ref04_of_fn (x1 := q1) hq5) ?_
        refine TO.buildSlice (cs := [.int .i32 r3.Rune, .string r3.Text, .int .i64 r3.At]) (te := 53) (ps := [(0, .tmp 39)]) rfl dc rfl (fun _ => by kernel_rfl) (fun b3 => ?_)
        obtain ⟨hg2, h⟩ := grdE h
        refine TO.appendVec (k := 1) (k2 := 4) (ys := [r3]) Try.underlying49 el_53 enc_Gref04_Item_len enc_Gref04_Item_one rfl dc rfl rfl rfl rfl rfl rfl hg2 (fun v11 => ?_)
        show TO _ _ _ _ _ _ _ _ _ _ [vec enc_Gref04_Item 53 3 vvl1 Ll1, vec enc_Gref04_Item 53 3 v11 (out8 ++ [r3]), cells b1 [.int .i32 q1.Rune, .string q1.Text, .int .i64 q1.At] 53, vec (encI (.i32)) 21 1 v7 r2, cells b3 [.int .i32 r3.Rune, .string r3.Text, .int .i64 r3.At] 53]
        refine TO.assign rfl dc rfl (TO.nil (TX.blockNormal (TX.next (TC.region ?_))))
        obtain ⟨hg3, h⟩ := grdE h
        refine TO.bin rfl dc rfl rfl (bin_add (r := x6 + 1) (IntWalk.i64_in _ hg3)) (TO.move rfl dc rfl (TO.nil ?_))
        subst hag2
        exact TX.againD (n2, out8 ++ [r3], x6 + 1, v11) h (Nat.lt_succ_self _) rfl (Sbs.cons rfl (Sbs.cons rfl (Sbs.cons rfl (Sbs.cons rfl (Sbs.cons rfl (Sbs.cons rfl (Sbs.cons rfl (Sbs.cons rfl (Sbs.nil))))))))) (Splits.of [0, 1, 2, 3] kr rfl)
       ·
        have h := condF hb3 h
        refine TC.exit (TX.thenExit (TX.thenExit (TX.blockHere (TX.blockNormal ?_))))
        exact TX.meetD (out8, v10) h rfl (Sbs.cons rfl (Sbs.cons rfl (Sbs.cons rfl (Sbs.cons rfl (Sbs.nil))))) (Splits.of [0, 1] kr rfl)
    ·
     rintro ⟨out5, v5⟩ h
     rw [hj2] at h
     show TC _ _ _ _ _ ([]) _ _ [(3, v5), (15, vl1), (16, .int .i64 (l1.length : Int)), (17, .int .i64 x3)] [vec enc_Gref04_Item 53 3 vvl1 Ll1, vec enc_Gref04_Item 53 3 v5 out5]
     refine TC.region ?_
     obtain ⟨hg4, h⟩ := grdE h
     refine TO.bin rfl dc rfl rfl (bin_add (r := x3 + 1) (IntWalk.i64_in _ hg4)) (TO.move rfl dc rfl (TO.nil ?_))
     subst hag1
     exact TX.againD (n1, out5, x3 + 1, v5) h (Nat.lt_succ_self _) rfl (Sbs.cons rfl (Sbs.cons rfl (Sbs.cons rfl (Sbs.cons rfl (Sbs.nil))))) (Splits.of [0, 1] kr rfl)
   ·
    have h := condF hb1 h
    refine TC.exit (TX.thenExit (TX.thenExit (TX.blockHere ?_)))
    exact TX.meetD (out4, v4) h rfl (Sbs.cons rfl (Sbs.nil)) (Splits.of [0, 1] kr rfl)
 ·
  rintro ⟨out1, v1⟩ h
  rw [hj1] at h
  show TC _ _ _ _ _ ([]) _ _ [(3, v1)] [vec enc_Gref04_Item 53 3 vvl1 Ll1, vec enc_Gref04_Item 53 3 v1 out1]
  obtain ⟨j3, hj3, h⟩ := joinE h
  refine TC.cutN (β := (List Gref04_Item)) 0 rfl (fun b => j3 b = some r) (fun b => []) (fun b => [(3, v1)]) (fun b => [vec enc_Gref04_Item 53 3 vvl1 Ll1, vec enc_Gref04_Item 53 3 v1 b]) (fun cut => ?_) ?_
  ·
   refine cut (TC.seq (TC.region (TO.move rfl dc rfl (TO.lenVec (k := 1) rfl dc rfl rfl Try.underlying49 (TO.move rfl dc rfl (TO.nil (TX.next (TC.block ?_))))))))
   refine TC.loopD (β := Nat × (List Gref04_Item) × Int) (fun b => loopG (fun _ _ => none) (ref04_apart_s3 out1 j3) b.1 b.2.1 b.2.2 = some r) (fun b => []) (fun b => [(3, v1), (44, v1), (45, .int .i64 (out1.length : Int)), (46, .int .i64 b.2.2)]) (fun b => [vec enc_Gref04_Item 53 3 vvl1 Ll1, vec enc_Gref04_Item 53 3 v1 b.2.1]) (fun b => b.1) (fuel, out1, 0) h rfl (Sbs.cons rfl (Sbs.cons rfl (Sbs.cons rfl (Sbs.cons rfl (Sbs.nil))))) (Splits.of [0, 1] kr rfl) ?_
   rintro ⟨n3, out12, x9⟩ h
   cases n3 with
   | zero => exact noneE h
   | succ n3 =>
    obtain ⟨ag3, hag3⟩ : ∃ ag, ag = loopG (fun _ _ => none) (ref04_apart_s3 out1 j3) n3 := ⟨_, rfl⟩
    have h : ref04_apart_s3 out1 j3 ag3 out12 x9 = some r := by rw [hag3]; exact h
    unfold ref04_apart_s3 at h
    show TC _ _ _ _ _ ([]) _ _ [(3, v1), (44, v1), (45, .int .i64 (out1.length : Int)), (46, .int .i64 x9)] [vec enc_Gref04_Item 53 3 vvl1 Ll1, vec enc_Gref04_Item 53 3 v1 out12]
    refine TC.seq (TC.region (TO.bin rfl dc rfl rfl bin_lss (TO.nil (TX.next (TC.seq ?_)))))
    refine TC.condB rfl (fun hb4 => ?_) (fun hb4 => ?_)
    ·
     have h := condT hb4 h
     refine TC.skip (TX.next ?_)
     obtain ⟨j4, hj4, h⟩ := joinE h
     refine TC.cutN (β := (List Gref04_Item)) 0 rfl (fun b => j4 b = some r) (fun b => []) (fun b => [(3, v1), (44, v1), (45, .int .i64 (out1.length : Int)), (46, .int .i64 x9)]) (fun b => [vec enc_Gref04_Item 53 3 vvl1 Ll1, vec enc_Gref04_Item 53 3 v1 b]) (fun cut => ?_) ?_
     ·
      refine cut (TC.block (TC.seq (TC.region (TO.move rfl dc rfl ?_))))
      obtain ⟨q3, hq6, h⟩ := andE h
      refine TO.indexVecI (k := 1) hq6 Try.underlying49 sz_53 rfl dc rfl rfl rfl rfl (TO.loadsVec (i := (x9 : Int).toNat) (j := 0) (k := 1) (q := q3) (cs := [.int .i32 q3.Rune, .string q3.Text, .int .i64 q3.At]) rw_53 enc_Gref04_Item_len rfl dc rfl rfl (getO_get hq6) rfl rfl rfl ?_)
      refine TO.alloc zr_53 rfl dc (fun b4 => ?_)
      refine TO.assign rfl dc rfl (TO.stores (k := 2) (vs := [.int .i32 q3.Rune, .string q3.Text, .int .i64 q3.At]) (l' := [.int .i32 q3.Rune, .string q3.Text, .int .i64 q3.At]) sz_53 rfl rfl rfl rfl rfl (show _ ≤ _ by simp) rfl rfl ?_)
      show TO _ _ _ _ _ _ _ _ _ _ [vec enc_Gref04_Item 53 3 vvl1 Ll1, vec enc_Gref04_Item 53 3 v1 out12, cells b4 [.int .i32 q3.Rune, .string q3.Text, .int .i64 q3.At] 53]
      refine TO.nil (TX.next (TC.seq (TC.seq (TC.region (TO.loads (k := 2) (cs := [.int .i32 q3.Rune, .string q3.Text, .int .i64 q3.At]) rw_53 rfl dc rfl rfl rfl rfl ?_)))))
      obtain ⟨r4, hq7, h⟩ := andE h
      refine TO.callP (v := .bool r4) (vs := [.agg #[.int .i32 q3.Rune, .string q3.Text, .int .i64 q3.At]]) rfl dc rfl rfl rfl en_30 (ref04_Item_letter_fn (x1 := q3) hq7) (TO.un rfl dc rfl un_not (TO.nil (TX.next ?_)))
      refine TC.condB rfl (fun hb5 => ?_) (fun hb5 => ?_)
      ·
       have h := condT hb5 h
       refine TC.exit (TX.thenExit (TX.blockHere ?_))
       exact TX.meetD out12 h rfl (Sbs.cons rfl (Sbs.cons rfl (Sbs.cons rfl (Sbs.cons rfl (Sbs.nil))))) (Splits.of [0, 1] kr rfl)
      ·
       have h := condF hb5 h
       refine TC.skip (TX.next ?_)
       obtain ⟨j5, hj5, h⟩ := joinE h
       refine TC.cutN (β := Nat × (List Gref04_Item) × (List Gref04_Item) × (List Gref04_Item) × Value × Value × Value) 2 rfl (fun b => j5 b.1 b.2.1 b.2.2.1 b.2.2.2.1 = some r ∧ Vw v1 out12 3 b.1 b.2.2.2.2.1 b.2.1) (fun b => []) (fun b => [(3, v1), (10, b.2.2.2.2.1), (11, b.2.2.2.2.2.1), (12, b.2.2.2.2.2.2), (44, v1), (45, .int .i64 (out1.length : Int)), (46, .int .i64 x9)]) (fun b => [vec enc_Gref04_Item 53 3 vvl1 Ll1, vec enc_Gref04_Item 53 3 v1 out12, vec enc_Gref04_Item 53 3 b.2.2.2.2.2.1 b.2.2.1, vec enc_Gref04_Item 53 3 b.2.2.2.2.2.2 b.2.2.2.1]) (fun cut => ?_) ?_
       ·
        refine TC.seq (TC.region (TO.move rfl dc rfl (TO.move rfl dc rfl ?_)))
        obtain ⟨hg5, h⟩ := grdE h
        refine TO.bin rfl dc rfl rfl (bin_add (r := x9 + 1) (IntWalk.i64_in _ hg5)) (TO.move rfl dc rfl ?_)
        obtain ⟨hg6, h⟩ := grdE h
        refine TO.bin rfl dc rfl rfl (bin_add (r := x9 + 1) (IntWalk.i64_in _ hg6)) (TO.move rfl dc rfl (TO.move rfl dc rfl ?_))
        obtain ⟨hg7, h⟩ := grdE h
        refine TO.bin rfl dc rfl rfl (bin_add (r := x9 + 1) (IntWalk.i64_in _ hg7)) ?_
        refine TO.vecVw (k := 1) rfl (fun hw2 => ?_)
        obtain ⟨hg8, h⟩ := grdE h
        obtain ⟨v15, hv1, hs1⟩ := slice_Vw (lo := some (.int .i64 (x9 + 1))) (hi := none) hw2 Try.underlying49 sz_53 (.inr rfl) (.inl ⟨rfl, rfl⟩) hg8
        refine TO.slice rfl dc rfl rfl rfl hs1 ?_
        obtain ⟨r5, hq8, h⟩ := andE h
        refine TO.callK (v := .int .i64 r5) (vs := [v15]) rfl dc rfl rfl rfl en_90 (ref04_marks_fn hv1 hq8) [1] kr rfl ?_
        obtain ⟨hg9, h⟩ := grdE h
        refine TO.bin rfl dc rfl rfl (bin_add (r := (x9 + 1) + r5) (IntWalk.i64_in _ hg9)) ?_
        refine TO.vecVw (k := 1) rfl (fun hw3 => ?_)
        obtain ⟨hg10, h⟩ := grdE h
        obtain ⟨v16, hv2, hs2⟩ := slice_Vw (lo := some (.int .i64 (x9 + 1))) (hi := some (.int .i64 ((x9 + 1) + r5))) hw3 Try.underlying49 sz_53 (.inr rfl) (.inr rfl) hg10
        refine TO.slice rfl dc rfl rfl rfl hs2 (TO.assign rfl dc rfl (TO.nil (TX.next (TC.seq (TC.region (TO.assign rfl dc rfl (TO.assign rfl dc rfl (TO.nil (TX.next (cut (TC.seq (TC.region (TO.move rfl dc rfl ?_)))))))))))))
        refine TO.lenVw hv2 rfl dc rfl Try.underlying49 (TO.move rfl dc rfl (TO.nil (TX.next (TC.block (TC.newVec (enc := enc_Gref04_Item) (e := 53) (size := 3) ?_)))))
        show TC _ _ _ _ _ _ _ _ _ [vec enc_Gref04_Item 53 3 vvl1 Ll1, vec enc_Gref04_Item 53 3 v1 out12, cells b4 [.int .i32 q3.Rune, .string q3.Text, .int .i64 q3.At] 53, vec enc_Gref04_Item 53 3 (.slice none 0 0) ([] : List Gref04_Item)]
        refine TC.newVec (enc := enc_Gref04_Item) (e := 53) (size := 3) ?_
        show TC _ _ _ _ _ _ _ _ _ [vec enc_Gref04_Item 53 3 vvl1 Ll1, vec enc_Gref04_Item 53 3 v1 out12, cells b4 [.int .i32 q3.Rune, .string q3.Text, .int .i64 q3.At] 53, vec enc_Gref04_Item 53 3 (.slice none 0 0) ([] : List Gref04_Item), vec enc_Gref04_Item 53 3 (.slice none 0 0) ([] : List Gref04_Item)]
        refine TC.loopD (β := Nat × (List Gref04_Item) × (List Gref04_Item) × Int × Value × Value) (fun b => loopG (fun _ _ _ => none) (ref04_apart_s4 out12 x9 j5 r5) b.1 b.2.1 b.2.2.1 b.2.2.2.1 = some r) (fun b => []) (fun b => [(3, v1), (10, v16), (11, b.2.2.2.2.1), (12, b.2.2.2.2.2), (44, v1), (45, .int .i64 (out1.length : Int)), (46, .int .i64 x9), (66, v16), (67, .int .i64 ((cutL out12 (x9 + 1) ((x9 + 1) + r5)).length : Int)), (68, .int .i64 b.2.2.2.1)]) (fun b => [vec enc_Gref04_Item 53 3 vvl1 Ll1, vec enc_Gref04_Item 53 3 v1 out12, vec enc_Gref04_Item 53 3 b.2.2.2.2.1 b.2.1, vec enc_Gref04_Item 53 3 b.2.2.2.2.2 b.2.2.1]) (fun b => b.1) (fuel, ([] : List Gref04_Item), ([] : List Gref04_Item), 0, (.slice none 0 0), (.slice none 0 0)) h rfl (Sbs.cons rfl (Sbs.cons rfl (Sbs.cons rfl (Sbs.cons rfl (Sbs.cons rfl (Sbs.cons rfl (Sbs.cons rfl (Sbs.cons rfl (Sbs.cons rfl (Sbs.cons rfl (Sbs.nil))))))))))) (Splits.of [0, 1, 3, 4] kr rfl) ?_
        rintro ⟨n4, low5, high4, x12, v22, v23⟩ h
        cases n4 with
        | zero => exact noneE h
        | succ n4 =>
         obtain ⟨ag4, hag4⟩ : ∃ ag, ag = loopG (fun _ _ _ => none) (ref04_apart_s4 out12 x9 j5 r5) n4 := ⟨_, rfl⟩
         have h : ref04_apart_s4 out12 x9 j5 r5 ag4 low5 high4 x12 = some r := by rw [hag4]; exact h
         unfold ref04_apart_s4 at h
         show TC _ _ _ _ _ ([]) _ _ [(3, v1), (10, v16), (11, v22), (12, v23), (44, v1), (45, .int .i64 (out1.length : Int)), (46, .int .i64 x9), (66, v16), (67, .int .i64 ((cutL out12 (x9 + 1) ((x9 + 1) + r5)).length : Int)), (68, .int .i64 x12)] [vec enc_Gref04_Item 53 3 vvl1 Ll1, vec enc_Gref04_Item 53 3 v1 out12, vec enc_Gref04_Item 53 3 v22 low5, vec enc_Gref04_Item 53 3 v23 high4]
         refine TC.seq (TC.region (TO.bin rfl dc rfl rfl bin_lss (TO.nil (TX.next (TC.seq ?_)))))
         refine TC.condB rfl (fun hb6 => ?_) (fun hb6 => ?_)
         ·
          have h := condT hb6 h
          refine TC.skip (TX.next ?_)
          obtain ⟨j6, hj6, h⟩ := joinE h
          refine TC.cutN (β := (List Gref04_Item) × (List Gref04_Item) × Value × Value) 0 rfl (fun b => j6 b.1 b.2.1 = some r) (fun b => []) (fun b => [(3, v1), (10, v16), (11, b.2.2.1), (12, b.2.2.2), (44, v1), (45, .int .i64 (out1.length : Int)), (46, .int .i64 x9), (66, v16), (67, .int .i64 ((cutL out12 (x9 + 1) ((x9 + 1) + r5)).length : Int)), (68, .int .i64 x12)]) (fun b => [vec enc_Gref04_Item 53 3 vvl1 Ll1, vec enc_Gref04_Item 53 3 v1 out12, vec enc_Gref04_Item 53 3 b.2.2.1 b.1, vec enc_Gref04_Item 53 3 b.2.2.2 b.2.1]) (fun cut => ?_) ?_
          ·
           refine cut (TC.block (TC.seq (TC.region ?_)))
           obtain ⟨q4, hq9, h⟩ := andE h
           refine TO.indexVw hv2 hq9 Try.underlying49 sz_53 rfl dc rfl rfl rfl (TO.loadsVec (i := 0 + (x9 + 1 : Int).toNat + (x12 : Int).toNat) (j := 0) (k := 1) (q := q4) (cs := [.int .i32 q4.Rune, .string q4.Text, .int .i64 q4.At]) rw_53 enc_Gref04_Item_len rfl dc rfl rfl (Vw.get hv2 hq9) rfl rfl rfl ?_)
           refine TO.alloc zr_53 rfl dc (fun b5 => ?_)
           refine TO.stores (k := 4) (vs := [.int .i32 q4.Rune, .string q4.Text, .int .i64 q4.At]) (l' := [.int .i32 q4.Rune, .string q4.Text, .int .i64 q4.At]) sz_53 rfl rfl rfl rfl rfl (show _ ≤ _ by simp) rfl rfl ?_
           show TO _ _ _ _ _ _ _ _ _ _ [vec enc_Gref04_Item 53 3 vvl1 Ll1, vec enc_Gref04_Item 53 3 v1 out12, vec enc_Gref04_Item 53 3 v22 low5, vec enc_Gref04_Item 53 3 v23 high4, cells b5 [.int .i32 q4.Rune, .string q4.Text, .int .i64 q4.At] 53]
           refine TO.nil (TX.next (TC.seq (TC.region (TO.fieldAddr fl_53_0 rfl dc rfl (show _ = 0 from rfl) (TO.load (k := 4) sc_21 rfl dc rfl rfl rfl ?_)))))
           obtain ⟨r6, hq10, h⟩ := andE h
           refine TO.callP (v := .bool r6) (vs := [.int .i32 q4.Rune]) rfl dc rfl rfl rfl en_98 (ref04_Low_fn hq10) (TO.nil (TX.next ?_))
           refine TC.condB rfl (fun hb7 => ?_) (fun hb7 => ?_)
           ·
            have h := condT hb7 h
            refine TC.region (TO.move rfl dc rfl (TO.loads (k := 4) (cs := [.int .i32 q4.Rune, .string q4.Text, .int .i64 q4.At]) rw_53 rfl dc rfl rfl rfl rfl ?_))
            refine TO.buildSlice (cs := [.int .i32 q4.Rune, .string q4.Text, .int .i64 q4.At]) (te := 53) (ps := [(0, .tmp 76)]) rfl dc rfl (fun _ => by kernel_rfl) (fun b6 => ?_)
            obtain ⟨hg11, h⟩ := grdE h
            refine TO.appendVec (k := 2) (k2 := 5) (ys := [q4]) Try.underlying49 el_53 enc_Gref04_Item_len enc_Gref04_Item_one rfl dc rfl rfl rfl rfl rfl rfl hg11 (fun v26 => ?_)
            show TO _ _ _ _ _ _ _ _ _ _ [vec enc_Gref04_Item 53 3 vvl1 Ll1, vec enc_Gref04_Item 53 3 v1 out12, vec enc_Gref04_Item 53 3 v26 (low5 ++ [q4]), vec enc_Gref04_Item 53 3 v23 high4, cells b5 [.int .i32 q4.Rune, .string q4.Text, .int .i64 q4.At] 53, cells b6 [.int .i32 q4.Rune, .string q4.Text, .int .i64 q4.At] 53]
            refine TO.assign rfl dc rfl (TO.nil (TX.blockNormal ?_))
            exact TX.meetD (low5 ++ [q4], high4, v26, v23) h rfl (Sbs.cons rfl (Sbs.cons rfl (Sbs.cons rfl (Sbs.cons rfl (Sbs.cons rfl (Sbs.cons rfl (Sbs.cons rfl (Sbs.cons rfl (Sbs.cons rfl (Sbs.cons rfl (Sbs.nil))))))))))) (Splits.of [0, 1, 2, 3] kr rfl)
           ·
            have h := condF hb7 h
            refine TC.region (TO.move rfl dc rfl (TO.loads (k := 4) (cs := [.int .i32 q4.Rune, .string q4.Text, .int .i64 q4.At]) rw_53 rfl dc rfl rfl rfl rfl ?_))
            refine TO.buildSlice (cs := [.int .i32 q4.Rune, .string q4.Text, .int .i64 q4.At]) (te := 53) (ps := [(0, .tmp 80)]) rfl dc rfl (fun _ => by kernel_rfl) (fun b7 => ?_)
            obtain ⟨hg12, h⟩ := grdE h
            refine TO.appendVec (k := 3) (k2 := 5) (ys := [q4]) Try.underlying49 el_53 enc_Gref04_Item_len enc_Gref04_Item_one rfl dc rfl rfl rfl rfl rfl rfl hg12 (fun v27 => ?_)
            show TO _ _ _ _ _ _ _ _ _ _ [vec enc_Gref04_Item 53 3 vvl1 Ll1, vec enc_Gref04_Item 53 3 v1 out12, vec enc_Gref04_Item 53 3 v22 low5, vec enc_Gref04_Item 53 3 v27 (high4 ++ [q4]), cells b5 [.int .i32 q4.Rune, .string q4.Text, .int .i64 q4.At] 53, cells b7 [.int .i32 q4.Rune, .string q4.Text, .int .i64 q4.At] 53]
            refine TO.assign rfl dc rfl (TO.nil (TX.blockNormal ?_))
            exact TX.meetD (low5, high4 ++ [q4], v22, v27) h rfl (Sbs.cons rfl (Sbs.cons rfl (Sbs.cons rfl (Sbs.cons rfl (Sbs.cons rfl (Sbs.cons rfl (Sbs.cons rfl (Sbs.cons rfl (Sbs.cons rfl (Sbs.cons rfl (Sbs.nil))))))))))) (Splits.of [0, 1, 2, 3] kr rfl)
          ·
           rintro ⟨low6, high5, v24, v25⟩ h
           rw [hj6] at h
           show TC _ _ _ _ _ ([]) _ _ [(3, v1), (10, v16), (11, v24), (12, v25), (44, v1), (45, .int .i64 (out1.length : Int)), (46, .int .i64 x9), (66, v16), (67, .int .i64 ((cutL out12 (x9 + 1) ((x9 + 1) + r5)).length : Int)), (68, .int .i64 x12)] [vec enc_Gref04_Item 53 3 vvl1 Ll1, vec enc_Gref04_Item 53 3 v1 out12, vec enc_Gref04_Item 53 3 v24 low6, vec enc_Gref04_Item 53 3 v25 high5]
           refine TC.region ?_
           obtain ⟨hg13, h⟩ := grdE h
           refine TO.bin rfl dc rfl rfl (bin_add (r := x12 + 1) (IntWalk.i64_in _ hg13)) (TO.move rfl dc rfl (TO.nil ?_))
           subst hag4
           exact TX.againD (n4, low6, high5, x12 + 1, v24, v25) h (Nat.lt_succ_self _) rfl (Sbs.cons rfl (Sbs.cons rfl (Sbs.cons rfl (Sbs.cons rfl (Sbs.cons rfl (Sbs.cons rfl (Sbs.cons rfl (Sbs.cons rfl (Sbs.cons rfl (Sbs.cons rfl (Sbs.nil))))))))))) (Splits.of [0, 1, 2, 3] kr rfl)
         ·
          have h := condF hb6 h
          refine TC.exit (TX.thenExit (TX.thenExit (TX.blockHere ?_)))
          exact TX.meetD (0 + (x9 + 1 : Int).toNat, cutL out12 (x9 + 1) ((x9 + 1) + r5), low5, high4, v16, v22, v23) ⟨h, hv2⟩ rfl (Sbs.cons rfl (Sbs.cons rfl (Sbs.cons rfl (Sbs.cons rfl (Sbs.cons rfl (Sbs.cons rfl (Sbs.cons rfl (Sbs.nil)))))))) (Splits.of [0, 1, 2, 3] kr rfl)
       ·
        rintro ⟨at1, row1, low1, high1, v12, v13, v14⟩ ⟨h, hw1⟩
        rw [hj5] at h
        show TC _ _ _ _ _ ([]) _ _ [(3, v1), (10, v12), (11, v13), (12, v14), (44, v1), (45, .int .i64 (out1.length : Int)), (46, .int .i64 x9)] [vec enc_Gref04_Item 53 3 vvl1 Ll1, vec enc_Gref04_Item 53 3 v1 out12, vec enc_Gref04_Item 53 3 v13 low1, vec enc_Gref04_Item 53 3 v14 high1]
        refine TC.region (TO.move rfl dc rfl (TO.move rfl dc rfl (TO.move rfl dc rfl ?_)))
        refine TO.vecVw (k := 3) rfl (fun hw4 => ?_)
        obtain ⟨hg14, h⟩ := grdE h
        refine TO.appendVw (k := 2) (k2 := 3) Try.underlying49 el_53 enc_Gref04_Item_len enc_Gref04_Item_one hw4 rfl dc rfl rfl rfl rfl hg14 (fun v28 => ?_)
        refine TO.vecVw (k := 2) rfl (fun hw5 => ?_)
        refine TO.copyVw (k := 1) (k2 := 2) Try.underlying49 el_53 enc_Gref04_Item_len enc_Gref04_Item_one hw1 hw5 rfl dc rfl rfl rfl rfl ?_
        show TO _ _ _ _ _ _ _ _ _ _ [vec enc_Gref04_Item 53 3 vvl1 Ll1, vec enc_Gref04_Item 53 3 v1 (overL out12 at1 ((low1 ++ high1).take row1.length)), vec enc_Gref04_Item 53 3 v28 (low1 ++ high1), vec enc_Gref04_Item 53 3 v14 high1]
        refine TO.nil (TX.blockNormal ?_)
        exact TX.meetD (overL out12 at1 ((low1 ++ high1).take row1.length)) h rfl (Sbs.cons rfl (Sbs.cons rfl (Sbs.cons rfl (Sbs.cons rfl (Sbs.nil))))) (Splits.of [0, 1] kr rfl)
     ·
      rintro out13 h
      rw [hj4] at h
      show TC _ _ _ _ _ ([]) _ _ [(3, v1), (44, v1), (45, .int .i64 (out1.length : Int)), (46, .int .i64 x9)] [vec enc_Gref04_Item 53 3 vvl1 Ll1, vec enc_Gref04_Item 53 3 v1 out13]
      refine TC.region ?_
      obtain ⟨hg15, h⟩ := grdE h
      refine TO.bin rfl dc rfl rfl (bin_add (r := x9 + 1) (IntWalk.i64_in _ hg15)) (TO.move rfl dc rfl (TO.nil ?_))
      subst hag3
      exact TX.againD (n3, out13, x9 + 1) h (Nat.lt_succ_self _) rfl (Sbs.cons rfl (Sbs.cons rfl (Sbs.cons rfl (Sbs.cons rfl (Sbs.nil))))) (Splits.of [0, 1] kr rfl)
    ·
     have h := condF hb4 h
     refine TC.exit (TX.thenExit (TX.thenExit (TX.blockHere ?_)))
     exact TX.meetD out12 h rfl (Sbs.cons rfl (Sbs.nil)) (Splits.of [0, 1] kr rfl)
  ·
   rintro out9 h
   rw [hj3] at h
   show TC _ _ _ _ _ ([]) _ _ [(3, v1)] [vec enc_Gref04_Item 53 3 vvl1 Ll1, vec enc_Gref04_Item 53 3 v1 out9]
   refine TC.seq (TC.region (TO.move rfl dc rfl (TO.assign rfl dc rfl (TO.nil (TX.next (TC.ret ?_))))))
   cases h
   exact TX.fin (rs := [.tmp 2]) v1 (.inl rfl) Try.results89 (.cons (.tmp rfl) .nil) rfl (Splits.of [0, 1] kr rfl)
def ref04_bare_s1 (j1 : (List Gref04_Item) → Option (List Gref04_Item)) (r1 : (List Gref04_Item)) (ag1 : (List Gref04_Item) → Int → Option (List Gref04_Item)) (out4 : List Gref04_Item) (i3 : Int) : Option (List Gref04_Item) := bcond (decide ((i3 : Int) < (r1.length : Int))) ( joinK (fun (j2 : (List Gref04_Item) → Int → Option (List Gref04_Item)) => andThen (getO r1 i3) fun (q1 : Gref04_Item) => grd (out4.length + 1 ≤ 2147483648) <| andThen (getO r1 i3) fun (q2 : Gref04_Item) => andThen (ref04_Item_letter_v q2) fun (r2 : Bool) => bcond (r2) ( grd (I64 (i3 + 1)) <| grd (0 ≤ (i3 + 1 : Int) ∧ (i3 + 1 : Int) ≤ (r1.length : Int) ∧ ((r1.length : Int) : Int) ≤ (r1.length : Int)) <| andThen (ref04_marks_v (cutL r1 (i3 + 1) (r1.length : Int))) fun (r3 : Int) => grd (I64 (i3 + r3)) <| j2 (out4 ++ [q1]) (i3 + r3)
) ( j2 (out4 ++ [q1]) i3
)
) (fun (out5 : List Gref04_Item) (i4 : Int) => grd (I64 (i4 + 1)) <| ag1 out5 (i4 + 1)
)
) ( j1 out4
)
def ref04_bare_v (l1 : List Gref04_Item) : Option (List Gref04_Item) := joinK (fun (j1 : (List Gref04_Item) → Option (List Gref04_Item)) => andThen (ref04_apart_v l1) fun (r1 : (List Gref04_Item)) => loopG (fun _ _ => none) (ref04_bare_s1 j1 r1) fuel ([] : List Gref04_Item) 0
) (fun (out1 : List Gref04_Item) => some out1
)
set_option maxRecDepth 100000 in
set_option maxHeartbeats 4000000 in
theorem ref04_bare_fn {vvl1 vl1 : Value} {Ll1 : List Gref04_Item} {kl1 : Nat} {l1 : List Gref04_Item} (hwl1 : Vw vvl1 Ll1 3 kl1 vl1 l1) {r : (List Gref04_Item)} (h : ref04_bare_v l1 = some r) : Fn Try.prog 75 [vl1] [vec enc_Gref04_Item 53 3 vvl1 Ll1] (fun v0 : Value => v0) (fun v0 => [vec enc_Gref04_Item 53 3 vvl1 Ll1, vec enc_Gref04_Item 53 3 v0 r]) := by
 unfold ref04_bare_v at h
 refine Fn.intro Try.func75 rfl Try.ntmps75 (by simp) ?_
 intro w0 K
 obtain ⟨j1, hj1, h⟩ := joinE h
 refine TC.cutN (β := (List Gref04_Item) × Value) 3 rfl (fun b => j1 b.1 = some r) (fun b => []) (fun b => [(3, b.2)]) (fun b => [vec enc_Gref04_Item 53 3 vvl1 Ll1, vec enc_Gref04_Item 53 3 b.2 b.1]) (fun cut => ?_) ?_
 ·
  refine TC.seq (TC.region (TO.assign rfl dc rfl (TO.nil (TX.next (TC.seq (TC.region (TO.move rfl dc rfl ?_)))))))
  obtain ⟨r1, hq1, h⟩ := andE h
  refine TO.call (vs := [vl1]) rfl dc rfl rfl rfl en_89 (ref04_apart_fn hwl1 hq1) (Splits.of [0] kr rfl) ?_
  rintro v2
  show TO _ _ _ _ _ _ _ _ _ _ [emp, vec enc_Gref04_Item 53 3 vvl1 Ll1, vec enc_Gref04_Item 53 3 v2 r1]
  refine TO.assign rfl dc rfl (TO.nil (TX.next (TC.seq (TC.region (TO.assign rfl dc rfl (TO.nil (TX.next (cut (TC.seq (TC.region (TO.assign rfl dc rfl (TO.nil (TX.next ?_)))))))))))))
  refine TC.block (TC.newVec (enc := enc_Gref04_Item) (e := 53) (size := 3) ?_)
  show TC _ _ _ _ _ _ _ _ _ [emp, vec enc_Gref04_Item 53 3 vvl1 Ll1, vec enc_Gref04_Item 53 3 v2 r1, vec enc_Gref04_Item 53 3 (.slice none 0 0) ([] : List Gref04_Item)]
  refine TC.loopD (β := Nat × (List Gref04_Item) × Int × Value) (fun b => loopG (fun _ _ => none) (ref04_bare_s1 j1 r1) b.1 b.2.1 b.2.2.1 = some r) (fun b => []) (fun b => [(0, v2), (3, b.2.2.2), (4, .int .i64 b.2.2.1)]) (fun b => [vec enc_Gref04_Item 53 3 vvl1 Ll1, vec enc_Gref04_Item 53 3 v2 r1, vec enc_Gref04_Item 53 3 b.2.2.2 b.2.1]) (fun b => b.1) (fuel, ([] : List Gref04_Item), 0, (.slice none 0 0)) h rfl (Sbs.cons rfl (Sbs.cons rfl (Sbs.cons rfl (Sbs.nil)))) (Splits.of [1, 2, 3] kr rfl) ?_
  rintro ⟨n1, out4, i3, v5⟩ h
  cases n1 with
  | zero => exact noneE h
  | succ n1 =>
   obtain ⟨ag1, hag1⟩ : ∃ ag, ag = loopG (fun _ _ => none) (ref04_bare_s1 j1 r1) n1 := ⟨_, rfl⟩
   have h : ref04_bare_s1 j1 r1 ag1 out4 i3 = some r := by rw [hag1]; exact h
   unfold ref04_bare_s1 at h
   show TC _ _ _ _ _ ([]) _ _ [(0, v2), (3, v5), (4, .int .i64 i3)] [vec enc_Gref04_Item 53 3 vvl1 Ll1, vec enc_Gref04_Item 53 3 v2 r1, vec enc_Gref04_Item 53 3 v5 out4]
   refine TC.seq (TC.seq (TC.region (TO.move rfl dc rfl (TO.move rfl dc rfl (TO.lenVec (k := 1) rfl dc rfl rfl Try.underlying49 (TO.bin rfl dc rfl rfl bin_lss (TO.nil (TX.next ?_))))))))
   refine TC.condB rfl (fun hb1 => ?_) (fun hb1 => ?_)
   ·
    have h := condT hb1 h
    refine TC.skip (TX.next ?_)
    obtain ⟨j2, hj2, h⟩ := joinE h
    refine TC.cutN (β := (List Gref04_Item) × Int × Value) 0 rfl (fun b => j2 b.1 b.2.1 = some r) (fun b => []) (fun b => [(0, v2), (3, b.2.2), (4, .int .i64 b.2.1)]) (fun b => [vec enc_Gref04_Item 53 3 vvl1 Ll1, vec enc_Gref04_Item 53 3 v2 r1, vec enc_Gref04_Item 53 3 b.2.2 b.1]) (fun cut => ?_) ?_
    ·
     refine cut (TC.block (TC.seq (TC.region (TO.move rfl dc rfl (TO.move rfl dc rfl (TO.move rfl dc rfl ?_))))))
     obtain ⟨q1, hq2, h⟩ := andE h
     refine TO.indexVecI (k := 1) hq2 Try.underlying49 sz_53 rfl dc rfl rfl rfl rfl (TO.loadsVec (i := (i3 : Int).toNat) (j := 0) (k := 1) (q := q1) (cs := [.int .i32 q1.Rune, .string q1.Text, .int .i64 q1.At]) rw_53 enc_Gref04_Item_len rfl dc rfl rfl (getO_get hq2) rfl rfl rfl ?_)
     refine TO.buildSlice (cs := [.int .i32 q1.Rune, .string q1.Text, .int .i64 q1.At]) (te := 53) (ps := [(0, .tmp 17)]) rfl dc rfl (fun _ => by kernel_rfl) (fun b1 => ?_)
     obtain ⟨hg1, h⟩ := grdE h
     refine TO.appendVec (k := 2) (k2 := 3) (ys := [q1]) Try.underlying49 el_53 enc_Gref04_Item_len enc_Gref04_Item_one rfl dc rfl rfl rfl rfl rfl rfl hg1 (fun v7 => ?_)
     show TO _ _ _ _ _ _ _ _ _ _ [vec enc_Gref04_Item 53 3 vvl1 Ll1, vec enc_Gref04_Item 53 3 v2 r1, vec enc_Gref04_Item 53 3 v7 (out4 ++ [q1]), cells b1 [.int .i32 q1.Rune, .string q1.Text, .int .i64 q1.At] 53]
     refine TO.assign rfl dc rfl (TO.nil (TX.next (TC.seq (TC.region (TO.move rfl dc rfl (TO.move rfl dc rfl ?_))))))
     obtain ⟨q2, hq3, h⟩ := andE h
     refine TO.indexVecI (k := 1) hq3 Try.underlying49 sz_53 rfl dc rfl rfl rfl rfl (TO.loadsVec (i := (i3 : Int).toNat) (j := 0) (k := 1) (q := q2) (cs := [.int .i32 q2.Rune, .string q2.Text, .int .i64 q2.At]) rw_53 enc_Gref04_Item_len rfl dc rfl rfl (getO_get hq3) rfl rfl rfl ?_)
     obtain ⟨r2, hq4, h⟩ := andE h
     refine TO.callP (v := .bool r2) (vs := [.agg #[.int .i32 q2.Rune, .string q2.Text, .int .i64 q2.At]]) rfl dc rfl rfl rfl en_30 (ref04_Item_letter_fn (x1 := q2) hq4) (TO.nil (TX.next ?_))
     refine TC.condB rfl (fun hb2 => ?_) (fun hb2 => ?_)
     ·
      have h := condT hb2 h
      refine TC.region (TO.move rfl dc rfl (TO.move rfl dc rfl (TO.move rfl dc rfl ?_)))
      obtain ⟨hg2, h⟩ := grdE h
      refine TO.bin rfl dc rfl rfl (bin_add (r := i3 + 1) (IntWalk.i64_in _ hg2)) ?_
      refine TO.vecVw (k := 1) rfl (fun hw1 => ?_)
      obtain ⟨hg3, h⟩ := grdE h
      obtain ⟨v8, hv1, hs1⟩ := slice_Vw (lo := some (.int .i64 (i3 + 1))) (hi := none) hw1 Try.underlying49 sz_53 (.inr rfl) (.inl ⟨rfl, rfl⟩) hg3
      refine TO.slice rfl dc rfl rfl rfl hs1 ?_
      obtain ⟨r3, hq5, h⟩ := andE h
      refine TO.callK (v := .int .i64 r3) (vs := [v8]) rfl dc rfl rfl rfl en_90 (ref04_marks_fn hv1 hq5) [1] kr rfl ?_
      obtain ⟨hg4, h⟩ := grdE h
      refine TO.bin rfl dc rfl rfl (bin_add (r := i3 + r3) (IntWalk.i64_in _ hg4)) (TO.assign rfl dc rfl (TO.nil (TX.blockNormal ?_)))
      exact TX.meetD (out4 ++ [q1], i3 + r3, v7) h rfl (Sbs.cons rfl (Sbs.cons rfl (Sbs.cons rfl (Sbs.nil)))) (Splits.of [0, 1, 2] kr rfl)
     ·
      have h := condF hb2 h
      refine TC.skip (TX.blockNormal ?_)
      exact TX.meetD (out4 ++ [q1], i3, v7) h rfl (Sbs.cons rfl (Sbs.cons rfl (Sbs.cons rfl (Sbs.nil)))) (Splits.of [0, 1, 2] kr rfl)
    ·
     rintro ⟨out5, i4, v6⟩ h
     rw [hj2] at h
     show TC _ _ _ _ _ ([]) _ _ [(0, v2), (3, v6), (4, .int .i64 i4)] [vec enc_Gref04_Item 53 3 vvl1 Ll1, vec enc_Gref04_Item 53 3 v2 r1, vec enc_Gref04_Item 53 3 v6 out5]
     refine TC.region (TO.move rfl dc rfl ?_)
     obtain ⟨hg5, h⟩ := grdE h
     refine TO.bin rfl dc rfl rfl (bin_add (r := i4 + 1) (IntWalk.i64_in _ hg5)) (TO.assign rfl dc rfl (TO.nil ?_))
     subst hag1
     exact TX.againD (n1, out5, i4 + 1, v6) h (Nat.lt_succ_self _) rfl (Sbs.cons rfl (Sbs.cons rfl (Sbs.cons rfl (Sbs.nil)))) (Splits.of [0, 1, 2] kr rfl)
   ·
    have h := condF hb1 h
    refine TC.exit (TX.thenExit (TX.thenExit (TX.blockHere ?_)))
    exact TX.meetD (out4, v5) h rfl (Sbs.cons rfl (Sbs.nil)) (Splits.of [0, 2] kr rfl)
 ·
  rintro ⟨out1, v1⟩ h
  rw [hj1] at h
  show TC _ _ _ _ _ ([]) _ _ [(3, v1)] [vec enc_Gref04_Item 53 3 vvl1 Ll1, vec enc_Gref04_Item 53 3 v1 out1]
  refine TC.seq (TC.region (TO.move rfl dc rfl (TO.assign rfl dc rfl (TO.nil (TX.next (TC.ret ?_))))))
  cases h
  exact TX.fin (rs := [.tmp 2]) v1 (.inl rfl) Try.results75 (.cons (.tmp rfl) .nil) rfl (Splits.of [0, 1] kr rfl)
def ref04_Folded_s1 (j1 : (List Gref04_Item) → Option (List Gref04_Item)) (r2 : (List Gref04_Item)) (ag1 : (List Gref04_Item) → Int → Option (List Gref04_Item)) (l4 : List Gref04_Item) (x3 : Int) : Option (List Gref04_Item) := bcond (decide ((x3 : Int) < (r2.length : Int))) ( joinK (fun (j2 : (List Gref04_Item) → Option (List Gref04_Item)) => andThen (getO l4 x3) fun (q1 : Gref04_Item) => andThen (ref04_Item_letter_v q1) fun (r3 : Bool) => bcond (r3) ( grd (I32 q1.Rune) <| andThen (ref04_plain_v (lower q1.Rune)) fun (r4 : ByteArray) => andThen (getO l4 x3) fun (q2 : Gref04_Item) => j2 (l4.set (x3 : Int).toNat (⟨q2.Rune, r4, q2.At⟩ : Gref04_Item))
) ( j2 l4
)
) (fun (l5 : List Gref04_Item) => grd (I64 (x3 + 1)) <| ag1 l5 (x3 + 1)
)
) ( j1 l4
)
def ref04_Folded_v (s1 : ByteArray) : Option (List Gref04_Item) := joinK (fun (j1 : (List Gref04_Item) → Option (List Gref04_Item)) => andThen (ref04_Items_v s1) fun (r1 : (List Gref04_Item)) => andThen (ref04_bare_v r1) fun (r2 : (List Gref04_Item)) => loopG (fun _ _ => none) (ref04_Folded_s1 j1 r2) fuel r2 0
) (fun (l1 : List Gref04_Item) => some l1
)
set_option maxRecDepth 100000 in
set_option maxHeartbeats 4000000 in
theorem ref04_Folded_fn {s1 : ByteArray} {r : (List Gref04_Item)} (h : ref04_Folded_v s1 = some r) : Fn Try.prog 54 [.string s1] [] (fun v0 : Value => v0) (fun v0 => [vec enc_Gref04_Item 53 3 v0 r]) := by
 unfold ref04_Folded_v at h
 refine Fn.intro Try.func54 rfl Try.ntmps54 (by simp) ?_
 intro w0 K
 obtain ⟨j1, hj1, h⟩ := joinE h
 refine TC.cutN (β := (List Gref04_Item) × Value) 2 rfl (fun b => j1 b.1 = some r) (fun b => []) (fun b => [(3, b.2)]) (fun b => [vec enc_Gref04_Item 53 3 b.2 b.1]) (fun cut => ?_) ?_
 ·
  refine TC.seq (TC.region (TO.assign rfl dc rfl (TO.nil (TX.next (TC.seq (TC.region (TO.move rfl dc rfl ?_)))))))
  obtain ⟨r1, hq1, h⟩ := andE h
  refine TO.call (vs := [.string s1]) rfl dc rfl rfl rfl en_28 (ref04_Items_fn hq1) Splits.nil ?_
  rintro v2
  show TO _ _ _ _ _ _ _ _ _ _ [vec enc_Gref04_Item 53 3 v2 r1]
  refine TO.vecVw (k := 0) rfl (fun hw1 => ?_)
  obtain ⟨r2, hq2, h⟩ := andE h
  refine TO.call (vs := [v2]) rfl dc rfl rfl rfl en_75 (ref04_bare_fn hw1 hq2) (Splits.of [0] kr rfl) ?_
  rintro v3
  show TO _ _ _ _ _ _ _ _ _ _ [emp, vec enc_Gref04_Item 53 3 v2 r1, vec enc_Gref04_Item 53 3 v3 r2]
  refine TO.assign rfl dc rfl (TO.nil (TX.next (cut (TC.seq (TC.region (TO.move rfl dc rfl (TO.lenVec (k := 2) rfl dc rfl rfl Try.underlying49 (TO.move rfl dc rfl (TO.nil (TX.next (TC.block ?_)))))))))))
  refine TC.loopD (β := Nat × (List Gref04_Item) × Int) (fun b => loopG (fun _ _ => none) (ref04_Folded_s1 j1 r2) b.1 b.2.1 b.2.2 = some r) (fun b => []) (fun b => [(3, v3), (9, v3), (10, .int .i64 (r2.length : Int)), (11, .int .i64 b.2.2)]) (fun b => [vec enc_Gref04_Item 53 3 v3 b.2.1]) (fun b => b.1) (fuel, r2, 0) h rfl (Sbs.cons rfl (Sbs.cons rfl (Sbs.cons rfl (Sbs.cons rfl (Sbs.nil))))) (Splits.of [2] kr rfl) ?_
  rintro ⟨n1, l4, x3⟩ h
  cases n1 with
  | zero => exact noneE h
  | succ n1 =>
   obtain ⟨ag1, hag1⟩ : ∃ ag, ag = loopG (fun _ _ => none) (ref04_Folded_s1 j1 r2) n1 := ⟨_, rfl⟩
   have h : ref04_Folded_s1 j1 r2 ag1 l4 x3 = some r := by rw [hag1]; exact h
   unfold ref04_Folded_s1 at h
   show TC _ _ _ _ _ ([]) _ _ [(3, v3), (9, v3), (10, .int .i64 (r2.length : Int)), (11, .int .i64 x3)] [vec enc_Gref04_Item 53 3 v3 l4]
   refine TC.seq (TC.region (TO.bin rfl dc rfl rfl bin_lss (TO.nil (TX.next (TC.seq ?_)))))
   refine TC.condB rfl (fun hb1 => ?_) (fun hb1 => ?_)
   ·
    have h := condT hb1 h
    refine TC.skip (TX.next ?_)
    obtain ⟨j2, hj2, h⟩ := joinE h
    refine TC.cutN (β := (List Gref04_Item)) 0 rfl (fun b => j2 b = some r) (fun b => []) (fun b => [(3, v3), (9, v3), (10, .int .i64 (r2.length : Int)), (11, .int .i64 x3)]) (fun b => [vec enc_Gref04_Item 53 3 v3 b]) (fun cut => ?_) ?_
    ·
     refine cut (TC.block (TC.seq (TC.region (TO.move rfl dc rfl ?_))))
     obtain ⟨q1, hq3, h⟩ := andE h
     refine TO.indexVecI (k := 0) hq3 Try.underlying49 sz_53 rfl dc rfl rfl rfl rfl (TO.loadsVec (i := (x3 : Int).toNat) (j := 0) (k := 0) (q := q1) (cs := [.int .i32 q1.Rune, .string q1.Text, .int .i64 q1.At]) rw_53 enc_Gref04_Item_len rfl dc rfl rfl (getO_get hq3) rfl rfl rfl ?_)
     refine TO.alloc zr_53 rfl dc (fun b1 => ?_)
     refine TO.assign rfl dc rfl (TO.stores (k := 1) (vs := [.int .i32 q1.Rune, .string q1.Text, .int .i64 q1.At]) (l' := [.int .i32 q1.Rune, .string q1.Text, .int .i64 q1.At]) sz_53 rfl rfl rfl rfl rfl (show _ ≤ _ by simp) rfl rfl ?_)
     show TO _ _ _ _ _ _ _ _ _ _ [vec enc_Gref04_Item 53 3 v3 l4, cells b1 [.int .i32 q1.Rune, .string q1.Text, .int .i64 q1.At] 53]
     refine TO.nil (TX.next (TC.seq (TC.region (TO.loads (k := 1) (cs := [.int .i32 q1.Rune, .string q1.Text, .int .i64 q1.At]) rw_53 rfl dc rfl rfl rfl rfl ?_))))
     obtain ⟨r3, hq4, h⟩ := andE h
     refine TO.callP (v := .bool r3) (vs := [.agg #[.int .i32 q1.Rune, .string q1.Text, .int .i64 q1.At]]) rfl dc rfl rfl rfl en_30 (ref04_Item_letter_fn (x1 := q1) hq4) (TO.nil (TX.next ?_))
     refine TC.condB rfl (fun hb2 => ?_) (fun hb2 => ?_)
     ·
      have h := condT hb2 h
      refine TC.region (TO.move rfl dc rfl (TO.move rfl dc rfl (TO.fieldAddr fl_53_0 rfl dc rfl (show _ = 0 from rfl) (TO.load (k := 1) sc_21 rfl dc rfl rfl rfl ?_))))
      obtain ⟨hg1, h⟩ := grdE h
      refine TO.callP (v := .int .i32 (lower q1.Rune)) (vs := [.int .i32 q1.Rune]) rfl dc rfl rfl rfl en_77 (FnP.of_same fun w => rlower_any q1.Rune w hg1.1 hg1.2) ?_
      obtain ⟨r4, hq5, h⟩ := andE h
      refine TO.callP (v := .string r4) (vs := [.int .i32 (lower q1.Rune)]) rfl dc rfl rfl rfl en_76 (ref04_plain_fn hq5) ?_
      obtain ⟨q2, hq6, h⟩ := andE h
      refine TO.indexVecI (k := 0) hq6 Try.underlying49 sz_53 rfl dc rfl rfl rfl rfl (TO.fieldAddr fl_53_1 rfl dc rfl (show _ = ((x3 : Int).toNat) * 3 + 1 from rfl) ?_)
      refine TO.storeVec (i := (x3 : Int).toNat) (j := 1) (k := 0) (q := q2) (q' := (⟨q2.Rune, r4, q2.At⟩ : Gref04_Item)) sz_9 enc_Gref04_Item_len rfl rfl rfl rfl (getO_get hq6) rfl dc rfl (fun _ _ => rfl) ?_
      refine TO.nil (TX.blockNormal ?_)
      exact TX.meetD (l4.set (x3 : Int).toNat (⟨q2.Rune, r4, q2.At⟩ : Gref04_Item)) h rfl (Sbs.cons rfl (Sbs.cons rfl (Sbs.cons rfl (Sbs.cons rfl (Sbs.nil))))) (Splits.of [0] kr rfl)
     ·
      have h := condF hb2 h
      refine TC.skip (TX.blockNormal ?_)
      exact TX.meetD l4 h rfl (Sbs.cons rfl (Sbs.cons rfl (Sbs.cons rfl (Sbs.cons rfl (Sbs.nil))))) (Splits.of [0] kr rfl)
    ·
     rintro l5 h
     rw [hj2] at h
     show TC _ _ _ _ _ ([]) _ _ [(3, v3), (9, v3), (10, .int .i64 (r2.length : Int)), (11, .int .i64 x3)] [vec enc_Gref04_Item 53 3 v3 l5]
     refine TC.region ?_
     obtain ⟨hg2, h⟩ := grdE h
     refine TO.bin rfl dc rfl rfl (bin_add (r := x3 + 1) (IntWalk.i64_in _ hg2)) (TO.move rfl dc rfl (TO.nil ?_))
     subst hag1
     exact TX.againD (n1, l5, x3 + 1) h (Nat.lt_succ_self _) rfl (Sbs.cons rfl (Sbs.cons rfl (Sbs.cons rfl (Sbs.cons rfl (Sbs.nil))))) (Splits.of [0] kr rfl)
   ·
    have h := condF hb1 h
    refine TC.exit (TX.thenExit (TX.thenExit (TX.blockHere ?_)))
    exact TX.meetD (l4, v3) h rfl (Sbs.cons rfl (Sbs.nil)) (Splits.of [0] kr rfl)
 ·
  rintro ⟨l1, v1⟩ h
  rw [hj1] at h
  show TC _ _ _ _ _ ([]) _ _ [(3, v1)] [vec enc_Gref04_Item 53 3 v1 l1]
  refine TC.seq (TC.region (TO.move rfl dc rfl (TO.assign rfl dc rfl (TO.nil (TX.next (TC.ret ?_))))))
  cases h
  exact TX.fin (rs := [.tmp 2]) v1 (.inl rfl) Try.results54 (.cons (.tmp rfl) .nil) rfl (Splits.of [0] kr rfl)
def ref04_Fold_v (s1 : ByteArray) : Option ByteArray := andThen (ref04_Folded_v s1) fun (r1 : (List Gref04_Item)) => andThen (ref04_Text_v r1) fun (r2 : ByteArray) => some r2
set_option maxRecDepth 100000 in
set_option maxHeartbeats 4000000 in
theorem ref04_Fold_fn {s1 : ByteArray} {r : ByteArray} (h : ref04_Fold_v s1 = some r) : FnP Try.prog 27 [.string s1] (.string r) := by
 unfold ref04_Fold_v at h
 refine FnP.intro Try.func27 rfl Try.ntmps27 (by simp) ?_
 intro w0 K
 refine TC.seq (TC.region (TO.assign rfl dc rfl (TO.nil (TX.next (TC.seq (TC.region (TO.move rfl dc rfl ?_)))))))
 obtain ⟨r1, hq1, h⟩ := andE h
 refine TO.call (vs := [.string s1]) rfl dc rfl rfl rfl en_54 (ref04_Folded_fn hq1) Splits.nil ?_
 rintro v1
 show TO _ _ _ _ _ _ _ _ _ _ [vec enc_Gref04_Item 53 3 v1 r1]
 refine TO.vecVw (k := 0) rfl (fun hw1 => ?_)
 obtain ⟨r2, hq2, h⟩ := andE h
 refine TO.callK (v := .string r2) (vs := [v1]) rfl dc rfl rfl rfl en_53 (ref04_Text_fn hw1 hq2) [0] kr rfl (TO.assign rfl dc rfl (TO.nil (TX.next (TC.ret ?_))))
 cases h
 exact TX.fin (rs := [.tmp 2]) () (.inl rfl) Try.results27 (.cons (.tmp rfl) .nil) rfl Splits.nil
end Go.Proofs.Ytlamcpgnmeileaa
namespace Go.Proofs.Ytlamcpgnmeileaa
open Go.RowKit Go.Lib
set_option linter.unusedVariables false
set_option linter.unusedSimpArgs false

/-- Where the k-th piece begins. -/
def posAt (s : ByteArray) (k : Nat) : Nat := match (pcs s.data.toList)[k]? with
  | some p => p.i
  | none => s.size
theorem posAt_some {s : ByteArray} {k : Nat} {p : Pc} (h : (pcs s.data.toList)[k]? = some p) : posAt s k = p.i := by simp [posAt, h]
theorem posAt_zero (s : ByteArray) : posAt s 0 = 0 := by
  unfold posAt
  by_cases h : s.data.toList = []
  · have : s.size = 0 := by have := congrArg List.length h; simpa using this
    simp [h, pcs, pcsFrom_nil, this]
  · simp [pcs, pcsFrom_cons 0 _ h]
theorem posAt_next {s : ByteArray} {k : Nat} {p : Pc} (h : (pcs s.data.toList)[k]? = some p) : posAt s (k + 1) = p.i + p.w ∧ pcsFrom p.i (s.data.toList.drop p.i) = p :: (pcs s.data.toList).drop (k + 1) := by
  have hk : k < (pcs s.data.toList).length := (List.getElem?_eq_some_iff.1 h).1
  have he : pcs s.data.toList = (pcs s.data.toList).take k ++ p :: (pcs s.data.toList).drop (k + 1) := by
    have h1 := List.drop_eq_getElem_cons hk
    have h2 : (pcs s.data.toList)[k] = p := (List.getElem?_eq_some_iff.1 h).2
    rw [h2] at h1
    rw [← h1, List.take_append_drop]
  obtain ⟨q1, q2, q3, q4⟩ := pcs_split s.data.toList _ p _ he
  have hlen : s.data.toList.length = s.size := by rw [Array.length_toList]; rfl
  refine ⟨?_, q3⟩
  unfold posAt
  have hget : (pcs s.data.toList)[k + 1]? = ((pcs s.data.toList).drop (k + 1))[0]? := by simp
  rw [hget, q4]
  by_cases hd' : s.data.toList.drop (p.i + p.w) = []
  · rw [hd', pcsFrom_nil]
    have h5 := congrArg List.length hd'
    simp only [List.length_drop, List.length_nil, hlen] at h5
    obtain ⟨_, h6, _⟩ := pcs_pos s.data.toList p (List.mem_of_getElem? h)
    simp; omega
  · rw [pcsFrom_cons _ _ hd']; simp
section
variable {F : Fence} {P : Program} {w0 : World} {K : Nat → Prop} {N : Nat} {dfs : List Deferred} {ops : Array Oper} {Q : Exit → Act → World → Prop} {rest : List Oper} {σ : List (Nat × Value)} {L : List Asn}
  {d : Nat} {t : TypeId} {ty : TypeId} {pos : String} {aft : Array Edge} {g : Option (Nat × Bool)} {x : Operand} {k : Nat} {s : ByteArray}
theorem TO.rangeStr [WideF F] (ht : P.underlying t = some .string) (hg : gd ops σ g = some true) (hd : d < N) (hx : ev σ x = some (.string s))
    (h : ∀ b, TO F P w0 K N dfs ops Q rest ((d, .pointer (some ⟨b, 0, none⟩)) :: σ) (L ++ [obj b (.stringIter s (posAt s 0))])) : TO F P w0 K N dfs ops Q (⟨some d, .range t x, ty, pos, aft, g⟩ :: rest) σ L :=
  TO.step hg (by simp) fun a w ha hw => ⟨.pointer (some ⟨w.heap.size, 0, none⟩), w.alloc (.stringIter s 0), by simp [execOp, ha.ev hx, Instr.range, run_underlying ht, Sem.run_bind], h _ _ _ (ha.put hd _) (by rw [posAt_zero]; exact hw.alloc _)⟩
theorem TO.nextStr [WideF F] {it m : Nat} {p : Pc} (hg : gd ops σ g = some true) (hd : d < N) (hx : ev σ x = some (.pointer (some ⟨it, 0, none⟩))) (hk : L[k]? = some (obj it (.stringIter s (posAt s m)))) (hp : (pcs s.data.toList)[m]? = some p)
    (h : TO F P w0 K N dfs ops Q rest ((d, .tuple #[.bool true, .int .i64 p.i, .int .i32 p.r]) :: σ) (L.set k (obj it (.stringIter s (posAt s (m + 1)))))) : TO F P w0 K N dfs ops Q (⟨some d, .next x true, ty, pos, aft, g⟩ :: rest) σ L := by
  refine TO.step hg (by simp) fun a w ha hw => ?_
  have hit := hw.obj hk
  rw [posAt_some hp] at hit
  obtain ⟨h1, h2⟩ := posAt_next hp
  have hmem := List.mem_of_getElem? hp
  obtain ⟨g1, g2, _⟩ := pcs_pos s.data.toList p hmem
  have hlen : s.data.toList.length = s.size := by rw [Array.length_toList]; rfl
  obtain ⟨r, wd, W1, e1, e2, e3, e4, e5, e6, e7, e8⟩ := next_some P w it s p.i hit (by omega)
  rw [h2] at e6
  have hpe : p = ⟨p.i, wd, r⟩ := (List.cons.inj e6).1
  have hw' : p.w = wd := congrArg Pc.w hpe
  have hr : p.r = r := congrArg Pc.r hpe
  obtain ⟨C1, c1, c2⟩ := hw.focus hk
  refine ⟨.tuple #[.bool true, .int .i64 p.i, .int .i32 p.r], W1, by rw [hr]; simp [execOp, ha.ev hx, e1, Sem.run_bind], h _ _ (ha.put hd _) (c2 _ C1 W1 ⟨?_, fun j hj => .inl hj⟩ ⟨c1.1, by rw [h1, hw']; exact e3⟩)⟩
  exact e2.weaken (fun i _ hi => by subst hi; exact (c1.1 _).2 rfl)
theorem TO.nextEnd [WideF F] {it m : Nat} (hg : gd ops σ g = some true) (hd : d < N) (hx : ev σ x = some (.pointer (some ⟨it, 0, none⟩))) (hk : L[k]? = some (obj it (.stringIter s (posAt s m)))) (hm : (pcs s.data.toList).length ≤ m)
    (h : TO F P w0 K N dfs ops Q rest ((d, .tuple #[.bool false]) :: σ) L) : TO F P w0 K N dfs ops Q (⟨some d, .next x true, ty, pos, aft, g⟩ :: rest) σ L := by
  refine TO.step hg (by simp) fun a w ha hw => ?_
  have hit := hw.obj hk
  have e : posAt s m = s.size := by simp [posAt, List.getElem?_eq_none hm]
  rw [e] at hit
  exact ⟨_, w, by simp [execOp, ha.ev hx, (next_none P w it s s.size hit (by omega)).1, Sem.run_bind], h _ _ (ha.put hd _) hw⟩
end
end Go.Proofs.Ytlamcpgnmeileaa
namespace Go.Proofs.Ytlamcpgnmeileaa
open Go.RowKit Go.Lib
set_option linter.unusedVariables false
set_option linter.unusedSimpArgs false
def str_f9f7e721 : ByteArray := ⟨(List.toArray (List.append [195, 159, 115, 115, 32, 195, 166, 97, 101, 32, 195, 184, 111, 32, 195, 176, 100, 32, 195, 190, 116, 104, 32, 196, 145, 100, 32, 196, 167, 104, 32, 196, 177, 105, 32, 196, 179, 105, 106] [32, 196, 184, 113, 32, 197, 128, 108, 32, 197, 130, 108, 32, 197, 137, 110, 32, 197, 139, 110, 103, 32, 197, 147, 111, 101, 32, 197, 167, 116, 32, 197, 191, 115, 32, 207, 130, 207, 131, 32]))⟩
def fold_Low_v (r1 : Int) : Option Bool := joinK (fun (j1 : Bool → Option Bool) => bcond (decide ((790 : Int) ≤ r1)) ( bcond (decide ((r1 : Int) ≤ 793)) ( j1 (decide ((r1 : Int) ≤ 793))
) ( bcond (decide ((796 : Int) ≤ r1)) ( bcond (decide ((r1 : Int) ≤ 800)) ( j1 (decide ((r1 : Int) ≤ 800))
) ( bcond (decide ((803 : Int) ≤ r1)) ( bcond (decide ((r1 : Int) ≤ 819)) ( j1 (decide ((r1 : Int) ≤ 819))
) ( bcond (decide ((825 : Int) ≤ r1)) ( bcond (decide ((r1 : Int) ≤ 828)) ( j1 (decide ((r1 : Int) ≤ 828))
) ( bcond (decide ((837 : Int) ≤ r1)) ( j1 (decide ((r1 : Int) ≤ 841))
) ( j1 false
)
)
) ( bcond (decide ((837 : Int) ≤ r1)) ( j1 (decide ((r1 : Int) ≤ 841))
) ( j1 false
)
)
)
) ( bcond (decide ((825 : Int) ≤ r1)) ( bcond (decide ((r1 : Int) ≤ 828)) ( j1 (decide ((r1 : Int) ≤ 828))
) ( bcond (decide ((837 : Int) ≤ r1)) ( j1 (decide ((r1 : Int) ≤ 841))
) ( j1 false
)
)
) ( bcond (decide ((837 : Int) ≤ r1)) ( j1 (decide ((r1 : Int) ≤ 841))
) ( j1 false
)
)
)
)
) ( bcond (decide ((803 : Int) ≤ r1)) ( bcond (decide ((r1 : Int) ≤ 819)) ( j1 (decide ((r1 : Int) ≤ 819))
) ( bcond (decide ((825 : Int) ≤ r1)) ( bcond (decide ((r1 : Int) ≤ 828)) ( j1 (decide ((r1 : Int) ≤ 828))
) ( bcond (decide ((837 : Int) ≤ r1)) ( j1 (decide ((r1 : Int) ≤ 841))
) ( j1 false
)
)
) ( bcond (decide ((837 : Int) ≤ r1)) ( j1 (decide ((r1 : Int) ≤ 841))
) ( j1 false
)
)
)
) ( bcond (decide ((825 : Int) ≤ r1)) ( bcond (decide ((r1 : Int) ≤ 828)) ( j1 (decide ((r1 : Int) ≤ 828))
) ( bcond (decide ((837 : Int) ≤ r1)) ( j1 (decide ((r1 : Int) ≤ 841))
) ( j1 false
)
)
) ( bcond (decide ((837 : Int) ≤ r1)) ( j1 (decide ((r1 : Int) ≤ 841))
) ( j1 false
)
)
)
)
)
) ( bcond (decide ((796 : Int) ≤ r1)) ( bcond (decide ((r1 : Int) ≤ 800)) ( j1 (decide ((r1 : Int) ≤ 800))
) ( bcond (decide ((803 : Int) ≤ r1)) ( bcond (decide ((r1 : Int) ≤ 819)) ( j1 (decide ((r1 : Int) ≤ 819))
) ( bcond (decide ((825 : Int) ≤ r1)) ( bcond (decide ((r1 : Int) ≤ 828)) ( j1 (decide ((r1 : Int) ≤ 828))
) ( bcond (decide ((837 : Int) ≤ r1)) ( j1 (decide ((r1 : Int) ≤ 841))
) ( j1 false
)
)
) ( bcond (decide ((837 : Int) ≤ r1)) ( j1 (decide ((r1 : Int) ≤ 841))
) ( j1 false
)
)
)
) ( bcond (decide ((825 : Int) ≤ r1)) ( bcond (decide ((r1 : Int) ≤ 828)) ( j1 (decide ((r1 : Int) ≤ 828))
) ( bcond (decide ((837 : Int) ≤ r1)) ( j1 (decide ((r1 : Int) ≤ 841))
) ( j1 false
)
)
) ( bcond (decide ((837 : Int) ≤ r1)) ( j1 (decide ((r1 : Int) ≤ 841))
) ( j1 false
)
)
)
)
) ( bcond (decide ((803 : Int) ≤ r1)) ( bcond (decide ((r1 : Int) ≤ 819)) ( j1 (decide ((r1 : Int) ≤ 819))
) ( bcond (decide ((825 : Int) ≤ r1)) ( bcond (decide ((r1 : Int) ≤ 828)) ( j1 (decide ((r1 : Int) ≤ 828))
) ( bcond (decide ((837 : Int) ≤ r1)) ( j1 (decide ((r1 : Int) ≤ 841))
) ( j1 false
)
)
) ( bcond (decide ((837 : Int) ≤ r1)) ( j1 (decide ((r1 : Int) ≤ 841))
) ( j1 false
)
)
)
) ( bcond (decide ((825 : Int) ≤ r1)) ( bcond (decide ((r1 : Int) ≤ 828)) ( j1 (decide ((r1 : Int) ≤ 828))
) ( bcond (decide ((837 : Int) ≤ r1)) ( j1 (decide ((r1 : Int) ≤ 841))
) ( j1 false
)
)
) ( bcond (decide ((837 : Int) ≤ r1)) ( j1 (decide ((r1 : Int) ≤ 841))
) ( j1 false
)
)
)
)
)
) (fun (x1 : Bool) => bcond (x1) ( some true
) ( joinK (fun (j2 : Bool → Option Bool) => bcond (decide ((845 : Int) ≤ r1)) ( bcond (decide ((r1 : Int) ≤ 846)) ( j2 (decide ((r1 : Int) ≤ 846))
) ( bcond (decide ((851 : Int) ≤ r1)) ( bcond (decide ((r1 : Int) ≤ 854)) ( j2 (decide ((r1 : Int) ≤ 854))
) ( bcond (decide ((857 : Int) ≤ r1)) ( j2 (decide ((r1 : Int) ≤ 858))
) ( j2 false
)
)
) ( bcond (decide ((857 : Int) ≤ r1)) ( j2 (decide ((r1 : Int) ≤ 858))
) ( j2 false
)
)
)
) ( bcond (decide ((851 : Int) ≤ r1)) ( bcond (decide ((r1 : Int) ≤ 854)) ( j2 (decide ((r1 : Int) ≤ 854))
) ( bcond (decide ((857 : Int) ≤ r1)) ( j2 (decide ((r1 : Int) ≤ 858))
) ( j2 false
)
)
) ( bcond (decide ((857 : Int) ≤ r1)) ( j2 (decide ((r1 : Int) ≤ 858))
) ( j2 false
)
)
)
) (fun (x2 : Bool) => bcond (x2) ( some true
) ( some false
)
)
)
)
set_option maxRecDepth 100000 in
set_option maxHeartbeats 4000000 in
theorem fold_Low_fn {r1 : Int} {r : Bool} (h : fold_Low_v r1 = some r) : FnP Try.prog 74 [.int .i32 r1] (.bool r) := by
 unfold fold_Low_v at h
 refine FnP.intro Try.func74 rfl Try.ntmps74 (by simp) ?_
 intro w0 K
 refine TC.seq (TC.region (TO.assign rfl dc rfl (TO.nil (TX.next (TC.seq (TC.block ?_))))))
 obtain ⟨j1, hj1, h⟩ := joinE h
 refine TC.cutN (β := Bool) 0 rfl (fun b => j1 b = some r) (fun b => []) (fun b => [(0, .int .i32 r1), (3, .bool b)]) (fun b => []) (fun cut => ?_) ?_
 ·
  refine cut (TC.seq (TC.region (TO.move rfl dc rfl (TO.bin rfl dc rfl rfl bin_geq (TO.move rfl dc rfl ?_)))))
  refine TO.split (s := 6) rfl (fun hb1 => ?_) (fun hb1 => ?_)
  ·
   have h := condT hb1 h
   refine TO.move rfl dc rfl (TO.bin rfl dc rfl rfl bin_leq (TO.pick (b := true) rfl dc rfl rfl (TO.assign rfl dc rfl (TO.nil (TX.next ?_)))))
   refine TC.condB rfl (fun hb2 => ?_) (fun hb2 => ?_)
   ·
    have h := condT hb2 h
    refine TC.skip ?_
    exact TX.meetD (decide ((r1 : Int) ≤ 793)) h rfl (Sbs.cons rfl (Sbs.cons rfl (Sbs.nil))) Splits.nil
   ·
    have h := condF hb2 h
    refine TC.seq (TC.region (TO.move rfl dc rfl (TO.bin rfl dc rfl rfl bin_geq (TO.move rfl dc rfl ?_))))
    refine TO.split (s := 12) rfl (fun hb3 => ?_) (fun hb3 => ?_)
    ·
     have h := condT hb3 h
     refine TO.move rfl dc rfl (TO.bin rfl dc rfl rfl bin_leq (TO.pick (b := true) rfl dc rfl rfl (TO.assign rfl dc rfl (TO.nil (TX.next ?_)))))
     refine TC.condB rfl (fun hb4 => ?_) (fun hb4 => ?_)
     ·
      have h := condT hb4 h
      refine TC.skip ?_
      exact TX.meetD (decide ((r1 : Int) ≤ 800)) h rfl (Sbs.cons rfl (Sbs.cons rfl (Sbs.nil))) Splits.nil
     ·
      have h := condF hb4 h
      refine TC.seq (TC.region (TO.move rfl dc rfl (TO.bin rfl dc rfl rfl bin_geq (TO.move rfl dc rfl ?_))))
      refine TO.split (s := 18) rfl (fun hb5 => ?_) (fun hb5 => ?_)
      ·
       have h := condT hb5 h
       refine TO.move rfl dc rfl (TO.bin rfl dc rfl rfl bin_leq (TO.pick (b := true) rfl dc rfl rfl (TO.assign rfl dc rfl (TO.nil (TX.next ?_)))))
       refine TC.condB rfl (fun hb6 => ?_) (fun hb6 => ?_)
       ·
        have h := condT hb6 h
        refine TC.skip ?_
        exact TX.meetD (decide ((r1 : Int) ≤ 819)) h rfl (Sbs.cons rfl (Sbs.cons rfl (Sbs.nil))) Splits.nil
       ·
        have h := condF hb6 h
        refine TC.seq (TC.region (TO.move rfl dc rfl (TO.bin rfl dc rfl rfl bin_geq (TO.move rfl dc rfl ?_))))
        refine TO.split (s := 24) rfl (fun hb7 => ?_) (fun hb7 => ?_)
        ·
         have h := condT hb7 h
         refine TO.move rfl dc rfl (TO.bin rfl dc rfl rfl bin_leq (TO.pick (b := true) rfl dc rfl rfl (TO.assign rfl dc rfl (TO.nil (TX.next ?_)))))
         refine TC.condB rfl (fun hb8 => ?_) (fun hb8 => ?_)
         ·
          have h := condT hb8 h
          refine TC.skip ?_
          exact TX.meetD (decide ((r1 : Int) ≤ 828)) h rfl (Sbs.cons rfl (Sbs.cons rfl (Sbs.nil))) Splits.nil
         ·
          have h := condF hb8 h
          refine TC.region (TO.move rfl dc rfl (TO.bin rfl dc rfl rfl bin_geq (TO.move rfl dc rfl ?_)))
          refine TO.split (s := 30) rfl (fun hb9 => ?_) (fun hb9 => ?_)
          ·
           have h := condT hb9 h
           refine TO.move rfl dc rfl (TO.bin rfl dc rfl rfl bin_leq (TO.pick (b := true) rfl dc rfl rfl (TO.assign rfl dc rfl (TO.nil ?_))))
           exact TX.meetD (decide ((r1 : Int) ≤ 841)) h rfl (Sbs.cons rfl (Sbs.cons rfl (Sbs.nil))) Splits.nil
          ·
           have h := condF hb9 h
           refine TO.skip rfl dc (TO.skip rfl dc (TO.pick (b := false) rfl dc rfl rfl (TO.assign rfl dc rfl (TO.nil ?_))))
           exact TX.meetD false h rfl (Sbs.cons rfl (Sbs.cons rfl (Sbs.nil))) Splits.nil
        ·
         have h := condF hb7 h
         refine TO.skip rfl dc (TO.skip rfl dc (TO.pick (b := false) rfl dc rfl rfl (TO.assign rfl dc rfl (TO.nil (TX.next (TC.condF rfl (TC.region (TO.move rfl dc rfl (TO.bin rfl dc rfl rfl bin_geq (TO.move rfl dc rfl ?_))))))))))
         refine TO.split (s := 30) rfl (fun hb10 => ?_) (fun hb10 => ?_)
         ·
          have h := condT hb10 h
          refine TO.move rfl dc rfl (TO.bin rfl dc rfl rfl bin_leq (TO.pick (b := true) rfl dc rfl rfl (TO.assign rfl dc rfl (TO.nil ?_))))
          exact TX.meetD (decide ((r1 : Int) ≤ 841)) h rfl (Sbs.cons rfl (Sbs.cons rfl (Sbs.nil))) Splits.nil
         ·
          have h := condF hb10 h
          refine TO.skip rfl dc (TO.skip rfl dc (TO.pick (b := false) rfl dc rfl rfl (TO.assign rfl dc rfl (TO.nil ?_))))
          exact TX.meetD false h rfl (Sbs.cons rfl (Sbs.cons rfl (Sbs.nil))) Splits.nil
      ·
       have h := condF hb5 h
       refine TO.skip rfl dc (TO.skip rfl dc (TO.pick (b := false) rfl dc rfl rfl (TO.assign rfl dc rfl (TO.nil (TX.next (TC.condF rfl (TC.seq (TC.region (TO.move rfl dc rfl (TO.bin rfl dc rfl rfl bin_geq (TO.move rfl dc rfl ?_)))))))))))
       refine TO.split (s := 24) rfl (fun hb11 => ?_) (fun hb11 => ?_)
       ·
        have h := condT hb11 h
        refine TO.move rfl dc rfl (TO.bin rfl dc rfl rfl bin_leq (TO.pick (b := true) rfl dc rfl rfl (TO.assign rfl dc rfl (TO.nil (TX.next ?_)))))
        refine TC.condB rfl (fun hb12 => ?_) (fun hb12 => ?_)
        ·
         have h := condT hb12 h
         refine TC.skip ?_
         exact TX.meetD (decide ((r1 : Int) ≤ 828)) h rfl (Sbs.cons rfl (Sbs.cons rfl (Sbs.nil))) Splits.nil
        ·
         have h := condF hb12 h
         refine TC.region (TO.move rfl dc rfl (TO.bin rfl dc rfl rfl bin_geq (TO.move rfl dc rfl ?_)))
         refine TO.split (s := 30) rfl (fun hb13 => ?_) (fun hb13 => ?_)
         ·
          have h := condT hb13 h
          refine TO.move rfl dc rfl (TO.bin rfl dc rfl rfl bin_leq (TO.pick (b := true) rfl dc rfl rfl (TO.assign rfl dc rfl (TO.nil ?_))))
          exact TX.meetD (decide ((r1 : Int) ≤ 841)) h rfl (Sbs.cons rfl (Sbs.cons rfl (Sbs.nil))) Splits.nil
         ·
          have h := condF hb13 h
          refine TO.skip rfl dc (TO.skip rfl dc (TO.pick (b := false) rfl dc rfl rfl (TO.assign rfl dc rfl (TO.nil ?_))))
          exact TX.meetD false h rfl (Sbs.cons rfl (Sbs.cons rfl (Sbs.nil))) Splits.nil
       ·
        have h := condF hb11 h
        refine TO.skip rfl dc (TO.skip rfl dc (TO.pick (b := false) rfl dc rfl rfl (TO.assign rfl dc rfl (TO.nil (TX.next (TC.condF rfl (TC.region (TO.move rfl dc rfl (TO.bin rfl dc rfl rfl bin_geq (TO.move rfl dc rfl ?_))))))))))
        refine TO.split (s := 30) rfl (fun hb14 => ?_) (fun hb14 => ?_)
        ·
         have h := condT hb14 h
         refine TO.move rfl dc rfl (TO.bin rfl dc rfl rfl bin_leq (TO.pick (b := true) rfl dc rfl rfl (TO.assign rfl dc rfl (TO.nil ?_))))
         exact TX.meetD (decide ((r1 : Int) ≤ 841)) h rfl (Sbs.cons rfl (Sbs.cons rfl (Sbs.nil))) Splits.nil
        ·
         have h := condF hb14 h
         refine TO.skip rfl dc (TO.skip rfl dc (TO.pick (b := false) rfl dc rfl rfl (TO.assign rfl dc rfl (TO.nil ?_))))
         exact TX.meetD false h rfl (Sbs.cons rfl (Sbs.cons rfl (Sbs.nil))) Splits.nil
    ·
     have h := condF hb3 h
     refine TO.skip rfl dc (TO.skip rfl dc (TO.pick (b := false) rfl dc rfl rfl (TO.assign rfl dc rfl (TO.nil (TX.next (TC.condF rfl (TC.seq (TC.region (TO.move rfl dc rfl (TO.bin rfl dc rfl rfl bin_geq (TO.move rfl dc rfl ?_)))))))))))
     refine TO.split (s := 18) rfl (fun hb15 => ?_) (fun hb15 => ?_)
     ·
      have h := condT hb15 h
      refine TO.move rfl dc rfl (TO.bin rfl dc rfl rfl bin_leq (TO.pick (b := true) rfl dc rfl rfl (TO.assign rfl dc rfl (TO.nil (TX.next ?_)))))
      refine TC.condB rfl (fun hb16 => ?_) (fun hb16 => ?_)
      ·
       have h := condT hb16 h
       refine TC.skip ?_
       exact TX.meetD (decide ((r1 : Int) ≤ 819)) h rfl (Sbs.cons rfl (Sbs.cons rfl (Sbs.nil))) Splits.nil
      ·
       have h := condF hb16 h
       refine TC.seq (TC.region (TO.move rfl dc rfl (TO.bin rfl dc rfl rfl bin_geq (TO.move rfl dc rfl ?_))))
       refine TO.split (s := 24) rfl (fun hb17 => ?_) (fun hb17 => ?_)
       ·
        have h := condT hb17 h
        refine TO.move rfl dc rfl (TO.bin rfl dc rfl rfl bin_leq (TO.pick (b := true) rfl dc rfl rfl (TO.assign rfl dc rfl (TO.nil (TX.next ?_)))))
        refine TC.condB rfl (fun hb18 => ?_) (fun hb18 => ?_)
        ·
         have h := condT hb18 h
         refine TC.skip ?_
         exact TX.meetD (decide ((r1 : Int) ≤ 828)) h rfl (Sbs.cons rfl (Sbs.cons rfl (Sbs.nil))) Splits.nil
        ·
         have h := condF hb18 h
         refine TC.region (TO.move rfl dc rfl (TO.bin rfl dc rfl rfl bin_geq (TO.move rfl dc rfl ?_)))
         refine TO.split (s := 30) rfl (fun hb19 => ?_) (fun hb19 => ?_)
         ·
          have h := condT hb19 h
          refine TO.move rfl dc rfl (TO.bin rfl dc rfl rfl bin_leq (TO.pick (b := true) rfl dc rfl rfl (TO.assign rfl dc rfl (TO.nil ?_))))
          exact TX.meetD (decide ((r1 : Int) ≤ 841)) h rfl (Sbs.cons rfl (Sbs.cons rfl (Sbs.nil))) Splits.nil
         ·
          have h := condF hb19 h
          refine TO.skip rfl dc (TO.skip rfl dc (TO.pick (b := false) rfl dc rfl rfl (TO.assign rfl dc rfl (TO.nil ?_))))
          exact TX.meetD false h rfl (Sbs.cons rfl (Sbs.cons rfl (Sbs.nil))) Splits.nil
       ·
        have h := condF hb17 h
        refine TO.skip rfl dc (TO.skip rfl dc (TO.pick (b := false) rfl dc rfl rfl (TO.assign rfl dc rfl (TO.nil (TX.next (TC.condF rfl (TC.region (TO.move rfl dc rfl (TO.bin rfl dc rfl rfl bin_geq (TO.move rfl dc rfl ?_))))))))))
        refine TO.split (s := 30) rfl (fun hb20 => ?_) (fun hb20 => ?_)
        ·
         have h := condT hb20 h
         refine TO.move rfl dc rfl (TO.bin rfl dc rfl rfl bin_leq (TO.pick (b := true) rfl dc rfl rfl (TO.assign rfl dc rfl (TO.nil ?_))))
         exact TX.meetD (decide ((r1 : Int) ≤ 841)) h rfl (Sbs.cons rfl (Sbs.cons rfl (Sbs.nil))) Splits.nil
        ·
         have h := condF hb20 h
         refine TO.skip rfl dc (TO.skip rfl dc (TO.pick (b := false) rfl dc rfl rfl (TO.assign rfl dc rfl (TO.nil ?_))))
         exact TX.meetD false h rfl (Sbs.cons rfl (Sbs.cons rfl (Sbs.nil))) Splits.nil
     ·
      have h := condF hb15 h
      refine TO.skip rfl dc (TO.skip rfl dc (TO.pick (b := false) rfl dc rfl rfl (TO.assign rfl dc rfl (TO.nil (TX.next (TC.condF rfl (TC.seq (TC.region (TO.move rfl dc rfl (TO.bin rfl dc rfl rfl bin_geq (TO.move rfl dc rfl ?_)))))))))))
      refine TO.split (s := 24) rfl (fun hb21 => ?_) (fun hb21 => ?_)
      ·
       have h := condT hb21 h
       refine TO.move rfl dc rfl (TO.bin rfl dc rfl rfl bin_leq (TO.pick (b := true) rfl dc rfl rfl (TO.assign rfl dc rfl (TO.nil (TX.next ?_)))))
       refine TC.condB rfl (fun hb22 => ?_) (fun hb22 => ?_)
       ·
        have h := condT hb22 h
        refine TC.skip ?_
        exact TX.meetD (decide ((r1 : Int) ≤ 828)) h rfl (Sbs.cons rfl (Sbs.cons rfl (Sbs.nil))) Splits.nil
       ·
        have h := condF hb22 h
        refine TC.region (TO.move rfl dc rfl (TO.bin rfl dc rfl rfl bin_geq (TO.move rfl dc rfl ?_)))
        refine TO.split (s := 30) rfl (fun hb23 => ?_) (fun hb23 => ?_)
        ·
         have h := condT hb23 h
         refine TO.move rfl dc rfl (TO.bin rfl dc rfl rfl bin_leq (TO.pick (b := true) rfl dc rfl rfl (TO.assign rfl dc rfl (TO.nil ?_))))
         exact TX.meetD (decide ((r1 : Int) ≤ 841)) h rfl (Sbs.cons rfl (Sbs.cons rfl (Sbs.nil))) Splits.nil
        ·
         have h := condF hb23 h
         refine TO.skip rfl dc (TO.skip rfl dc (TO.pick (b := false) rfl dc rfl rfl (TO.assign rfl dc rfl (TO.nil ?_))))
         exact TX.meetD false h rfl (Sbs.cons rfl (Sbs.cons rfl (Sbs.nil))) Splits.nil
      ·
       have h := condF hb21 h
       refine TO.skip rfl dc (TO.skip rfl dc (TO.pick (b := false) rfl dc rfl rfl (TO.assign rfl dc rfl (TO.nil (TX.next (TC.condF rfl (TC.region (TO.move rfl dc rfl (TO.bin rfl dc rfl rfl bin_geq (TO.move rfl dc rfl ?_))))))))))
       refine TO.split (s := 30) rfl (fun hb24 => ?_) (fun hb24 => ?_)
       ·
        have h := condT hb24 h
        refine TO.move rfl dc rfl (TO.bin rfl dc rfl rfl bin_leq (TO.pick (b := true) rfl dc rfl rfl (TO.assign rfl dc rfl (TO.nil ?_))))
        exact TX.meetD (decide ((r1 : Int) ≤ 841)) h rfl (Sbs.cons rfl (Sbs.cons rfl (Sbs.nil))) Splits.nil
       ·
        have h := condF hb24 h
        refine TO.skip rfl dc (TO.skip rfl dc (TO.pick (b := false) rfl dc rfl rfl (TO.assign rfl dc rfl (TO.nil ?_))))
        exact TX.meetD false h rfl (Sbs.cons rfl (Sbs.cons rfl (Sbs.nil))) Splits.nil
  ·
   have h := condF hb1 h
   refine TO.skip rfl dc (TO.skip rfl dc (TO.pick (b := false) rfl dc rfl rfl (TO.assign rfl dc rfl (TO.nil (TX.next (TC.condF rfl (TC.seq (TC.region (TO.move rfl dc rfl (TO.bin rfl dc rfl rfl bin_geq (TO.move rfl dc rfl ?_)))))))))))
   refine TO.split (s := 12) rfl (fun hb25 => ?_) (fun hb25 => ?_)
   ·
    have h := condT hb25 h
    refine TO.move rfl dc rfl (TO.bin rfl dc rfl rfl bin_leq (TO.pick (b := true) rfl dc rfl rfl (TO.assign rfl dc rfl (TO.nil (TX.next ?_)))))
    refine TC.condB rfl (fun hb26 => ?_) (fun hb26 => ?_)
    ·
     have h := condT hb26 h
     refine TC.skip ?_
     exact TX.meetD (decide ((r1 : Int) ≤ 800)) h rfl (Sbs.cons rfl (Sbs.cons rfl (Sbs.nil))) Splits.nil
    ·
     have h := condF hb26 h
     refine TC.seq (TC.region (TO.move rfl dc rfl (TO.bin rfl dc rfl rfl bin_geq (TO.move rfl dc rfl ?_))))
     refine TO.split (s := 18) rfl (fun hb27 => ?_) (fun hb27 => ?_)
     ·
      have h := condT hb27 h
      refine TO.move rfl dc rfl (TO.bin rfl dc rfl rfl bin_leq (TO.pick (b := true) rfl dc rfl rfl (TO.assign rfl dc rfl (TO.nil (TX.next ?_)))))
      refine TC.condB rfl (fun hb28 => ?_) (fun hb28 => ?_)
      ·
       have h := condT hb28 h
       refine TC.skip ?_
       exact TX.meetD (decide ((r1 : Int) ≤ 819)) h rfl (Sbs.cons rfl (Sbs.cons rfl (Sbs.nil))) Splits.nil
      ·
       have h := condF hb28 h
       refine TC.seq (TC.region (TO.move rfl dc rfl (TO.bin rfl dc rfl rfl bin_geq (TO.move rfl dc rfl ?_))))
       refine TO.split (s := 24) rfl (fun hb29 => ?_) (fun hb29 => ?_)
       ·
        have h := condT hb29 h
        refine TO.move rfl dc rfl (TO.bin rfl dc rfl rfl bin_leq (TO.pick (b := true) rfl dc rfl rfl (TO.assign rfl dc rfl (TO.nil (TX.next ?_)))))
        refine TC.condB rfl (fun hb30 => ?_) (fun hb30 => ?_)
        ·
         have h := condT hb30 h
         refine TC.skip ?_
         exact TX.meetD (decide ((r1 : Int) ≤ 828)) h rfl (Sbs.cons rfl (Sbs.cons rfl (Sbs.nil))) Splits.nil
        ·
         have h := condF hb30 h
         refine TC.region (TO.move rfl dc rfl (TO.bin rfl dc rfl rfl bin_geq (TO.move rfl dc rfl ?_)))
         refine TO.split (s := 30) rfl (fun hb31 => ?_) (fun hb31 => ?_)
         ·
          have h := condT hb31 h
          refine TO.move rfl dc rfl (TO.bin rfl dc rfl rfl bin_leq (TO.pick (b := true) rfl dc rfl rfl (TO.assign rfl dc rfl (TO.nil ?_))))
          exact TX.meetD (decide ((r1 : Int) ≤ 841)) h rfl (Sbs.cons rfl (Sbs.cons rfl (Sbs.nil))) Splits.nil
         ·
          have h := condF hb31 h
          refine TO.skip rfl dc (TO.skip rfl dc (TO.pick (b := false) rfl dc rfl rfl (TO.assign rfl dc rfl (TO.nil ?_))))
          exact TX.meetD false h rfl (Sbs.cons rfl (Sbs.cons rfl (Sbs.nil))) Splits.nil
       ·
        have h := condF hb29 h
        refine TO.skip rfl dc (TO.skip rfl dc (TO.pick (b := false) rfl dc rfl rfl (TO.assign rfl dc rfl (TO.nil (TX.next (TC.condF rfl (TC.region (TO.move rfl dc rfl (TO.bin rfl dc rfl rfl bin_geq (TO.move rfl dc rfl ?_))))))))))
        refine TO.split (s := 30) rfl (fun hb32 => ?_) (fun hb32 => ?_)
        ·
         have h := condT hb32 h
         refine TO.move rfl dc rfl (TO.bin rfl dc rfl rfl bin_leq (TO.pick (b := true) rfl dc rfl rfl (TO.assign rfl dc rfl (TO.nil ?_))))
         exact TX.meetD (decide ((r1 : Int) ≤ 841)) h rfl (Sbs.cons rfl (Sbs.cons rfl (Sbs.nil))) Splits.nil
        ·
         have h := condF hb32 h
         refine TO.skip rfl dc (TO.skip rfl dc (TO.pick (b := false) rfl dc rfl rfl (TO.assign rfl dc rfl (TO.nil ?_))))
         exact TX.meetD false h rfl (Sbs.cons rfl (Sbs.cons rfl (Sbs.nil))) Splits.nil
     ·
      have h := condF hb27 h
      refine TO.skip rfl dc (TO.skip rfl dc (TO.pick (b := false) rfl dc rfl rfl (TO.assign rfl dc rfl (TO.nil (TX.next (TC.condF rfl (TC.seq (TC.region (TO.move rfl dc rfl (TO.bin rfl dc rfl rfl bin_geq (TO.move rfl dc rfl ?_)))))))))))
      refine TO.split (s := 24) rfl (fun hb33 => ?_) (fun hb33 => ?_)
      ·
       have h := condT hb33 h
       refine TO.move rfl dc rfl (TO.bin rfl dc rfl rfl bin_leq (TO.pick (b := true) rfl dc rfl rfl (TO.assign rfl dc rfl (TO.nil (TX.next ?_)))))
       refine TC.condB rfl (fun hb34 => ?_) (fun hb34 => ?_)
       ·
        have h := condT hb34 h
        refine TC.skip ?_
        exact TX.meetD (decide ((r1 : Int) ≤ 828)) h rfl (Sbs.cons rfl (Sbs.cons rfl (Sbs.nil))) Splits.nil
       ·
        have h := condF hb34 h
        refine TC.region (TO.move rfl dc rfl (TO.bin rfl dc rfl rfl bin_geq (TO.move rfl dc rfl ?_)))
        refine TO.split (s := 30) rfl (fun hb35 => ?_) (fun hb35 => ?_)
        ·
         have h := condT hb35 h
         refine TO.move rfl dc rfl (TO.bin rfl dc rfl rfl bin_leq (TO.pick (b := true) rfl dc rfl rfl (TO.assign rfl dc rfl (TO.nil ?_))))
         exact TX.meetD (decide ((r1 : Int) ≤ 841)) h rfl (Sbs.cons rfl (Sbs.cons rfl (Sbs.nil))) Splits.nil
        ·
         have h := condF hb35 h
         refine TO.skip rfl dc (TO.skip rfl dc (TO.pick (b := false) rfl dc rfl rfl (TO.assign rfl dc rfl (TO.nil ?_))))
         exact TX.meetD false h rfl (Sbs.cons rfl (Sbs.cons rfl (Sbs.nil))) Splits.nil
      ·
       have h := condF hb33 h
       refine TO.skip rfl dc (TO.skip rfl dc (TO.pick (b := false) rfl dc rfl rfl (TO.assign rfl dc rfl (TO.nil (TX.next (TC.condF rfl (TC.region (TO.move rfl dc rfl (TO.bin rfl dc rfl rfl bin_geq (TO.move rfl dc rfl ?_))))))))))
       refine TO.split (s := 30) rfl (fun hb36 => ?_) (fun hb36 => ?_)
       ·
        have h := condT hb36 h
        refine TO.move rfl dc rfl (TO.bin rfl dc rfl rfl bin_leq (TO.pick (b := true) rfl dc rfl rfl (TO.assign rfl dc rfl (TO.nil ?_))))
        exact TX.meetD (decide ((r1 : Int) ≤ 841)) h rfl (Sbs.cons rfl (Sbs.cons rfl (Sbs.nil))) Splits.nil
       ·
        have h := condF hb36 h
        refine TO.skip rfl dc (TO.skip rfl dc (TO.pick (b := false) rfl dc rfl rfl (TO.assign rfl dc rfl (TO.nil ?_))))
        exact TX.meetD false h rfl (Sbs.cons rfl (Sbs.cons rfl (Sbs.nil))) Splits.nil
   ·
    have h := condF hb25 h
    refine TO.skip rfl dc (TO.skip rfl dc (TO.pick (b := false) rfl dc rfl rfl (TO.assign rfl dc rfl (TO.nil (TX.next (TC.condF rfl (TC.seq (TC.region (TO.move rfl dc rfl (TO.bin rfl dc rfl rfl bin_geq (TO.move rfl dc rfl ?_)))))))))))
    refine TO.split (s := 18) rfl (fun hb37 => ?_) (fun hb37 => ?_)
    ·
     have h := condT hb37 h
     refine TO.move rfl dc rfl (TO.bin rfl dc rfl rfl bin_leq (TO.pick (b := true) rfl dc rfl rfl (TO.assign rfl dc rfl (TO.nil (TX.next ?_)))))
     refine TC.condB rfl (fun hb38 => ?_) (fun hb38 => ?_)
     ·
      have h := condT hb38 h
      refine TC.skip ?_
      exact TX.meetD (decide ((r1 : Int) ≤ 819)) h rfl (Sbs.cons rfl (Sbs.cons rfl (Sbs.nil))) Splits.nil
     ·
      have h := condF hb38 h
      refine TC.seq (TC.region (TO.move rfl dc rfl (TO.bin rfl dc rfl rfl bin_geq (TO.move rfl dc rfl ?_))))
      refine TO.split (s := 24) rfl (fun hb39 => ?_) (fun hb39 => ?_)
      ·
       have h := condT hb39 h
       refine TO.move rfl dc rfl (TO.bin rfl dc rfl rfl bin_leq (TO.pick (b := true) rfl dc rfl rfl (TO.assign rfl dc rfl (TO.nil (TX.next ?_)))))
       refine TC.condB rfl (fun hb40 => ?_) (fun hb40 => ?_)
       ·
        have h := condT hb40 h
        refine TC.skip ?_
        exact TX.meetD (decide ((r1 : Int) ≤ 828)) h rfl (Sbs.cons rfl (Sbs.cons rfl (Sbs.nil))) Splits.nil
       ·
        have h := condF hb40 h
        refine TC.region (TO.move rfl dc rfl (TO.bin rfl dc rfl rfl bin_geq (TO.move rfl dc rfl ?_)))
        refine TO.split (s := 30) rfl (fun hb41 => ?_) (fun hb41 => ?_)
        ·
         have h := condT hb41 h
         refine TO.move rfl dc rfl (TO.bin rfl dc rfl rfl bin_leq (TO.pick (b := true) rfl dc rfl rfl (TO.assign rfl dc rfl (TO.nil ?_))))
         exact TX.meetD (decide ((r1 : Int) ≤ 841)) h rfl (Sbs.cons rfl (Sbs.cons rfl (Sbs.nil))) Splits.nil
        ·
         have h := condF hb41 h
         refine TO.skip rfl dc (TO.skip rfl dc (TO.pick (b := false) rfl dc rfl rfl (TO.assign rfl dc rfl (TO.nil ?_))))
         exact TX.meetD false h rfl (Sbs.cons rfl (Sbs.cons rfl (Sbs.nil))) Splits.nil
      ·
       have h := condF hb39 h
       refine TO.skip rfl dc (TO.skip rfl dc (TO.pick (b := false) rfl dc rfl rfl (TO.assign rfl dc rfl (TO.nil (TX.next (TC.condF rfl (TC.region (TO.move rfl dc rfl (TO.bin rfl dc rfl rfl bin_geq (TO.move rfl dc rfl ?_))))))))))
       refine TO.split (s := 30) rfl (fun hb42 => ?_) (fun hb42 => ?_)
       ·
        have h := condT hb42 h
        refine TO.move rfl dc rfl (TO.bin rfl dc rfl rfl bin_leq (TO.pick (b := true) rfl dc rfl rfl (TO.assign rfl dc rfl (TO.nil ?_))))
        exact TX.meetD (decide ((r1 : Int) ≤ 841)) h rfl (Sbs.cons rfl (Sbs.cons rfl (Sbs.nil))) Splits.nil
       ·
        have h := condF hb42 h
        refine TO.skip rfl dc (TO.skip rfl dc (TO.pick (b := false) rfl dc rfl rfl (TO.assign rfl dc rfl (TO.nil ?_))))
        exact TX.meetD false h rfl (Sbs.cons rfl (Sbs.cons rfl (Sbs.nil))) Splits.nil
    ·
     have h := condF hb37 h
     refine TO.skip rfl dc (TO.skip rfl dc (TO.pick (b := false) rfl dc rfl rfl (TO.assign rfl dc rfl (TO.nil (TX.next (TC.condF rfl (TC.seq (TC.region (TO.move rfl dc rfl (TO.bin rfl dc rfl rfl bin_geq (TO.move rfl dc rfl ?_)))))))))))
     refine TO.split (s := 24) rfl (fun hb43 => ?_) (fun hb43 => ?_)
     ·
      have h := condT hb43 h
      refine TO.move rfl dc rfl (TO.bin rfl dc rfl rfl bin_leq (TO.pick (b := true) rfl dc rfl rfl (TO.assign rfl dc rfl (TO.nil (TX.next ?_)))))
      refine TC.condB rfl (fun hb44 => ?_) (fun hb44 => ?_)
      ·
       have h := condT hb44 h
       refine TC.skip ?_
       exact TX.meetD (decide ((r1 : Int) ≤ 828)) h rfl (Sbs.cons rfl (Sbs.cons rfl (Sbs.nil))) Splits.nil
      ·
       have h := condF hb44 h
       refine TC.region (TO.move rfl dc rfl (TO.bin rfl dc rfl rfl bin_geq (TO.move rfl dc rfl ?_)))
       refine TO.split (s := 30) rfl (fun hb45 => ?_) (fun hb45 => ?_)
       ·
        have h := condT hb45 h
        refine TO.move rfl dc rfl (TO.bin rfl dc rfl rfl bin_leq (TO.pick (b := true) rfl dc rfl rfl (TO.assign rfl dc rfl (TO.nil ?_))))
        exact TX.meetD (decide ((r1 : Int) ≤ 841)) h rfl (Sbs.cons rfl (Sbs.cons rfl (Sbs.nil))) Splits.nil
       ·
        have h := condF hb45 h
        refine TO.skip rfl dc (TO.skip rfl dc (TO.pick (b := false) rfl dc rfl rfl (TO.assign rfl dc rfl (TO.nil ?_))))
        exact TX.meetD false h rfl (Sbs.cons rfl (Sbs.cons rfl (Sbs.nil))) Splits.nil
     ·
      have h := condF hb43 h
      refine TO.skip rfl dc (TO.skip rfl dc (TO.pick (b := false) rfl dc rfl rfl (TO.assign rfl dc rfl (TO.nil (TX.next (TC.condF rfl (TC.region (TO.move rfl dc rfl (TO.bin rfl dc rfl rfl bin_geq (TO.move rfl dc rfl ?_))))))))))
      refine TO.split (s := 30) rfl (fun hb46 => ?_) (fun hb46 => ?_)
      ·
       have h := condT hb46 h
       refine TO.move rfl dc rfl (TO.bin rfl dc rfl rfl bin_leq (TO.pick (b := true) rfl dc rfl rfl (TO.assign rfl dc rfl (TO.nil ?_))))
       exact TX.meetD (decide ((r1 : Int) ≤ 841)) h rfl (Sbs.cons rfl (Sbs.cons rfl (Sbs.nil))) Splits.nil
      ·
       have h := condF hb46 h
       refine TO.skip rfl dc (TO.skip rfl dc (TO.pick (b := false) rfl dc rfl rfl (TO.assign rfl dc rfl (TO.nil ?_))))
       exact TX.meetD false h rfl (Sbs.cons rfl (Sbs.cons rfl (Sbs.nil))) Splits.nil
 ·
  rintro x1 h
  rw [hj1] at h
  show TC _ _ _ _ _ ([]) _ _ [(0, .int .i32 r1), (3, .bool x1)] []
  refine TC.condB rfl (fun hb47 => ?_) (fun hb47 => ?_)
  ·
   have h := condT hb47 h
   refine TC.seq (TC.region (TO.assign rfl dc rfl (TO.nil (TX.next (TC.ret (TX.blockRet (TX.thenRet ?_)))))))
   cases h
   exact TX.fin (rs := [.tmp 2]) () (.inl rfl) Try.results74 (.cons (.tmp rfl) .nil) rfl Splits.nil
  ·
   have h := condF hb47 h
   obtain ⟨j2, hj2, h⟩ := joinE h
   refine TC.cutN (β := Bool) 0 rfl (fun b => j2 b = some r) (fun b => []) (fun b => [(34, .bool b)]) (fun b => []) (fun cut => ?_) ?_
   ·
    refine cut (TC.seq (TC.region (TO.move rfl dc rfl (TO.bin rfl dc rfl rfl bin_geq (TO.move rfl dc rfl ?_)))))
    refine TO.split (s := 37) rfl (fun hb48 => ?_) (fun hb48 => ?_)
    ·
     have h := condT hb48 h
     refine TO.move rfl dc rfl (TO.bin rfl dc rfl rfl bin_leq (TO.pick (b := true) rfl dc rfl rfl (TO.assign rfl dc rfl (TO.nil (TX.next ?_)))))
     refine TC.condB rfl (fun hb49 => ?_) (fun hb49 => ?_)
     ·
      have h := condT hb49 h
      refine TC.skip ?_
      exact TX.meetD (decide ((r1 : Int) ≤ 846)) h rfl (Sbs.cons rfl (Sbs.nil)) Splits.nil
     ·
      have h := condF hb49 h
      refine TC.seq (TC.region (TO.move rfl dc rfl (TO.bin rfl dc rfl rfl bin_geq (TO.move rfl dc rfl ?_))))
      refine TO.split (s := 43) rfl (fun hb50 => ?_) (fun hb50 => ?_)
      ·
       have h := condT hb50 h
       refine TO.move rfl dc rfl (TO.bin rfl dc rfl rfl bin_leq (TO.pick (b := true) rfl dc rfl rfl (TO.assign rfl dc rfl (TO.nil (TX.next ?_)))))
       refine TC.condB rfl (fun hb51 => ?_) (fun hb51 => ?_)
       ·
        have h := condT hb51 h
        refine TC.skip ?_
        exact TX.meetD (decide ((r1 : Int) ≤ 854)) h rfl (Sbs.cons rfl (Sbs.nil)) Splits.nil
       ·
        have h := condF hb51 h
        refine TC.region (TO.move rfl dc rfl (TO.bin rfl dc rfl rfl bin_geq (TO.move rfl dc rfl ?_)))
        refine TO.split (s := 49) rfl (fun hb52 => ?_) (fun hb52 => ?_)
        ·
         have h := condT hb52 h
         refine TO.move rfl dc rfl (TO.bin rfl dc rfl rfl bin_leq (TO.pick (b := true) rfl dc rfl rfl (TO.assign rfl dc rfl (TO.nil ?_))))
         exact TX.meetD (decide ((r1 : Int) ≤ 858)) h rfl (Sbs.cons rfl (Sbs.nil)) Splits.nil
        ·
         have h := condF hb52 h
         refine TO.skip rfl dc (TO.skip rfl dc (TO.pick (b := false) rfl dc rfl rfl (TO.assign rfl dc rfl (TO.nil ?_))))
         exact TX.meetD false h rfl (Sbs.cons rfl (Sbs.nil)) Splits.nil
      ·
       have h := condF hb50 h
       refine TO.skip rfl dc (TO.skip rfl dc (TO.pick (b := false) rfl dc rfl rfl (TO.assign rfl dc rfl (TO.nil (TX.next (TC.condF rfl (TC.region (TO.move rfl dc rfl (TO.bin rfl dc rfl rfl bin_geq (TO.move rfl dc rfl ?_))))))))))
       refine TO.split (s := 49) rfl (fun hb53 => ?_) (fun hb53 => ?_)
       ·
        have h := condT hb53 h
        refine TO.move rfl dc rfl (TO.bin rfl dc rfl rfl bin_leq (TO.pick (b := true) rfl dc rfl rfl (TO.assign rfl dc rfl (TO.nil ?_))))
        exact TX.meetD (decide ((r1 : Int) ≤ 858)) h rfl (Sbs.cons rfl (Sbs.nil)) Splits.nil
       ·
        have h := condF hb53 h
        refine TO.skip rfl dc (TO.skip rfl dc (TO.pick (b := false) rfl dc rfl rfl (TO.assign rfl dc rfl (TO.nil ?_))))
        exact TX.meetD false h rfl (Sbs.cons rfl (Sbs.nil)) Splits.nil
    ·
     have h := condF hb48 h
     refine TO.skip rfl dc (TO.skip rfl dc (TO.pick (b := false) rfl dc rfl rfl (TO.assign rfl dc rfl (TO.nil (TX.next (TC.condF rfl (TC.seq (TC.region (TO.move rfl dc rfl (TO.bin rfl dc rfl rfl bin_geq (TO.move rfl dc rfl ?_)))))))))))
     refine TO.split (s := 43) rfl (fun hb54 => ?_) (fun hb54 => ?_)
     ·
      have h := condT hb54 h
      refine TO.move rfl dc rfl (TO.bin rfl dc rfl rfl bin_leq (TO.pick (b := true) rfl dc rfl rfl (TO.assign rfl dc rfl (TO.nil (TX.next ?_)))))
      refine TC.condB rfl (fun hb55 => ?_) (fun hb55 => ?_)
      ·
       have h := condT hb55 h
       refine TC.skip ?_
       exact TX.meetD (decide ((r1 : Int) ≤ 854)) h rfl (Sbs.cons rfl (Sbs.nil)) Splits.nil
      ·
       have h := condF hb55 h
       refine TC.region (TO.move rfl dc rfl (TO.bin rfl dc rfl rfl bin_geq (TO.move rfl dc rfl ?_)))
       refine TO.split (s := 49) rfl (fun hb56 => ?_) (fun hb56 => ?_)
       ·
        have h := condT hb56 h
        refine TO.move rfl dc rfl (TO.bin rfl dc rfl rfl bin_leq (TO.pick (b := true) rfl dc rfl rfl (TO.assign rfl dc rfl (TO.nil ?_))))
        exact TX.meetD (decide ((r1 : Int) ≤ 858)) h rfl (Sbs.cons rfl (Sbs.nil)) Splits.nil
       ·
        have h := condF hb56 h
        refine TO.skip rfl dc (TO.skip rfl dc (TO.pick (b := false) rfl dc rfl rfl (TO.assign rfl dc rfl (TO.nil ?_))))
        exact TX.meetD false h rfl (Sbs.cons rfl (Sbs.nil)) Splits.nil
     ·
      have h := condF hb54 h
      refine TO.skip rfl dc (TO.skip rfl dc (TO.pick (b := false) rfl dc rfl rfl (TO.assign rfl dc rfl (TO.nil (TX.next (TC.condF rfl (TC.region (TO.move rfl dc rfl (TO.bin rfl dc rfl rfl bin_geq (TO.move rfl dc rfl ?_))))))))))
      refine TO.split (s := 49) rfl (fun hb57 => ?_) (fun hb57 => ?_)
      ·
       have h := condT hb57 h
       refine TO.move rfl dc rfl (TO.bin rfl dc rfl rfl bin_leq (TO.pick (b := true) rfl dc rfl rfl (TO.assign rfl dc rfl (TO.nil ?_))))
       exact TX.meetD (decide ((r1 : Int) ≤ 858)) h rfl (Sbs.cons rfl (Sbs.nil)) Splits.nil
      ·
       have h := condF hb57 h
       refine TO.skip rfl dc (TO.skip rfl dc (TO.pick (b := false) rfl dc rfl rfl (TO.assign rfl dc rfl (TO.nil ?_))))
       exact TX.meetD false h rfl (Sbs.cons rfl (Sbs.nil)) Splits.nil
   ·
    rintro x2 h
    rw [hj2] at h
    show TC _ _ _ _ _ ([]) _ _ [(34, .bool x2)] []
    refine TC.condB rfl (fun hb58 => ?_) (fun hb58 => ?_)
    ·
     have h := condT hb58 h
     refine TC.seq (TC.region (TO.assign rfl dc rfl (TO.nil (TX.next (TC.ret (TX.blockRet (TX.thenRet ?_)))))))
     cases h
     exact TX.fin (rs := [.tmp 2]) () (.inl rfl) Try.results74 (.cons (.tmp rfl) .nil) rfl Splits.nil
    ·
     have h := condF hb58 h
     refine TC.skip (TX.blockNormal (TX.next (TC.seq (TC.region (TO.assign rfl dc rfl (TO.nil (TX.next (TC.ret ?_))))))))
     cases h
     exact TX.fin (rs := [.tmp 2]) () (.inl rfl) Try.results74 (.cons (.tmp rfl) .nil) rfl Splits.nil
def fold_unit_letter_v (u1 : Gfold_unit) : Option Bool := bcond (decide ((0 : Int) ≤ u1.base)) ( grd (I32 u1.base) <| some (((kind u1.base) : Int) == 1)
) ( some false
)
set_option maxRecDepth 100000 in
set_option maxHeartbeats 4000000 in
theorem fold_unit_letter_fn {u1 : Gfold_unit} {u1_h0 u1_h1 : Hd} {r : Bool} (h : fold_unit_letter_v u1 = some r) : Fn Try.prog 42 [.agg #[.int .i64 u1.at_, .int .u8 u1.broken, .int .i32 u1.base, u1_h0.v, u1_h1.v]] [vec (encI (.i32)) 21 1 u1_h0.v u1.low, vec (encI (.i32)) 21 1 u1_h1.v u1.high] (fun _b : Unit => .bool r) (fun _b => [vec (encI (.i32)) 21 1 u1_h0.v u1.low, vec (encI (.i32)) 21 1 u1_h1.v u1.high]) := by
 unfold fold_unit_letter_v at h
 refine Fn.intro Try.func42 rfl Try.ntmps42 (by simp) ?_
 intro w0 K
 refine TC.seq (TC.region ?_)
 refine TO.box rfl dc rfl (fun b1 => ?_)
 refine TO.assign rfl dc rfl (TO.nil (TX.next (TC.seq (TC.region (TO.fieldAddr fl_46_2 rfl dc rfl (show _ = 2 from rfl) (TO.load (k := 2) sc_21 rfl dc rfl rfl rfl (TO.bin rfl dc rfl rfl bin_geq (TO.move rfl dc rfl ?_))))))))
 refine TO.split (s := 6) rfl (fun hb1 => ?_) (fun hb1 => ?_)
 ·
  have h := condT hb1 h
  refine TO.fieldAddr fl_46_2 rfl dc rfl (show _ = 2 from rfl) (TO.load (k := 2) sc_21 rfl dc rfl rfl rfl ?_)
  obtain ⟨hg1, h⟩ := grdE h
  refine TO.callP (v := .int .i64 (kind u1.base)) (vs := [.int .i32 u1.base]) rfl dc rfl rfl rfl en_16 (FnP.of_same fun w => kind_any u1.base w hg1.1 hg1.2) ?_
  refine TO.bin rfl dc rfl rfl bin_eql (TO.pick (b := true) rfl dc rfl rfl (TO.assign rfl dc rfl (TO.nil (TX.next (TC.ret ?_)))))
  cases h
  exact TX.fin (rs := [.tmp 2]) () (.inl rfl) Try.results42 (.cons (.tmp rfl) .nil) rfl (Splits.of [0, 1] kr rfl)
 ·
  have h := condF hb1 h
  refine TO.skip rfl dc (TO.skip rfl dc (TO.skip rfl dc (TO.skip rfl dc (TO.pick (b := false) rfl dc rfl rfl (TO.assign rfl dc rfl (TO.nil (TX.next (TC.ret ?_))))))))
  cases h
  exact TX.fin (rs := [.tmp 2]) () (.inl rfl) Try.results42 (.cons (.tmp rfl) .nil) rfl (Splits.of [0, 1] kr rfl)
def fold_unit_mark_v (u1 : Gfold_unit) (r1 : Int) : Option Gfold_unit := andThen (fold_Low_v r1) fun (r2 : Bool) => bcond (r2) ( grd (u1.low.length + 1 ≤ 2147483648) <| some (⟨(⟨u1.at_, u1.broken, u1.base, u1.low ++ [r1], u1.high⟩ : Gfold_unit).at_, (⟨u1.at_, u1.broken, u1.base, u1.low ++ [r1], u1.high⟩ : Gfold_unit).broken, (⟨u1.at_, u1.broken, u1.base, u1.low ++ [r1], u1.high⟩ : Gfold_unit).base, u1.low ++ [r1], u1.high⟩ : Gfold_unit)
) ( grd (u1.high.length + 1 ≤ 2147483648) <| some (⟨(⟨u1.at_, u1.broken, u1.base, u1.low, u1.high ++ [r1]⟩ : Gfold_unit).at_, (⟨u1.at_, u1.broken, u1.base, u1.low, u1.high ++ [r1]⟩ : Gfold_unit).broken, (⟨u1.at_, u1.broken, u1.base, u1.low, u1.high ++ [r1]⟩ : Gfold_unit).base, u1.low, u1.high ++ [r1]⟩ : Gfold_unit)
)
set_option maxRecDepth 100000 in
set_option maxHeartbeats 4000000 in
theorem fold_unit_mark_fn {vu1 : Value} {zu1 : List (Gfold_unit × Hd × Hd)} {iu1 : Nat} {u1 : Gfold_unit} {u1_h0 u1_h1 : Hd} (hiu1 : zu1[iu1]? = some (u1, (u1_h0, u1_h1))) {r1 : Int} {r : Gfold_unit} (h : fold_unit_mark_v u1 r1 = some r) : Fn Try.prog 50 [.pointer (some ⟨vblk vu1, iu1 * 5, none⟩), .int .i32 r1] [vec encN_Gfold_unit 46 5 vu1 zu1, vec (encI (.i32)) 21 1 u1_h0.v u1.low, vec (encI (.i32)) 21 1 u1_h1.v u1.high] (fun b : Hd × Hd => .tuple #[]) (fun b => [vec encN_Gfold_unit 46 5 vu1 (zu1.set iu1 (r, (b.1, b.2))), vec (encI (.i32)) 21 1 b.1.v r.low, vec (encI (.i32)) 21 1 b.2.v r.high]) := by
 unfold fold_unit_mark_v at h
 refine Fn.intro Try.func50 rfl Try.ntmps50 (by simp) ?_
 intro w0 K
 refine TC.seq (TC.region (TO.move rfl dc rfl ?_))
 obtain ⟨r2, hq1, h⟩ := andE h
 refine TO.callP (v := .bool r2) (vs := [.int .i32 r1]) rfl dc rfl rfl rfl en_74 (fold_Low_fn hq1) (TO.nil (TX.next ?_))
 refine TC.condB rfl (fun hb1 => ?_) (fun hb1 => ?_)
 ·
  have h := condT hb1 h
  refine TC.region (TO.move rfl dc rfl (TO.move rfl dc rfl (TO.nilCheck rfl dc rfl (TO.fieldAddr fl_46_3 rfl dc rfl (show _ = iu1 * 5 + 3 from rfl) (TO.loadVec (i := iu1) (j := 3) (k := 0) (q := (u1, (u1_h0, u1_h1))) sc_44 encN_Gfold_unit_len rfl dc rfl rfl hiu1 rfl dc rfl (TO.move rfl dc rfl ?_))))))
  refine TO.buildSlice (cs := [.int .i32 r1]) (te := 21) (ps := [(0, .tmp 11)]) rfl dc rfl (fun _ => by kernel_rfl) (fun b1 => ?_)
  obtain ⟨hg1, h⟩ := grdE h
  refine TO.appendVec (k := 1) (k2 := 3) (ys := [r1]) Try.underlying44 el_21 encI_len encI_one rfl dc rfl rfl rfl rfl rfl rfl hg1 (fun v1 => ?_)
  refine TO.nameHd (k := 1) rfl (fun hd1 he1 => ?_)
  subst he1
  show TO _ _ _ _ _ _ _ _ _ _ [vec encN_Gfold_unit 46 5 vu1 zu1, vec (encI (.i32)) 21 1 hd1.v (u1.low ++ [r1]), vec (encI (.i32)) 21 1 u1_h1.v u1.high, cells b1 [.int .i32 r1] 21]
  refine TO.nilCheck rfl dc rfl (TO.fieldAddr fl_46_3 rfl dc rfl (show _ = iu1 * 5 + 3 from rfl) ?_)
  refine TO.storeVec (i := iu1) (j := 3) (k := 0) (q := (u1, (u1_h0, u1_h1))) (q' := ((⟨u1.at_, u1.broken, u1.base, u1.low ++ [r1], u1.high⟩ : Gfold_unit), (hd1, u1_h1))) sz_44 encN_Gfold_unit_len rfl rfl rfl rfl hiu1 rfl dc rfl (fun _ _ => rfl) ?_
  show TO _ _ _ _ _ _ _ _ _ _ [vec encN_Gfold_unit 46 5 vu1 (zu1.set iu1 ((⟨u1.at_, u1.broken, u1.base, u1.low ++ [r1], u1.high⟩ : Gfold_unit), (hd1, u1_h1))), vec (encI (.i32)) 21 1 hd1.v (u1.low ++ [r1]), vec (encI (.i32)) 21 1 u1_h1.v u1.high, cells b1 [.int .i32 r1] 21]
  refine TO.nil (TX.ent (k := 0) rfl (vec_setE rfl (q1 := ((⟨u1.at_, u1.broken, u1.base, u1.low ++ [r1], u1.high⟩ : Gfold_unit), (hd1, u1_h1))) (q2 := ((⟨(⟨u1.at_, u1.broken, u1.base, u1.low ++ [r1], u1.high⟩ : Gfold_unit).at_, (⟨u1.at_, u1.broken, u1.base, u1.low ++ [r1], u1.high⟩ : Gfold_unit).broken, (⟨u1.at_, u1.broken, u1.base, u1.low ++ [r1], u1.high⟩ : Gfold_unit).base, u1.low ++ [r1], u1.high⟩ : Gfold_unit), (hd1, u1_h1))) encN_Gfold_unit_len rfl) ?_)
  show TX _ _ _ _ _ _ _ [vec encN_Gfold_unit 46 5 vu1 (zu1.set iu1 ((⟨(⟨u1.at_, u1.broken, u1.base, u1.low ++ [r1], u1.high⟩ : Gfold_unit).at_, (⟨u1.at_, u1.broken, u1.base, u1.low ++ [r1], u1.high⟩ : Gfold_unit).broken, (⟨u1.at_, u1.broken, u1.base, u1.low ++ [r1], u1.high⟩ : Gfold_unit).base, u1.low ++ [r1], u1.high⟩ : Gfold_unit), (hd1, u1_h1))), vec (encI (.i32)) 21 1 hd1.v (u1.low ++ [r1]), vec (encI (.i32)) 21 1 u1_h1.v u1.high, cells b1 [.int .i32 r1] 21]
  cases h
  exact TX.fin (rs := []) (hd1, u1_h1) (.inr rfl) Try.results50 .nil rfl (Splits.of [0, 1, 2] kr rfl)
 ·
  have h := condF hb1 h
  refine TC.region (TO.move rfl dc rfl (TO.move rfl dc rfl (TO.nilCheck rfl dc rfl (TO.fieldAddr fl_46_4 rfl dc rfl (show _ = iu1 * 5 + 4 from rfl) (TO.loadVec (i := iu1) (j := 4) (k := 0) (q := (u1, (u1_h0, u1_h1))) sc_44 encN_Gfold_unit_len rfl dc rfl rfl hiu1 rfl dc rfl (TO.move rfl dc rfl ?_))))))
  refine TO.buildSlice (cs := [.int .i32 r1]) (te := 21) (ps := [(0, .tmp 21)]) rfl dc rfl (fun _ => by kernel_rfl) (fun b2 => ?_)
  obtain ⟨hg2, h⟩ := grdE h
  refine TO.appendVec (k := 2) (k2 := 3) (ys := [r1]) Try.underlying44 el_21 encI_len encI_one rfl dc rfl rfl rfl rfl rfl rfl hg2 (fun v2 => ?_)
  refine TO.nameHd (k := 2) rfl (fun hd2 he2 => ?_)
  subst he2
  show TO _ _ _ _ _ _ _ _ _ _ [vec encN_Gfold_unit 46 5 vu1 zu1, vec (encI (.i32)) 21 1 u1_h0.v u1.low, vec (encI (.i32)) 21 1 hd2.v (u1.high ++ [r1]), cells b2 [.int .i32 r1] 21]
  refine TO.nilCheck rfl dc rfl (TO.fieldAddr fl_46_4 rfl dc rfl (show _ = iu1 * 5 + 4 from rfl) ?_)
  refine TO.storeVec (i := iu1) (j := 4) (k := 0) (q := (u1, (u1_h0, u1_h1))) (q' := ((⟨u1.at_, u1.broken, u1.base, u1.low, u1.high ++ [r1]⟩ : Gfold_unit), (u1_h0, hd2))) sz_44 encN_Gfold_unit_len rfl rfl rfl rfl hiu1 rfl dc rfl (fun _ _ => rfl) ?_
  show TO _ _ _ _ _ _ _ _ _ _ [vec encN_Gfold_unit 46 5 vu1 (zu1.set iu1 ((⟨u1.at_, u1.broken, u1.base, u1.low, u1.high ++ [r1]⟩ : Gfold_unit), (u1_h0, hd2))), vec (encI (.i32)) 21 1 u1_h0.v u1.low, vec (encI (.i32)) 21 1 hd2.v (u1.high ++ [r1]), cells b2 [.int .i32 r1] 21]
  refine TO.nil (TX.ent (k := 0) rfl (vec_setE rfl (q1 := ((⟨u1.at_, u1.broken, u1.base, u1.low, u1.high ++ [r1]⟩ : Gfold_unit), (u1_h0, hd2))) (q2 := ((⟨(⟨u1.at_, u1.broken, u1.base, u1.low, u1.high ++ [r1]⟩ : Gfold_unit).at_, (⟨u1.at_, u1.broken, u1.base, u1.low, u1.high ++ [r1]⟩ : Gfold_unit).broken, (⟨u1.at_, u1.broken, u1.base, u1.low, u1.high ++ [r1]⟩ : Gfold_unit).base, u1.low, u1.high ++ [r1]⟩ : Gfold_unit), (u1_h0, hd2))) encN_Gfold_unit_len rfl) ?_)
  show TX _ _ _ _ _ _ _ [vec encN_Gfold_unit 46 5 vu1 (zu1.set iu1 ((⟨(⟨u1.at_, u1.broken, u1.base, u1.low, u1.high ++ [r1]⟩ : Gfold_unit).at_, (⟨u1.at_, u1.broken, u1.base, u1.low, u1.high ++ [r1]⟩ : Gfold_unit).broken, (⟨u1.at_, u1.broken, u1.base, u1.low, u1.high ++ [r1]⟩ : Gfold_unit).base, u1.low, u1.high ++ [r1]⟩ : Gfold_unit), (u1_h0, hd2))), vec (encI (.i32)) 21 1 u1_h0.v u1.low, vec (encI (.i32)) 21 1 hd2.v (u1.high ++ [r1]), cells b2 [.int .i32 r1] 21]
  cases h
  exact TX.fin (rs := []) (u1_h0, hd2) (.inr rfl) Try.results50 .nil rfl (Splits.of [0, 1, 2] kr rfl)
def fold_parted_b (rcall : (List (Int × Gfold_pair)) → Int → Option (List Int)) (Msplit1 : List (Int × Gfold_pair)) (r1 : Int) : Option (List Int) := bcond (!((getM r1 Msplit1).isSome)) ( some ([r1] : List Int)
) ( andThen (rcall Msplit1 (((getM r1 Msplit1).getD (⟨0, 0⟩ : Gfold_pair)).e0)) fun (r2 : (List Int)) => grd (r2.length + 1 ≤ 2147483648) <| some (r2 ++ [((getM r1 Msplit1).getD (⟨0, 0⟩ : Gfold_pair)).e1])
)
def fold_parted_v (Msplit1 : List (Int × Gfold_pair)) (r1 : Int) : Option (List Int) := loopG (fun _ _ => none) fold_parted_b fuel Msplit1 r1
set_option maxRecDepth 100000 in
set_option maxHeartbeats 4000000 in
theorem fold_parted_fb (n : Nat) : ∀ {bsplit1 : Nat} {Msplit1 : List (Int × Gfold_pair)} {r1 : Int} {r : (List Int)} (_ : loopG (fun _ _ => none) fold_parted_b n Msplit1 r1 = some r), Fn Try.prog 51 [.map (some bsplit1), .int .i32 r1] [mapA (fun n : Int => Value.int .i32 n) (fun p : Gfold_pair => Value.agg #[.int .i32 p.e0, .int .i32 p.e1]) bsplit1 Msplit1] (fun v0 : Value => v0) (fun v0 => [mapA (fun n : Int => Value.int .i32 n) (fun p : Gfold_pair => Value.agg #[.int .i32 p.e0, .int .i32 p.e1]) bsplit1 Msplit1, vec (encI (.i32)) 21 1 v0 r]) := by
 induction n with
 | zero => intro bsplit1 Msplit1 r1 r h; exact noneE h
 | succ n hrec =>
 intro bsplit1 Msplit1 r1 r h
 rw [loopG_succ] at h
 revert hrec h
 generalize loopG (fun _ _ => none) fold_parted_b n = rcall
 intro hrec h
 unfold fold_parted_b at h
 refine Fn.intro Try.func51 rfl Try.ntmps51 (by simp) ?_
 intro w0 K
 refine TC.seq (TC.region (TO.assign rfl dc rfl (TO.nil (TX.next (TC.seq (TC.region (TO.move rfl dc rfl (TO.move rfl dc rfl ?_))))))))
 refine TO.lookupOk (k := 0) (ek := (fun n : Int => Value.int .i32 n)) (ev' := (fun p : Gfold_pair => Value.agg #[.int .i32 p.e0, .int .i32 p.e1])) (kk := r1) (z0 := (⟨0, 0⟩ : Gfold_pair)) (KeyOk.int Try.underlying21) Try.underlying67 kr rfl dc rfl rfl rfl ?_
 refine TO.move rfl dc rfl (TO.extract rfl dc rfl rfl (TO.extract rfl dc rfl rfl ?_))
 refine TO.alloc zr_73 rfl dc (fun b1 => ?_)
 refine TO.stores (k := 1) (vs := [.int .i32 (((getM r1 Msplit1).getD (⟨0, 0⟩ : Gfold_pair)).e0), .int .i32 (((getM r1 Msplit1).getD (⟨0, 0⟩ : Gfold_pair)).e1)]) (l' := [.int .i32 (((getM r1 Msplit1).getD (⟨0, 0⟩ : Gfold_pair)).e0), .int .i32 (((getM r1 Msplit1).getD (⟨0, 0⟩ : Gfold_pair)).e1)]) sz_73 rfl rfl rfl rfl rfl (show _ ≤ _ by simp) rfl rfl ?_
 show TO _ _ _ _ _ _ _ _ _ _ [mapA (fun n : Int => Value.int .i32 n) (fun p : Gfold_pair => Value.agg #[.int .i32 p.e0, .int .i32 p.e1]) bsplit1 Msplit1, cells b1 [.int .i32 (((getM r1 Msplit1).getD (⟨0, 0⟩ : Gfold_pair)).e0), .int .i32 (((getM r1 Msplit1).getD (⟨0, 0⟩ : Gfold_pair)).e1)] 73]
 refine TO.assign rfl dc rfl (TO.nil (TX.next (TC.seq (TC.seq (TC.region (TO.move rfl dc rfl (TO.un rfl dc rfl un_not (TO.nil (TX.next ?_)))))))))
 refine TC.condB rfl (fun hb1 => ?_) (fun hb1 => ?_)
 ·
  have h := condT hb1 h
  refine TC.seq (TC.region (TO.move rfl dc rfl ?_))
  refine TO.buildSlice (cs := [.int .i32 r1]) (te := 21) (ps := [(0, .tmp 15)]) rfl dc rfl (fun _ => by kernel_rfl) (fun b2 => ?_)
  refine TO.assign rfl dc rfl (TO.nil (TX.next (TC.ret (TX.thenRet (TX.toVec ([r1] : List Int) (k := 2) rfl encI_len rfl (show 1 ≤ maxLen by decide) ?_)))))
  show TX _ _ _ _ _ _ _ [mapA (fun n : Int => Value.int .i32 n) (fun p : Gfold_pair => Value.agg #[.int .i32 p.e0, .int .i32 p.e1]) bsplit1 Msplit1, cells b1 [.int .i32 (((getM r1 Msplit1).getD (⟨0, 0⟩ : Gfold_pair)).e0), .int .i32 (((getM r1 Msplit1).getD (⟨0, 0⟩ : Gfold_pair)).e1)] 73, vec (encI (.i32)) 21 1 (.slice (some ⟨b2, 0, none⟩) 1 1) ([r1] : List Int)]
  cases h
  exact TX.fin (rs := [.tmp 4]) (.slice (some ⟨b2, 0, none⟩) 1 1) (.inl rfl) Try.results51 (.cons (.tmp rfl) .nil) rfl (Splits.of [0, 2] kr rfl)
 ·
  have h := condF hb1 h
  refine TC.skip (TX.next (TC.seq ?_))
  obtain ⟨r2, hq1, h⟩ := andE h
  obtain ⟨hg1, h⟩ := grdE h
  refine TC.pad 2 ?_
  show TC _ _ _ _ _ _ _ _ _ [mapA (fun n : Int => Value.int .i32 n) (fun p : Gfold_pair => Value.agg #[.int .i32 p.e0, .int .i32 p.e1]) bsplit1 Msplit1, cells b1 [.int .i32 (((getM r1 Msplit1).getD (⟨0, 0⟩ : Gfold_pair)).e0), .int .i32 (((getM r1 Msplit1).getD (⟨0, 0⟩ : Gfold_pair)).e1)] 73, emp, emp]
  refine let vals1 : (Value × Nat) → List (Nat × Nat × Value) := fun b => [(0, 17, .map (some bsplit1)), (1, 18, .pointer (some ⟨b1, 0, none⟩)), (2, 19, .int .i32 (((getM r1 Msplit1).getD (⟨0, 0⟩ : Gfold_pair)).e0)), (3, 20, b.1), (4, 21, .pointer (some ⟨b1, 1, none⟩)), (5, 22, .int .i32 (((getM r1 Msplit1).getD (⟨0, 0⟩ : Gfold_pair)).e1)), (6, 23, .slice (some ⟨b.2, 0, none⟩) 1 1)]; let LL1 : (Nat → Prop) → (Value × Nat) → List Asn := fun D b => [mapA (fun n : Int => Value.int .i32 n) (fun p : Gfold_pair => Value.agg #[.int .i32 p.e0, .int .i32 p.e1]) bsplit1 Msplit1, cells b1 [.int .i32 (((getM r1 Msplit1).getD (⟨0, 0⟩ : Gfold_pair)).e0), .int .i32 (((getM r1 Msplit1).getD (⟨0, 0⟩ : Gfold_pair)).e1)] 73, eD D emp [(3, vec (encI (.i32)) 21 1 b.1 r2)], eD D emp [(6, cells b.2 [.int .i32 (((getM r1 Msplit1).getD (⟨0, 0⟩ : Gfold_pair)).e1)] 21)]]; ?_
  refine TC.drawG (β := Value × Nat) 7 ((.slice none 0 0 : Value), (0 : Nat)) vals1 LL1 mixed kr kr dc (fun _ => rfl) (cons_eq rfl (cons_eq rfl (cons_eq eD_none (cons_eq eD_none rfl)))) (DrawG.cons ?_ (DrawG.cons ?_ (DrawG.cons ?_ (DrawG.cons ?_ (DrawG.cons ?_ (DrawG.cons ?_ (DrawG.cons ?_ DrawG.nil))))))) ?_
  ·
   intro D b hn hd hcl
   obtain ⟨v1, b3⟩ := b
   refine TO.rewL (L' := [mapA (fun n : Int => Value.int .i32 n) (fun p : Gfold_pair => Value.agg #[.int .i32 p.e0, .int .i32 p.e1]) bsplit1 Msplit1, cells b1 [.int .i32 (((getM r1 Msplit1).getD (⟨0, 0⟩ : Gfold_pair)).e0), .int .i32 (((getM r1 Msplit1).getD (⟨0, 0⟩ : Gfold_pair)).e1)] 73, emp, eD D emp [(6, cells b3 [.int .i32 (((getM r1 Msplit1).getD (⟨0, 0⟩ : Gfold_pair)).e1)] 21)]]) (cons_eq rfl (cons_eq rfl (cons_eq (eD_miss (fun hD => hn (hcl 3 _ rfl hD 0 dc)) eD_nil) (cons_eq rfl rfl)))) ?_
   refine TO.move rfl dc (dl_old (by rfl) rfl) ?_
   exact TX.valG (v1, b3) 0 (by rfl) (by rfl) rfl (dl_cons_eq (fun _ => rfl) (dl_cons_eq (fun _ => rfl) (dl_cons_eq (fun _ => rfl) (dl_cons_eq (fun _ => rfl) (dl_cons_eq (fun _ => rfl) (dl_cons_eq (fun _ => rfl) (dl_cons_eq (fun _ => rfl) rfl))))))) (cons_eq rfl (cons_eq rfl (cons_eq ((eD_skip (by rfl)).trans (eD_miss (fun hD => hn (hcl 3 _ rfl hD 0 dc)) eD_nil)) (cons_eq ((eD_skip (by rfl)).trans rfl) rfl))))
  ·
   intro D b hn hd hcl
   obtain ⟨v1, b3⟩ := b
   refine TO.rewL (L' := [mapA (fun n : Int => Value.int .i32 n) (fun p : Gfold_pair => Value.agg #[.int .i32 p.e0, .int .i32 p.e1]) bsplit1 Msplit1, cells b1 [.int .i32 (((getM r1 Msplit1).getD (⟨0, 0⟩ : Gfold_pair)).e0), .int .i32 (((getM r1 Msplit1).getD (⟨0, 0⟩ : Gfold_pair)).e1)] 73, emp, eD D emp [(6, cells b3 [.int .i32 (((getM r1 Msplit1).getD (⟨0, 0⟩ : Gfold_pair)).e1)] 21)]]) (cons_eq rfl (cons_eq rfl (cons_eq (eD_miss (fun hD => hn (hcl 2 _ rfl (hcl 3 _ rfl hD 2 dc) 1 dc)) eD_nil) (cons_eq rfl rfl)))) ?_
   refine TO.indexArr dc Try.underlying73 sz_21 rfl dc (dl_old (by rfl) rfl) rfl (show _ = 0 from rfl) ?_
   exact TX.valG (v1, b3) 1 (by rfl) (by rfl) rfl (dl_cons_eq (fun _ => rfl) (dl_cons_eq (fun _ => rfl) (dl_cons_eq (fun _ => rfl) (dl_cons_eq (fun _ => rfl) (dl_cons_eq (fun _ => rfl) (dl_cons_eq (fun _ => rfl) (dl_cons_eq (fun _ => rfl) rfl))))))) (cons_eq rfl (cons_eq rfl (cons_eq ((eD_skip (by rfl)).trans (eD_miss (fun hD => hn (hcl 2 _ rfl (hcl 3 _ rfl hD 2 dc) 1 dc)) eD_nil)) (cons_eq ((eD_skip (by rfl)).trans rfl) rfl))))
  ·
   intro D b hn hd hcl
   obtain ⟨v1, b3⟩ := b
   refine TO.rewL (L' := [mapA (fun n : Int => Value.int .i32 n) (fun p : Gfold_pair => Value.agg #[.int .i32 p.e0, .int .i32 p.e1]) bsplit1 Msplit1, cells b1 [.int .i32 (((getM r1 Msplit1).getD (⟨0, 0⟩ : Gfold_pair)).e0), .int .i32 (((getM r1 Msplit1).getD (⟨0, 0⟩ : Gfold_pair)).e1)] 73, emp, eD D emp [(6, cells b3 [.int .i32 (((getM r1 Msplit1).getD (⟨0, 0⟩ : Gfold_pair)).e1)] 21)]]) (cons_eq rfl (cons_eq rfl (cons_eq (eD_miss (fun hD => hn (hcl 3 _ rfl hD 2 dc)) eD_nil) (cons_eq rfl rfl)))) ?_
   refine TO.load (k := 1) sc_21 rfl dc (dl_lookup (m := 1) rfl rfl (hd 1 dc)) rfl rfl ?_
   exact TX.valG (v1, b3) 2 (by rfl) (by rfl) rfl (dl_cons_eq (fun _ => rfl) (dl_cons_eq (fun _ => rfl) (dl_cons_eq (fun _ => rfl) (dl_cons_eq (fun _ => rfl) (dl_cons_eq (fun _ => rfl) (dl_cons_eq (fun _ => rfl) (dl_cons_eq (fun _ => rfl) rfl))))))) (cons_eq rfl (cons_eq rfl (cons_eq ((eD_skip (by rfl)).trans (eD_miss (fun hD => hn (hcl 3 _ rfl hD 2 dc)) eD_nil)) (cons_eq ((eD_skip (by rfl)).trans rfl) rfl))))
  ·
   intro D b hn hd hcl
   obtain ⟨_, b3⟩ := b
   refine TO.rewL (L' := [mapA (fun n : Int => Value.int .i32 n) (fun p : Gfold_pair => Value.agg #[.int .i32 p.e0, .int .i32 p.e1]) bsplit1 Msplit1, cells b1 [.int .i32 (((getM r1 Msplit1).getD (⟨0, 0⟩ : Gfold_pair)).e0), .int .i32 (((getM r1 Msplit1).getD (⟨0, 0⟩ : Gfold_pair)).e1)] 73, emp, eD D emp [(6, cells b3 [.int .i32 (((getM r1 Msplit1).getD (⟨0, 0⟩ : Gfold_pair)).e1)] 21)]]) (cons_eq rfl (cons_eq rfl (cons_eq (eD_miss hn eD_nil) (cons_eq rfl rfl)))) ?_
   refine TO.call (vs := [.map (some bsplit1), .int .i32 (((getM r1 Msplit1).getD (⟨0, 0⟩ : Gfold_pair)).e0)]) rfl dc rfl (evL.cons (dl_lookup (m := 0) rfl rfl (hd 0 dc)) (evL.cons (dl_lookup (m := 2) rfl rfl (hd 2 dc)) evL.nil)) rfl en_51 (hrec hq1) (Splits.of [0] kr rfl) ?_
   rintro v1
   show TO _ _ _ _ _ _ _ _ _ _ [emp, cells b1 [.int .i32 (((getM r1 Msplit1).getD (⟨0, 0⟩ : Gfold_pair)).e0), .int .i32 (((getM r1 Msplit1).getD (⟨0, 0⟩ : Gfold_pair)).e1)] 73, emp, eD D emp [(6, cells b3 [.int .i32 (((getM r1 Msplit1).getD (⟨0, 0⟩ : Gfold_pair)).e1)] 21)], mapA (fun n : Int => Value.int .i32 n) (fun p : Gfold_pair => Value.agg #[.int .i32 p.e0, .int .i32 p.e1]) bsplit1 Msplit1, vec (encI (.i32)) 21 1 v1 r2]
   refine TO.weakenL (L' := [mapA (fun n : Int => Value.int .i32 n) (fun p : Gfold_pair => Value.agg #[.int .i32 p.e0, .int .i32 p.e1]) bsplit1 Msplit1, cells b1 [.int .i32 (((getM r1 Msplit1).getD (⟨0, 0⟩ : Gfold_pair)).e0), .int .i32 (((getM r1 Msplit1).getD (⟨0, 0⟩ : Gfold_pair)).e1)] 73, emp, eD D emp [(6, cells b3 [.int .i32 (((getM r1 Msplit1).getD (⟨0, 0⟩ : Gfold_pair)).e1)] 21)], vec (encI (.i32)) 21 1 v1 r2]) (Splits.of [4, 1, 2, 3, 5] kr rfl) ?_
   refine TO.place 2 rfl rfl ?_
   show TO _ _ _ _ _ _ _ _ _ _ [mapA (fun n : Int => Value.int .i32 n) (fun p : Gfold_pair => Value.agg #[.int .i32 p.e0, .int .i32 p.e1]) bsplit1 Msplit1, cells b1 [.int .i32 (((getM r1 Msplit1).getD (⟨0, 0⟩ : Gfold_pair)).e0), .int .i32 (((getM r1 Msplit1).getD (⟨0, 0⟩ : Gfold_pair)).e1)] 73, vec (encI (.i32)) 21 1 v1 r2, eD D emp [(6, cells b3 [.int .i32 (((getM r1 Msplit1).getD (⟨0, 0⟩ : Gfold_pair)).e1)] 21)]]
   exact TX.valG (v1, b3) 3 (by rfl) (by rfl) rfl (dl_cons_eq (fun _ => rfl) (dl_cons_eq (fun _ => rfl) (dl_cons_eq (fun _ => rfl) (dl_cons_eq (fun hD => absurd hD hn) (dl_cons_eq (fun _ => rfl) (dl_cons_eq (fun _ => rfl) (dl_cons_eq (fun _ => rfl) rfl))))))) (cons_eq rfl (cons_eq rfl (cons_eq (eD_hit (Or.inr rfl) rfl) (cons_eq ((eD_skip (by rfl)).trans rfl) rfl))))
  ·
   intro D b hn hd hcl
   obtain ⟨v1, b3⟩ := b
   refine TO.rewL (L' := [mapA (fun n : Int => Value.int .i32 n) (fun p : Gfold_pair => Value.agg #[.int .i32 p.e0, .int .i32 p.e1]) bsplit1 Msplit1, cells b1 [.int .i32 (((getM r1 Msplit1).getD (⟨0, 0⟩ : Gfold_pair)).e0), .int .i32 (((getM r1 Msplit1).getD (⟨0, 0⟩ : Gfold_pair)).e1)] 73, eD D emp [(3, vec (encI (.i32)) 21 1 v1 r2)], emp]) (cons_eq rfl (cons_eq rfl (cons_eq rfl (cons_eq (eD_miss (fun hD => hn (hcl 5 _ rfl (hcl 6 _ rfl hD 5 dc) 4 dc)) eD_nil) rfl)))) ?_
   refine TO.indexArr dc Try.underlying73 sz_21 rfl dc (dl_old (by rfl) rfl) rfl (show _ = 1 from rfl) ?_
   exact TX.valG (v1, b3) 4 (by rfl) (by rfl) rfl (dl_cons_eq (fun _ => rfl) (dl_cons_eq (fun _ => rfl) (dl_cons_eq (fun _ => rfl) (dl_cons_eq (fun _ => rfl) (dl_cons_eq (fun _ => rfl) (dl_cons_eq (fun _ => rfl) (dl_cons_eq (fun _ => rfl) rfl))))))) (cons_eq rfl (cons_eq rfl (cons_eq ((eD_skip (by rfl)).trans rfl) (cons_eq ((eD_skip (by rfl)).trans (eD_miss (fun hD => hn (hcl 5 _ rfl (hcl 6 _ rfl hD 5 dc) 4 dc)) eD_nil)) rfl))))
  ·
   intro D b hn hd hcl
   obtain ⟨v1, b3⟩ := b
   refine TO.rewL (L' := [mapA (fun n : Int => Value.int .i32 n) (fun p : Gfold_pair => Value.agg #[.int .i32 p.e0, .int .i32 p.e1]) bsplit1 Msplit1, cells b1 [.int .i32 (((getM r1 Msplit1).getD (⟨0, 0⟩ : Gfold_pair)).e0), .int .i32 (((getM r1 Msplit1).getD (⟨0, 0⟩ : Gfold_pair)).e1)] 73, eD D emp [(3, vec (encI (.i32)) 21 1 v1 r2)], emp]) (cons_eq rfl (cons_eq rfl (cons_eq rfl (cons_eq (eD_miss (fun hD => hn (hcl 6 _ rfl hD 5 dc)) eD_nil) rfl)))) ?_
   refine TO.load (k := 1) sc_21 rfl dc (dl_lookup (m := 4) rfl rfl (hd 4 dc)) rfl rfl ?_
   exact TX.valG (v1, b3) 5 (by rfl) (by rfl) rfl (dl_cons_eq (fun _ => rfl) (dl_cons_eq (fun _ => rfl) (dl_cons_eq (fun _ => rfl) (dl_cons_eq (fun _ => rfl) (dl_cons_eq (fun _ => rfl) (dl_cons_eq (fun _ => rfl) (dl_cons_eq (fun _ => rfl) rfl))))))) (cons_eq rfl (cons_eq rfl (cons_eq ((eD_skip (by rfl)).trans rfl) (cons_eq ((eD_skip (by rfl)).trans (eD_miss (fun hD => hn (hcl 6 _ rfl hD 5 dc)) eD_nil)) rfl))))
  ·
   intro D b hn hd hcl
   obtain ⟨v1, _⟩ := b
   refine TO.rewL (L' := [mapA (fun n : Int => Value.int .i32 n) (fun p : Gfold_pair => Value.agg #[.int .i32 p.e0, .int .i32 p.e1]) bsplit1 Msplit1, cells b1 [.int .i32 (((getM r1 Msplit1).getD (⟨0, 0⟩ : Gfold_pair)).e0), .int .i32 (((getM r1 Msplit1).getD (⟨0, 0⟩ : Gfold_pair)).e1)] 73, eD D emp [(3, vec (encI (.i32)) 21 1 v1 r2)], emp]) (cons_eq rfl (cons_eq rfl (cons_eq rfl (cons_eq (eD_miss hn eD_nil) rfl)))) ?_
   refine TO.buildSlice (cs := [.int .i32 (((getM r1 Msplit1).getD (⟨0, 0⟩ : Gfold_pair)).e1)]) (te := 21) (ps := [(0, .tmp 22)]) rfl dc (evP.cons (dl_lookup (m := 5) rfl rfl (hd 5 dc)) evP.nil) (fun _ => by kernel_rfl) (fun b3 => ?_)
   refine TO.place 3 rfl rfl ?_
   show TO _ _ _ _ _ _ _ _ _ _ [mapA (fun n : Int => Value.int .i32 n) (fun p : Gfold_pair => Value.agg #[.int .i32 p.e0, .int .i32 p.e1]) bsplit1 Msplit1, cells b1 [.int .i32 (((getM r1 Msplit1).getD (⟨0, 0⟩ : Gfold_pair)).e0), .int .i32 (((getM r1 Msplit1).getD (⟨0, 0⟩ : Gfold_pair)).e1)] 73, eD D emp [(3, vec (encI (.i32)) 21 1 v1 r2)], cells b3 [.int .i32 (((getM r1 Msplit1).getD (⟨0, 0⟩ : Gfold_pair)).e1)] 21]
   exact TX.valG (v1, b3) 6 (by rfl) (by rfl) rfl (dl_cons_eq (fun _ => rfl) (dl_cons_eq (fun _ => rfl) (dl_cons_eq (fun _ => rfl) (dl_cons_eq (fun _ => rfl) (dl_cons_eq (fun _ => rfl) (dl_cons_eq (fun _ => rfl) (dl_cons_eq (fun hD => absurd hD hn) rfl))))))) (cons_eq rfl (cons_eq rfl (cons_eq ((eD_skip (by rfl)).trans rfl) (cons_eq (eD_hit (Or.inr rfl) rfl) rfl))))
  intro D b hall
  obtain ⟨v1, b3⟩ := b
  refine TO.rewL (L' := [mapA (fun n : Int => Value.int .i32 n) (fun p : Gfold_pair => Value.agg #[.int .i32 p.e0, .int .i32 p.e1]) bsplit1 Msplit1, cells b1 [.int .i32 (((getM r1 Msplit1).getD (⟨0, 0⟩ : Gfold_pair)).e0), .int .i32 (((getM r1 Msplit1).getD (⟨0, 0⟩ : Gfold_pair)).e1)] 73, vec (encI (.i32)) 21 1 v1 r2, cells b3 [.int .i32 (((getM r1 Msplit1).getD (⟨0, 0⟩ : Gfold_pair)).e1)] 21]) (cons_eq rfl (cons_eq rfl (cons_eq (eD_hit (hall 3 dc) rfl) (cons_eq (eD_hit (hall 6 dc) rfl) rfl)))) ?_
  refine TO.appendVec (k := 2) (k2 := 3) (ys := [((getM r1 Msplit1).getD (⟨0, 0⟩ : Gfold_pair)).e1]) Try.underlying44 el_21 encI_len encI_one rfl dc rfl rfl rfl rfl rfl rfl hg1 (fun v2 => ?_)
  refine TO.assign rfl dc rfl (TO.nil (TX.next (TC.ret ?_)))
  cases h
  exact TX.fin (rs := [.tmp 4]) v2 (.inl rfl) Try.results51 (.cons (.tmp rfl) .nil) rfl (Splits.of [0, 2] kr rfl)
theorem fold_parted_fn {bsplit1 : Nat} {Msplit1 : List (Int × Gfold_pair)} {r1 : Int} {r : (List Int)} (h : fold_parted_v Msplit1 r1 = some r) : Fn Try.prog 51 [.map (some bsplit1), .int .i32 r1] [mapA (fun n : Int => Value.int .i32 n) (fun p : Gfold_pair => Value.agg #[.int .i32 p.e0, .int .i32 p.e1]) bsplit1 Msplit1] (fun v0 : Value => v0) (fun v0 => [mapA (fun n : Int => Value.int .i32 n) (fun p : Gfold_pair => Value.agg #[.int .i32 p.e0, .int .i32 p.e1]) bsplit1 Msplit1, vec (encI (.i32)) 21 1 v0 r]) := by
 unfold fold_parted_v at h
 exact fold_parted_fb fuel  h
def fold_Bare_1_v (u1 : Gfold_unit) : Option ByteArray := some (Utf8.encode u1.base)
set_option maxRecDepth 100000 in
set_option maxHeartbeats 4000000 in
theorem fold_Bare_1_fn {u1 : Gfold_unit} {u1_h0 u1_h1 : Hd} {r : ByteArray} (h : fold_Bare_1_v u1 = some r) : Fn Try.prog 43 [.agg #[.int .i64 u1.at_, .int .u8 u1.broken, .int .i32 u1.base, u1_h0.v, u1_h1.v]] [vec (encI (.i32)) 21 1 u1_h0.v u1.low, vec (encI (.i32)) 21 1 u1_h1.v u1.high] (fun _b : Unit => .string r) (fun _b => [vec (encI (.i32)) 21 1 u1_h0.v u1.low, vec (encI (.i32)) 21 1 u1_h1.v u1.high]) := by
 unfold fold_Bare_1_v at h
 refine Fn.intro Try.func43 rfl Try.ntmps43 (by simp) ?_
 intro w0 K
 refine TC.seq (TC.region ?_)
 refine TO.box rfl dc rfl (fun b1 => ?_)
 refine TO.assign rfl dc rfl (TO.nil (TX.next (TC.seq (TC.region (TO.fieldAddr fl_46_2 rfl dc rfl (show _ = 2 from rfl) (TO.load (k := 2) sc_21 rfl dc rfl rfl rfl (TO.conv rfl dc rfl (conv_rune Try.underlying21 Try.underlying9) (TO.assign rfl dc rfl (TO.nil (TX.next (TC.ret ?_)))))))))))
 cases h
 exact TX.fin (rs := [.tmp 2]) () (.inl rfl) Try.results43 (.cons (.tmp rfl) .nil) rfl (Splits.of [0, 1] kr rfl)
def fold_Apart_1_v (u1 : Gfold_unit) : Option ByteArray := grd ((Utf8.encode u1.base).size + (strOf u1.low).size ≤ 9223372036854775807) <| grd (((Utf8.encode u1.base) ++ (strOf u1.low)).size + (strOf u1.high).size ≤ 9223372036854775807) <| some (((Utf8.encode u1.base) ++ (strOf u1.low)) ++ (strOf u1.high))
set_option maxRecDepth 100000 in
set_option maxHeartbeats 4000000 in
theorem fold_Apart_1_fn {u1 : Gfold_unit} {u1_h0 u1_h1 : Hd} {r : ByteArray} (h : fold_Apart_1_v u1 = some r) : Fn Try.prog 39 [.agg #[.int .i64 u1.at_, .int .u8 u1.broken, .int .i32 u1.base, u1_h0.v, u1_h1.v]] [vec (encI (.i32)) 21 1 u1_h0.v u1.low, vec (encI (.i32)) 21 1 u1_h1.v u1.high] (fun _b : Unit => .string r) (fun _b => [vec (encI (.i32)) 21 1 u1_h0.v u1.low, vec (encI (.i32)) 21 1 u1_h1.v u1.high]) := by
 unfold fold_Apart_1_v at h
 refine Fn.intro Try.func39 rfl Try.ntmps39 (by simp) ?_
 intro w0 K
 refine TC.seq (TC.region ?_)
 refine TO.box rfl dc rfl (fun b1 => ?_)
 refine TO.assign rfl dc rfl (TO.nil (TX.next (TC.seq (TC.region (TO.fieldAddr fl_46_2 rfl dc rfl (show _ = 2 from rfl) (TO.load (k := 2) sc_21 rfl dc rfl rfl rfl (TO.conv rfl dc rfl (conv_rune Try.underlying21 Try.underlying9) (TO.fieldAddr fl_46_3 rfl dc rfl (show _ = 3 from rfl) (TO.load (k := 2) sc_44 rfl dc rfl rfl rfl (TO.runesStr (k := 0) rfl dc rfl rfl Try.underlying44 Try.underlying21 Try.underlying9 ?_))))))))))
 obtain ⟨hg1, h⟩ := grdE h
 refine TO.bin rfl dc rfl rfl (bin_sadd hg1) (TO.fieldAddr fl_46_4 rfl dc rfl (show _ = 4 from rfl) (TO.load (k := 2) sc_44 rfl dc rfl rfl rfl (TO.runesStr (k := 1) rfl dc rfl rfl Try.underlying44 Try.underlying21 Try.underlying9 ?_)))
 obtain ⟨hg2, h⟩ := grdE h
 refine TO.bin rfl dc rfl rfl (bin_sadd hg2) (TO.assign rfl dc rfl (TO.nil (TX.next (TC.ret ?_))))
 cases h
 exact TX.fin (rs := [.tmp 2]) () (.inl rfl) Try.results39 (.cons (.tmp rfl) .nil) rfl (Splits.of [0, 1] kr rfl)
def fold_plain_s1 (u1 : Gfold_unit) (j1 : Option ByteArray) (ag1 : Int → Bool → Nat → Option ByteArray) (from3 : Int) (head3 : Bool) (m3 : Nat) : Option ByteArray := bcond (decide (m3 < (pcs str_f9f7e721.data.toList).length)) ( andThen ((pcs str_f9f7e721.data.toList)[m3]?) fun (p1 : Pc) => joinK (fun (j2 : Int → Option ByteArray) => bcond (((p1.r : Int) : Int) == 32) ( bcond (decide ((0 : Int) ≤ from3)) ( grd (0 ≤ (from3 : Int) ∧ (from3 : Int) ≤ (p1.i : Int) ∧ ((p1.i : Int) : Int) ≤ (str_f9f7e721.size : Int)) <| some (cutB str_f9f7e721 from3 (p1.i : Int))
) ( bcond (((p1.r : Int) : Int) == 32) ( j2 from3
) ( bcond (head3) ( bcond (((p1.r : Int) : Int) == (lower u1.base)) ( grd (I64 ((p1.i : Int) + ((Utf8.encode (p1.r : Int)).size : Int))) <| j2 ((p1.i : Int) + ((Utf8.encode (p1.r : Int)).size : Int))
) ( j2 from3
)
) ( j2 from3
)
)
)
) ( bcond (((p1.r : Int) : Int) == 32) ( j2 from3
) ( bcond (head3) ( bcond (((p1.r : Int) : Int) == (lower u1.base)) ( grd (I64 ((p1.i : Int) + ((Utf8.encode (p1.r : Int)).size : Int))) <| j2 ((p1.i : Int) + ((Utf8.encode (p1.r : Int)).size : Int))
) ( j2 from3
)
) ( j2 from3
)
)
)
) (fun (from4 : Int) => ag1 from4 (((p1.r : Int) : Int) == 32) (m3 + 1)
)
) ( j1
)
def fold_plain_v (u1 : Gfold_unit) : Option ByteArray := andThen (fold_unit_letter_v u1) fun (r1 : Bool) => bcond (!r1) ( some (Utf8.encode u1.base)
) ( joinK (fun (j1 : Option ByteArray) => grd (I32 u1.base) <| loopG (fun _ _ _ => none) (fold_plain_s1 u1 j1) fuel (-1) true 0
) ( some (Utf8.encode (lower u1.base))
)
)
set_option maxRecDepth 100000 in
set_option maxHeartbeats 4000000 in
theorem fold_plain_fn {u1 : Gfold_unit} {u1_h0 u1_h1 : Hd} {r : ByteArray} (h : fold_plain_v u1 = some r) : Fn Try.prog 26 [.agg #[.int .i64 u1.at_, .int .u8 u1.broken, .int .i32 u1.base, u1_h0.v, u1_h1.v]] [vec (encI (.i32)) 21 1 u1_h0.v u1.low, vec (encI (.i32)) 21 1 u1_h1.v u1.high] (fun _b : Unit => .string r) (fun _b => [vec (encI (.i32)) 21 1 u1_h0.v u1.low, vec (encI (.i32)) 21 1 u1_h1.v u1.high]) := by
 unfold fold_plain_v at h
 refine Fn.intro Try.func26 rfl Try.ntmps26 (by simp) ?_
 intro w0 K
 refine TC.seq (TC.region ?_)
 refine TO.box rfl dc rfl (fun b1 => ?_)
 refine TO.assign rfl dc rfl (TO.nil (TX.next (TC.seq (TC.seq (TC.region (TO.loads (k := 2) (cs := [.int .i64 u1.at_, .int .u8 u1.broken, .int .i32 u1.base, u1_h0.v, u1_h1.v]) rw_46 rfl dc rfl rfl rfl rfl ?_))))))
 obtain ⟨r1, hq1, h⟩ := andE h
 refine TO.callK (v := .bool r1) (vs := [.agg #[.int .i64 u1.at_, .int .u8 u1.broken, .int .i32 u1.base, u1_h0.v, u1_h1.v]]) rfl dc rfl rfl rfl en_42 (fold_unit_letter_fn (u1 := u1) (u1_h0 := u1_h0) (u1_h1 := u1_h1) hq1) [0, 1] kr rfl (TO.un rfl dc rfl un_not (TO.nil (TX.next ?_)))
 refine TC.condB rfl (fun hb1 => ?_) (fun hb1 => ?_)
 ·
  have h := condT hb1 h
  refine TC.seq (TC.region (TO.fieldAddr fl_46_2 rfl dc rfl (show _ = 2 from rfl) (TO.load (k := 2) sc_21 rfl dc rfl rfl rfl (TO.conv rfl dc rfl (conv_rune Try.underlying21 Try.underlying9) (TO.assign rfl dc rfl (TO.nil (TX.next (TC.ret (TX.thenRet ?_)))))))))
  cases h
  exact TX.fin (rs := [.tmp 2]) () (.inl rfl) Try.results26 (.cons (.tmp rfl) .nil) rfl (Splits.of [0, 1] kr rfl)
 ·
  have h := condF hb1 h
  refine TC.skip (TX.next ?_)
  obtain ⟨j1, hj1, h⟩ := joinE h
  refine TC.cutN (β := Unit) 3 rfl (fun b => j1 = some r) (fun b => []) (fun b => [(3, .int .i32 (lower u1.base))]) (fun b => [vec (encI (.i32)) 21 1 u1_h0.v u1.low, vec (encI (.i32)) 21 1 u1_h1.v u1.high]) (fun cut => ?_) ?_
  ·
   refine TC.seq (TC.region (TO.fieldAddr fl_46_2 rfl dc rfl (show _ = 2 from rfl) (TO.load (k := 2) sc_21 rfl dc rfl rfl rfl ?_)))
   obtain ⟨hg1, h⟩ := grdE h
   refine TO.callP (v := .int .i32 (lower u1.base)) (vs := [.int .i32 u1.base]) rfl dc rfl rfl rfl en_52 (FnP.of_same fun w => lower_any u1.base w hg1.1 hg1.2) ?_
   refine TO.assign rfl dc rfl (TO.nil (TX.next (TC.seq (TC.region (TO.assign rfl dc rfl (TO.nil (TX.next (TC.seq (TC.region (TO.assign rfl dc rfl (TO.nil (TX.next (cut ?_)))))))))))))
   refine TC.seq (TC.region ?_)
   refine TO.rangeStr Try.underlying9 rfl dc rfl (fun b2 => ?_)
   show TO _ _ _ _ _ _ _ _ _ _ [vec (encI (.i32)) 21 1 u1_h0.v u1.low, vec (encI (.i32)) 21 1 u1_h1.v u1.high, cells b1 [.int .i64 u1.at_, .int .u8 u1.broken, .int .i32 u1.base, u1_h0.v, u1_h1.v] 46, obj b2 (.stringIter str_f9f7e721 (posAt str_f9f7e721 0))]
   refine TO.nil (TX.next (TC.block ?_))
   refine TC.loopD (β := Nat × Int × Bool × Nat) (fun b => loopG (fun _ _ _ => none) (fold_plain_s1 u1 j1) b.1 b.2.1 b.2.2.1 b.2.2.2 = some r) (fun b => []) (fun b => [(3, .int .i32 (lower u1.base)), (4, .int .i64 b.2.1), (5, .bool b.2.2.1), (17, .pointer (some ⟨b2, 0, none⟩))]) (fun b => [vec (encI (.i32)) 21 1 u1_h0.v u1.low, vec (encI (.i32)) 21 1 u1_h1.v u1.high, obj b2 (.stringIter str_f9f7e721 (posAt str_f9f7e721 b.2.2.2))]) (fun b => b.1) (fuel, (-1), true, 0) h rfl (Sbs.cons rfl (Sbs.cons rfl (Sbs.cons rfl (Sbs.cons rfl (Sbs.nil))))) (Splits.of [0, 1, 3] kr rfl) ?_
   rintro ⟨n1, from3, head3, m3⟩ h
   cases n1 with
   | zero => exact noneE h
   | succ n1 =>
    obtain ⟨ag1, hag1⟩ : ∃ ag, ag = loopG (fun _ _ _ => none) (fold_plain_s1 u1 j1) n1 := ⟨_, rfl⟩
    have h : fold_plain_s1 u1 j1 ag1 from3 head3 m3 = some r := by rw [hag1]; exact h
    unfold fold_plain_s1 at h
    show TC _ _ _ _ _ ([]) _ _ [(3, .int .i32 (lower u1.base)), (4, .int .i64 from3), (5, .bool head3), (17, .pointer (some ⟨b2, 0, none⟩))] [vec (encI (.i32)) 21 1 u1_h0.v u1.low, vec (encI (.i32)) 21 1 u1_h1.v u1.high, obj b2 (.stringIter str_f9f7e721 (posAt str_f9f7e721 m3))]
    refine TC.seq (TC.region ?_)
    refine TO.bySplit (b := decide (m3 < (pcs str_f9f7e721.data.toList).length)) (fun hb2 => ?_) (fun hb2 => ?_)
    ·
     have h := condT hb2 h
     obtain ⟨p1, hq2, h⟩ := andE h
     refine TO.nextStr (k := 2) (m := m3) (p := p1) rfl dc rfl rfl hq2 (TO.extract rfl dc rfl rfl (TO.nil (TX.next (TC.seq (TC.condT rfl (TC.skip (TX.next (TC.block ?_))))))))
     obtain ⟨j2, hj2, h⟩ := joinE h
     refine TC.cutN (β := Int) 1 rfl (fun b => j2 b = some r) (fun b => []) (fun b => [(3, .int .i32 (lower u1.base)), (4, .int .i64 b), (7, .int .i32 (p1.r : Int)), (17, .pointer (some ⟨b2, 0, none⟩))]) (fun b => [vec (encI (.i32)) 21 1 u1_h0.v u1.low, vec (encI (.i32)) 21 1 u1_h1.v u1.high, obj b2 (.stringIter str_f9f7e721 (posAt str_f9f7e721 (m3 + 1)))]) (fun cut => ?_) ?_
     ·
      refine TC.seq (TC.region (TO.extract rfl dc rfl rfl (TO.extract rfl dc rfl rfl (TO.assign rfl dc rfl (TO.assign rfl dc rfl (TO.nil (TX.next (cut (TC.block (TC.seq (TC.region (TO.move rfl dc rfl (TO.bin rfl dc rfl rfl bin_eql ?_)))))))))))))
      refine TO.move rfl dc rfl ?_
      refine TO.split (s := 25) rfl (fun hb3 => ?_) (fun hb3 => ?_)
      ·
       have h := condT hb3 h
       refine TO.move rfl dc rfl (TO.bin rfl dc rfl rfl bin_geq (TO.pick (b := true) rfl dc rfl rfl (TO.assign rfl dc rfl (TO.nil (TX.next ?_)))))
       refine TC.condB rfl (fun hb4 => ?_) (fun hb4 => ?_)
       ·
        have h := condT hb4 h
        refine TC.seq (TC.region (TO.move rfl dc rfl (TO.move rfl dc rfl ?_)))
        obtain ⟨hg2, h⟩ := grdE h
        refine TO.slice rfl dc rfl rfl rfl (slice_stringI (i := from3) (j := (p1.i : Int)) Try.underlying9 (.inr rfl) (.inr rfl) hg2) (TO.assign rfl dc rfl (TO.nil (TX.next (TC.ret (TX.blockRet (TX.thenRet (TX.blockRet (TX.thenRet (TX.blockRet (TX.thenRet ?_))))))))))
        cases h
        exact TX.fin (rs := [.tmp 2]) () (.inl rfl) Try.results26 (.cons (.tmp rfl) .nil) rfl (Splits.of [0, 1] kr rfl)
       ·
        have h := condF hb4 h
        refine TC.seq (TC.region (TO.move rfl dc rfl (TO.bin rfl dc rfl rfl bin_eql (TO.assign rfl dc rfl (TO.nil (TX.next ?_))))))
        refine TC.condB rfl (fun hb5 => ?_) (fun hb5 => ?_)
        ·
         have h := condT hb5 h
         refine TC.skip (TX.blockNormal ?_)
         exact TX.meetD from3 h rfl (Sbs.cons rfl (Sbs.cons rfl (Sbs.cons rfl (Sbs.cons rfl (Sbs.nil))))) (Splits.of [0, 1, 2] kr rfl)
        ·
         have h := condF hb5 h
         refine TC.seq (TC.region (TO.move rfl dc rfl (TO.move rfl dc rfl ?_)))
         refine TO.split (s := 37) rfl (fun hb6 => ?_) (fun hb6 => ?_)
         ·
          have h := condT hb6 h
          refine TO.move rfl dc rfl (TO.move rfl dc rfl (TO.bin rfl dc rfl rfl bin_eql (TO.pick (b := true) rfl dc rfl rfl (TO.assign rfl dc rfl (TO.nil (TX.next ?_))))))
          refine TC.condB rfl (fun hb7 => ?_) (fun hb7 => ?_)
          ·
           have h := condT hb7 h
           refine TC.region (TO.move rfl dc rfl (TO.move rfl dc rfl (TO.conv rfl dc rfl (conv_rune Try.underlying21 Try.underlying9) (TO.lenStr rfl dc rfl Try.underlying9 ?_))))
           obtain ⟨hg3, h⟩ := grdE h
           refine TO.bin rfl dc rfl rfl (bin_add (r := (p1.i : Int) + ((Utf8.encode (p1.r : Int)).size : Int)) (IntWalk.i64_in _ hg3)) (TO.assign rfl dc rfl (TO.nil (TX.blockNormal ?_)))
           exact TX.meetD ((p1.i : Int) + ((Utf8.encode (p1.r : Int)).size : Int)) h rfl (Sbs.cons rfl (Sbs.cons rfl (Sbs.cons rfl (Sbs.cons rfl (Sbs.nil))))) (Splits.of [0, 1, 2] kr rfl)
          ·
           have h := condF hb7 h
           refine TC.skip (TX.blockNormal ?_)
           exact TX.meetD from3 h rfl (Sbs.cons rfl (Sbs.cons rfl (Sbs.cons rfl (Sbs.cons rfl (Sbs.nil))))) (Splits.of [0, 1, 2] kr rfl)
         ·
          have h := condF hb6 h
          refine TO.skip rfl dc (TO.skip rfl dc (TO.skip rfl dc (TO.pick (b := false) rfl dc rfl rfl (TO.assign rfl dc rfl (TO.nil (TX.next (TC.condF rfl (TC.skip (TX.blockNormal ?_)))))))))
          exact TX.meetD from3 h rfl (Sbs.cons rfl (Sbs.cons rfl (Sbs.cons rfl (Sbs.cons rfl (Sbs.nil))))) (Splits.of [0, 1, 2] kr rfl)
      ·
       have h := condF hb3 h
       refine TO.skip rfl dc (TO.skip rfl dc (TO.pick (b := false) rfl dc rfl rfl (TO.assign rfl dc rfl (TO.nil (TX.next (TC.condF rfl (TC.seq (TC.region (TO.move rfl dc rfl (TO.bin rfl dc rfl rfl bin_eql (TO.assign rfl dc rfl (TO.nil (TX.next ?_)))))))))))))
       refine TC.condB rfl (fun hb8 => ?_) (fun hb8 => ?_)
       ·
        have h := condT hb8 h
        refine TC.skip (TX.blockNormal ?_)
        exact TX.meetD from3 h rfl (Sbs.cons rfl (Sbs.cons rfl (Sbs.cons rfl (Sbs.cons rfl (Sbs.nil))))) (Splits.of [0, 1, 2] kr rfl)
       ·
        have h := condF hb8 h
        refine TC.seq (TC.region (TO.move rfl dc rfl (TO.move rfl dc rfl ?_)))
        refine TO.split (s := 37) rfl (fun hb9 => ?_) (fun hb9 => ?_)
        ·
         have h := condT hb9 h
         refine TO.move rfl dc rfl (TO.move rfl dc rfl (TO.bin rfl dc rfl rfl bin_eql (TO.pick (b := true) rfl dc rfl rfl (TO.assign rfl dc rfl (TO.nil (TX.next ?_))))))
         refine TC.condB rfl (fun hb10 => ?_) (fun hb10 => ?_)
         ·
          have h := condT hb10 h
          refine TC.region (TO.move rfl dc rfl (TO.move rfl dc rfl (TO.conv rfl dc rfl (conv_rune Try.underlying21 Try.underlying9) (TO.lenStr rfl dc rfl Try.underlying9 ?_))))
          obtain ⟨hg4, h⟩ := grdE h
          refine TO.bin rfl dc rfl rfl (bin_add (r := (p1.i : Int) + ((Utf8.encode (p1.r : Int)).size : Int)) (IntWalk.i64_in _ hg4)) (TO.assign rfl dc rfl (TO.nil (TX.blockNormal ?_)))
          exact TX.meetD ((p1.i : Int) + ((Utf8.encode (p1.r : Int)).size : Int)) h rfl (Sbs.cons rfl (Sbs.cons rfl (Sbs.cons rfl (Sbs.cons rfl (Sbs.nil))))) (Splits.of [0, 1, 2] kr rfl)
         ·
          have h := condF hb10 h
          refine TC.skip (TX.blockNormal ?_)
          exact TX.meetD from3 h rfl (Sbs.cons rfl (Sbs.cons rfl (Sbs.cons rfl (Sbs.cons rfl (Sbs.nil))))) (Splits.of [0, 1, 2] kr rfl)
        ·
         have h := condF hb9 h
         refine TO.skip rfl dc (TO.skip rfl dc (TO.skip rfl dc (TO.pick (b := false) rfl dc rfl rfl (TO.assign rfl dc rfl (TO.nil (TX.next (TC.condF rfl (TC.skip (TX.blockNormal ?_)))))))))
         exact TX.meetD from3 h rfl (Sbs.cons rfl (Sbs.cons rfl (Sbs.cons rfl (Sbs.cons rfl (Sbs.nil))))) (Splits.of [0, 1, 2] kr rfl)
     ·
      rintro from4 h
      rw [hj2] at h
      show TC _ _ _ _ _ ([]) _ _ [(3, .int .i32 (lower u1.base)), (4, .int .i64 from4), (7, .int .i32 (p1.r : Int)), (17, .pointer (some ⟨b2, 0, none⟩))] [vec (encI (.i32)) 21 1 u1_h0.v u1.low, vec (encI (.i32)) 21 1 u1_h1.v u1.high, obj b2 (.stringIter str_f9f7e721 (posAt str_f9f7e721 (m3 + 1)))]
      refine TC.region (TO.move rfl dc rfl (TO.bin rfl dc rfl rfl bin_eql (TO.assign rfl dc rfl (TO.nil (TX.blockNormal ?_)))))
      subst hag1
      exact TX.againD (n1, from4, ((p1.r : Int) : Int) == 32, m3 + 1) h (Nat.lt_succ_self _) rfl (Sbs.cons rfl (Sbs.cons rfl (Sbs.cons rfl (Sbs.cons rfl (Sbs.nil))))) (Splits.of [0, 1, 2] kr rfl)
    ·
     have h := condF hb2 h
     refine TO.nextEnd (k := 2) (m := m3) rfl dc rfl rfl (Nat.le_of_not_lt (of_decide_eq_false hb2)) (TO.extract rfl dc rfl rfl (TO.nil (TX.next (TC.seq (TC.condF rfl (TC.exit (TX.thenExit (TX.thenExit (TX.blockHere ?_)))))))))
     exact TX.meetD () h rfl (Sbs.cons rfl (Sbs.nil)) (Splits.of [0, 1] kr rfl)
  ·
   rintro _ h
   rw [hj1] at h
   show TC _ _ _ _ _ ([]) _ _ [(3, .int .i32 (lower u1.base))] [vec (encI (.i32)) 21 1 u1_h0.v u1.low, vec (encI (.i32)) 21 1 u1_h1.v u1.high]
   refine TC.seq (TC.region (TO.move rfl dc rfl (TO.conv rfl dc rfl (conv_rune Try.underlying21 Try.underlying9) (TO.assign rfl dc rfl (TO.nil (TX.next (TC.ret ?_)))))))
   cases h
   exact TX.fin (rs := [.tmp 2]) () (.inl rfl) Try.results26 (.cons (.tmp rfl) .nil) rfl (Splits.of [0, 1] kr rfl)
end Go.Proofs.Ytlamcpgnmeileaa
namespace Go.Proofs.Ytlamcpgnmeileaa
open Go.RowKit Go.Lib
set_option linter.unusedVariables false
set_option linter.unusedSimpArgs false
def str_37a80f8f : ByteArray := ⟨(List.toArray (List.append (List.append (List.append (List.append [204, 128, 65, 195, 128, 69, 195, 136, 73, 195, 140, 79, 195, 146, 85, 195, 153, 97, 195, 160, 101, 195, 168, 105, 195, 172, 111, 195, 178, 117, 195, 185, 208, 149, 208, 128, 208, 152, 208, 141] [208, 181, 209, 144, 208, 184, 209, 157, 204, 129, 65, 195, 129, 69, 195, 137, 73, 195, 141, 79, 195, 147, 85, 195, 154, 89, 195, 157, 97, 195, 161, 101, 195, 169, 105, 195, 173, 111, 195, 179, 117]) (List.append [195, 186, 121, 195, 189, 67, 196, 134, 76, 196, 185, 78, 197, 131, 82, 197, 148, 83, 197, 154, 90, 197, 185, 99, 196, 135, 108, 196, 186, 110, 197, 132, 114, 197, 149, 115, 197, 155, 122, 197, 186] [206, 145, 206, 134, 206, 149, 206, 136, 206, 151, 206, 137, 206, 153, 206, 138, 206, 159, 206, 140, 206, 165, 206, 142, 206, 169, 206, 143, 206, 177, 206, 172, 206, 181, 206, 173, 206, 183, 206, 174, 206])) (List.append (List.append [185, 206, 175, 206, 191, 207, 140, 207, 133, 207, 141, 207, 137, 207, 142, 208, 147, 208, 131, 208, 154, 208, 140, 208, 179, 209, 147, 208, 186, 209, 156, 207, 138, 206, 144, 207, 139, 206, 176, 204] [130, 65, 195, 130, 69, 195, 138, 73, 195, 142, 79, 195, 148, 85, 195, 155, 97, 195, 162, 101, 195, 170, 105, 195, 174, 111, 195, 180, 117, 195, 187, 67, 196, 136, 71, 196, 156, 72, 196, 164, 74]) (List.append [196, 180, 83, 197, 156, 87, 197, 180, 89, 197, 182, 99, 196, 137, 103, 196, 157, 104, 196, 165, 106, 196, 181, 115, 197, 157, 119, 197, 181, 121, 197, 183, 204, 131, 65, 195, 131, 78, 195, 145, 79] [195, 149, 97, 195, 163, 110, 195, 177, 111, 195, 181, 73, 196, 168, 85, 197, 168, 105, 196, 169, 117, 197, 169, 204, 132, 65, 196, 128, 69, 196, 146, 73, 196, 170, 79, 197, 140, 85, 197, 170, 97]))) (List.append (List.append (List.append [196, 129, 101, 196, 147, 105, 196, 171, 111, 197, 141, 117, 197, 171, 204, 134, 65, 196, 130, 69, 196, 148, 71, 196, 158, 73, 196, 172, 79, 197, 142, 85, 197, 172, 97, 196, 131, 101, 196, 149] [103, 196, 159, 105, 196, 173, 111, 197, 143, 117, 197, 173, 208, 152, 208, 153, 208, 163, 208, 142, 208, 184, 208, 185, 209, 131, 209, 158, 204, 135, 67, 196, 138, 69, 196, 150, 71, 196, 160, 73, 196]) (List.append [176, 90, 197, 187, 99, 196, 139, 101, 196, 151, 103, 196, 161, 122, 197, 188, 204, 136, 65, 195, 132, 69, 195, 139, 73, 195, 143, 79, 195, 150, 85, 195, 156, 97, 195, 164, 101, 195, 171, 105, 195] [175, 111, 195, 182, 117, 195, 188, 121, 195, 191, 89, 197, 184, 208, 149, 208, 129, 208, 134, 208, 135, 208, 181, 209, 145, 209, 150, 209, 151, 206, 153, 206, 170, 206, 165, 206, 171, 206, 185, 207, 138])) (List.append (List.append [207, 133, 207, 139, 204, 138, 65, 195, 133, 85, 197, 174, 97, 195, 165, 117, 197, 175, 204, 139, 79, 197, 144, 85, 197, 176, 111, 197, 145, 117, 197, 177, 204, 140, 67, 196, 140, 68, 196, 142, 69] [196, 154, 76, 196, 189, 78, 197, 135, 82, 197, 152, 83, 197, 160, 84, 197, 164, 90, 197, 189, 99, 196, 141, 100, 196, 143, 101, 196, 155, 108, 196, 190, 110, 197, 136, 114, 197, 153, 115, 197, 161]) (List.append [116, 197, 165, 122, 197, 190, 204, 167, 67, 195, 135, 71, 196, 162, 75, 196, 182, 76, 196, 187, 78, 197, 133, 82, 197, 150, 83, 197, 158, 84, 197, 162, 99, 195, 167, 103, 196, 163, 107, 196, 183] [108, 196, 188, 110, 197, 134, 114, 197, 151, 115, 197, 159, 116, 197, 163, 204, 168, 65, 196, 132, 69, 196, 152, 73, 196, 174, 85, 197, 178, 97, 196, 133, 101, 196, 153, 105, 196, 175, 117, 197, 179])))))⟩
def fold_pairs_s1 (ag1 : Int → Int → Bool → Nat → Option (List (Gfold_pair × Int))) (p7 : Int) (p8 : Int) (base4 : Bool) (m4 : Nat) : Option (List (Gfold_pair × Int)) := bcond (decide (m4 < (pcs str_37a80f8f.data.toList).length)) ( andThen ((pcs str_37a80f8f.data.toList)[m4]?) fun (p9 : Pc) => joinK (fun (j1 : Int → Option (List (Gfold_pair × Int))) => grd (I32 (p9.r : Int)) <| bcond (((kind (p9.r : Int)) : Int) == 2) ( ag1 p7 (p9.r : Int) true (m4 + 1)
) ( bcond (base4) ( j1 (p9.r : Int)
) ( consO ((⟨p7, p8⟩ : Gfold_pair), (p9.r : Int)) <| j1 p7
)
)
) (fun (p10 : Int) => ag1 p10 p8 (!base4) (m4 + 1)
)
) ( some []
)
def fold_pairs_v  : Option (List (Gfold_pair × Int)) := loopG (fun _ _ _ _ => none) (fold_pairs_s1) fuel 0 0 true 0
set_option maxRecDepth 100000 in
set_option maxHeartbeats 4000000 in
theorem fold_pairs_itr  {xs : (List (Gfold_pair × Int))} (h : fold_pairs_v = some xs) : Itr Try.prog 66 [] (fun q : Gfold_pair × Int => [.agg #[.int .i32 q.1.e0, .int .i32 q.1.e1], .int .i32 q.2]) xs [] := by
 unfold fold_pairs_v at h
 refine Itr.intro Try.func66 rfl Try.ntmps66 (by simp) ?_
 intro l w0 K I X hRo hy
 obtain ⟨r0, hx0⟩ : ∃ r, xs = [] ++ r := ⟨xs, rfl⟩
 have hr0 : xs = r0 := hx0
 rw [hr0] at h
 refine TC.seq (TC.region ?_)
 refine TO.alloc zr_73 rfl dc (fun b1 => ?_)
 refine TO.nil (TX.next (TC.seq (TC.region (TO.assign rfl dc rfl (TO.nil (TX.next (TC.seq (TC.region ?_))))))))
 refine TO.rangeStr Try.underlying9 rfl dc rfl (fun b2 => ?_)
 show TO _ _ _ _ _ _ _ _ _ _ [I [], cells b1 [.int .i32 0, .int .i32 0] 73, obj b2 (.stringIter str_37a80f8f (posAt str_37a80f8f 0))]
 refine TO.nil (TX.next (TC.block ?_))
 refine TC.loopD (β := Nat × Int × Int × Bool × Nat × (List (Gfold_pair × Int)) × (List (Gfold_pair × Int))) (fun b => loopG (fun _ _ _ _ => none) (fold_pairs_s1) b.1 b.2.1 b.2.2.1 b.2.2.2.1 b.2.2.2.2.1 = some b.2.2.2.2.2.2 ∧ xs = b.2.2.2.2.2.1 ++ b.2.2.2.2.2.2) (fun b => []) (fun b => [(0, .func (.yield l) #[] #[]), (2, .pointer (some ⟨b1, 0, none⟩)), (3, .bool b.2.2.2.1), (6, .pointer (some ⟨b2, 0, none⟩))]) (fun b => [I b.2.2.2.2.2.1, cells b1 [.int .i32 b.2.1, .int .i32 b.2.2.1] 73, obj b2 (.stringIter str_37a80f8f (posAt str_37a80f8f b.2.2.2.2.1))]) (fun b => b.1) (fuel, 0, 0, true, 0, ([] : List (Gfold_pair × Int)), r0) ⟨h, hx0⟩ rfl (Sbs.cons rfl (Sbs.cons rfl (Sbs.cons rfl (Sbs.cons rfl (Sbs.nil))))) (Splits.of [0, 1, 2] kr rfl) ?_
 rintro ⟨n1, p7, p8, base4, m4, acc3, rr3⟩ ⟨h, hx3⟩
 cases n1 with
 | zero => exact noneE h
 | succ n1 =>
  obtain ⟨ag1, hag1⟩ : ∃ ag, ag = loopG (fun _ _ _ _ => none) (fold_pairs_s1) n1 := ⟨_, rfl⟩
  have h : fold_pairs_s1 ag1 p7 p8 base4 m4 = some rr3 := by rw [hag1]; exact h
  unfold fold_pairs_s1 at h
  show TC _ _ _ _ _ ([]) _ _ [(0, .func (.yield l) #[] #[]), (2, .pointer (some ⟨b1, 0, none⟩)), (3, .bool base4), (6, .pointer (some ⟨b2, 0, none⟩))] [I acc3, cells b1 [.int .i32 p7, .int .i32 p8] 73, obj b2 (.stringIter str_37a80f8f (posAt str_37a80f8f m4))]
  refine TC.seq (TC.region ?_)
  refine TO.bySplit (b := decide (m4 < (pcs str_37a80f8f.data.toList).length)) (fun hb1 => ?_) (fun hb1 => ?_)
  ·
   have h := condT hb1 h
   obtain ⟨p9, hq1, h⟩ := andE h
   refine TO.nextStr (k := 2) (m := m4) (p := p9) rfl dc rfl rfl hq1 (TO.extract rfl dc rfl rfl (TO.nil (TX.next (TC.seq (TC.condT rfl (TC.skip (TX.next (TC.block ?_))))))))
   obtain ⟨j1, hj1, h⟩ := joinE h
   refine TC.cutN (β := Int × (List (Gfold_pair × Int)) × (List (Gfold_pair × Int))) 1 rfl (fun b => j1 b.1 = some b.2.2 ∧ xs = b.2.1 ++ b.2.2) (fun b => []) (fun b => [(0, .func (.yield l) #[] #[]), (2, .pointer (some ⟨b1, 0, none⟩)), (3, .bool base4), (6, .pointer (some ⟨b2, 0, none⟩))]) (fun b => [I b.2.1, cells b1 [.int .i32 b.1, .int .i32 p8] 73, obj b2 (.stringIter str_37a80f8f (posAt str_37a80f8f (m4 + 1)))]) (fun cut => ?_) ?_
   ·
    refine TC.seq (TC.region (TO.extract rfl dc rfl rfl (TO.assign rfl dc rfl (TO.nil (TX.next (cut (TC.block (TC.seq (TC.region (TO.move rfl dc rfl ?_))))))))))
    obtain ⟨hg1, h⟩ := grdE h
    refine TO.callP (v := .int .i64 (kind (p9.r : Int))) (vs := [.int .i32 (p9.r : Int)]) rfl dc rfl rfl rfl en_16 (FnP.of_same fun w => kind_any (p9.r : Int) w hg1.1 hg1.2) ?_
    refine TO.bin rfl dc rfl rfl bin_eql (TO.assign rfl dc rfl (TO.nil (TX.next ?_)))
    refine TC.condB rfl (fun hb2 => ?_) (fun hb2 => ?_)
    ·
     have h := condT hb2 h
     refine TC.seq (TC.region (TO.move rfl dc rfl (TO.indexArr dc Try.underlying73 sz_21 rfl dc rfl rfl (show _ = 1 from rfl) ?_)))
     refine TO.store (k := 1) (l' := [.int .i32 p7, .int .i32 (p9.r : Int)]) sz_21 rfl rfl rfl rfl rfl (fun _ _ => rfl) rfl ?_
     show TO _ _ _ _ _ _ _ _ _ _ [I acc3, cells b1 [.int .i32 p7, .int .i32 (p9.r : Int)] 73, obj b2 (.stringIter str_37a80f8f (posAt str_37a80f8f (m4 + 1)))]
     refine TO.assign rfl dc rfl (TO.nil (TX.next (TC.exit (TX.blockOn dc (TX.thenExit (TX.blockHere ?_))))))
     subst hag1
     exact TX.againD (n1, p7, (p9.r : Int), true, m4 + 1, acc3, rr3) ⟨h, hx3⟩ (Nat.lt_succ_self _) rfl (Sbs.cons rfl (Sbs.cons rfl (Sbs.cons rfl (Sbs.cons rfl (Sbs.nil))))) (Splits.of [0, 1, 2] kr rfl)
    ·
     have h := condF hb2 h
     refine TC.seq (TC.region (TO.move rfl dc rfl (TO.assign rfl dc rfl (TO.nil (TX.next ?_)))))
     refine TC.condB rfl (fun hb3 => ?_) (fun hb3 => ?_)
     ·
      have h := condT hb3 h
      refine TC.region (TO.move rfl dc rfl (TO.indexArr dc Try.underlying73 sz_21 rfl dc rfl rfl (show _ = 0 from rfl) ?_))
      refine TO.store (k := 1) (l' := [.int .i32 (p9.r : Int), .int .i32 p8]) sz_21 rfl rfl rfl rfl rfl (fun _ _ => rfl) rfl ?_
      show TO _ _ _ _ _ _ _ _ _ _ [I acc3, cells b1 [.int .i32 (p9.r : Int), .int .i32 p8] 73, obj b2 (.stringIter str_37a80f8f (posAt str_37a80f8f (m4 + 1)))]
      refine TO.nil (TX.blockNormal ?_)
      exact TX.meetD ((p9.r : Int), acc3, rr3) ⟨h, hx3⟩ rfl (Sbs.cons rfl (Sbs.cons rfl (Sbs.cons rfl (Sbs.cons rfl (Sbs.nil))))) (Splits.of [0, 1, 2] kr rfl)
     ·
      have h := condF hb3 h
      refine TC.seq (TC.region (TO.move rfl dc rfl (TO.loads (k := 1) (cs := [.int .i32 p7, .int .i32 p8]) rw_73 rfl dc rfl rfl rfl rfl (TO.move rfl dc rfl ?_))))
      obtain ⟨rr5, hr1, h⟩ := consE h
      have hx5 : xs = acc3 ++ ((⟨p7, p8⟩ : Gfold_pair), (p9.r : Int)) :: rr5 := by rw [hx3, hr1]
      refine TO.yield hy rfl dc rfl hx5 rfl (k := 0) rfl ?_ ?_
      ·
       have hx6 : xs = (acc3 ++ [((⟨p7, p8⟩ : Gfold_pair), (p9.r : Int))]) ++ rr5 := by rw [hx5]; simp
       show TO _ _ _ _ _ _ _ _ _ _ [I (acc3 ++ [((⟨p7, p8⟩ : Gfold_pair), (p9.r : Int))]), cells b1 [.int .i32 p7, .int .i32 p8] 73, obj b2 (.stringIter str_37a80f8f (posAt str_37a80f8f (m4 + 1)))]
       refine TO.un rfl dc rfl un_not (TO.assign rfl dc rfl (TO.nil (TX.next (TC.condF rfl (TC.skip (TX.blockNormal ?_))))))
       exact TX.meetD (p7, acc3 ++ [((⟨p7, p8⟩ : Gfold_pair), (p9.r : Int))], rr5) ⟨h, hx6⟩ rfl (Sbs.cons rfl (Sbs.cons rfl (Sbs.cons rfl (Sbs.cons rfl (Sbs.nil))))) (Splits.of [0, 1, 2] kr rfl)
      ·
       show TO _ _ _ _ _ _ _ _ _ _ [X (acc3 ++ [((⟨p7, p8⟩ : Gfold_pair), (p9.r : Int))]), cells b1 [.int .i32 p7, .int .i32 p8] 73, obj b2 (.stringIter str_37a80f8f (posAt str_37a80f8f (m4 + 1)))]
       refine TO.un rfl dc rfl un_not (TO.assign rfl dc rfl (TO.nil (TX.next (TC.condT rfl (TC.ret (TX.blockRet (TX.thenRet (TX.blockRet (TX.thenRet (TX.blockRet ?_))))))))))
       exact TX.finX (ds := []) acc3 ((⟨p7, p8⟩ : Gfold_pair), (p9.r : Int)) rr5 hx5 (.inl rfl) Splits.nil Try.results66 (Splits.of [0] kr rfl)
   ·
    rintro ⟨p10, acc4, rr4⟩ ⟨h, hx4⟩
    rw [hj1] at h
    show TC _ _ _ _ _ ([]) _ _ [(0, .func (.yield l) #[] #[]), (2, .pointer (some ⟨b1, 0, none⟩)), (3, .bool base4), (6, .pointer (some ⟨b2, 0, none⟩))] [I acc4, cells b1 [.int .i32 p10, .int .i32 p8] 73, obj b2 (.stringIter str_37a80f8f (posAt str_37a80f8f (m4 + 1)))]
    refine TC.region (TO.move rfl dc rfl (TO.un rfl dc rfl un_not (TO.assign rfl dc rfl (TO.nil (TX.blockNormal ?_)))))
    subst hag1
    exact TX.againD (n1, p10, p8, !base4, m4 + 1, acc4, rr4) ⟨h, hx4⟩ (Nat.lt_succ_self _) rfl (Sbs.cons rfl (Sbs.cons rfl (Sbs.cons rfl (Sbs.cons rfl (Sbs.nil))))) (Splits.of [0, 1, 2] kr rfl)
  ·
   have h := condF hb1 h
   refine TO.nextEnd (k := 2) (m := m4) rfl dc rfl rfl (Nat.le_of_not_lt (of_decide_eq_false hb1)) (TO.extract rfl dc rfl rfl (TO.nil (TX.next (TC.seq (TC.condF rfl (TC.exit (TX.thenExit (TX.thenExit (TX.blockHere ?_)))))))))
   cases h
   exact TX.finY (ds := []) (.inr rfl) Splits.nil Try.results66 (congrArg I (hx3.trans (List.append_nil _))) (Splits.of [0] kr rfl)
end Go.Proofs.Ytlamcpgnmeileaa
namespace Go.Proofs.Ytlamcpgnmeileaa
open Go.RowKit Go.Lib
set_option linter.unusedVariables false
set_option linter.unusedSimpArgs false
def fold_tables_s1 (x1 : Gfold_pair × Int) (ag1 : (List (Gfold_pair × Int)) → (List (Int × Gfold_pair)) → Option ((List (Gfold_pair × Int)) × (List (Int × Gfold_pair)))) (join4 : List (Gfold_pair × Int)) (split4 : List (Int × Gfold_pair)) : Option ((List (Gfold_pair × Int)) × (List (Int × Gfold_pair))) := ag1 (putM x1.1 x1.2 join4) (putM x1.2 x1.1 split4)
def fold_tables_v  : Option ((List (Gfold_pair × Int)) × (List (Int × Gfold_pair))) := joinK (fun (j1 : (List (Gfold_pair × Int)) → (List (Int × Gfold_pair)) → Option ((List (Gfold_pair × Int)) × (List (Int × Gfold_pair)))) => andThen (fold_pairs_v) fun (its1 : (List (Gfold_pair × Int))) => joinK (fun (d1 : (List (Gfold_pair × Int)) → (List (Int × Gfold_pair)) → Option ((List (Gfold_pair × Int)) × (List (Int × Gfold_pair)))) => rangeG d1 (fold_tables_s1) its1 ([] : List (Gfold_pair × Int)) ([] : List (Int × Gfold_pair))
) (fun (join4 : List (Gfold_pair × Int)) (split4 : List (Int × Gfold_pair)) => j1 join4 split4
)
) (fun (join1 : List (Gfold_pair × Int)) (split1 : List (Int × Gfold_pair)) => some (join1, split1)
)
set_option maxRecDepth 100000 in
set_option maxHeartbeats 4000000 in
theorem fold_tables_fn  {r : ((List (Gfold_pair × Int)) × (List (Int × Gfold_pair)))} (h : fold_tables_v = some r) : Fn Try.prog 40 [] [] (fun b : Nat × Nat => .tuple #[.map (some b.1), .map (some b.2)]) (fun b => [mapA (fun p : Gfold_pair => Value.agg #[.int .i32 p.e0, .int .i32 p.e1]) (fun n : Int => Value.int .i32 n) b.1 r.1, mapA (fun n : Int => Value.int .i32 n) (fun p : Gfold_pair => Value.agg #[.int .i32 p.e0, .int .i32 p.e1]) b.2 r.2]) := by
 unfold fold_tables_v at h
 refine Fn.intro Try.func40 rfl Try.ntmps40 (by simp) ?_
 intro w0 K
 refine TC.star0 ?_
 show TC _ _ _ _ _ _ _ _ _ [star ((([] : List Nat) : List Nat).map mark)]
 obtain ⟨j1, hj1, h⟩ := joinE h
 refine TC.cutN (β := (List (Gfold_pair × Int)) × (List (Int × Gfold_pair)) × Nat × Nat × Nat × Nat × (List Nat)) 2 rfl (fun b => j1 b.1 b.2.1 = some r) (fun b => marksOf b.2.2.2.2.2.2) (fun b => [(2, .pointer (some ⟨b.2.2.1, 0, none⟩)), (3, .pointer (some ⟨b.2.2.2.2.1, 0, none⟩))]) (fun b => [cells b.2.2.1 [.map (some b.2.2.2.1)] 66, mapA (fun p : Gfold_pair => Value.agg #[.int .i32 p.e0, .int .i32 p.e1]) (fun n : Int => Value.int .i32 n) b.2.2.2.1 b.1, cells b.2.2.2.2.1 [.map (some b.2.2.2.2.2.1)] 67, mapA (fun n : Int => Value.int .i32 n) (fun p : Gfold_pair => Value.agg #[.int .i32 p.e0, .int .i32 p.e1]) b.2.2.2.2.2.1 b.2.1, star ((b.2.2.2.2.2.2 : List Nat).map mark)]) (fun cut => ?_) ?_
 ·
  refine TC.seq (TC.region (TO.assign rfl dc rfl (TO.assign rfl dc rfl (TO.nil (TX.next (TC.seq (TC.region ?_)))))))
  refine TO.makeMap (fun p : Gfold_pair => Value.agg #[.int .i32 p.e0, .int .i32 p.e1]) (fun n : Int => Value.int .i32 n) rfl dc (fun b5 => ?_)
  refine TO.makeMap (fun n : Int => Value.int .i32 n) (fun p : Gfold_pair => Value.agg #[.int .i32 p.e0, .int .i32 p.e1]) rfl dc (fun b6 => ?_)
  show TO _ _ _ _ _ _ _ _ _ _ [star ((([] : List Nat) : List Nat).map mark), mapA (fun p : Gfold_pair => Value.agg #[.int .i32 p.e0, .int .i32 p.e1]) (fun n : Int => Value.int .i32 n) b5 ([] : List (Gfold_pair × Int)), mapA (fun n : Int => Value.int .i32 n) (fun p : Gfold_pair => Value.agg #[.int .i32 p.e0, .int .i32 p.e1]) b6 ([] : List (Int × Gfold_pair))]
  refine TO.alloc zr_66 rfl dc (fun b7 => ?_)
  refine TO.alloc zr_67 rfl dc (fun b8 => ?_)
  show TO _ _ _ _ _ _ _ _ _ _ [star ((([] : List Nat) : List Nat).map mark), mapA (fun p : Gfold_pair => Value.agg #[.int .i32 p.e0, .int .i32 p.e1]) (fun n : Int => Value.int .i32 n) b5 ([] : List (Gfold_pair × Int)), mapA (fun n : Int => Value.int .i32 n) (fun p : Gfold_pair => Value.agg #[.int .i32 p.e0, .int .i32 p.e1]) b6 ([] : List (Int × Gfold_pair)), cells b7 [.map none] 66, cells b8 [.map none] 67]
  refine TO.store (k := 3) (l' := [.map (some b5)]) sz_66 rfl rfl rfl rfl rfl (fun _ _ => rfl) rfl ?_
  refine TO.store (k := 4) (l' := [.map (some b6)]) sz_67 rfl rfl rfl rfl rfl (fun _ _ => rfl) rfl ?_
  show TO _ _ _ _ _ _ _ _ _ _ [star ((([] : List Nat) : List Nat).map mark), mapA (fun p : Gfold_pair => Value.agg #[.int .i32 p.e0, .int .i32 p.e1]) (fun n : Int => Value.int .i32 n) b5 ([] : List (Gfold_pair × Int)), mapA (fun n : Int => Value.int .i32 n) (fun p : Gfold_pair => Value.agg #[.int .i32 p.e0, .int .i32 p.e1]) b6 ([] : List (Int × Gfold_pair)), cells b7 [.map (some b5)] 66, cells b8 [.map (some b6)] 67]
  refine TO.nil (TX.next (cut (TC.block ?_)))
  obtain ⟨its1, hq1, h⟩ := andE h
  obtain ⟨d1, hd1, h⟩ := joinE h
  refine TC.range (α := Gfold_pair × Int) (β := (List (Gfold_pair × Int)) × (List (Int × Gfold_pair))) (γ := Unit) (δ := Nat) (ps := [8, 9]) Ro.nil rfl en_66 (fold_pairs_itr hq1) (fun pre b => ∀ post, its1 = pre ++ post → rangeG d1 (fold_tables_s1) post b.1 b.2 = some r) (fun pre b => [cells b7 [.map (some b5)] 66, mapA (fun p : Gfold_pair => Value.agg #[.int .i32 p.e0, .int .i32 p.e1]) (fun n : Int => Value.int .i32 n) b5 b.1, cells b8 [.map (some b6)] 67, mapA (fun n : Int => Value.int .i32 n) (fun p : Gfold_pair => Value.agg #[.int .i32 p.e0, .int .i32 p.e1]) b6 b.2]) (fun c pre g => False) (fun c pre g => []) (fun pre x b j => [(0, .map none), (1, .map none), (2, .pointer (some ⟨b7, 0, none⟩)), (3, .pointer (some ⟨b8, 0, none⟩)), (4, .pointer (some ⟨j, 0, none⟩)), (5, .int .i32 x.2)]) (fun pre x b j => [cells b7 [.map (some b5)] 66, mapA (fun p : Gfold_pair => Value.agg #[.int .i32 p.e0, .int .i32 p.e1]) (fun n : Int => Value.int .i32 n) b5 b.1, cells b8 [.map (some b6)] 67, mapA (fun n : Int => Value.int .i32 n) (fun p : Gfold_pair => Value.agg #[.int .i32 p.e0, .int .i32 p.e1]) b6 b.2, cells j [.int .i32 x.1.e0, .int .i32 x.1.e1] 73]) (([] : List (Gfold_pair × Int)), ([] : List (Int × Gfold_pair))) (fun post e => by rw [List.nil_append] at e; subst e; exact h) (Splits.of [3, 1, 4, 2] kr rfl) trivial (fun _ => rfl) dc ?_ ?_ ?_ ?_
  ·
   rintro lp rc pre x1 post ⟨join4, split4⟩ w1 K1 hxs1 hext hro hinv
   refine TC.seq (TC.region ?_)
   refine TO.alloc zr_73 rfl dc (fun b9 => ?_)
   refine TO.stores (k := 4) (vs := [.int .i32 x1.1.e0, .int .i32 x1.1.e1]) (l' := [.int .i32 x1.1.e0, .int .i32 x1.1.e1]) sz_73 rfl rfl rfl rfl rfl (show _ ≤ _ by simp) rfl rfl ?_
   show TO _ _ _ _ _ _ _ _ _ _ [cells b7 [.map (some b5)] 66, mapA (fun p : Gfold_pair => Value.agg #[.int .i32 p.e0, .int .i32 p.e1]) (fun n : Int => Value.int .i32 n) b5 join4, cells b8 [.map (some b6)] 67, mapA (fun n : Int => Value.int .i32 n) (fun p : Gfold_pair => Value.agg #[.int .i32 p.e0, .int .i32 p.e1]) b6 split4, cells b9 [.int .i32 x1.1.e0, .int .i32 x1.1.e1] 73]
   refine TO.nil (TX.next (TC.region (TO.assign rfl dc rfl (TO.nil ?_))))
   exact fun a w ha hw => ⟨b9, (Sbs.cons rfl (Sbs.cons rfl (Sbs.cons rfl (Sbs.cons rfl (Sbs.cons rfl (Sbs.cons rfl (Sbs.nil))))))) _ _ _ ha, hw.weaken (Splits.of [0, 1, 2, 3, 4] kr rfl)⟩
  ·
   rintro lp rc pre x1 post1 ⟨join4, split4⟩ jb1 w1 K1 hxs1 hext hro hinv
   have h := hinv (x1 :: post1) hxs1
   obtain ⟨ag1, hag1⟩ : ∃ ag, ag = rangeG d1 (fold_tables_s1) post1 := ⟨_, rfl⟩
   have h : fold_tables_s1 x1 ag1 join4 split4 = some r := by rw [hag1]; exact h
   unfold fold_tables_s1 at h
   show TC _ _ _ _ _ _ _ _ [(0, .map none), (1, .map none), (2, .pointer (some ⟨b7, 0, none⟩)), (3, .pointer (some ⟨b8, 0, none⟩)), (4, .pointer (some ⟨jb1, 0, none⟩)), (5, .int .i32 x1.2)] [cells b7 [.map (some b5)] 66, mapA (fun p : Gfold_pair => Value.agg #[.int .i32 p.e0, .int .i32 p.e1]) (fun n : Int => Value.int .i32 n) b5 join4, cells b8 [.map (some b6)] 67, mapA (fun n : Int => Value.int .i32 n) (fun p : Gfold_pair => Value.agg #[.int .i32 p.e0, .int .i32 p.e1]) b6 split4, cells jb1 [.int .i32 x1.1.e0, .int .i32 x1.1.e1] 73]
   refine TC.block ?_
   refine TC.drawB (β := Unit) 7 6 _ [(0, 10, .map (some b5)), (1, 11, .agg #[.int .i32 x1.1.e0, .int .i32 x1.1.e1]), (2, 12, .map (some b6)), (3, 13, .int .i32 x1.2), (4, 14, .int .i32 x1.2), (5, 15, .agg #[.int .i32 x1.1.e0, .int .i32 x1.1.e1])] (fun _b => []) (fun _b => [cells b7 [.map (some b5)] 66, mapA (fun p : Gfold_pair => Value.agg #[.int .i32 p.e0, .int .i32 p.e1]) (fun n : Int => Value.int .i32 n) b5 (putM x1.1 x1.2 join4), cells b8 [.map (some b6)] 67, mapA (fun n : Int => Value.int .i32 n) (fun p : Gfold_pair => Value.agg #[.int .i32 p.e0, .int .i32 p.e1]) b6 split4, cells jb1 [.int .i32 x1.1.e0, .int .i32 x1.1.e1] 73]) mixed kr kr rfl dc dc (by rfl) kr kr (DrawPreX.cons ?_ (DrawPreX.cons ?_ (DrawPreX.cons ?_ (DrawPreX.cons ?_ (DrawPreX.cons ?_ (DrawPreX.cons ?_ (DrawPreX.here DrawPreX.nil))))))) (fun _b => (DrawPreX.cons ?_ (DrawPreX.cons ?_ (DrawPreX.cons ?_ (DrawPreX.cons ?_ (DrawPreX.cons ?_ (DrawPreX.cons ?_ (DrawPreX.here DrawPreX.nil)))))))) ?_ ?_
   ·
    intro D hn hd hcl hu hi
    refine TO.load (k := 0) sc_66 rfl dc (dl_old (by rfl) rfl) rfl rfl ?_
    exact TX.quiet 0 hu hi rfl
   ·
    intro D hn hd hcl hu hi
    refine TO.loads (k := 4) (cs := [.int .i32 x1.1.e0, .int .i32 x1.1.e1]) rw_73 rfl dc (dl_old (by rfl) rfl) rfl rfl rfl ?_
    exact TX.quiet 1 hu hi rfl
   ·
    intro D hn hd hcl hu hi
    refine TO.load (k := 2) sc_67 rfl dc (dl_old (by rfl) rfl) rfl rfl ?_
    exact TX.quiet 2 hu hi rfl
   ·
    intro D hn hd hcl hu hi
    refine TO.move rfl dc (dl_old (by rfl) rfl) ?_
    exact TX.quiet 3 hu hi rfl
   ·
    intro D hn hd hcl hu hi
    refine TO.move rfl dc (dl_old (by rfl) rfl) ?_
    exact TX.quiet 4 hu hi rfl
   ·
    intro D hn hd hcl hu hi
    refine TO.loads (k := 4) (cs := [.int .i32 x1.1.e0, .int .i32 x1.1.e1]) rw_73 rfl dc (dl_old (by rfl) rfl) rfl rfl rfl ?_
    exact TX.quiet 5 hu hi rfl
   ·
    intro D hn hd hcl hu hi
    refine TO.load (k := 0) sc_66 rfl dc (dl_old (by rfl) rfl) rfl rfl ?_
    exact TX.quiet 0 hu hi rfl
   ·
    intro D hn hd hcl hu hi
    refine TO.loads (k := 4) (cs := [.int .i32 x1.1.e0, .int .i32 x1.1.e1]) rw_73 rfl dc (dl_old (by rfl) rfl) rfl rfl rfl ?_
    exact TX.quiet 1 hu hi rfl
   ·
    intro D hn hd hcl hu hi
    refine TO.load (k := 2) sc_67 rfl dc (dl_old (by rfl) rfl) rfl rfl ?_
    exact TX.quiet 2 hu hi rfl
   ·
    intro D hn hd hcl hu hi
    refine TO.move rfl dc (dl_old (by rfl) rfl) ?_
    exact TX.quiet 3 hu hi rfl
   ·
    intro D hn hd hcl hu hi
    refine TO.move rfl dc (dl_old (by rfl) rfl) ?_
    exact TX.quiet 4 hu hi rfl
   ·
    intro D hn hd hcl hu hi
    refine TO.loads (k := 4) (cs := [.int .i32 x1.1.e0, .int .i32 x1.1.e1]) rw_73 rfl dc (dl_old (by rfl) rfl) rfl rfl rfl ?_
    exact TX.quiet 5 hu hi rfl
   ·
    intro D hn hd hcl
    refine TO.mapUpdate (k := 1) (ek := (fun p : Gfold_pair => Value.agg #[.int .i32 p.e0, .int .i32 p.e1])) (ev' := (fun n : Int => Value.int .i32 n)) (kk := x1.1) (vv := x1.2) (KeyOk.arr2 (f0 := fun p : Gfold_pair => p.e0) (f1 := fun p : Gfold_pair => p.e1) (fun a b h1 h2 => by cases a; cases b; simp_all) Try.underlying73 Try.underlying21 sz_21) Try.underlying66 rfl (dl_lookup (m := 0) kr rfl (hd 0 dc)) (dl_lookup (m := 1) kr rfl (hd 1 dc)) (dl_lookup (m := 4) kr rfl (hd 4 dc)) rfl ?_
    exact fun a w ha hw => ⟨(), ha, hw⟩
   intro _b
   show TO _ _ _ _ _ _ _ _ _ _ [cells b7 [.map (some b5)] 66, mapA (fun p : Gfold_pair => Value.agg #[.int .i32 p.e0, .int .i32 p.e1]) (fun n : Int => Value.int .i32 n) b5 (putM x1.1 x1.2 join4), cells b8 [.map (some b6)] 67, mapA (fun n : Int => Value.int .i32 n) (fun p : Gfold_pair => Value.agg #[.int .i32 p.e0, .int .i32 p.e1]) b6 split4, cells jb1 [.int .i32 x1.1.e0, .int .i32 x1.1.e1] 73]
   refine TO.mapUpdate (k := 3) (ek := (fun n : Int => Value.int .i32 n)) (ev' := (fun p : Gfold_pair => Value.agg #[.int .i32 p.e0, .int .i32 p.e1])) (kk := x1.2) (vv := x1.1) (KeyOk.int Try.underlying21) Try.underlying67 rfl rfl rfl rfl rfl ?_
   refine TO.nil (TX.blockNormal ?_)
   exact TX.round (putM x1.1 x1.2 join4, putM x1.2 x1.1 split4) (fun post2 e2 => by have e9 := snoc_post hxs1 e2; subst e9; subst hag1; exact h) (Splits.of [0, 1, 2, 3] kr rfl)
  ·
   rintro dm1 ⟨join4, split4⟩ hinv
   have h : d1 join4 split4 = some r := hinv [] (List.append_nil _).symm
   rw [hd1] at h
   show TX _ _ _ _ _ _ _ [star ((([] : List Nat) : List Nat).map mark), emp, emp, emp, emp, cells b7 [.map (some b5)] 66, mapA (fun p : Gfold_pair => Value.agg #[.int .i32 p.e0, .int .i32 p.e1]) (fun n : Int => Value.int .i32 n) b5 join4, cells b8 [.map (some b6)] 67, mapA (fun n : Int => Value.int .i32 n) (fun p : Gfold_pair => Value.agg #[.int .i32 p.e0, .int .i32 p.e1]) b6 split4, mark dm1]
   refine TX.starCons (k := 9) (j := 0) rfl rfl dc ?_
   show TX _ _ _ _ _ _ _ [star ((dm1 :: ([] : List Nat) : List Nat).map mark), emp, emp, emp, emp, cells b7 [.map (some b5)] 66, mapA (fun p : Gfold_pair => Value.agg #[.int .i32 p.e0, .int .i32 p.e1]) (fun n : Int => Value.int .i32 n) b5 join4, cells b8 [.map (some b6)] 67, mapA (fun n : Int => Value.int .i32 n) (fun p : Gfold_pair => Value.agg #[.int .i32 p.e0, .int .i32 p.e1]) b6 split4, emp]
   refine TX.blockNormal ?_
   exact TX.meetD (join4, split4, b7, b5, b8, b6, dm1 :: ([] : List Nat)) h rfl (Sbs.cons rfl (Sbs.cons rfl (Sbs.nil))) (Splits.of [5, 6, 7, 8, 0] kr rfl)
  ·
   rintro dm1 c pre x1 post g hxs hX
   exact (show False from hX).elim
 ·
  rintro ⟨join1, split1, b1, b2, b3, b4, ds1⟩ h
  rw [hj1] at h
  show TC _ _ _ _ _ (marksOf ds1) _ _ [(2, .pointer (some ⟨b1, 0, none⟩)), (3, .pointer (some ⟨b3, 0, none⟩))] [cells b1 [.map (some b2)] 66, mapA (fun p : Gfold_pair => Value.agg #[.int .i32 p.e0, .int .i32 p.e1]) (fun n : Int => Value.int .i32 n) b2 join1, cells b3 [.map (some b4)] 67, mapA (fun n : Int => Value.int .i32 n) (fun p : Gfold_pair => Value.agg #[.int .i32 p.e0, .int .i32 p.e1]) b4 split1, star ((ds1 : List Nat).map mark)]
  refine TC.seq ?_
  refine TC.drawN 3 [(0, 16, .map (some b2)), (1, 17, .map (some b4)), (2, 0, .map (some b2))] mixed kr kr dc (by rfl) kr kr (DrawPre.cons ?_ (DrawPre.cons ?_ (DrawPre.cons ?_ DrawPre.nil))) ?_
  ·
   intro D hn hd hcl hu hi
   refine TO.load (k := 0) sc_66 rfl dc (dl_old (by rfl) rfl) rfl rfl ?_
   exact TX.quiet 0 hu hi rfl
  ·
   intro D hn hd hcl hu hi
   refine TO.load (k := 2) sc_67 rfl dc (dl_old (by rfl) rfl) rfl rfl ?_
   exact TX.quiet 1 hu hi rfl
  ·
   intro D hn hd hcl hu hi
   refine TO.assign rfl dc (dl_lookup (m := 0) hu rfl (hd 0 dc)) ?_
   exact TX.quiet 2 hu hi rfl
  refine TO.assign rfl dc rfl (TO.nil (TX.next (TC.ret ?_)))
  cases h
  exact TX.finM (rs := [.tmp 0, .tmp 1]) ds1 (b2, b4) (.inl rfl) (Splits.open0 (k := 4) rfl) Try.results40 (.cons (.tmp rfl) (.cons (.tmp rfl) .nil)) rfl (Splits.of [1, 3] kr rfl)
end Go.Proofs.Ytlamcpgnmeileaa
