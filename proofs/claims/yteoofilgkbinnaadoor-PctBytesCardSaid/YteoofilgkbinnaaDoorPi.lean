import Derived.Test.YteoofilgkbinnaaDoorPg
import Derived.Test.YteoofilgkbinnaaDoorPh
set_option linter.unusedVariables false
namespace Go.Proofs.YteoofilgkbinnaaDoor
open Go.RowKit Pc
set_option maxHeartbeats 2000000 in
theorem known7_walk (w : World) (hd : DigOk w) : Calls Tryd.prog 7 #[] w fun e w' => e = .returned (.bool true) ∧ Below w.heap.size w w' := by
  have k1 := Lib.hid (fun W hd => dec_walk ⟨#[97, 43, 98, 37, 50, 70]⟩ [97, 43, 98, 37, 50, 70] rfl true W hd (by decide))
  rw [show decV (decL true [97, 43, 98, 37, 50, 70]) = .tuple #[.string ⟨#[97, 32, 98, 47]⟩, .int .i64 0] by kernel_rfl] at k1
  have k2 := Lib.hid (fun W hd => dec_walk ⟨#[37, 54, 49]⟩ [37, 54, 49] rfl false W hd (by decide))
  rw [show decV (decL false [37, 54, 49]) = .tuple #[.string ⟨#[]⟩, .int .i64 3] by kernel_rfl] at k2
  have k3 := Lib.hid (fun W hd => enc_walk ⟨#[97, 32, 98, 47]⟩ [97, 32, 98, 47] rfl true W hd (by decide))
  rw [show (ByteArray.mk (encL true [97, 32, 98, 47]).toArray) = ⟨#[97, 43, 98, 37, 50, 70]⟩ by kernel_rfl] at k3
  have HD := Lib.hid hd
  clear hd
  have hb := Below.refl w.heap.size w
  go_enter Tryd.func7, Tryd.ntmps7
  go_wp2_with fail
  refine (k1.out _ (HD.out.below hb)).mono ?_
  rintro _ w1 ⟨rfl, hbn⟩
  replace hb := below_next hb hbn
  clear hbn
  go_wp2_with fail
  refine (k2.out _ (HD.out.below hb)).mono ?_
  rintro _ w1 ⟨rfl, hbn⟩
  replace hb := below_next hb hbn
  clear hbn
  go_wp2_with fail
  refine (k3.out _ (HD.out.below hb)).mono ?_
  rintro _ w1 ⟨rfl, hbn⟩
  replace hb := below_next hb hbn
  clear hbn
  go_wp2_with fail
  go_ret
  exact ⟨rfl, hb⟩
theorem encSize (form : Bool) (l : List UInt8) : (ByteArray.mk (encL form l).toArray).size ≤ 3 * l.length := by
  have := encL_le form l
  show (encL form l).toArray.size ≤ _
  rw [List.size_toArray]; exact this
set_option maxHeartbeats 4000000 in
theorem pctBack_walk (a b : ByteArray) (form : Bool) (w : World) (hd : DigOk w) (hma : a.size ≤ 9223372036854775807) (hmb : b.size ≤ 9223372036854775807) :
    Calls Tryd.prog 4 #[.string a, .string b, .bool form] w fun e w' => e = .returned (.bool true) ∧ Below w.heap.size w w' := by
  have HD := Lib.hid hd
  clear hd
  have hb := Below.refl w.heap.size w
  by_cases h1 : 300 < a.size
  · go_enter Tryd.func4, Tryd.ntmps4
    go_wp2_with fail
    refine (known7_walk _ (HD.out.below hb)).mono ?_
    rintro _ w1 ⟨rfl, hbn⟩
    replace hb := below_next hb hbn
    clear hbn
    go_wp2_with fail
    go_ret
    exact ⟨rfl, hb⟩
  by_cases h2 : 300 < b.size
  · go_enter Tryd.func4, Tryd.ntmps4
    go_wp2_with fail
    refine (known7_walk _ (HD.out.below hb)).mono ?_
    rintro _ w1 ⟨rfl, hbn⟩
    replace hb := below_next hb hbn
    clear hbn
    go_wp2_with fail
    go_ret
    exact ⟨rfl, hb⟩
  obtain ⟨la, hla⟩ : ∃ la, a.data.toList = la := ⟨_, rfl⟩
  obtain ⟨lb, hlb⟩ : ∃ lb, b.data.toList = lb := ⟨_, rfl⟩
  have sa : la.length = a.size := by rw [← hla, Lib.size_eq]
  have sb : lb.length = b.size := by rw [← hlb, Lib.size_eq]
  have hab : (a ++ b).data.toList = la ++ lb := by simp [hla, hlb]
  have ea1 := encSize form la
  have eb1 := encSize form lb
  have cA := Lib.hid (fun W hd => enc_walk a la hla form W hd (by omega))
  have cB := Lib.hid (fun W hd => enc_walk b lb hlb form W hd (by omega))
  have cAB := Lib.hid (fun W hd => enc_walk (a ++ b) (la ++ lb) hab form W hd (by simp; omega))
  have cDA := Lib.hid (fun W hd => dec_walk ⟨(encL form la).toArray⟩ (encL form la) (by simp) form W hd (by omega))
  have ejoin : ByteArray.mk (encL form (la ++ lb)).toArray = ByteArray.mk (encL form la).toArray ++ ByteArray.mk (encL form lb).toArray := by
    apply str_eq
    simp [encL_append]
  have cDB := Lib.hid (fun W hd => dec_walk (ByteArray.mk (encL form la).toArray ++ ByteArray.mk (encL form lb).toArray) (encL form (la ++ lb)) (by simp [encL_append]) form W hd (by simp; omega))
  rw [decL_back, show decV (some la) = .tuple #[.string a, .int .i64 0] by rw [decV, show ByteArray.mk la.toArray = a from str_eq (by simp [hla])]] at cDA
  rw [decL_back, show decV (some (la ++ lb)) = .tuple #[.string (a ++ b), .int .i64 0] by rw [decV, show ByteArray.mk (la ++ lb).toArray = a ++ b from str_eq (by simp [hla, hlb])]] at cDB
  rw [ejoin] at cAB
  obtain ⟨ea, hea⟩ : ∃ ea, ByteArray.mk (encL form la).toArray = ea := ⟨_, rfl⟩
  obtain ⟨eb, heb⟩ : ∃ eb, ByteArray.mk (encL form lb).toArray = eb := ⟨_, rfl⟩
  rw [hea] at cA cDA cAB cDB ea1
  rw [heb] at cB cAB cDB eb1
  have hea2 : ea.size ≤ 1000 := by omega
  have heb2 : eb.size ≤ 1000 := by omega
  clear hla hlb sa sb hab ejoin hea heb ea1 eb1
  go_enter Tryd.func4, Tryd.ntmps4
  go_wp2_with fail
  refine (known7_walk _ (HD.out.below hb)).mono ?_
  rintro _ w1 ⟨rfl, hbn⟩
  replace hb := below_next hb hbn
  clear hbn
  go_wp2_with fail
  refine (cA.out _ (HD.out.below hb)).mono ?_
  rintro _ w1 ⟨rfl, hbn⟩
  replace hb := below_next hb hbn
  clear hbn
  go_wp2_with fail
  refine (cDA.out _ (HD.out.below hb)).mono ?_
  rintro _ w1 ⟨rfl, hbn⟩
  replace hb := below_next hb hbn
  clear hbn
  go_wp2_with fail
  refine (cA.out _ (HD.out.below hb)).mono ?_
  rintro _ w1 ⟨rfl, hbn⟩
  replace hb := below_next hb hbn
  clear hbn
  go_wp2_with fail
  refine (cB.out _ (HD.out.below hb)).mono ?_
  rintro _ w1 ⟨rfl, hbn⟩
  replace hb := below_next hb hbn
  clear hbn
  go_wp2_with fail
  refine (cDB.out _ (HD.out.below hb)).mono ?_
  rintro _ w1 ⟨rfl, hbn⟩
  replace hb := below_next hb hbn
  clear hbn
  go_wp2_with fail
  refine (cAB.out _ (HD.out.below hb)).mono ?_
  rintro _ w1 ⟨rfl, hbn⟩
  replace hb := below_next hb hbn
  clear hbn
  go_wp2_with fail
  refine (cA.out _ (HD.out.below hb)).mono ?_
  rintro _ w1 ⟨rfl, hbn⟩
  replace hb := below_next hb hbn
  clear hbn
  go_wp2_with fail
  refine (cB.out _ (HD.out.below hb)).mono ?_
  rintro _ w1 ⟨rfl, hbn⟩
  replace hb := below_next hb hbn
  clear hbn
  go_wp2_with fail
  go_ret
  exact ⟨rfl, hb⟩
end Go.Proofs.YteoofilgkbinnaaDoor
